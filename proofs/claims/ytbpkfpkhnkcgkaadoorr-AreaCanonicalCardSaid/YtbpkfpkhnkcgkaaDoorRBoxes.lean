/- A row of rectangles of the call's own, and behind it three boxes of one rectangle each. No condition. -/
import Derived.Test.YtbpkfpkhnkcgkaaDoorROwnSet
namespace Go.Proofs.YtbpkfpkhnkcgkaaDoorR
open Go.RowKit

def R4.arr (x : R4) : Array Value := #[.int .i64 x.l, .int .i64 x.r, .int .i64 x.lo, .int .i64 x.hi]

theorem OwnR.form {w : World} {base : Nat} {v : Value} {xs : List R4} (h : OwnR w base v xs) (hx : xs ≠ []) : ∃ g cap, v = .slice (some ⟨g, 0, none⟩) xs.length cap ∧ base ≤ g ∧ g < w.heap.size ∧ xs.length ≤ cap ∧ cap ≤ maxLen ∧ (∃ cur, w.heap[g]? = some (.cells cur 36 (0, 0))) ∧
    ∀ k x, xs[k]? = some x → RAt w g (k * 4) x := by
  obtain ⟨a, cap', hv, h1, h2, h3⟩ := h.rs.opened
  rcases h.2 with ⟨_, h0⟩ | ⟨g, cap, cur, hv', hb, hg, hn, hm, hs, ht⟩
  · rw [List.length_map] at h0
    exact absurd (List.eq_nil_of_length_eq_zero h0) hx
  · rw [List.length_map] at hv' hn
    rw [hv'] at hv
    injection hv with e1 e2 e3
    subst e1 e3
    refine ⟨g, _, hv', hb, (Array.getElem?_eq_some_iff.1 hg).1, hn, hm, ⟨cur, hg⟩, fun k x hk => ?_⟩
    obtain ⟨b, off, he, _, hr⟩ := h3 k x hk
    cases he
    simpa using hr

theorem own_frozen {w : World} {base g n cap : Nat} {xs : List R4} (h : OwnR w base (.slice (some ⟨g, 0, none⟩) n cap) xs) (i : Nat) : w.frozen? ⟨g, i, none⟩ = false := by
  rcases h.2 with ⟨h3, _⟩ | ⟨g', cap', cur, hv, _, hg, _⟩
  · cases h3
  · cases hv
    simp [World.frozen?, hg]
theorem own_cells {w : World} {base g n cap : Nat} {xs : List R4} (h : OwnR w base (.slice (some ⟨g, 0, none⟩) n cap) xs) {k : Nat} {x : R4} (hk : xs[k]? = some x) : RAt w g (k * 4) x := by
  obtain ⟨a, cap', hv, _, _, h3⟩ := h.rs.opened
  obtain ⟨b, off, he, _, hr⟩ := h3 k x hk
  subst he
  injection hv with e1 e2 e3
  injection e1 with e1
  injection e1 with e1 e4
  subst e1 e4
  simpa using hr

structure Boxes (w0 W : World) (b g n cap : Nat) (xs : List R4) (r one two : R4) : Prop where
  own : OwnR W w0.heap.size (.slice (some ⟨g, 0, none⟩) n cap) xs
  hg : g < b
  hb : w0.heap.size ≤ b
  r : W.heap[b]? = some (.cells r.arr 36 (0, 0))
  one : W.heap[b + 1]? = some (.cells one.arr 36 (0, 0))
  two : W.heap[b + 1 + 1]? = some (.cells two.arr 36 (0, 0))
  below : Below w0.heap.size w0 W

theorem Boxes.start {w0 w : World} {g n cap : Nat} {xs : List R4} (r : R4) (hown : OwnR w w0.heap.size (.slice (some ⟨g, 0, none⟩) n cap) xs) (hg : g < w.heap.size) (hb : Below w0.heap.size w0 w) :
    Boxes w0 (((w.alloc (.cells r.arr 36)).alloc (.cells r.arr 36)).alloc (.cells r.arr 36)) w.heap.size g n cap xs r r r := by
  have h1 : (w.alloc (.cells r.arr 36)).heap.size = w.heap.size + 1 := by simp
  have h2 : ((w.alloc (.cells r.arr 36)).alloc (.cells r.arr 36)).heap.size = w.heap.size + 2 := by simp
  refine ⟨((hown.alloc _).alloc _).alloc _, hg, hb.size, ?_, ?_, ?_, ((hb.alloc hb.size _).alloc (by rw [h1]; have := hb.size; omega) _).alloc (by rw [h2]; have := hb.size; omega) _⟩
  · rw [Below.heap_alloc _ _ _ (by rw [h2]; omega), Below.heap_alloc _ _ _ (by rw [h1]; omega)]
    exact heap_alloc_new w _
  · rw [Below.heap_alloc _ _ _ (by rw [h2]; omega), ← h1]
    exact heap_alloc_new _ _
  · rw [← h2]
    exact heap_alloc_new _ _

section
variable {w0 W : World} {b g n cap : Nat} {xs : List R4} {r one two : R4}
theorem Boxes.drewN (h : Boxes w0 W b g n cap xs r one two) (q : Nat) : Boxes w0 (W.drewN q) b g n cap xs r one two := ⟨OwnE.drewN h.own q, h.hg, h.hb, h.r, h.one, h.two, below_drewN h.below q⟩
theorem own_other {i : Nat} {v : Value} {p : Addr} (hp : g ≠ p.block) (h : OwnR W i (.slice (some ⟨g, 0, none⟩) n cap) xs) : OwnR (W.setCell p v) i (.slice (some ⟨g, 0, none⟩) n cap) xs :=
  h.kept (row := some p.block) (grown_setCell (grown_refl _ _) p (.inl rfl) v) (.inr (by intro e; exact hp (by simpa [Value.ownBlock] using e)))
theorem Boxes.setOne (h : Boxes w0 W b g n cap xs r one two) (i : Nat) (v : Int) (one' : R4) (e : one.arr.setIfInBounds i (.int .i64 v) = one'.arr) : Boxes w0 (W.setCell ⟨b + 1, i, none⟩ (.int .i64 v)) b g n cap xs r one' two := by
  have := h.hg
  have := h.hb
  refine ⟨own_other (by simp only []; omega) h.own, h.hg, h.hb, ?_, ?_, ?_, h.below.setCell (by simp only []; omega) _⟩
  · rw [Below.heap_setCell _ _ _ _ (by simp only []; omega)]; exact h.r
  · rw [heap_setCell_same _ h.one, e]
  · rw [Below.heap_setCell _ _ _ _ (by simp only []; omega)]; exact h.two
theorem Boxes.setTwo (h : Boxes w0 W b g n cap xs r one two) (i : Nat) (v : Int) (two' : R4) (e : two.arr.setIfInBounds i (.int .i64 v) = two'.arr) : Boxes w0 (W.setCell ⟨b + 1 + 1, i, none⟩ (.int .i64 v)) b g n cap xs r one two' := by
  have := h.hg
  have := h.hb
  refine ⟨own_other (by simp only []; omega) h.own, h.hg, h.hb, ?_, ?_, ?_, h.below.setCell (by simp only []; omega) _⟩
  · rw [Below.heap_setCell _ _ _ _ (by simp only []; omega)]; exact h.r
  · rw [Below.heap_setCell _ _ _ _ (by simp only []; omega)]; exact h.one
  · rw [heap_setCell_same _ h.two, e]
theorem Boxes.put (h : Boxes w0 W b g n cap xs r one two) (k : Nat) (hk : k < xs.length) (q : R4) :
    Boxes w0 ((((W.setCell ⟨g, k * 4, none⟩ (.int .i64 q.l)).setCell ⟨g, k * 4 + 1, none⟩ (.int .i64 q.r)).setCell ⟨g, k * 4 + 2, none⟩ (.int .i64 q.lo)).setCell ⟨g, k * 4 + 3, none⟩ (.int .i64 q.hi)) b g n cap (xs.set k q) r one two := by
  have h1 := h.hg
  have h2 := h.hb
  have hbg : w0.heap.size ≤ g := by
    rcases h.own.2 with ⟨h3, _⟩ | ⟨g', cap', cur, hv, hb, _⟩
    · cases h3
    · cases hv; exact hb
  have keep : ∀ j, g ≠ j → ((((W.setCell ⟨g, k * 4, none⟩ (.int .i64 q.l)).setCell ⟨g, k * 4 + 1, none⟩ (.int .i64 q.r)).setCell ⟨g, k * 4 + 2, none⟩ (.int .i64 q.lo)).setCell ⟨g, k * 4 + 3, none⟩ (.int .i64 q.hi)).heap[j]? = W.heap[j]? := by
    intro j hj
    rw [Below.heap_setCell _ _ _ _ (by simp only []; omega), Below.heap_setCell _ _ _ _ (by simp only []; omega), Below.heap_setCell _ _ _ _ (by simp only []; omega), Below.heap_setCell _ _ _ _ (by simp only []; omega)]
  refine ⟨h.own.set k hk q.l q.r q.lo q.hi, h.hg, h.hb, ?_, ?_, ?_, (((h.below.setCell hbg _).setCell hbg _).setCell hbg _).setCell hbg _⟩
  · rw [keep _ (by omega)]; exact h.r
  · rw [keep _ (by omega)]; exact h.one
  · rw [keep _ (by omega)]; exact h.two
theorem box_cells {j : Nat} {q : R4} (h : W.heap[j]? = some (.cells q.arr 36 (0, 0))) : W.cell? ⟨j, 0, none⟩ = some (.int .i64 q.l) ∧ W.cell? ⟨j, 1, none⟩ = some (.int .i64 q.r) ∧ W.cell? ⟨j, 2, none⟩ = some (.int .i64 q.lo) ∧ W.cell? ⟨j, 3, none⟩ = some (.int .i64 q.hi) ∧ ∀ i, W.frozen? ⟨j, i, none⟩ = false := by
  refine ⟨cell_of_row W j 0 _ _ _ h, cell_of_row W j 1 _ _ _ h, cell_of_row W j 2 _ _ _ h, cell_of_row W j 3 _ _ _ h, fun i => ?_⟩
  simp [World.frozen?, h]
end
end Go.Proofs.YtbpkfpkhnkcgkaaDoorR
