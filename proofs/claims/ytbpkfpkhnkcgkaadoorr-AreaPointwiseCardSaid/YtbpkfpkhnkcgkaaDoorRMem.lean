/- Slices in memory as lists: what a slice value reads as in a world, that it stays so while only newer memory is written, and how an owned row reads as such a list. No condition. -/
import Derived.WalkKit
import Derived.WalkSpells
import Derived.WalkLawsBesides
namespace Go.Proofs.YtbpkfpkhnkcgkaaDoorR
open Go.RowKit

/-- A rectangle. -/
structure R4 where
  l : Int
  r : Int
  lo : Int
  hi : Int
deriving DecidableEq

def R4.cells (x : R4) : List Value := [.int .i64 x.l, .int .i64 x.r, .int .i64 x.lo, .int .i64 x.hi]

/-- A slice value that reads as a list of elements, each of so many cells. -/
def SliceAt (w : World) (v : Value) (size : Nat) (cs : List (List Value)) : Prop :=
  ∃ a cap, v = .slice a cs.length cap ∧ cs.length ≤ cap ∧ cap ≤ maxLen ∧ (cs = [] ∨ ∃ b off, a = some ⟨b, off, none⟩ ∧ b < w.heap.size ∧
    ∀ i c, cs[i]? = some c → ∀ j u, c[j]? = some u → w.cell? ⟨b, off + i * size + j, none⟩ = some u)

theorem SliceAt.nil (w : World) (size : Nat) : SliceAt w (.slice none 0 0) size [] :=
  ⟨none, 0, rfl, Nat.le_refl _, Nat.zero_le _, .inl rfl⟩

theorem SliceAt.keep {w w' : World} {v : Value} {size : Nat} {cs : List (List Value)} (h : SliceAt w v size cs)
    (hk : ∀ b o, b < w.heap.size → w'.cell? ⟨b, o, none⟩ = w.cell? ⟨b, o, none⟩) (hs : w.heap.size ≤ w'.heap.size) : SliceAt w' v size cs := by
  obtain ⟨a, cap, hv, h1, h2, h3⟩ := h
  refine ⟨a, cap, hv, h1, h2, ?_⟩
  rcases h3 with h3 | ⟨b, off, ha, hb, hc⟩
  · exact .inl h3
  · refine .inr ⟨b, off, ha, Nat.lt_of_lt_of_le hb hs, fun i c hi j u hj => ?_⟩
    rw [hk _ _ hb]
    exact hc i c hi j u hj

theorem SliceAt.below {w w' : World} {v : Value} {size : Nat} {cs : List (List Value)} (h : SliceAt w v size cs) (hb : Below w.heap.size w w') : SliceAt w' v size cs :=
  h.keep (fun b o hlt => hb.cell (p := ⟨b, o, none⟩) hlt) hb.size

theorem SliceAt.belowB {B : Nat} {w w' : World} {v : Value} {size : Nat} {cs : List (List Value)} (h : SliceAt w v size cs) (hB : w.heap.size ≤ B) (hb : Below B w w') : SliceAt w' v size cs :=
  h.below (hb.mono hB)

theorem SliceAt.drewN {w : World} {v : Value} {size : Nat} {cs : List (List Value)} (h : SliceAt w v size cs) (n : Nat) : SliceAt (w.drewN n) v size cs :=
  h.keep (fun _ _ _ => rfl) (Nat.le_refl _)

/-- An owned row of elements reads as the list. -/
theorem SliceAt.of_owns {w : World} {base size : Nat} {e : TypeId} {v : Value} {cs : List (List Value)} (h : w.ownsRow base e size v cs.length cs.flatten)
    (hs : ∀ c ∈ cs, c.length = size) : SliceAt w v size cs := by
  obtain ⟨hl, h2⟩ := h
  rcases h2 with ⟨rfl, hn⟩ | ⟨g, cap, cur, rfl, hb, hg, hnc, hcm, hcs, htake⟩
  · obtain rfl : cs = [] := List.eq_nil_of_length_eq_zero hn
    exact SliceAt.nil w size
  · refine ⟨_, cap, rfl, hnc, hcm, .inr ⟨g, 0, rfl, (Array.getElem?_eq_some_iff.1 hg).1, ?_⟩⟩
    intro i c hi j u hj
    have key : ∀ (ds : List (List Value)), (∀ c ∈ ds, c.length = size) → ∀ i c, ds[i]? = some c → ∀ j u, c[j]? = some u → ds.flatten[i * size + j]? = some u := by
      intro ds
      induction ds with
      | nil => intro _ i c hi; simp at hi
      | cons d ds ih =>
        intro hds i c hi j u hj
        cases i with
        | zero =>
          simp at hi; subst hi
          have hlt : j < d.length := by
            rcases Nat.lt_or_ge j d.length with h | h
            · exact h
            · rw [List.getElem?_eq_none h] at hj; cases hj
          simp only [List.flatten_cons, Nat.zero_mul, Nat.zero_add]
          rw [List.getElem?_append_left hlt]; exact hj
        | succ i =>
          simp at hi
          have hd : d.length = size := hds d (by simp)
          have := ih (fun c hc => hds c (by simp [hc])) i c hi j u hj
          simp only [List.flatten_cons]
          rw [List.getElem?_append_right (by rw [hd, Nat.succ_mul]; omega)]
          rw [← this]
          congr 1
          rw [hd, Nat.succ_mul]; omega
    have h1 := key cs hs i c hi j u hj
    rw [cell_of_row w g _ cur e (0, 0) hg]
    rw [← htake, List.getElem?_take] at h1
    split at h1
    · simpa using h1
    · cases h1

theorem SliceAt.cut {w : World} {a : Option Addr} {n cap size : Nat} {cs : List (List Value)} (h : SliceAt w (.slice a n cap) size cs) (k : Nat) (hk : k ≤ n) : SliceAt w (.slice a k cap) size (cs.take k) := by
  obtain ⟨a', cap', hv, h1, h2, h3⟩ := h
  injection hv with e1 e2 e3
  subst e1 e2 e3
  have hl : (cs.take k).length = k := by rw [List.length_take]; omega
  refine ⟨a, cap, by rw [hl], by omega, h2, ?_⟩
  rcases h3 with h3 | ⟨b, off, ha, hb, hc⟩
  · exact .inl (by simp [h3])
  · refine .inr ⟨b, off, ha, hb, fun i c hi => hc i c ?_⟩
    rw [List.getElem?_take] at hi
    split at hi
    · exact hi
    · cases hi

/-- A slice of rectangles. -/
def RS (w : World) (v : Value) (xs : List R4) : Prop := SliceAt w v 4 (xs.map R4.cells)

/-- The cells of one rectangle. -/
def RAt (w : World) (b o : Nat) (x : R4) : Prop :=
  w.cell? ⟨b, o, none⟩ = some (.int .i64 x.l) ∧ w.cell? ⟨b, o + 1, none⟩ = some (.int .i64 x.r) ∧ w.cell? ⟨b, o + 2, none⟩ = some (.int .i64 x.lo) ∧ w.cell? ⟨b, o + 3, none⟩ = some (.int .i64 x.hi)

theorem RS.opened {w : World} {v : Value} {xs : List R4} (h : RS w v xs) : ∃ a cap, v = .slice a xs.length cap ∧ xs.length ≤ cap ∧ cap ≤ maxLen ∧
    ∀ k x, xs[k]? = some x → ∃ b off, a = some ⟨b, off, none⟩ ∧ b < w.heap.size ∧ RAt w b (off + k * 4) x := by
  obtain ⟨a, cap, hv, h1, h2, h3⟩ := h
  rw [List.length_map] at hv h1
  refine ⟨a, cap, hv, h1, h2, fun k x hx => ?_⟩
  rcases h3 with h3 | ⟨b, off, ha, hb, hc⟩
  · simp at h3; subst h3; simp at hx
  · refine ⟨b, off, ha, hb, ?_⟩
    have hk : (xs.map R4.cells)[k]? = some x.cells := by rw [List.getElem?_map, hx]; rfl
    exact ⟨hc k _ hk 0 _ rfl, hc k _ hk 1 _ rfl, hc k _ hk 2 _ rfl, hc k _ hk 3 _ rfl⟩

theorem RS.nil (w : World) : RS w (.slice none 0 0) [] := SliceAt.nil w 4
theorem RS.below {w w' : World} {v : Value} {xs : List R4} (h : RS w v xs) (hb : Below w.heap.size w w') : RS w' v xs := SliceAt.below h hb
theorem RS.drewN {w : World} {v : Value} {xs : List R4} (h : RS w v xs) (n : Nat) : RS (w.drewN n) v xs := SliceAt.drewN h n
theorem RS.keep {w w' : World} {v : Value} {xs : List R4} (h : RS w v xs)
    (hk : ∀ b o, b < w.heap.size → w'.cell? ⟨b, o, none⟩ = w.cell? ⟨b, o, none⟩) (hs : w.heap.size ≤ w'.heap.size) : RS w' v xs := SliceAt.keep h hk hs

theorem owns_any {w w' : World} {base size n : Nat} {e : TypeId} {v : Value} {xs : List Value} (h : w.ownsRow base e size v n xs) (hg : w.grownBy w' none) : w'.ownsRow base e size v n xs :=
  h.kept hg (by cases v.ownBlock with
    | none => exact .inl rfl
    | some b => exact .inr (by simp))

theorem own_ne {w : World} {base size n : Nat} {e : TypeId} {v : Value} {xs : List Value} (h : w.ownsRow base e size v n xs) {k : Nat} {o : Obj} (hk : w.heap[k]? = some o) (hne : ∀ c, o ≠ .cells c e (0, 0)) : some k ≠ v.ownBlock := by
  rcases h.2 with ⟨rfl, _⟩ | ⟨g, cap, cur, rfl, _, hg, _⟩
  · simp [Value.ownBlock]
  · intro eq
    have : k = g := by simpa [Value.ownBlock] using eq
    subst this
    rw [hk] at hg
    cases hg
    exact hne _ rfl

theorem owns_slice {w : World} {base size n : Nat} {e : TypeId} {v : Value} {xs : List Value} (h : w.ownsRow base e size v n xs) : ∃ a k c, v = .slice a k c := by
  rcases h.2 with ⟨rfl, _⟩ | ⟨g, cap, cur, rfl, _⟩
  · exact ⟨_, _, _, rfl⟩
  · exact ⟨_, _, _, rfl⟩

/-- The cells of a list of rectangles. -/
def rcells (xs : List R4) : List Value := (xs.map R4.cells).flatten
theorem rcells_snoc (xs : List R4) (x : R4) : rcells (xs ++ [x]) = rcells xs ++ [.int .i64 x.l, .int .i64 x.r, .int .i64 x.lo, .int .i64 x.hi] := by simp [rcells, R4.cells]
theorem RS.of_owns {w : World} {base : Nat} {e : TypeId} {v : Value} {xs : List R4} (h : w.ownsRow base e 4 v xs.length (rcells xs)) : RS w v xs := by
  refine SliceAt.of_owns (base := base) (e := e) (by rw [List.length_map]; exact h) ?_
  intro c hc
  simp at hc
  obtain ⟨x, _, rfl⟩ := hc
  rfl

/-- A block of one rectangle reads as the list of it. -/
theorem RS.one {w : World} {b n : Nat} {e : TypeId} {fz : Nat × Nat} {x : R4} (h : w.heap[b]? = some (.cells x.cells.toArray e fz)) (hn : n = 1) : RS w (.slice (some ⟨b, 0, none⟩) n 1) [x] := by
  subst hn
  refine ⟨_, 1, rfl, Nat.le_refl _, by decide, .inr ⟨b, 0, rfl, (Array.getElem?_eq_some_iff.1 h).1, ?_⟩⟩
  intro i c hi j u hj
  cases i with
  | zero =>
    simp at hi; subst hi
    rw [cell_of_row w b _ _ e fz h]
    simpa using hj
  | succ i => simp at hi

/-- What is kept when only memory from B on is written. -/
theorem bcell {B : Nat} {W w1 : World} (hb : Below B W w1) : (∀ b o, b < B → w1.cell? ⟨b, o, none⟩ = W.cell? ⟨b, o, none⟩) ∧ (∀ b o, b < B → w1.frozen? ⟨b, o, none⟩ = W.frozen? ⟨b, o, none⟩) :=
  ⟨fun b o h => hb.cell (p := ⟨b, o, none⟩) h, fun b o h => hb.frozen (p := ⟨b, o, none⟩) h⟩

theorem below_drewN {B : Nat} {a w : World} (h : Below B a w) (n : Nat) : Below B a (w.drewN n) := ⟨h.os, h.tape, h.output, h.size, h.block⟩

/-! ### One block is written, all else that was there stays: 'grownBy' -/
theorem grown_refl (w : World) (r : Option Nat) : w.grownBy w r := ⟨rfl, rfl, rfl, Nat.le_refl _, fun _ _ _ => rfl⟩
theorem grown_trans {a b c : World} {r : Option Nat} (h : a.grownBy b r) (k : b.grownBy c r) : a.grownBy c r :=
  ⟨k.os.trans h.os, k.tape.trans h.tape, k.output.trans h.output, Nat.le_trans h.size k.size, fun i hi hr => (k.block i (Nat.lt_of_lt_of_le hi h.size) hr).trans (h.block i hi hr)⟩
theorem grown_alloc {a w : World} {r : Option Nat} (h : a.grownBy w r) (o : Obj) : a.grownBy (w.alloc o) r := grown_trans h (World.grownBy_alloc w o r)
theorem grown_drewN {a w : World} {r : Option Nat} (h : a.grownBy w r) (n : Nat) : a.grownBy (w.drewN n) r := ⟨h.os, h.tape, h.output, h.size, h.block⟩
theorem grown_setCell {a w : World} {r : Option Nat} (h : a.grownBy w r) (p : Addr) (hp : r = some p.block ∨ a.heap.size ≤ p.block) (v : Value) : a.grownBy (w.setCell p v) r := by
  refine ⟨h.os, h.tape, h.output, by simpa [World.setCell] using h.size, fun i hi hr => ?_⟩
  have hne : i ≠ p.block := by
    rcases hp with hp | hp
    · intro e; exact hr (by rw [hp, e])
    · omega
  rw [Below.heap_setCell _ _ _ _ hne]
  exact h.block i hi hr
theorem grown_below {a b w : World} {r : Option Nat} (h : a.grownBy b r) (k : Below b.heap.size b w) : a.grownBy w r :=
  ⟨k.os.trans h.os, k.tape.trans h.tape, k.output.trans h.output, Nat.le_trans h.size k.size, fun i hi hr => (k.block i (Nat.lt_of_lt_of_le hi h.size)).trans (h.block i hi hr)⟩
theorem heap_setCell_same {w : World} {b i : Nat} {c : Array Value} {e : TypeId} {fz : Nat × Nat} (v : Value) (h : w.heap[b]? = some (.cells c e fz)) :
    (w.setCell ⟨b, i, none⟩ v).heap[b]? = some (.cells (c.setIfInBounds i v) e fz) := by
  simp [World.setCell, Array.getElem?_modify, h]
theorem cell_keepB {B : Nat} {w w' : World} (h : Below B w w') {b o : Nat} {v : Value} (hb : b < B) (hc : w.cell? ⟨b, o, none⟩ = some v) : w'.cell? ⟨b, o, none⟩ = some v := (h.cell (p := ⟨b, o, none⟩) hb).trans hc
theorem cell_keepG {w w' : World} {r : Option Nat} (h : w.grownBy w' r) {b o : Nat} {v : Value} (hb : some b ≠ r) (hc : w.cell? ⟨b, o, none⟩ = some v) : w'.cell? ⟨b, o, none⟩ = some v := h.cell hc hb

end Go.Proofs.YtbpkfpkhnkcgkaaDoorR
