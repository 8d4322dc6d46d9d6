/- Lists of parts in a row. The conditions: what the row holds. -/
import Derived.Test.YtinfpbkbnhcifaaGreatDoorP12
namespace Go.Proofs.YtinfpbkbnhcifaaGreatDoor
open Go.RowKit Go.BigFrame

def LsAt (W : World) (lb lo n : Nat) : Prop := ∀ j : Nat, j < n → ∃ (a : Option Addr) (m c : Nat) (zs : List (PartP × Value)), FitP zs ∧ m = zs.length ∧ (∀ W', Below W.heap.size W W' → W'.cell? ⟨lb, lo + j, none⟩ = some (.slice a m c)) ∧ PS W (.slice a m c) zs
def OneList (W : World) (v : Value) : Prop := ∃ (a : Option Addr) (m c : Nat) (zs : List (PartP × Value)), v = .slice a m c ∧ FitP zs ∧ m = zs.length ∧ PS W (.slice a m c) zs
theorem OneList.mk {W : World} {v : Value} {zs : List (PartP × Value)} (h : PS W v zs) (hf : FitP zs) : OneList W v := by
  obtain ⟨a, c, rfl, _⟩ := h.opened
  exact ⟨a, _, c, zs, rfl, hf, rfl, h⟩
theorem lists_slice {W : World} {a : Option Addr} {n c : Nat} {vs : List Value} (h : SliceAt W (.slice a n c) 1 (vs.map fun v => [v])) (h0 : 0 < n) (hv : ∀ v ∈ vs, OneList W v) : ∃ b off, a = some ⟨b, off, none⟩ ∧ LsAt W b off n := by
  obtain ⟨a', c', e1, _, _, h3⟩ := h
  injection e1 with e1 e2 e3
  subst e1
  rw [List.length_map] at e2
  rcases h3 with h3 | ⟨b, off, ha, hb, hc⟩
  · exfalso
    rw [List.map_eq_nil_iff] at h3
    rw [h3] at e2
    rw [e2] at h0
    exact Nat.lt_irrefl 0 h0
  · refine ⟨b, off, ha, fun j hj => ?_⟩
    obtain ⟨v, ev⟩ : ∃ v, vs[j]? = some v := ⟨_, List.getElem?_eq_getElem (by omega)⟩
    obtain ⟨la, m, lc, zs, rfl, hf, hm, hp⟩ := hv v (List.mem_of_getElem? ev)
    refine ⟨la, m, lc, zs, hf, hm, fun W' hW => ?_, hp⟩
    have h1 := hc j [.slice la m lc] (by rw [List.getElem?_map, ev]; rfl) 0 _ rfl
    rw [Nat.mul_one, Nat.add_zero] at h1
    exact cell_keepB hW hb h1
theorem lists_two {W : World} {lb : Nat} {v : Value} (hb : W.heap[lb]? = some (.cells #[v, .slice none 0 0] 30 (0, 0))) (hv : OneList W v) : LsAt W lb 0 2 := by
  have hs : SliceAt W (.slice (some ⟨lb, 0, none⟩) 2 2) 1 (([v, .slice none 0 0] : List Value).map fun v => [v]) := slice_lit hb (fun c hc => by simp at hc; rcases hc with rfl | rfl <;> rfl) rfl (by simp)
  obtain ⟨b, off, e, h⟩ := lists_slice hs (by decide) (fun u hu => by
    simp at hu
    rcases hu with rfl | rfl
    · exact hv
    · exact OneList.mk (PS.nil W) ⟨by simp, fun z hz => absurd hz List.not_mem_nil⟩)
  injection e with e
  injection e with e1 e2
  subst e1 e2
  exact h
theorem OwnE.two {W : World} {b base : Nat} {v1 v2 : Value} (h : W.heap[b]? = some (.cells #[v1, v2] 30 (0, 0))) (hb : base ≤ b) : OwnE W base 30 1 (.slice (some ⟨b, 0, none⟩) 2 2) [[v1], [v2]] :=
  ⟨rfl, .inr ⟨b, 2, #[v1, v2], rfl, hb, h, Nat.le_refl _, by decide, rfl, rfl⟩⟩
theorem PS.one {w : World} {b : Nat} {z : PartP × Value} {fz : Nat × Nat} (h : w.heap[b]? = some (.cells #[.int .i64 z.1.head.car, .int .i64 z.1.head.siz, .string z.1.head.root, .string z.1.head.sl, z.2] 38 fz)) (hp : IT w z.2 z.1.items) : PS w (.slice (some ⟨b, 0, none⟩) 1 1) [z] :=
  ⟨slice_lit (cs := ptcells [z]) h (fun c hc => by simp [ptcells] at hc; subst hc; rfl) rfl (by simp [ptcells]), fun y hy => by rw [List.mem_singleton.1 hy]; exact hp⟩
theorem lists_five {W : World} {base : Nat} {v v0 v1 v2 v3 v4 : Value} (ho : OwnE W base 30 1 v ([[v0], [v1]] ++ [[v2], [v3], [v4]])) (h0 : OneList W v0) (h1 : OneList W v1) (h2 : OneList W v2) (h3 : OneList W v3) (h4 : OneList W v4) : ∃ b off c, v = .slice (some ⟨b, off, none⟩) 5 c ∧ LsAt W b off 5 := by
  have hs : SliceAt W v 1 (([v0, v1, v2, v3, v4] : List Value).map fun v => [v]) := OwnE.slice ho (fun c hc => by simp at hc; rcases hc with rfl | rfl | rfl | rfl | rfl <;> rfl)
  obtain ⟨a, c, hv⟩ := OwnE.form ho
  replace hv : v = .slice a 5 c := hv
  subst hv
  obtain ⟨b, off, rfl, h⟩ := lists_slice hs (by decide) (fun u hu => by
    simp at hu
    rcases hu with rfl | rfl | rfl | rfl | rfl <;> assumption)
  exact ⟨b, off, c, rfl, h⟩
theorem PS.oneCell {w : World} {v : Value} {zs : List (PartP × Value)} (h : PS w v zs) : v.oneCell' = true := by
  obtain ⟨a, c, rfl, _⟩ := h.opened
  rfl
theorem lit3 {w : World} {b : Nat} {v1 v2 v3 : Value} (h : w.heap[b]? = some (.cells #[v1, v2, v3] 30 (0, 0))) : SliceAt w (.slice (some ⟨b, 0, none⟩) 3 3) 1 [[v1], [v2], [v3]] :=
  slice_lit h (fun c hc => by simp at hc; rcases hc with rfl | rfl | rfl <;> rfl) rfl (by simp)
theorem Keeps.zero {base b : Nat} {N : List Ann} {w w' : World} {T : TypeId} (hz : w.heap[b]? = some (.cells #[] T (0, 0))) (hg : w.grownBy w' (some b)) (hN : ∀ x ∈ N, x.2.1 ≠ .cells #[] T (0, 0)) : Keeps base N w w' := fun x hx i _ h => by
  refine (hg.block i (Array.getElem?_eq_some_iff.1 h).1 (fun e => ?_)).trans h
  injection e with e
  subst e
  rw [hz] at h
  injection h with h
  exact hN x hx h.symm
theorem IT.ownL {W W' : World} {base : Nat} {v iv : Value} {css : List (List Value)} {its : List ItemP} (h : IT W iv its) (ho : OwnE W base 30 1 v css) (hg : W.grownBy W' v.ownBlock) : IT W' iv its := by
  rcases ho.2 with ⟨rfl, _⟩ | ⟨g, cap, cur, rfl, _, hgg, _⟩
  · exact h.below ⟨hg.os, hg.tape, hg.output, hg.size, fun i hi => hg.block i hi (by simp [Value.ownBlock])⟩
  · exact IT.grownT h hgg (by decide) (by decide) hg
end Go.Proofs.YtinfpbkbnhcifaaGreatDoor
