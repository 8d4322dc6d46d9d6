/- The plain theory for AreaPointwise: which places the union, the common places, the rest and the grown area have. No program, no condition. -/
import Derived.Test.YtbpkfpkhnkcgkaaDoorRWB1
import Derived.Test.YtbpkfpkhnkcgkaaDoorRPA4
namespace Go.Proofs.YtbpkfpkhnkcgkaaDoorR

theorem hasA_on {xs : List R4} {p : Nat → Nat → Bool} (h : IsArea xs p) (x y : Int) : hasA xs x y = (onMap x y && p y.toNat x.toNat) := has_ok h x y
theorem near_on (A : List R4) (hv : ∀ q ∈ A, vrect q = true) (d : Nat) (x y : Int) (h : onMap x y = true) : A.any (nearR x y (d : Nat)) = dil d (pl A) y.toNat x.toNat := by
  unfold onMap at h
  rw [decide_eq_true_eq] at h
  obtain ⟨h1, h2, h3, h4⟩ := h
  rw [← near_dil A hv d x.toNat y.toNat (by omega) (by omega)]
  congr 2 <;> omega
theorem lt_on {x y : Int} (h : onMap x y = true) : y.toNat < 64 ∧ x.toNat < 64 := by
  unfold onMap at h
  rw [decide_eq_true_eq] at h
  omega

/-- Which places the results have. -/
structure Points (A B U I M W : List R4) (d : Int) : Prop where
  u : ∀ x y : Int, hasA U x y = ((hasA A x y || hasA B x y) && onMap x y)
  i : ∀ x y : Int, hasA I x y = ((hasA A x y && hasA B x y) && onMap x y)
  m : ∀ x y : Int, hasA M x y = ((hasA A x y && !hasA B x y) && onMap x y)
  w : ∀ x y : Int, hasA W x y = (A.any (nearR x y d) && onMap x y)
  a : ∀ x y : Int, hasA A x y = (A.any (nearR x y 0) && onMap x y)

theorem point_facts {A B U I M W : List R4} {p q : Nat → Nat → Bool} (d : Nat) (hA : IsArea A p) (hB : IsArea B q) (hU : IsArea U fun y x => p y x || q y x) (hI : IsArea I fun y x => p y x && q y x) (hM : IsArea M fun y x => p y x && !q y x) (hW : IsArea W (dil d p)) :
    Points A B U I M W (d : Nat) := by
  have hs : SameP (pl A) p := fun y x hy hx => hA.pl y x hy hx
  refine ⟨fun x y => ?_, fun x y => ?_, fun x y => ?_, fun x y => ?_, fun x y => ?_⟩
  · rw [hasA_on hU, hasA_on hA, hasA_on hB]
    cases onMap x y <;> simp
  · rw [hasA_on hI, hasA_on hA, hasA_on hB]
    cases onMap x y <;> simp
  · rw [hasA_on hM, hasA_on hA, hasA_on hB]
    cases onMap x y <;> simp
  · rw [hasA_on hW]
    cases h : onMap x y
    · simp
    · rw [near_on A hA.valid d x y h, dil_congr hs]; simp
  · rw [hasA_on hA]
    cases h : onMap x y
    · simp
    · have h1 := near_on A hA.valid 0 x y h
      have h2 := dil_zero (pl A) y.toNat x.toNat (lt_on h).1 (lt_on h).2
      rw [hs _ _ (lt_on h).1 (lt_on h).2] at h2
      have h3 : A.any (nearR x y 0) = p y.toNat x.toNat := h1.trans h2
      rw [h3]; simp

/-- What the law asks for. -/
theorem point_all {A B : List R4} {p q : Nat → Nat → Bool} (aA : Ar A p 3) (aB : Ar B q 3) (d : Nat) (hd : d < 6) : ∃ U I M W,
    unionS A B = (U, 0) ∧ commonS A B = (I, 0) ∧ minusS A B = (M, 0) ∧ growS A (d : Nat) = (W, 0) ∧ (openS U).2 = true ∧ (openS I).2 = true ∧ (openS M).2 = true ∧ (openS W).2 = true ∧ Points A B U I M W (d : Nat) ∧ (∀ q ∈ A, vrect q = true) ∧ (∀ q ∈ B, vrect q = true) ∧ A.length ≤ 100 ∧ B.length ≤ 100 := by
  obtain ⟨U, e1, a1⟩ := aA.union aB (by omega)
  obtain ⟨I, e2, a2⟩ := aA.common aB (by omega)
  obtain ⟨M, e3, a3⟩ := aA.minus aB (by omega)
  obtain ⟨W, e4, a4⟩ := grow_is aA.is d (by omega) (fun _ _ _ _ => rfl) (aA.few.dil100 (by omega) d)
  exact ⟨U, I, M, W, e1, e2, e3, e4, (area_open a1.is).1, (area_open a2.is).1, (area_open a3.is).1, (area_open a4).1, point_facts d aA.is aB.is a1.is a2.is a3.is a4, aA.is.valid, aB.is.valid, aA.is.2, aB.is.2⟩
end Go.Proofs.YtbpkfpkhnkcgkaaDoorR
