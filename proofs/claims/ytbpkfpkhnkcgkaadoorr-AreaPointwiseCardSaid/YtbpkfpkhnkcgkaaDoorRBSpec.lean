/- What rects computes, in plain Lean: the intervals of the rows that do not stand in the row below, with their heights. No condition. -/
import Derived.Test.YtbpkfpkhnkcgkaaDoorRASpec
import Derived.Test.YtbpkfpkhnkcgkaaDoorRWA6
namespace Go.Proofs.YtbpkfpkhnkcgkaaDoorR

/-- l .. r is an interval of the row. -/
def isIv (row : Nat → Bool) (l r : Nat) : Bool := (List.range 64).all fun x => if l ≤ x ∧ x < r then row x else if x = r ∨ x + 1 = l then !row x else true

theorem isIv_iff (row : Nat → Bool) (l r : Nat) (h : l < r) (h2 : r ≤ 64) : isIv row l r = true ↔ (∀ x, l ≤ x → x < r → row x = true) ∧ (r = 64 ∨ row r = false) ∧ (l = 0 ∨ row (l - 1) = false) := by
  unfold isIv
  rw [List.all_eq_true]
  simp only [List.mem_range]
  constructor
  · intro hx
    refine ⟨fun x h3 h4 => ?_, ?_, ?_⟩
    · have := hx x (by omega); simpa [h3, h4] using this
    · by_cases e : r = 64
      · exact .inl e
      · have := hx r (by omega); right; simpa using this
    · by_cases e : l = 0
      · exact .inl e
      · have := hx (l - 1) (by omega)
        right
        have h5 : ¬ l ≤ l - 1 := by omega
        have h6 : l - 1 + 1 = l := by omega
        simpa [h5, h6] using this
  · rintro ⟨h3, h4, h5⟩ x hx
    split
    · rename_i h6; exact h3 x h6.1 h6.2
    · split
      · rename_i h6 h7
        rcases h7 with rfl | rfl
        · rcases h4 with h4 | h4
          · omega
          · simp [h4]
        · rcases h5 with h5 | h5
          · omega
          · simp at h5; simp [h5]
      · rfl

theorem testBit_or3 (l r x : Nat) (h : l < r) (h2 : r ≤ 64) :
    ((rowS l r ||| (rowS l r * 2 % 18446744073709551616)) ||| (rowS l r / 2)).testBit x = (decide (l ≤ x + 1) && decide (x ≤ r) && decide (x < 64)) := by
  have e1 : (rowS l r * 2 % 18446744073709551616).testBit x = (decide (x < 64) && (decide (1 ≤ x) && (rowS l r).testBit (x - 1))) := by
    rw [show (18446744073709551616 : Nat) = 2 ^ 64 from rfl, Nat.testBit_mod_two_pow, show rowS l r * 2 = rowS l r * 2 ^ 1 by omega, Nat.testBit_mul_two_pow]
  have e2 : (rowS l r / 2).testBit x = (rowS l r).testBit (x + 1) := by rw [Nat.testBit_div_two]
  rw [Nat.testBit_or, Nat.testBit_or, e1, e2]
  unfold rowS
  rw [testBit_mask _ _ _ (by omega), testBit_mask _ _ _ (by omega), testBit_mask _ _ _ (by omega)]
  rw [Bool.eq_iff_iff]
  simp only [Bool.or_eq_true, Bool.and_eq_true, decide_eq_true_eq]
  omega

theorem hasS_iv (g : Nat → Nat) (y : Int) (l r : Nat) (h : l < r) (h2 : r ≤ 64) (hg : Words g) :
    hasS g y (rowS l r) = (decide (0 ≤ y) && decide (y < 64) && isIv (fun x => (g y.toNat).testBit x) l r) := by
  unfold hasS
  congr 1
  rw [Bool.eq_iff_iff, isIv_iff _ _ _ h h2, beq_iff_eq]
  have hb : ∀ x, 64 ≤ x → (g y.toNat).testBit x = false := fun x hx => testBit_big _ x (hg _) hx
  constructor
  · intro e
    have key : ∀ x, (g y.toNat).testBit x = true → l ≤ x + 1 → x ≤ r → x < 64 → l ≤ x ∧ x < r := fun x h3 h4 h5 h6 => by
      have := congrArg (Nat.testBit · x) e
      simp only [Nat.testBit_and, testBit_or3 l r x h h2, h3] at this
      unfold rowS at this
      rw [testBit_mask _ _ _ (by omega)] at this
      simpa [h4, h5, h6] using this
    refine ⟨fun x h3 h4 => ?_, ?_, ?_⟩
    · have := congrArg (Nat.testBit · x) e
      simp only [Nat.testBit_and] at this
      unfold rowS at this
      rw [testBit_mask _ _ _ (by omega)] at this
      simp [h3, h4] at this
      exact this.1
    · by_cases e1 : r = 64
      · exact .inl e1
      · right
        cases hh : (g y.toNat).testBit r
        · rfl
        · have := key r hh (by omega) (Nat.le_refl _) (by omega); omega
    · by_cases e1 : l = 0
      · exact .inl e1
      · right
        cases hh : (g y.toNat).testBit (l - 1)
        · rfl
        · have := key (l - 1) hh (by omega) (by omega) (by omega); omega
  · rintro ⟨h3, h4, h5⟩
    refine Nat.eq_of_testBit_eq fun x => ?_
    rw [Nat.testBit_and, testBit_or3 l r x h h2]
    unfold rowS
    rw [testBit_mask _ _ _ (by omega), Bool.eq_iff_iff]
    simp only [Bool.and_eq_true, decide_eq_true_eq]
    constructor
    · rintro ⟨h6, ⟨h7, h8⟩, h9⟩
      constructor
      · rcases Nat.lt_or_ge x l with h10 | h10
        · rcases h5 with h5 | h5
          · omega
          · rw [show l - 1 = x by omega, h6] at h5; cases h5
        · exact h10
      · rcases Nat.lt_or_ge x r with h10 | h10
        · exact h10
        · rcases h4 with h4 | h4
          · omega
          · rw [show r = x by omega, h6] at h4; cases h4
    · rintro ⟨h6, h7⟩
      exact ⟨h3 x h6 h7, ⟨by omega, by omega⟩, by omega⟩

/-- The height of an interval. -/
def hiOf (p : Nat → Nat → Bool) (l r y : Nat) : Nat := endOf (fun b => isIv (p b) l r) 64 (y + 1)
/-- What a row gives for an interval of it. -/
def rectOf (p : Nat → Nat → Bool) (y : Nat) (x : Nat × Nat) : Option R4 := if 0 < y ∧ isIv (p (y - 1)) x.1 x.2 = true then none else some ⟨x.1, x.2, y, hiOf p x.1 x.2 y⟩
def rowRects (p : Nat → Nat → Bool) (y : Nat) : List R4 := (ivs (p y)).filterMap (rectOf p y)
def rectsUpto (p : Nat → Nat → Bool) (k : Nat) : List R4 := (List.range k).flatMap (rowRects p)
def rectsS (p : Nat → Nat → Bool) : List R4 := rectsUpto p 64

theorem rectsUpto_succ (p : Nat → Nat → Bool) (k : Nat) : rectsUpto p (k + 1) = rectsUpto p k ++ rowRects p k := by
  unfold rectsUpto
  rw [List.range_succ, List.flatMap_append]
  simp

theorem bitsum_snoc (k n : Nat) : bitsum (k + 1) n = bitsum k n + (if n.testBit k = true then 1 else 0) := by
  rw [bitsum_add]
  congr 1
  have h2 : bitsum 1 (n / 2 ^ k) = n / 2 ^ k % 2 := by simp [bitsum]
  rw [h2]
  cases hb : n.testBit k
  · have := Nat.testBit_eq_decide_div_mod_eq (x := n) (i := k)
    rw [hb] at this
    have := of_decide_eq_false this.symm
    simp; omega
  · have := Nat.testBit_eq_decide_div_mod_eq (x := n) (i := k)
    rw [hb] at this
    have := of_decide_eq_true this.symm
    simp; omega

theorem bitsum_mask (l r : Nat) (h : l ≤ r) : ∀ k, bitsum k (rowS l r) = min k r - min k l
  | 0 => by simp [bitsum]
  | k + 1 => by
    rw [bitsum_snoc, bitsum_mask l r h k]
    have e : (rowS l r).testBit k = (decide (l ≤ k) && decide (k < r)) := testBit_mask l r k h
    rw [e]
    by_cases h1 : l ≤ k <;> by_cases h2 : k < r <;> simp [h1, h2] <;> omega
end Go.Proofs.YtbpkfpkhnkcgkaaDoorR
