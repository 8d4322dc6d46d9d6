/- The walks of small functions: pick, row, isRect, rect, Whole, Same, Equal. The conditions are the types' ranges and what the slices read as. -/
import Derived.Test.YtbpkfpkhnkcgkaaDoorRMem
import Derived.Test.YtbpkfpkhnkcgkaaDoorRASpec
import Derived.Test.YtbpkfpkhnkcgkaaDoorRProg
import Derived.BigQuiet
import Derived.Handy
import Derived.Lib.Hide
import Derived.Laws.BitsAllLaws
namespace Go.Proofs.YtbpkfpkhnkcgkaaDoorR
open Go.RowKit

def I64 (x : Int) : Prop := -9223372036854775808 ≤ x ∧ x ≤ 9223372036854775807

def pickS (c n : Int) : Int := (if c < 0 then -(c+1) else c) % n
theorem pickS_rng (c n : Int) (hn : 0 < n) : 0 ≤ pickS c n ∧ pickS c n < n := ⟨Int.emod_nonneg _ (by omega), Int.emod_lt_of_pos _ hn⟩

theorem ret_int {k : IntKind} {a b : Int} (h : a = b) : Ending.returned (.int k a) = .returned (.int k b) := by rw [h]
theorem ret_bool {a b : Bool} (h : a = b) : Ending.returned (.bool a) = .returned (.bool b) := by rw [h]

set_option maxHeartbeats 400000 in
theorem pick_any (c n : Int) (w : World) (hc : I64 c) (hn : 0 < n) (hn' : n ≤ 9223372036854775807) :
    Calls Tryd.prog 11 #[.int .i64 c, .int .i64 n] w fun e w' => e = .returned (.int .i64 (pickS c n)) ∧ w = w' := by
  obtain ⟨hc1, hc2⟩ := hc
  by_cases h : c < 0
  · go_enter Tryd.func11, Tryd.ntmps11
    go_wp2
    go_ret
    exact ⟨ret_int (by rw [pickS, if_pos h, ← Int.tmod_eq_emod_of_nonneg (by omega), Int.neg_tmod]), rfl⟩
  · go_enter Tryd.func11, Tryd.ntmps11
    go_wp2
    go_ret
    exact ⟨ret_int (by rw [pickS, if_neg (by omega)]), rfl⟩

set_option maxHeartbeats 400000 in
theorem rpick_any (c n : Int) (w : World) (hc : I64 c) (hn : 0 < n) (hn' : n ≤ 9223372036854775807) :
    Calls Tryd.prog 42 #[.int .i64 c, .int .i64 n] w fun e w' => e = .returned (.int .i64 (pickS c n)) ∧ w = w' := by
  obtain ⟨hc1, hc2⟩ := hc
  by_cases h : c < 0
  · go_enter Tryd.func42, Tryd.ntmps42
    go_wp2
    go_ret
    exact ⟨ret_int (by rw [pickS, if_pos h, ← Int.tmod_eq_emod_of_nonneg (by omega), Int.neg_tmod]), rfl⟩
  · go_enter Tryd.func42, Tryd.ntmps42
    go_wp2
    go_ret
    exact ⟨ret_int (by rw [pickS, if_neg (by omega)]), rfl⟩

/-! ### row -/
theorem row_bits (l r : Nat) (h : l < r) (h2 : r ≤ 64) : bits BinOp.and IntKind.u64 (IntKind.u64.wrap (18446744073709551615 * 2 ^ l)) (18446744073709551615 / 2 ^ (64 - r)) = ((2 ^ r - 2 ^ l : Nat) : Int) := by
  have e1 : IntKind.u64.wrap (18446744073709551615 * 2 ^ l) = ((2 ^ 64 - 2 ^ l : Nat) : Int) := by
    rw [IntKind.wrap_u64]
    have : (2:Nat) ^ l ≤ 2 ^ 64 := Nat.pow_le_pow_right (by omega) (by omega)
    have p : 0 < 2 ^ l := Nat.two_pow_pos l
    rw [show (2 : Int) ^ l = ((2 ^ l : Nat) : Int) by norm_cast]
    generalize 2 ^ l = t at *
    omega
  have e2 : (18446744073709551615 : Int) / 2 ^ (64 - r) = ((2 ^ r - 1 : Nat) : Int) := by
    have : (2 : Nat) ^ 64 = 2 ^ r * 2 ^ (64 - r) := by rw [← Nat.pow_add]; congr 1; omega
    have p : 0 < 2 ^ (64 - r) := Nat.two_pow_pos _
    have q : 0 < 2 ^ r := Nat.two_pow_pos _
    rw [show (2 : Int) ^ (64 - r) = ((2 ^ (64 - r) : Nat) : Int) by norm_cast]
    generalize 2 ^ (64 - r) = s at *
    generalize 2 ^ r = t at *
    have e : (18446744073709551615 : Nat) / s = t - 1 := by
      apply Nat.div_eq_of_lt_le
      · rw [Nat.sub_mul]; omega
      · have e2 : t - 1 + 1 = t := by omega
        rw [e2]; omega
    rw [← e]
    rfl
  rw [e1, e2, u64_and_nat _ _ (by have := Nat.two_pow_pos l; omega) (by have : (2:Nat) ^ r ≤ 2 ^ 64 := Nat.pow_le_pow_right (by omega) (by omega); have := Nat.two_pow_pos r; omega)]
  congr 1
  apply Nat.eq_of_testBit_eq
  intro x
  rw [Nat.testBit_and, testBit_mask l 64 x (by omega), testBit_mask l r x (by omega), Nat.testBit_two_pow_sub_one]
  by_cases h1 : x < r
  · have : x < 64 := by omega
    simp [h1, this]
  · simp [h1]

def rowS (l r : Nat) : Nat := 2 ^ r - 2 ^ l
theorem rowS_lt (l r : Nat) (h2 : r ≤ 64) : rowS l r < 18446744073709551616 := by
  have : (2:Nat) ^ r ≤ 2 ^ 64 := Nat.pow_le_pow_right (by omega) (by omega)
  have := Nat.two_pow_pos l
  unfold rowS; omega

set_option maxHeartbeats 400000 in
theorem row_any (l r : Nat) (w : World) (h1 : l < r) (h2 : r ≤ 64) :
    Calls Tryd.prog 45 #[.int .i64 l, .int .i64 r] w fun e w' => e = .returned (.int .u64 (rowS l r : Nat)) ∧ ∃ n, w' = w.drewN n := by
  have hb := row_bits l r h1 h2
  have HB := Lib.hid hb
  clear hb
  go_enter Tryd.func45, Tryd.ntmps45
  go_wp2
  go_quiet (fail)
  go_wp2
  go_ret
  have e : (64 - (r : Int)).toNat = 64 - r := by omega
  refine ⟨ret_int ?_, _, rfl⟩
  have := HB.out
  simp only [e] at *
  simpa [rowS] using this

/-! ### isRect -/
def vrect (x : R4) : Bool := decide (0 ≤ x.l) && decide (x.l < x.r) && decide (x.r ≤ 64) && decide (0 ≤ x.lo) && decide (x.lo < x.hi) && decide (x.hi ≤ 64)
theorem vrect_iff (x : R4) : vrect x = true ↔ 0 ≤ x.l ∧ x.l < x.r ∧ x.r ≤ 64 ∧ 0 ≤ x.lo ∧ x.lo < x.hi ∧ x.hi ≤ 64 := by
  simp [vrect, and_assoc]
def R4.agg (x : R4) : Value := .agg #[.int .i64 x.l, .int .i64 x.r, .int .i64 x.lo, .int .i64 x.hi]

set_option maxHeartbeats 400000 in
theorem isRect_any (x : R4) (w : World) :
    Calls Tryd.prog 49 #[.agg #[.int .i64 x.l, .int .i64 x.r, .int .i64 x.lo, .int .i64 x.hi]] w fun e w' => e = .returned (.bool (vrect x)) ∧ Below w.heap.size w w' := by
  obtain ⟨a, b, c, d⟩ := x
  go_enter Tryd.func49, Tryd.ntmps49
  go_wp2
  all_goals
    go_ret
    refine ⟨ret_bool ?_, (Below.refl _ _).alloc (Nat.le_refl _) _⟩
    try symm
    first
      | (show vrect _ = decide _; rw [Bool.eq_iff_iff, vrect_iff]; simp only [decide_eq_true_eq]; omega)
      | (show vrect _ = true; rw [vrect_iff]; (repeat' constructor) <;> simp only [] <;> omega)
      | (show vrect _ = false; rw [Bool.eq_false_iff]; intro h; rw [vrect_iff] at h; simp only [] at h; omega)
      | skip

set_option maxHeartbeats 400000 in
theorem rect_any (a b c d : Int) (w : World) :
    Calls Tryd.prog 28 #[.int .i64 a, .int .i64 b, .int .i64 c, .int .i64 d] w fun e w' => e = .returned (.agg #[.int .i64 a, .int .i64 b, .int .i64 c, .int .i64 d]) ∧ Below w.heap.size w w' := by
  go_enter Tryd.func28, Tryd.ntmps28
  go_wp2
  go_returns
  exact ⟨rfl, (Below.refl _ _).alloc (Nat.le_refl _) _⟩

def wholeS : List R4 := [⟨0, 64, 0, 64⟩]

set_option maxHeartbeats 400000 in
theorem whole_any (w : World) :
    Calls Tryd.prog 25 #[] w fun e w' => ∃ v, e = .returned v ∧ RS w' v wholeS ∧ Below w.heap.size w w' := by
  go_enter Tryd.func25, Tryd.ntmps25
  go_wp2
  go_ret
  exact ⟨_, rfl, RS.one (x := ⟨0, 64, 0, 64⟩) (e := 36) (fz := (0, 0)) (heap_alloc_new w _) rfl, (Below.refl _ _).alloc (Nat.le_refl _) _⟩

theorem neqR (x y : R4) (w : World) : (binOp .neq 36 (.agg #[.int .i64 x.l, .int .i64 x.r, .int .i64 x.lo, .int .i64 x.hi]) (.agg #[.int .i64 y.l, .int .i64 y.r, .int .i64 y.lo, .int .i64 y.hi])).run Tryd.prog w = .ok (.bool (!decide (x = y))) w := by
  have h1 := run_equalIn_struct (P := Tryd.prog) w 9999 36 #[.int .i64 x.l, .int .i64 x.r, .int .i64 x.lo, .int .i64 x.hi] #[.int .i64 y.l, .int .i64 y.r, .int .i64 y.lo, .int .i64 y.hi] (by kernel_rfl) (by kernel_rfl)
  have e : decide (x = y) = (x.l == y.l && x.r == y.r && x.lo == y.lo && x.hi == y.hi) := by
    obtain ⟨a, b, c, d⟩ := x; obtain ⟨a', b', c', d'⟩ := y
    rw [Bool.eq_iff_iff]; simp [and_assoc]
  rw [e]
  rw [run_neq_struct, show (10000 : Nat) = 9999 + 1 from rfl, h1]
  simp only [go_sem, Program.fieldsOf]
  by_cases e1 : x.l = y.l <;> by_cases e2 : x.r = y.r <;> by_cases e3 : x.lo = y.lo <;> by_cases e4 : x.hi = y.hi <;> simp [go_sem, e1, e2, e3, e4]

end Go.Proofs.YtbpkfpkhnkcgkaaDoorR
