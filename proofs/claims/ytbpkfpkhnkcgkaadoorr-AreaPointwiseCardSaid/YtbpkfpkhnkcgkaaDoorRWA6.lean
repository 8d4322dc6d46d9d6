/- The walks of the grid's has, of bits.TrailingZeros64 and OnesCount64, and of the words' operations. The conditions: ranges, the table that TrailingZeros64 reads. -/
import Derived.Test.YtbpkfpkhnkcgkaaDoorRWA5
import Derived.Test.YtbpkfpkhnkcgkaaDoorRPop
import Derived.Lib.TrailingZeros
namespace Go.Proofs.YtbpkfpkhnkcgkaaDoorR
open Go.RowKit Go.BigFrame

def U64 : Nat := 18446744073709551616

/-- g[y]&(one|one<<1|one>>1) == one, for a row of the grid. -/
def hasS (g : Nat → Nat) (y : Int) (one : Nat) : Bool :=
  decide (0 ≤ y) && decide (y < 64) && (g y.toNat &&& ((one ||| (one * 2 % 18446744073709551616)) ||| (one / 2)) == one)

set_option maxHeartbeats 400000 in
theorem ghas_any (b : Nat) (g : Nat → Nat) (y : Int) (one : Nat) (w : World) (hb : w.heap[b]? = some (.cells (gcells g) 62 (0, 0))) (hg : Words g) (h1 : one < 18446744073709551616) (hy : -1 ≤ y) (hy2 : y ≤ 64) :
    Calls Tryd.prog 51 #[.pointer (some ⟨b, 0, none⟩), .int .i64 y, .int .u64 one] w fun e w' => e = .returned (.bool (hasS g y one)) ∧ w = w' := by
  by_cases c1 : 0 ≤ y
  · by_cases c2 : y < 64
    · obtain ⟨k, rfl⟩ := Int.eq_ofNat_of_zero_le c1
      have hk : k < 64 := by omega
      have hgk := hg k
      have cg : w.cell? ⟨b, k, none⟩ = some (.int .u64 (g k : Nat)) := by
        rw [cell_of_row w _ k _ _ _ hb, gcells_get _ _ hk]
      clear hb hg
      go_enter Tryd.func51, Tryd.ntmps51
      go_wp2
      go_ret
      refine ⟨ret_bool ?_, rfl⟩
      have e1 : IntKind.u64.wrap ((one : Int) * 2) = ((one * 2 % 18446744073709551616 : Nat) : Int) := by rw [IntKind.wrap_u64]; omega
      have e2 : (one : Int) / 2 = ((one / 2 : Nat) : Int) := by omega
      rw [e1, e2, u64_or_nat _ _ h1 (by omega), u64_or_nat _ _ (or_lt _ _ h1 (by omega)) (by omega), u64_and_nat _ _ hgk (or_lt _ _ (or_lt _ _ h1 (by omega)) (by omega))]
      simp only [hasS, Int.toNat_natCast, decide_eq_true c1, decide_eq_true c2, Bool.true_and]
      rw [Bool.eq_iff_iff]
      simp only [beq_iff_eq]
      exact Int.ofNat_inj
    · go_enter Tryd.func51, Tryd.ntmps51
      go_wp2
      go_ret
      exact ⟨ret_bool (by rw [hasS, decide_eq_false (by omega : ¬ y < 64)]; simp), rfl⟩
  · go_enter Tryd.func51, Tryd.ntmps51
    go_wp2
    go_ret
    exact ⟨ret_bool (by rw [hasS, decide_eq_false (by omega : ¬ 0 ≤ y)]; simp), rfl⟩

set_option maxHeartbeats 400000 in
theorem union1_any (x y : Nat) (w : World) (hx : x < 18446744073709551616) (hy : y < 18446744073709551616) :
    Calls Tryd.prog 32 #[.int .u64 x, .int .u64 y] w fun e w' => e = .returned (.int .u64 (x ||| y : Nat)) ∧ w = w' := by
  go_enter Tryd.func32, Tryd.ntmps32
  go_wp2
  go_ret
  exact ⟨ret_int (u64_or_nat _ _ hx hy), rfl⟩
set_option maxHeartbeats 400000 in
theorem common1_any (x y : Nat) (w : World) (hx : x < 18446744073709551616) (hy : y < 18446744073709551616) :
    Calls Tryd.prog 33 #[.int .u64 x, .int .u64 y] w fun e w' => e = .returned (.int .u64 (x &&& y : Nat)) ∧ w = w' := by
  go_enter Tryd.func33, Tryd.ntmps33
  go_wp2
  go_ret
  exact ⟨ret_int (u64_and_nat _ _ hx hy), rfl⟩
set_option maxHeartbeats 400000 in
theorem minus1_any (x y : Nat) (w : World) (hx : x < 18446744073709551616) (hy : y < 18446744073709551616) :
    Calls Tryd.prog 34 #[.int .u64 x, .int .u64 y] w fun e w' => e = .returned (.int .u64 (x &&& (18446744073709551615 - y) : Nat)) ∧ w = w' := by
  go_enter Tryd.func34, Tryd.ntmps34
  go_wp2
  go_ret
  exact ⟨ret_int (u64_andNot_nat _ _ hx hy), rfl⟩

theorem i64_mask7 (a : Nat) (h : a < 9223372036854775808) : bits BinOp.and IntKind.i64 (a : Int) 127 = ((a % 128 : Nat) : Int) := by
  have h1 : (BitVec.ofInt 64 (a : Int)).toNat = a := by
    rw [BitVec.ofInt_natCast, BitVec.toNat_ofNat]; exact Nat.mod_eq_of_lt (by omega)
  have h2 : (BitVec.ofInt 64 (127 : Int)).toNat = 127 := rfl
  show IntKind.i64.wrap ((BitVec.ofInt 64 (a : Int) &&& BitVec.ofInt 64 127).toNat : Int) = _
  rw [BitVec.toNat_and, h1, h2, Nat.and_two_pow_sub_one_eq_mod a 7]
  rw [IntWalk.i64_in _ ⟨by omega, by omega⟩]

set_option maxHeartbeats 1000000 in
theorem ones_any (n : Nat) (w : World) (h1 : n < 18446744073709551616) :
    Calls Tryd.prog 41 #[.int .u64 n] w fun e w' => e = .returned (.int .i64 (bitsum 64 n : Nat)) ∧ w = w' := by
  obtain ⟨p0, p1, p2, p3, p4, p5, p6, p7, g0, g1, g2, g3, g4, g5, g6, g7, hl, hs⟩ := ones_lanes n h1
  obtain ⟨a4, a5, a6, e4, e5, e6, l4, l5, l6, hm⟩ := lanes_sum p0 p1 p2 p3 p4 p5 p6 p7 _ g0 g1 g2 g3 g4 g5 g6 g7 hl
  have hres : ((bitsum 64 n : Nat) : Int) = ((a6 % 128 : Nat) : Int) := by rw [hs, hm]
  have HR := Lib.hid hres
  clear hres hs hm hl g0 g1 g2 g3 g4 g5 g6 g7
  clear p0 p1 p2 p3 p4 p5 p6 p7
  have b0 : q1 n 6148914691236517205 < 18446744073709551616 := by
    have h1 : n / 2 &&& 6148914691236517205 ≤ 6148914691236517205 := Nat.and_le_right
    have h2 : n &&& 6148914691236517205 ≤ 6148914691236517205 := Nat.and_le_right
    unfold q1; omega
  have k1 : IntKind.u64.wrap (bits BinOp.and IntKind.u64 ((n : Int) / 2) 6148914691236517205 + bits BinOp.and IntKind.u64 (n : Int) 6148914691236517205) = ((q1 n 6148914691236517205 : Nat) : Int) := by
    rw [show (n : Int) / 2 = ((n / 2 : Nat) : Int) by omega, show (6148914691236517205 : Int) = ((6148914691236517205 : Nat) : Int) from rfl, u64_and_nat _ _ (by omega) (by omega), u64_and_nat _ _ h1 (by omega), IntKind.wrap_u64]
    unfold q1 at *; omega
  generalize q1 n 6148914691236517205 = x1 at *
  have b1 : q2 x1 3689348814741910323 < 18446744073709551616 := by
    have h1 : x1 / 4 &&& 3689348814741910323 ≤ 3689348814741910323 := Nat.and_le_right
    have h2 : x1 &&& 3689348814741910323 ≤ 3689348814741910323 := Nat.and_le_right
    unfold q2; omega
  have k2 : IntKind.u64.wrap (bits BinOp.and IntKind.u64 ((x1 : Int) / 4) 3689348814741910323 + bits BinOp.and IntKind.u64 (x1 : Int) 3689348814741910323) = ((q2 x1 3689348814741910323 : Nat) : Int) := by
    rw [show (x1 : Int) / 4 = ((x1 / 4 : Nat) : Int) by omega, show (3689348814741910323 : Int) = ((3689348814741910323 : Nat) : Int) from rfl, u64_and_nat _ _ (by omega) (by omega), u64_and_nat _ _ b0 (by omega), IntKind.wrap_u64]
    unfold q2 at *; omega
  have b2' : q2 x1 3689348814741910323 ≤ 7378697629483820646 := by
    have h1 : x1 / 4 &&& 3689348814741910323 ≤ 3689348814741910323 := Nat.and_le_right
    have h2 : x1 &&& 3689348814741910323 ≤ 3689348814741910323 := Nat.and_le_right
    unfold q2; omega
  generalize q2 x1 3689348814741910323 = x2 at *
  have b3 : q3 x2 1085102592571150095 < 18446744073709551616 := by
    have h1 : (x2 / 16 + x2) &&& 1085102592571150095 ≤ 1085102592571150095 := Nat.and_le_right
    unfold q3; omega
  have k3 : bits BinOp.and IntKind.u64 (IntKind.u64.wrap ((x2 : Int) / 16 + (x2 : Int))) 1085102592571150095 = ((q3 x2 1085102592571150095 : Nat) : Int) := by
    have e : IntKind.u64.wrap ((x2 : Int) / 16 + (x2 : Int)) = ((x2 / 16 + x2 : Nat) : Int) := by rw [IntKind.wrap_u64]; omega
    rw [e, show (1085102592571150095 : Int) = ((1085102592571150095 : Nat) : Int) from rfl, u64_and_nat _ _ (by omega) (by omega)]
    rfl
  generalize q3 x2 1085102592571150095 = x3 at *
  have k4 : IntKind.u64.wrap ((x3 : Int) + (x3 : Int) / 256) = (a4 : Int) := by rw [IntKind.wrap_u64]; omega
  have k5 : IntKind.u64.wrap ((a4 : Int) + (a4 : Int) / 65536) = (a5 : Int) := by rw [IntKind.wrap_u64]; omega
  have k6 : IntKind.u64.wrap ((a5 : Int) + (a5 : Int) / 4294967296) = (a6 : Int) := by rw [IntKind.wrap_u64]; omega
  clear e4 e5 e6 l4 l5 b0 b1 b2' b3
  go_enter Tryd.func41, Tryd.ntmps41
  go_wp2
  go_ret
  refine ⟨ret_int ?_, rfl⟩
  rw [HR.out]
  exact i64_mask7 a6 l6

/-- The table of bits.TrailingZeros64 lies in its variable. -/
def Tab (w : World) : Prop := ∀ j, j < 64 → w.cell? ⟨0, j, none⟩ = some (.int .u8 (Lib.deBruijn64tab.getD j 0 : Nat))
theorem Tab.below {B : Nat} {w w' : World} (h : Tab w) (hb : Below B w w') (hB : 0 < B) : Tab w' := fun j hj => (hb.cell (p := ⟨0, j, none⟩) hB).trans (h j hj)
theorem Tab.keep {w w' : World} (h : Tab w) (hk : ∀ o, w'.cell? ⟨0, o, none⟩ = w.cell? ⟨0, o, none⟩) : Tab w' := fun j hj => (hk j).trans (h j hj)

theorem tz_key (a : Nat) (x : Nat) (hx : x < 18446744073709551616) (hx0 : x ≠ 0) (hlow : x &&& (18446744073709551616 - x) = a) :
    IntKind.u64.wrap (bits BinOp.and IntKind.u64 (x : Int) (IntKind.u64.wrap (-(x : Int))) * 285870213051353865) / 288230376151711744 = ((a * 285870213051353865 % 18446744073709551616 / 288230376151711744 : Nat) : Int) := by
  have e1 : IntKind.u64.wrap (-(x : Int)) = ((18446744073709551616 - x : Nat) : Int) := by rw [IntKind.wrap_u64]; omega
  rw [e1, u64_and_nat x _ hx (by omega), hlow, IntKind.wrap_u64]
  omega

set_option maxHeartbeats 1000000 in
theorem tz_core (x k idx : Nat) (w : World) (hx0' : ((x : Int) == 0) = false)
    (key : IntKind.u64.wrap (bits BinOp.and IntKind.u64 (x : Int) (IntKind.u64.wrap (-(x : Int))) * 285870213051353865) / 288230376151711744 = (idx : Int))
    (hi : idx < 64) (hk : k < 64) (hcell : w.cell? ⟨0, idx, none⟩ = some (.int .u8 k)) :
    Calls Tryd.prog 52 #[.int .u64 x] w fun e w' => e = .returned (.int .i64 k) ∧ w = w' := by
  go_enter Tryd.func52, Tryd.ntmps52
  go_wp2_with (simp only [key])
  go_ret
  exact ⟨rfl, rfl⟩

theorem tz_any (x k : Nat) (w : World) (hx : x < 18446744073709551616) (hx0 : x ≠ 0) (hlow : x &&& (18446744073709551616 - x) = 2 ^ k) (hk : k < 64) (ht : Tab w) :
    Calls Tryd.prog 52 #[.int .u64 x] w fun e w' => e = .returned (.int .i64 k) ∧ w = w' := by
  obtain ⟨hi, htab⟩ := Lib.deBruijn64_at _ hk
  have hcell := ht _ hi
  rw [htab] at hcell
  exact tz_core x k _ w (by simp; omega) (tz_key _ x hx hx0 hlow) hi hk hcell

theorem low_mask (l r : Nat) (h : l < r) (h2 : r ≤ 64) : rowS l r &&& (18446744073709551616 - rowS l r) = 2 ^ l ∧ rowS l r ≠ 0 ∧ rowS l r < 18446744073709551616 := by
  obtain ⟨k, rfl⟩ := Nat.exists_eq_add_of_lt h
  have e : rowS l (l + k + 1) = 2 ^ l * (2 * (2 ^ k - 1) + 1) := by
    unfold rowS
    have := Nat.two_pow_pos k
    rw [show l + k + 1 = l + (k + 1) by omega, Nat.pow_add, show (2:Nat) ^ (k + 1) = 2 * 2 ^ k by rw [Nat.pow_succ]; omega]
    rw [show 2 * (2 ^ k - 1) + 1 = 2 * 2 ^ k - 1 by omega, Nat.mul_sub]
    simp
  have hlt := rowS_lt l (l + k + 1) h2
  refine ⟨?_, ?_, hlt⟩
  · rw [e] at hlt ⊢
    exact Lib.and_neg 64 l (2 ^ k - 1) hlt
  · rw [e]
    have := Nat.two_pow_pos l
    exact Nat.mul_ne_zero (by omega) (by omega)

theorem tz_mask (l r : Nat) (w : World) (h : l < r) (h2 : r ≤ 64) (ht : Tab w) :
    Calls Tryd.prog 52 #[.int .u64 (rowS l r : Nat)] w fun e w' => e = .returned (.int .i64 l) ∧ w = w' := by
  obtain ⟨h3, h4, h5⟩ := low_mask l r h h2
  exact tz_any _ l w h5 h4 h3 (by omega) ht
end Go.Proofs.YtbpkfpkhnkcgkaaDoorR
