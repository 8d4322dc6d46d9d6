/- The walks of bits.RotateLeft32 and mixed. The conditions: ranges, what the slice reads as. -/
import Derived.Test.YtinfpbkbnhcifaaGreatDoorQArr
import Derived.Test.YtinfpbkbnhcifaaGreatDoorQPR3
import Derived.Test.YtinfpbkbnhcifaaGreatDoorProg
import Derived.BigQuiet
import Derived.Handy
import Derived.Lib.Hide
import Derived.Laws.BitsAllLaws
namespace Go.Proofs.YtinfpbkbnhcifaaGreatDoor
open Go.RowKit

def I64 (x : Int) : Prop := -9223372036854775808 ≤ x ∧ x ≤ 9223372036854775807
theorem ret_int {k : IntKind} {a b : Int} (h : a = b) : Ending.returned (.int k a) = .returned (.int k b) := by rw [h]
theorem ret_bool {a b : Bool} (h : a = b) : Ending.returned (.bool a) = .returned (.bool b) := by rw [h]
theorem ret_str {a b : ByteArray} (h : a = b) : Ending.returned (.string a) = .returned (.string b) := by rw [h]

theorem rot_amount (n : Nat) (h1 : 1 ≤ n) (h2 : n ≤ 31) : bits BinOp.and IntKind.u64 (IntKind.u64.wrap (-(n : Int))) 31 = ((32 - n : Nat) : Int) := by
  have e1 : IntKind.u64.wrap (-(n : Int)) = ((18446744073709551616 - n : Nat) : Int) := by rw [IntKind.wrap_u64]; omega
  rw [e1, show (31 : Int) = ((31 : Nat) : Int) from rfl, u64_and_nat _ _ (by omega) (by omega)]
  congr 1
  rw [Nat.and_two_pow_sub_one_eq_mod _ 5]
  omega

theorem rotr_lt (x n : Nat) (hx : x < 4294967296) : rotr x n < 4294967296 := by
  have h1 : x * 2 ^ (32 - n) % 4294967296 < 2 ^ 32 := Nat.mod_lt _ (by omega)
  have h2 : x / 2 ^ n < 2 ^ 32 := Nat.lt_of_le_of_lt (Nat.div_le_self _ _) hx
  exact Nat.or_lt_two_pow h1 h2

set_option maxHeartbeats 400000 in
theorem rotl_any (x n : Nat) (w : World) (hx : x < 4294967296) (h1 : 1 ≤ n) (h2 : n ≤ 31) :
    Calls Tryz.prog 154 #[.int .u32 x, .int .i64 (-(n : Int))] w fun e w' => e = .returned (.int .u32 (rotr x n : Nat)) ∧ w = w' := by
  have e1 := rot_amount n h1 h2
  have e2 : IntKind.u64.wrap (32 - ((32 - n : Nat) : Int)) = (n : Int) := by rw [IntKind.wrap_u64]; omega
  go_enter Tryz.func154, Tryz.ntmps154
  go_wp2
  go_ret
  refine ⟨ret_int ?_, rfl⟩
  have g1 : x * 2 ^ (32 - n) % 4294967296 < 4294967296 := Nat.mod_lt _ (by omega)
  have g2 : x / 2 ^ n < 4294967296 := Nat.lt_of_le_of_lt (Nat.div_le_self _ _) hx
  have c1 : ((x * 2 ^ (32 - n) % 4294967296 : Nat) : Int) = (x : Int) * 2 ^ (32 - n) % 4294967296 := by rw [Int.natCast_emod, Int.natCast_mul, Int.natCast_pow]; rfl
  have c2 : ((x / 2 ^ n : Nat) : Int) = (x : Int) / 2 ^ n := by rw [Int.natCast_ediv, Int.natCast_pow]; rfl
  rw [← c1, ← c2]
  exact u32_or_nat _ _ g1 g2

/-- A word and rotations of it. -/
def mixN (x : Nat) (l : List Nat) : Nat := l.foldl (fun o n => o ^^^ rotr x n) 0
theorem mixN_snoc (x : Nat) (l : List Nat) (n : Nat) : mixN x (l ++ [n]) = mixN x l ^^^ rotr x n := by simp [mixN]
theorem mixN_lt (x : Nat) (l : List Nat) (hx : x < 4294967296) : mixN x l < 4294967296 := by
  have : ∀ (l : List Nat) (o : Nat), o < 4294967296 → l.foldl (fun o n => o ^^^ rotr x n) o < 4294967296 := by
    intro l
    induction l with
    | nil => intro o h; exact h
    | cons n l ih => intro o h; exact ih _ (Nat.xor_lt_two_pow (n := 32) h (rotr_lt x n hx))
  exact this l 0 (by omega)

/-- The cells of integers. -/
def icells (l : List Int) : List (List Value) := l.map fun n => [.int .i64 n]
theorem SliceAt.icell {w : World} {v : Value} {l : List Int} (h : SliceAt w v 1 (icells l)) : ∃ a cap, v = .slice a l.length cap ∧ l.length ≤ cap ∧ cap ≤ maxLen ∧
    ∀ k n, l[k]? = some n → ∃ b off, a = some ⟨b, off, none⟩ ∧ b < w.heap.size ∧ w.cell? ⟨b, off + k, none⟩ = some (.int .i64 n) := by
  obtain ⟨a, cap, hv, h1, h2, h3⟩ := h
  unfold icells at *
  rw [List.length_map] at hv h1
  refine ⟨a, cap, hv, h1, h2, fun k x hx => ?_⟩
  rcases h3 with h3 | ⟨b, off, ha, hb, hc⟩
  · simp at h3; subst h3; simp at hx
  · refine ⟨b, off, ha, hb, ?_⟩
    have := hc k [.int .i64 x] (by rw [List.getElem?_map, hx]; rfl) 0 _ rfl
    simpa using this

set_option maxHeartbeats 1000000 in
theorem mixed_any (x : Nat) (l : List Nat) {w : World} {v : Value} (hx : x < 4294967296) (hv : SliceAt w v 1 (icells (l.map fun (n : Nat) => (n : Int)))) (hl : ∀ n ∈ l, 1 ≤ n ∧ n ≤ 31) :
    Calls Tryz.prog 144 #[.int .u32 x, v] w fun e w' => e = .returned (.int .u32 (mixN x l : Nat)) ∧ w = w' := by
  obtain ⟨a, cap, rfl, l1, l2, l3⟩ := hv.icell
  rw [List.length_map] at *
  have H3 := Lib.hid l3
  have HL := Lib.hid hl
  clear l3 hv hl
  unfold maxLen at l2
  obtain ⟨n, hn⟩ : ∃ n, n = l.length := ⟨_, rfl⟩
  rw [← hn] at l1 ⊢
  have HN := Lib.hid hn
  clear hn
  go_enter Tryz.func144, Tryz.ntmps144
  go_wp2
  go_loop [5, 7, 10] (fun o _ i => ∃ k : Nat, k ≤ n ∧ i = .int .i64 k ∧ o = .int .u32 (mixN x (l.take k) : Nat)) (fun _ _ i => n - (intOf i).toNat)
  case atStart => exact ⟨0, by omega, rfl, rfl⟩
  case round =>
    obtain ⟨k, hk, rfl, rfl⟩ := hrel
    by_cases hlt : k < n
    · obtain ⟨q, eq⟩ : ∃ q, l[k]? = some q := ⟨_, List.getElem?_eq_getElem (by rw [← HN.out]; exact hlt)⟩
      obtain ⟨b, off, rfl, hb, c1⟩ := H3.out k q (by rw [List.getElem?_map, eq]; rfl)
      obtain ⟨q1, q2⟩ := HL.out q (List.mem_of_getElem? eq)
      have e1 : l.take (k + 1) = l.take k ++ [q] := by rw [List.take_add_one, eq]; rfl
      have E1 := Lib.hid e1
      have g1 := mixN_lt x (l.take k) hx
      clear e1 eq
      have R1 : Hid (mixN x (l.take (k + 1)) = mixN x (l.take k) ^^^ rotr x q) := Lib.hid (by rw [E1.out, mixN_snoc])
      generalize mixN x (l.take k) = o at *
      have g2 := rotr_lt x q hx
      have x1 := u32_xor_nat o (rotr x q) g1 g2
      go_wp2_with (go_at_call 154; refine (rotl_any x q _ hx q1 q2).mono ?_; rintro e w1 ⟨rfl, rfl⟩)
      go_round
      case rel => exact ⟨k + 1, by omega, by go_num, by rw [R1.out]⟩
      case measure => simp [intOf]; omega
    · obtain rfl : k = n := by omega
      have E1 : Hid (l.take k = l) := Lib.hid (by rw [HN.out, List.take_length])
      go_wp2
      go_ret
      exact ⟨ret_int (by rw [E1.out]), rfl⟩
end Go.Proofs.YtinfpbkbnhcifaaGreatDoor
