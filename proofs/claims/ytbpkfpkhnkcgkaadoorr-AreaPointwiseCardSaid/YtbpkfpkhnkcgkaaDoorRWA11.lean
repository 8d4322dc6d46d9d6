/- The walks of Size, combine, Union, Common, Minus. The conditions: what the slices read as, the table of bits.TrailingZeros64. -/
import Derived.Test.YtbpkfpkhnkcgkaaDoorRWA10
namespace Go.Proofs.YtbpkfpkhnkcgkaaDoorR
open Go.RowKit Go.BigFrame

theorem gindex (g : Nat → Nat) (k : Nat) (hk : k < 64) (w : World) : (Instr.index 62 (.agg (gcells g)) (.int .i64 k)).run Tryd.prog w = .ok (.int .u64 (g k : Nat)) w := by
  have hn : 0 ≤ (k : Int) ∧ (k : Int) < ((64 : Nat) : Int) := by omega
  simp [Instr.index, run_underlying gridDesc, asIntOf, hn, go_sem, gcells_get _ _ hk]
  intro h; omega

theorem gindexZ {g : Nat → Nat} {Z : Array Value} (hZ : Z = gcells g) (k : Nat) (hk : k < 64) (w : World) : (Instr.index 62 (.agg Z) (.int .i64 k)).run Tryd.prog w = .ok (.int .u64 (g k : Nat)) w := by
  subst hZ; exact gindex g k hk w

/-- The number of places in the first rows. -/
def gsum (g : Nat → Nat) : Nat → Nat
  | 0 => 0
  | k + 1 => gsum g k + bitsum 64 (g k)
theorem bitsum_le (k n : Nat) : bitsum k n ≤ k := by
  induction k generalizing n with
  | zero => simp [bitsum]
  | succ k ih => rw [bitsum]; have := ih (n / 2); omega
theorem gsum_le (g : Nat → Nat) (k : Nat) : gsum g k ≤ 64 * k := by
  induction k with
  | zero => simp [gsum]
  | succ k ih => rw [gsum]; have := bitsum_le 64 (g k); omega
def sizeS (xs : List R4) : Nat := gsum (openS xs).1 64

def GSum (g : Nat → Nat) (k n : Nat) : Prop := n = gsum g k
theorem gsum_step {g : Nat → Nat} {k q : Nat} {Z : Array Value} (h : GSum g k q) (hZ : Z = gcells g) (hw : Words g) (hk : k < 64) : ∃ x z : Nat, z ≤ 64 ∧ GSum g (k + 1) (q + z) ∧
    (∀ w, (Instr.index 62 (.agg Z) (.int .i64 k)).run Tryd.prog w = .ok (.int .u64 (x : Nat)) w) ∧ (∀ w, Calls Tryd.prog 41 #[.int .u64 x] w fun e w' => e = .returned (.int .i64 (z : Nat)) ∧ w = w') := by
  refine ⟨g k, bitsum 64 (g k), bitsum_le _ _, ?_, gindexZ hZ k hk, fun w => ones_any _ w (hw k)⟩
  unfold GSum at *
  rw [h, gsum]

set_option maxHeartbeats 2000000 in
set_option maxRecDepth 100000 in
theorem size_any {w : World} {v : Value} {xs : List R4} (hr : RS w v xs) (he : Env w) :
    Calls Tryd.prog 23 #[v] w fun e w' => e = .returned (.int .i64 (sizeS xs : Nat)) ∧ Below w.heap.size w w' := by
  have HR := Lib.hid hr
  have HE := Lib.hid he
  clear hr he
  obtain ⟨G, hG⟩ : ∃ G, G = (openS xs).1 := ⟨_, rfl⟩
  have hS : sizeS xs = gsum G 64 := by unfold sizeS; rw [hG]
  rw [hS]
  have HW : Hid (Words G) := Lib.hid (by rw [hG]; exact openS_words xs)
  obtain ⟨ok, hok⟩ : ∃ ok, ok = (openS xs).2 := ⟨_, rfl⟩
  have HG := Lib.hid hG
  have HO := Lib.hid hok
  clear hG hok hS
  obtain ⟨Z, hZ⟩ : ∃ Z, Z = gcells G := ⟨_, rfl⟩
  have z1 : (Tryd.prog.info? 62).map (·.size) = some Z.size := by rw [hZ]; exact gridSize _
  have z2 : (gcells zeroG).size = Z.size := by rw [hZ]; simp only [gcells_size]
  have z3 : Z.all (·.oneCell') = true := by rw [hZ]; exact gcells_one _
  have HZ := Lib.hid hZ
  have Z1 := Lib.hid z1
  have Z2 := Lib.hid z2
  have Z3 := Lib.hid z3
  clear hZ z1 z2 z3
  go_enter Tryd.func23, Tryd.ntmps23
  go_wp2_with (first | (refine wpList_declA 62 (gcells zeroG) Z 3 (.tmp 11) zeroGrid rfl rfl rfl rfl rfl rfl rfl Z1.out Z2.out Z3.out ?_) | (go_at_call 37; refine (open_any HR.out HE.out).mono ?_; rintro e w2 ⟨rfl, hb2⟩; rw [← HO.out, ← HG.out, ← HZ.out]; have hb3 := Lib.hid (hb2.alloc hb2.size (.cells Z 62)); clear hb2) | (refine wpList_loadA 62 _ w2.heap.size 62 Z (0, 0) _ rfl rfl rfl (heap_alloc_new _ _) gridDesc rfl Z1.out ?_))
  generalize w2.alloc (Obj.cells Z 62) = W3 at hb3 ⊢
  go_loop [14, 5] (fun i s => ∃ k q : Nat, k ≤ 64 ∧ q ≤ 64 * k ∧ i = .int .i64 k ∧ s = .int .i64 q ∧ GSum G k q) (fun i s => 64 - (intOf i).toNat)
  case atStart => exact ⟨0, 0, by omega, by omega, rfl, rfl, rfl⟩
  case round =>
    obtain ⟨k, q, hk, hle, rfl, rfl, hg⟩ := hrel
    by_cases hlt : k < 64
    · obtain ⟨x, z, hz, hstep, hi, ho⟩ := gsum_step hg HZ.out HW.out hlt
      have hi1 := hi W3
      have HOO := Lib.hid ho
      clear hi ho
      go_wp2_with (go_at_call 41; refine (HOO.out _).mono ?_; rintro e w4 ⟨rfl, rfl⟩)
      go_round
      case rel => exact ⟨k + 1, q + z, by omega, by omega, by go_num, by go_num, hstep⟩
      case measure => simp [intOf]; omega
    · obtain rfl : k = 64 := by omega
      go_wp2
      go_ret
      exact ⟨ret_int (by rw [hg]), hb3.out⟩
end Go.Proofs.YtbpkfpkhnkcgkaaDoorR
