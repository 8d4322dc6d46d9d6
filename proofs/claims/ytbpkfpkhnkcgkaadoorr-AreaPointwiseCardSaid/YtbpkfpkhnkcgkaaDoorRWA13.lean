/- The walk of Within. The conditions: what the slices read as, the table of bits.TrailingZeros64. -/
import Derived.Test.YtbpkfpkhnkcgkaaDoorRWA12
namespace Go.Proofs.YtbpkfpkhnkcgkaaDoorR
open Go.RowKit Go.BigFrame

/-- The rows from the first on have nothing that the other set has not. -/
def NoneUpto (G H : Nat → Nat) (k : Nat) : Prop := ∀ j, j < k → minF (G j) (H j) = 0
theorem withinS_eq (xs ys : List R4) (G H : Nat → Nat) (ok also : Bool) (h1 : G = (openS xs).1) (h2 : ok = (openS xs).2) (h3 : H = (openS ys).1) (h4 : also = (openS ys).2) : 
    (∀ k, k < 64 → minF (G k) (H k) ≠ 0 → withinS xs ys = false) ∧ (NoneUpto G H 64 → withinS xs ys = (ok && also)) := by
  subst h1 h2 h3 h4
  unfold withinS NoneUpto
  constructor
  · intro k hk hne
    have : ((List.range 64).all fun y => minF ((openS xs).1 y) ((openS ys).1 y) == 0) = false := by
      rw [List.all_eq_false]
      exact ⟨k, List.mem_range.2 hk, by simpa using hne⟩
    rw [this, Bool.false_and]
  · intro h
    have : ((List.range 64).all fun y => minF ((openS xs).1 y) ((openS ys).1 y) == 0) = true := by
      rw [List.all_eq_true]
      intro y hy
      rw [h y (List.mem_range.1 hy)]; rfl
    rw [this, Bool.true_and]

set_option maxHeartbeats 2000000 in
set_option maxRecDepth 100000 in
theorem within_any {w : World} {v v' : Value} {xs ys : List R4} (hr : RS w v xs) (hr' : RS w v' ys) (he : Env w) :
    Calls Tryd.prog 27 #[v, v'] w fun e w' => e = .returned (.bool (withinS xs ys)) ∧ Below w.heap.size w w' := by
  have HR := Lib.hid hr
  have HR' := Lib.hid hr'
  have HE := Lib.hid he
  clear hr hr' he
  obtain ⟨G, hG⟩ : ∃ G, G = (openS xs).1 := ⟨_, rfl⟩
  obtain ⟨ok, hok⟩ : ∃ ok, ok = (openS xs).2 := ⟨_, rfl⟩
  obtain ⟨H, hH⟩ : ∃ H, H = (openS ys).1 := ⟨_, rfl⟩
  obtain ⟨also, halso⟩ : ∃ also, also = (openS ys).2 := ⟨_, rfl⟩
  have HWG : Hid (Words G) := Lib.hid (by rw [hG]; exact openS_words xs)
  have HWH : Hid (Words H) := Lib.hid (by rw [hH]; exact openS_words ys)
  have HC := Lib.hid (withinS_eq xs ys G H ok also hG hok hH halso)
  generalize withinS xs ys = res at *
  have HG := Lib.hid hG
  have HO := Lib.hid hok
  have HH := Lib.hid hH
  have HA := Lib.hid halso
  clear hG hok hH halso
  go_enter Tryd.func27, Tryd.ntmps27
  go_wp2_with fail
  refine (open_any HR.out HE.out).mono ?_
  rintro e w2 ⟨rfl, hb2⟩
  rw [← HO.out, ← HG.out]
  have HB2 := Lib.hid hb2
  have hs2 := hb2.size
  clear hb2
  go_wp2_with (refine wpList_declA 62 (gcells zeroG) (gcells G) 5 (.tmp 13) zeroGrid rfl rfl rfl rfl rfl rfl rfl (gridSize _) (by simp only [gcells_size]) (gcells_one _) ?_)
  have HB3 := Lib.hid (HB2.out.alloc hs2 (.cells (gcells G) 62))
  have hg3 : (w2.alloc (.cells (gcells G) 62)).heap[w2.heap.size]? = some (.cells (gcells G) 62 (0, 0)) := heap_alloc_new _ _
  have hs3 : (w2.alloc (.cells (gcells G) 62)).heap.size = w2.heap.size + 1 := by simp
  generalize w2.alloc (.cells (gcells G) 62) = W3 at *
  refine (open_any (HR'.out.below HB3.out) (HE.out.below HB3.out (Nat.le_refl _))).mono ?_
  rintro e w4 ⟨rfl, hb4⟩
  rw [← HA.out, ← HH.out]
  have HG4 : Hid (w4.heap[w2.heap.size]? = some (.cells (gcells G) 62 (0, 0))) := Lib.hid ((hb4.block _ (by omega)).trans hg3)
  have hs4 := hb4.size
  have HB4 := Lib.hid (HB3.out.trans (hb4.mono (by omega)))
  clear hg3 hb4
  go_wp2_with (refine wpList_declA 62 (gcells zeroG) (gcells H) 7 (.tmp 18) zeroGrid rfl rfl rfl rfl rfl rfl rfl (gridSize _) (by simp only [gcells_size]) (gcells_one _) ?_)
  have HB5 := Lib.hid (HB4.out.alloc HB4.out.size (.cells (gcells H) 62))
  have HG5 : Hid ((w4.alloc (.cells (gcells H) 62)).heap[w2.heap.size]? = some (.cells (gcells G) 62 (0, 0))) := Lib.hid (by rw [Below.heap_alloc _ _ _ (by omega)]; exact HG4.out)
  have HH5 : Hid ((w4.alloc (.cells (gcells H) 62)).heap[w4.heap.size]? = some (.cells (gcells H) 62 (0, 0))) := Lib.hid (heap_alloc_new _ _)
  generalize w4.alloc (.cells (gcells H) 62) = W5 at *
  go_loopw [20] (fun i wr => ∃ k : Nat, k ≤ 64 ∧ i = .int .i64 k ∧ NoneUpto G H k ∧ ∃ q, wr = W5.drewN q) (fun i wr => 64 - (intOf i).toNat)
  case atStart => exact ⟨0, by omega, rfl, (fun j hj => by omega), 0, rfl⟩
  case round =>
    obtain ⟨k, hk, rfl, hnone, q, rfl⟩ := hrel
    by_cases hlt : k < 64
    · have hGk := HWG.out k
      have hHk := HWH.out k
      have cg : W5.cell? ⟨w2.heap.size, k, none⟩ = some (.int .u64 (G k : Nat)) := by
        rw [cell_of_row W5 _ k _ _ _ HG5.out, gcells_get _ _ hlt]
      have ch : W5.cell? ⟨w4.heap.size, k, none⟩ = some (.int .u64 (H k : Nat)) := by
        rw [cell_of_row W5 _ k _ _ _ HH5.out, gcells_get _ _ hlt]
      have hb : bits BinOp.andNot IntKind.u64 (G k : Nat) (H k : Nat) = ((minF (G k) (H k) : Nat) : Int) := u64_andNot_nat _ _ hGk hHk
      by_cases hz : minF (G k) (H k) = 0
      · rw [hz] at hb
        have HZ := Lib.hid hz
        clear hz
        go_wp2
        go_quiet (fail)
        go_wp2
        go_roundw
        case rel =>
          refine ⟨k + 1, by omega, by go_num, ?_, _, rfl⟩
          intro j hj
          by_cases hjk : j = k
          · subst hjk; exact HZ.out
          · exact hnone j (by omega)
        case measure => simp [intOf]; omega
      · have HZ := Lib.hid (HC.out.1 k hlt hz)
        have hn : (bits BinOp.andNot IntKind.u64 (G k : Nat) (H k : Nat) != 0) = true := by
          rw [hb]; simp; omega
        clear hb hz
        go_wp2
        go_quiet (fail)
        go_wp2
        go_ret
        exact ⟨ret_bool HZ.out.symm, below_drewN (below_drewN HB5.out _) _⟩
    · obtain rfl : k = 64 := by omega
      have HZ := Lib.hid (HC.out.2 hnone)
      cases ok <;> cases also
      all_goals
        go_wp2
        go_ret
        exact ⟨ret_bool HZ.out.symm, below_drewN HB5.out _⟩
end Go.Proofs.YtbpkfpkhnkcgkaaDoorR
