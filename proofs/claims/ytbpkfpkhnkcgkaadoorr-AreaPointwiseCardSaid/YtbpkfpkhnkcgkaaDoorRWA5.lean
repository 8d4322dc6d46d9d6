/- The walk of set: the places of rectangles. The condition: what the slice reads as. -/
import Derived.Test.YtbpkfpkhnkcgkaaDoorRWA4
namespace Go.Proofs.YtbpkfpkhnkcgkaaDoorR
open Go.RowKit Go.BigFrame

def zeroG : Nat → Nat := fun _ => 0
theorem zeroGrid : ZeroIs Tryd.prog 62 (gcells zeroG) := fun w => by kernel_rfl
theorem buildGrid : ∀ w, (Instr.build 62 #[]).run Tryd.prog w = .ok (.agg (gcells zeroG)) w := fun w => by kernel_rfl
theorem zeroG_words : Words zeroG := fun _ => by unfold zeroG; omega

/-- The places of valid rectangles; nothing if one is not valid. -/
def setS (xs : List R4) : (Nat → Nat) × Bool := if xs.all vrect then (xs.foldl fillG zeroG, true) else (zeroG, false)

theorem foldl_words (xs : List R4) (hx : xs.all vrect = true) (g : Nat → Nat) (hg : Words g) : Words (xs.foldl fillG g) := by
  induction xs generalizing g with
  | nil => exact hg
  | cons x xs ih =>
    simp only [List.all_cons, Bool.and_eq_true] at hx
    exact ih hx.2 _ (fillG_words hg hx.1)
theorem setS_words (xs : List R4) : Words (setS xs).1 := by
  unfold setS
  split
  · exact foldl_words xs (by assumption) _ zeroG_words
  · exact zeroG_words

set_option maxHeartbeats 1000000 in
set_option maxRecDepth 100000 in
theorem set_any {w : World} {v : Value} {xs : List R4} (hr : RS w v xs) :
    Calls Tryd.prog 40 #[v] w fun e w' => e = .returned (.tuple #[.agg (gcells (setS xs).1), .bool (setS xs).2]) ∧ Below w.heap.size w w' := by
  obtain ⟨a, cap, rfl, l1, l2, l3⟩ := hr.opened
  have H3 := Lib.hid l3
  clear l3 hr
  unfold maxLen at l2
  obtain ⟨n, hn⟩ : ∃ n, n = xs.length := ⟨_, rfl⟩
  rw [← hn] at l1 ⊢
  have HN := Lib.hid hn
  clear hn
  go_enter Tryd.func40, Tryd.ntmps40
  go_wp2_with (refine wpList_allocA 62 (gcells zeroG) zeroGrid rfl rfl ?_)
  go_loopw [9, 6] (fun i u wr => ∃ k : Nat, k ≤ n ∧ i = .int .i64 k ∧ Hid ((xs.take k).all vrect = true) ∧ Hid (wr.heap[w.heap.size + 1]? = some (.cells (gcells ((xs.take k).foldl fillG zeroG)) 62 (0, 0))) ∧ Hid (wr.heap[w.heap.size]? = some (.cells (gcells zeroG) 62 (0, 0))) ∧ Below w.heap.size w wr ∧ w.heap.size + 1 < wr.heap.size) (fun i u wr => n - (intOf i).toNat)
  case atStart =>
    refine ⟨0, by omega, rfl, rfl, ?_, ?_, ?_, ?_⟩
    · exact heap_alloc2_new w _ _
    · exact heap_alloc2_old w _ _
    · exact ((Below.refl _ _).alloc (Nat.le_refl _) _).alloc (by simp) _
    · simp
  case round =>
    obtain ⟨k, hk, rfl, hall, hgr, hres, hB, hsz⟩ := hrel
    by_cases hlt : k < n
    · obtain ⟨q, eq⟩ : ∃ q, xs[k]? = some q := ⟨_, List.getElem?_eq_getElem (by rw [← HN.out]; exact hlt)⟩
      obtain ⟨b, off, rfl, hb, c1, c2, c3, c4⟩ := H3.out k q eq
      have EQ := Lib.hid eq
      clear eq
      have d1 := cell_keepB hB hb c1
      have d2 := cell_keepB hB hb c2
      have d3 := cell_keepB hB hb c3
      have d4 := cell_keepB hB hb c4
      clear c1 c2 c3 c4
      by_cases hq : vrect q = true
      · have HQ := Lib.hid hq
        clear hq
        go_wp2_with (go_at_call 49; refine (isRect_any q _).mono ?_; rintro e w1 ⟨rfl, hb1⟩; rw [HQ.out]; have hc1 := (bcell hb1).1; have hc2 := (bcell hb1).2; have hs1 := hb1.size)
        have hg1 : w1.heap[w.heap.size + 1]? = some (.cells (gcells ((xs.take k).foldl fillG zeroG)) 62 (0, 0)) := by
          rw [hb1.block _ (by simp; omega), Below.heap_alloc _ _ _ (by omega)]; exact hgr.out
        have hr1 : w1.heap[w.heap.size]? = some (.cells (gcells zeroG) 62 (0, 0)) := by
          rw [hb1.block _ (by simp; omega), Below.heap_alloc _ _ _ (by omega)]; exact hres.out
        have hB1 : Below w.heap.size w w1 := (hB.alloc hB.size _).trans (hb1.mono (by simp; omega))
        have HR1 := Lib.hid hr1
        clear hc1 hc2 hr1
        refine (fill_any (w.heap.size + 1) _ q w1 HQ.out hg1 (foldl_words _ hall.out _ zeroG_words)).mono ?_
        rintro e w2 ⟨rfl, hg2, hw2⟩
        have HG2 := Lib.hid hg2
        clear hg2 hg1
        have hs2 := hw2.size
        go_wp2
        go_roundw
        case rel =>
          refine ⟨k + 1, by omega, by go_num, ?_, ?_, ?_, ?_, ?_⟩
          · rw [List.take_add_one, EQ.out]
            simp only [Option.toList_some, List.all_append, hall.out, List.all_cons, HQ.out]
            exact Lib.hid rfl
          · rw [List.take_add_one, EQ.out]
            simp only [Option.toList_some, List.foldl_append]
            exact HG2
          · show _ = _
            rw [hw2.block _ (by simp at hs1; omega) (by simp)]; exact HR1.out
          · exact hB1.grown hw2 hB1.size (fun j e => by cases e; omega)
          · simp at hs1; omega
        case measure => simp [intOf]; omega
      · have HQ : Hid (vrect q = false) := Lib.hid (by simpa using hq)
        clear hq
        go_wp2_with (first | (go_at_call 49; refine (isRect_any q _).mono ?_; rintro e w1 ⟨rfl, hb1⟩; rw [HQ.out]; have hc1 := (bcell hb1).1; have hc2 := (bcell hb1).2; have hs1 := hb1.size; have HR1 := Lib.hid (show w1.heap[w.heap.size]? = some (.cells (gcells zeroG) 62 (0, 0)) by rw [hb1.block _ (by simp; omega), Below.heap_alloc _ _ _ (by omega)]; exact hres.out)) | (refine wpList_buildA 62 (gcells zeroG) rfl rfl buildGrid ?_) | (refine wpList_store_row rfl 62 _ _ rfl w.heap.size (gcells zeroG) rfl rfl 62 (gcells zeroG) HR1.out (gridSize _) rfl (gcells_one _) ?_; clear hc1 hc2))
        have hset : setS xs = (zeroG, false) := by
          unfold setS
          rw [if_neg]
          intro h
          rw [List.all_eq_true] at h
          have := h q (List.mem_of_getElem? EQ.out)
          rw [HQ.out] at this; cases this
        refine bodyPost_ret (results_cellA_tmp rfl _ w.heap.size 62 (gcells zeroG) (0, 0) _ rfl (setRow_heap _ _ _ _ _ _ HR1.out) gridDesc rfl (gridSize _)) rfl ⟨by rw [hset]; rfl, ?_⟩
        have hB1 : Below w.heap.size w w1 := (hB.alloc hB.size _).trans (hb1.mono (by simp; omega))
        exact hB1.trans ⟨rfl, rfl, rfl, by simp, fun j hj => setRow_other _ _ _ _ (by omega)⟩
    · have hset : setS xs = (xs.foldl fillG zeroG, true) := by
        unfold setS
        have h := hall.out
        rw [List.take_of_length_le (by rw [← HN.out]; omega)] at h
        rw [if_pos h]
      have hgr' : wr.heap[w.heap.size + 1]? = some (.cells (gcells (xs.foldl fillG zeroG)) 62 (0, 0)) := by
        have h := hgr.out
        rwa [List.take_of_length_le (by rw [← HN.out]; omega)] at h
      have HG := Lib.hid hgr'
      clear hgr hgr'
      generalize xs.foldl fillG zeroG = G at *
      have HS := Lib.hid hset
      clear hset
      go_wp2_with (first | (refine wpList_loadA 62 _ (w.heap.size + 1) 62 (gcells G) (0, 0) _ rfl rfl rfl HG.out gridDesc rfl (gridSize _) ?_) | (refine wpList_store_row rfl 62 _ _ rfl w.heap.size (gcells G) rfl rfl 62 (gcells zeroG) hres.out (gridSize _) (by rw [gcells_size, gcells_size]) (gcells_one _) ?_))
      refine bodyPost_ret (results_cellA_tmp rfl _ w.heap.size 62 (gcells G) (0, 0) _ rfl (setRow_heap _ _ _ _ _ _ hres.out) gridDesc rfl (gridSize _)) rfl ⟨by rw [HS.out]; rfl, ?_⟩
      exact hB.trans ⟨rfl, rfl, rfl, by simp, fun j hj => setRow_other _ _ _ _ (by omega)⟩
end Go.Proofs.YtbpkfpkhnkcgkaaDoorR
