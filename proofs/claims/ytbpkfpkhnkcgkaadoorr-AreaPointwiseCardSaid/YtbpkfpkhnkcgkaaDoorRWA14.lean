/- The walk of Grow. The conditions: what the slice reads as, the table of bits.TrailingZeros64, an int's range. -/
import Derived.Test.YtbpkfpkhnkcgkaaDoorRWA13
import Derived.Test.YtbpkfpkhnkcgkaaDoorRPA3
namespace Go.Proofs.YtbpkfpkhnkcgkaaDoorR
open Go.RowKit Go.BigFrame

/-- The grown rectangles so far. -/
def growG (xs : List R4) (d : Int) (k : Nat) : Nat → Nat := ((xs.take k).map (growR d)).foldl fillG zeroG
theorem growG_succ (xs : List R4) (d : Int) (k : Nat) (q : R4) (h : xs[k]? = some q) : growG xs d (k + 1) = fillG (growG xs d k) (growR d q) := by
  unfold growG
  rw [List.take_add_one, h]
  simp [List.foldl_append]
theorem growG_words (xs : List R4) (d : Int) (hd : 0 ≤ d) (hv : ∀ q ∈ xs, vrect q = true) (k : Nat) : Words (growG xs d k) := by
  refine foldl_words _ ?_ _ zeroG_words
  rw [List.all_eq_true]
  intro q hq
  rw [List.mem_map] at hq
  obtain ⟨r, hr, rfl⟩ := hq
  exact growR_valid d hd r (hv r (List.mem_of_mem_take hr))

set_option maxHeartbeats 1000000 in
set_option maxRecDepth 100000 in
theorem grow_any {w : World} {v : Value} {xs : List R4} (d : Int) (hr : RS w v xs) (he : Env w) (hd : I64 d) :
    Calls Tryd.prog 15 #[v, .int .i64 d] w fun e w' => ∃ r, e = .returned (.tuple #[r, .int .i64 (growS xs d).2]) ∧ RS w' r (growS xs d).1 ∧ Below w.heap.size w w' := by
  obtain ⟨hd1, hd2⟩ := hd
  obtain ⟨a, cap, rfl, l1, l2, l3⟩ := hr.opened
  have H3 := Lib.hid l3
  have HR := Lib.hid hr
  have HE := Lib.hid he
  clear l3 hr he
  unfold maxLen at l2
  by_cases c : (openS xs).2 = true ∧ 0 ≤ d ∧ d ≤ 64
  · obtain ⟨c1, c2, c3⟩ := c
    have HV := Lib.hid ((open_area c1).1.valid)
    have HC : Hid (growS xs d = gareaS (growG xs d xs.length)) := Lib.hid (by unfold growS growG; rw [if_pos ⟨c1, c2, c3⟩, List.take_length])
    have HO := Lib.hid c1
    clear c1
    obtain ⟨n, hn⟩ : ∃ n, n = xs.length := ⟨_, rfl⟩
    rw [← hn] at l1 HR HC ⊢
    have HN := Lib.hid hn
    clear hn
    go_enter Tryd.func15, Tryd.ntmps15
    go_wp2_with (first | (go_at_call 16; refine (valid_any HR.out HE.out).mono ?_; rintro e w1 ⟨rfl, hb1⟩; rw [HO.out]) | (refine wpList_allocA 62 (gcells zeroG) zeroGrid rfl rfl ?_))
    have HB2 := Lib.hid (hb1.alloc hb1.size (.cells (gcells zeroG) 62))
    have HG2 : Hid ((w1.alloc (.cells (gcells zeroG) 62)).heap[w1.heap.size]? = some (.cells (gcells zeroG) 62 (0, 0))) := Lib.hid (heap_alloc_new _ _)
    have hs2 : (w1.alloc (.cells (gcells zeroG) 62)).heap.size = w1.heap.size + 1 := by simp
    have hs1 := hb1.size
    clear hb1
    generalize w1.alloc (.cells (gcells zeroG) 62) = W2 at *
    go_loopw [22] (fun i wr => ∃ k : Nat, k ≤ n ∧ i = .int .i64 k ∧ Hid (wr.heap[w1.heap.size]? = some (.cells (gcells (growG xs d k)) 62 (0, 0))) ∧ Below w.heap.size w wr ∧ w1.heap.size < wr.heap.size) (fun i wr => n - (intOf i).toNat)
    case atStart => exact ⟨0, by omega, rfl, HG2, HB2.out, by omega⟩
    case round =>
      obtain ⟨k, hk, rfl, hgr, hB, hsz⟩ := hrel
      by_cases hlt : k < n
      · obtain ⟨q, eq⟩ : ∃ q, xs[k]? = some q := ⟨_, List.getElem?_eq_getElem (by rw [← HN.out]; exact hlt)⟩
        obtain ⟨b, off, rfl, hb, c1, c4, c5, c6⟩ := H3.out k q eq
        obtain ⟨q1, q2, q3, q4, q5, q6⟩ := (vrect_iff q).1 (HV.out q (List.mem_of_getElem? eq))
        have eg := growG_succ xs d k q eq
        have ev := growR_valid d c2 q (HV.out q (List.mem_of_getElem? eq))
        obtain ⟨gr, hg⟩ : ∃ gr, growR d q = gr := ⟨_, rfl⟩
        rw [hg] at eg ev
        obtain ⟨m1, m2, m3, m4⟩ := gr
        have e1 : (if q.l - d < 0 then 0 else q.l - d) = m1 := by have := congrArg R4.l hg; simp only [growR] at this; rw [← this]; split <;> omega
        have e2 : (if 64 < q.r + d then 64 else q.r + d) = m2 := by have := congrArg R4.r hg; simp only [growR] at this; rw [← this]; split <;> omega
        have e3 : (if q.lo - d < 0 then 0 else q.lo - d) = m3 := by have := congrArg R4.lo hg; simp only [growR] at this; rw [← this]; split <;> omega
        have e4 : (if 64 < q.hi + d then 64 else q.hi + d) = m4 := by have := congrArg R4.hi hg; simp only [growR] at this; rw [← this]; split <;> omega
        have EQ := Lib.hid eg
        have HQ := Lib.hid ev
        have HW := Lib.hid (growG_words xs d c2 HV.out k)
        clear eq hg eg ev
        have d1 := cell_keepB hB hb c1
        have d2 := cell_keepB hB hb c4
        have d3 := cell_keepB hB hb c5
        have d4 := cell_keepB hB hb c6
        clear c1 c4 c5 c6
        have HB3 := Lib.hid (hB.alloc hB.size (.cells #[.int .i64 q.l, .int .i64 q.r, .int .i64 q.lo, .int .i64 q.hi] 36))
        have hG3 : Hid ((wr.alloc (.cells #[.int .i64 q.l, .int .i64 q.r, .int .i64 q.lo, .int .i64 q.hi] 36)).heap[w1.heap.size]? = some (.cells (gcells (growG xs d k)) 62 (0, 0))) := Lib.hid (by rw [Below.heap_alloc _ _ _ hsz]; exact hgr.out)
        go_wp2_with (go_at_call 35; refine (fill_any w1.heap.size _ ⟨m1, m2, m3, m4⟩ _ HQ.out hG3.out HW.out).mono ?_; rintro e w3 ⟨rfl, hg3, hw3⟩; have HG3 := Lib.hid hg3; have HW3 := Lib.hid hw3; clear hg3 hw3)
        go_roundw
        case rel =>
          refine ⟨k + 1, by omega, by go_num, ?_, HB3.out.grown HW3.out (by simp; omega) (fun j e => by cases e; omega), by have := HW3.out.size; simp at this; omega⟩
          rw [EQ.out]
          exact HG3
        case measure => simp [intOf]; omega
      · obtain rfl : k = n := by omega
        go_wp2_with (go_at_call 36; refine (garea_any w1.heap.size _ _ hgr.out (growG_words xs d c2 HV.out k) (HE.out.below hB (Nat.le_refl _))).mono ?_; rintro e w6 ⟨r, rfl, hr6, hb6⟩; have HR6 := Lib.hid hr6; have HB6 := Lib.hid (hB.trans (hb6.mono hB.size)); clear hr6 hb6)
        refine bodyPost_ret (results_tmp2 rfl _ _ _) rfl ?_
        rw [HC.out]
        exact ⟨_, rfl, HR6.out, HB6.out⟩
  · have HC : Hid (growS xs d = ([], 290)) := Lib.hid (by unfold growS; rw [if_neg c])
    obtain ⟨ok, hok⟩ : ∃ ok, ok = (openS xs).2 := ⟨_, rfl⟩
    rw [← hok] at c
    have HO := Lib.hid hok
    clear hok
    by_cases c1 : 0 ≤ d
    · by_cases c2 : d ≤ 64
      · have hok : ok = false := by
          cases ok
          · rfl
          · exact absurd ⟨rfl, c1, c2⟩ c
        subst hok
        clear c
        go_enter Tryd.func15, Tryd.ntmps15
        go_wp2_with (go_at_call 16; refine (valid_any HR.out HE.out).mono ?_; rintro e w1 ⟨rfl, hb1⟩; rw [← HO.out]; have HB1 := Lib.hid hb1; clear hb1)
        refine bodyPost_ret (results_tmp2 rfl _ _ _) rfl ?_
        rw [HC.out]
        exact ⟨_, rfl, RS.nil _, HB1.out⟩
      · clear c
        cases ok
        all_goals
          go_enter Tryd.func15, Tryd.ntmps15
          go_wp2_with (go_at_call 16; refine (valid_any HR.out HE.out).mono ?_; rintro e w1 ⟨rfl, hb1⟩; rw [← HO.out]; have HB1 := Lib.hid hb1; clear hb1)
          refine bodyPost_ret (results_tmp2 rfl _ _ _) rfl ?_
          rw [HC.out]
          exact ⟨_, rfl, RS.nil _, HB1.out⟩
    · clear c
      cases ok
      all_goals
        go_enter Tryd.func15, Tryd.ntmps15
        go_wp2_with (go_at_call 16; refine (valid_any HR.out HE.out).mono ?_; rintro e w1 ⟨rfl, hb1⟩; rw [← HO.out]; have HB1 := Lib.hid hb1; clear hb1)
        refine bodyPost_ret (results_tmp2 rfl _ _ _) rfl ?_
        rw [HC.out]
        exact ⟨_, rfl, RS.nil _, HB1.out⟩
end Go.Proofs.YtbpkfpkhnkcgkaaDoorR
