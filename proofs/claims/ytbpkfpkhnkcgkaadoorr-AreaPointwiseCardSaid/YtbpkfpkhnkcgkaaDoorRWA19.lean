/- The walk of the reference's Rects. The condition: the grid is given cell by cell. -/
import Derived.Test.YtbpkfpkhnkcgkaaDoorRWA18
namespace Go.Proofs.YtbpkfpkhnkcgkaaDoorR
open Go.RowKit Go.BigFrame

theorem browDesc : Tryd.prog.underlying 52 = some (.array 64 4) := by kernel_rfl
theorem browSize (row : Nat → Bool) : (Tryd.prog.info? 52).map (·.size) = some (bcells row).toList.length := by
  rw [Array.length_toList, bcells_size]; kernel_rfl

theorem row_rangeZ {w : World} {b : Nat} {p : Nat → Nat → Bool} {Z : Array Value} {t : TypeId} {fr : Nat × Nat} (h : w.heap[b]? = some (.cells Z t fr)) (hZ : Z = pcells p) (y : Nat) (hy : y < 64) : w.rangeAt b (y * 64) (bcells (p y)).toList := by
  subst hZ; exact row_range h y hy

set_option maxHeartbeats 4000000 in
set_option maxRecDepth 100000 in
theorem rrects_any (p : Nat → Nat → Bool) (Z : Array Value) (hZ : Z = pcells p) (w : World) :
    Calls Tryd.prog 30 #[.agg Z] w fun e w' => ∃ r, e = .returned r ∧ RS w' r (rectsS p) ∧ Below w.heap.size w w' := by
  have HZ := Lib.hid hZ
  clear hZ
  go_enter Tryd.func30, Tryd.ntmps30
  go_wp2_with (refine wpList_boxA 54 (.tmp 0) Z rfl rfl rfl ?_)
  have hbx : Hid ((w.alloc (.cells Z 54)).heap[w.heap.size]? = some (.cells Z 54 (0, 0))) := Lib.hid (heap_alloc_new _ _)
  have HB0 : Hid (Below w.heap.size w (w.alloc (.cells Z 54))) := Lib.hid ((Below.refl _ _).alloc (Nat.le_refl _) _)
  have hs0 : (w.alloc (.cells Z 54)).heap.size = w.heap.size + 1 := by simp
  generalize w.alloc (.cells Z 54) = W0 at *
  go_loopw [3, 4] (fun v i wr => ∃ (k : Nat) (vs : List Value), k ≤ 64 ∧ i = .int .i64 k ∧ vs.length ≤ k ∧ k ≤ vs.length ∧ OwnE wr (w.heap.size + 1) 33 1 v (vl vs) ∧ RowsAt wr (w.heap.size + 1) p vs ∧ Hid (wr.heap[w.heap.size]? = some (.cells Z 54 (0, 0))) ∧ Below w.heap.size w wr ∧ w.heap.size < wr.heap.size) (fun v i wr => 64 - (intOf i).toNat)
  case atStart => exact ⟨0, [], by omega, rfl, by simp, by simp, OwnE.nil _ _ _ _, (fun y u h => by simp at h), hbx, HB0.out, by omega⟩
  case round =>
    obtain ⟨k, vs, hk, rfl, hl1, hl2, hown, hrows, hbox, hB, hsz⟩ := hrel
    have HOW := Lib.hid hown
    have HRW := Lib.hid hrows
    clear hown hrows
    by_cases hlt : k < 64
    · go_wp2_with (first | (refine Go.wpList_load_mid rfl 52 (.tmp 16) rfl _ _ rfl (bcells (p k)).toList _ (row_rangeZ hbox.out HZ.out k hlt) browDesc rfl (browSize _) ?_) | (go_at_call 43; refine (rivs_any (p k) _ (by simp) _).mono ?_; rintro e w1 ⟨r, rfl, hr1, hb1⟩; obtain ⟨sa, sn, sc, hsl⟩ := owns_slice hr1; subst hsl; have HR1 := Lib.hid hr1; have HB1 := Lib.hid hb1; clear hr1 hb1) | (at_builtin; refine wpList_append_row (.tmp 14) (.tmp 19) (w.heap.size + 1) _ vs w1.heap.size (.slice sa sn sc) (OwnE.alloc (OwnE.far HOW.out HB1.out (Nat.le_refl _)) _) (by omega) (by have := HB1.out.size; simp; omega) (slice_one HR1.out) (heap_alloc_new _ _) rfl rfl rfl rfl ?_; intro v' w2 hown2 hg2))
      have HG2 := Lib.hid hg2
      have HO1 := Lib.hid (OwnE.alloc (OwnE.far HOW.out HB1.out (Nat.le_refl _)) (.cells #[.slice sa sn sc] 33))
      have HB1' := Lib.hid ((hB.trans (HB1.out.mono hB.size)).alloc (hB.trans (HB1.out.mono hB.size)).size (.cells #[.slice sa sn sc] 33))
      have HO2 := Lib.hid hown2
      have HB2 := Lib.hid (below_own HB1'.out HO1.out hg2 (by omega))
      have hs1 := HB1.out.size
      have hs2 : w.heap.size < w2.heap.size := by have := hg2.size; simp at this; omega
      have HX2 : Hid (w2.heap[w.heap.size]? = some (.cells Z 54 (0, 0))) := Lib.hid (by
        rw [hg2.block _ (by simp; omega) (fun e => by have := own_ge HOW.out _ e.symm; omega), Below.heap_alloc _ _ _ (by omega), HB1.out.block _ hsz]
        exact hbox.out)
      have HRW2 : Hid (RowsAt w2 (w.heap.size + 1) p (vs ++ [.slice sa sn sc])) := Lib.hid (by
        intro y u hu
        rcases Nat.lt_or_ge y vs.length with hy | hy
        · rw [List.getElem?_append_left hy] at hu
          exact OwnE.apart (OwnE.alloc (OwnE.far (HRW.out y u hu) HB1.out (Nat.le_refl _)) _) HO1.out (by decide) hg2
        · rw [List.getElem?_append_right hy] at hu
          obtain rfl : y = k := by
            rcases Nat.eq_or_lt_of_le hy with h | h
            · omega
            · rw [List.getElem?_eq_none (by simp; omega)] at hu; cases hu
          rw [show y - vs.length = 0 by omega] at hu
          simp at hu
          subst hu
          exact OwnE.apart (OwnE.alloc (OwnE.weaken HR1.out (by omega)) _) HO1.out (by decide) hg2)
      clear hg2 hown2
      go_wp2
      go_roundw
      case rel => exact ⟨k + 1, vs ++ [.slice sa sn sc], by omega, by go_num, by simp; omega, by simp; omega, HO2.out, HRW2.out, HX2, HB2.out, hs2⟩
      case measure => simp [intOf]; omega
    · have hRV : ∀ y u, vs[y]? = some u → SliceAt wr u 2 (ivl (ivs (p y))) := fun y u hu => SliceAt.of_own (HRW.out y u hu)
      have HRV := Lib.hid hRV
      obtain ⟨ra, rcap, hsl, r1, r2, r3⟩ := rows_open (rows_own HOW.out)
      subst hsl
      have HR3 := Lib.hid r3
      have hn1 : 64 ≤ vs.length := by omega
      have HBw := Lib.hid hB
      clear HOW HRW hRV r3 hbox hB HB0 hbx hs0
      generalize hn : vs.length = n at *
      have HN := Lib.hid hn
      clear hn
      unfold maxLen at r2
      go_wp2
      obtain ⟨W1, rfl⟩ : ∃ x : World, x = wr := ⟨_, rfl⟩
      go_loopw [5, 6] (fun v i w2 => ∃ k : Nat, k ≤ 64 ∧ i = .int .i64 k ∧ OwnR w2 W1.heap.size v (rectsUpto p k) ∧ Below W1.heap.size W1 w2) (fun v i w2 => 64 - (intOf i).toNat)
      case atStart => exact ⟨0, by omega, rfl, OwnR.nil _ _, Below.refl _ _⟩
      case round =>
        obtain ⟨w2, rfl⟩ : ∃ x : World, x = wr := ⟨_, rfl⟩
        obtain ⟨k, hk, rfl, hown, hB⟩ := hrel
        have HOW := Lib.hid hown
        clear hown
        by_cases hlt : k < 64
        · obtain ⟨u, hu⟩ : ∃ u, vs[k]? = some u := ⟨_, List.getElem?_eq_getElem (by rw [HN.out]; omega)⟩
          obtain ⟨rb, roff, rfl, hrb, c0⟩ := HR3.out k u hu
          obtain ⟨ia, icap, hsl, i1, i2, i3⟩ := ivl_open (HRV.out k u hu)
          subst hsl
          have HI3 := Lib.hid i3
          have HU := Lib.hid hu
          have d0 := cell_keepB hB hrb c0
          clear i3 hu c0
          generalize hm : (ivs (p k)).length = m at *
          have HM := Lib.hid hm
          clear hm
          unfold maxLen at i2
          have hone := Lib.hid (show m ≤ 64 by rw [← HM.out]; exact ivsUpto_len _ 64)
          go_wp2
          clear d0
          have hd64 : decide ((k : Int) < 64) = true := by simp; omega
          try rw [hd64]
          clear hd64
          go_loopw [5, 7] (fun v i w3 => ∃ j : Nat, j ≤ m ∧ i = .int .i64 j ∧ OwnR w3 W1.heap.size v (rectsUpto p k ++ ((ivs (p k)).take j).filterMap (rectOf p k)) ∧ Below W1.heap.size W1 w3) (fun v i w3 => m - (intOf i).toNat)
          case atStart => exact ⟨0, by omega, rfl, by simpa using HOW.out, hB⟩
          case round =>
            obtain ⟨w3, rfl⟩ : ∃ x : World, x = wr := ⟨_, rfl⟩
            obtain ⟨j, hj, rfl, hown3, hB3⟩ := hrel
            have HOW3 := Lib.hid hown3
            clear hown3
            have d0 := cell_keepB hB3 hrb (show W1.cell? ⟨rb, roff + k, none⟩ = _ from by obtain ⟨_, _, e1, _, e2⟩ := HR3.out k _ HU.out; cases e1; exact e2)
            by_cases hjm : j < m
            · obtain ⟨⟨l, r⟩, hx⟩ : ∃ x, (ivs (p k))[j]? = some x := ⟨_, List.getElem?_eq_getElem (by rw [HM.out]; exact hjm)⟩
              obtain ⟨ib, ioff, rfl, hib, c1, c2⟩ := HI3.out j (l, r) hx
              obtain ⟨hlr, hr64, hiv⟩ := (mem_ivs _ _ _).1 (List.mem_of_getElem? hx)
              have e1 := cell_keepB hB3 hib c1
              have e2 := cell_keepB hB3 hib c2
              dsimp only at e1 e2
              have htk : ((ivs (p k)).take (j + 1)).filterMap (rectOf p k) = ((ivs (p k)).take j).filterMap (rectOf p k) ++ (rectOf p k (l, r)).toList := by
                rw [List.take_add_one, hx, List.filterMap_append]
                simp [List.filterMap]
                cases rectOf p k (l, r) <;> rfl
              have HTK := Lib.hid htk
              have HIV := Lib.hid hiv
              clear c1 c2 hx htk hiv
              have HLEN : Hid ((rectsUpto p k ++ ((ivs (p k)).take j).filterMap (rectOf p k)).length ≤ 100000) := Lib.hid (len_ok p k j hlt)
              obtain ⟨W3, hW3⟩ : ∃ W3, W3 = w3.alloc (.cells #[.int .i64 (l : Nat), .int .i64 (r : Nat)] 32) := ⟨_, rfl⟩
              have HB31 : Hid (Below w3.heap.size w3 W3) := Lib.hid (by rw [hW3]; exact (Below.refl _ _).alloc (Nat.le_refl _) _)
              have HBX : Hid (W3.heap[w3.heap.size]? = some (.cells #[.int .i64 (l : Nat), .int .i64 (r : Nat)] 32 (0, 0))) := Lib.hid (by rw [hW3]; exact heap_alloc_new _ _)
              have hbs : w3.heap.size < W3.heap.size := by rw [hW3]; simp
              have HO3 : Hid (OwnR W3 W1.heap.size _ (rectsUpto p k ++ ((ivs (p k)).take j).filterMap (rectOf p k))) := Lib.hid (by rw [hW3]; exact OwnE.alloc HOW3.out _)
              have hs3 := hB3.size
              by_cases hA1 : 0 < k ∧ isIv (p (k - 1)) l r = true
              · obtain ⟨hk0, hivp⟩ := hA1
                have HREC : Hid (rectOf p k (l, r) = none) := Lib.hid (by unfold rectOf; rw [if_pos ⟨hk0, hivp⟩])
                obtain ⟨u', hu'⟩ : ∃ u', vs[k - 1]? = some u' := ⟨_, List.getElem?_eq_getElem (by rw [HN.out]; omega)⟩
                have f0 : W3.cell? ⟨rb, roff + (k - 1), none⟩ = some u' := cell_keepB HB31.out (by omega) (cell_keepB hB3 hrb (by obtain ⟨_, _, e1, _, e2⟩ := HR3.out (k - 1) _ hu'; cases e1; exact e2))
                have hsl' := HRV.out (k - 1) u' hu'
                have HS3 := Lib.hid ((hsl'.below hB3).belowB (Nat.le_refl _) HB31.out)
                obtain ⟨ja, jcap, hj1, j1, j2, _⟩ := ivl_open hsl'
                subst hj1
                unfold maxLen at j2
                have hc0 := cell_of_row W3 _ 0 _ _ _ HBX.out
                have hc1 := cell_of_row W3 _ 1 _ _ _ HBX.out
                have hk1 : ((k : Int) - 1).toNat = k - 1 := by omega
                have hdec0 : decide ((0 : Int) < (k : Int)) = true := by simp; omega
                have HQ := Lib.hid (hasL_iv (p (k - 1)) l r hlr hr64)
                have HIB := Lib.hid hivp
                clear hu' hsl' hivp
                go_wp2_with fail
                rw [← hW3]
                clear hW3
                refine wp_region_quiet_tail 9 (fun w' => ∃ n, w' = W3.drewN n) (by kernel_rfl) (by kernel_rfl) ⟨1, rfl⟩ ?_
                simp only [List.take_succ_cons, List.take_zero, List.drop_succ_cons, List.drop_zero]
                repeat (go_big_quiet_step (fail))
                refine wpQuiet_nil ?_
                rintro _ ⟨nq, rfl⟩
                go_wp2_with fail
                refine (rhas_any l r (SliceAt.drewN HS3.out nq)).mono ?_
                rintro e w5 ⟨rfl, hb5⟩
                rw [HQ.out, HIB.out]
                have HB5 := Lib.hid ((below_drewN (Below.refl _ W3) nq).trans hb5)
                clear hb5 hc0 hc1 f0
                go_wp2
                go_roundw
                case rel => exact ⟨j + 1, by omega, by go_num, by rw [HTK.out, HREC.out, Option.toList_none, List.append_nil]; exact OwnE.far HO3.out HB5.out (Nat.le_refl _), (hB3.trans (HB31.out.mono hs3)).trans (HB5.out.mono (Nat.le_trans hs3 (Nat.le_of_lt hbs)))⟩
                case measure => simp [intOf]; omega
              · have HREC : Hid ((rectOf p k (l, r)).toList = [⟨l, r, k, hiOf p l r k⟩]) := Lib.hid (by unfold rectOf; rw [if_neg hA1]; rfl)
                by_cases hk0 : 0 < k
                · have hivp : isIv (p (k - 1)) l r = false := by
                    cases h : isIv (p (k - 1)) l r
                    · rfl
                    · exact absurd ⟨hk0, h⟩ hA1
                  clear hA1
                  obtain ⟨u', hu'⟩ : ∃ u', vs[k - 1]? = some u' := ⟨_, List.getElem?_eq_getElem (by rw [HN.out]; omega)⟩
                  have f0 : W3.cell? ⟨rb, roff + (k - 1), none⟩ = some u' := cell_keepB HB31.out (by omega) (cell_keepB hB3 hrb (by obtain ⟨_, _, e1, _, e2⟩ := HR3.out (k - 1) _ hu'; cases e1; exact e2))
                  have hsl' := HRV.out (k - 1) u' hu'
                  have HS3 := Lib.hid ((hsl'.below hB3).belowB (Nat.le_refl _) HB31.out)
                  obtain ⟨ja, jcap, hj1, j1, j2, _⟩ := ivl_open hsl'
                  subst hj1
                  unfold maxLen at j2
                  have hc0 := cell_of_row W3 _ 0 _ _ _ HBX.out
                  have hc1 := cell_of_row W3 _ 1 _ _ _ HBX.out
                  have hk1 : ((k : Int) - 1).toNat = k - 1 := by omega
                  have hdec0 : decide ((0 : Int) < (k : Int)) = true := by simp; omega
                  have HQ := Lib.hid (hasL_iv (p (k - 1)) l r hlr hr64)
                  have HIB := Lib.hid hivp
                  clear hu' hsl' hivp
                  go_wp2_with fail
                  rw [← hW3]
                  clear hW3
                  refine wp_region_quiet_tail 9 (fun w' => ∃ n, w' = W3.drewN n) (by kernel_rfl) (by kernel_rfl) ⟨1, rfl⟩ ?_
                  simp only [List.take_succ_cons, List.take_zero, List.drop_succ_cons, List.drop_zero]
                  repeat (go_big_quiet_step (fail))
                  refine wpQuiet_nil ?_
                  rintro _ ⟨nq, rfl⟩
                  go_wp2_with fail
                  refine (rhas_any l r (SliceAt.drewN HS3.out nq)).mono ?_
                  rintro e w5 ⟨rfl, hb5⟩
                  rw [HQ.out, HIB.out]
                  have HB5 := Lib.hid ((below_drewN (Below.refl _ W3) nq).trans hb5)
                  clear hb5 hc0 hc1 f0
                  go_wp2_with fail
                  go_loopw [9] (fun i w6 => ∃ b : Nat, k ≤ b ∧ b ≤ 64 ∧ i = .int .i64 b ∧ Hid (∀ z, k ≤ z → z < b → isIv (p z) l r = true) ∧ Below W3.heap.size W3 w6) (fun i w6 => 64 - (intOf i).toNat)
                  case atStart => exact ⟨k, Nat.le_refl _, by omega, rfl, (fun z h1 h2 => by omega), HB5.out⟩
                  case round =>
                    obtain ⟨w6, rfl⟩ : ∃ x : World, x = wr := ⟨_, rfl⟩
                    obtain ⟨b, hb1, hb2, rfl, hall, hB6⟩ := hrel
                    have hs6 := hB6.size
                    by_cases hb64 : b < 64
                    · obtain ⟨u', hu'⟩ : ∃ u', vs[b]? = some u' := ⟨_, List.getElem?_eq_getElem (by rw [HN.out]; omega)⟩
                      have f0 : w6.cell? ⟨rb, roff + b, none⟩ = some u' := cell_keepB hB6 (by omega) (cell_keepB HB31.out (by omega) (cell_keepB hB3 hrb (by obtain ⟨_, _, e1, _, e2⟩ := HR3.out b _ hu'; cases e1; exact e2)))
                      have hsl' := HRV.out b u' hu'
                      have HS6 := Lib.hid (((hsl'.below hB3).belowB (Nat.le_refl _) HB31.out).belowB (by omega) hB6)
                      obtain ⟨ja, jcap, hj1, j1, j2, _⟩ := ivl_open hsl'
                      subst hj1
                      unfold maxLen at j2
                      have hc0 := cell_keepB hB6 hbs (cell_of_row W3 _ 0 _ _ _ HBX.out)
                      have hc1 := cell_keepB hB6 hbs (cell_of_row W3 _ 1 _ _ _ HBX.out)
                      have hdec : decide ((b : Int) < 64) = true := by simp; omega
                      have HQ := Lib.hid (hasL_iv (p b) l r hlr hr64)
                      clear hu' hsl'
                      by_cases hivb : isIv (p b) l r = true
                      · have HIB := Lib.hid hivb
                        clear hivb
                        go_wp2_with fail
                        refine wp_region_quiet_tail 8 (fun w' => ∃ n, w' = w6.drewN n) (by kernel_rfl) (by kernel_rfl) ⟨1, rfl⟩ ?_
                        simp only [List.take_succ_cons, List.take_zero, List.drop_succ_cons, List.drop_zero]
                        repeat (go_big_quiet_step (fail))
                        refine wpQuiet_nil ?_
                        rintro _ ⟨nq, rfl⟩
                        go_wp2_with (go_at_call 44; refine (rhas_any l r (SliceAt.drewN HS6.out nq)).mono ?_; rintro e w7 ⟨rfl, hb7⟩; rw [HQ.out, HIB.out]; have HB7 := Lib.hid ((below_drewN hB6 nq).trans (hb7.mono hs6)); clear hb7)
                        go_roundw
                        case rel =>
                          refine ⟨b + 1, by omega, by omega, by go_num, fun z h1 h2 => ?_, HB7.out⟩
                          by_cases e : z = b
                          · subst e; exact HIB.out
                          · exact hall.out z h1 (by omega)
                        case measure => simp [intOf]; omega
                      · have HIB : Hid (isIv (p b) l r = false) := Lib.hid (by simpa using hivb)
                        have he : b = 64 ∨ isIv (p b) l r = false := .inr HIB.out
                        clear hivb
                        have HE := Lib.hid he
                        clear he
                        go_wp2_with fail
                        refine wp_region_quiet_tail 8 (fun w' => ∃ n, w' = w6.drewN n) (by kernel_rfl) (by kernel_rfl) ⟨1, rfl⟩ ?_
                        simp only [List.take_succ_cons, List.take_zero, List.drop_succ_cons, List.drop_zero]
                        repeat (go_big_quiet_step (fail))
                        refine wpQuiet_nil ?_
                        rintro _ ⟨nq, rfl⟩
                        go_wp2_with fail
                        refine (rhas_any l r (SliceAt.drewN HS6.out nq)).mono ?_
                        rintro e w7 ⟨rfl, hb7⟩
                        rw [HQ.out, HIB.out]
                        have HB7 := Lib.hid ((below_drewN hB6 nq).trans (hb7.mono hs6))
                        clear hb7 hc0 hc1 f0
                        have he := HE.out
                        have hfin : hiOf p l r k = b := by
                          refine endOf_eq _ b hb2 he 64 (k + 1) ?_ (by omega) (fun z h1 h2 => hall.out z (by omega) h2)
                          rcases Nat.lt_or_ge k b with h | h
                          · omega
                          · have e : b = k := by omega
                            subst e
                            rcases he with he | he
                            · omega
                            · rw [HIV.out] at he; cases he
                        have HFIN := Lib.hid hfin
                        clear hfin he
                        have HO7 := Lib.hid (OwnE.far HO3.out HB7.out (Nat.le_refl _))
                        have hc0 := cell_keepB HB7.out hbs (cell_of_row W3 _ 0 _ _ _ HBX.out)
                        have hc1 := cell_keepB HB7.out hbs (cell_of_row W3 _ 1 _ _ _ HBX.out)
                        have hs7 := HB7.out.size
                        go_wp2_with (at_builtin; refine wpList_append_rect (.tmp 65) (.tmp 73) W1.heap.size _ (rectsUpto p k ++ ((ivs (p k)).take j).filterMap (rectOf p k)) w7.heap.size ⟨l, r, k, b⟩ (OwnE.alloc HO7.out _) HLEN.out (by simp; omega) (heap_alloc_new _ _) rfl rfl rfl rfl ?_; intro v' w8 hown8 hg8)
                        have HO8 := Lib.hid hown8
                        have HB8 := Lib.hid (below_own (((hB3.trans (HB31.out.mono hs3)).trans (HB7.out.mono (by omega))).alloc (by omega) _) (OwnE.alloc HO7.out _) hg8 (Nat.le_refl _))
                        clear hown8 hg8
                        go_wp2
                        go_roundw
                        case rel => exact ⟨j + 1, by omega, by go_num, by rw [HTK.out, ← List.append_assoc, HREC.out, HFIN.out]; exact HO8.out, HB8.out⟩
                        case measure => simp [intOf]; omega
                    · have he : b = 64 ∨ isIv (p b) l r = false := .inl (by omega)
                      have hdec : decide ((b : Int) < 64) = false := by simp; omega
                      have HE := Lib.hid he
                      clear he
                      go_wp2_with fail
                      go_quiet (fail)
                      obtain ⟨w7, hw7⟩ : ∃ w7, w7 = World.drewN w6 nq := ⟨_, rfl⟩
                      have HB7 : Hid (Below W3.heap.size W3 w7) := Lib.hid (by rw [hw7]; exact below_drewN hB6 nq)
                      rw [← hw7]
                      clear hw7
                      have he := HE.out
                      have hfin : hiOf p l r k = b := by
                        refine endOf_eq _ b hb2 he 64 (k + 1) ?_ (by omega) (fun z h1 h2 => hall.out z (by omega) h2)
                        rcases Nat.lt_or_ge k b with h | h
                        · omega
                        · have e : b = k := by omega
                          subst e
                          rcases he with he | he
                          · omega
                          · rw [HIV.out] at he; cases he
                      have HFIN := Lib.hid hfin
                      clear hfin he
                      have HO7 := Lib.hid (OwnE.far HO3.out HB7.out (Nat.le_refl _))
                      have hc0 := cell_keepB HB7.out hbs (cell_of_row W3 _ 0 _ _ _ HBX.out)
                      have hc1 := cell_keepB HB7.out hbs (cell_of_row W3 _ 1 _ _ _ HBX.out)
                      have hs7 := HB7.out.size
                      go_wp2_with (at_builtin; refine wpList_append_rect (.tmp 65) (.tmp 73) W1.heap.size _ (rectsUpto p k ++ ((ivs (p k)).take j).filterMap (rectOf p k)) w7.heap.size ⟨l, r, k, b⟩ (OwnE.alloc HO7.out _) HLEN.out (by simp; omega) (heap_alloc_new _ _) rfl rfl rfl rfl ?_; intro v' w8 hown8 hg8)
                      have HO8 := Lib.hid hown8
                      have HB8 := Lib.hid (below_own (((hB3.trans (HB31.out.mono hs3)).trans (HB7.out.mono (by omega))).alloc (by omega) _) (OwnE.alloc HO7.out _) hg8 (Nat.le_refl _))
                      clear hown8 hg8
                      go_wp2
                      go_roundw
                      case rel => exact ⟨j + 1, by omega, by go_num, by rw [HTK.out, ← List.append_assoc, HREC.out, HFIN.out]; exact HO8.out, HB8.out⟩
                      case measure => simp [intOf]; omega
                · clear hA1
                  have hdec0 : decide ((0 : Int) < (k : Int)) = false := by simp; omega
                  go_wp2_with fail
                  rw [← hW3]
                  clear hW3
                  go_quiet (fail)
                  have HB5 : Hid (Below W3.heap.size W3 (World.drewN W3 nq)) := Lib.hid (below_drewN (Below.refl _ _) nq)
                  go_wp2_with fail
                  go_loopw [9] (fun i w6 => ∃ b : Nat, k ≤ b ∧ b ≤ 64 ∧ i = .int .i64 b ∧ Hid (∀ z, k ≤ z → z < b → isIv (p z) l r = true) ∧ Below W3.heap.size W3 w6) (fun i w6 => 64 - (intOf i).toNat)
                  case atStart => exact ⟨k, Nat.le_refl _, by omega, rfl, (fun z h1 h2 => by omega), HB5.out⟩
                  case round =>
                    obtain ⟨w6, rfl⟩ : ∃ x : World, x = wr := ⟨_, rfl⟩
                    obtain ⟨b, hb1, hb2, rfl, hall, hB6⟩ := hrel
                    have hs6 := hB6.size
                    by_cases hb64 : b < 64
                    · obtain ⟨u', hu'⟩ : ∃ u', vs[b]? = some u' := ⟨_, List.getElem?_eq_getElem (by rw [HN.out]; omega)⟩
                      have f0 : w6.cell? ⟨rb, roff + b, none⟩ = some u' := cell_keepB hB6 (by omega) (cell_keepB HB31.out (by omega) (cell_keepB hB3 hrb (by obtain ⟨_, _, e1, _, e2⟩ := HR3.out b _ hu'; cases e1; exact e2)))
                      have hsl' := HRV.out b u' hu'
                      have HS6 := Lib.hid (((hsl'.below hB3).belowB (Nat.le_refl _) HB31.out).belowB (by omega) hB6)
                      obtain ⟨ja, jcap, hj1, j1, j2, _⟩ := ivl_open hsl'
                      subst hj1
                      unfold maxLen at j2
                      have hc0 := cell_keepB hB6 hbs (cell_of_row W3 _ 0 _ _ _ HBX.out)
                      have hc1 := cell_keepB hB6 hbs (cell_of_row W3 _ 1 _ _ _ HBX.out)
                      have hdec : decide ((b : Int) < 64) = true := by simp; omega
                      have HQ := Lib.hid (hasL_iv (p b) l r hlr hr64)
                      clear hu' hsl'
                      by_cases hivb : isIv (p b) l r = true
                      · have HIB := Lib.hid hivb
                        clear hivb
                        go_wp2_with fail
                        refine wp_region_quiet_tail 8 (fun w' => ∃ n, w' = w6.drewN n) (by kernel_rfl) (by kernel_rfl) ⟨1, rfl⟩ ?_
                        simp only [List.take_succ_cons, List.take_zero, List.drop_succ_cons, List.drop_zero]
                        repeat (go_big_quiet_step (fail))
                        refine wpQuiet_nil ?_
                        rintro _ ⟨nq, rfl⟩
                        go_wp2_with (go_at_call 44; refine (rhas_any l r (SliceAt.drewN HS6.out nq)).mono ?_; rintro e w7 ⟨rfl, hb7⟩; rw [HQ.out, HIB.out]; have HB7 := Lib.hid ((below_drewN hB6 nq).trans (hb7.mono hs6)); clear hb7)
                        go_roundw
                        case rel =>
                          refine ⟨b + 1, by omega, by omega, by go_num, fun z h1 h2 => ?_, HB7.out⟩
                          by_cases e : z = b
                          · subst e; exact HIB.out
                          · exact hall.out z h1 (by omega)
                        case measure => simp [intOf]; omega
                      · have HIB : Hid (isIv (p b) l r = false) := Lib.hid (by simpa using hivb)
                        have he : b = 64 ∨ isIv (p b) l r = false := .inr HIB.out
                        clear hivb
                        have HE := Lib.hid he
                        clear he
                        go_wp2_with fail
                        refine wp_region_quiet_tail 8 (fun w' => ∃ n, w' = w6.drewN n) (by kernel_rfl) (by kernel_rfl) ⟨1, rfl⟩ ?_
                        simp only [List.take_succ_cons, List.take_zero, List.drop_succ_cons, List.drop_zero]
                        repeat (go_big_quiet_step (fail))
                        refine wpQuiet_nil ?_
                        rintro _ ⟨nq, rfl⟩
                        go_wp2_with fail
                        refine (rhas_any l r (SliceAt.drewN HS6.out nq)).mono ?_
                        rintro e w7 ⟨rfl, hb7⟩
                        rw [HQ.out, HIB.out]
                        have HB7 := Lib.hid ((below_drewN hB6 nq).trans (hb7.mono hs6))
                        clear hb7 hc0 hc1 f0
                        have he := HE.out
                        have hfin : hiOf p l r k = b := by
                          refine endOf_eq _ b hb2 he 64 (k + 1) ?_ (by omega) (fun z h1 h2 => hall.out z (by omega) h2)
                          rcases Nat.lt_or_ge k b with h | h
                          · omega
                          · have e : b = k := by omega
                            subst e
                            rcases he with he | he
                            · omega
                            · rw [HIV.out] at he; cases he
                        have HFIN := Lib.hid hfin
                        clear hfin he
                        have HO7 := Lib.hid (OwnE.far HO3.out HB7.out (Nat.le_refl _))
                        have hc0 := cell_keepB HB7.out hbs (cell_of_row W3 _ 0 _ _ _ HBX.out)
                        have hc1 := cell_keepB HB7.out hbs (cell_of_row W3 _ 1 _ _ _ HBX.out)
                        have hs7 := HB7.out.size
                        go_wp2_with (at_builtin; refine wpList_append_rect (.tmp 65) (.tmp 73) W1.heap.size _ (rectsUpto p k ++ ((ivs (p k)).take j).filterMap (rectOf p k)) w7.heap.size ⟨l, r, k, b⟩ (OwnE.alloc HO7.out _) HLEN.out (by simp; omega) (heap_alloc_new _ _) rfl rfl rfl rfl ?_; intro v' w8 hown8 hg8)
                        have HO8 := Lib.hid hown8
                        have HB8 := Lib.hid (below_own (((hB3.trans (HB31.out.mono hs3)).trans (HB7.out.mono (by omega))).alloc (by omega) _) (OwnE.alloc HO7.out _) hg8 (Nat.le_refl _))
                        clear hown8 hg8
                        go_wp2
                        go_roundw
                        case rel => exact ⟨j + 1, by omega, by go_num, by rw [HTK.out, ← List.append_assoc, HREC.out, HFIN.out]; exact HO8.out, HB8.out⟩
                        case measure => simp [intOf]; omega
                    · have he : b = 64 ∨ isIv (p b) l r = false := .inl (by omega)
                      have hdec : decide ((b : Int) < 64) = false := by simp; omega
                      have HE := Lib.hid he
                      clear he
                      go_wp2_with fail
                      go_quiet (fail)
                      obtain ⟨w7, hw7⟩ : ∃ w7, w7 = World.drewN w6 nq := ⟨_, rfl⟩
                      have HB7 : Hid (Below W3.heap.size W3 w7) := Lib.hid (by rw [hw7]; exact below_drewN hB6 nq)
                      rw [← hw7]
                      clear hw7
                      have he := HE.out
                      have hfin : hiOf p l r k = b := by
                        refine endOf_eq _ b hb2 he 64 (k + 1) ?_ (by omega) (fun z h1 h2 => hall.out z (by omega) h2)
                        rcases Nat.lt_or_ge k b with h | h
                        · omega
                        · have e : b = k := by omega
                          subst e
                          rcases he with he | he
                          · omega
                          · rw [HIV.out] at he; cases he
                      have HFIN := Lib.hid hfin
                      clear hfin he
                      have HO7 := Lib.hid (OwnE.far HO3.out HB7.out (Nat.le_refl _))
                      have hc0 := cell_keepB HB7.out hbs (cell_of_row W3 _ 0 _ _ _ HBX.out)
                      have hc1 := cell_keepB HB7.out hbs (cell_of_row W3 _ 1 _ _ _ HBX.out)
                      have hs7 := HB7.out.size
                      go_wp2_with (at_builtin; refine wpList_append_rect (.tmp 65) (.tmp 73) W1.heap.size _ (rectsUpto p k ++ ((ivs (p k)).take j).filterMap (rectOf p k)) w7.heap.size ⟨l, r, k, b⟩ (OwnE.alloc HO7.out _) HLEN.out (by simp; omega) (heap_alloc_new _ _) rfl rfl rfl rfl ?_; intro v' w8 hown8 hg8)
                      have HO8 := Lib.hid hown8
                      have HB8 := Lib.hid (below_own (((hB3.trans (HB31.out.mono hs3)).trans (HB7.out.mono (by omega))).alloc (by omega) _) (OwnE.alloc HO7.out _) hg8 (Nat.le_refl _))
                      clear hown8 hg8
                      go_wp2
                      go_roundw
                      case rel => exact ⟨j + 1, by omega, by go_num, by rw [HTK.out, ← List.append_assoc, HREC.out, HFIN.out]; exact HO8.out, HB8.out⟩
                      case measure => simp [intOf]; omega
            · obtain rfl : j = m := by omega
              have HFIN : Hid (rectsUpto p k ++ ((ivs (p k)).take j).filterMap (rectOf p k) = rectsUpto p (k + 1)) := Lib.hid (by
                rw [rectsUpto_succ, List.take_of_length_le (by rw [HM.out]; omega)]
                rfl)
              go_wp2
              go_roundw
              case rel => exact ⟨k + 1, by omega, by go_num, by rw [← HFIN.out]; exact HOW3.out, hB3⟩
              case measure => simp [intOf]; omega
        · obtain rfl : k = 64 := by omega
          go_wp2
          go_ret
          exact ⟨_, rfl, OwnR.rs HOW.out, HBw.out.trans (hB.mono (by omega))⟩
end Go.Proofs.YtbpkfpkhnkcgkaaDoorR
