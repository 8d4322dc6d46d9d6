/- The walk of the reference's Show. The conditions: what the slices read as, lengths. -/
import Derived.Test.YtinfpbkbnhcifaaGreatDoorP07
namespace Go.Proofs.YtinfpbkbnhcifaaGreatDoor
open Go.RowKit Go.BigFrame

set_option maxHeartbeats 8000000 in
set_option maxRecDepth 100000 in
theorem rshow_any (key : ByteArray) (car n : Int) {w : World} {v vl : Value} {xs : List ByteArray} {l : List Int} (hr : SS w v xs) (hil : IL w vl l) (hll : l.length ≤ 100000) :
    Calls Tryz.prog 19 #[.string key, .agg #[.int .i64 car, v], .int .i64 n, vl] w (ShowIs w (showZ (showB key ⟨car, xs⟩ n l)) (showE (showB key ⟨car, xs⟩ n l))) := by
  obtain ⟨a, cap, rfl, l1, l2, l3⟩ := hr.opened
  obtain ⟨al, cl, rfl, k1, k2, k3⟩ := hil.opened
  have H3 := Lib.hid l3
  have K3 := Lib.hid k3
  unfold maxLen at l2 k2
  have HR := Lib.hid hr
  obtain ⟨m, hm⟩ : ∃ m, m = xs.length := ⟨_, rfl⟩
  rw [← hm] at l1 HR ⊢
  have HM := Lib.hid hm
  obtain ⟨L, hL⟩ : ∃ L, L = l.length := ⟨_, rfl⟩
  rw [← hL] at k1 hll ⊢
  have HLL := Lib.hid hL
  obtain ⟨W2, hW2⟩ : ∃ W2, W2 = (w.alloc (.cells #[.int .i64 car, .slice a m cap] 26)).alloc (.cells #[.int .i64 0, .int .i64 0, .string ⟨#[]⟩, .string ⟨#[]⟩, .slice none 0 0] 38) := ⟨_, rfl⟩
  have HB2 : Hid (Below w.heap.size w W2) := Lib.hid (by rw [hW2]; exact ((Below.refl _ _).alloc (Nat.le_refl _) _).alloc (by simp) _)
  have HR2 : Hid (W2.heap[w.heap.size]? = some (.cells #[.int .i64 car, .slice a m cap] 26 (0, 0))) := Lib.hid (by rw [hW2]; exact at_past w _ _)
  have HP2 : Hid (W2.heap[w.heap.size + 1]? = some zpartB) := Lib.hid (by rw [hW2]; exact at_second w _ _)
  have HS := Lib.hid (rsign_any key car n (SS.below HR.out HB2.out))
  have HW2 := Lib.hid hW2
  clear hW2 l3 k3 hr hil hm hL
  obtain ⟨c0, c1, _⟩ := two_cells HR2.out
  rcases sign_cases key car n xs with hsn | ⟨hk, hv, nn, rfl, hnl⟩
  · have HZ : Hid (showB key ⟨car, xs⟩ n l = none) := Lib.hid (showB_none hsn)
    obtain ⟨s1, s2⟩ := signZ_none hsn
    rw [s1, s2] at HS
    rw [HZ.out]
    clear hsn s1 s2
    go_enter Tryz.func19, Tryz.ntmps19
    go_upto_region 1 with fail
    rw [← HW2.out]
    go_wp2_with fail
    refine HS.out.mono ?_
    rintro e w3 ⟨rfl, hb3⟩
    unfold headZ
    have hb4 : Below w3.heap.size w3 (w3.alloc (.cells #[.int .i64 0, .int .i64 0, .string ⟨#[]⟩, .string ⟨#[]⟩] 35)) := (Below.refl _ _).alloc (Nat.le_refl _) _
    have HP4 := Lib.hid (kept_block (kept_block HP2.out hb3) hb4)
    have HB4 := Lib.hid (below_next HB2.out (below_next hb3 hb4))
    clear hb3 hb4 c0 c1
    go_upto_region 2 with fail
    obtain ⟨w4, hw4⟩ : ∃ W, W = w3.alloc (.cells #[.int .i64 0, .int .i64 0, .string ⟨#[]⟩, .string ⟨#[]⟩] 35) := ⟨_, rfl⟩
    rw [← hw4] at HP4 HB4 ⊢
    generalize w3.heap.size = hb at *
    clear hw4
    have hp4 := HP4.out
    unfold zpartB at hp4
    obtain ⟨z0, z1, z2, z3, z4⟩ := pfive hp4
    have zf : ∀ j, w4.frozen? ⟨w.heap.size + 1, j, none⟩ = false := fun j => by unfold World.frozen?; rw [hp4]; simp
    have HPF := Lib.hid hp4
    clear hp4
    go_wp2
    exact bodyPost_ret (results_cellA_tmp rfl _ (w.heap.size + 1) 38 #[.int .i64 0, .int .i64 0, .string ⟨#[]⟩, .string ⟨#[]⟩, .slice none 0 0] (0, 0) _ rfl (five_heap HPF.out _ _ _ _ _) Tryz.underlying38 rfl infoPart) rfl (showIs_none rfl (five_below HB4.out (Nat.le_succ _) _ _ _ _ _))
  · have hsg : signB key ⟨car, xs⟩ (nn : Int) = some (headS key car xs nn) := by
      unfold signB
      rw [if_pos ⟨hk, hv, by omega, by show (nn : Int) ≤ (xs.length : Int); omega⟩, Int.toNat_natCast]
    obtain ⟨s1, s2⟩ := signZ_some hsg
    rw [s1, s2] at HS
    obtain ⟨v1, v2, v3, v4⟩ : 0 ≤ car ∧ car ≤ 7 ∧ xs.length ≤ 60 ∧ ∀ s ∈ xs, s.size ≤ 1000 := valid_parts hv
    have hnm : nn ≤ m := by rw [HM.out]; exact hnl
    have hm60 : m ≤ 60 := by rw [HM.out]; exact v3
    have HPR : Hid (∀ (W : World) (i : Nat), Below w.heap.size w W → i < nn → Calls Tryz.prog 56 #[.slice a nn cap, .int .i64 i] W fun e w' => ∃ (pa : Option Addr) (pc : Nat), e = .returned (.tuple #[.slice pa (proofB (xs.take nn) i).length pc, .int .i64 0]) ∧ SS w' (.slice pa (proofB (xs.take nn) i).length pc) (proofB (xs.take nn) i) ∧ RowTy w' 9 (.slice pa (proofB (xs.take nn) i).length pc) ∧ Below W.heap.size W w') := Lib.hid (fun W i hW hi => by
      refine (rproof_any nn nn (Nat.le_refl _) i (by rw [List.length_take, ← HM.out]; omega) ((SS.below HR.out hW).cut nn hnm) hi (by omega) (fun x hx => by have := v4 x (List.mem_of_mem_take hx); omega)).mono ?_
      rintro e w' ⟨v', rfl, ho, hb⟩
      obtain ⟨pa, pc, rfl⟩ := ho.ss.form2
      exact ⟨pa, pc, rfl, ho.ss, rowTy_own ho, hb⟩)
    have HSH : Hid (showB key ⟨car, xs⟩ nn l = (itemsB xs nn l none).map fun z => { head := headS key car xs nn, items := z }) := Lib.hid (by rw [showB_some hk hv (by omega) (by omega), Int.toNat_natCast])
    rw [HSH.out]
    have HZ : Hid (itemsB xs nn l none = showFrom xs nn l 0 []) := Lib.hid (by unfold showFrom; cases h : itemsB xs nn l none <;> simp [prevL, h])
    obtain ⟨ZZ, hZZ⟩ : ∃ ZZ, ZZ = itemsB xs nn l none := ⟨_, rfl⟩
    rw [← hZZ] at HZ ⊢
    obtain ⟨H, hH⟩ : ∃ H, H = headS key car xs nn := ⟨_, rfl⟩
    rw [← hH] at HS ⊢
    obtain ⟨hc, hz, hrt, hsl⟩ := H
    unfold headV at HS
    simp only at HS
    clear hsg s1 s2 v1 v2 v3 v4 hZZ hH HSH hk hv HR hnl
    go_enter Tryz.func19, Tryz.ntmps19
    go_upto_region 1 with fail
    rw [← HW2.out]
    go_wp2_with fail
    refine HS.out.mono ?_
    rintro e w3 ⟨rfl, hb3⟩
    have HB3 := Lib.hid (below_next HB2.out hb3)
    have HR3 := Lib.hid (kept_block HR2.out hb3)
    have HP3 := Lib.hid (kept_block HP2.out hb3)
    clear hb3 c0 c1 HB2 HR2 HP2 HS HW2
    go_wp2
    have HV5 : Hid (RShow w ((w3.alloc (.cells #[.int .i64 hc, .int .i64 hz, .string hrt, .string hsl] 35)).alloc (.cells #[.int .i64 hc, .int .i64 hz, .string hrt, .string hsl, .slice none 0 0] 38)) (w3.heap.size + 1) #[.int .i64 car, .slice a m cap] ⟨hc, hz, hrt, hsl⟩ (.slice none 0 0) (.slice none 0 0) []) := Lib.hid (by
      have hb : Below w3.heap.size w3 ((w3.alloc (.cells #[.int .i64 hc, .int .i64 hz, .string hrt, .string hsl] 35)).alloc (.cells #[.int .i64 hc, .int .i64 hz, .string hrt, .string hsl, .slice none 0 0] 38)) := ((Below.refl _ _).alloc (Nat.le_refl _) _).alloc (by simp) _
      have := (Array.getElem?_eq_some_iff.1 HP3.out).1
      exact ⟨below_next HB3.out hb, kept_block HR3.out hb, kept_block HP3.out hb, at_second w3 _ _, OwnE.nil _ _ _ _, fun _ h => absurd h List.not_mem_nil, by omega⟩)
    obtain ⟨p, hp⟩ : ∃ p, p = w3.heap.size + 1 := ⟨_, rfl⟩
    rw [← hp] at HV5 ⊢
    generalize (w3.alloc (.cells #[.int .i64 hc, .int .i64 hz, .string hrt, .string hsl] 35)).alloc (.cells #[.int .i64 hc, .int .i64 hz, .string hrt, .string hsl, .slice none 0 0] 38) = W5 at *
    generalize w3.heap.size = hb3 at *
    clear HB3 HR3 HP3 hp
    go_loopw [13] (fun i wr => ∃ (k : Nat) (v : Value) (ys : List (ItemP × Value)), k ≤ L ∧ i = .int .i64 k ∧ ys.length = k ∧ Hid (ZZ = showFrom xs nn l k ys) ∧ Hid (RShow w wr p #[.int .i64 car, .slice a m cap] ⟨hc, hz, hrt, hsl⟩ v v ys)) (fun i _ => L - (intOf i).toNat)
    case atStart => exact ⟨0, _, [], by omega, rfl, rfl, HZ, HV5⟩
    case round =>
      clear HZ HV5
      obtain ⟨k, v, ys, hk', rfl, hyl, hZ, hA⟩ := hrel
      by_cases hlt : k < L
      · obtain ⟨i, ei⟩ : ∃ i, l[k]? = some i := ⟨_, List.getElem?_eq_getElem (by rw [← HLL.out]; exact hlt)⟩
        obtain ⟨bl, ol, rfl, hbl, c0⟩ := K3.out k i ei
        have HL := Lib.hid (fun W (hW : Below wr.heap.size wr W) => cell_keepB (below_next hA.out.1 hW) hbl c0)
        have HC0 := Lib.hid c0
        have EI := Lib.hid ei
        have tk : (k : Int) < (L : Int) := by omega
        have tk0 : (0 : Int) ≤ (k : Int) := by omega
        clear c0 ei
        obtain ⟨T, hT⟩ : ∃ T, T = decide (0 ≤ i ∧ i < (nn : Int) ∧ ∀ j, prevL l k = some j → j < i) := ⟨_, rfl⟩
        have HT := Lib.hid hT
        clear hT
        have HIN := Lib.hid (fun W => rin_any i 0 ((nn : Int) - 1) W)
        have f0 : IntKind.i64.wrap ((nn : Int) - 1) = (nn : Int) - 1 := IntWalk.i64_in _ (by omega)
        go_upto_region 8 with fail
        go_cut [57] (fun t wx => t = .bool (!T) ∧ Hid (Below wr.heap.size wr wx))
        case first =>
          by_cases hin : 0 ≤ i ∧ i ≤ (nn : Int) - 1
          · rw [decide_eq_true hin] at HIN
            by_cases h0 : k = 0
            · have HF : Hid (T = true) := Lib.hid (by rw [HT.out]; exact decide_eq_true ⟨by omega, by omega, fun j h => by rw [h0] at h; cases h⟩)
              have H0 := Lib.hid h0
              clear h0 hin
              refine wp_region_noPanic ?_
              refine wp_region_lexB [.q 0, .q 1, .q 2, .q 3, .q 4, .q 5, .b 6, .q 7, .q 8, .q 9, .q 10, .q 11, .q 12, .q 13, .q 14, .q 15, .q 16, .q 17, .q 18, .q 19, .q 20, .q 21, .q 22, .q 23] (by kernel_rfl) (by kernel_rfl) (fun _ _ _ _ h => h) ?_
              iterate 6 (refine wpFl_qL (v := ?_) rfl (Or.inl ⟨by rfl, ?_⟩) ?_; rotate_left; (focus (intro w' hSw; (try dsimp only [OldKept] at hSw); have e0 := HL.out w' hSw; go_simp; (try with_reducible rfl); done)); simp only [Act.put, List.setIfInBounds_toArray, List.set_cons_zero, List.set_cons_succ])
              refine wpFl_bL rfl (fun w8 hn8 hs8 K hK => ?_)
              go_simp
              go_at_call 55
              (with_reducible refine (HIN.out _).mono ?_)
              rintro e w' ⟨rfl, hw'⟩
              replace hw' := hw'.symm
              subst hw'
              have HB8 := Lib.hid hs8
              refine hK.out _ _ hs8 (Keeps.below (Below.refl _ _)) ?_
              clear hK K hn8 hs8
              refine wpFl_qL (v := .bool false) rfl (Or.inl ⟨by rfl, ?_⟩) ?_
              focus (intro w' hSw; go_simp; done)
              simp only [Act.put, List.setIfInBounds_toArray, List.set_cons_zero, List.set_cons_succ]
              iterate 2 (refine wpFl_qL (v := ?_) rfl (Or.inl ⟨by rfl, ?_⟩) ?_; rotate_left; (focus (intro w' hSw; (try dsimp only [OldKept] at hSw); go_simp; (try with_reducible rfl); done)); simp only [Act.put, List.setIfInBounds_toArray, List.set_cons_zero, List.set_cons_succ])
              refine wpFl_qL (v := .bool false) rfl (Or.inl ⟨by rfl, ?_⟩) ?_
              focus (intro w' hSw; go_simp; exact H0.out)
              simp only [Act.put, List.setIfInBounds_toArray, List.set_cons_zero, List.set_cons_succ]
              refine wpFl_qL (v := ?_) rfl (Or.inl ⟨by rfl, ?_⟩) ?_
              rotate_left
              focus (intro w' hSw; (try dsimp only [OldKept] at hSw); go_simp; (try with_reducible rfl); done)
              simp only [Act.put, List.setIfInBounds_toArray, List.set_cons_zero, List.set_cons_succ]
              iterate 10 (refine wpFl_qL (v := undef) rfl (Or.inr ⟨by rfl, rfl⟩) ?_; simp only [Act.put, List.setIfInBounds_toArray, List.set_cons_zero, List.set_cons_succ])
              refine wpFl_qL (v := .bool false) rfl (Or.inl ⟨by rfl, ?_⟩) ?_
              focus (intro w' hSw; go_simp; done)
              simp only [Act.put, List.setIfInBounds_toArray, List.set_cons_zero, List.set_cons_succ]
              refine wpFl_qL (v := .bool false) rfl (Or.inl ⟨by rfl, ?_⟩) ?_
              focus (intro w' hSw; go_simp; done)
              simp only [Act.put, List.setIfInBounds_toArray, List.set_cons_zero, List.set_cons_succ]
              refine wpFl_nil ?_
              refine NoPanic.normal ?_
              go_wp2
              go_meet
              case rel => exact ⟨by simp [HF.out], HB8⟩
            · have H0 : Hid (0 < k) := Lib.hid (Nat.pos_of_ne_zero h0)
              obtain ⟨j, hj⟩ : ∃ j, k = j + 1 := ⟨k - 1, by omega⟩
              obtain ⟨i', ei'⟩ : ∃ i', l[j]? = some i' := ⟨_, List.getElem?_eq_getElem (by rw [← HLL.out]; omega)⟩
              obtain ⟨bl', ol', eb, hbl', c0'⟩ := K3.out j i' ei'
              cases eb
              have HPV := Lib.hid (fun W (hW : Below wr.heap.size wr W) => cell_keepB (below_next hA.out.1 hW) hbl' c0')
              have f1 : IntKind.i64.wrap ((k : Int) - 1) = (j : Int) := by
                rw [show (k : Int) - 1 = (j : Int) by omega]
                exact IntWalk.i64_in _ (by omega)
              have b1 : (0 : Int) ≤ (j : Int) := by omega
              have b2 : (j : Int) < (L : Int) := by omega
              have HPr : Hid (prevL l k = some i') := Lib.hid (by rw [hj]; exact ei')
              clear ei' hj h0 c0'
              by_cases hlt2 : i' < i
              · have hd : decide (i ≤ i') = false := decide_eq_false (by omega)
                have HF : Hid (T = true) := Lib.hid (by rw [HT.out]; exact decide_eq_true ⟨by omega, by omega, fun j' h => by rw [HPr.out] at h; cases h; exact hlt2⟩)
                clear hin hlt2
                refine wp_region_noPanic ?_
                refine wp_region_lexB [.q 0, .q 1, .q 2, .q 3, .q 4, .q 5, .b 6, .q 7, .q 8, .q 9, .q 10, .q 11, .q 12, .q 13, .q 14, .q 15, .q 16, .q 17, .q 18, .q 19, .q 20, .q 21, .q 22, .q 23] (by kernel_rfl) (by kernel_rfl) (fun _ _ _ _ h => h) ?_
                iterate 6 (refine wpFl_qL (v := ?_) rfl (Or.inl ⟨by rfl, ?_⟩) ?_; rotate_left; (focus (intro w' hSw; (try dsimp only [OldKept] at hSw); have e0 := HL.out w' hSw; go_simp; (try with_reducible rfl); done)); simp only [Act.put, List.setIfInBounds_toArray, List.set_cons_zero, List.set_cons_succ])
                refine wpFl_bL rfl (fun w8 hn8 hs8 K hK => ?_)
                go_simp
                go_at_call 55
                (with_reducible refine (HIN.out _).mono ?_)
                rintro e w' ⟨rfl, hw'⟩
                replace hw' := hw'.symm
                subst hw'
                have HB8 := Lib.hid hs8
                refine hK.out _ _ hs8 (Keeps.below (Below.refl _ _)) ?_
                clear hK K hn8 hs8
                refine wpFl_qL (v := .bool false) rfl (Or.inl ⟨by rfl, ?_⟩) ?_
                focus (intro w' hSw; go_simp; done)
                simp only [Act.put, List.setIfInBounds_toArray, List.set_cons_zero, List.set_cons_succ]
                iterate 2 (refine wpFl_qL (v := ?_) rfl (Or.inl ⟨by rfl, ?_⟩) ?_; rotate_left; (focus (intro w' hSw; (try dsimp only [OldKept] at hSw); go_simp; (try with_reducible rfl); done)); simp only [Act.put, List.setIfInBounds_toArray, List.set_cons_zero, List.set_cons_succ])
                refine wpFl_qL (v := .bool true) rfl (Or.inl ⟨by rfl, ?_⟩) ?_
                focus (intro w' hSw; go_simp; exact H0.out)
                simp only [Act.put, List.setIfInBounds_toArray, List.set_cons_zero, List.set_cons_succ]
                refine wpFl_qL (v := ?_) rfl (Or.inl ⟨by rfl, ?_⟩) ?_
                rotate_left
                focus (intro w' hSw; (try dsimp only [OldKept] at hSw); go_simp; (try with_reducible rfl); done)
                simp only [Act.put, List.setIfInBounds_toArray, List.set_cons_zero, List.set_cons_succ]
                iterate 9 (refine wpFl_qL (v := ?_) rfl (Or.inl ⟨by rfl, ?_⟩) ?_; rotate_left; (focus (intro w' hSw; (try dsimp only [OldKept] at hSw); have e0 := HL.out w' hSw; have p0 := HPV.out w' hSw; go_simp; (try with_reducible rfl); done)); simp only [Act.put, List.setIfInBounds_toArray, List.set_cons_zero, List.set_cons_succ])
                refine wpFl_qL (v := .bool false) rfl (Or.inl ⟨by rfl, ?_⟩) ?_
                focus (intro w' hSw; go_simp; done)
                simp only [Act.put, List.setIfInBounds_toArray, List.set_cons_zero, List.set_cons_succ]
                refine wpFl_qL (v := .bool false) rfl (Or.inl ⟨by rfl, ?_⟩) ?_
                focus (intro w' hSw; go_simp; done)
                simp only [Act.put, List.setIfInBounds_toArray, List.set_cons_zero, List.set_cons_succ]
                refine wpFl_qL (v := .bool false) rfl (Or.inl ⟨by rfl, ?_⟩) ?_
                focus (intro w' hSw; go_simp; done)
                simp only [Act.put, List.setIfInBounds_toArray, List.set_cons_zero, List.set_cons_succ]
                refine wpFl_nil ?_
                refine NoPanic.normal ?_
                go_wp2
                go_meet
                case rel => exact ⟨by simp [HF.out], HB8⟩
              · have hd : decide (i ≤ i') = true := decide_eq_true (by omega)
                have HF : Hid (T = false) := Lib.hid (by rw [HT.out]; exact decide_eq_false (fun h => hlt2 (h.2.2 i' HPr.out)))
                clear hin hlt2
                refine wp_region_noPanic ?_
                refine wp_region_lexB [.q 0, .q 1, .q 2, .q 3, .q 4, .q 5, .b 6, .q 7, .q 8, .q 9, .q 10, .q 11, .q 12, .q 13, .q 14, .q 15, .q 16, .q 17, .q 18, .q 19, .q 20, .q 21, .q 22, .q 23] (by kernel_rfl) (by kernel_rfl) (fun _ _ _ _ h => h) ?_
                iterate 6 (refine wpFl_qL (v := ?_) rfl (Or.inl ⟨by rfl, ?_⟩) ?_; rotate_left; (focus (intro w' hSw; (try dsimp only [OldKept] at hSw); have e0 := HL.out w' hSw; go_simp; (try with_reducible rfl); done)); simp only [Act.put, List.setIfInBounds_toArray, List.set_cons_zero, List.set_cons_succ])
                refine wpFl_bL rfl (fun w8 hn8 hs8 K hK => ?_)
                go_simp
                go_at_call 55
                (with_reducible refine (HIN.out _).mono ?_)
                rintro e w' ⟨rfl, hw'⟩
                replace hw' := hw'.symm
                subst hw'
                have HB8 := Lib.hid hs8
                refine hK.out _ _ hs8 (Keeps.below (Below.refl _ _)) ?_
                clear hK K hn8 hs8
                refine wpFl_qL (v := .bool false) rfl (Or.inl ⟨by rfl, ?_⟩) ?_
                focus (intro w' hSw; go_simp; done)
                simp only [Act.put, List.setIfInBounds_toArray, List.set_cons_zero, List.set_cons_succ]
                iterate 2 (refine wpFl_qL (v := ?_) rfl (Or.inl ⟨by rfl, ?_⟩) ?_; rotate_left; (focus (intro w' hSw; (try dsimp only [OldKept] at hSw); go_simp; (try with_reducible rfl); done)); simp only [Act.put, List.setIfInBounds_toArray, List.set_cons_zero, List.set_cons_succ])
                refine wpFl_qL (v := .bool true) rfl (Or.inl ⟨by rfl, ?_⟩) ?_
                focus (intro w' hSw; go_simp; exact H0.out)
                simp only [Act.put, List.setIfInBounds_toArray, List.set_cons_zero, List.set_cons_succ]
                refine wpFl_qL (v := ?_) rfl (Or.inl ⟨by rfl, ?_⟩) ?_
                rotate_left
                focus (intro w' hSw; (try dsimp only [OldKept] at hSw); go_simp; (try with_reducible rfl); done)
                simp only [Act.put, List.setIfInBounds_toArray, List.set_cons_zero, List.set_cons_succ]
                iterate 9 (refine wpFl_qL (v := ?_) rfl (Or.inl ⟨by rfl, ?_⟩) ?_; rotate_left; (focus (intro w' hSw; (try dsimp only [OldKept] at hSw); have e0 := HL.out w' hSw; have p0 := HPV.out w' hSw; go_simp; (try with_reducible rfl); done)); simp only [Act.put, List.setIfInBounds_toArray, List.set_cons_zero, List.set_cons_succ])
                refine wpFl_qL (v := .bool true) rfl (Or.inl ⟨by rfl, ?_⟩) ?_
                focus (intro w' hSw; go_simp; done)
                simp only [Act.put, List.setIfInBounds_toArray, List.set_cons_zero, List.set_cons_succ]
                refine wpFl_qL (v := .bool true) rfl (Or.inl ⟨by rfl, ?_⟩) ?_
                focus (intro w' hSw; go_simp; done)
                simp only [Act.put, List.setIfInBounds_toArray, List.set_cons_zero, List.set_cons_succ]
                refine wpFl_qL (v := .bool true) rfl (Or.inl ⟨by rfl, ?_⟩) ?_
                focus (intro w' hSw; go_simp; done)
                simp only [Act.put, List.setIfInBounds_toArray, List.set_cons_zero, List.set_cons_succ]
                refine wpFl_nil ?_
                refine NoPanic.normal ?_
                go_wp2
                go_meet
                case rel => exact ⟨by simp [HF.out], HB8⟩
          · rw [decide_eq_false hin] at HIN
            have HF : Hid (T = false) := Lib.hid (by rw [HT.out]; exact decide_eq_false (fun h => hin ⟨h.1, by omega⟩))
            clear hin
            refine wp_region_noPanic ?_
            refine wp_region_lexB [.q 0, .q 1, .q 2, .q 3, .q 4, .q 5, .b 6, .q 7, .q 8, .q 9, .q 10, .q 11, .q 12, .q 13, .q 14, .q 15, .q 16, .q 17, .q 18, .q 19, .q 20, .q 21, .q 22, .q 23] (by kernel_rfl) (by kernel_rfl) (fun _ _ _ _ h => h) ?_
            iterate 6 (refine wpFl_qL (v := ?_) rfl (Or.inl ⟨by rfl, ?_⟩) ?_; rotate_left; (focus (intro w' hSw; (try dsimp only [OldKept] at hSw); have e0 := HL.out w' hSw; go_simp; (try with_reducible rfl); done)); simp only [Act.put, List.setIfInBounds_toArray, List.set_cons_zero, List.set_cons_succ])
            refine wpFl_bL rfl (fun w8 hn8 hs8 K hK => ?_)
            go_simp
            go_at_call 55
            (with_reducible refine (HIN.out _).mono ?_)
            rintro e w' ⟨rfl, hw'⟩
            replace hw' := hw'.symm
            subst hw'
            have HB8 := Lib.hid hs8
            refine hK.out _ _ hs8 (Keeps.below (Below.refl _ _)) ?_
            clear hK K hn8 hs8
            refine wpFl_qL (v := .bool true) rfl (Or.inl ⟨by rfl, ?_⟩) ?_
            focus (intro w' hSw; go_simp; done)
            simp only [Act.put, List.setIfInBounds_toArray, List.set_cons_zero, List.set_cons_succ]
            refine wpFl_qL (v := ?_) rfl (Or.inl ⟨by rfl, ?_⟩) ?_
            rotate_left
            focus (intro w' hSw; (try dsimp only [OldKept] at hSw); go_simp; (try with_reducible rfl); done)
            simp only [Act.put, List.setIfInBounds_toArray, List.set_cons_zero, List.set_cons_succ]
            iterate 14 (refine wpFl_qL (v := undef) rfl (Or.inr ⟨by rfl, rfl⟩) ?_; simp only [Act.put, List.setIfInBounds_toArray, List.set_cons_zero, List.set_cons_succ])
            refine wpFl_qL (v := .bool true) rfl (Or.inl ⟨by rfl, ?_⟩) ?_
            focus (intro w' hSw; go_simp; done)
            simp only [Act.put, List.setIfInBounds_toArray, List.set_cons_zero, List.set_cons_succ]
            refine wpFl_nil ?_
            refine NoPanic.normal ?_
            go_wp2
            go_meet
            case rel => exact ⟨by simp [HF.out], HB8⟩
        case rest =>
        obtain ⟨ht, HBc⟩ := hcut
        subst ht
        have HA := Lib.hid (hA.out.far HBc.out)
        clear HBc hA HL HIN f0
        cases T with
        | false =>
          have HF : Hid (ZZ = none) := Lib.hid (by
            rw [hZ.out]
            exact showFrom_no EI.out (fun h => of_decide_eq_false HT.out.symm ⟨h.1, h.2.1, h.2.2⟩))
          obtain ⟨g1, g2, g3, g4, g5, g6, g7⟩ := HA.out
          unfold zpartB at g3
          obtain ⟨z0, z1, z2, z3, z4⟩ := pfive g3
          have zf : ∀ j, wc.frozen? ⟨w.heap.size + 1, j, none⟩ = false := fun j => by unfold World.frozen?; rw [g3]; simp
          have HG3 := Lib.hid g3
          have HG1 := Lib.hid g1
          clear g1 g2 g3 g4 g5 g6 g7
          go_wp2
          rw [HF.out]
          exact bodyPost_ret (results_cellA_tmp rfl _ (w.heap.size + 1) 38 #[.int .i64 0, .int .i64 0, .string ⟨#[]⟩, .string ⟨#[]⟩, .slice none 0 0] (0, 0) _ rfl (five_heap HG3.out _ _ _ _ _) Tryz.underlying38 rfl infoPart) rfl (showIs_none rfl (five_below HG1.out (Nat.le_succ _) _ _ _ _ _))
        | true =>
          obtain ⟨t1, t2, t3⟩ := of_decide_eq_true HT.out.symm
          have HPRV := Lib.hid t3
          obtain ⟨t, rfl⟩ := Int.eq_ofNat_of_zero_le t1
          have htn : t < nn := by omega
          clear t3
          obtain ⟨w8, hw8⟩ : ∃ W, W = wc := ⟨_, rfl⟩
          rw [← hw8] at HA ⊢
          clear hw8 wc
          obtain ⟨sx, es⟩ : ∃ u, xs[t]? = some u := ⟨_, List.getElem?_eq_getElem (by rw [← HM.out]; omega)⟩
          obtain ⟨bx, ox, rfl, hbx, cx0⟩ := H3.out t sx es
          have HY : Hid (∀ pv, ZZ = showFrom xs nn l (k + 1) (ys ++ [(⟨(t : Int), sx, proofB (xs.take nn) t⟩, pv)])) := Lib.hid (fun pv => by
            rw [hZ.out, showFrom_yes EI.out ⟨by omega, by omega, HPRV.out⟩ pv]
            have e1 : xs.getD ((t : Int)).toNat ⟨#[]⟩ = sx := by rw [Int.toNat_natCast, List.getD_eq_getElem?_getD, es]; rfl
            rw [e1, Int.toNat_natCast])
          have HL := Lib.hid (fun W (hW : Below w8.heap.size w8 W) => And.intro (cell_of_row W w.heap.size 1 _ _ _ (kept_block HA.out.2.1 hW)) (cell_keepB (below_next HA.out.1 hW) hbl HC0.out))
          have HPt := Lib.hid (fun W (hW : Below w8.heap.size w8 W) => HPR.out W t (below_next HA.out.1 hW) htn)
          obtain ⟨PR, hPR⟩ : ∃ PR, PR = proofB (xs.take nn) t := ⟨_, rfl⟩
          rw [← hPR] at HPt HY
          obtain ⟨pn, hpn⟩ : ∃ pn, pn = PR.length := ⟨_, rfl⟩
          rw [← hpn] at HPt
          have HCX := Lib.hid cx0
          have u0 : (0 : Int) ≤ (nn : Int) := by omega
          have u1 : (nn : Int) ≤ (m : Int) := by omega
          have u2 : nn ≤ cap := by omega
          have tm : (t : Int) < (m : Int) := by omega
          clear es cx0 hPR hpn hZ HPRV
          go_upto_region 10 with fail
          refine wp_region_noPanic ?_
          refine wp_region_lexB [.q 0, .q 1, .q 2, .q 3, .q 4, .q 5, .q 6, .q 7, .b 8, .q 9, .q 10, .q 11, .q 12, .q 13] (by kernel_rfl) (by kernel_rfl) (fun _ _ _ _ h => h) ?_
          iterate 8 (refine wpFl_qL (v := ?_) rfl (Or.inl ⟨by rfl, ?_⟩) ?_; rotate_left; (focus (intro w' hSw; (try dsimp only [OldKept] at hSw); obtain ⟨e0, e1⟩ := HL.out w' hSw; go_simp; (try with_reducible rfl); done)); simp only [Act.put, List.setIfInBounds_toArray, List.set_cons_zero, List.set_cons_succ])
          refine wpFl_bL rfl (fun w9 hn9 hs9 K hK => ?_)
          go_simp
          go_at_call 56
          (with_reducible refine (HPt.out _ hs9).mono ?_)
          rintro e w10 ⟨pa, pc, rfl, hp10, ht10, hb10⟩
          have HP10 := Lib.hid hp10
          have HT10 := Lib.hid ht10
          have HA10 := Lib.hid (HA.out.far (below_next hs9 hb10))
          refine hK.out _ _ (below_next hs9 hb10) (Keeps.below hb10) ?_
          clear hK K hn9 hs9 hb10 hp10 ht10 HA HL HPt
          iterate 5 (refine wpFl_qL (v := ?_) rfl (Or.inl ⟨by rfl, ?_⟩) ?_; rotate_left; (focus (intro w' hSw; (try dsimp only [OldKept] at hSw); go_simp; (try with_reducible rfl); done)); simp only [Act.put, List.setIfInBounds_toArray, List.set_cons_zero, List.set_cons_succ])
          refine wpFl_nil ?_
          refine NoPanic.normal ?_
          obtain ⟨va, vc, hv'⟩ := OwnE.form HA10.out.2.2.2.2.1
          rw [itcells_len, hyl] at hv'
          subst hv'
          have hBw : w.heap.size + 2 ≤ w10.heap.size := by
            have h1 := (Array.getElem?_eq_some_iff.1 HA10.out.2.2.2.1).1
            have h2 := HA10.out.2.2.2.2.2.2
            omega
          have hBp : w.heap.size + 2 ≤ p := HA10.out.2.2.2.2.2.2
          obtain ⟨OB, hOB⟩ : ∃ OB : Obj, OB = .cells #[.int .i64 hc, .int .i64 hz, .string hrt, .string hsl, .slice va k vc] 38 (0, 0) := ⟨_, rfl⟩
          have HOB := Lib.hid hOB
          clear hOB
          have HS0 : Hid (BoxKept w10 (w.heap.size + 2) p OB w10.drew) := Lib.hid ⟨hBw, Below.drew (Below.refl _ _), by rw [HOB.out]; exact HA10.out.2.2.2.1⟩
          have HLS : Hid (∀ W, BoxKept w10 (w.heap.size + 2) p OB W → W.cell? ⟨p, 4, none⟩ = some (.slice va k vc) ∧ W.cell? ⟨bl, ol + k, none⟩ = some (.int .i64 t) ∧ W.cell? ⟨w.heap.size, 1, none⟩ = some (.slice (some ⟨bx, ox, none⟩) m cap) ∧ W.cell? ⟨bx, ox + t, none⟩ = some (.string sx)) := Lib.hid (fun W hW => by
            have hb : Below w.heap.size w W := HA10.out.1.trans (hW.2.1.mono (by omega))
            have hp := hW.2.2
            rw [HOB.out] at hp
            exact ⟨cell_of_row W p 4 _ _ _ hp, cell_keepB hb hbl HC0.out, cell_keepB hW.2.1 (by omega) (cell_of_row w10 w.heap.size 1 _ _ _ HA10.out.2.1), cell_keepB hb hbx HCX.out⟩)
          have HOr := Lib.hid (OwnE.drewN HA10.out.2.2.2.2.1 1)
          go_upto_region 11 with fail
          refine wp_region_noPanic ?_
          refine wp_region_lexF [.q 0, .q 1, .q 2, .q 3, .q 4, .q 5, .q 6, .q 7, .q 8, .q 9, .q 10, .q 11, .q 12, .q 13, .q 14, .q 15, .an 16, .co 16, .b 17, .q 18, .l 19] (BoxKept w10 (w.heap.size + 2) p OB) (by kernel_rfl) (by kernel_rfl) (fun _ _ _ _ h => h) BoxKept.more HS0.out ?_
          iterate 16 (refine wpFl_qL (v := ?_) rfl (Or.inl ⟨by rfl, ?_⟩) ?_; rotate_left; (focus (intro w' hSw; (try dsimp only [OldKept] at hSw); obtain ⟨e0, e1, e2, e3⟩ := HLS.out w' hSw; go_simp; (try with_reducible rfl); done)); simp only [Act.put, List.setIfInBounds_toArray, List.set_cons_zero, List.set_cons_succ])
          refine wpFl_anL rfl (.cells #[.int .i64 t, .string sx, .slice pa pn pc] 53 (0, 0)) (fun n => .slice (some ⟨n, 0, none⟩) 1 1) ⟨by rfl, fun w' => ?_⟩ ?_
          focus (go_simp; done)
          refine wpFl_coL rfl (.cells #[.int .i64 t, .string sx, .slice pa pn pc] 53 (0, 0)) (fun n => .slice (some ⟨n, 0, none⟩) 1 1) (by rfl) (N' := []) (by rfl) (fun b11 w11 hn_w11 hs_w11 hb_b11 hz_b11 => ?_)
          simp only [Act.put, List.setIfInBounds_toArray, List.set_cons_zero, List.set_cons_succ]
          have HO11 := Lib.hid (OwnE.far HOr.out hn_w11 (Nat.le_refl _))
          have HW11 := Lib.hid (undrew hn_w11)
          have HS11 := Lib.hid (IS.one hz_b11 (pr := PR) (SS.below HP10.out HW11.out))
          clear hz_b11 hb_b11 hs_w11 hn_w11 HOr
          refine wpFl_bS rfl (fun w12 hn12 hs12 K hK => ?_)
          have HO12 := Lib.hid (OwnE.far HO11.out hn12 (Nat.le_refl _))
          have HW12 := Lib.hid (below_next HW11.out hn12)
          have HS12 := Lib.hid (HS11.out.below hn12)
          refine step_append_items rfl _ _ (w.heap.size + 2) (.slice va k vc) ys [(⟨(t : Int), sx, PR⟩, .slice pa pn pc)] (.slice (some ⟨b11, 0, none⟩) 1 1) HO12.out HS12.out (by rw [hyl]; simp; omega) (Nat.le_trans hBw hs12.size) rfl rfl rfl ?_
          intro v13 w13 hown13 hgr13
          have HA13 := Lib.hid ((HA10.out.far HW12.out).grow (⟨(t : Int), sx, PR⟩, .slice pa pn pc) (SS.below HP10.out HW12.out) (HT10.out.below HW12.out) hown13 hgr13)
          have HK13 : Hid (BoxKept w10 (w.heap.size + 2) p OB w13) := Lib.hid ⟨hBw, Below.grown hs12.2.1 hgr13 (Nat.le_trans hBw hs12.size) (fun j e => OwnE.ge HO12.out j e), by rw [HOB.out]; exact HA13.out.2.2.2.1⟩
          refine hK.out _ _ HK13.out (Nat.le_trans hs12.size hgr13.size) Keeps.nil ?_
          obtain ⟨a13, c13, hv13⟩ := OwnE.form hown13
          rw [itcells_len, List.length_append, hyl] at hv13
          replace hv13 : v13 = .slice a13 (k + 1) c13 := hv13
          subst hv13
          clear hK K HO11 HO12 HS11 HS12 HW11 HW12 hn12 hs12 hown13 hgr13 HK13
          simp only [Act.put, List.setIfInBounds_toArray, List.set_cons_zero, List.set_cons_succ]
          refine wpFl_qL (v := ?_) rfl (Or.inl ⟨by rfl, ?_⟩) ?_
          rotate_left
          focus (intro w' hSw; (try dsimp only [OldKept] at hSw); go_simp; (try with_reducible rfl); done)
          simp only [Act.put, List.setIfInBounds_toArray, List.set_cons_zero, List.set_cons_succ]
          refine wpFl_lL rfl (fun w14 hn14 hs14 K hK => ?_)
          have HA15 := Lib.hid (HA13.out.far hn14).store
          have hp14 := (HA13.out.far hn14).2.2.2.1
          have p4 := cell_of_row w14 p 4 _ _ _ hp14
          have zf : ∀ j, w14.frozen? ⟨p, j, none⟩ = false := fun j => by unfold World.frozen?; rw [hp14]; simp
          clear hp14 HA13
          go_simp
          refine hK.out _ _ (NoPanic.normal ?_)
          clear hK K p4 zf hs14 hn14 HLS HS0
          go_wp2
          go_roundw
          case rel => exact ⟨k + 1, _, _, by omega, by go_num, by rw [List.length_append, hyl]; rfl, Lib.hid (HY.out _), HA15⟩
          case measure => simp [intOf]; omega
      · have tk : ¬ (k : Int) < (L : Int) := by omega
        have HF : Hid (ZZ = some (ys.map (·.1))) := Lib.hid (by rw [hZ.out]; exact showFrom_end _ _ _ _ _ (by rw [← HLL.out]; omega))
        obtain ⟨va, vc, hv'⟩ := OwnE.form hA.out.2.2.2.2.1
        rw [itcells_len, hyl] at hv'
        subst hv'
        obtain ⟨g1, g2, g3, g4, g5, g6, g7⟩ := hA.out
        unfold zpartB at g3
        obtain ⟨z0, z1, z2, z3, z4⟩ := pfive g3
        obtain ⟨y0, y1, y2, y3, y4⟩ := pfive g4
        have zf : ∀ j, wr.frozen? ⟨w.heap.size + 1, j, none⟩ = false := fun j => by unfold World.frozen?; rw [g3]; simp
        have HG3 := Lib.hid g3
        have HIT : Hid (IT (((((wr.setCell ⟨w.heap.size + 1, 0, none⟩ (.int .i64 hc)).setCell ⟨w.heap.size + 1, 1, none⟩ (.int .i64 hz)).setCell ⟨w.heap.size + 1, 2, none⟩ (.string hrt)).setCell ⟨w.heap.size + 1, 3, none⟩ (.string hsl)).setCell ⟨w.heap.size + 1, 4, none⟩ (.slice va k vc)) (.slice va k vc) (ys.map (·.1))) := Lib.hid (by
          have hi : IT wr (.slice va k vc) (ys.map (·.1)) := ⟨ys, rfl, ⟨OwnE.slice g5 (itcells_three ys), fun y hy => (g6 y hy).1⟩, rowTy_own g5, fun y hy => (g6 y hy).2⟩
          exact IT.grownT hi g3 (by decide) (by decide) (five_grown wr (w.heap.size + 1) (.int .i64 hc) (.int .i64 hz) (.string hrt) (.string hsl) (.slice va k vc)))
        have HG1 := Lib.hid g1
        clear g1 g2 g3 g4 g5 g6 g7
        go_wp2
        rw [HF.out]
        exact bodyPost_ret (results_cellA_tmp rfl _ (w.heap.size + 1) 38 #[.int .i64 hc, .int .i64 hz, .string hrt, .string hsl, .slice va k vc] (0, 0) _ rfl (five_heap HG3.out _ _ _ _ _) Tryz.underlying38 rfl infoPart) rfl (showIs_some (h := ⟨hc, hz, hrt, hsl⟩) rfl HIT.out (five_below HG1.out (Nat.le_succ _) _ _ _ _ _))
end Go.Proofs.YtinfpbkbnhcifaaGreatDoor
