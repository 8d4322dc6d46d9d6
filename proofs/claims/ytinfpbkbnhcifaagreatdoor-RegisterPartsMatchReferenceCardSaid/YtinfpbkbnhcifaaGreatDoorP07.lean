/- The reference's Check and Convicts. The conditions: what the slices read as, lengths. -/
import Derived.Test.YtinfpbkbnhcifaaGreatDoorP06
import Derived.Test.YtinfpbkbnhcifaaGreatDoorP03
namespace Go.Proofs.YtinfpbkbnhcifaaGreatDoor
open Go.RowKit Go.BigFrame

set_option maxHeartbeats 8000000 in
set_option maxRecDepth 100000 in
theorem rcheck_any (key : ByteArray) (car siz : Int) (root sl : ByteArray) {w : World} {v : Value} {ys : List (ItemP × Value)} (hi : IS w v ys) (hk : key.size ≤ 1000) (hl : ys.length ≤ 100000) (hp : ∀ y ∈ ys, y.1.prf.length ≤ 1000) :
    Calls Tryz.prog 25 #[.string key, .agg #[.int .i64 car, .int .i64 siz, .string root, .string sl, v]] w fun e w' => e = .returned (.bool (checkB key ⟨⟨car, siz, root, sl⟩, ys.map (·.1)⟩)) ∧ Below w.heap.size w w' := by
  obtain ⟨a, cap, rfl, l1, l2, l3⟩ := hi.opened
  have H3 := Lib.hid l3
  have HI := Lib.hid hi
  have HP := Lib.hid hp
  clear l3 hi hp
  unfold maxLen at l2
  have HR0 : Hid (checkB key ⟨⟨car, siz, root, sl⟩, ys.map (·.1)⟩ = (genuineB key ⟨car, siz, root, sl⟩ && itemsFrom root siz ys 0)) := Lib.hid rfl
  obtain ⟨RR, hRR⟩ : ∃ RR, RR = checkB key ⟨⟨car, siz, root, sl⟩, ys.map (·.1)⟩ := ⟨_, rfl⟩
  rw [← hRR] at HR0 ⊢
  clear hRR
  obtain ⟨n, hn⟩ : ∃ n, n = ys.length := ⟨_, rfl⟩
  rw [← hn] at l1 hl ⊢
  have HN := Lib.hid hn
  clear hn
  obtain ⟨W1, hW1⟩ : ∃ W1, W1 = w.alloc (.cells #[.int .i64 car, .int .i64 siz, .string root, .string sl, .slice a n cap] 38) := ⟨_, rfl⟩
  have HB1 : Hid (Below w.heap.size w W1) := Lib.hid (by rw [hW1]; exact (Below.refl _ _).alloc (Nat.le_refl _) _)
  have HX1 : Hid (W1.heap[w.heap.size]? = some (.cells #[.int .i64 car, .int .i64 siz, .string root, .string sl, .slice a n cap] 38 (0, 0))) := Lib.hid (by rw [hW1]; exact heap_alloc_new w _)
  have HG1 := Lib.hid (rgenuine_any key car siz root sl W1 hk)
  have HGP : Hid (genuineB key ⟨car, siz, root, sl⟩ = true → ∃ s : Nat, siz = s ∧ s ≤ 60) := Lib.hid (fun g => by
    obtain ⟨_, _, ⟨a1, a2⟩, _⟩ := genuine_parts g
    simp only at a1 a2
    obtain ⟨m, hm⟩ := Int.eq_ofNat_of_zero_le a1
    exact ⟨m, hm, by omega⟩)
  generalize genuineB key ⟨car, siz, root, sl⟩ = g1 at *
  have HW1 := Lib.hid hW1
  clear hW1
  obtain ⟨x0, x1, x2, x3, x4⟩ := pfive HX1.out
  cases g1 with
  | false =>
    go_enter Tryz.func25, Tryz.ntmps25
    go_upto_region 1 with fail
    rw [← HW1.out]
    go_wp2_with fail
    refine HG1.out.mono ?_
    rintro e w3 ⟨rfl, hb3⟩
    go_wp2
    go_ret
    exact ⟨by rw [HR0.out]; rfl, HB1.out.trans (hb3.mono HB1.out.size)⟩
  | true =>
    obtain ⟨s, rfl, hs60⟩ := HGP.out rfl
    have HR : Hid (RR = itemsFrom root s ys 0) := Lib.hid (by rw [HR0.out]; rfl)
    clear HR0 HGP
    go_enter Tryz.func25, Tryz.ntmps25
    go_upto_region 1 with fail
    rw [← HW1.out]
    go_wp2_with fail
    refine HG1.out.mono ?_
    rintro e w3 ⟨rfl, hb3⟩
    have HB3 := Lib.hid (HB1.out.trans (hb3.mono HB1.out.size))
    have HX3 := Lib.hid (kept_block HX1.out hb3)
    clear hb3 HG1 HX1 HB1 HW1 x0 x1 x2 x3 x4
    go_wp2
    go_loopw [5] (fun i wr => ∃ k : Nat, k ≤ n ∧ i = .int .i64 k ∧ Hid (RR = itemsFrom root s ys k) ∧ Hid (Below w.heap.size w wr) ∧ Hid (wr.heap[w.heap.size]? = some (.cells #[.int .i64 car, .int .i64 s, .string root, .string sl, .slice a n cap] 38 (0, 0)))) (fun i _ => n - (intOf i).toNat)
    case atStart => exact ⟨0, by omega, rfl, HR, HB3, HX3⟩
    case round =>
      obtain ⟨k, hk', rfl, hR, hB, hX⟩ := hrel
      clear HR HB3 HX3
      obtain ⟨x0, x1, x2, x3, x4⟩ := pfive hX.out
      by_cases hlt : k < n
      · obtain ⟨y, ey⟩ : ∃ y, ys[k]? = some y := ⟨_, List.getElem?_eq_getElem (by rw [← HN.out]; exact hlt)⟩
        obtain ⟨b, off, rfl, hb, c0, c1, c2⟩ := H3.out k y ey
        have d0 := cell_keepB hB.out hb c0
        have d1 := cell_keepB hB.out hb c1
        have d2 := cell_keepB hB.out hb c2
        clear c0 c1 c2
        have HSt := Lib.hid (itemsFrom_step root s ey)
        have HM := Lib.hid (List.mem_of_getElem? ey)
        clear ey
        obtain ⟨⟨ix, en, pr⟩, pv⟩ := y
        simp only at d0 d1 d2 HSt
        have hss := HI.out.2 _ HM.out
        have HPl : Hid (pr.length ≤ 1000) := Lib.hid (HP.out _ HM.out)
        simp only at hss
        obtain ⟨pa, pc, rfl⟩ := hss.form2
        obtain ⟨pm, hpm⟩ : ∃ pm, pm = pr.length := ⟨_, rfl⟩
        rw [← hpm] at hss d2
        have HSS := Lib.hid hss
        clear hss hpm HM
        have tk : (k : Int) < (n : Int) := by omega
        have tk0 : (0 : Int) ≤ (k : Int) := by omega
        go_upto_region 7 with fail
        have HY7 : Hid ((wr.alloc (.cells #[.int .i64 ix, .string en, .slice pa pm pc] 53)).heap[wr.heap.size]? = some (.cells #[.int .i64 ix, .string en, .slice pa pm pc] 53 (0, 0))) := Lib.hid (heap_alloc_new wr _)
        have HB7 : Hid (Below w.heap.size w (wr.alloc (.cells #[.int .i64 ix, .string en, .slice pa pm pc] 53))) := Lib.hid (below_next hB.out ((Below.refl _ _).alloc (Nat.le_refl _) _))
        have HX7 := Lib.hid (kept_block hX.out ((Below.refl _ _).alloc (Nat.le_refl _) (.cells #[.int .i64 ix, .string en, .slice pa pm pc] 53)))
        obtain ⟨W7, hW7⟩ : ∃ W, W = wr.alloc (.cells #[.int .i64 ix, .string en, .slice pa pm pc] 53) := ⟨_, rfl⟩
        rw [← hW7] at HY7 HB7 HX7 ⊢
        generalize wr.heap.size = xb at *
        clear hW7 hX hB d0 d1 d2 x0 x1 x2 x3 x4
        have HL : Hid (∀ W, Below W7.heap.size W7 W → (W.cell? ⟨w.heap.size, 0, none⟩ = some (.int .i64 car) ∧ W.cell? ⟨w.heap.size, 1, none⟩ = some (.int .i64 s) ∧ W.cell? ⟨w.heap.size, 2, none⟩ = some (.string root) ∧ W.cell? ⟨w.heap.size, 3, none⟩ = some (.string sl) ∧ W.cell? ⟨w.heap.size, 4, none⟩ = some (.slice (some ⟨b, off, none⟩) n cap)) ∧ W.cell? ⟨xb, 0, none⟩ = some (.int .i64 ix) ∧ W.cell? ⟨xb, 1, none⟩ = some (.string en) ∧ W.cell? ⟨xb, 2, none⟩ = some (.slice pa pm pc)) := Lib.hid (fun W hW => by
          have h := fun i => cell_of_row W xb i _ _ _ (kept_block HY7.out hW)
          exact ⟨pfive (kept_block HX7.out hW), h 0, h 1, h 2⟩)
        obtain ⟨T, hT⟩ : ∃ T, T = itemOk root s ⟨ix, en, pr⟩ (prevI ys k) := ⟨_, rfl⟩
        have HT : Hid (T = (decide (∀ j, prevI ys k = some j → j < ix) && decide (en.size ≤ 1000) && verifyB root s ix en pr)) := Lib.hid (by rw [hT]; rfl)
        have HSt2 : Hid (RR = (T && itemsFrom root s ys (k + 1))) := Lib.hid (by rw [hR.out, HSt.out, HT.out])
        clear hT HSt hR
        go_cut [59] (fun t wx => t = .bool (!T) ∧ Hid (Below W7.heap.size W7 wx))
        case first =>
          by_cases hen : en.size ≤ 1000
          · have he1 : decide ((1000 : Int) < (en.size : Int)) = false := decide_eq_false (by omega)
            have he2 : decide (en.size ≤ 1000) = true := decide_eq_true hen
            have HV := Lib.hid (fun W (hW : Below W7.heap.size W7 W) => rverify_any root en s ix (SS.below HSS.out (below_next HB7.out hW)) HPl.out (by omega) (by omega))
            generalize verifyB root s ix en pr = vb at *
            by_cases h0 : k = 0
            · have HF : Hid (T = vb) := Lib.hid (by rw [HT.out, he2, decide_eq_true (fun j h => by rw [h0] at h; cases h)]; cases vb <;> rfl)
              have bk : decide ((0 : Int) < (k : Int)) = false := decide_eq_false (by omega)
              have H0 := Lib.hid h0
              clear h0
              refine wp_region_noPanic ?_
              refine wp_region_lexB [.q 0, .q 1, .q 2, .q 3, .q 4, .q 5, .q 6, .q 7, .q 8, .q 9, .q 10, .q 11, .q 12, .q 13, .q 14, .q 15, .q 16, .q 17, .q 18, .q 19, .q 20, .q 21, .q 22, .q 23, .q 24, .q 25, .q 26, .q 27, .q 28, .q 29, .q 30, .q 31, .q 32, .b 33, .q 34, .q 35] (by kernel_rfl) (by kernel_rfl) (fun _ _ _ _ h => h) ?_
              iterate 3 (refine wpFl_qL (v := ?_) rfl (Or.inl ⟨by rfl, ?_⟩) ?_; rotate_left; (focus (intro w' hSw; (try dsimp only [OldKept] at hSw); obtain ⟨⟨_, e1, e2, _, e4⟩, f0, f1, f2⟩ := HL.out w' hSw; go_simp; (try with_reducible rfl); done)); simp only [Act.put, List.setIfInBounds_toArray, List.set_cons_zero, List.set_cons_succ])
              refine wpFl_qL (v := .bool false) rfl (Or.inl ⟨by rfl, ?_⟩) ?_
              focus (intro w' hSw; go_simp; done)
              simp only [Act.put, List.setIfInBounds_toArray, List.set_cons_zero, List.set_cons_succ]
              iterate 2 (refine wpFl_qL (v := ?_) rfl (Or.inl ⟨by rfl, ?_⟩) ?_; rotate_left; (focus (intro w' hSw; (try dsimp only [OldKept] at hSw); go_simp; (try with_reducible rfl); done)); simp only [Act.put, List.setIfInBounds_toArray, List.set_cons_zero, List.set_cons_succ])
              refine wpFl_qL (v := .bool false) rfl (Or.inl ⟨by rfl, ?_⟩) ?_
              focus (intro w' hSw; go_simp; exact H0.out)
              simp only [Act.put, List.setIfInBounds_toArray, List.set_cons_zero, List.set_cons_succ]
              refine wpFl_qL (v := ?_) rfl (Or.inl ⟨by rfl, ?_⟩) ?_
              rotate_left
              focus (intro w' hSw; (try dsimp only [OldKept] at hSw); go_simp; (try with_reducible rfl); done)
              simp only [Act.put, List.setIfInBounds_toArray, List.set_cons_zero, List.set_cons_succ]
              iterate 10 (refine wpFl_qL (v := undef) rfl (Or.inr ⟨by rfl, rfl⟩) ?_; simp only [Act.put, List.setIfInBounds_toArray, List.set_cons_zero, List.set_cons_succ])
              refine wpFl_qL (v := .bool false) rfl (Or.inl ⟨by rfl, ?_⟩) ?_
              focus (intro w' hSw; go_simp; done)
              simp only [Act.put, List.setIfInBounds_toArray, List.set_cons_zero, List.set_cons_succ]
              refine wpFl_qL (v := .bool false) rfl (Or.inl ⟨by rfl, ?_⟩) ?_
              focus (intro w' hSw; go_simp; done)
              simp only [Act.put, List.setIfInBounds_toArray, List.set_cons_zero, List.set_cons_succ]
              refine wpFl_qL (v := ?_) rfl (Or.inl ⟨by rfl, ?_⟩) ?_
              rotate_left
              focus (intro w' hSw; (try dsimp only [OldKept] at hSw); go_simp; (try with_reducible rfl); done)
              simp only [Act.put, List.setIfInBounds_toArray, List.set_cons_zero, List.set_cons_succ]
              iterate 12 (refine wpFl_qL (v := ?_) rfl (Or.inl ⟨by rfl, ?_⟩) ?_; rotate_left; (focus (intro w' hSw; (try dsimp only [OldKept] at hSw); obtain ⟨⟨_, e1, e2, _, e4⟩, f0, f1, f2⟩ := HL.out w' hSw; go_simp; (try with_reducible rfl); done)); simp only [Act.put, List.setIfInBounds_toArray, List.set_cons_zero, List.set_cons_succ])
              refine wpFl_bL rfl (fun w8 hn8 hs8 K hK => ?_)
              go_simp
              go_at_call 61
              (with_reducible refine (HV.out _ hs8).mono ?_)
              rintro e w9 ⟨rfl, hb9⟩
              have HB9 := Lib.hid (below_next hs8 hb9)
              refine hK.out _ _ HB9.out (Keeps.below hb9) ?_
              clear hK K hn8 hs8 hb9
              refine wpFl_qL (v := .bool (!vb)) rfl (Or.inl ⟨by rfl, ?_⟩) ?_
              focus (intro w' hSw; cases vb <;> go_simp; done)
              simp only [Act.put, List.setIfInBounds_toArray, List.set_cons_zero, List.set_cons_succ]
              refine wpFl_qL (v := .bool (!vb)) rfl (Or.inl ⟨by rfl, ?_⟩) ?_
              focus (intro w' hSw; cases vb <;> go_simp; done)
              simp only [Act.put, List.setIfInBounds_toArray, List.set_cons_zero, List.set_cons_succ]
              refine wpFl_nil ?_
              refine NoPanic.normal ?_
              go_wp2
              go_meet
              case rel => exact ⟨by simp [HF.out], HB9⟩
            · have H0 : Hid (0 < k) := Lib.hid (Nat.pos_of_ne_zero h0)
              obtain ⟨j, hj⟩ : ∃ j, k = j + 1 := ⟨k - 1, by omega⟩
              obtain ⟨y', ey'⟩ : ∃ y, ys[j]? = some y := ⟨_, List.getElem?_eq_getElem (by rw [← HN.out]; omega)⟩
              obtain ⟨b', off', eb, hb', c0, _, _⟩ := H3.out j y' ey'
              cases eb
              have HPV := Lib.hid (fun W (hW : Below W7.heap.size W7 W) => cell_keepB (below_next HB7.out hW) hb' c0)
              clear c0
              have f1 : IntKind.i64.wrap ((k : Int) - 1) = (j : Int) := by
                rw [show (k : Int) - 1 = (j : Int) by omega]
                exact IntWalk.i64_in _ (by omega)
              have b1 : (0 : Int) ≤ (j : Int) := by omega
              have b2 : (j : Int) < (n : Int) := by omega
              have bk : decide ((0 : Int) < (k : Int)) = true := decide_eq_true (by omega)
              have HPr : Hid (prevI ys k = some y'.1.idx) := Lib.hid (by rw [hj]; show ys[j]?.map _ = _; rw [ey']; rfl)
              clear ey' hj
              generalize y'.1.idx = iy at *
              by_cases hlt2 : iy < ix
              · have hd : decide (ix ≤ iy) = false := decide_eq_false (by omega)
                have HF : Hid (T = vb) := Lib.hid (by rw [HT.out, he2, decide_eq_true (fun j' h => by rw [HPr.out] at h; cases h; exact hlt2)]; cases vb <;> rfl)
                refine wp_region_noPanic ?_
                refine wp_region_lexB [.q 0, .q 1, .q 2, .q 3, .q 4, .q 5, .q 6, .q 7, .q 8, .q 9, .q 10, .q 11, .q 12, .q 13, .q 14, .q 15, .q 16, .q 17, .q 18, .q 19, .q 20, .q 21, .q 22, .q 23, .q 24, .q 25, .q 26, .q 27, .q 28, .q 29, .q 30, .q 31, .q 32, .b 33, .q 34, .q 35] (by kernel_rfl) (by kernel_rfl) (fun _ _ _ _ h => h) ?_
                iterate 3 (refine wpFl_qL (v := ?_) rfl (Or.inl ⟨by rfl, ?_⟩) ?_; rotate_left; (focus (intro w' hSw; (try dsimp only [OldKept] at hSw); obtain ⟨⟨_, e1, e2, _, e4⟩, f0, f1, f2⟩ := HL.out w' hSw; go_simp; (try with_reducible rfl); done)); simp only [Act.put, List.setIfInBounds_toArray, List.set_cons_zero, List.set_cons_succ])
                refine wpFl_qL (v := .bool false) rfl (Or.inl ⟨by rfl, ?_⟩) ?_
                focus (intro w' hSw; go_simp; done)
                simp only [Act.put, List.setIfInBounds_toArray, List.set_cons_zero, List.set_cons_succ]
                iterate 2 (refine wpFl_qL (v := ?_) rfl (Or.inl ⟨by rfl, ?_⟩) ?_; rotate_left; (focus (intro w' hSw; (try dsimp only [OldKept] at hSw); go_simp; (try with_reducible rfl); done)); simp only [Act.put, List.setIfInBounds_toArray, List.set_cons_zero, List.set_cons_succ])
                refine wpFl_qL (v := .bool true) rfl (Or.inl ⟨by rfl, ?_⟩) ?_
                focus (intro w' hSw; go_simp; exact H0.out)
                simp only [Act.put, List.setIfInBounds_toArray, List.set_cons_zero, List.set_cons_succ]
                refine wpFl_qL (v := ?_) rfl (Or.inl ⟨by rfl, ?_⟩) ?_
                rotate_left
                focus (intro w' hSw; (try dsimp only [OldKept] at hSw); go_simp; (try with_reducible rfl); done)
                simp only [Act.put, List.setIfInBounds_toArray, List.set_cons_zero, List.set_cons_succ]
                iterate 9 (refine wpFl_qL (v := ?_) rfl (Or.inl ⟨by rfl, ?_⟩) ?_; rotate_left; (focus (intro w' hSw; (try dsimp only [OldKept] at hSw); obtain ⟨⟨_, e1, e2, _, e4⟩, f0, f1, f2⟩ := HL.out w' hSw; have p0 := HPV.out w' hSw; go_simp; (try with_reducible rfl); done)); simp only [Act.put, List.setIfInBounds_toArray, List.set_cons_zero, List.set_cons_succ])
                refine wpFl_qL (v := .bool false) rfl (Or.inl ⟨by rfl, ?_⟩) ?_
                focus (intro w' hSw; go_simp; done)
                simp only [Act.put, List.setIfInBounds_toArray, List.set_cons_zero, List.set_cons_succ]
                refine wpFl_qL (v := .bool false) rfl (Or.inl ⟨by rfl, ?_⟩) ?_
                focus (intro w' hSw; go_simp; done)
                simp only [Act.put, List.setIfInBounds_toArray, List.set_cons_zero, List.set_cons_succ]
                refine wpFl_qL (v := .bool false) rfl (Or.inl ⟨by rfl, ?_⟩) ?_
                focus (intro w' hSw; go_simp; done)
                simp only [Act.put, List.setIfInBounds_toArray, List.set_cons_zero, List.set_cons_succ]
                refine wpFl_qL (v := ?_) rfl (Or.inl ⟨by rfl, ?_⟩) ?_
                rotate_left
                focus (intro w' hSw; (try dsimp only [OldKept] at hSw); go_simp; (try with_reducible rfl); done)
                simp only [Act.put, List.setIfInBounds_toArray, List.set_cons_zero, List.set_cons_succ]
                iterate 12 (refine wpFl_qL (v := ?_) rfl (Or.inl ⟨by rfl, ?_⟩) ?_; rotate_left; (focus (intro w' hSw; (try dsimp only [OldKept] at hSw); obtain ⟨⟨_, e1, e2, _, e4⟩, f0, f1, f2⟩ := HL.out w' hSw; go_simp; (try with_reducible rfl); done)); simp only [Act.put, List.setIfInBounds_toArray, List.set_cons_zero, List.set_cons_succ])
                refine wpFl_bL rfl (fun w8 hn8 hs8 K hK => ?_)
                go_simp
                go_at_call 61
                (with_reducible refine (HV.out _ hs8).mono ?_)
                rintro e w9 ⟨rfl, hb9⟩
                have HB9 := Lib.hid (below_next hs8 hb9)
                refine hK.out _ _ HB9.out (Keeps.below hb9) ?_
                clear hK K hn8 hs8 hb9
                refine wpFl_qL (v := .bool (!vb)) rfl (Or.inl ⟨by rfl, ?_⟩) ?_
                focus (intro w' hSw; cases vb <;> go_simp; done)
                simp only [Act.put, List.setIfInBounds_toArray, List.set_cons_zero, List.set_cons_succ]
                refine wpFl_qL (v := .bool (!vb)) rfl (Or.inl ⟨by rfl, ?_⟩) ?_
                focus (intro w' hSw; cases vb <;> go_simp; done)
                simp only [Act.put, List.setIfInBounds_toArray, List.set_cons_zero, List.set_cons_succ]
                refine wpFl_nil ?_
                refine NoPanic.normal ?_
                go_wp2
                go_meet
                case rel => exact ⟨by simp [HF.out], HB9⟩
              · have hd : decide (ix ≤ iy) = true := decide_eq_true (by omega)
                have HF : Hid (T = false) := Lib.hid (by rw [HT.out, decide_eq_false (fun h => hlt2 (h iy HPr.out))]; rfl)
                refine wp_region_noPanic ?_
                refine wp_region_lexB [.q 0, .q 1, .q 2, .q 3, .q 4, .q 5, .q 6, .q 7, .q 8, .q 9, .q 10, .q 11, .q 12, .q 13, .q 14, .q 15, .q 16, .q 17, .q 18, .q 19, .q 20, .q 21, .q 22, .q 23, .q 24, .q 25, .q 26, .q 27, .q 28, .q 29, .q 30, .q 31, .q 32, .q 33, .q 34, .q 35] (by kernel_rfl) (by kernel_rfl) (fun _ _ _ _ h => h) ?_
                iterate 3 (refine wpFl_qL (v := ?_) rfl (Or.inl ⟨by rfl, ?_⟩) ?_; rotate_left; (focus (intro w' hSw; (try dsimp only [OldKept] at hSw); obtain ⟨⟨_, e1, e2, _, e4⟩, f0, f1, f2⟩ := HL.out w' hSw; go_simp; (try with_reducible rfl); done)); simp only [Act.put, List.setIfInBounds_toArray, List.set_cons_zero, List.set_cons_succ])
                refine wpFl_qL (v := .bool false) rfl (Or.inl ⟨by rfl, ?_⟩) ?_
                focus (intro w' hSw; go_simp; done)
                simp only [Act.put, List.setIfInBounds_toArray, List.set_cons_zero, List.set_cons_succ]
                iterate 2 (refine wpFl_qL (v := ?_) rfl (Or.inl ⟨by rfl, ?_⟩) ?_; rotate_left; (focus (intro w' hSw; (try dsimp only [OldKept] at hSw); go_simp; (try with_reducible rfl); done)); simp only [Act.put, List.setIfInBounds_toArray, List.set_cons_zero, List.set_cons_succ])
                refine wpFl_qL (v := .bool true) rfl (Or.inl ⟨by rfl, ?_⟩) ?_
                focus (intro w' hSw; go_simp; exact H0.out)
                simp only [Act.put, List.setIfInBounds_toArray, List.set_cons_zero, List.set_cons_succ]
                refine wpFl_qL (v := ?_) rfl (Or.inl ⟨by rfl, ?_⟩) ?_
                rotate_left
                focus (intro w' hSw; (try dsimp only [OldKept] at hSw); go_simp; (try with_reducible rfl); done)
                simp only [Act.put, List.setIfInBounds_toArray, List.set_cons_zero, List.set_cons_succ]
                iterate 9 (refine wpFl_qL (v := ?_) rfl (Or.inl ⟨by rfl, ?_⟩) ?_; rotate_left; (focus (intro w' hSw; (try dsimp only [OldKept] at hSw); obtain ⟨⟨_, e1, e2, _, e4⟩, f0, f1, f2⟩ := HL.out w' hSw; have p0 := HPV.out w' hSw; go_simp; (try with_reducible rfl); done)); simp only [Act.put, List.setIfInBounds_toArray, List.set_cons_zero, List.set_cons_succ])
                refine wpFl_qL (v := .bool true) rfl (Or.inl ⟨by rfl, ?_⟩) ?_
                focus (intro w' hSw; go_simp; done)
                simp only [Act.put, List.setIfInBounds_toArray, List.set_cons_zero, List.set_cons_succ]
                refine wpFl_qL (v := .bool true) rfl (Or.inl ⟨by rfl, ?_⟩) ?_
                focus (intro w' hSw; go_simp; done)
                simp only [Act.put, List.setIfInBounds_toArray, List.set_cons_zero, List.set_cons_succ]
                refine wpFl_qL (v := .bool true) rfl (Or.inl ⟨by rfl, ?_⟩) ?_
                focus (intro w' hSw; go_simp; done)
                simp only [Act.put, List.setIfInBounds_toArray, List.set_cons_zero, List.set_cons_succ]
                refine wpFl_qL (v := ?_) rfl (Or.inl ⟨by rfl, ?_⟩) ?_
                rotate_left
                focus (intro w' hSw; (try dsimp only [OldKept] at hSw); go_simp; (try with_reducible rfl); done)
                simp only [Act.put, List.setIfInBounds_toArray, List.set_cons_zero, List.set_cons_succ]
                iterate 14 (refine wpFl_qL (v := undef) rfl (Or.inr ⟨by rfl, rfl⟩) ?_; simp only [Act.put, List.setIfInBounds_toArray, List.set_cons_zero, List.set_cons_succ])
                refine wpFl_qL (v := .bool true) rfl (Or.inl ⟨by rfl, ?_⟩) ?_
                focus (intro w' hSw; go_simp; done)
                simp only [Act.put, List.setIfInBounds_toArray, List.set_cons_zero, List.set_cons_succ]
                refine wpFl_nil ?_
                refine NoPanic.normal ?_
                go_wp2
                go_meet
                case rel => exact ⟨by simp [HF.out], Lib.hid (Below.drew (Below.refl _ _))⟩
          · have he1 : decide ((1000 : Int) < (en.size : Int)) = true := decide_eq_true (by omega)
            have HF : Hid (T = false) := Lib.hid (by rw [HT.out, decide_eq_false hen, Bool.and_false]; rfl)
            refine wp_region_noPanic ?_
            refine wp_region_lexB [.q 0, .q 1, .q 2, .q 3, .q 4, .q 5, .q 6, .q 7, .q 8, .q 9, .q 10, .q 11, .q 12, .q 13, .q 14, .q 15, .q 16, .q 17, .q 18, .q 19, .q 20, .q 21, .q 22, .q 23, .q 24, .q 25, .q 26, .q 27, .q 28, .q 29, .q 30, .q 31, .q 32, .q 33, .q 34, .q 35] (by kernel_rfl) (by kernel_rfl) (fun _ _ _ _ h => h) ?_
            iterate 3 (refine wpFl_qL (v := ?_) rfl (Or.inl ⟨by rfl, ?_⟩) ?_; rotate_left; (focus (intro w' hSw; (try dsimp only [OldKept] at hSw); obtain ⟨⟨_, e1, e2, _, e4⟩, f0, f1, f2⟩ := HL.out w' hSw; go_simp; (try with_reducible rfl); done)); simp only [Act.put, List.setIfInBounds_toArray, List.set_cons_zero, List.set_cons_succ])
            refine wpFl_qL (v := .bool true) rfl (Or.inl ⟨by rfl, ?_⟩) ?_
            focus (intro w' hSw; go_simp; done)
            simp only [Act.put, List.setIfInBounds_toArray, List.set_cons_zero, List.set_cons_succ]
            refine wpFl_qL (v := ?_) rfl (Or.inl ⟨by rfl, ?_⟩) ?_
            rotate_left
            focus (intro w' hSw; (try dsimp only [OldKept] at hSw); go_simp; (try with_reducible rfl); done)
            simp only [Act.put, List.setIfInBounds_toArray, List.set_cons_zero, List.set_cons_succ]
            iterate 14 (refine wpFl_qL (v := undef) rfl (Or.inr ⟨by rfl, rfl⟩) ?_; simp only [Act.put, List.setIfInBounds_toArray, List.set_cons_zero, List.set_cons_succ])
            refine wpFl_qL (v := .bool true) rfl (Or.inl ⟨by rfl, ?_⟩) ?_
            focus (intro w' hSw; go_simp; done)
            simp only [Act.put, List.setIfInBounds_toArray, List.set_cons_zero, List.set_cons_succ]
            refine wpFl_qL (v := ?_) rfl (Or.inl ⟨by rfl, ?_⟩) ?_
            rotate_left
            focus (intro w' hSw; (try dsimp only [OldKept] at hSw); go_simp; (try with_reducible rfl); done)
            simp only [Act.put, List.setIfInBounds_toArray, List.set_cons_zero, List.set_cons_succ]
            iterate 14 (refine wpFl_qL (v := undef) rfl (Or.inr ⟨by rfl, rfl⟩) ?_; simp only [Act.put, List.setIfInBounds_toArray, List.set_cons_zero, List.set_cons_succ])
            refine wpFl_qL (v := .bool true) rfl (Or.inl ⟨by rfl, ?_⟩) ?_
            focus (intro w' hSw; go_simp; done)
            simp only [Act.put, List.setIfInBounds_toArray, List.set_cons_zero, List.set_cons_succ]
            refine wpFl_nil ?_
            refine NoPanic.normal ?_
            go_wp2
            go_meet
            case rel => exact ⟨by simp [HF.out], Lib.hid (Below.drew (Below.refl _ _))⟩
        case rest =>
        obtain ⟨ht, HBc⟩ := hcut
        subst ht
        have HB8 := Lib.hid (below_next HB7.out HBc.out)
        have HX8 := Lib.hid (kept_block HX7.out HBc.out)
        cases T with
        | false =>
          have HF : Hid (RR = false) := Lib.hid (by rw [HSt2.out]; rfl)
          go_wp2
          go_ret
          exact ⟨by rw [HF.out]; rfl, HB8.out⟩
        | true =>
          have HF : Hid (RR = itemsFrom root s ys (k + 1)) := Lib.hid (by rw [HSt2.out]; rfl)
          go_wp2
          go_roundw
          case rel => exact ⟨k + 1, by omega, by go_num, HF, HB8, HX8⟩
          case measure => simp [intOf]; omega
      · have tk : ¬ (k : Int) < (n : Int) := by omega
        have HF : Hid (RR = true) := Lib.hid (by rw [hR.out, itemsFrom_end _ _ _ _ (by rw [← HN.out]; omega)])
        go_wp2
        go_ret
        exact ⟨by rw [HF.out]; rfl, hB.out⟩

set_option maxHeartbeats 8000000 in
set_option maxRecDepth 100000 in
theorem rconvicts_any (key : ByteArray) (c1 s1 : Int) (r1 l1 : ByteArray) (c2 s2 : Int) (r2 l2 : ByteArray) {w : World} {v1 v2 : Value} {ya yb : List (ItemP × Value)} (ha : IS w v1 ya) (hb : IS w v2 yb) (hla : ya.length ≤ 100000) (hlb : yb.length ≤ 100000) (hk : key.size ≤ 1000) (hpa : ∀ y ∈ ya, y.1.prf.length ≤ 1000) (hpb : ∀ y ∈ yb, y.1.prf.length ≤ 1000) :
    Calls Tryz.prog 23 #[.string key, .agg #[.int .i64 c1, .int .i64 s1, .string r1, .string l1, v1], .agg #[.int .i64 c2, .int .i64 s2, .string r2, .string l2, v2]] w fun e w' => e = .returned (.bool (convictsB key ⟨⟨c1, s1, r1, l1⟩, ya.map (·.1)⟩ ⟨⟨c2, s2, r2, l2⟩, yb.map (·.1)⟩)) ∧ Below w.heap.size w w' := by
  obtain ⟨a1, n1, k1, rfl⟩ : ∃ a n c, v1 = .slice a n c := by obtain ⟨a, c, h, _⟩ := ha.opened; exact ⟨_, _, _, h⟩
  obtain ⟨a2, n2, k2, rfl⟩ : ∃ a n c, v2 = .slice a n c := by obtain ⟨a, c, h, _⟩ := hb.opened; exact ⟨_, _, _, h⟩
  obtain ⟨W0, hW0⟩ : ∃ W0, W0 = (w.alloc (.cells #[.int .i64 c1, .int .i64 s1, .string r1, .string l1, .slice a1 n1 k1] 38)).alloc (.cells #[.int .i64 c2, .int .i64 s2, .string r2, .string l2, .slice a2 n2 k2] 38) := ⟨_, rfl⟩
  have HB0 : Hid (Below w.heap.size w W0) := Lib.hid (by rw [hW0]; exact ((Below.refl _ _).alloc (Nat.le_refl _) _).alloc (by simp) _)
  have HC : Hid (∀ W, Below W0.heap.size W0 W → (W.cell? ⟨w.heap.size, 0, none⟩ = some (.int .i64 c1) ∧ W.cell? ⟨w.heap.size, 1, none⟩ = some (.int .i64 s1) ∧ W.cell? ⟨w.heap.size, 2, none⟩ = some (.string r1) ∧ W.cell? ⟨w.heap.size, 3, none⟩ = some (.string l1) ∧ W.cell? ⟨w.heap.size, 4, none⟩ = some (.slice a1 n1 k1)) ∧ (W.cell? ⟨w.heap.size + 1, 0, none⟩ = some (.int .i64 c2) ∧ W.cell? ⟨w.heap.size + 1, 1, none⟩ = some (.int .i64 s2) ∧ W.cell? ⟨w.heap.size + 1, 2, none⟩ = some (.string r2) ∧ W.cell? ⟨w.heap.size + 1, 3, none⟩ = some (.string l2) ∧ W.cell? ⟨w.heap.size + 1, 4, none⟩ = some (.slice a2 n2 k2))) := Lib.hid (fun W hW => by
    have e1 : W0.heap[w.heap.size]? = some (.cells #[.int .i64 c1, .int .i64 s1, .string r1, .string l1, .slice a1 n1 k1] 38 (0, 0)) := by rw [hW0]; exact at_past w _ _
    have e2 : W0.heap[w.heap.size + 1]? = some (.cells #[.int .i64 c2, .int .i64 s2, .string r2, .string l2, .slice a2 n2 k2] 38 (0, 0)) := by rw [hW0]; exact at_second w _ _
    exact ⟨pfive (kept_block e1 hW), pfive (kept_block e2 hW)⟩)
  have HCa := Lib.hid (fun W (hW : Below w.heap.size w W) => rcheck_any key c1 s1 r1 l1 (ha.below hW) hk hla hpa)
  have HCb := Lib.hid (fun W (hW : Below w.heap.size w W) => rcheck_any key c2 s2 r2 l2 (hb.below hW) hk hlb hpb)
  have HCv := Lib.hid (fun W (hW : Below w.heap.size w W) => rconv_any c1 s1 r1 l1 c2 s2 r2 l2 (ha.below hW) (hb.below hW))
  have HR : Hid (convictsB key ⟨⟨c1, s1, r1, l1⟩, ya.map (·.1)⟩ ⟨⟨c2, s2, r2, l2⟩, yb.map (·.1)⟩ = (checkB key ⟨⟨c1, s1, r1, l1⟩, ya.map (·.1)⟩ && (checkB key ⟨⟨c2, s2, r2, l2⟩, yb.map (·.1)⟩ && convR ⟨⟨c1, s1, r1, l1⟩, ya.map (·.1)⟩ ⟨⟨c2, s2, r2, l2⟩, yb.map (·.1)⟩))) := Lib.hid (convictsR _ _ _)
  generalize convictsB key ⟨⟨c1, s1, r1, l1⟩, ya.map (·.1)⟩ ⟨⟨c2, s2, r2, l2⟩, yb.map (·.1)⟩ = RR at *
  generalize checkB key ⟨⟨c1, s1, r1, l1⟩, ya.map (·.1)⟩ = g1 at *
  generalize checkB key ⟨⟨c2, s2, r2, l2⟩, yb.map (·.1)⟩ = g2 at *
  generalize convR ⟨⟨c1, s1, r1, l1⟩, ya.map (·.1)⟩ ⟨⟨c2, s2, r2, l2⟩, yb.map (·.1)⟩ = g3 at *
  have HW0 := Lib.hid hW0
  clear ha hb hla hlb hk hpa hpb hW0
  cases g1 with
  | false =>
    have HF : Hid (RR = false) := Lib.hid (by rw [HR.out]; rfl)
    clear HCb HCv
    go_enter Tryz.func23, Tryz.ntmps23
    go_upto_region 1 with fail
    rw [← HW0.out]
    obtain ⟨⟨x0, x1, x2, x3, x4⟩, y0, y1, y2, y3, y4⟩ := HC.out W0 (Below.refl _ _)
    go_wp2_with (go_at_call 25; (with_reducible refine (HCa.out _ HB0.out).mono ?_); rintro e w1 ⟨rfl, hb1⟩; have HB1 := Lib.hid hb1; obtain ⟨⟨d0, d1, d2, d3, d4⟩, e0, e1, e2, e3, e4⟩ := HC.out w1 hb1; clear hb1)
    go_ret
    exact ⟨by rw [HF.out]; rfl, HB0.out.trans (HB1.out.mono HB0.out.size)⟩
  | true =>
    cases g2 with
    | false =>
      have HF : Hid (RR = false) := Lib.hid (by rw [HR.out]; rfl)
      clear HCv
      go_enter Tryz.func23, Tryz.ntmps23
      go_upto_region 1 with fail
      rw [← HW0.out]
      obtain ⟨⟨x0, x1, x2, x3, x4⟩, y0, y1, y2, y3, y4⟩ := HC.out W0 (Below.refl _ _)
      go_wp2_with (first | (go_at_call 25; (with_reducible refine (HCa.out _ HB0.out).mono ?_); rintro e w1 ⟨rfl, hb1⟩; have HB1 := Lib.hid hb1; obtain ⟨⟨d0, d1, d2, d3, d4⟩, e0, e1, e2, e3, e4⟩ := HC.out w1 hb1; clear hb1) | (go_at_call 25; (with_reducible refine (HCb.out _ (HB0.out.trans (HB1.out.mono HB0.out.size))).mono ?_); rintro e w2 ⟨rfl, hb2⟩; have HB2 := Lib.hid (below_next HB1.out hb2); obtain ⟨⟨f0, f1, f2, f3, f4⟩, g0, g1', g2', g3', g4⟩ := HC.out w2 HB2.out; clear hb2))
      go_ret
      exact ⟨by rw [HF.out]; rfl, HB0.out.trans (HB2.out.mono HB0.out.size)⟩
    | true =>
      have HF : Hid (RR = g3) := Lib.hid (by rw [HR.out]; rfl)
      go_enter Tryz.func23, Tryz.ntmps23
      go_upto_region 1 with fail
      rw [← HW0.out]
      obtain ⟨⟨x0, x1, x2, x3, x4⟩, y0, y1, y2, y3, y4⟩ := HC.out W0 (Below.refl _ _)
      go_wp2_with (first | (go_at_call 25; (with_reducible refine (HCa.out _ HB0.out).mono ?_); rintro e w1 ⟨rfl, hb1⟩; have HB1 := Lib.hid hb1; obtain ⟨⟨d0, d1, d2, d3, d4⟩, e0, e1, e2, e3, e4⟩ := HC.out w1 hb1; clear hb1) | (go_at_call 25; (with_reducible refine (HCb.out _ (HB0.out.trans (HB1.out.mono HB0.out.size))).mono ?_); rintro e w2 ⟨rfl, hb2⟩; have HB2 := Lib.hid (below_next HB1.out hb2); obtain ⟨⟨f0, f1, f2, f3, f4⟩, g0, g1', g2', g3', g4⟩ := HC.out w2 HB2.out; clear hb2) | (go_at_call 59; (with_reducible refine (HCv.out _ (HB0.out.trans (HB2.out.mono HB0.out.size))).mono ?_); rintro e w3 ⟨rfl, hb3⟩; have HB3 := Lib.hid (below_next HB2.out hb3); clear hb3))
      go_ret
      exact ⟨by rw [HF.out]; cases g3 <;> rfl, HB0.out.trans (HB3.out.mono HB0.out.size)⟩
end Go.Proofs.YtinfpbkbnhcifaaGreatDoor

/- Sign and Grown of package register in one form each; own rows of heads and of proofs. The conditions: what the slices read as, what the rows hold. -/
namespace Go.Proofs.YtinfpbkbnhcifaaGreatDoor
open Go.RowKit Go.BigFrame

theorem signZ_none {key : ByteArray} {r : RegP} {n : Int} (h : signB key r n = none) : headV (signZ key r n) = headZ ∧ signE key r n = 180 := by
  unfold signZ signE
  rw [h]
  exact ⟨rfl, rfl⟩
theorem signZ_some {key : ByteArray} {r : RegP} {n : Int} {h : HeadP} (e : signB key r n = some h) : signZ key r n = h ∧ signE key r n = 0 := by
  unfold signZ signE
  rw [e]
  exact ⟨rfl, rfl⟩
def hdcells (hs : List HeadP) : List (List Value) := hs.map fun h => [.int .i64 h.car, .int .i64 h.siz, .string h.root, .string h.sl]
theorem hdcells_four (hs : List HeadP) : ∀ c ∈ hdcells hs, c.length = 4 := by
  intro c hc
  unfold hdcells at hc
  obtain ⟨z, _, rfl⟩ := List.mem_map.1 hc
  rfl
def prcells (ps : List (List ByteArray × Value)) : List (List Value) := ps.map fun y => [y.2]
theorem prcells_one (ps : List (List ByteArray × Value)) : ∀ c ∈ prcells ps, c.length = 1 := by
  intro c hc
  unfold prcells at hc
  obtain ⟨z, _, rfl⟩ := List.mem_map.1 hc
  rfl
section
variable {ops : Array Oper} {rest : List Oper} {o : Oper} {a : Act} {w : World} {Q : Exit → Act → World → Prop}
end
end Go.Proofs.YtinfpbkbnhcifaaGreatDoor

/- Show, of both sides, in one form. The conditions: what the slices read as, lengths, the table of constants. -/
namespace Go.Proofs.YtinfpbkbnhcifaaGreatDoor
open Go.RowKit Go.BigFrame

def showZ (o : Option PartP) : PartP := o.getD ⟨⟨0, 0, ⟨#[]⟩, ⟨#[]⟩⟩, []⟩
def showE (o : Option PartP) : Int := if o.isSome = true then 0 else 180
def ShowIs (w : World) (p : PartP) (er : Int) (e : Ending) (w' : World) : Prop :=
  ∃ (a : Option Addr) (c : Nat), e = .returned (.tuple #[.agg #[.int .i64 p.head.car, .int .i64 p.head.siz, .string p.head.root, .string p.head.sl, .slice a p.items.length c], .int .i64 er]) ∧ IT w' (.slice a p.items.length c) p.items ∧ Below w.heap.size w w'
theorem showIs_none {w w' : World} {e : Ending} (he : e = .returned (.tuple #[partZ, .int .i64 180])) (hb : Below w.heap.size w w') : ShowIs w (showZ none) (showE none) e w' :=
  ⟨none, 0, he, ⟨[], rfl, ISt.nil w'⟩, hb⟩
theorem showIs_some {w w' : World} {e : Ending} {h : HeadP} {its : List ItemP} {v : Value} (he : e = .returned (.tuple #[.agg #[.int .i64 h.car, .int .i64 h.siz, .string h.root, .string h.sl, v], .int .i64 0])) (hi : IT w' v its) (hb : Below w.heap.size w w') : ShowIs w (showZ (some ⟨h, its⟩)) (showE (some ⟨h, its⟩)) e w' := by
  obtain ⟨a, c, rfl⟩ := hi.form2
  exact ⟨a, c, he, hi, hb⟩
theorem showB_some {key : ByteArray} {car n : Int} {xs : List ByteArray} {l : List Int} (hk : key.size = 32) (hv : validB ⟨car, xs⟩ = true) (h0 : 0 ≤ n) (h1 : n ≤ xs.length) :
    showB key ⟨car, xs⟩ n l = (itemsB xs n.toNat l none).map fun z => { head := headS key car xs n.toNat, items := z } := by
  unfold showB signB
  rw [if_pos ⟨hk, hv, h0, h1⟩]
theorem showB_none {key : ByteArray} {car n : Int} {xs : List ByteArray} {l : List Int} (h : signB key ⟨car, xs⟩ n = none) : showB key ⟨car, xs⟩ n l = none := by
  unfold showB
  rw [h]
theorem sign_cases (key : ByteArray) (car n : Int) (xs : List ByteArray) : signB key ⟨car, xs⟩ n = none ∨ (key.size = 32 ∧ validB ⟨car, xs⟩ = true ∧ ∃ k : Nat, n = (k : Int) ∧ k ≤ xs.length) := by
  by_cases h : key.size = 32 ∧ validB ⟨car, xs⟩ = true ∧ 0 ≤ n ∧ n ≤ xs.length
  · obtain ⟨h1, h2, h3, h4⟩ := h
    obtain ⟨k, rfl⟩ := Int.eq_ofNat_of_zero_le h3
    exact .inr ⟨h1, h2, k, rfl, by omega⟩
  · exact .inl (by unfold signB; rw [if_neg h])

/-! ### register.Show -/
set_option maxHeartbeats 4000000 in
set_option maxRecDepth 100000 in
theorem show_no {key : ByteArray} {car n : Int} {w : World} {v vl : Value} {xs : List ByteArray} (hr : SS w v xs) (hn : signB key ⟨car, xs⟩ n = none) :
    Calls Tryz.prog 18 #[.string key, .agg #[.int .i64 car, v], .int .i64 n, vl] w fun e w' => e = .returned (.tuple #[partZ, .int .i64 180]) ∧ Below w.heap.size w w' := by
  obtain ⟨a, c, rfl⟩ := hr.form2
  obtain ⟨m, hm⟩ : ∃ m, m = xs.length := ⟨_, rfl⟩
  rw [← hm] at hr ⊢
  clear hm
  obtain ⟨W2, hW2⟩ : ∃ W2, W2 = (w.alloc (.cells #[.int .i64 car, .slice a m c] 26)).alloc (.cells #[.int .i64 0, .int .i64 0, .string ⟨#[]⟩, .string ⟨#[]⟩, .slice none 0 0] 38) := ⟨_, rfl⟩
  have HB2 : Hid (Below w.heap.size w W2) := Lib.hid (by rw [hW2]; exact ((Below.refl _ _).alloc (Nat.le_refl _) _).alloc (by simp) _)
  have HR2 : Hid (W2.heap[w.heap.size]? = some (.cells #[.int .i64 car, .slice a m c] 26 (0, 0))) := Lib.hid (by rw [hW2]; exact at_past w _ _)
  have HP2 : Hid (W2.heap[w.heap.size + 1]? = some (.cells #[.int .i64 0, .int .i64 0, .string ⟨#[]⟩, .string ⟨#[]⟩, .slice none 0 0] 38 (0, 0))) := Lib.hid (by rw [hW2]; exact at_second w _ _)
  have HS := Lib.hid (sign_no (hr.below HB2.out) hn)
  have HW2 := Lib.hid hW2
  clear hW2 hr hn
  obtain ⟨c0, c1, _⟩ := two_cells HR2.out
  go_enter Tryz.func18, Tryz.ntmps18
  go_upto_region 1 with fail
  rw [← HW2.out]
  go_wp2_with fail
  refine HS.out.mono ?_
  rintro e w3 ⟨rfl, hb3⟩
  unfold headZ
  have hb4 : Below w3.heap.size w3 (w3.alloc (.cells #[.int .i64 0, .int .i64 0, .string ⟨#[]⟩, .string ⟨#[]⟩] 35)) := (Below.refl _ _).alloc (Nat.le_refl _) _
  have HP4 := Lib.hid (kept_block (kept_block HP2.out hb3) hb4)
  have HB4 := Lib.hid (below_next HB2.out (below_next hb3 hb4))
  clear hb3 hb4 c0 c1
  go_upto_region 2 with fail
  obtain ⟨w4, hw4⟩ : ∃ W, W = w3.alloc (.cells #[.int .i64 0, .int .i64 0, .string ⟨#[]⟩, .string ⟨#[]⟩] 35) := ⟨_, rfl⟩
  rw [← hw4] at HP4 HB4 ⊢
  generalize w3.heap.size = hb at *
  clear hw4
  obtain ⟨z0, z1, z2, z3, z4⟩ := pfive HP4.out
  have zf : ∀ j, w4.frozen? ⟨w.heap.size + 1, j, none⟩ = false := fun j => by unfold World.frozen?; rw [HP4.out]; simp
  go_wp2
  exact bodyPost_ret (results_cellA_tmp rfl _ (w.heap.size + 1) 38 #[.int .i64 0, .int .i64 0, .string ⟨#[]⟩, .string ⟨#[]⟩, .slice none 0 0] (0, 0) _ rfl (five_heap HP4.out _ _ _ _ _) Tryz.underlying38 rfl infoPart) rfl ⟨rfl, five_below HB4.out (Nat.le_succ _) _ _ _ _ _⟩
theorem show_all (key : ByteArray) (car n : Int) {w : World} {v vl : Value} {xs : List ByteArray} {l : List Int} (hr : SS w v xs) (hil : IL w vl l) (hll : l.length ≤ 100000) (he : Env w) (hg : 0 < w.heap.size) :
    Calls Tryz.prog 18 #[.string key, .agg #[.int .i64 car, v], .int .i64 n, vl] w (ShowIs w (showZ (showB key ⟨car, xs⟩ n l)) (showE (showB key ⟨car, xs⟩ n l))) := by
  rcases sign_cases key car n xs with h | ⟨hk, hv, k, rfl, hkl⟩
  · refine (show_no hr h).mono ?_
    rintro e w' ⟨h1, h2⟩
    rw [showB_none h]
    exact showIs_none h1 h2
  · refine (show_yes hr hil hk hv hkl hll he hg).mono ?_
    rintro e w' ⟨h1, h2⟩
    rw [showB_some hk hv (by omega) (by omega), Int.toNat_natCast]
    rcases h1 with ⟨h3, h4⟩ | ⟨v', ys, h3, h4, h5⟩
    · rw [h3]
      exact showIs_none h4 h2
    · rw [h3]
      exact showIs_some h4 ⟨ys, rfl, h5⟩ h2

/-! ### The reference's -/
def RShow (w W : World) (p : Nat) (R : Array Value) (h : HeadP) (cur v : Value) (ys : List (ItemP × Value)) : Prop :=
  Below w.heap.size w W ∧ W.heap[w.heap.size]? = some (.cells R 26 (0, 0)) ∧ W.heap[w.heap.size + 1]? = some zpartB ∧ W.heap[p]? = some (.cells #[.int .i64 h.car, .int .i64 h.siz, .string h.root, .string h.sl, cur] 38 (0, 0)) ∧ OwnE W (w.heap.size + 2) 53 3 v (itcells ys) ∧ (∀ y ∈ ys, SS W y.2 y.1.prf ∧ RowTy W 9 y.2) ∧ w.heap.size + 1 < p
theorem RShow.far {w W W' : World} {p : Nat} {R : Array Value} {h : HeadP} {cur v : Value} {ys : List (ItemP × Value)} (hA : RShow w W p R h cur v ys) (hb : Below W.heap.size W W') : RShow w W' p R h cur v ys := by
  obtain ⟨h1, h2, h3, h4, h5, h6, h7⟩ := hA
  exact ⟨below_next h1 hb, kept_block h2 hb, kept_block h3 hb, kept_block h4 hb, OwnE.far h5 hb (Nat.le_refl _), fun y hy => ⟨(h6 y hy).1.below hb, (h6 y hy).2.below hb⟩, h7⟩
theorem RShow.grow {w W W' : World} {p : Nat} {R : Array Value} {h : HeadP} {cur v v' : Value} {ys : List (ItemP × Value)} (hA : RShow w W p R h cur v ys) (y : ItemP × Value) (hy : SS W y.2 y.1.prf) (ht : RowTy W 9 y.2) (ho : OwnE W' (w.heap.size + 2) 53 3 v' (itcells (ys ++ [y]))) (hg : W.grownBy W' v.ownBlock) : RShow w W' p R h cur v' (ys ++ [y]) := by
  obtain ⟨h1, h2, h3, h4, h5, h6, h7⟩ := hA
  have hsz : w.heap.size + 2 ≤ W.heap.size := by
    have := (Array.getElem?_eq_some_iff.1 h4).1
    omega
  have keep : ∀ {k : Nat} {cs : Array Value} {T : TypeId}, W.heap[k]? = some (.cells cs T (0, 0)) → T ≠ 53 → W'.heap[k]? = some (.cells cs T (0, 0)) := fun hk hT =>
    (hg.block _ (Array.getElem?_eq_some_iff.1 hk).1 (own_ne h5 hk (fun c e => by cases e; exact hT rfl))).trans hk
  have items : ∀ z : ItemP × Value, SS W z.2 z.1.prf → RowTy W 9 z.2 → SS W' z.2 z.1.prf ∧ RowTy W' 9 z.2 := fun z hz ht => hz.grownT ht hg (fun k e cs fr e' => by
    rcases h5.2 with ⟨hn, _⟩ | ⟨g', c', cur, hv, _, hg', _⟩
    · rw [hn] at e; cases e
    · rw [hv] at e
      cases e
      rw [hg'] at e'
      cases e')
  refine ⟨h1.grown hg h1.size (fun j e => Nat.le_trans (by omega) (OwnE.ge h5 j e)), keep h2 (by decide), keep h3 (by decide), keep h4 (by decide), ho, fun z hz => ?_, h7⟩
  rcases List.mem_append.1 hz with hz | hz
  · exact items z (h6 z hz).1 (h6 z hz).2
  · rw [List.mem_singleton] at hz
    subst hz
    exact items _ hy ht
theorem RShow.store {w W : World} {p : Nat} {R : Array Value} {h : HeadP} {cur v : Value} {ys : List (ItemP × Value)} (hA : RShow w W p R h cur v ys) : RShow w (W.setCell ⟨p, 4, none⟩ v) p R h v v ys := by
  obtain ⟨h1, h2, h3, h4, h5, h6, h7⟩ := hA
  have hg : W.grownBy (W.setCell ⟨p, 4, none⟩ v) (some p) := grown_setCell (grown_refl W (some p)) ⟨p, 4, none⟩ (.inl rfl) v
  refine ⟨h1.setCell (p := ⟨p, 4, none⟩) (by show w.heap.size ≤ p; omega) v, (Below.heap_setCell _ _ _ _ (by show w.heap.size ≠ p; omega)).trans h2, (Below.heap_setCell _ _ _ _ (by show w.heap.size + 1 ≠ p; omega)).trans h3, heap_setCell_same (i := 4) v h4, OwnE.grownT h5 h4 (fun c e => by cases e) hg, fun y hy => ?_, h7⟩
  exact (h6 y hy).1.grownT (h6 y hy).2 hg (fun k e cs fr e' => by
    cases e
    rw [h4] at e'
    cases e')
theorem IS.one {w : World} {b : Nat} {i : Int} {en : ByteArray} {pr : List ByteArray} {pv : Value} {fz : Nat × Nat} (h : w.heap[b]? = some (.cells #[.int .i64 i, .string en, pv] 53 fz)) (hp : SS w pv pr) : IS w (.slice (some ⟨b, 0, none⟩) 1 1) [(⟨i, en, pr⟩, pv)] :=
  ⟨slice_lit (cs := itcells [(⟨i, en, pr⟩, pv)]) h (fun c hc => by simp [itcells] at hc; subst hc; rfl) rfl (by simp [itcells]), fun y hy => by rw [List.mem_singleton.1 hy]; exact hp⟩
end Go.Proofs.YtinfpbkbnhcifaaGreatDoor
