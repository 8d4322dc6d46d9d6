/- The walk of RegisterShows. The conditions: what the slices read as, ranges, the table of constants. -/
import Derived.Test.YtinfpbkbnhcifaaGreatDoorQSL0
namespace Go.Proofs.YtinfpbkbnhcifaaGreatDoor
open Go.RowKit Go.BigFrame

set_option maxHeartbeats 16000000 in
set_option maxRecDepth 100000 in
theorem shows_walk {w : World} (carrier at' nn bits how : Int) {vx vy : Value} {x ys : List Int} (hx : IL w vx x) (hy : IL w vy ys) (ic : I64 carrier) (ix : ∀ n ∈ x, I64 n) (ia : I64 at') (iy : ∀ n ∈ ys, I64 n) (inn : I64 nn) (ib : I64 bits) (ih : I64 how) (he : Env w) (hg : 0 < w.heap.size) :
    Calls Tryz.prog 4 #[.int .i64 carrier, vx, .int .i64 at', vy, .int .i64 nn, .int .i64 bits, .int .i64 how] w fun e w' => e = .returned (.bool true) ∧ Below w.heap.size w w' := by
  have hpk := pickI_range carrier (n := 8) (by omega)
  obtain ⟨cn, hcn⟩ := Int.eq_ofNat_of_zero_le hpk.1
  have hc7 : cn ≤ 7 := by omega
  have HV : Hid (validB ⟨(cn : Int), madeL x⟩ = true) := Lib.hid (by rw [← hcn]; exact made_valid carrier x)
  have HOV := Lib.hid (other_valid (car := (cn : Int)) (xs := madeL x) at' ys (by omega) (madeL_len x) (madeL_small x))
  have HIY := Lib.hid iy
  have HIX := Lib.hid ix
  have HX := Lib.hid hx
  have HY := Lib.hid hy
  have HIC := Lib.hid ic
  have HIA := Lib.hid ia
  have HIA2 := Lib.hid ia
  have HIH := Lib.hid ih
  have HIN := Lib.hid inn
  have HIB := Lib.hid ib
  have K0 := Lib.hid (Know.start he hg)
  clear hpk iy ix hx ic he hg hy ia ih inn ib
  obtain ⟨xs, hxs⟩ : ∃ xs, xs = madeL x := ⟨_, rfl⟩
  have hm12 : xs.length ≤ 12 := by rw [hxs]; exact madeL_len x
  rw [← hxs] at HV HOV
  have HXS := Lib.hid hxs
  clear hxs
  obtain ⟨zs, hzs⟩ : ∃ zs, zs = otherL xs at' ys := ⟨_, rfl⟩
  rw [← hzs] at HOV
  have HZS := Lib.hid hzs
  have hz12 := HOV.out.2.1
  clear hzs
  go_enter Tryz.func4, Tryz.ntmps4
  go_wp2_with fail
  refine (sane_at K0.out).mono ?_
  rintro e w1 ⟨rfl, kw1⟩
  have K1 := Lib.hid kw1
  clear kw1 K0
  go_wp2_with fail
  refine (made_at K1.out (HX.out.below K1.out.below) HIX.out carrier HIC.out).mono ?_
  rintro e w2 ⟨vr, rfl, k2⟩
  rw [← HXS.out] at k2
  rw [hcn]
  obtain ⟨ar, cr, rfl⟩ := (k2.all 0 _ rfl : SS w2 vr xs).form2
  simp only [List.nil_append] at k2
  have K2 := Lib.hid k2
  clear k2 K1 HX HIX HIC hcn HXS
  obtain ⟨m, hm⟩ : ∃ m, m = xs.length := ⟨_, rfl⟩
  rw [← hm] at hm12 K2 ⊢
  have HM := Lib.hid hm
  clear hm
  go_upto_region 5 with fail
  have kw3 := K2.out.box #[.int .i64 cn, .slice ar m cr] 26
  obtain ⟨w3, hww3⟩ : ∃ W, W = w2.alloc (.cells #[.int .i64 cn, .slice ar m cr] 26) := ⟨_, rfl⟩
  rw [← hww3] at kw3 ⊢
  clear hww3
  generalize w2.heap.size = rb at kw3 ⊢
  simp only [List.nil_append, List.cons_append] at kw3
  have K3 := Lib.hid kw3
  clear kw3 K2
  obtain ⟨rc0, rc1⟩ := K3.out.duo (i := 1) rfl
  go_wp2_with fail
  refine (other_at K3.out 0 rfl (by rw [← HM.out]; exact hm12) (HY.out.below K3.out.below) HIY.out at' HIA.out cn).mono ?_
  rintro e w4 ⟨vz, rfl, k4⟩
  rw [← HZS.out] at k4
  obtain ⟨az, cz, rfl⟩ := (k4.all 2 _ rfl : SS w4 vz zs).form2
  simp only [List.nil_append, List.cons_append] at k4
  have K4 := Lib.hid k4
  clear k4 K3 HY HIY HIA HZS rc0 rc1
  obtain ⟨mz, hmz⟩ : ∃ m, m = zs.length := ⟨_, rfl⟩
  rw [← hmz] at hz12 K4 ⊢
  have HMZ := Lib.hid hmz
  clear hmz
  go_upto_region 6 with fail
  have kw5 := K4.out.box #[.int .i64 cn, .slice az mz cz] 26
  obtain ⟨w5, hww5⟩ : ∃ W, W = w4.alloc (.cells #[.int .i64 cn, .slice az mz cz] 26) := ⟨_, rfl⟩
  rw [← hww5] at kw5 ⊢
  clear hww5
  generalize w4.heap.size = zb at kw5 ⊢
  simp only [List.nil_append, List.cons_append] at kw5
  have K5 := Lib.hid kw5
  clear kw5 K4
  obtain ⟨rc0, rc1⟩ := K5.out.duo (i := 1) rfl
  go_wp2_with fail
  clear rc0 rc1
  refine (key_at K5.out cn (by omega)).mono ?_
  rintro e w6 ⟨rfl, kw6⟩
  have K6 := Lib.hid kw6
  clear kw6 K5
  have HK32 := Lib.hid (keyS_size (cn : Int))
  generalize keyS (cn : Int) = key at *
  have HPK := Lib.hid (fun W => lpick_any nn ((m : Int) + 1) W HIN.out (by omega) (by omega))
  obtain ⟨p0, p1⟩ := pickI_range nn (n := (m : Int) + 1) (by omega)
  obtain ⟨na, hlo⟩ := Int.eq_ofNat_of_zero_le p0
  rw [hlo] at HPK p1
  have hnam : na ≤ m := by omega
  have HPZ := Lib.hid (fun W => lpick_any nn ((mz : Int) + 1) W HIN.out (by omega) (by omega))
  obtain ⟨p2, p3⟩ := pickI_range nn (n := (mz : Int) + 1) (by omega)
  obtain ⟨nb, hsz⟩ := Int.eq_ofNat_of_zero_le p2
  rw [hsz] at HPZ p3
  have hnbm : nb ≤ mz := by omega
  have f1 : IntKind.i64.wrap ((m : Int) + 1) = (m : Int) + 1 := IntWalk.i64_in _ (by omega)
  have f2 : IntKind.i64.wrap ((mz : Int) + 1) = (mz : Int) + 1 := IntWalk.i64_in _ (by omega)
  clear hlo hsz p0 p1 p2 p3
  obtain ⟨rc0, rc1⟩ := K6.out.duo (i := 1) rfl
  go_upto_region 8 with (go_at_call 16; (with_reducible refine (HPK.out _).mono ?_); rintro e w' ⟨rfl, hw'⟩; replace hw' := hw'.symm; subst hw')
  clear rc0 rc1 f1 HPK
  obtain ⟨⟨⟨c1P, c2P, c3P, c4P⟩, isP⟩, hpP⟩ : ∃ p : PartP, p = partS key cn xs na (idxS bits na) := ⟨_, rfl⟩
  have HPP := Lib.hid hpP
  clear hpP
  have HCL := Lib.hid (fun W (hW : Below w6.heap.size w6 W) => (K6.out.step hW).duo (i := 1) rfl)
  have HIX := Lib.hid (fun W => indices_any bits HIB.out na (by omega) W)
  have HSX := Lib.hid (show_w K6.out 0 rfl key cn na HK32.out HV.out (by rw [← HM.out]; exact hnam) bits c1P c2P c3P c4P isP HPP.out)
  refine wp_region_noPanic ?_
  refine wp_region_lexB [.q 0, .q 1, .q 2, .q 3, .q 4, .an 10, .b 5, .b 6, .q 7, .q 8, .q 9, .co 10, .b 11, .q 12] (by kernel_rfl) (by kernel_rfl) (fun _ _ _ _ h => h) ?_
  refine wpFl_qL (v := ?_) rfl (Or.inl ⟨by rfl, ?_⟩) ?_
  rotate_left
  focus (intro w' hSw; (try dsimp only [OldKept] at hSw); obtain ⟨rc0, rc1⟩ := HCL.out w' hSw; go_simp; (try with_reducible rfl); done)
  simp only [Act.put, List.setIfInBounds_toArray, List.set_cons_zero, List.set_cons_succ]
  refine wpFl_qL (v := ?_) rfl (Or.inl ⟨by rfl, ?_⟩) ?_
  rotate_left
  focus (intro w' hSw; (try dsimp only [OldKept] at hSw); obtain ⟨rc0, rc1⟩ := HCL.out w' hSw; go_simp; (try with_reducible rfl); done)
  simp only [Act.put, List.setIfInBounds_toArray, List.set_cons_zero, List.set_cons_succ]
  refine wpFl_qL (v := ?_) rfl (Or.inl ⟨by rfl, ?_⟩) ?_
  rotate_left
  focus (intro w' hSw; (try dsimp only [OldKept] at hSw); obtain ⟨rc0, rc1⟩ := HCL.out w' hSw; go_simp; (try with_reducible rfl); done)
  simp only [Act.put, List.setIfInBounds_toArray, List.set_cons_zero, List.set_cons_succ]
  refine wpFl_qL (v := ?_) rfl (Or.inl ⟨by rfl, ?_⟩) ?_
  rotate_left
  focus (intro w' hSw; (try dsimp only [OldKept] at hSw); obtain ⟨rc0, rc1⟩ := HCL.out w' hSw; go_simp; (try with_reducible rfl); done)
  simp only [Act.put, List.setIfInBounds_toArray, List.set_cons_zero, List.set_cons_succ]
  refine wpFl_qL (v := ?_) rfl (Or.inl ⟨by rfl, ?_⟩) ?_
  rotate_left
  focus (intro w' hSw; (try dsimp only [OldKept] at hSw); obtain ⟨rc0, rc1⟩ := HCL.out w' hSw; go_simp; (try with_reducible rfl); done)
  simp only [Act.put, List.setIfInBounds_toArray, List.set_cons_zero, List.set_cons_succ]
  refine wpFl_anL rfl (.cells #[.int .i64 0, .int .i64 0, .string ⟨#[]⟩, .string ⟨#[]⟩, .slice none 0 0] 38 (0, 0)) (fun n => .pointer (some ⟨n, 0, none⟩)) ⟨by rfl, fun w' => ?_⟩ ?_
  focus (go_simp; done)
  refine wpFl_bL rfl (fun waP hnaP hsaP K hK => ?_)
  go_simp
  go_at_call 17
  (with_reducible refine (HIX.out _).mono ?_)
  rintro e wbP ⟨viP, rfl, hilP, hbP⟩
  have HIL := Lib.hid hilP
  refine hK.out _ _ (below_next hsaP hbP) (Keeps.below hbP) ?_
  clear hK K hnaP hsaP hbP hilP
  refine wpFl_bL rfl (fun wcP hncP hscP K hK => ?_)
  go_simp
  go_at_call 18
  refine (HSX.out _ _ hscP (IL.below HIL.out hncP)).mono ?_
  rintro e wdP ⟨aP, nP, rfl, hitP, hbP⟩
  have HIT := Lib.hid hitP
  refine hK.out _ _ (below_next hscP hbP) (Keeps.below hbP) ?_
  clear hK K hncP hscP hbP hitP HIL HIX HSX
  refine wpFl_qL (v := ?_) rfl (Or.inl ⟨by rfl, ?_⟩) ?_
  rotate_left
  focus (intro w' hSw; (try dsimp only [OldKept] at hSw); go_simp; (try with_reducible rfl); done)
  simp only [Act.put, List.setIfInBounds_toArray, List.set_cons_zero, List.set_cons_succ]
  refine wpFl_qL (v := ?_) rfl (Or.inl ⟨by rfl, ?_⟩) ?_
  rotate_left
  focus (intro w' hSw; (try dsimp only [OldKept] at hSw); go_simp; (try with_reducible rfl); done)
  simp only [Act.put, List.setIfInBounds_toArray, List.set_cons_zero, List.set_cons_succ]
  refine wpFl_qL (v := ?_) rfl (Or.inl ⟨by rfl, ?_⟩) ?_
  rotate_left
  focus (intro w' hSw; (try dsimp only [OldKept] at hSw); go_simp; (try with_reducible rfl); done)
  simp only [Act.put, List.setIfInBounds_toArray, List.set_cons_zero, List.set_cons_succ]
  refine wpFl_coL rfl (.cells #[.int .i64 0, .int .i64 0, .string ⟨#[]⟩, .string ⟨#[]⟩, .slice none 0 0] 38 (0, 0)) (fun n => .pointer (some ⟨n, 0, none⟩)) (by rfl) (N' := []) (by rfl) (fun pbP weP hn_weP hs_weP hb_pbP hz_pbP => ?_)
  simp only [Act.put, List.setIfInBounds_toArray, List.set_cons_zero, List.set_cons_succ]
  refine wpFl_bL rfl (fun wfP hnfP hsfP K hK => ?_)
  have HZ := Lib.hid (kept_block hz_pbP hnfP)
  have HIT2 := Lib.hid (IT.below (IT.below HIT.out hn_weP) hnfP)
  obtain ⟨z0', z1', z2', z3', z4'⟩ := pfive HZ.out
  have zf : ∀ j, wfP.frozen? ⟨pbP, j, none⟩ = false := fun j => by unfold World.frozen?; rw [HZ.out]; simp
  go_simp
  refine hK.out _ _ (five_below hsfP hb_pbP _ _ _ _ _) Keeps.nil ?_
  clear hK K
  have kw8 := ((K6.out.step (five_below hsfP hb_pbP (.int .i64 c1P) (.int .i64 c2P) (.string c3P) (.string c4P) (.slice aP isP.length nP))).put (d := .I (.slice aP isP.length nP) isP) (IT.grownT HIT2.out HZ.out (by decide) (by decide) (five_grown wfP pbP (.int .i64 c1P) (.int .i64 c2P) (.string c3P) (.string c4P) (.slice aP isP.length nP)))).put (d := .B pbP #[.int .i64 c1P, .int .i64 c2P, .string c3P, .string c4P, .slice aP isP.length nP] 38) (five_heap HZ.out _ _ _ _ _)
  generalize (((((wfP.setCell ⟨pbP, 0, none⟩ (.int .i64 c1P)).setCell ⟨pbP, 1, none⟩ (.int .i64 c2P)).setCell ⟨pbP, 2, none⟩ (.string c3P)).setCell ⟨pbP, 3, none⟩ (.string c4P)).setCell ⟨pbP, 4, none⟩ (.slice aP isP.length nP)) = w8 at *
  simp only [List.nil_append, List.cons_append] at kw8
  have K8 := Lib.hid kw8
  clear kw8 z0' z1' z2' z3' z4' zf HZ HIT HIT2 hnfP hsfP hb_pbP hz_pbP hn_weP hs_weP HCL K6
  refine wpFl_qL (v := ?_) rfl (Or.inl ⟨by rfl, ?_⟩) ?_
  rotate_left
  focus (intro w' hSw; (try dsimp only [OldKept] at hSw); go_simp; (try with_reducible rfl); done)
  simp only [Act.put, List.setIfInBounds_toArray, List.set_cons_zero, List.set_cons_succ]
  refine wpFl_nil ?_
  refine NoPanic.normal ?_
  have HFP : Hid (FitOne ⟨⟨c1P, c2P, c3P, c4P⟩, isP⟩) := Lib.hid (by rw [HPP.out]; exact fit_part _ _ _ _ _ (by have := idxS_len bits na; omega) (by rw [← HM.out]; omega))
  have HIL1 : Hid ((idxI bits na).length = isP.length) := Lib.hid (by
    have h1 := congrArg (fun p : PartP => p.items.length) HPP.out
    simp only at h1
    rw [h1, shown_mem]
    unfold idxI
    rw [List.length_map])
  have HCK := Lib.hid (check_w K8.out 4 key c1P c2P c3P c4P isP rfl (by rw [HK32.out]; omega) HFP.out true (by rw [HPP.out]; exact part_check HK32.out HV.out (by rw [← HM.out]; exact hnam) (idxS_asc _ _) (idxS_lt _ _)))
  have HIX := Lib.hid (fun W => indices_any bits HIB.out na (by omega) W)
  have HL : Hid (∀ W, Below w8.heap.size w8 W → (W.cell? ⟨pbP, 0, none⟩ = some (.int .i64 c1P) ∧ W.cell? ⟨pbP, 1, none⟩ = some (.int .i64 c2P) ∧ W.cell? ⟨pbP, 2, none⟩ = some (.string c3P) ∧ W.cell? ⟨pbP, 3, none⟩ = some (.string c4P) ∧ W.cell? ⟨pbP, 4, none⟩ = some (.slice aP isP.length nP))) := Lib.hid (fun W hW => pfive ((K8.out.step hW).all 5 _ rfl))
  go_upto_region 9 with fail
  go_cut [83] (fun t wx => t = .bool false ∧ Hid (Below w8.heap.size w8 wx))
  case first =>
    refine wp_region_noPanic ?_
    refine wp_region_lexB [.q 0, .q 1, .q 2, .q 3, .q 4, .b 5, .q 6, .q 7, .q 8, .q 9, .q 10, .q 11, .q 12, .q 13, .b 14, .q 15, .q 16, .q 17] (by kernel_rfl) (by kernel_rfl) (fun _ _ _ _ h => h) ?_
    refine wpFl_qL (v := ?_) rfl (Or.inl ⟨by rfl, ?_⟩) ?_
    rotate_left
    focus (intro w' hSw; (try dsimp only [OldKept] at hSw); obtain ⟨c0, c1, c2, c3, c4⟩ := HL.out w' hSw; go_simp; (try with_reducible rfl); done)
    simp only [Act.put, List.setIfInBounds_toArray, List.set_cons_zero, List.set_cons_succ]
    refine wpFl_qL (v := ?_) rfl (Or.inl ⟨by rfl, ?_⟩) ?_
    rotate_left
    focus (intro w' hSw; (try dsimp only [OldKept] at hSw); obtain ⟨c0, c1, c2, c3, c4⟩ := HL.out w' hSw; go_simp; (try with_reducible rfl); done)
    simp only [Act.put, List.setIfInBounds_toArray, List.set_cons_zero, List.set_cons_succ]
    refine wpFl_qL (v := ?_) rfl (Or.inl ⟨by rfl, ?_⟩) ?_
    rotate_left
    focus (intro w' hSw; (try dsimp only [OldKept] at hSw); obtain ⟨c0, c1, c2, c3, c4⟩ := HL.out w' hSw; go_simp; (try with_reducible rfl); done)
    simp only [Act.put, List.setIfInBounds_toArray, List.set_cons_zero, List.set_cons_succ]
    refine wpFl_qL (v := ?_) rfl (Or.inl ⟨by rfl, ?_⟩) ?_
    rotate_left
    focus (intro w' hSw; (try dsimp only [OldKept] at hSw); obtain ⟨c0, c1, c2, c3, c4⟩ := HL.out w' hSw; go_simp; (try with_reducible rfl); done)
    simp only [Act.put, List.setIfInBounds_toArray, List.set_cons_zero, List.set_cons_succ]
    refine wpFl_qL (v := ?_) rfl (Or.inl ⟨by rfl, ?_⟩) ?_
    rotate_left
    focus (intro w' hSw; (try dsimp only [OldKept] at hSw); obtain ⟨c0, c1, c2, c3, c4⟩ := HL.out w' hSw; go_simp; (try with_reducible rfl); done)
    simp only [Act.put, List.setIfInBounds_toArray, List.set_cons_zero, List.set_cons_succ]
    refine wpFl_bL rfl (fun w9 hn9 hs9 K hK => ?_)
    go_simp
    go_at_call 24
    (with_reducible refine (HCK.out _ hs9).mono ?_)
    rintro e w10 ⟨rfl, hb10⟩
    refine hK.out _ _ (below_next hs9 hb10) (Keeps.below hb10) ?_
    clear hK K hn9 hs9 hb10
    refine wpFl_qL (v := ?_) rfl (Or.inl ⟨by rfl, ?_⟩) ?_
    rotate_left
    focus (intro w' hSw; (try dsimp only [OldKept] at hSw); obtain ⟨c0, c1, c2, c3, c4⟩ := HL.out w' hSw; go_simp; (try with_reducible rfl); done)
    simp only [Act.put, List.setIfInBounds_toArray, List.set_cons_zero, List.set_cons_succ]
    refine wpFl_qL (v := ?_) rfl (Or.inl ⟨by rfl, ?_⟩) ?_
    rotate_left
    focus (intro w' hSw; (try dsimp only [OldKept] at hSw); obtain ⟨c0, c1, c2, c3, c4⟩ := HL.out w' hSw; go_simp; (try with_reducible rfl); done)
    simp only [Act.put, List.setIfInBounds_toArray, List.set_cons_zero, List.set_cons_succ]
    refine wpFl_qL (v := ?_) rfl (Or.inl ⟨by rfl, ?_⟩) ?_
    rotate_left
    focus (intro w' hSw; (try dsimp only [OldKept] at hSw); obtain ⟨c0, c1, c2, c3, c4⟩ := HL.out w' hSw; go_simp; (try with_reducible rfl); done)
    simp only [Act.put, List.setIfInBounds_toArray, List.set_cons_zero, List.set_cons_succ]
    refine wpFl_qL (v := ?_) rfl (Or.inl ⟨by rfl, ?_⟩) ?_
    rotate_left
    focus (intro w' hSw; (try dsimp only [OldKept] at hSw); obtain ⟨c0, c1, c2, c3, c4⟩ := HL.out w' hSw; go_simp; (try with_reducible rfl); done)
    simp only [Act.put, List.setIfInBounds_toArray, List.set_cons_zero, List.set_cons_succ]
    refine wpFl_qL (v := ?_) rfl (Or.inl ⟨by rfl, ?_⟩) ?_
    rotate_left
    focus (intro w' hSw; (try dsimp only [OldKept] at hSw); obtain ⟨c0, c1, c2, c3, c4⟩ := HL.out w' hSw; go_simp; (try with_reducible rfl); done)
    simp only [Act.put, List.setIfInBounds_toArray, List.set_cons_zero, List.set_cons_succ]
    refine wpFl_qL (v := ?_) rfl (Or.inl ⟨by rfl, ?_⟩) ?_
    rotate_left
    focus (intro w' hSw; (try dsimp only [OldKept] at hSw); obtain ⟨c0, c1, c2, c3, c4⟩ := HL.out w' hSw; go_simp; (try with_reducible rfl); done)
    simp only [Act.put, List.setIfInBounds_toArray, List.set_cons_zero, List.set_cons_succ]
    refine wpFl_qL (v := ?_) rfl (Or.inl ⟨by rfl, ?_⟩) ?_
    rotate_left
    focus (intro w' hSw; (try dsimp only [OldKept] at hSw); obtain ⟨c0, c1, c2, c3, c4⟩ := HL.out w' hSw; go_simp; (try with_reducible rfl); done)
    simp only [Act.put, List.setIfInBounds_toArray, List.set_cons_zero, List.set_cons_succ]
    refine wpFl_qL (v := ?_) rfl (Or.inl ⟨by rfl, ?_⟩) ?_
    rotate_left
    focus (intro w' hSw; (try dsimp only [OldKept] at hSw); obtain ⟨c0, c1, c2, c3, c4⟩ := HL.out w' hSw; go_simp; (try with_reducible rfl); done)
    simp only [Act.put, List.setIfInBounds_toArray, List.set_cons_zero, List.set_cons_succ]
    refine wpFl_bL rfl (fun w11 hn11 hs11 K hK => ?_)
    go_simp
    go_at_call 17
    (with_reducible refine (HIX.out _).mono ?_)
    rintro e w12 ⟨vi, rfl, hil, hb12⟩
    obtain ⟨ai, ci, rfl⟩ := hil.form2
    rw [HIL1.out]
    have HB12 := Lib.hid (below_next hs11 hb12)
    refine hK.out _ _ HB12.out (Keeps.below hb12) ?_
    clear hK K hn11 hs11 hb12 hil
    refine wpFl_qL (v := ?_) rfl (Or.inl ⟨by rfl, ?_⟩) ?_
    rotate_left
    focus (intro w' hSw; (try dsimp only [OldKept] at hSw); go_simp; (try with_reducible rfl); done)
    simp only [Act.put, List.setIfInBounds_toArray, List.set_cons_zero, List.set_cons_succ]
    refine wpFl_qL (v := ?_) rfl (Or.inl ⟨by rfl, ?_⟩) ?_
    rotate_left
    focus (intro w' hSw; (try dsimp only [OldKept] at hSw); go_simp; (try with_reducible rfl); done)
    simp only [Act.put, List.setIfInBounds_toArray, List.set_cons_zero, List.set_cons_succ]
    refine wpFl_qL (v := ?_) rfl (Or.inl ⟨by rfl, ?_⟩) ?_
    rotate_left
    focus (intro w' hSw; (try dsimp only [OldKept] at hSw); go_simp; (try with_reducible rfl); done)
    simp only [Act.put, List.setIfInBounds_toArray, List.set_cons_zero, List.set_cons_succ]
    refine wpFl_nil ?_
    refine NoPanic.normal ?_
    go_wp2
    go_meet
    case rel => exact ⟨rfl, HB12⟩
  case rest =>
  obtain ⟨ht83, HBc⟩ := hcut
  subst ht83
  have k9 := K8.out.step HBc.out
  have K9 := Lib.hid k9
  clear k9 HCK HIX HL HBc
  obtain ⟨w9, hw9⟩ : ∃ W, W = wc := ⟨_, rfl⟩
  rw [← hw9] at K9 ⊢
  clear hw9 wc K8
  -- what is shown
  obtain ⟨y1, y2, ey, y3, y4, hcl⟩ := (K9.out.all 4 _ rfl : IT w9 (.slice aP isP.length nP) isP).opened
  have eaz : aP = y1 := by injection ey
  rw [← eaz] at hcl
  have HCL := Lib.hid hcl
  obtain ⟨x', y', ex, x1, x2, x3⟩ := (K9.out.all 0 _ rfl : SS w9 (.slice ar m cr) xs).opened
  have ear : ar = x' := by injection ex
  have gcr : m ≤ cr := by
    injection ex with _ _ e3
    omega
  rw [← ear] at x3
  have HX3 := Lib.hid x3
  clear ex x1 x2 x3 ear hcl ey eaz y3 y4
  have HPI : Hid (∀ x ∈ isP, ∃ t : Nat, x.idx = (t : Int) ∧ t < na ∧ xs[t]? = some x.ent) := Lib.hid (fun x hx => part_items (key := key) (car := (cn : Int)) (xs := xs) (n := na) (b := bits) (by rw [← HM.out]; exact hnam) (by rw [← HPP.out]; exact hx))
  have HEN : Hid (∀ x ∈ isP, x.ent.size ≤ 100000) := Lib.hid (fun x hx => by
    obtain ⟨t, _, _, h3⟩ := HPI.out x hx
    have := (valid_parts HV.out).2.2.2 x.ent (List.mem_of_getElem? h3)
    omega)
  have HL : Hid (∀ W, Below w9.heap.size w9 W → (W.cell? ⟨pbP, 0, none⟩ = some (.int .i64 c1P) ∧ W.cell? ⟨pbP, 1, none⟩ = some (.int .i64 c2P) ∧ W.cell? ⟨pbP, 2, none⟩ = some (.string c3P) ∧ W.cell? ⟨pbP, 3, none⟩ = some (.string c4P) ∧ W.cell? ⟨pbP, 4, none⟩ = some (.slice aP isP.length nP)) ∧ W.cell? ⟨rb, 1, none⟩ = some (.slice ar m cr) ∧ W.cell? ⟨zb, 1, none⟩ = some (.slice az mz cz)) := Lib.hid (fun W hW => ⟨pfive ((K9.out.step hW).all 5 _ rfl), ((K9.out.step hW).duo (i := 1) rfl).2, ((K9.out.step hW).duo (i := 3) rfl).2⟩)
  have hLP5 : isP.length ≤ 100000 := HFP.out.2.1
  obtain ⟨LP, hLP⟩ : ∃ L, L = isP.length := ⟨_, rfl⟩
  rw [← hLP] at HL K9 hLP5
  have HLP := Lib.hid hLP
  clear hLP HIL1
  have HB0 : Hid (Below w9.heap.size w9 w9) := Lib.hid (Below.refl _ _)
  go_upto_block 0 with fail
  go_cut [22] (fun _ wx => Hid (Below w9.heap.size w9 wx))
  case first =>
    go_wp2
    go_loopw [22] (fun i wr => ∃ k : Nat, k ≤ LP ∧ i = .int .i64 k ∧ Hid (Below w9.heap.size w9 wr)) (fun i _ => LP - (intOf i).toNat)
    case atStart => exact ⟨0, by omega, rfl, HB0⟩
    case round =>
      clear HB0
      obtain ⟨k, hk, rfl, hB⟩ := hrel
      obtain ⟨⟨c0, c1, c2, c3, c4⟩, r1, r2⟩ := HL.out wr hB.out
      by_cases hlk : k < LP
      · obtain ⟨⟨xi, xe, xp⟩, exk⟩ : ∃ u, isP[k]? = some u := ⟨_, List.getElem?_eq_getElem (by rw [← HLP.out]; exact hlk)⟩
        obtain ⟨i, hxi, hina, esx⟩ := HPI.out _ (List.mem_of_getElem? exk)
        obtain ⟨b, off, pv, eb, hb, g0, g1, g2, hss⟩ := HCL.out k _ exk
        subst eb
        simp only at hxi esx g0 g1 g2
        subst hxi
        have g0 := cell_keepB hB.out hb g0
        have g1 := cell_keepB hB.out hb g1
        obtain ⟨bx, ox, eax, hbx, cx0⟩ := HX3.out i xe esx
        subst eax
        have cx1 := cell_keepB hB.out hbx cx0
        have tk : (k : Int) < (LP : Int) := by omega
        have tk0 : (0 : Int) ≤ (k : Int) := by omega
        have ti0 : (0 : Int) ≤ (i : Int) := by omega
        have ti1 : ¬ (i : Int) < 0 := by omega
        have ti2 : ¬ (na : Int) ≤ (i : Int) := by omega
        have ti3 : (i : Int) < (m : Int) := by omega
        clear hss exk esx cx0 g2
        go_upto_region 14 with fail
        go_quiet (fail)
        have HBq := Lib.hid (below_drewN hB.out nq)
        go_wp2
        go_roundw
        case rel => exact ⟨k + 1, by omega, by go_num, HBq⟩
        case measure => simp [intOf]; omega
      · have tk : ¬ (k : Int) < (LP : Int) := by omega
        go_wp2
        go_meet
        case rel => exact hB
  case rest =>
  have k10 := K9.out.step hcut.out
  have K10 := Lib.hid k10
  clear k10 HL HCL HX3 HPI HB0 hcut gcr
  obtain ⟨w10, hw10⟩ : ∃ W, W = wc := ⟨_, rfl⟩
  rw [← hw10] at K10 ⊢
  clear hw10 wc K9
  have HOV1 := Lib.hid HOV.out.1
  obtain ⟨zc0, zc1⟩ := K10.out.duo (i := 3) rfl
  go_upto_region 17 with (go_at_call 16; (with_reducible refine (HPZ.out _).mono ?_); rintro e w' ⟨rfl, hw'⟩; replace hw' := hw'.symm; subst hw')
  clear zc0 zc1 f2 HPZ
  obtain ⟨⟨⟨c1Q, c2Q, c3Q, c4Q⟩, isQ⟩, hpQ⟩ : ∃ p : PartP, p = partS key cn zs nb (idxS bits nb) := ⟨_, rfl⟩
  have HPQ := Lib.hid hpQ
  clear hpQ
  have HCL := Lib.hid (fun W (hW : Below w10.heap.size w10 W) => (K10.out.step hW).duo (i := 3) rfl)
  have HIX := Lib.hid (fun W => indices_any bits HIB.out nb (by omega) W)
  have HSX := Lib.hid (show_w K10.out 2 rfl key cn nb HK32.out HOV1.out (by rw [← HMZ.out]; exact hnbm) bits c1Q c2Q c3Q c4Q isQ HPQ.out)
  refine wp_region_noPanic ?_
  refine wp_region_lexB [.q 0, .q 1, .q 2, .q 3, .q 4, .an 10, .b 5, .b 6, .q 7, .q 8, .q 9, .co 10, .b 11, .q 12] (by kernel_rfl) (by kernel_rfl) (fun _ _ _ _ h => h) ?_
  refine wpFl_qL (v := ?_) rfl (Or.inl ⟨by rfl, ?_⟩) ?_
  rotate_left
  focus (intro w' hSw; (try dsimp only [OldKept] at hSw); obtain ⟨rc0, rc1⟩ := HCL.out w' hSw; go_simp; (try with_reducible rfl); done)
  simp only [Act.put, List.setIfInBounds_toArray, List.set_cons_zero, List.set_cons_succ]
  refine wpFl_qL (v := ?_) rfl (Or.inl ⟨by rfl, ?_⟩) ?_
  rotate_left
  focus (intro w' hSw; (try dsimp only [OldKept] at hSw); obtain ⟨rc0, rc1⟩ := HCL.out w' hSw; go_simp; (try with_reducible rfl); done)
  simp only [Act.put, List.setIfInBounds_toArray, List.set_cons_zero, List.set_cons_succ]
  refine wpFl_qL (v := ?_) rfl (Or.inl ⟨by rfl, ?_⟩) ?_
  rotate_left
  focus (intro w' hSw; (try dsimp only [OldKept] at hSw); obtain ⟨rc0, rc1⟩ := HCL.out w' hSw; go_simp; (try with_reducible rfl); done)
  simp only [Act.put, List.setIfInBounds_toArray, List.set_cons_zero, List.set_cons_succ]
  refine wpFl_qL (v := ?_) rfl (Or.inl ⟨by rfl, ?_⟩) ?_
  rotate_left
  focus (intro w' hSw; (try dsimp only [OldKept] at hSw); obtain ⟨rc0, rc1⟩ := HCL.out w' hSw; go_simp; (try with_reducible rfl); done)
  simp only [Act.put, List.setIfInBounds_toArray, List.set_cons_zero, List.set_cons_succ]
  refine wpFl_qL (v := ?_) rfl (Or.inl ⟨by rfl, ?_⟩) ?_
  rotate_left
  focus (intro w' hSw; (try dsimp only [OldKept] at hSw); obtain ⟨rc0, rc1⟩ := HCL.out w' hSw; go_simp; (try with_reducible rfl); done)
  simp only [Act.put, List.setIfInBounds_toArray, List.set_cons_zero, List.set_cons_succ]
  refine wpFl_anL rfl (.cells #[.int .i64 0, .int .i64 0, .string ⟨#[]⟩, .string ⟨#[]⟩, .slice none 0 0] 38 (0, 0)) (fun n => .pointer (some ⟨n, 0, none⟩)) ⟨by rfl, fun w' => ?_⟩ ?_
  focus (go_simp; done)
  refine wpFl_bL rfl (fun waQ hnaQ hsaQ K hK => ?_)
  go_simp
  go_at_call 17
  (with_reducible refine (HIX.out _).mono ?_)
  rintro e wbQ ⟨viQ, rfl, hilQ, hbQ⟩
  have HIL := Lib.hid hilQ
  refine hK.out _ _ (below_next hsaQ hbQ) (Keeps.below hbQ) ?_
  clear hK K hnaQ hsaQ hbQ hilQ
  refine wpFl_bL rfl (fun wcQ hncQ hscQ K hK => ?_)
  go_simp
  go_at_call 18
  refine (HSX.out _ _ hscQ (IL.below HIL.out hncQ)).mono ?_
  rintro e wdQ ⟨aQ, nQ, rfl, hitQ, hbQ⟩
  have HIT := Lib.hid hitQ
  refine hK.out _ _ (below_next hscQ hbQ) (Keeps.below hbQ) ?_
  clear hK K hncQ hscQ hbQ hitQ HIL HIX HSX
  refine wpFl_qL (v := ?_) rfl (Or.inl ⟨by rfl, ?_⟩) ?_
  rotate_left
  focus (intro w' hSw; (try dsimp only [OldKept] at hSw); go_simp; (try with_reducible rfl); done)
  simp only [Act.put, List.setIfInBounds_toArray, List.set_cons_zero, List.set_cons_succ]
  refine wpFl_qL (v := ?_) rfl (Or.inl ⟨by rfl, ?_⟩) ?_
  rotate_left
  focus (intro w' hSw; (try dsimp only [OldKept] at hSw); go_simp; (try with_reducible rfl); done)
  simp only [Act.put, List.setIfInBounds_toArray, List.set_cons_zero, List.set_cons_succ]
  refine wpFl_qL (v := ?_) rfl (Or.inl ⟨by rfl, ?_⟩) ?_
  rotate_left
  focus (intro w' hSw; (try dsimp only [OldKept] at hSw); go_simp; (try with_reducible rfl); done)
  simp only [Act.put, List.setIfInBounds_toArray, List.set_cons_zero, List.set_cons_succ]
  refine wpFl_coL rfl (.cells #[.int .i64 0, .int .i64 0, .string ⟨#[]⟩, .string ⟨#[]⟩, .slice none 0 0] 38 (0, 0)) (fun n => .pointer (some ⟨n, 0, none⟩)) (by rfl) (N' := []) (by rfl) (fun pbQ weQ hn_weQ hs_weQ hb_pbQ hz_pbQ => ?_)
  simp only [Act.put, List.setIfInBounds_toArray, List.set_cons_zero, List.set_cons_succ]
  refine wpFl_bL rfl (fun wfQ hnfQ hsfQ K hK => ?_)
  have HZ := Lib.hid (kept_block hz_pbQ hnfQ)
  have HIT2 := Lib.hid (IT.below (IT.below HIT.out hn_weQ) hnfQ)
  obtain ⟨z0', z1', z2', z3', z4'⟩ := pfive HZ.out
  have zf : ∀ j, wfQ.frozen? ⟨pbQ, j, none⟩ = false := fun j => by unfold World.frozen?; rw [HZ.out]; simp
  go_simp
  refine hK.out _ _ (five_below hsfQ hb_pbQ _ _ _ _ _) Keeps.nil ?_
  clear hK K
  have kw11 := ((K10.out.step (five_below hsfQ hb_pbQ (.int .i64 c1Q) (.int .i64 c2Q) (.string c3Q) (.string c4Q) (.slice aQ isQ.length nQ))).put (d := .I (.slice aQ isQ.length nQ) isQ) (IT.grownT HIT2.out HZ.out (by decide) (by decide) (five_grown wfQ pbQ (.int .i64 c1Q) (.int .i64 c2Q) (.string c3Q) (.string c4Q) (.slice aQ isQ.length nQ)))).put (d := .B pbQ #[.int .i64 c1Q, .int .i64 c2Q, .string c3Q, .string c4Q, .slice aQ isQ.length nQ] 38) (five_heap HZ.out _ _ _ _ _)
  generalize (((((wfQ.setCell ⟨pbQ, 0, none⟩ (.int .i64 c1Q)).setCell ⟨pbQ, 1, none⟩ (.int .i64 c2Q)).setCell ⟨pbQ, 2, none⟩ (.string c3Q)).setCell ⟨pbQ, 3, none⟩ (.string c4Q)).setCell ⟨pbQ, 4, none⟩ (.slice aQ isQ.length nQ)) = w11 at *
  simp only [List.nil_append, List.cons_append] at kw11
  have K11 := Lib.hid kw11
  clear kw11 z0' z1' z2' z3' z4' zf HZ HIT HIT2 hnfQ hsfQ hb_pbQ hz_pbQ hn_weQ hs_weQ HCL K10
  refine wpFl_qL (v := ?_) rfl (Or.inl ⟨by rfl, ?_⟩) ?_
  rotate_left
  focus (intro w' hSw; (try dsimp only [OldKept] at hSw); go_simp; (try with_reducible rfl); done)
  simp only [Act.put, List.setIfInBounds_toArray, List.set_cons_zero, List.set_cons_succ]
  refine wpFl_nil ?_
  refine NoPanic.normal ?_
  -- the part that is changed
  obtain ⟨⟨⟨z1, z2, z3, z4⟩, zis⟩, hz⟩ : ∃ z : PartP, z = bentP ⟨⟨c1P, c2P, c3P, c4P⟩, isP⟩ how nn at' := ⟨_, rfl⟩
  have HFZ : Hid (FitOne ⟨⟨z1, z2, z3, z4⟩, zis⟩) := Lib.hid (by
    rw [hz]
    exact bent_fit _ _ _ _ HFP.out)
  have HBT : Hid (∀ W, Below w11.heap.size w11 W → Calls Tryz.prog 21 #[.agg #[.int .i64 c1P, .int .i64 c2P, .string c3P, .string c4P, .slice aP LP nP], .int .i64 how, .int .i64 nn, .int .i64 at'] W fun e w' => ∃ (a : Option Addr) (c : Nat) (C : Bool), e = .returned (.tuple #[.agg #[.int .i64 z1, .int .i64 z2, .string z3, .string z4, .slice a zis.length c], .bool C]) ∧ IT w' (.slice a zis.length c) zis ∧ Below W.heap.size W w') := Lib.hid (fun W hW => by
    have hlen : isP.length ≤ 1000 := by
      have h1 := congrArg (fun p : PartP => p.items.length) HPP.out
      simp only at h1
      rw [h1, shown_mem]
      have := idxS_len bits na
      omega
    refine (bent_any ⟨⟨c1P, c2P, c3P, c4P⟩, isP⟩ how nn at' (w := W) ((K11.out.step hW).all 4 _ rfl) HIH.out HIN.out HIA2.out hlen HFP.out.1 HEN.out).mono ?_
    rintro e w' ⟨iv', h1, h2, h3⟩
    rw [← hz] at h1 h2
    obtain ⟨a, c, rfl⟩ := h2.form2
    exact ⟨a, c, _, h1, h2, h3⟩)
  clear hz
  obtain ⟨c0, c1, c2, c3, c4⟩ := pfive (K11.out.all 5 _ rfl)
  go_upto_region 21 with (go_at_call 21; refine (HBT.out _ (Below.refl _ _)).mono ?_; rintro e w12 ⟨azb, nzb, C, rfl, hit, hb12⟩; have k12 := (K11.out.step hb12).put (d := .I (.slice azb zis.length nzb) zis) hit; clear hit hb12; simp only [List.nil_append, List.cons_append] at k12; have K12 := Lib.hid k12; clear k12)
  clear c0 c1 c2 c3 c4 HBT K11
  have kw13 := K12.out.box #[.int .i64 z1, .int .i64 z2, .string z3, .string z4, .slice azb zis.length nzb] 38
  obtain ⟨w13, hww13⟩ : ∃ W, W = w12.alloc (.cells #[.int .i64 z1, .int .i64 z2, .string z3, .string z4, .slice azb zis.length nzb] 38) := ⟨_, rfl⟩
  rw [← hww13] at kw13 ⊢
  clear hww13
  generalize w12.heap.size = zbb at kw13 ⊢
  simp only [List.nil_append, List.cons_append] at kw13
  have K13 := Lib.hid kw13
  clear kw13 K12
  obtain ⟨ysZ, hmZ, hisZ⟩ := (K13.out.all 8 _ rfl : IT w13 (.slice azb zis.length nzb) zis)
  have HMZl : Hid (ysZ.length = zis.length) := Lib.hid (by rw [← hmZ, List.length_map])
  have HISZ := Lib.hid hisZ
  have HMPZ := Lib.hid hmZ
  clear hmZ hisZ
  have hlz5 : zis.length ≤ 100000 := HFZ.out.2.1
  obtain ⟨LZ, hLZ⟩ : ∃ L, L = zis.length := ⟨_, rfl⟩
  rw [← hLZ] at K13 HMZl HISZ hlz5 ⊢
  have HLZ := Lib.hid hLZ
  clear hLZ
  have HL := Lib.hid (fun W (hW : Below w13.heap.size w13 W) => And.intro (pfive ((K13.out.step hW).all 5 _ rfl)) (pfive ((K13.out.step hW).all 9 _ rfl)))
  refine wp_region_noPanic ?_
  refine wp_region_lexB [.q 0, .q 1, .q 3, .q 4, .an 2, .an 7, .co 2, .b 5, .q 6, .co 7, .b 8] (by kernel_rfl) (by kernel_rfl) (fun _ _ _ _ h => h) ?_
  refine wpFl_qL (v := ?_) rfl (Or.inl ⟨by rfl, ?_⟩) ?_
  rotate_left
  focus (intro w' hSw; (try dsimp only [OldKept] at hSw); obtain ⟨⟨c0, c1, c2, c3, c4⟩, d0, d1, d2, d3, d4⟩ := HL.out w' hSw; go_simp; (try with_reducible rfl); done)
  simp only [Act.put, List.setIfInBounds_toArray, List.set_cons_zero, List.set_cons_succ]
  refine wpFl_qL (v := ?_) rfl (Or.inl ⟨by rfl, ?_⟩) ?_
  rotate_left
  focus (intro w' hSw; (try dsimp only [OldKept] at hSw); obtain ⟨⟨c0, c1, c2, c3, c4⟩, d0, d1, d2, d3, d4⟩ := HL.out w' hSw; go_simp; (try with_reducible rfl); done)
  simp only [Act.put, List.setIfInBounds_toArray, List.set_cons_zero, List.set_cons_succ]
  refine wpFl_qL (v := ?_) rfl (Or.inl ⟨by rfl, ?_⟩) ?_
  rotate_left
  focus (intro w' hSw; (try dsimp only [OldKept] at hSw); obtain ⟨⟨c0, c1, c2, c3, c4⟩, d0, d1, d2, d3, d4⟩ := HL.out w' hSw; go_simp; (try with_reducible rfl); done)
  simp only [Act.put, List.setIfInBounds_toArray, List.set_cons_zero, List.set_cons_succ]
  refine wpFl_qL (v := ?_) rfl (Or.inl ⟨by rfl, ?_⟩) ?_
  rotate_left
  focus (intro w' hSw; (try dsimp only [OldKept] at hSw); obtain ⟨⟨c0, c1, c2, c3, c4⟩, d0, d1, d2, d3, d4⟩ := HL.out w' hSw; go_simp; (try with_reducible rfl); done)
  simp only [Act.put, List.setIfInBounds_toArray, List.set_cons_zero, List.set_cons_succ]
  refine wpFl_anL rfl (.cells #[] 53 (0, 0)) (fun n => .slice (some ⟨n, 0, none⟩) 0 0) ⟨by rfl, fun w' => ?_⟩ ?_
  focus (go_simp; done)
  refine wpFl_anL rfl (.cells #[.int .i64 0, .int .i64 0, .string ⟨#[]⟩, .string ⟨#[]⟩, .slice none 0 0] 38 (0, 0)) (fun n => .pointer (some ⟨n, 0, none⟩)) ⟨by rfl, fun w' => ?_⟩ ?_
  focus (go_simp; done)
  refine wpFl_coL rfl (.cells #[] 53 (0, 0)) (fun n => .slice (some ⟨n, 0, none⟩) 0 0) (by rfl) (N' := [(7, .cells #[.int .i64 0, .int .i64 0, .string ⟨#[]⟩, .string ⟨#[]⟩, .slice none 0 0] 38 (0, 0), fun n => .pointer (some ⟨n, 0, none⟩))]) (by rfl) (fun baM waM hn_waM hs_waM hb_baM hz_baM => ?_)
  simp only [Act.put, List.setIfInBounds_toArray, List.set_cons_zero, List.set_cons_succ]
  have HO := Lib.hid (OwnE.zeroItem hz_baM hb_baM)
  clear hz_baM
  refine wpFl_bL rfl (fun wbM hnbM hsbM K hK => ?_)
  have HO7 := Lib.hid (OwnE.far HO.out hnbM (Nat.le_refl _))
  have HS7 := Lib.hid (HISZ.out.is.below hsbM)
  refine step_append_items rfl _ _ w13.heap.size (.slice (some ⟨baM, 0, none⟩) 0 0) [] ysZ (.slice azb LZ nzb) HO7.out HS7.out (by rw [HMZl.out]; simp; omega) hsbM.size rfl rfl rfl ?_
  intro v8 wcM hown8 hgr8
  rw [List.nil_append] at hown8
  have HB8 : Hid (Below w13.heap.size w13 wcM) := Lib.hid (Below.grown hsbM hgr8 hsbM.size (fun j e => OwnE.ge HO7.out j e))
  refine hK.out _ _ HB8.out (Keeps.own HO7.out hgr8 (by intro x hx c e; rw [List.mem_singleton.1 hx] at e; cases e)) ?_
  clear hK K
  obtain ⟨aM, cM, hv8⟩ := OwnE.form hown8
  rw [itcells_len, HMZl.out] at hv8
  subst hv8
  have HO8 := Lib.hid hown8
  clear HO HO7 HS7 hown8 hgr8 hnbM hsbM hs_waM hb_baM HB8
  simp only [Act.put, List.setIfInBounds_toArray, List.set_cons_zero, List.set_cons_succ]
  refine wpFl_qL (v := ?_) rfl (Or.inl ⟨by rfl, ?_⟩) ?_
  rotate_left
  focus (intro w' hSw; (try dsimp only [OldKept] at hSw); go_simp; (try with_reducible rfl); done)
  simp only [Act.put, List.setIfInBounds_toArray, List.set_cons_zero, List.set_cons_succ]
  refine wpFl_coL rfl (.cells #[.int .i64 0, .int .i64 0, .string ⟨#[]⟩, .string ⟨#[]⟩, .slice none 0 0] 38 (0, 0)) (fun n => .pointer (some ⟨n, 0, none⟩)) (by rfl) (N' := []) (by rfl) (fun bM wdM hn_wdM hs_wdM hb_bM hz_bM => ?_)
  simp only [Act.put, List.setIfInBounds_toArray, List.set_cons_zero, List.set_cons_succ]
  have HO9 := Lib.hid (OwnE.far HO8.out hn_wdM (Nat.le_refl _))
  clear HO8 hs_wdM hn_wdM
  refine wpFl_bL rfl (fun weM hneM hseM K hK => ?_)
  have HO10 := Lib.hid (OwnE.far HO9.out hneM (Nat.le_refl _))
  have HZ10 := Lib.hid (kept_block hz_bM hneM)
  obtain ⟨z0', z1', z2', z3', z4'⟩ := pfive HZ10.out
  have zf : ∀ j, weM.frozen? ⟨bM, j, none⟩ = false := fun j => by unfold World.frozen?; rw [HZ10.out]; simp
  have HTM := Lib.hid (TurnAt.store (w := w13) hseM HZ10.out HO10.out (fun y hy => ⟨(HISZ.out.is.2 y hy).below hseM, (HISZ.out.tp y hy).below hseM⟩) hb_bM (Nat.le_refl _) ⟨c1P, c2P, c3P, c4P⟩ rfl)
  clear HO9 hz_bM
  go_simp
  refine hK.out _ _ (five_below hseM hb_bM _ _ _ _ _) Keeps.nil ?_
  clear hK K z0' z1' z2' z3' z4' zf HO10 HZ10 hneM hseM hb_bM
  generalize (((((weM.setCell ⟨bM, 0, none⟩ (.int .i64 c1P)).setCell ⟨bM, 1, none⟩ (.int .i64 c2P)).setCell ⟨bM, 2, none⟩ (.string c3P)).setCell ⟨bM, 3, none⟩ (.string c4P)).setCell ⟨bM, 4, none⟩ (.slice aM LZ cM)) = w14 at *
  refine wpFl_nil ?_
  refine NoPanic.normal ?_
  have k14 := ((K13.out.step HTM.out.1).put (d := .I (.slice aM LZ cM) zis) ⟨ysZ, HMPZ.out, HTM.out.is⟩).put (d := .B bM #[.int .i64 c1P, .int .i64 c2P, .string c3P, .string c4P, .slice aM LZ cM] 38) HTM.out.2.1
  simp only [List.nil_append, List.cons_append] at k14
  have K14 := Lib.hid k14
  clear k14 HTM HISZ HMPZ HMZl HL K13
  -- the other part
  have HFQ : Hid (FitOne ⟨⟨c1Q, c2Q, c3Q, c4Q⟩, isQ⟩) := Lib.hid (by rw [HPQ.out]; exact fit_part _ _ _ _ _ (by have := idxS_len bits nb; omega) (by rw [← HMZ.out]; omega))
  have HQI : Hid (∀ x ∈ isQ, x.prf.length ≤ 12 ∧ ∀ s ∈ x.prf, s.size ≤ 1000) := Lib.hid (fun x hx => by
    have h1 := part_prf (key := key) (car := (cn : Int)) (xs := zs) (n := nb) (b := bits) HK32.out HOV1.out (by rw [← HMZ.out]; exact hnbm) (x := x) (by rw [← HPQ.out]; exact hx)
    have h2 := h1.1
    rw [← HMZ.out] at h2
    exact ⟨by omega, h1.2⟩)
  obtain ⟨ysQ, hmQ, hisQ⟩ := (K14.out.all 6 _ rfl : IT w14 (.slice aQ isQ.length nQ) isQ)
  have HMQl : Hid (ysQ.length = isQ.length) := Lib.hid (by rw [← hmQ, List.length_map])
  have HISQ := Lib.hid hisQ
  have HMPQ := Lib.hid hmQ
  clear hmQ hisQ
  have hlq5 : isQ.length ≤ 100000 := HFQ.out.2.1
  obtain ⟨LQ, hLQ⟩ : ∃ L, L = isQ.length := ⟨_, rfl⟩
  rw [← hLQ] at K14 HMQl HISQ hlq5 ⊢
  clear hLQ
  have HL := Lib.hid (fun W (hW : Below w14.heap.size w14 W) => And.intro (pfive ((K14.out.step hW).all 5 _ rfl)) (pfive ((K14.out.step hW).all 7 _ rfl)))
  go_upto_region 22 with fail
  refine wp_region_noPanic ?_
  refine wp_region_lexB [.q 0, .q 1, .q 3, .q 4, .an 2, .an 7, .co 2, .b 5, .q 6, .co 7, .b 8] (by kernel_rfl) (by kernel_rfl) (fun _ _ _ _ h => h) ?_
  refine wpFl_qL (v := ?_) rfl (Or.inl ⟨by rfl, ?_⟩) ?_
  rotate_left
  focus (intro w' hSw; (try dsimp only [OldKept] at hSw); obtain ⟨⟨c0, c1, c2, c3, c4⟩, d0, d1, d2, d3, d4⟩ := HL.out w' hSw; go_simp; (try with_reducible rfl); done)
  simp only [Act.put, List.setIfInBounds_toArray, List.set_cons_zero, List.set_cons_succ]
  refine wpFl_qL (v := ?_) rfl (Or.inl ⟨by rfl, ?_⟩) ?_
  rotate_left
  focus (intro w' hSw; (try dsimp only [OldKept] at hSw); obtain ⟨⟨c0, c1, c2, c3, c4⟩, d0, d1, d2, d3, d4⟩ := HL.out w' hSw; go_simp; (try with_reducible rfl); done)
  simp only [Act.put, List.setIfInBounds_toArray, List.set_cons_zero, List.set_cons_succ]
  refine wpFl_qL (v := ?_) rfl (Or.inl ⟨by rfl, ?_⟩) ?_
  rotate_left
  focus (intro w' hSw; (try dsimp only [OldKept] at hSw); obtain ⟨⟨c0, c1, c2, c3, c4⟩, d0, d1, d2, d3, d4⟩ := HL.out w' hSw; go_simp; (try with_reducible rfl); done)
  simp only [Act.put, List.setIfInBounds_toArray, List.set_cons_zero, List.set_cons_succ]
  refine wpFl_qL (v := ?_) rfl (Or.inl ⟨by rfl, ?_⟩) ?_
  rotate_left
  focus (intro w' hSw; (try dsimp only [OldKept] at hSw); obtain ⟨⟨c0, c1, c2, c3, c4⟩, d0, d1, d2, d3, d4⟩ := HL.out w' hSw; go_simp; (try with_reducible rfl); done)
  simp only [Act.put, List.setIfInBounds_toArray, List.set_cons_zero, List.set_cons_succ]
  refine wpFl_anL rfl (.cells #[] 53 (0, 0)) (fun n => .slice (some ⟨n, 0, none⟩) 0 0) ⟨by rfl, fun w' => ?_⟩ ?_
  focus (go_simp; done)
  refine wpFl_anL rfl (.cells #[.int .i64 0, .int .i64 0, .string ⟨#[]⟩, .string ⟨#[]⟩, .slice none 0 0] 38 (0, 0)) (fun n => .pointer (some ⟨n, 0, none⟩)) ⟨by rfl, fun w' => ?_⟩ ?_
  focus (go_simp; done)
  refine wpFl_coL rfl (.cells #[] 53 (0, 0)) (fun n => .slice (some ⟨n, 0, none⟩) 0 0) (by rfl) (N' := [(7, .cells #[.int .i64 0, .int .i64 0, .string ⟨#[]⟩, .string ⟨#[]⟩, .slice none 0 0] 38 (0, 0), fun n => .pointer (some ⟨n, 0, none⟩))]) (by rfl) (fun baT waT hn_waT hs_waT hb_baT hz_baT => ?_)
  simp only [Act.put, List.setIfInBounds_toArray, List.set_cons_zero, List.set_cons_succ]
  have HO := Lib.hid (OwnE.zeroItem hz_baT hb_baT)
  clear hz_baT
  refine wpFl_bL rfl (fun wbT hnbT hsbT K hK => ?_)
  have HO7 := Lib.hid (OwnE.far HO.out hnbT (Nat.le_refl _))
  have HS7 := Lib.hid (HISQ.out.is.below hsbT)
  refine step_append_items rfl _ _ w14.heap.size (.slice (some ⟨baT, 0, none⟩) 0 0) [] ysQ (.slice aQ LQ nQ) HO7.out HS7.out (by rw [HMQl.out]; simp; omega) hsbT.size rfl rfl rfl ?_
  intro v8 wcT hown8 hgr8
  rw [List.nil_append] at hown8
  have HB8 : Hid (Below w14.heap.size w14 wcT) := Lib.hid (Below.grown hsbT hgr8 hsbT.size (fun j e => OwnE.ge HO7.out j e))
  refine hK.out _ _ HB8.out (Keeps.own HO7.out hgr8 (by intro x hx c e; rw [List.mem_singleton.1 hx] at e; cases e)) ?_
  clear hK K
  obtain ⟨aT, cT, hv8⟩ := OwnE.form hown8
  rw [itcells_len, HMQl.out] at hv8
  subst hv8
  have HO8 := Lib.hid hown8
  clear HO HO7 HS7 hown8 hgr8 hnbT hsbT hs_waT hb_baT HB8
  simp only [Act.put, List.setIfInBounds_toArray, List.set_cons_zero, List.set_cons_succ]
  refine wpFl_qL (v := ?_) rfl (Or.inl ⟨by rfl, ?_⟩) ?_
  rotate_left
  focus (intro w' hSw; (try dsimp only [OldKept] at hSw); go_simp; (try with_reducible rfl); done)
  simp only [Act.put, List.setIfInBounds_toArray, List.set_cons_zero, List.set_cons_succ]
  refine wpFl_coL rfl (.cells #[.int .i64 0, .int .i64 0, .string ⟨#[]⟩, .string ⟨#[]⟩, .slice none 0 0] 38 (0, 0)) (fun n => .pointer (some ⟨n, 0, none⟩)) (by rfl) (N' := []) (by rfl) (fun bT wdT hn_wdT hs_wdT hb_bT hz_bT => ?_)
  simp only [Act.put, List.setIfInBounds_toArray, List.set_cons_zero, List.set_cons_succ]
  have HO9 := Lib.hid (OwnE.far HO8.out hn_wdT (Nat.le_refl _))
  clear HO8 hs_wdT hn_wdT
  refine wpFl_bL rfl (fun weT hneT hseT K hK => ?_)
  have HO10 := Lib.hid (OwnE.far HO9.out hneT (Nat.le_refl _))
  have HZ10 := Lib.hid (kept_block hz_bT hneT)
  obtain ⟨z0', z1', z2', z3', z4'⟩ := pfive HZ10.out
  have zf : ∀ j, weT.frozen? ⟨bT, j, none⟩ = false := fun j => by unfold World.frozen?; rw [HZ10.out]; simp
  have HTT := Lib.hid (TurnAt.store (w := w14) hseT HZ10.out HO10.out (fun y hy => ⟨(HISQ.out.is.2 y hy).below hseT, (HISQ.out.tp y hy).below hseT⟩) hb_bT (Nat.le_refl _) ⟨c1P, c2P, c3P, c4P⟩ rfl)
  clear HO9 hz_bT
  go_simp
  refine hK.out _ _ (five_below hseT hb_bT _ _ _ _ _) Keeps.nil ?_
  clear hK K z0' z1' z2' z3' z4' zf HO10 HZ10 hneT hseT hb_bT
  generalize (((((weT.setCell ⟨bT, 0, none⟩ (.int .i64 c1P)).setCell ⟨bT, 1, none⟩ (.int .i64 c2P)).setCell ⟨bT, 2, none⟩ (.string c3P)).setCell ⟨bT, 3, none⟩ (.string c4P)).setCell ⟨bT, 4, none⟩ (.slice aT LQ cT)) = w15 at *
  refine wpFl_nil ?_
  refine NoPanic.normal ?_
  clear HL HISQ
  have HYS : Hid (∀ y ∈ ysQ, y.1.prf.length ≤ 13 ∧ ∀ s ∈ y.1.prf, s.size ≤ 1000) := Lib.hid (fun y hy => by
    have h1 := HQI.out y.1 (by rw [← HMPQ.out]; exact List.mem_map.2 ⟨y, hy, rfl⟩)
    exact ⟨by omega, h1.2⟩)
  have HYS2 : Hid (∀ j y, 0 ≤ j → ysQ[j]? = some y → y.1.prf.length ≤ 12) := Lib.hid (fun j y _ hy => (HQI.out y.1 (by rw [← HMPQ.out]; exact List.mem_map.2 ⟨y, List.mem_of_getElem? hy, rfl⟩)).1)
  clear HQI HMPQ
  have HP2 := Lib.hid (fun W => lpick_any how 2 W HIH.out (by omega) (by omega))
  generalize pickI how 2 = p2 at *
  have HTO : Hid (TurnOk w14 w14.heap.size bT ⟨c1P, c2P, c3P, c4P⟩ (.slice aT LQ cT) LQ 0 w15) := Lib.hid ⟨ysQ, HTT.out, HMQl.out, HYS.out, HYS2.out⟩
  clear HYS HYS2 HMQl
  go_upto_block 2 with fail
  go_cut [30] (fun _ wx => Hid (TurnOk w14 w14.heap.size bT ⟨c1P, c2P, c3P, c4P⟩ (.slice aT LQ cT) LQ LQ wx))
  case first =>
    go_wp2
    go_loopw [30] (fun i wr => ∃ k : Nat, k ≤ LQ ∧ i = .int .i64 k ∧ Hid (TurnOk w14 w14.heap.size bT ⟨c1P, c2P, c3P, c4P⟩ (.slice aT LQ cT) LQ k wr)) (fun i _ => LQ - (intOf i).toNat)
    case atStart => exact ⟨0, by omega, rfl, HTO⟩
    case round =>
      clear HTO HTT
      obtain ⟨k, hk, rfl, hT⟩ := hrel
      obtain ⟨yt, ht1, ht2, ht3, ht4⟩ := hT.out
      obtain ⟨c0, c1, c2, c3, c4⟩ := pfive ht1.2.1
      have HT0 := Lib.hid ht1
      by_cases hlk : k < LQ
      · have tk : (k : Int) < (LQ : Int) := by omega
        have tk0 : (0 : Int) ≤ (k : Int) := by omega
        by_cases hp2 : p2 = 0
        · obtain ⟨g, hag⟩ : ∃ g, aT = some ⟨g, 0, none⟩ := by
            rcases ht1.2.2.1.2 with ⟨e, _⟩ | ⟨g, cap, cur, e, _⟩
            · injection e with _ e2 _; omega
            · injection e with e; exact ⟨g, e⟩
          subst hag
          obtain ⟨⟨⟨yi, ye, yp⟩, ypv⟩, ey⟩ : ∃ y, yt[k]? = some y := ⟨_, List.getElem?_eq_getElem (by omega)⟩
          have hss := (ht1.2.2.2.1 _ (List.mem_of_getElem? ey)).1
          obtain ⟨ap, cp, hpv⟩ := hss.form2
          simp only at hpv
          subst hpv
          have hyl := ht4 k _ (Nat.le_refl _) ey
          have hys := (ht3 _ (List.mem_of_getElem? ey)).2
          simp only at hyl hys hss
          have HEY := Lib.hid ey
          have HT2 := Lib.hid ht2
          have HT3 := Lib.hid ht3
          have HT4 := Lib.hid ht4
          have HSS := Lib.hid hss
          have HYS := Lib.hid hys
          subst hp2
          have HS0 : Hid (TurnKept w14 w14.heap.size bT ⟨c1P, c2P, c3P, c4P⟩ (.slice (some ⟨g, 0, none⟩) LQ cT) wr wr.drew) := Lib.hid ⟨Nat.le_refl _, yt, HT0.out.far (Below.drew (Below.refl _ _))⟩
          have HA1 := Lib.hid (HT0.out.far (Below.drew (Below.refl _ _)))
          have HSS1 := Lib.hid (SS.below hss (Below.drew (Below.refl _ _)))
          clear hss hys ht1 ht2 ht3 ht4 ey hT
          go_upto_region 27 with (go_at_call 16; (with_reducible refine (HP2.out _).mono ?_); rintro e w' ⟨rfl, hw'⟩; replace hw' := hw'.symm; subst hw')
          refine wp_region_noPanic ?_
          refine wp_region_lexF [.q 0, .q 1, .q 2, .q 3, .q 4, .q 5, .q 6, .q 7, .q 9, .b 8, .b 10, .q 11, .q 12, .b 13] (TurnKept w14 w14.heap.size bT ⟨c1P, c2P, c3P, c4P⟩ (.slice (some ⟨g, 0, none⟩) LQ cT) wr) (by kernel_rfl) (by kernel_rfl) (fun _ _ _ _ h => h) TurnKept.more HS0.out ?_
          clear c0 c1 c2 c3 c4
          refine wpFl_qL (v := ?_) rfl (Or.inl ⟨by rfl, ?_⟩) ?_
          rotate_left
          focus (intro w' hSw; (try dsimp only [OldKept] at hSw); obtain ⟨_, ys', hSw⟩ := hSw; have k4 := (pfive hSw.2.1).2.2.2.2; go_simp; (try with_reducible rfl); done)
          simp only [Act.put, List.setIfInBounds_toArray, List.set_cons_zero, List.set_cons_succ]
          refine wpFl_qL (v := ?_) rfl (Or.inl ⟨by rfl, ?_⟩) ?_
          rotate_left
          focus (intro w' hSw; (try dsimp only [OldKept] at hSw); obtain ⟨_, ys', hSw⟩ := hSw; have k4 := (pfive hSw.2.1).2.2.2.2; go_simp; (try with_reducible rfl); done)
          simp only [Act.put, List.setIfInBounds_toArray, List.set_cons_zero, List.set_cons_succ]
          refine wpFl_qL (v := ?_) rfl (Or.inl ⟨by rfl, ?_⟩) ?_
          rotate_left
          focus (intro w' hSw; (try dsimp only [OldKept] at hSw); obtain ⟨_, ys', hSw⟩ := hSw; have k4 := (pfive hSw.2.1).2.2.2.2; go_simp; (try with_reducible rfl); done)
          simp only [Act.put, List.setIfInBounds_toArray, List.set_cons_zero, List.set_cons_succ]
          refine wpFl_qL (v := ?_) rfl (Or.inl ⟨by rfl, ?_⟩) ?_
          rotate_left
          focus (intro w' hSw; (try dsimp only [OldKept] at hSw); obtain ⟨_, ys', hSw⟩ := hSw; have k4 := (pfive hSw.2.1).2.2.2.2; go_simp; (try with_reducible rfl); done)
          simp only [Act.put, List.setIfInBounds_toArray, List.set_cons_zero, List.set_cons_succ]
          refine wpFl_qL (v := ?_) rfl (Or.inl ⟨by rfl, ?_⟩) ?_
          rotate_left
          focus (intro w' hSw; (try dsimp only [OldKept] at hSw); obtain ⟨_, ys', hSw⟩ := hSw; have k4 := (pfive hSw.2.1).2.2.2.2; go_simp; (try with_reducible rfl); done)
          simp only [Act.put, List.setIfInBounds_toArray, List.set_cons_zero, List.set_cons_succ]
          refine wpFl_qL (v := ?_) rfl (Or.inl ⟨by rfl, ?_⟩) ?_
          rotate_left
          focus (intro w' hSw; (try dsimp only [OldKept] at hSw); obtain ⟨_, ys', hSw⟩ := hSw; have k4 := (pfive hSw.2.1).2.2.2.2; go_simp; (try with_reducible rfl); done)
          simp only [Act.put, List.setIfInBounds_toArray, List.set_cons_zero, List.set_cons_succ]
          refine wpFl_qL (v := ?_) rfl (Or.inl ⟨by rfl, ?_⟩) ?_
          rotate_left
          focus (intro w' hSw; (try dsimp only [OldKept] at hSw); obtain ⟨_, ys', hSw⟩ := hSw; have k4 := (pfive hSw.2.1).2.2.2.2; go_simp; (try with_reducible rfl); done)
          simp only [Act.put, List.setIfInBounds_toArray, List.set_cons_zero, List.set_cons_succ]
          refine wpFl_qL (v := ?_) rfl (Or.inl ⟨by rfl, ?_⟩) ?_
          rotate_left
          focus (intro w' hSw; (try dsimp only [OldKept] at hSw); obtain ⟨_, ys', hSw⟩ := hSw; have k4 := (pfive hSw.2.1).2.2.2.2; go_simp; (try with_reducible rfl); done)
          simp only [Act.put, List.setIfInBounds_toArray, List.set_cons_zero, List.set_cons_succ]
          refine wpFl_qL (v := ?_) rfl (Or.inl ⟨by rfl, ?_⟩) ?_
          rotate_left
          focus (intro w' hSw; (try dsimp only [OldKept] at hSw); obtain ⟨_, ys', hSw⟩ := hSw; have k4 := (pfive hSw.2.1).2.2.2.2; go_simp; (try with_reducible rfl); done)
          simp only [Act.put, List.setIfInBounds_toArray, List.set_cons_zero, List.set_cons_succ]
          refine wpFl_bS rfl (fun w3 hn3 hs3 K hK => ?_)
          have HA3 := Lib.hid (HA1.out.far hn3)
          have HSS3 := Lib.hid (SS.below HSS1.out hn3)
          have e0 := HA3.out.cell k _ HEY.out
          simp only at e0
          go_simp
          refine hK.out _ _ hs3 hs3.1 (Keeps.below (Below.refl _ _)) ?_
          clear hK K hn3 hs3 e0
          refine wpFl_bS rfl (fun w4 hn4 hs4 K hK => ?_)
          have HA4 := Lib.hid (HA3.out.far hn4)
          have HSP := Lib.hid (spoiled_own how HIH.out (SS.below HSS3.out hn4) (by omega) HYS.out)
          go_simp
          go_at_call 29
          refine HSP.out.mono ?_
          rintro e w5 ⟨vs, zs', rfl, hos, hzl, hzs, hb5⟩
          obtain ⟨asx, csx, hvs⟩ := OwnE.form hos
          subst hvs
          have HOS := Lib.hid hos
          have HZS := Lib.hid hzs
          have HA5 := Lib.hid (HA4.out.far hb5)
          refine hK.out _ _ (TurnKept.more _ _ hs4 hb5) (Nat.le_trans hs4.1 hb5.size) (Keeps.below hb5) ?_
          clear hK K hn4 hs4 hb5 hos hzs HSP
          refine wpFl_qL (v := ?_) rfl (Or.inl ⟨by rfl, ?_⟩) ?_
          rotate_left
          focus (intro w' hSw; (try dsimp only [OldKept] at hSw); obtain ⟨_, ys', hSw⟩ := hSw; have k4 := (pfive hSw.2.1).2.2.2.2; go_simp; (try with_reducible rfl); done)
          simp only [Act.put, List.setIfInBounds_toArray, List.set_cons_zero, List.set_cons_succ]
          refine wpFl_qL (v := ?_) rfl (Or.inl ⟨by rfl, ?_⟩) ?_
          rotate_left
          focus (intro w' hSw; (try dsimp only [OldKept] at hSw); obtain ⟨_, ys', hSw⟩ := hSw; have k4 := (pfive hSw.2.1).2.2.2.2; go_simp; (try with_reducible rfl); done)
          simp only [Act.put, List.setIfInBounds_toArray, List.set_cons_zero, List.set_cons_succ]
          refine wpFl_bS rfl (fun w6 hn6 hs6 K hK => ?_)
          have HA6 := Lib.hid (HA5.out.far hn6)
          have e0 := HA6.out.cell k _ HEY.out
          have e2 := HA6.out.free
          simp only at e0
          have HN := Lib.hid (TurnOk.set HA6.out HT2.out HT3.out HT4.out _ HEY.out (.slice asx (scells zs').length csx) zs' (SS.below HOS.out.ss hn6) (RowTy.below (rowTy_own HOS.out) hn6) (by omega) HZS.out)
          have hsz : wr.heap.size ≤ (w6.setCell ⟨g, k * 3 + 2, none⟩ (.slice asx (scells zs').length csx)).heap.size := by simpa using hs6.1
          go_simp
          refine hK.out _ _ ⟨hsz, let ⟨ys', h, _⟩ := HN.out; ⟨ys', h⟩⟩ hsz Keeps.nil ?_
          clear hK K hn6 hs6 e0 e2 hsz
          refine wpFl_nil ?_
          refine NoPanic.normal ?_
          go_wp2
          go_roundw
          case rel => exact ⟨k + 1, by omega, by go_num, HN⟩
          case measure => simp [intOf]; omega
        · have HN : Hid (TurnOk w14 w14.heap.size bT ⟨c1P, c2P, c3P, c4P⟩ (.slice aT LQ cT) LQ (k + 1) wr) := Lib.hid ⟨yt, ht1, ht2, ht3, fun j y hj hy => ht4 j y (by omega) hy⟩
          clear ht1 ht2 ht3 ht4 hT
          go_wp2_with (go_at_call 16; (with_reducible refine (HP2.out _).mono ?_); rintro e w' ⟨rfl, hw'⟩; replace hw' := hw'.symm; subst hw')
          go_roundw
          case rel => exact ⟨k + 1, by omega, by go_num, HN⟩
          case measure => simp [intOf]; omega
      · have tk : ¬ (k : Int) < (LQ : Int) := by omega
        have ek : k = LQ := by omega
        subst ek
        clear ht1 ht2 ht3 ht4
        go_wp2
        go_meet
        case rel => exact hT
  case rest =>
  obtain ⟨yt, ht1, ht2, ht3, _⟩ := hcut.out
  obtain ⟨tis, htis⟩ : ∃ tis, tis = yt.map (·.1) := ⟨_, rfl⟩
  have k15 := ((K14.out.step ht1.1).put (d := .I (.slice aT LQ cT) tis) ⟨yt, htis.symm, ht1.is⟩).put (d := .B bT #[.int .i64 c1P, .int .i64 c2P, .string c3P, .string c4P, .slice aT LQ cT] 38) ht1.2.1
  simp only [List.nil_append, List.cons_append] at k15
  have K15 := Lib.hid k15
  have HFM : Hid (FitOne ⟨⟨c1P, c2P, c3P, c4P⟩, zis⟩) := Lib.hid ⟨HFP.out.1, HFZ.out.2⟩
  have HTL : Hid (LQ = tis.length) := Lib.hid (by rw [htis, List.length_map]; exact ht2.symm)
  have HFT : Hid (FitOne ⟨⟨c1P, c2P, c3P, c4P⟩, tis⟩) := Lib.hid ⟨HFP.out.1, by show tis.length ≤ 100000; rw [← HTL.out]; exact hlq5, fun x hx => by
    rw [htis] at hx
    obtain ⟨y, hy, rfl⟩ := List.mem_map.1 hx
    have := (ht3 y hy).1
    omega⟩
  clear k15 ht1 ht2 ht3 htis hcut HTO HTT K14 HP2
  obtain ⟨w16, hw16⟩ : ∃ W, W = wc := ⟨_, rfl⟩
  rw [← hw16] at K15 ⊢
  clear hw16 wc
  obtain ⟨c0, c1, c2, c3, c4⟩ := pfive (K15.out.all 11 _ rfl)
  obtain ⟨d0, d1, d2, d3, d4⟩ := pfive (K15.out.all 13 _ rfl)
  go_upto_block 4 with fail
  clear c0 c1 c2 c3 c4 d0 d1 d2 d3 d4
  have kw17 := K15.out.box #[.int .i64 c1P, .int .i64 c2P, .string c3P, .string c4P, .slice aM LZ cM, .int .i64 c1P, .int .i64 c2P, .string c3P, .string c4P, .slice aT LQ cT] 38
  obtain ⟨w17, hww17⟩ : ∃ W, W = w16.alloc (.cells #[.int .i64 c1P, .int .i64 c2P, .string c3P, .string c4P, .slice aM LZ cM, .int .i64 c1P, .int .i64 c2P, .string c3P, .string c4P, .slice aT LQ cT] 38) := ⟨_, rfl⟩
  rw [← hww17] at kw17 ⊢
  clear hww17
  generalize w16.heap.size = qb at kw17 ⊢
  simp only [List.nil_append, List.cons_append] at kw17
  have K17 := Lib.hid kw17
  clear kw17 K15
  have HZ2 : Hid (∀ k : Nat, k < 2 → ∃ (a : Option Addr) (c n : Nat) (its : List ItemP), n = its.length ∧ FitOne ⟨⟨c1P, c2P, c3P, c4P⟩, its⟩ ∧ IT w17 (.slice a n c) its ∧ ∀ W, Below w17.heap.size w17 W → W.cell? ⟨qb, k * 5, none⟩ = some (.int .i64 c1P) ∧ W.cell? ⟨qb, k * 5 + 1, none⟩ = some (.int .i64 c2P) ∧ W.cell? ⟨qb, k * 5 + 2, none⟩ = some (.string c3P) ∧ W.cell? ⟨qb, k * 5 + 3, none⟩ = some (.string c4P) ∧ W.cell? ⟨qb, k * 5 + 4, none⟩ = some (.slice a n c)) := Lib.hid (fun k hk => by
    rcases (by omega : k = 0 ∨ k = 1) with rfl | rfl
    · refine ⟨aM, cM, LZ, zis, HLZ.out, HFM.out, K17.out.all 10 _ rfl, fun W hW => ?_⟩
      have h := fun i => cell_of_row W qb i _ _ _ ((K17.out.step hW).all 14 _ rfl)
      exact ⟨h 0, h 1, h 2, h 3, h 4⟩
    · refine ⟨aT, cT, LQ, tis, HTL.out, HFT.out, K17.out.all 12 _ rfl, fun W hW => ?_⟩
      have h := fun i => cell_of_row W qb i _ _ _ ((K17.out.step hW).all 14 _ rfl)
      exact ⟨h 5, h 6, h 7, h 8, h 9⟩)
  have HX1k : Hid (∀ s ∈ xs.take na, s.size ≤ 1000) := Lib.hid (fun s hs => (valid_parts HV.out).2.2.2 s (List.mem_of_mem_take hs))
  have hLx : (xs.take na).length = na := by rw [List.length_take, ← HM.out]; omega
  have hl1 := hashedS_len (xs.take na)
  rw [hLx] at hl1
  have HHX : Hid (∀ x ∈ hashedS (xs.take na), x.size ≤ 1000000) := Lib.hid (fun x hx => by have := hashed_small (xs.take na) HX1k.out x hx; omega)
  have HHx : Hid (∀ W, Below w17.heap.size w17 W → Calls Tryz.prog 32 #[.slice ar na cr] W fun e w' => ∃ v', e = .returned v' ∧ OwnS w' W.heap.size v' (hashedS (xs.take na)) ∧ Below W.heap.size W w') := Lib.hid (fun W hW => hashed_any na na (Nat.le_refl _) hLx (((K17.out.step hW).all 0 _ rfl : SS W (.slice ar m cr) xs).cut na hnam) (by omega) (fun x hx => by have := HX1k.out x hx; omega))
  have HHE : Hid (hashedS (xs.take na) = hashedS (xs.take na)) := Lib.hid rfl
  obtain ⟨HX, hHX⟩ : ∃ HX, HX = hashedS (xs.take na) := ⟨_, rfl⟩
  rw [← hHX] at hl1 HHX HHx
  have HHXE := Lib.hid hHX
  clear hHX HHE HX1k hLx
  obtain ⟨x', y', ex, x1, x2, x3⟩ := (K17.out.all 0 _ rfl : SS w17 (.slice ar m cr) xs).opened
  have ear : ar = x' := by injection ex
  have gcr : na ≤ cr := by
    injection ex with _ _ e3
    omega
  rw [← ear] at x3
  have HX3 := Lib.hid x3
  clear ex x1 x2 x3 ear
  have HRC := Lib.hid (fun W (hW : Below w17.heap.size w17 W) => ((K17.out.step hW).duo (i := 1) rfl).2)
  have HB0 : Hid (Below w17.heap.size w17 w17) := Lib.hid (Below.refl _ _)
  go_wp2
  go_loopw [194] (fun i wr => ∃ k : Nat, k ≤ 2 ∧ i = .int .i64 k ∧ Hid (Below w17.heap.size w17 wr)) (fun i _ => 2 - (intOf i).toNat)
  case atStart => exact ⟨0, by omega, rfl, HB0⟩
  case round =>
    clear HB0
    obtain ⟨k, hk, rfl, hB⟩ := hrel
    by_cases hlk : k < 2
    · obtain ⟨ax, cx, nx, its, hnx, hfit, hit, hcells⟩ := HZ2.out k hlk
      obtain ⟨c0, c1, c2, c3, c4⟩ := hcells wr hB.out
      have HNX := Lib.hid hnx
      have HFI := Lib.hid hfit
      have HIT := Lib.hid hit
      have tk : (k : Int) < 2 := by omega
      have tk0 : (0 : Int) ≤ (k : Int) := by omega
      clear hnx hfit hit hcells
      go_upto_region 31 with fail
      have HB18 : Hid (Below w17.heap.size w17 (wr.alloc (.cells #[.int .i64 c1P, .int .i64 c2P, .string c3P, .string c4P, .slice ax nx cx] 38))) := Lib.hid (hB.out.alloc hB.out.size _)
      have HT18 : Hid ((wr.alloc (.cells #[.int .i64 c1P, .int .i64 c2P, .string c3P, .string c4P, .slice ax nx cx] 38)).heap[wr.heap.size]? = some (.cells #[.int .i64 c1P, .int .i64 c2P, .string c3P, .string c4P, .slice ax nx cx] 38 (0, 0))) := Lib.hid (heap_alloc_new wr _)
      obtain ⟨w18, hw18⟩ : ∃ W, W = wr.alloc (.cells #[.int .i64 c1P, .int .i64 c2P, .string c3P, .string c4P, .slice ax nx cx] 38) := ⟨_, rfl⟩
      rw [← hw18] at HB18 HT18 ⊢
      clear hw18 c0 c1 c2 c3 c4
      generalize wr.heap.size = tb at *
      obtain ⟨C, hC⟩ : ∃ C, C = checkB key ⟨⟨c1P, c2P, c3P, c4P⟩, its⟩ := ⟨_, rfl⟩
      have HCK := Lib.hid (check_w ((K17.out.step HB18.out).put (d := .I (.slice ax nx cx) its) (HIT.out.below HB18.out)) 15 key c1P c2P c3P c4P its rfl (by rw [HK32.out]; omega) HFI.out C hC.symm)
      have HCE := Lib.hid hC
      clear hC hB
      obtain ⟨c0, c1, c2, c3, c4⟩ := pfive HT18.out
      cases C with
      | false =>
        go_wp2_with (go_at_call 24; refine (HCK.out _ (Below.refl _ _)).mono ?_; rintro e w19 ⟨rfl, hb19⟩; have HB19 := Lib.hid (below_next HB18.out hb19); clear hb19)
        go_roundw
        case rel => exact ⟨k + 1, by omega, by go_num, HB19⟩
        case measure => simp [intOf]; omega
      | true =>
        go_upto_region 32 with (go_at_call 24; refine (HCK.out _ (Below.refl _ _)).mono ?_; rintro e w19 ⟨rfl, hb19⟩; have HB19 := Lib.hid (below_next HB18.out hb19); have HT19 := Lib.hid (kept_block HT18.out hb19); clear hb19)
        clear c0 c1 c2 c3 c4 HCK
        have HSH : Hid (∀ x ∈ its, ∃ i : Nat, x.idx = (i : Int) ∧ i < na ∧ (∀ s ∈ x.prf, s.size = 32) ∧ x.ent.size ≤ 1000 ∧ (xs.getD i ⟨#[]⟩ = x.ent ∨ collS (walkedS x.ent x.prf.reverse na i).1 HX = true)) := Lib.hid (fun x hx => by
          rw [HHXE.out]
          exact shows_item (key := key) (car := (cn : Int)) (xs := xs) (n := na) (by rw [← HM.out]; exact hnam) (z := ⟨⟨c1P, c2P, c3P, c4P⟩, its⟩) HCE.out.symm (congrArg (fun p : PartP => p.head) HPP.out) hx)
        have HPL : Hid (∀ x ∈ its, x.prf.length ≤ 1000) := Lib.hid HFI.out.2.2
        obtain ⟨y1, y2, ey, y3, y4, hcl⟩ := (HIT.out.below HB19.out).opened
        have eaz : ax = y1 := by injection ey
        rw [← eaz] at hcl
        have HCL := Lib.hid hcl
        have hn5 : nx ≤ 100000 := by rw [HNX.out]; exact HFI.out.2.1
        clear hcl ey eaz y3 y4 HB18 HT18
        have HT5 := Lib.hid (fun W (hW : Below w19.heap.size w19 W) => (pfive (kept_block HT19.out hW)).2.2.2.2)
        have HB20 : Hid (Below w19.heap.size w19 w19) := Lib.hid (Below.refl _ _)
        go_wp2
        go_loopw [33] (fun i wr => ∃ t : Nat, t ≤ nx ∧ i = .int .i64 t ∧ Hid (Below w19.heap.size w19 wr)) (fun i _ => nx - (intOf i).toNat)
        case atStart => exact ⟨0, by omega, rfl, HB20⟩
        case round =>
          clear HB20
          obtain ⟨t, ht, rfl, hB⟩ := hrel
          have c4 := HT5.out wr hB.out
          by_cases hlt : t < nx
          · obtain ⟨⟨xi, xe, xp⟩, exk⟩ : ∃ u, its[t]? = some u := ⟨_, List.getElem?_eq_getElem (by rw [← HNX.out]; exact hlt)⟩
            obtain ⟨i, hxi, hina, h32, hx1k, hor⟩ := HSH.out _ (List.mem_of_getElem? exk)
            have hpl := HPL.out _ (List.mem_of_getElem? exk)
            obtain ⟨b, off, pv, eb, hb, g0, g1, g2, hss⟩ := HCL.out t _ exk
            subst eb
            simp only at hxi h32 hx1k hor hpl g0 g1 g2 hss
            subst hxi
            obtain ⟨ap, cp, hpv⟩ := hss.form2
            subst hpv
            have g0 := cell_keepB hB.out hb g0
            have g1 := cell_keepB hB.out hb g1
            have g2 := cell_keepB hB.out hb g2
            have HSP := Lib.hid (SS.below hss hB.out)
            have H32 := Lib.hid h32
            have HOR := Lib.hid hor
            obtain ⟨np, hnp⟩ : ∃ np, np = xp.length := ⟨_, rfl⟩
            rw [← hnp] at hpl g2 HSP
            have HNP := Lib.hid hnp
            have tt : (t : Int) < (nx : Int) := by omega
            have tt0 : (0 : Int) ≤ (t : Int) := by omega
            obtain ⟨sx, esx⟩ : ∃ u, xs[i]? = some u := ⟨_, List.getElem?_eq_getElem (by rw [← HM.out]; omega)⟩
            obtain ⟨bx, ox, eax, hbx, cx0⟩ := HX3.out i sx esx
            clear hor hss h32 exk hnp
            rw [List.getD_eq_getElem?_getD, esx] at HOR
            subst eax
            have ti0 : (0 : Int) ≤ (i : Int) := by omega
            have ti1 : ¬ (i : Int) < 0 := by omega
            have ti2 : ¬ (na : Int) ≤ (i : Int) := by omega
            have ti3 : (i : Int) < (m : Int) := by omega
            have ti4 : (na : Int) ≤ (m : Int) := by omega
            have ti5 : (0 : Int) ≤ (na : Int) := by omega
            go_upto_region 36 with fail
            have HB21 : Hid (Below w19.heap.size w19 (wr.alloc (.cells #[.int .i64 (i : Int), .string xe, .slice ap np cp] 53))) := Lib.hid (hB.out.alloc hB.out.size _)
            have HT21 : Hid ((wr.alloc (.cells #[.int .i64 (i : Int), .string xe, .slice ap np cp] 53)).heap[wr.heap.size]? = some (.cells #[.int .i64 (i : Int), .string xe, .slice ap np cp] 53 (0, 0))) := Lib.hid (heap_alloc_new wr _)
            have HS21 := Lib.hid (SS.below HSP.out ((Below.refl _ _).alloc (Nat.le_refl _) (.cells #[.int .i64 (i : Int), .string xe, .slice ap np cp] 53)))
            obtain ⟨w21, hw21⟩ : ∃ W, W = wr.alloc (.cells #[.int .i64 (i : Int), .string xe, .slice ap np cp] 53) := ⟨_, rfl⟩
            rw [← hw21] at HB21 HT21 HS21 ⊢
            clear hw21 hB HSP g0 g1 g2 c4
            generalize wr.heap.size = ib2 at *
            have HWK := Lib.hid (rwalked_any np na i xe HNP.out.symm HS21.out (by omega) (by omega) (by omega) (fun x hx => by have := H32.out x hx; omega) hpl)
            have hwl := walked_len xe xp.reverse na i
            have HWS := Lib.hid (walked_small xe (by omega) xp.reverse (fun x hx => by have := H32.out x (List.mem_reverse.1 hx); omega) na i)
            rw [List.length_reverse, ← HNP.out] at hwl
            generalize (walkedS xe xp.reverse na i).1 = W1 at *
            generalize (walkedS xe xp.reverse na i).2 = W2 at *
            obtain ⟨u0, u1, u2⟩ := three_cells HT21.out
            go_upto_region 39 with (go_at_call 30; refine HWK.out.mono ?_; rintro e w22 ⟨vw, rfl, how', hbw⟩; obtain ⟨aw, cw, hvw⟩ := OwnE.form how'; subst hvw; have HOW := Lib.hid how'.ss; have HB22 := Lib.hid (below_next HB21.out hbw); have HT22 := Lib.hid (kept_block HT21.out hbw); clear how' hbw)
            clear u0 u1 u2 HWK HS21 HT21 HB21
            have HB17 := Lib.hid (below_next HB19.out HB22.out)
            have HL2 : Hid (∀ W, Below w22.heap.size w22 W → (W.cell? ⟨ib2, 0, none⟩ = some (.int .i64 (i : Int)) ∧ W.cell? ⟨ib2, 1, none⟩ = some (.string xe) ∧ W.cell? ⟨ib2, 2, none⟩ = some (.slice ap np cp)) ∧ W.cell? ⟨rb, 1, none⟩ = some (.slice (some ⟨bx, ox, none⟩) m cr) ∧ W.cell? ⟨bx, ox + i, none⟩ = some (.string sx)) := Lib.hid (fun W hW =>
              ⟨three_cells (kept_block HT22.out hW), HRC.out W (below_next HB17.out hW), cell_keepB (below_next HB17.out hW) hbx cx0⟩)
            by_cases hse : sx = xe
            · subst hse
              refine wp_region_noPanic ?_
              refine wp_region_lexB [.q 0, .q 1, .q 2, .q 3, .q 4, .q 5, .q 6, .q 7, .q 8, .q 9, .q 10, .q 11, .q 12, .q 13, .q 14, .q 15, .q 16, .q 17, .q 18] (by kernel_rfl) (by kernel_rfl) (fun _ _ _ _ h => h) ?_
              refine wpFl_qL (v := ?_) rfl (Or.inl ⟨by rfl, ?_⟩) ?_
              rotate_left
              focus (intro w' hSw; (try dsimp only [OldKept] at hSw); obtain ⟨⟨u0, u1, u2⟩, r1, x0⟩ := HL2.out w' hSw; go_simp; (try with_reducible rfl); done)
              simp only [Act.put, List.setIfInBounds_toArray, List.set_cons_zero, List.set_cons_succ]
              refine wpFl_qL (v := ?_) rfl (Or.inl ⟨by rfl, ?_⟩) ?_
              rotate_left
              focus (intro w' hSw; (try dsimp only [OldKept] at hSw); obtain ⟨⟨u0, u1, u2⟩, r1, x0⟩ := HL2.out w' hSw; go_simp; (try with_reducible rfl); done)
              simp only [Act.put, List.setIfInBounds_toArray, List.set_cons_zero, List.set_cons_succ]
              refine wpFl_qL (v := ?_) rfl (Or.inl ⟨by rfl, ?_⟩) ?_
              rotate_left
              focus (intro w' hSw; (try dsimp only [OldKept] at hSw); obtain ⟨⟨u0, u1, u2⟩, r1, x0⟩ := HL2.out w' hSw; go_simp; (try with_reducible rfl); done)
              simp only [Act.put, List.setIfInBounds_toArray, List.set_cons_zero, List.set_cons_succ]
              refine wpFl_qL (v := ?_) rfl (Or.inl ⟨by rfl, ?_⟩) ?_
              rotate_left
              focus (intro w' hSw; (try dsimp only [OldKept] at hSw); obtain ⟨⟨u0, u1, u2⟩, r1, x0⟩ := HL2.out w' hSw; go_simp; (try with_reducible rfl); done)
              simp only [Act.put, List.setIfInBounds_toArray, List.set_cons_zero, List.set_cons_succ]
              refine wpFl_qL (v := ?_) rfl (Or.inl ⟨by rfl, ?_⟩) ?_
              rotate_left
              focus (intro w' hSw; (try dsimp only [OldKept] at hSw); obtain ⟨⟨u0, u1, u2⟩, r1, x0⟩ := HL2.out w' hSw; go_simp; (try with_reducible rfl); done)
              simp only [Act.put, List.setIfInBounds_toArray, List.set_cons_zero, List.set_cons_succ]
              refine wpFl_qL (v := ?_) rfl (Or.inl ⟨by rfl, ?_⟩) ?_
              rotate_left
              focus (intro w' hSw; (try dsimp only [OldKept] at hSw); obtain ⟨⟨u0, u1, u2⟩, r1, x0⟩ := HL2.out w' hSw; go_simp; (try with_reducible rfl); done)
              simp only [Act.put, List.setIfInBounds_toArray, List.set_cons_zero, List.set_cons_succ]
              refine wpFl_qL (v := ?_) rfl (Or.inl ⟨by rfl, ?_⟩) ?_
              rotate_left
              focus (intro w' hSw; (try dsimp only [OldKept] at hSw); obtain ⟨⟨u0, u1, u2⟩, r1, x0⟩ := HL2.out w' hSw; go_simp; (try with_reducible rfl); done)
              simp only [Act.put, List.setIfInBounds_toArray, List.set_cons_zero, List.set_cons_succ]
              refine wpFl_qL (v := ?_) rfl (Or.inl ⟨by rfl, ?_⟩) ?_
              rotate_left
              focus (intro w' hSw; (try dsimp only [OldKept] at hSw); obtain ⟨⟨u0, u1, u2⟩, r1, x0⟩ := HL2.out w' hSw; go_simp; (try with_reducible rfl); done)
              simp only [Act.put, List.setIfInBounds_toArray, List.set_cons_zero, List.set_cons_succ]
              refine wpFl_qL (v := ?_) rfl (Or.inl ⟨by rfl, ?_⟩) ?_
              rotate_left
              focus (intro w' hSw; (try dsimp only [OldKept] at hSw); obtain ⟨⟨u0, u1, u2⟩, r1, x0⟩ := HL2.out w' hSw; go_simp; (try with_reducible rfl); done)
              simp only [Act.put, List.setIfInBounds_toArray, List.set_cons_zero, List.set_cons_succ]
              refine wpFl_qL (v := ?_) rfl (Or.inl ⟨by rfl, ?_⟩) ?_
              rotate_left
              focus (intro w' hSw; (try dsimp only [OldKept] at hSw); obtain ⟨⟨u0, u1, u2⟩, r1, x0⟩ := HL2.out w' hSw; go_simp; (try with_reducible rfl); done)
              simp only [Act.put, List.setIfInBounds_toArray, List.set_cons_zero, List.set_cons_succ]
              refine wpFl_qL (v := undef) rfl (Or.inr ⟨by rfl, rfl⟩) ?_
              simp only [Act.put, List.setIfInBounds_toArray, List.set_cons_zero, List.set_cons_succ]
              refine wpFl_qL (v := undef) rfl (Or.inr ⟨by rfl, rfl⟩) ?_
              simp only [Act.put, List.setIfInBounds_toArray, List.set_cons_zero, List.set_cons_succ]
              refine wpFl_qL (v := undef) rfl (Or.inr ⟨by rfl, rfl⟩) ?_
              simp only [Act.put, List.setIfInBounds_toArray, List.set_cons_zero, List.set_cons_succ]
              refine wpFl_qL (v := undef) rfl (Or.inr ⟨by rfl, rfl⟩) ?_
              simp only [Act.put, List.setIfInBounds_toArray, List.set_cons_zero, List.set_cons_succ]
              refine wpFl_qL (v := undef) rfl (Or.inr ⟨by rfl, rfl⟩) ?_
              simp only [Act.put, List.setIfInBounds_toArray, List.set_cons_zero, List.set_cons_succ]
              refine wpFl_qL (v := undef) rfl (Or.inr ⟨by rfl, rfl⟩) ?_
              simp only [Act.put, List.setIfInBounds_toArray, List.set_cons_zero, List.set_cons_succ]
              refine wpFl_qL (v := undef) rfl (Or.inr ⟨by rfl, rfl⟩) ?_
              simp only [Act.put, List.setIfInBounds_toArray, List.set_cons_zero, List.set_cons_succ]
              refine wpFl_qL (v := undef) rfl (Or.inr ⟨by rfl, rfl⟩) ?_
              simp only [Act.put, List.setIfInBounds_toArray, List.set_cons_zero, List.set_cons_succ]
              refine wpFl_qL (v := ?_) rfl (Or.inl ⟨by rfl, ?_⟩) ?_
              rotate_left
              focus (intro w' hSw; (try dsimp only [OldKept] at hSw); go_simp; (try with_reducible rfl); done)
              simp only [Act.put, List.setIfInBounds_toArray, List.set_cons_zero, List.set_cons_succ]
              refine wpFl_nil ?_
              refine NoPanic.normal ?_
              have HBq := Lib.hid (below_next HB22.out (Below.drew (Below.refl _ _)))
              go_wp2
              go_roundw
              case rel => exact ⟨t + 1, by omega, by go_num, HBq⟩
              case measure => simp [intOf]; omega
            · have hst : (xe.toList == sx.toList) = false := by rw [same_str]; exact decide_eq_false (fun e => hse e.symm)
              have HCO : Hid (collS W1 HX = true) := Lib.hid (HOR.out.resolve_left hse)
              refine wp_region_noPanic ?_
              refine wp_region_lexB [.q 0, .q 1, .q 2, .q 3, .q 4, .q 5, .q 6, .q 7, .q 8, .q 9, .q 10, .q 11, .q 12, .q 13, .q 14, .b 15, .b 16, .q 17, .q 18] (by kernel_rfl) (by kernel_rfl) (fun _ _ _ _ h => h) ?_
              refine wpFl_qL (v := ?_) rfl (Or.inl ⟨by rfl, ?_⟩) ?_
              rotate_left
              focus (intro w' hSw; (try dsimp only [OldKept] at hSw); obtain ⟨⟨u0, u1, u2⟩, r1, x0⟩ := HL2.out w' hSw; go_simp; (try with_reducible rfl); done)
              simp only [Act.put, List.setIfInBounds_toArray, List.set_cons_zero, List.set_cons_succ]
              refine wpFl_qL (v := ?_) rfl (Or.inl ⟨by rfl, ?_⟩) ?_
              rotate_left
              focus (intro w' hSw; (try dsimp only [OldKept] at hSw); obtain ⟨⟨u0, u1, u2⟩, r1, x0⟩ := HL2.out w' hSw; go_simp; (try with_reducible rfl); done)
              simp only [Act.put, List.setIfInBounds_toArray, List.set_cons_zero, List.set_cons_succ]
              refine wpFl_qL (v := ?_) rfl (Or.inl ⟨by rfl, ?_⟩) ?_
              rotate_left
              focus (intro w' hSw; (try dsimp only [OldKept] at hSw); obtain ⟨⟨u0, u1, u2⟩, r1, x0⟩ := HL2.out w' hSw; go_simp; (try with_reducible rfl); done)
              simp only [Act.put, List.setIfInBounds_toArray, List.set_cons_zero, List.set_cons_succ]
              refine wpFl_qL (v := ?_) rfl (Or.inl ⟨by rfl, ?_⟩) ?_
              rotate_left
              focus (intro w' hSw; (try dsimp only [OldKept] at hSw); obtain ⟨⟨u0, u1, u2⟩, r1, x0⟩ := HL2.out w' hSw; go_simp; (try with_reducible rfl); done)
              simp only [Act.put, List.setIfInBounds_toArray, List.set_cons_zero, List.set_cons_succ]
              refine wpFl_qL (v := ?_) rfl (Or.inl ⟨by rfl, ?_⟩) ?_
              rotate_left
              focus (intro w' hSw; (try dsimp only [OldKept] at hSw); obtain ⟨⟨u0, u1, u2⟩, r1, x0⟩ := HL2.out w' hSw; go_simp; (try with_reducible rfl); done)
              simp only [Act.put, List.setIfInBounds_toArray, List.set_cons_zero, List.set_cons_succ]
              refine wpFl_qL (v := ?_) rfl (Or.inl ⟨by rfl, ?_⟩) ?_
              rotate_left
              focus (intro w' hSw; (try dsimp only [OldKept] at hSw); obtain ⟨⟨u0, u1, u2⟩, r1, x0⟩ := HL2.out w' hSw; go_simp; (try with_reducible rfl); done)
              simp only [Act.put, List.setIfInBounds_toArray, List.set_cons_zero, List.set_cons_succ]
              refine wpFl_qL (v := ?_) rfl (Or.inl ⟨by rfl, ?_⟩) ?_
              rotate_left
              focus (intro w' hSw; (try dsimp only [OldKept] at hSw); obtain ⟨⟨u0, u1, u2⟩, r1, x0⟩ := HL2.out w' hSw; go_simp; (try with_reducible rfl); done)
              simp only [Act.put, List.setIfInBounds_toArray, List.set_cons_zero, List.set_cons_succ]
              refine wpFl_qL (v := ?_) rfl (Or.inl ⟨by rfl, ?_⟩) ?_
              rotate_left
              focus (intro w' hSw; (try dsimp only [OldKept] at hSw); obtain ⟨⟨u0, u1, u2⟩, r1, x0⟩ := HL2.out w' hSw; go_simp; (try with_reducible rfl); done)
              simp only [Act.put, List.setIfInBounds_toArray, List.set_cons_zero, List.set_cons_succ]
              refine wpFl_qL (v := ?_) rfl (Or.inl ⟨by rfl, ?_⟩) ?_
              rotate_left
              focus (intro w' hSw; (try dsimp only [OldKept] at hSw); obtain ⟨⟨u0, u1, u2⟩, r1, x0⟩ := HL2.out w' hSw; go_simp; (try with_reducible rfl); done)
              simp only [Act.put, List.setIfInBounds_toArray, List.set_cons_zero, List.set_cons_succ]
              refine wpFl_qL (v := ?_) rfl (Or.inl ⟨by rfl, ?_⟩) ?_
              rotate_left
              focus (intro w' hSw; (try dsimp only [OldKept] at hSw); obtain ⟨⟨u0, u1, u2⟩, r1, x0⟩ := HL2.out w' hSw; go_simp; (try with_reducible rfl); done)
              simp only [Act.put, List.setIfInBounds_toArray, List.set_cons_zero, List.set_cons_succ]
              refine wpFl_qL (v := ?_) rfl (Or.inl ⟨by rfl, ?_⟩) ?_
              rotate_left
              focus (intro w' hSw; (try dsimp only [OldKept] at hSw); obtain ⟨⟨u0, u1, u2⟩, r1, x0⟩ := HL2.out w' hSw; go_simp; (try with_reducible rfl); done)
              simp only [Act.put, List.setIfInBounds_toArray, List.set_cons_zero, List.set_cons_succ]
              refine wpFl_qL (v := ?_) rfl (Or.inl ⟨by rfl, ?_⟩) ?_
              rotate_left
              focus (intro w' hSw; (try dsimp only [OldKept] at hSw); obtain ⟨⟨u0, u1, u2⟩, r1, x0⟩ := HL2.out w' hSw; go_simp; (try with_reducible rfl); done)
              simp only [Act.put, List.setIfInBounds_toArray, List.set_cons_zero, List.set_cons_succ]
              refine wpFl_qL (v := ?_) rfl (Or.inl ⟨by rfl, ?_⟩) ?_
              rotate_left
              focus (intro w' hSw; (try dsimp only [OldKept] at hSw); obtain ⟨⟨u0, u1, u2⟩, r1, x0⟩ := HL2.out w' hSw; go_simp; (try with_reducible rfl); done)
              simp only [Act.put, List.setIfInBounds_toArray, List.set_cons_zero, List.set_cons_succ]
              refine wpFl_qL (v := ?_) rfl (Or.inl ⟨by rfl, ?_⟩) ?_
              rotate_left
              focus (intro w' hSw; (try dsimp only [OldKept] at hSw); obtain ⟨⟨u0, u1, u2⟩, r1, x0⟩ := HL2.out w' hSw; go_simp; (try with_reducible rfl); done)
              simp only [Act.put, List.setIfInBounds_toArray, List.set_cons_zero, List.set_cons_succ]
              refine wpFl_qL (v := ?_) rfl (Or.inl ⟨by rfl, ?_⟩) ?_
              rotate_left
              focus (intro w' hSw; (try dsimp only [OldKept] at hSw); obtain ⟨⟨u0, u1, u2⟩, r1, x0⟩ := HL2.out w' hSw; go_simp; (try with_reducible rfl); done)
              simp only [Act.put, List.setIfInBounds_toArray, List.set_cons_zero, List.set_cons_succ]
              refine wpFl_bL rfl (fun w23 hn23 hs23 K hK => ?_)
              go_simp
              go_at_call 32
              (with_reducible refine (HHx.out _ (below_next HB17.out hs23)).mono ?_)
              rintro e w24 ⟨vh, rfl, hoh, hb24⟩
              have HOH := Lib.hid hoh.ss
              have HOW2 := Lib.hid (SS.below HOW.out (below_next hs23 hb24))
              refine hK.out _ _ (below_next hs23 hb24) (Keeps.below hb24) ?_
              clear hK K hn23 hs23 hb24 hoh
              refine wpFl_bL rfl (fun w25 hn25 hs25 K hK => ?_)
              go_simp
              go_at_call 31
              have hcd := collided_any (SS.below HOW2.out hn25) (SS.below HOH.out hn25) (by omega) (by omega) (fun x hx => by have := HWS.out x hx; omega) HHX.out
              rw [HCO.out] at hcd
              refine hcd.mono ?_
              rintro e w26 ⟨rfl, hb26⟩
              have HB26 := Lib.hid (below_next HB22.out (below_next hs25 hb26))
              refine hK.out _ _ (below_next hs25 hb26) (Keeps.below hb26) ?_
              clear hK K hn25 hs25 hb26 hcd HOH HOW2
              refine wpFl_qL (v := ?_) rfl (Or.inl ⟨by rfl, ?_⟩) ?_
              rotate_left
              focus (intro w' hSw; (try dsimp only [OldKept] at hSw); go_simp; (try with_reducible rfl); done)
              simp only [Act.put, List.setIfInBounds_toArray, List.set_cons_zero, List.set_cons_succ]
              refine wpFl_qL (v := ?_) rfl (Or.inl ⟨by rfl, ?_⟩) ?_
              rotate_left
              focus (intro w' hSw; (try dsimp only [OldKept] at hSw); go_simp; (try with_reducible rfl); done)
              simp only [Act.put, List.setIfInBounds_toArray, List.set_cons_zero, List.set_cons_succ]
              refine wpFl_nil ?_
              refine NoPanic.normal ?_
              go_wp2
              go_roundw
              case rel => exact ⟨t + 1, by omega, by go_num, HB26⟩
              case measure => simp [intOf]; omega
          · have tt : ¬ (t : Int) < (nx : Int) := by omega
            have HBe := Lib.hid (below_next HB19.out hB.out)
            go_wp2
            go_roundw
            case rel => exact ⟨k + 1, by omega, by go_num, HBe⟩
            case measure => simp [intOf]; omega
    · have tk : ¬ (k : Int) < 2 := by omega
      have HF := Lib.hid (K17.out.step hB.out).below
      go_wp2
      go_ret
      exact ⟨rfl, HF.out⟩
end Go.Proofs.YtinfpbkbnhcifaaGreatDoor
