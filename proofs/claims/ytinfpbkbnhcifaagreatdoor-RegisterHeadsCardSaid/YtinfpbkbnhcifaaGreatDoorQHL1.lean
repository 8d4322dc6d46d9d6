/- The walk of RegisterHeads. The conditions: what the slice reads as, ranges, the table of constants. -/
import Derived.Test.YtinfpbkbnhcifaaGreatDoorQLW1
import Derived.Test.YtinfpbkbnhcifaaGreatDoorQBT1
namespace Go.Proofs.YtinfpbkbnhcifaaGreatDoor
open Go.RowKit Go.BigFrame

set_option maxHeartbeats 12000000 in
set_option maxRecDepth 100000 in
theorem heads_walk {w : World} (carrier nn how at' other : Int) (sg : ByteArray) {vx : Value} {x : List Int} (hx : IL w vx x) (ic : I64 carrier) (ix : ∀ n ∈ x, I64 n) (inn : I64 nn) (ih : I64 how) (ia : I64 at') (io : I64 other) (_isg : sg.size ≤ maxLen) (he : Env w) (hg : 0 < w.heap.size) :
    Calls Tryz.prog 8 #[.int .i64 carrier, vx, .int .i64 nn, .int .i64 how, .int .i64 at', .int .i64 other, .string sg] w fun e w' => e = .returned (.bool true) ∧ Below w.heap.size w w' := by
  have hpk := pickI_range carrier (n := 8) (by omega)
  obtain ⟨cn, hcn⟩ := Int.eq_ofNat_of_zero_le hpk.1
  have hc7 : cn ≤ 7 := by omega
  have HV : Hid (validB ⟨(cn : Int), madeL x⟩ = true) := Lib.hid (by rw [← hcn]; exact made_valid carrier x)
  have HIX := Lib.hid ix
  have HX := Lib.hid hx
  have HIC := Lib.hid ic
  have K0 := Lib.hid (Know.start he hg)
  clear hpk ix hx ic he hg
  obtain ⟨xs, hxs⟩ : ∃ xs, xs = madeL x := ⟨_, rfl⟩
  have hm12 : xs.length ≤ 12 := by rw [hxs]; exact madeL_len x
  rw [← hxs] at HV
  have HXS := Lib.hid hxs
  clear hxs
  have HB4 := Lib.hid (fun W => lpick_any how 4 W ih (by omega) (by omega))
  have HP7 := Lib.hid (pick_pick how)
  obtain ⟨p40, p41⟩ := pickI_range how (n := 4) (by omega)
  obtain ⟨k4, hk4⟩ := Int.eq_ofNat_of_zero_le p40
  have HK4 : Hid (pickI (k4 : Int) 7 = (k4 : Int)) := Lib.hid (by rw [← hk4]; exact HP7.out)
  rw [hk4] at HB4 p41
  clear hk4 p40 HP7 ih
  have HIA := Lib.hid ia
  clear ia
  have HO1 := Lib.hid (fun W => lpick_any other 100 W io (by omega) (by omega))
  obtain ⟨po0, po1⟩ := pickI_range other (n := 100) (by omega)
  obtain ⟨oc, hoc⟩ := Int.eq_ofNat_of_zero_le po0
  rw [hoc] at HO1 po1
  clear hoc po0 io
  go_enter Tryz.func8, Tryz.ntmps8
  go_wp2_with fail
  refine (sane_at K0.out).mono ?_
  rintro e w1 ⟨rfl, kw1⟩
  have K1 := Lib.hid kw1
  clear kw1 K0
  go_wp2_with fail
  refine (made_at K1.out (HX.out.below K1.out.below) HIX.out carrier HIC.out).mono ?_
  rintro e w2 ⟨vr, rfl, k2⟩
  rw [← HXS.out] at k2
  rw [hcn]
  obtain ⟨ar, cr, rfl⟩ := (k2.all 0 _ rfl : SS w2 vr xs).form2
  simp only [List.nil_append] at k2
  have K2 := Lib.hid k2
  clear k2 K1 HX HIX HIC hcn HXS
  obtain ⟨m, hm⟩ : ∃ m, m = xs.length := ⟨_, rfl⟩
  rw [← hm] at hm12 K2 ⊢
  have HM := Lib.hid hm
  clear hm
  go_upto_region 5 with fail
  have kw3 := K2.out.box #[.int .i64 cn, .slice ar m cr] 26
  obtain ⟨w3, hww3⟩ : ∃ W, W = w2.alloc (.cells #[.int .i64 cn, .slice ar m cr] 26) := ⟨_, rfl⟩
  rw [← hww3] at kw3 ⊢
  clear hww3
  generalize w2.heap.size = rb at kw3 ⊢
  simp only [List.nil_append, List.cons_append] at kw3
  have K3 := Lib.hid kw3
  clear kw3 K2
  obtain ⟨rc0, rc1⟩ := K3.out.duo (i := 1) rfl
  go_wp2_with fail
  clear rc0 rc1
  refine (key_at K3.out cn (by omega)).mono ?_
  rintro e w6 ⟨rfl, kw6⟩
  have K6 := Lib.hid kw6
  clear kw6 K3
  have HK32 := Lib.hid (keyS_size (cn : Int))
  have HKN : Hid (keyS (cn : Int) ≠ keyS (8 + (oc : Int))) := Lib.hid (keyS_ne (by omega) (by omega) (by omega) (by omega))
  obtain ⟨key, hkey⟩ : ∃ k, k = keyS (cn : Int) := ⟨_, rfl⟩
  rw [← hkey] at HK32 HKN ⊢
  clear hkey
  have HPK := Lib.hid (fun W => lpick_any nn ((m : Int) + 1) W inn (by omega) (by omega))
  obtain ⟨p0, p1⟩ := pickI_range nn (n := (m : Int) + 1) (by omega)
  obtain ⟨na, hna⟩ := Int.eq_ofNat_of_zero_le p0
  rw [hna] at HPK p1
  have hnam : na ≤ m := by omega
  have f1 : IntKind.i64.wrap ((m : Int) + 1) = (m : Int) + 1 := IntWalk.i64_in _ (by omega)
  clear hna p0 p1 inn
  obtain ⟨rc0, rc1⟩ := K6.out.duo (i := 1) rfl
  go_wp2_with (go_at_call 16; (with_reducible refine (HPK.out _).mono ?_); rintro e w' ⟨rfl, hw'⟩; replace hw' := hw'.symm; subst hw')
  clear rc0 rc1 f1 HPK
  refine (sign_at K6.out 0 rfl key cn na HK32.out HV.out (by rw [← HM.out]; exact hnam)).mono ?_
  rintro e w7 ⟨rfl, kw7⟩
  have K7 := Lib.hid kw7
  clear kw7 K6
  obtain ⟨h, hh⟩ : ∃ h, h = headS key cn xs na := ⟨_, rfl⟩
  rw [← hh]
  obtain ⟨o1, o2, o3, o4⟩ := h
  have HO := Lib.hid hh
  obtain rfl : o1 = (cn : Int) := congrArg (fun h : HeadP => h.car) hh
  obtain rfl : o2 = (na : Int) := congrArg (fun h : HeadP => h.siz) hh
  have hr3 : o3.size = 32 := by
    have := congrArg (fun h : HeadP => h.root) hh
    simp only at this
    rw [this]; exact rootB_size _
  clear hh
  simp only [hbox]
  go_upto_region 8 with fail
  have kw8 := K7.out.box #[.int .i64 cn, .int .i64 na, .string o3, .string o4] 35
  obtain ⟨w8, hww8⟩ : ∃ W, W = w7.alloc (.cells #[.int .i64 cn, .int .i64 na, .string o3, .string o4] 35) := ⟨_, rfl⟩
  rw [← hww8] at kw8 ⊢
  clear hww8
  generalize w7.heap.size = ob at kw8 ⊢
  simp only [List.nil_append, List.cons_append] at kw8
  have K8 := Lib.hid kw8
  clear kw8 K7
  obtain ⟨h0, h1, h2, h3⟩ := four_cells (K8.out.all 2 _ rfl)
  go_upto_region 9 with fail
  clear h0 h1 h2 h3
  obtain ⟨q, hq⟩ : ∃ q : Nat, min (sg.size : Int) 33 = (q : Int) := ⟨min sg.size 33, by omega⟩
  have q1 : (q : Int) ≤ (sg.size : Int) := by omega
  have q0 : (0 : Int) ≤ (q : Int) := by omega
  go_upto_region 10 with fail
  generalize sg.extract 0 q = S at *
  have kw10 := K8.out.box #[.int .i64 cn, .int .i64 na, .string o3, .string S] 35
  obtain ⟨w10, hww10⟩ : ∃ W, W = w8.alloc (.cells #[.int .i64 cn, .int .i64 na, .string o3, .string S] 35) := ⟨_, rfl⟩
  rw [← hww10] at kw10 ⊢
  clear hww10
  generalize w8.heap.size = fb at kw10 ⊢
  simp only [List.nil_append, List.cons_append] at kw10
  have K10 := Lib.hid kw10
  clear kw10 K8
  clear hq q0 q1 _isg
  have HG : Hid (genuineB key ⟨cn, na, o3, o4⟩ = true) := Lib.hid (by
    rw [HO.out]
    exact head_genuine HK32.out (by omega) (by omega))
  obtain ⟨D, hD⟩ : ∃ D, D = decide (S = o4) := ⟨_, rfl⟩
  have HFG : Hid (genuineB key ⟨cn, na, o3, S⟩ = D) := Lib.hid (by
    have h1 := forged_law (key := key) (car := (cn : Int)) (xs := xs) (n := na) HK32.out (by omega) (by omega) S
    rw [← HO.out] at h1
    rw [hD]
    exact h1)
  have hst : (S.toList == o4.toList) = D := by rw [same_str, hD]
  clear hD
  have HC : Hid (∀ W, Below w10.heap.size w10 W → (W.cell? ⟨ob, 0, none⟩ = some (.int .i64 cn) ∧ W.cell? ⟨ob, 1, none⟩ = some (.int .i64 na) ∧ W.cell? ⟨ob, 2, none⟩ = some (.string o3) ∧ W.cell? ⟨ob, 3, none⟩ = some (.string o4)) ∧ (W.cell? ⟨fb, 0, none⟩ = some (.int .i64 cn) ∧ W.cell? ⟨fb, 1, none⟩ = some (.int .i64 na) ∧ W.cell? ⟨fb, 2, none⟩ = some (.string o3) ∧ W.cell? ⟨fb, 3, none⟩ = some (.string S)) ∧ W.cell? ⟨rb, 0, none⟩ = some (.int .i64 cn) ∧ W.cell? ⟨rb, 1, none⟩ = some (.slice ar m cr)) := Lib.hid (fun W hW =>
    ⟨four_cells ((K10.out.step hW).all 2 _ rfl), four_cells ((K10.out.step hW).all 3 _ rfl), (K10.out.step hW).duo (i := 1) rfl⟩)
  have HG1 := Lib.hid (genuine_w K10.out key ⟨cn, na, o3, o4⟩ (by rw [HK32.out]; omega) (by show o3.size ≤ 1000; omega) true HG.out)
  have HG2 := Lib.hid (genuine_w K10.out key ⟨cn, na, o3, S⟩ (by rw [HK32.out]; omega) (by show o3.size ≤ 1000; omega) D HFG.out)
  go_cut [86] (fun t wx => t = .bool false ∧ Hid (Below w10.heap.size w10 wx))
  case first =>
    refine wp_region_noPanic ?_
    refine wp_region_lexB [.q 0, .q 1, .q 2, .q 3, .q 4, .b 5, .q 6, .q 7, .q 8, .q 9, .q 10, .q 11, .q 12, .q 13, .q 14, .q 15, .q 16, .q 17, .q 18, .q 19, .q 20, .q 21, .q 22, .q 23, .q 25, .q 26, .q 27, .q 28, .q 29, .b 24, .q 30, .q 31] (by kernel_rfl) (by kernel_rfl) (fun _ _ _ _ h => h) ?_
    refine wpFl_qL (v := ?_) rfl (Or.inl ⟨by rfl, ?_⟩) ?_
    rotate_left
    focus (intro w' hSw; (try dsimp only [OldKept] at hSw); obtain ⟨⟨c0, c1, c2, c3⟩, ⟨d0, d1, d2, d3⟩, r0, r1⟩ := HC.out w' hSw; go_simp; (try with_reducible rfl); done)
    simp only [Act.put, List.setIfInBounds_toArray, List.set_cons_zero, List.set_cons_succ]
    refine wpFl_qL (v := ?_) rfl (Or.inl ⟨by rfl, ?_⟩) ?_
    rotate_left
    focus (intro w' hSw; (try dsimp only [OldKept] at hSw); obtain ⟨⟨c0, c1, c2, c3⟩, ⟨d0, d1, d2, d3⟩, r0, r1⟩ := HC.out w' hSw; go_simp; (try with_reducible rfl); done)
    simp only [Act.put, List.setIfInBounds_toArray, List.set_cons_zero, List.set_cons_succ]
    refine wpFl_qL (v := ?_) rfl (Or.inl ⟨by rfl, ?_⟩) ?_
    rotate_left
    focus (intro w' hSw; (try dsimp only [OldKept] at hSw); obtain ⟨⟨c0, c1, c2, c3⟩, ⟨d0, d1, d2, d3⟩, r0, r1⟩ := HC.out w' hSw; go_simp; (try with_reducible rfl); done)
    simp only [Act.put, List.setIfInBounds_toArray, List.set_cons_zero, List.set_cons_succ]
    refine wpFl_qL (v := ?_) rfl (Or.inl ⟨by rfl, ?_⟩) ?_
    rotate_left
    focus (intro w' hSw; (try dsimp only [OldKept] at hSw); obtain ⟨⟨c0, c1, c2, c3⟩, ⟨d0, d1, d2, d3⟩, r0, r1⟩ := HC.out w' hSw; go_simp; (try with_reducible rfl); done)
    simp only [Act.put, List.setIfInBounds_toArray, List.set_cons_zero, List.set_cons_succ]
    refine wpFl_qL (v := ?_) rfl (Or.inl ⟨by rfl, ?_⟩) ?_
    rotate_left
    focus (intro w' hSw; (try dsimp only [OldKept] at hSw); obtain ⟨⟨c0, c1, c2, c3⟩, ⟨d0, d1, d2, d3⟩, r0, r1⟩ := HC.out w' hSw; go_simp; (try with_reducible rfl); done)
    simp only [Act.put, List.setIfInBounds_toArray, List.set_cons_zero, List.set_cons_succ]
    refine wpFl_bL rfl (fun w11 hn11 hs11 K hK => ?_)
    go_simp
    go_at_call 40
    (with_reducible refine (HG1.out _ hs11).mono ?_)
    rintro e w12 ⟨rfl, hb12⟩
    refine hK.out _ _ (below_next hs11 hb12) (Keeps.below hb12) ?_
    clear hK K hn11 hs11 hb12
    refine wpFl_qL (v := ?_) rfl (Or.inl ⟨by rfl, ?_⟩) ?_
    rotate_left
    focus (intro w' hSw; (try dsimp only [OldKept] at hSw); obtain ⟨⟨c0, c1, c2, c3⟩, ⟨d0, d1, d2, d3⟩, r0, r1⟩ := HC.out w' hSw; go_simp; (try with_reducible rfl); done)
    simp only [Act.put, List.setIfInBounds_toArray, List.set_cons_zero, List.set_cons_succ]
    refine wpFl_qL (v := ?_) rfl (Or.inl ⟨by rfl, ?_⟩) ?_
    rotate_left
    focus (intro w' hSw; (try dsimp only [OldKept] at hSw); obtain ⟨⟨c0, c1, c2, c3⟩, ⟨d0, d1, d2, d3⟩, r0, r1⟩ := HC.out w' hSw; go_simp; (try with_reducible rfl); done)
    simp only [Act.put, List.setIfInBounds_toArray, List.set_cons_zero, List.set_cons_succ]
    refine wpFl_qL (v := ?_) rfl (Or.inl ⟨by rfl, ?_⟩) ?_
    rotate_left
    focus (intro w' hSw; (try dsimp only [OldKept] at hSw); obtain ⟨⟨c0, c1, c2, c3⟩, ⟨d0, d1, d2, d3⟩, r0, r1⟩ := HC.out w' hSw; go_simp; (try with_reducible rfl); done)
    simp only [Act.put, List.setIfInBounds_toArray, List.set_cons_zero, List.set_cons_succ]
    refine wpFl_qL (v := ?_) rfl (Or.inl ⟨by rfl, ?_⟩) ?_
    rotate_left
    focus (intro w' hSw; (try dsimp only [OldKept] at hSw); obtain ⟨⟨c0, c1, c2, c3⟩, ⟨d0, d1, d2, d3⟩, r0, r1⟩ := HC.out w' hSw; go_simp; (try with_reducible rfl); done)
    simp only [Act.put, List.setIfInBounds_toArray, List.set_cons_zero, List.set_cons_succ]
    refine wpFl_qL (v := ?_) rfl (Or.inl ⟨by rfl, ?_⟩) ?_
    rotate_left
    focus (intro w' hSw; (try dsimp only [OldKept] at hSw); obtain ⟨⟨c0, c1, c2, c3⟩, ⟨d0, d1, d2, d3⟩, r0, r1⟩ := HC.out w' hSw; go_simp; (try with_reducible rfl); done)
    simp only [Act.put, List.setIfInBounds_toArray, List.set_cons_zero, List.set_cons_succ]
    refine wpFl_qL (v := ?_) rfl (Or.inl ⟨by rfl, ?_⟩) ?_
    rotate_left
    focus (intro w' hSw; (try dsimp only [OldKept] at hSw); obtain ⟨⟨c0, c1, c2, c3⟩, ⟨d0, d1, d2, d3⟩, r0, r1⟩ := HC.out w' hSw; go_simp; (try with_reducible rfl); done)
    simp only [Act.put, List.setIfInBounds_toArray, List.set_cons_zero, List.set_cons_succ]
    refine wpFl_qL (v := ?_) rfl (Or.inl ⟨by rfl, ?_⟩) ?_
    rotate_left
    focus (intro w' hSw; (try dsimp only [OldKept] at hSw); obtain ⟨⟨c0, c1, c2, c3⟩, ⟨d0, d1, d2, d3⟩, r0, r1⟩ := HC.out w' hSw; go_simp; (try with_reducible rfl); done)
    simp only [Act.put, List.setIfInBounds_toArray, List.set_cons_zero, List.set_cons_succ]
    refine wpFl_qL (v := ?_) rfl (Or.inl ⟨by rfl, ?_⟩) ?_
    rotate_left
    focus (intro w' hSw; (try dsimp only [OldKept] at hSw); obtain ⟨⟨c0, c1, c2, c3⟩, ⟨d0, d1, d2, d3⟩, r0, r1⟩ := HC.out w' hSw; go_simp; (try with_reducible rfl); done)
    simp only [Act.put, List.setIfInBounds_toArray, List.set_cons_zero, List.set_cons_succ]
    refine wpFl_qL (v := ?_) rfl (Or.inl ⟨by rfl, ?_⟩) ?_
    rotate_left
    focus (intro w' hSw; (try dsimp only [OldKept] at hSw); obtain ⟨⟨c0, c1, c2, c3⟩, ⟨d0, d1, d2, d3⟩, r0, r1⟩ := HC.out w' hSw; go_simp; (try with_reducible rfl); done)
    simp only [Act.put, List.setIfInBounds_toArray, List.set_cons_zero, List.set_cons_succ]
    refine wpFl_qL (v := ?_) rfl (Or.inl ⟨by rfl, ?_⟩) ?_
    rotate_left
    focus (intro w' hSw; (try dsimp only [OldKept] at hSw); obtain ⟨⟨c0, c1, c2, c3⟩, ⟨d0, d1, d2, d3⟩, r0, r1⟩ := HC.out w' hSw; go_simp; (try with_reducible rfl); done)
    simp only [Act.put, List.setIfInBounds_toArray, List.set_cons_zero, List.set_cons_succ]
    refine wpFl_qL (v := ?_) rfl (Or.inl ⟨by rfl, ?_⟩) ?_
    rotate_left
    focus (intro w' hSw; (try dsimp only [OldKept] at hSw); obtain ⟨⟨c0, c1, c2, c3⟩, ⟨d0, d1, d2, d3⟩, r0, r1⟩ := HC.out w' hSw; go_simp; (try with_reducible rfl); done)
    simp only [Act.put, List.setIfInBounds_toArray, List.set_cons_zero, List.set_cons_succ]
    refine wpFl_qL (v := ?_) rfl (Or.inl ⟨by rfl, ?_⟩) ?_
    rotate_left
    focus (intro w' hSw; (try dsimp only [OldKept] at hSw); obtain ⟨⟨c0, c1, c2, c3⟩, ⟨d0, d1, d2, d3⟩, r0, r1⟩ := HC.out w' hSw; go_simp; (try with_reducible rfl); done)
    simp only [Act.put, List.setIfInBounds_toArray, List.set_cons_zero, List.set_cons_succ]
    refine wpFl_qL (v := ?_) rfl (Or.inl ⟨by rfl, ?_⟩) ?_
    rotate_left
    focus (intro w' hSw; (try dsimp only [OldKept] at hSw); obtain ⟨⟨c0, c1, c2, c3⟩, ⟨d0, d1, d2, d3⟩, r0, r1⟩ := HC.out w' hSw; go_simp; (try with_reducible rfl); done)
    simp only [Act.put, List.setIfInBounds_toArray, List.set_cons_zero, List.set_cons_succ]
    refine wpFl_qL (v := ?_) rfl (Or.inl ⟨by rfl, ?_⟩) ?_
    rotate_left
    focus (intro w' hSw; (try dsimp only [OldKept] at hSw); obtain ⟨⟨c0, c1, c2, c3⟩, ⟨d0, d1, d2, d3⟩, r0, r1⟩ := HC.out w' hSw; go_simp; (try with_reducible rfl); done)
    simp only [Act.put, List.setIfInBounds_toArray, List.set_cons_zero, List.set_cons_succ]
    refine wpFl_qL (v := ?_) rfl (Or.inl ⟨by rfl, ?_⟩) ?_
    rotate_left
    focus (intro w' hSw; (try dsimp only [OldKept] at hSw); obtain ⟨⟨c0, c1, c2, c3⟩, ⟨d0, d1, d2, d3⟩, r0, r1⟩ := HC.out w' hSw; go_simp; (try with_reducible rfl); done)
    simp only [Act.put, List.setIfInBounds_toArray, List.set_cons_zero, List.set_cons_succ]
    refine wpFl_qL (v := ?_) rfl (Or.inl ⟨by rfl, ?_⟩) ?_
    rotate_left
    focus (intro w' hSw; (try dsimp only [OldKept] at hSw); obtain ⟨⟨c0, c1, c2, c3⟩, ⟨d0, d1, d2, d3⟩, r0, r1⟩ := HC.out w' hSw; go_simp; (try with_reducible rfl); done)
    simp only [Act.put, List.setIfInBounds_toArray, List.set_cons_zero, List.set_cons_succ]
    refine wpFl_qL (v := ?_) rfl (Or.inl ⟨by rfl, ?_⟩) ?_
    rotate_left
    focus (intro w' hSw; (try dsimp only [OldKept] at hSw); obtain ⟨⟨c0, c1, c2, c3⟩, ⟨d0, d1, d2, d3⟩, r0, r1⟩ := HC.out w' hSw; go_simp; (try with_reducible rfl); done)
    simp only [Act.put, List.setIfInBounds_toArray, List.set_cons_zero, List.set_cons_succ]
    refine wpFl_qL (v := ?_) rfl (Or.inl ⟨by rfl, ?_⟩) ?_
    rotate_left
    focus (intro w' hSw; (try dsimp only [OldKept] at hSw); obtain ⟨⟨c0, c1, c2, c3⟩, ⟨d0, d1, d2, d3⟩, r0, r1⟩ := HC.out w' hSw; go_simp; (try with_reducible rfl); done)
    simp only [Act.put, List.setIfInBounds_toArray, List.set_cons_zero, List.set_cons_succ]
    refine wpFl_qL (v := ?_) rfl (Or.inl ⟨by rfl, ?_⟩) ?_
    rotate_left
    focus (intro w' hSw; (try dsimp only [OldKept] at hSw); obtain ⟨⟨c0, c1, c2, c3⟩, ⟨d0, d1, d2, d3⟩, r0, r1⟩ := HC.out w' hSw; go_simp; (try with_reducible rfl); done)
    simp only [Act.put, List.setIfInBounds_toArray, List.set_cons_zero, List.set_cons_succ]
    refine wpFl_qL (v := ?_) rfl (Or.inl ⟨by rfl, ?_⟩) ?_
    rotate_left
    focus (intro w' hSw; (try dsimp only [OldKept] at hSw); obtain ⟨⟨c0, c1, c2, c3⟩, ⟨d0, d1, d2, d3⟩, r0, r1⟩ := HC.out w' hSw; go_simp; (try with_reducible rfl); done)
    simp only [Act.put, List.setIfInBounds_toArray, List.set_cons_zero, List.set_cons_succ]
    refine wpFl_qL (v := ?_) rfl (Or.inl ⟨by rfl, ?_⟩) ?_
    rotate_left
    focus (intro w' hSw; (try dsimp only [OldKept] at hSw); obtain ⟨⟨c0, c1, c2, c3⟩, ⟨d0, d1, d2, d3⟩, r0, r1⟩ := HC.out w' hSw; go_simp; (try with_reducible rfl); done)
    simp only [Act.put, List.setIfInBounds_toArray, List.set_cons_zero, List.set_cons_succ]
    refine wpFl_qL (v := ?_) rfl (Or.inl ⟨by rfl, ?_⟩) ?_
    rotate_left
    focus (intro w' hSw; (try dsimp only [OldKept] at hSw); obtain ⟨⟨c0, c1, c2, c3⟩, ⟨d0, d1, d2, d3⟩, r0, r1⟩ := HC.out w' hSw; go_simp; (try with_reducible rfl); done)
    simp only [Act.put, List.setIfInBounds_toArray, List.set_cons_zero, List.set_cons_succ]
    refine wpFl_qL (v := ?_) rfl (Or.inl ⟨by rfl, ?_⟩) ?_
    rotate_left
    focus (intro w' hSw; (try dsimp only [OldKept] at hSw); obtain ⟨⟨c0, c1, c2, c3⟩, ⟨d0, d1, d2, d3⟩, r0, r1⟩ := HC.out w' hSw; go_simp; (try with_reducible rfl); done)
    simp only [Act.put, List.setIfInBounds_toArray, List.set_cons_zero, List.set_cons_succ]
    refine wpFl_bL rfl (fun w13 hn13 hs13 K hK => ?_)
    go_simp
    go_at_call 40
    (with_reducible refine (HG2.out _ hs13).mono ?_)
    rintro e w14 ⟨rfl, hb14⟩
    have HB14 := Lib.hid (below_next hs13 hb14)
    refine hK.out _ _ HB14.out (Keeps.below hb14) ?_
    clear hK K hn13 hs13 hb14
    refine wpFl_qL (v := .bool false) rfl (Or.inl ⟨by rfl, ?_⟩) ?_
    focus (intro w' hSw; cases D <;> go_simp; done)
    simp only [Act.put, List.setIfInBounds_toArray, List.set_cons_zero, List.set_cons_succ]
    refine wpFl_qL (v := ?_) rfl (Or.inl ⟨by rfl, ?_⟩) ?_
    rotate_left
    focus (intro w' hSw; (try dsimp only [OldKept] at hSw); go_simp; (try with_reducible rfl); done)
    simp only [Act.put, List.setIfInBounds_toArray, List.set_cons_zero, List.set_cons_succ]
    refine wpFl_nil ?_
    refine NoPanic.normal ?_
    go_wp2
    go_meet
    case rel => exact ⟨rfl, HB14⟩
  case rest =>
  obtain ⟨ht86, HBc⟩ := hcut
  subst ht86
  have k11 := K10.out.step HBc.out
  have K11 := Lib.hid k11
  clear k11 HG1 HG2 HFG hst HC HBc
  obtain ⟨w11, hw11⟩ : ∃ W, W = wc := ⟨_, rfl⟩
  rw [← hw11] at K11 ⊢
  clear hw11 wc K10
  have HC : Hid (∀ W, Below w11.heap.size w11 W → (W.cell? ⟨ob, 0, none⟩ = some (.int .i64 cn) ∧ W.cell? ⟨ob, 1, none⟩ = some (.int .i64 na) ∧ W.cell? ⟨ob, 2, none⟩ = some (.string o3) ∧ W.cell? ⟨ob, 3, none⟩ = some (.string o4))) := Lib.hid (fun W hW =>
    four_cells ((K11.out.step hW).all 2 _ rfl))
  -- the head that is changed
  obtain ⟨⟨⟨z1, z2, z3, z4⟩, zi⟩, hz⟩ : ∃ z : PartP, z = bentP ⟨⟨cn, na, o3, o4⟩, []⟩ k4 at' 0 := ⟨_, rfl⟩
  obtain ⟨C, hCH⟩ : ∃ C, C = decide (bentP ⟨⟨cn, na, o3, o4⟩, []⟩ k4 at' 0 ≠ ⟨⟨cn, na, o3, o4⟩, []⟩) := ⟨_, rfl⟩
  have hzi : zi = [] := (congrArg PartP.items hz).trans (bentK_nil _ _ _ _)
  subst hzi
  have hz4 : z4 = o4 := (congrArg (fun p : PartP => p.head.sl) hz).trans (bentK_sl _ _ _ _)
  have hz3 : z3.size ≤ 1000 := by
    have h1 := bentK_root ⟨⟨(cn : Int), na, o3, o4⟩, []⟩ (bendK k4 0) at' 0 (by show o3.size ≤ 1000; omega)
    rw [show z3 = (bentK ⟨⟨(cn : Int), na, o3, o4⟩, []⟩ (bendK k4 0) at' 0).head.root from congrArg (fun p : PartP => p.head.root) hz]
    exact h1
  have HBT : Hid (∀ W, Calls Tryz.prog 21 #[.agg #[.int .i64 cn, .int .i64 na, .string o3, .string o4, .slice none 0 0], .int .i64 k4, .int .i64 at', .int .i64 0] W fun e w' => ∃ (a : Option Addr) (n c : Nat), e = .returned (.tuple #[.agg #[.int .i64 z1, .int .i64 z2, .string z3, .string z4, .slice a n c], .bool C]) ∧ Below W.heap.size W w') := Lib.hid (fun W => by
    refine (bent_any ⟨⟨cn, na, o3, o4⟩, []⟩ k4 at' 0 (w := W) (iv := .slice none 0 0) ⟨[], rfl, ISt.nil W⟩ (by constructor <;> omega) HIA.out (by constructor <;> omega) (by simp) (by show o3.size ≤ 1000; omega) (fun x hx => absurd hx List.not_mem_nil)).mono ?_
    rintro e w' ⟨iv', h1, h2, h3⟩
    rw [← hCH, ← hz] at h1
    obtain ⟨a, n, c, rfl⟩ := h2.form
    exact ⟨a, n, c, h1, h3⟩)
  have HCZ : Hid (C = true → genuineB key ⟨z1, z2, z3, z4⟩ = true → collS [markL (contentB ⟨cn, na, o3, o4⟩), markN key (leafS (contentB ⟨cn, na, o3, o4⟩))] [markL (contentB ⟨z1, z2, z3, z4⟩), markN key (leafS (contentB ⟨z1, z2, z3, z4⟩))] = true) := Lib.hid (fun h1 h2 => by
    refine genuine_coll HG.out h2 hz4 (fun e => ?_)
    rw [hCH] at h1
    refine of_decide_eq_true h1 ?_
    rw [← hz, e])
  clear hz hz4 hCH HIA HK4
  have HP4 := Lib.hid (fun W => HB4.out W)
  clear HB4
  go_upto_region 12 with fail
  refine wp_region_noPanic ?_
  refine wp_region_lexB [.an 9, .q 0, .q 1, .q 2, .q 4, .b 3, .b 5, .q 6, .q 7, .q 8, .co 9, .b 10, .q 11] (by kernel_rfl) (by kernel_rfl) (fun _ _ _ _ h => h) ?_
  refine wpFl_anL rfl (.cells #[.int .i64 0, .int .i64 0, .string ⟨#[]⟩, .string ⟨#[]⟩, .slice none 0 0] 38 (0, 0)) (fun n => .pointer (some ⟨n, 0, none⟩)) ⟨by rfl, fun w' => ?_⟩ ?_
  focus (go_simp; done)
  refine wpFl_qL (v := ?_) rfl (Or.inl ⟨by rfl, ?_⟩) ?_
  rotate_left
  focus (intro w' hSw; (try dsimp only [OldKept] at hSw); obtain ⟨c0, c1, c2, c3⟩ := HC.out w' hSw; go_simp; (try with_reducible rfl); done)
  simp only [Act.put, List.setIfInBounds_toArray, List.set_cons_zero, List.set_cons_succ]
  refine wpFl_qL (v := ?_) rfl (Or.inl ⟨by rfl, ?_⟩) ?_
  rotate_left
  focus (intro w' hSw; (try dsimp only [OldKept] at hSw); obtain ⟨c0, c1, c2, c3⟩ := HC.out w' hSw; go_simp; (try with_reducible rfl); done)
  simp only [Act.put, List.setIfInBounds_toArray, List.set_cons_zero, List.set_cons_succ]
  refine wpFl_qL (v := ?_) rfl (Or.inl ⟨by rfl, ?_⟩) ?_
  rotate_left
  focus (intro w' hSw; (try dsimp only [OldKept] at hSw); obtain ⟨c0, c1, c2, c3⟩ := HC.out w' hSw; go_simp; (try with_reducible rfl); done)
  simp only [Act.put, List.setIfInBounds_toArray, List.set_cons_zero, List.set_cons_succ]
  refine wpFl_qL (v := ?_) rfl (Or.inl ⟨by rfl, ?_⟩) ?_
  rotate_left
  focus (intro w' hSw; (try dsimp only [OldKept] at hSw); obtain ⟨c0, c1, c2, c3⟩ := HC.out w' hSw; go_simp; (try with_reducible rfl); done)
  simp only [Act.put, List.setIfInBounds_toArray, List.set_cons_zero, List.set_cons_succ]
  refine wpFl_bL rfl (fun w12 hn12 hs12 K hK => ?_)
  go_simp
  go_at_call 16
  (with_reducible refine (HP4.out _).mono ?_)
  rintro e w' ⟨rfl, hw'⟩
  replace hw' := hw'.symm
  subst hw'
  refine hK.out _ _ hs12 (Keeps.below (Below.refl _ _)) ?_
  clear hK K hn12 hs12
  refine wpFl_bL rfl (fun w13 hn13 hs13 K hK => ?_)
  go_simp
  go_at_call 21
  (with_reducible refine (HBT.out _).mono ?_)
  rintro e w14 ⟨ia, il, ic, rfl, hb14⟩
  refine hK.out _ _ (below_next hs13 hb14) (Keeps.below hb14) ?_
  clear hK K hn13 hs13 hb14
  refine wpFl_qL (v := ?_) rfl (Or.inl ⟨by rfl, ?_⟩) ?_
  rotate_left
  focus (intro w' hSw; (try dsimp only [OldKept] at hSw); go_simp; (try with_reducible rfl); done)
  simp only [Act.put, List.setIfInBounds_toArray, List.set_cons_zero, List.set_cons_succ]
  refine wpFl_qL (v := ?_) rfl (Or.inl ⟨by rfl, ?_⟩) ?_
  rotate_left
  focus (intro w' hSw; (try dsimp only [OldKept] at hSw); go_simp; (try with_reducible rfl); done)
  simp only [Act.put, List.setIfInBounds_toArray, List.set_cons_zero, List.set_cons_succ]
  refine wpFl_qL (v := ?_) rfl (Or.inl ⟨by rfl, ?_⟩) ?_
  rotate_left
  focus (intro w' hSw; (try dsimp only [OldKept] at hSw); go_simp; (try with_reducible rfl); done)
  simp only [Act.put, List.setIfInBounds_toArray, List.set_cons_zero, List.set_cons_succ]
  refine wpFl_coL rfl (.cells #[.int .i64 0, .int .i64 0, .string ⟨#[]⟩, .string ⟨#[]⟩, .slice none 0 0] 38 (0, 0)) (fun n => .pointer (some ⟨n, 0, none⟩)) (by rfl) (N' := []) (by rfl) (fun pb w15 hn_w15 hs_w15 hb_pb hz_pb => ?_)
  simp only [Act.put, List.setIfInBounds_toArray, List.set_cons_zero, List.set_cons_succ]
  refine wpFl_bL rfl (fun w16 hn16 hs16 K hK => ?_)
  have HZ16 := Lib.hid (kept_block hz_pb hn16)
  obtain ⟨z0', z1', z2', z3', z4'⟩ := pfive HZ16.out
  have zf : ∀ j, w16.frozen? ⟨pb, j, none⟩ = false := fun j => by unfold World.frozen?; rw [HZ16.out]; simp
  go_simp
  refine hK.out _ _ (five_below hs16 hb_pb _ _ _ _ _) Keeps.nil ?_
  clear hK K
  have k17 := (K11.out.step (five_below hs16 hb_pb (.int .i64 z1) (.int .i64 z2) (.string z3) (.string z4) (.slice ia il ic))).put (d := .B pb #[.int .i64 z1, .int .i64 z2, .string z3, .string z4, .slice ia il ic] 38) (five_heap HZ16.out _ _ _ _ _)
  generalize (((((w16.setCell ⟨pb, 0, none⟩ (.int .i64 z1)).setCell ⟨pb, 1, none⟩ (.int .i64 z2)).setCell ⟨pb, 2, none⟩ (.string z3)).setCell ⟨pb, 3, none⟩ (.string z4)).setCell ⟨pb, 4, none⟩ (.slice ia il ic)) = w17 at *
  simp only [List.nil_append, List.cons_append] at k17
  have K17 := Lib.hid k17
  clear k17 z0' z1' z2' z3' z4' zf HZ16 hn16 hs16 hb_pb hz_pb hn_w15 hs_w15 HC HBT HP4
  refine wpFl_qL (v := ?_) rfl (Or.inl ⟨by rfl, ?_⟩) ?_
  rotate_left
  focus (intro w' hSw; (try dsimp only [OldKept] at hSw); go_simp; (try with_reducible rfl); done)
  simp only [Act.put, List.setIfInBounds_toArray, List.set_cons_zero, List.set_cons_succ]
  refine wpFl_nil ?_
  refine NoPanic.normal ?_
  have hk32 : key.size = 32 := HK32.out
  have HCn : Hid (∀ W, Calls Tryz.prog 37 #[.agg #[.int .i64 cn, .int .i64 na, .string o3, .string o4]] W fun e w' => e = .returned (.string (contentB ⟨cn, na, o3, o4⟩)) ∧ Below W.heap.size W w') := Lib.hid (fun W => content_any ⟨cn, na, o3, o4⟩ (by simp only; omega) (by simp only; omega) (by simp only; omega) W)
  have HGS : Hid (∀ b, genuineB (keyS (8 + (oc : Int))) ⟨cn, na, o3, o4⟩ = b → b = true → collS [markN key (leafS (contentB ⟨cn, na, o3, o4⟩))] [markN (keyS (8 + (oc : Int))) (leafS (contentB ⟨cn, na, o3, o4⟩))] = true) := Lib.hid (fun b h1 h2 => strange_law HG.out (h1.trans h2) HKN.out)
  have hC1 : (contentB ⟨cn, na, o3, o4⟩).size ≤ 2000 := by rw [content_size]; simp only; omega
  obtain ⟨C1, hC1e⟩ : ∃ C1, C1 = contentB ⟨cn, na, o3, o4⟩ := ⟨_, rfl⟩
  rw [← hC1e] at HCn HGS HCZ hC1
  clear hC1e
  have HLf := Lib.hid (fun W => r2leaf_any C1 W (by omega))
  have hL1 : (leafS C1).size = 32 := leafS_size _
  generalize leafS C1 = L1 at *
  have HC : Hid (∀ W, Below w17.heap.size w17 W → (W.cell? ⟨ob, 0, none⟩ = some (.int .i64 cn) ∧ W.cell? ⟨ob, 1, none⟩ = some (.int .i64 na) ∧ W.cell? ⟨ob, 2, none⟩ = some (.string o3) ∧ W.cell? ⟨ob, 3, none⟩ = some (.string o4)) ∧ (W.cell? ⟨pb, 0, none⟩ = some (.int .i64 z1) ∧ W.cell? ⟨pb, 1, none⟩ = some (.int .i64 z2) ∧ W.cell? ⟨pb, 2, none⟩ = some (.string z3) ∧ W.cell? ⟨pb, 3, none⟩ = some (.string z4) ∧ W.cell? ⟨pb, 4, none⟩ = some (.slice ia il ic))) := Lib.hid (fun W hW =>
    ⟨four_cells ((K17.out.step hW).all 2 _ rfl), pfive ((K17.out.step hW).all 4 _ rfl)⟩)
  obtain ⟨⟨c0, c1, c2, c3⟩, _⟩ := HC.out w17 (Below.refl _ _)
  go_upto_region 14 with (first | (go_at_call 37; (with_reducible refine (HCn.out _).mono ?_); rintro e w18 ⟨rfl, hb18⟩; have HB18 := Lib.hid hb18; clear hb18) | (go_at_call 38; (with_reducible refine (HLf.out _).mono ?_); rintro e w19 ⟨rfl, hb19⟩; have HB19 := Lib.hid (below_next HB18.out hb19); clear hb19))
  clear c0 c1 c2 c3
  obtain ⟨G, hG⟩ : ∃ G, G = genuineB key ⟨z1, z2, z3, z4⟩ := ⟨_, rfl⟩
  have HG1 := Lib.hid (fun W (hW : Below w17.heap.size w17 W) => genuine_w K17.out key ⟨z1, z2, z3, z4⟩ (by omega) (by show z3.size ≤ 1000; omega) G hG.symm W hW)
  have HGE := Lib.hid hG
  clear hG
  go_cut [129] (fun t wx => t = .bool false ∧ Hid (Below w17.heap.size w17 wx))
  case first =>
    cases C with
    | false =>
      refine wp_region_noPanic ?_
      refine wp_region_lexB [.q 0, .q 1, .q 2, .q 3, .q 4, .q 5, .q 6, .q 7, .q 8, .q 9, .q 10, .q 11, .q 12, .q 13, .q 14, .q 15, .q 16, .q 17, .q 18, .q 19, .q 20, .q 21, .q 22, .q 23, .q 24, .q 25, .q 26, .q 27, .q 28, .q 29, .q 30] (by kernel_rfl) (by kernel_rfl) (fun _ _ _ _ h => h) ?_
      refine wpFl_qL (v := ?_) rfl (Or.inl ⟨by rfl, ?_⟩) ?_
      rotate_left
      focus (intro w' hSw; (try dsimp only [OldKept] at hSw); go_simp; (try with_reducible rfl); done)
      simp only [Act.put, List.setIfInBounds_toArray, List.set_cons_zero, List.set_cons_succ]
      refine wpFl_qL (v := ?_) rfl (Or.inl ⟨by rfl, ?_⟩) ?_
      rotate_left
      focus (intro w' hSw; (try dsimp only [OldKept] at hSw); go_simp; (try with_reducible rfl); done)
      simp only [Act.put, List.setIfInBounds_toArray, List.set_cons_zero, List.set_cons_succ]
      refine wpFl_qL (v := undef) rfl (Or.inr ⟨by rfl, rfl⟩) ?_
      simp only [Act.put, List.setIfInBounds_toArray, List.set_cons_zero, List.set_cons_succ]
      refine wpFl_qL (v := undef) rfl (Or.inr ⟨by rfl, rfl⟩) ?_
      simp only [Act.put, List.setIfInBounds_toArray, List.set_cons_zero, List.set_cons_succ]
      refine wpFl_qL (v := undef) rfl (Or.inr ⟨by rfl, rfl⟩) ?_
      simp only [Act.put, List.setIfInBounds_toArray, List.set_cons_zero, List.set_cons_succ]
      refine wpFl_qL (v := undef) rfl (Or.inr ⟨by rfl, rfl⟩) ?_
      simp only [Act.put, List.setIfInBounds_toArray, List.set_cons_zero, List.set_cons_succ]
      refine wpFl_qL (v := ?_) rfl (Or.inl ⟨by rfl, ?_⟩) ?_
      rotate_left
      focus (intro w' hSw; (try dsimp only [OldKept] at hSw); go_simp; (try with_reducible rfl); done)
      simp only [Act.put, List.setIfInBounds_toArray, List.set_cons_zero, List.set_cons_succ]
      refine wpFl_qL (v := ?_) rfl (Or.inl ⟨by rfl, ?_⟩) ?_
      rotate_left
      focus (intro w' hSw; (try dsimp only [OldKept] at hSw); go_simp; (try with_reducible rfl); done)
      simp only [Act.put, List.setIfInBounds_toArray, List.set_cons_zero, List.set_cons_succ]
      refine wpFl_qL (v := undef) rfl (Or.inr ⟨by rfl, rfl⟩) ?_
      simp only [Act.put, List.setIfInBounds_toArray, List.set_cons_zero, List.set_cons_succ]
      refine wpFl_qL (v := undef) rfl (Or.inr ⟨by rfl, rfl⟩) ?_
      simp only [Act.put, List.setIfInBounds_toArray, List.set_cons_zero, List.set_cons_succ]
      refine wpFl_qL (v := undef) rfl (Or.inr ⟨by rfl, rfl⟩) ?_
      simp only [Act.put, List.setIfInBounds_toArray, List.set_cons_zero, List.set_cons_succ]
      refine wpFl_qL (v := undef) rfl (Or.inr ⟨by rfl, rfl⟩) ?_
      simp only [Act.put, List.setIfInBounds_toArray, List.set_cons_zero, List.set_cons_succ]
      refine wpFl_qL (v := undef) rfl (Or.inr ⟨by rfl, rfl⟩) ?_
      simp only [Act.put, List.setIfInBounds_toArray, List.set_cons_zero, List.set_cons_succ]
      refine wpFl_qL (v := undef) rfl (Or.inr ⟨by rfl, rfl⟩) ?_
      simp only [Act.put, List.setIfInBounds_toArray, List.set_cons_zero, List.set_cons_succ]
      refine wpFl_qL (v := undef) rfl (Or.inr ⟨by rfl, rfl⟩) ?_
      simp only [Act.put, List.setIfInBounds_toArray, List.set_cons_zero, List.set_cons_succ]
      refine wpFl_qL (v := undef) rfl (Or.inr ⟨by rfl, rfl⟩) ?_
      simp only [Act.put, List.setIfInBounds_toArray, List.set_cons_zero, List.set_cons_succ]
      refine wpFl_qL (v := undef) rfl (Or.inr ⟨by rfl, rfl⟩) ?_
      simp only [Act.put, List.setIfInBounds_toArray, List.set_cons_zero, List.set_cons_succ]
      refine wpFl_qL (v := undef) rfl (Or.inr ⟨by rfl, rfl⟩) ?_
      simp only [Act.put, List.setIfInBounds_toArray, List.set_cons_zero, List.set_cons_succ]
      refine wpFl_qL (v := undef) rfl (Or.inr ⟨by rfl, rfl⟩) ?_
      simp only [Act.put, List.setIfInBounds_toArray, List.set_cons_zero, List.set_cons_succ]
      refine wpFl_qL (v := undef) rfl (Or.inr ⟨by rfl, rfl⟩) ?_
      simp only [Act.put, List.setIfInBounds_toArray, List.set_cons_zero, List.set_cons_succ]
      refine wpFl_qL (v := undef) rfl (Or.inr ⟨by rfl, rfl⟩) ?_
      simp only [Act.put, List.setIfInBounds_toArray, List.set_cons_zero, List.set_cons_succ]
      refine wpFl_qL (v := undef) rfl (Or.inr ⟨by rfl, rfl⟩) ?_
      simp only [Act.put, List.setIfInBounds_toArray, List.set_cons_zero, List.set_cons_succ]
      refine wpFl_qL (v := undef) rfl (Or.inr ⟨by rfl, rfl⟩) ?_
      simp only [Act.put, List.setIfInBounds_toArray, List.set_cons_zero, List.set_cons_succ]
      refine wpFl_qL (v := undef) rfl (Or.inr ⟨by rfl, rfl⟩) ?_
      simp only [Act.put, List.setIfInBounds_toArray, List.set_cons_zero, List.set_cons_succ]
      refine wpFl_qL (v := undef) rfl (Or.inr ⟨by rfl, rfl⟩) ?_
      simp only [Act.put, List.setIfInBounds_toArray, List.set_cons_zero, List.set_cons_succ]
      refine wpFl_qL (v := undef) rfl (Or.inr ⟨by rfl, rfl⟩) ?_
      simp only [Act.put, List.setIfInBounds_toArray, List.set_cons_zero, List.set_cons_succ]
      refine wpFl_qL (v := undef) rfl (Or.inr ⟨by rfl, rfl⟩) ?_
      simp only [Act.put, List.setIfInBounds_toArray, List.set_cons_zero, List.set_cons_succ]
      refine wpFl_qL (v := undef) rfl (Or.inr ⟨by rfl, rfl⟩) ?_
      simp only [Act.put, List.setIfInBounds_toArray, List.set_cons_zero, List.set_cons_succ]
      refine wpFl_qL (v := undef) rfl (Or.inr ⟨by rfl, rfl⟩) ?_
      simp only [Act.put, List.setIfInBounds_toArray, List.set_cons_zero, List.set_cons_succ]
      refine wpFl_qL (v := undef) rfl (Or.inr ⟨by rfl, rfl⟩) ?_
      simp only [Act.put, List.setIfInBounds_toArray, List.set_cons_zero, List.set_cons_succ]
      refine wpFl_qL (v := ?_) rfl (Or.inl ⟨by rfl, ?_⟩) ?_
      rotate_left
      focus (intro w' hSw; (try dsimp only [OldKept] at hSw); go_simp; (try with_reducible rfl); done)
      simp only [Act.put, List.setIfInBounds_toArray, List.set_cons_zero, List.set_cons_succ]
      refine wpFl_nil ?_
      refine NoPanic.normal ?_
      go_wp2
      go_meet
      case rel => exact ⟨rfl, Lib.hid (below_next HB19.out (Below.drew (Below.refl _ _)))⟩
    | true =>
      cases G with
      | false =>
        refine wp_region_noPanic ?_
        refine wp_region_lexB [.q 0, .q 1, .q 2, .q 3, .q 4, .b 5, .q 6, .q 7, .q 8, .q 9, .q 10, .q 11, .q 12, .q 13, .q 14, .q 15, .q 16, .q 17, .q 18, .q 19, .q 20, .q 21, .q 22, .q 23, .q 24, .q 25, .q 26, .q 27, .q 28, .q 29, .q 30] (by kernel_rfl) (by kernel_rfl) (fun _ _ _ _ h => h) ?_
        refine wpFl_qL (v := ?_) rfl (Or.inl ⟨by rfl, ?_⟩) ?_
        rotate_left
        focus (intro w' hSw; (try dsimp only [OldKept] at hSw); obtain ⟨⟨c0, c1, c2, c3⟩, d0, d1, d2, d3, d4⟩ := HC.out w' (below_next HB19.out hSw); go_simp; (try with_reducible rfl); done)
        simp only [Act.put, List.setIfInBounds_toArray, List.set_cons_zero, List.set_cons_succ]
        refine wpFl_qL (v := ?_) rfl (Or.inl ⟨by rfl, ?_⟩) ?_
        rotate_left
        focus (intro w' hSw; (try dsimp only [OldKept] at hSw); obtain ⟨⟨c0, c1, c2, c3⟩, d0, d1, d2, d3, d4⟩ := HC.out w' (below_next HB19.out hSw); go_simp; (try with_reducible rfl); done)
        simp only [Act.put, List.setIfInBounds_toArray, List.set_cons_zero, List.set_cons_succ]
        refine wpFl_qL (v := ?_) rfl (Or.inl ⟨by rfl, ?_⟩) ?_
        rotate_left
        focus (intro w' hSw; (try dsimp only [OldKept] at hSw); obtain ⟨⟨c0, c1, c2, c3⟩, d0, d1, d2, d3, d4⟩ := HC.out w' (below_next HB19.out hSw); go_simp; (try with_reducible rfl); done)
        simp only [Act.put, List.setIfInBounds_toArray, List.set_cons_zero, List.set_cons_succ]
        refine wpFl_qL (v := ?_) rfl (Or.inl ⟨by rfl, ?_⟩) ?_
        rotate_left
        focus (intro w' hSw; (try dsimp only [OldKept] at hSw); obtain ⟨⟨c0, c1, c2, c3⟩, d0, d1, d2, d3, d4⟩ := HC.out w' (below_next HB19.out hSw); go_simp; (try with_reducible rfl); done)
        simp only [Act.put, List.setIfInBounds_toArray, List.set_cons_zero, List.set_cons_succ]
        refine wpFl_qL (v := ?_) rfl (Or.inl ⟨by rfl, ?_⟩) ?_
        rotate_left
        focus (intro w' hSw; (try dsimp only [OldKept] at hSw); obtain ⟨⟨c0, c1, c2, c3⟩, d0, d1, d2, d3, d4⟩ := HC.out w' (below_next HB19.out hSw); go_simp; (try with_reducible rfl); done)
        simp only [Act.put, List.setIfInBounds_toArray, List.set_cons_zero, List.set_cons_succ]
        refine wpFl_bL rfl (fun w20 hn20 hs20 K hK => ?_)
        go_simp
        go_at_call 40
        (with_reducible refine (HG1.out _ (below_next HB19.out hs20)).mono ?_)
        rintro e w21 ⟨rfl, hb21⟩
        have HB21 := Lib.hid (below_next HB19.out (below_next hs20 hb21))
        refine hK.out _ _ (below_next hs20 hb21) (Keeps.below hb21) ?_
        clear hK K hn20 hs20 hb21
        refine wpFl_qL (v := ?_) rfl (Or.inl ⟨by rfl, ?_⟩) ?_
        rotate_left
        focus (intro w' hSw; (try dsimp only [OldKept] at hSw); go_simp; (try with_reducible rfl); done)
        simp only [Act.put, List.setIfInBounds_toArray, List.set_cons_zero, List.set_cons_succ]
        refine wpFl_qL (v := ?_) rfl (Or.inl ⟨by rfl, ?_⟩) ?_
        rotate_left
        focus (intro w' hSw; (try dsimp only [OldKept] at hSw); go_simp; (try with_reducible rfl); done)
        simp only [Act.put, List.setIfInBounds_toArray, List.set_cons_zero, List.set_cons_succ]
        refine wpFl_qL (v := undef) rfl (Or.inr ⟨by rfl, rfl⟩) ?_
        simp only [Act.put, List.setIfInBounds_toArray, List.set_cons_zero, List.set_cons_succ]
        refine wpFl_qL (v := undef) rfl (Or.inr ⟨by rfl, rfl⟩) ?_
        simp only [Act.put, List.setIfInBounds_toArray, List.set_cons_zero, List.set_cons_succ]
        refine wpFl_qL (v := undef) rfl (Or.inr ⟨by rfl, rfl⟩) ?_
        simp only [Act.put, List.setIfInBounds_toArray, List.set_cons_zero, List.set_cons_succ]
        refine wpFl_qL (v := undef) rfl (Or.inr ⟨by rfl, rfl⟩) ?_
        simp only [Act.put, List.setIfInBounds_toArray, List.set_cons_zero, List.set_cons_succ]
        refine wpFl_qL (v := undef) rfl (Or.inr ⟨by rfl, rfl⟩) ?_
        simp only [Act.put, List.setIfInBounds_toArray, List.set_cons_zero, List.set_cons_succ]
        refine wpFl_qL (v := undef) rfl (Or.inr ⟨by rfl, rfl⟩) ?_
        simp only [Act.put, List.setIfInBounds_toArray, List.set_cons_zero, List.set_cons_succ]
        refine wpFl_qL (v := undef) rfl (Or.inr ⟨by rfl, rfl⟩) ?_
        simp only [Act.put, List.setIfInBounds_toArray, List.set_cons_zero, List.set_cons_succ]
        refine wpFl_qL (v := undef) rfl (Or.inr ⟨by rfl, rfl⟩) ?_
        simp only [Act.put, List.setIfInBounds_toArray, List.set_cons_zero, List.set_cons_succ]
        refine wpFl_qL (v := undef) rfl (Or.inr ⟨by rfl, rfl⟩) ?_
        simp only [Act.put, List.setIfInBounds_toArray, List.set_cons_zero, List.set_cons_succ]
        refine wpFl_qL (v := undef) rfl (Or.inr ⟨by rfl, rfl⟩) ?_
        simp only [Act.put, List.setIfInBounds_toArray, List.set_cons_zero, List.set_cons_succ]
        refine wpFl_qL (v := undef) rfl (Or.inr ⟨by rfl, rfl⟩) ?_
        simp only [Act.put, List.setIfInBounds_toArray, List.set_cons_zero, List.set_cons_succ]
        refine wpFl_qL (v := undef) rfl (Or.inr ⟨by rfl, rfl⟩) ?_
        simp only [Act.put, List.setIfInBounds_toArray, List.set_cons_zero, List.set_cons_succ]
        refine wpFl_qL (v := undef) rfl (Or.inr ⟨by rfl, rfl⟩) ?_
        simp only [Act.put, List.setIfInBounds_toArray, List.set_cons_zero, List.set_cons_succ]
        refine wpFl_qL (v := undef) rfl (Or.inr ⟨by rfl, rfl⟩) ?_
        simp only [Act.put, List.setIfInBounds_toArray, List.set_cons_zero, List.set_cons_succ]
        refine wpFl_qL (v := undef) rfl (Or.inr ⟨by rfl, rfl⟩) ?_
        simp only [Act.put, List.setIfInBounds_toArray, List.set_cons_zero, List.set_cons_succ]
        refine wpFl_qL (v := undef) rfl (Or.inr ⟨by rfl, rfl⟩) ?_
        simp only [Act.put, List.setIfInBounds_toArray, List.set_cons_zero, List.set_cons_succ]
        refine wpFl_qL (v := undef) rfl (Or.inr ⟨by rfl, rfl⟩) ?_
        simp only [Act.put, List.setIfInBounds_toArray, List.set_cons_zero, List.set_cons_succ]
        refine wpFl_qL (v := undef) rfl (Or.inr ⟨by rfl, rfl⟩) ?_
        simp only [Act.put, List.setIfInBounds_toArray, List.set_cons_zero, List.set_cons_succ]
        refine wpFl_qL (v := undef) rfl (Or.inr ⟨by rfl, rfl⟩) ?_
        simp only [Act.put, List.setIfInBounds_toArray, List.set_cons_zero, List.set_cons_succ]
        refine wpFl_qL (v := undef) rfl (Or.inr ⟨by rfl, rfl⟩) ?_
        simp only [Act.put, List.setIfInBounds_toArray, List.set_cons_zero, List.set_cons_succ]
        refine wpFl_qL (v := undef) rfl (Or.inr ⟨by rfl, rfl⟩) ?_
        simp only [Act.put, List.setIfInBounds_toArray, List.set_cons_zero, List.set_cons_succ]
        refine wpFl_qL (v := undef) rfl (Or.inr ⟨by rfl, rfl⟩) ?_
        simp only [Act.put, List.setIfInBounds_toArray, List.set_cons_zero, List.set_cons_succ]
        refine wpFl_qL (v := ?_) rfl (Or.inl ⟨by rfl, ?_⟩) ?_
        rotate_left
        focus (intro w' hSw; (try dsimp only [OldKept] at hSw); go_simp; (try with_reducible rfl); done)
        simp only [Act.put, List.setIfInBounds_toArray, List.set_cons_zero, List.set_cons_succ]
        refine wpFl_nil ?_
        refine NoPanic.normal ?_
        go_wp2
        go_meet
        case rel => exact ⟨rfl, HB21⟩
      | true =>
        have HCO := Lib.hid (HCZ.out rfl HGE.out.symm)
        obtain ⟨g1, g2, g3, g4, g5⟩ := of_decide_eq_true (show decide _ = true from HGE.out.symm)
        have HCz : Hid (∀ W, Calls Tryz.prog 37 #[.agg #[.int .i64 z1, .int .i64 z2, .string z3, .string z4]] W fun e w' => e = .returned (.string (contentB ⟨z1, z2, z3, z4⟩)) ∧ Below W.heap.size W w') := Lib.hid (fun W => content_any ⟨z1, z2, z3, z4⟩ g2 g3 hz3 W)
        have hC2 : (contentB ⟨z1, z2, z3, z4⟩).size ≤ 2000 := by rw [content_size]; simp only; omega
        clear g1 g2 g3 g4 g5 HGE
        generalize contentB ⟨z1, z2, z3, z4⟩ = C2 at *
        have HLz := Lib.hid (fun W => r2leaf_any C2 W (by omega))
        have hL2 : (leafS C2).size = 32 := leafS_size _
        generalize leafS C2 = L2 at *
        have s1 : (((⟨#[1]⟩ : ByteArray) ++ key)).size = key.size + 1 := mark_size 1 key
        have s2 : (((⟨#[1]⟩ : ByteArray) ++ key) ++ L1).size = key.size + 1 + L1.size := by rw [ByteArray.size_append, s1]
        have s3 : (((⟨#[1]⟩ : ByteArray) ++ key) ++ L2).size = key.size + 1 + L2.size := by rw [ByteArray.size_append, s1]
        have s4 : ((⟨#[0]⟩ : ByteArray) ++ C1).size = C1.size + 1 := mark_size 0 C1
        have s5 : ((⟨#[0]⟩ : ByteArray) ++ C2).size = C2.size + 1 := mark_size 0 C2
        have s6 : ¬ 9223372036854775807 < 1 + C1.size := by omega
        have s7 : ¬ 9223372036854775807 < 1 + C2.size := by omega
        refine wp_region_noPanic ?_
        refine wp_region_lexB [.q 0, .q 1, .q 2, .q 3, .q 4, .b 5, .q 6, .q 7, .q 8, .q 11, .q 12, .q 13, .q 14, .q 16, .q 17, .q 20, .q 21, .q 22, .q 23, .b 9, .q 10, .an 15, .b 18, .q 19, .b 24, .b 25, .q 26, .an 27, .co 15, .co 27, .b 28, .q 29, .q 30] (by kernel_rfl) (by kernel_rfl) (fun _ _ _ _ h => h) ?_
        refine wpFl_qL (v := ?_) rfl (Or.inl ⟨by rfl, ?_⟩) ?_
        rotate_left
        focus (intro w' hSw; (try dsimp only [OldKept] at hSw); obtain ⟨⟨c0, c1, c2, c3⟩, d0, d1, d2, d3, d4⟩ := HC.out w' (below_next HB19.out hSw); go_simp; (try with_reducible rfl); done)
        simp only [Act.put, List.setIfInBounds_toArray, List.set_cons_zero, List.set_cons_succ]
        refine wpFl_qL (v := ?_) rfl (Or.inl ⟨by rfl, ?_⟩) ?_
        rotate_left
        focus (intro w' hSw; (try dsimp only [OldKept] at hSw); obtain ⟨⟨c0, c1, c2, c3⟩, d0, d1, d2, d3, d4⟩ := HC.out w' (below_next HB19.out hSw); go_simp; (try with_reducible rfl); done)
        simp only [Act.put, List.setIfInBounds_toArray, List.set_cons_zero, List.set_cons_succ]
        refine wpFl_qL (v := ?_) rfl (Or.inl ⟨by rfl, ?_⟩) ?_
        rotate_left
        focus (intro w' hSw; (try dsimp only [OldKept] at hSw); obtain ⟨⟨c0, c1, c2, c3⟩, d0, d1, d2, d3, d4⟩ := HC.out w' (below_next HB19.out hSw); go_simp; (try with_reducible rfl); done)
        simp only [Act.put, List.setIfInBounds_toArray, List.set_cons_zero, List.set_cons_succ]
        refine wpFl_qL (v := ?_) rfl (Or.inl ⟨by rfl, ?_⟩) ?_
        rotate_left
        focus (intro w' hSw; (try dsimp only [OldKept] at hSw); obtain ⟨⟨c0, c1, c2, c3⟩, d0, d1, d2, d3, d4⟩ := HC.out w' (below_next HB19.out hSw); go_simp; (try with_reducible rfl); done)
        simp only [Act.put, List.setIfInBounds_toArray, List.set_cons_zero, List.set_cons_succ]
        refine wpFl_qL (v := ?_) rfl (Or.inl ⟨by rfl, ?_⟩) ?_
        rotate_left
        focus (intro w' hSw; (try dsimp only [OldKept] at hSw); obtain ⟨⟨c0, c1, c2, c3⟩, d0, d1, d2, d3, d4⟩ := HC.out w' (below_next HB19.out hSw); go_simp; (try with_reducible rfl); done)
        simp only [Act.put, List.setIfInBounds_toArray, List.set_cons_zero, List.set_cons_succ]
        refine wpFl_bL rfl (fun w20 hn20 hs20 K hK => ?_)
        go_simp
        go_at_call 40
        (with_reducible refine (HG1.out _ (below_next HB19.out hs20)).mono ?_)
        rintro e w21 ⟨rfl, hb21⟩
        refine hK.out _ _ (below_next hs20 hb21) (Keeps.below hb21) ?_
        clear hK K hn20 hs20 hb21
        refine wpFl_qL (v := ?_) rfl (Or.inl ⟨by rfl, ?_⟩) ?_
        rotate_left
        focus (intro w' hSw; (try dsimp only [OldKept] at hSw); obtain ⟨⟨c0, c1, c2, c3⟩, d0, d1, d2, d3, d4⟩ := HC.out w' (below_next HB19.out hSw); go_simp; (try with_reducible rfl); done)
        simp only [Act.put, List.setIfInBounds_toArray, List.set_cons_zero, List.set_cons_succ]
        refine wpFl_qL (v := ?_) rfl (Or.inl ⟨by rfl, ?_⟩) ?_
        rotate_left
        focus (intro w' hSw; (try dsimp only [OldKept] at hSw); obtain ⟨⟨c0, c1, c2, c3⟩, d0, d1, d2, d3, d4⟩ := HC.out w' (below_next HB19.out hSw); go_simp; (try with_reducible rfl); done)
        simp only [Act.put, List.setIfInBounds_toArray, List.set_cons_zero, List.set_cons_succ]
        refine wpFl_qL (v := ?_) rfl (Or.inl ⟨by rfl, ?_⟩) ?_
        rotate_left
        focus (intro w' hSw; (try dsimp only [OldKept] at hSw); obtain ⟨⟨c0, c1, c2, c3⟩, d0, d1, d2, d3, d4⟩ := HC.out w' (below_next HB19.out hSw); go_simp; (try with_reducible rfl); done)
        simp only [Act.put, List.setIfInBounds_toArray, List.set_cons_zero, List.set_cons_succ]
        refine wpFl_qL (v := ?_) rfl (Or.inl ⟨by rfl, ?_⟩) ?_
        rotate_left
        focus (intro w' hSw; (try dsimp only [OldKept] at hSw); obtain ⟨⟨c0, c1, c2, c3⟩, d0, d1, d2, d3, d4⟩ := HC.out w' (below_next HB19.out hSw); go_simp; (try with_reducible rfl); done)
        simp only [Act.put, List.setIfInBounds_toArray, List.set_cons_zero, List.set_cons_succ]
        refine wpFl_qL (v := ?_) rfl (Or.inl ⟨by rfl, ?_⟩) ?_
        rotate_left
        focus (intro w' hSw; (try dsimp only [OldKept] at hSw); obtain ⟨⟨c0, c1, c2, c3⟩, d0, d1, d2, d3, d4⟩ := HC.out w' (below_next HB19.out hSw); go_simp; (try with_reducible rfl); done)
        simp only [Act.put, List.setIfInBounds_toArray, List.set_cons_zero, List.set_cons_succ]
        refine wpFl_qL (v := ?_) rfl (Or.inl ⟨by rfl, ?_⟩) ?_
        rotate_left
        focus (intro w' hSw; (try dsimp only [OldKept] at hSw); obtain ⟨⟨c0, c1, c2, c3⟩, d0, d1, d2, d3, d4⟩ := HC.out w' (below_next HB19.out hSw); go_simp; (try with_reducible rfl); done)
        simp only [Act.put, List.setIfInBounds_toArray, List.set_cons_zero, List.set_cons_succ]
        refine wpFl_qL (v := ?_) rfl (Or.inl ⟨by rfl, ?_⟩) ?_
        rotate_left
        focus (intro w' hSw; (try dsimp only [OldKept] at hSw); obtain ⟨⟨c0, c1, c2, c3⟩, d0, d1, d2, d3, d4⟩ := HC.out w' (below_next HB19.out hSw); go_simp; (try with_reducible rfl); done)
        simp only [Act.put, List.setIfInBounds_toArray, List.set_cons_zero, List.set_cons_succ]
        refine wpFl_qL (v := ?_) rfl (Or.inl ⟨by rfl, ?_⟩) ?_
        rotate_left
        focus (intro w' hSw; (try dsimp only [OldKept] at hSw); obtain ⟨⟨c0, c1, c2, c3⟩, d0, d1, d2, d3, d4⟩ := HC.out w' (below_next HB19.out hSw); go_simp; (try with_reducible rfl); done)
        simp only [Act.put, List.setIfInBounds_toArray, List.set_cons_zero, List.set_cons_succ]
        refine wpFl_qL (v := ?_) rfl (Or.inl ⟨by rfl, ?_⟩) ?_
        rotate_left
        focus (intro w' hSw; (try dsimp only [OldKept] at hSw); obtain ⟨⟨c0, c1, c2, c3⟩, d0, d1, d2, d3, d4⟩ := HC.out w' (below_next HB19.out hSw); go_simp; (try with_reducible rfl); done)
        simp only [Act.put, List.setIfInBounds_toArray, List.set_cons_zero, List.set_cons_succ]
        refine wpFl_qL (v := ?_) rfl (Or.inl ⟨by rfl, ?_⟩) ?_
        rotate_left
        focus (intro w' hSw; (try dsimp only [OldKept] at hSw); obtain ⟨⟨c0, c1, c2, c3⟩, d0, d1, d2, d3, d4⟩ := HC.out w' (below_next HB19.out hSw); go_simp; (try with_reducible rfl); done)
        simp only [Act.put, List.setIfInBounds_toArray, List.set_cons_zero, List.set_cons_succ]
        refine wpFl_qL (v := ?_) rfl (Or.inl ⟨by rfl, ?_⟩) ?_
        rotate_left
        focus (intro w' hSw; (try dsimp only [OldKept] at hSw); obtain ⟨⟨c0, c1, c2, c3⟩, d0, d1, d2, d3, d4⟩ := HC.out w' (below_next HB19.out hSw); go_simp; (try with_reducible rfl); done)
        simp only [Act.put, List.setIfInBounds_toArray, List.set_cons_zero, List.set_cons_succ]
        refine wpFl_qL (v := ?_) rfl (Or.inl ⟨by rfl, ?_⟩) ?_
        rotate_left
        focus (intro w' hSw; (try dsimp only [OldKept] at hSw); obtain ⟨⟨c0, c1, c2, c3⟩, d0, d1, d2, d3, d4⟩ := HC.out w' (below_next HB19.out hSw); go_simp; (try with_reducible rfl); done)
        simp only [Act.put, List.setIfInBounds_toArray, List.set_cons_zero, List.set_cons_succ]
        refine wpFl_qL (v := ?_) rfl (Or.inl ⟨by rfl, ?_⟩) ?_
        rotate_left
        focus (intro w' hSw; (try dsimp only [OldKept] at hSw); obtain ⟨⟨c0, c1, c2, c3⟩, d0, d1, d2, d3, d4⟩ := HC.out w' (below_next HB19.out hSw); go_simp; (try with_reducible rfl); done)
        simp only [Act.put, List.setIfInBounds_toArray, List.set_cons_zero, List.set_cons_succ]
        refine wpFl_bL rfl (fun w22 hn22 hs22 K hK => ?_)
        go_simp
        go_at_call 37
        (with_reducible refine (HCn.out _).mono ?_)
        rintro e w23 ⟨rfl, hb23⟩
        refine hK.out _ _ (below_next hs22 hb23) (Keeps.below hb23) ?_
        clear hK K hn22 hs22 hb23
        refine wpFl_qL (v := ?_) rfl (Or.inl ⟨by rfl, ?_⟩) ?_
        rotate_left
        focus (intro w' hSw; (try dsimp only [OldKept] at hSw); go_simp; (try with_reducible rfl); done)
        simp only [Act.put, List.setIfInBounds_toArray, List.set_cons_zero, List.set_cons_succ]
        refine wpFl_anL rfl (.cells #[.string ((⟨#[0]⟩ : ByteArray) ++ C1), .string (((⟨#[1]⟩ : ByteArray) ++ key) ++ L1)] 9 (0, 0)) (fun n => .slice (some ⟨n, 0, none⟩) 2 2) ⟨by rfl, fun w' => ?_⟩ ?_
        focus (go_simp; done)
        refine wpFl_bL rfl (fun w24 hn24 hs24 K hK => ?_)
        go_simp
        go_at_call 37
        (with_reducible refine (HCz.out _).mono ?_)
        rintro e w25 ⟨rfl, hb25⟩
        refine hK.out _ _ (below_next hs24 hb25) (Keeps.below hb25) ?_
        clear hK K hn24 hs24 hb25
        refine wpFl_qL (v := ?_) rfl (Or.inl ⟨by rfl, ?_⟩) ?_
        rotate_left
        focus (intro w' hSw; (try dsimp only [OldKept] at hSw); go_simp; (try with_reducible rfl); done)
        simp only [Act.put, List.setIfInBounds_toArray, List.set_cons_zero, List.set_cons_succ]
        refine wpFl_bL rfl (fun w26 hn26 hs26 K hK => ?_)
        go_simp
        go_at_call 37
        (with_reducible refine (HCz.out _).mono ?_)
        rintro e w27 ⟨rfl, hb27⟩
        refine hK.out _ _ (below_next hs26 hb27) (Keeps.below hb27) ?_
        clear hK K hn26 hs26 hb27
        refine wpFl_bL rfl (fun w28 hn28 hs28 K hK => ?_)
        go_simp
        go_at_call 38
        (with_reducible refine (HLz.out _).mono ?_)
        rintro e w29 ⟨rfl, hb29⟩
        refine hK.out _ _ (below_next hs28 hb29) (Keeps.below hb29) ?_
        clear hK K hn28 hs28 hb29
        refine wpFl_qL (v := ?_) rfl (Or.inl ⟨by rfl, ?_⟩) ?_
        rotate_left
        focus (intro w' hSw; (try dsimp only [OldKept] at hSw); go_simp; (try with_reducible rfl); done)
        simp only [Act.put, List.setIfInBounds_toArray, List.set_cons_zero, List.set_cons_succ]
        refine wpFl_anL rfl (.cells #[.string ((⟨#[0]⟩ : ByteArray) ++ C2), .string (((⟨#[1]⟩ : ByteArray) ++ key) ++ L2)] 9 (0, 0)) (fun n => .slice (some ⟨n, 0, none⟩) 2 2) ⟨by rfl, fun w' => ?_⟩ ?_
        focus (go_simp; done)
        refine wpFl_coL rfl (.cells #[.string ((⟨#[0]⟩ : ByteArray) ++ C1), .string (((⟨#[1]⟩ : ByteArray) ++ key) ++ L1)] 9 (0, 0)) (fun n => .slice (some ⟨n, 0, none⟩) 2 2) (by rfl) (N' := [(27, .cells #[.string ((⟨#[0]⟩ : ByteArray) ++ C2), .string (((⟨#[1]⟩ : ByteArray) ++ key) ++ L2)] 9 (0, 0), fun n => .slice (some ⟨n, 0, none⟩) 2 2)]) (by rfl) (fun ba w30 hn_w30 hs_w30 hb_ba hz_ba => ?_)
        simp only [Act.put, List.setIfInBounds_toArray, List.set_cons_zero, List.set_cons_succ]
        have HSA := Lib.hid (SS.lit [(⟨#[0]⟩ : ByteArray) ++ C1, ((⟨#[1]⟩ : ByteArray) ++ key) ++ L1] hz_ba (n := 2) rfl (by simp))
        clear hz_ba hn_w30 hs_w30 hb_ba
        refine wpFl_coL rfl (.cells #[.string ((⟨#[0]⟩ : ByteArray) ++ C2), .string (((⟨#[1]⟩ : ByteArray) ++ key) ++ L2)] 9 (0, 0)) (fun n => .slice (some ⟨n, 0, none⟩) 2 2) (by rfl) (N' := []) (by rfl) (fun bb w31 hn_w31 hs_w31 hb_bb hz_bb => ?_)
        simp only [Act.put, List.setIfInBounds_toArray, List.set_cons_zero, List.set_cons_succ]
        have HSA1 := Lib.hid (SS.below HSA.out hn_w31)
        have HSB := Lib.hid (SS.lit [(⟨#[0]⟩ : ByteArray) ++ C2, ((⟨#[1]⟩ : ByteArray) ++ key) ++ L2] hz_bb (n := 2) rfl (by simp))
        clear hz_bb hn_w31 hs_w31 hb_bb HSA
        refine wpFl_bL rfl (fun w32 hn32 hs32 K hK => ?_)
        go_simp
        go_at_call 31
        have hcd := collided_any (SS.below HSA1.out hn32) (SS.below HSB.out hn32) (by simp) (by simp) (by
          intro x hx
          simp only [List.mem_cons, List.not_mem_nil, or_false] at hx
          rcases hx with rfl | rfl <;> omega) (by
          intro x hx
          simp only [List.mem_cons, List.not_mem_nil, or_false] at hx
          rcases hx with rfl | rfl <;> omega)
        rw [show collS [(⟨#[0]⟩ : ByteArray) ++ C1, ((⟨#[1]⟩ : ByteArray) ++ key) ++ L1] [(⟨#[0]⟩ : ByteArray) ++ C2, ((⟨#[1]⟩ : ByteArray) ++ key) ++ L2] = true from by
          rw [ByteArray.append_assoc, ByteArray.append_assoc]; exact HCO.out] at hcd
        refine hcd.mono ?_
        rintro e w33 ⟨rfl, hb33⟩
        have HB33 := Lib.hid (below_next HB19.out (below_next hs32 hb33))
        refine hK.out _ _ (below_next hs32 hb33) (Keeps.below hb33) ?_
        clear hK K hn32 hs32 hb33 hcd
        refine wpFl_qL (v := ?_) rfl (Or.inl ⟨by rfl, ?_⟩) ?_
        rotate_left
        focus (intro w' hSw; (try dsimp only [OldKept] at hSw); go_simp; (try with_reducible rfl); done)
        simp only [Act.put, List.setIfInBounds_toArray, List.set_cons_zero, List.set_cons_succ]
        refine wpFl_qL (v := ?_) rfl (Or.inl ⟨by rfl, ?_⟩) ?_
        rotate_left
        focus (intro w' hSw; (try dsimp only [OldKept] at hSw); go_simp; (try with_reducible rfl); done)
        simp only [Act.put, List.setIfInBounds_toArray, List.set_cons_zero, List.set_cons_succ]
        refine wpFl_nil ?_
        refine NoPanic.normal ?_
        go_wp2
        go_meet
        case rel => exact ⟨rfl, HB33⟩
  case rest =>
  obtain ⟨ht129, HBc⟩ := hcut
  subst ht129
  have k20 := K17.out.step HBc.out
  have K20 := Lib.hid k20
  clear k20 HG1 HC HBc HCZ HGE HCn HLf HB18 HB19
  obtain ⟨w20, hw20⟩ : ∃ W, W = wc := ⟨_, rfl⟩
  rw [← hw20] at K20 ⊢
  clear hw20 wc K17
  have HKS : Hid (∀ W, Calls Tryz.prog 15 #[.int .i64 (8 + (oc : Int))] W fun e w' => e = .returned (.string (keyS (8 + (oc : Int)))) ∧ Below W.heap.size W w') := Lib.hid (fun W => by
    have h1 := key_any (8 + oc) (by omega) W
    rw [Int.natCast_add] at h1
    exact h1)
  have hs32 : (keyS (8 + (oc : Int))).size = 32 := keyS_size _
  have f8 : IntKind.i64.wrap (8 + (oc : Int)) = 8 + (oc : Int) := IntWalk.i64_in _ (by omega)
  generalize keyS (8 + (oc : Int)) = strange at *
  go_upto_region 17 with (first | (go_at_call 16; (with_reducible refine (HO1.out _).mono ?_); rintro e w' ⟨rfl, hw'⟩; replace hw' := hw'.symm; subst hw') | (go_at_call 15; (with_reducible refine (HKS.out _).mono ?_); rintro e w21 ⟨rfl, hb21⟩; have HB21 := Lib.hid hb21; clear hb21))
  have K21 := Lib.hid (K20.out.step HB21.out)
  obtain ⟨c0, c1, c2, c3⟩ := four_cells (K21.out.all 2 _ rfl)
  obtain ⟨G, hG⟩ : ∃ G, G = genuineB strange ⟨cn, na, o3, o4⟩ := ⟨_, rfl⟩
  have HG1 := Lib.hid (fun W (hW : Below w21.heap.size w21 W) => genuine_w K21.out strange ⟨cn, na, o3, o4⟩ (by omega) (by show o3.size ≤ 1000; omega) G hG.symm W hW)
  have HCO := Lib.hid (HGS.out G hG.symm)
  clear hG HGS HKS HO1
  have s1 : (((⟨#[1]⟩ : ByteArray) ++ key)).size = key.size + 1 := mark_size 1 key
  have s2 : (((⟨#[1]⟩ : ByteArray) ++ key) ++ L1).size = key.size + 1 + L1.size := by rw [ByteArray.size_append, s1]
  have s3 : (((⟨#[1]⟩ : ByteArray) ++ strange)).size = strange.size + 1 := mark_size 1 strange
  have s4 : (((⟨#[1]⟩ : ByteArray) ++ strange) ++ L1).size = strange.size + 1 + L1.size := by rw [ByteArray.size_append, s3]
  cases G with
  | false =>
    go_wp2_with (go_at_call 40; (with_reducible refine (HG1.out _ (Below.refl _ _)).mono ?_); rintro e w22 ⟨rfl, hb22⟩; have HF := Lib.hid (K21.out.step hb22).below; clear hb22)
    go_ret
    exact ⟨rfl, HF.out⟩
  | true =>
    have HCX : Hid (∀ W : World, Calls Tryz.prog 31 #[.slice (some ⟨W.heap.size, 0, none⟩) 1 1, .slice (some ⟨W.heap.size + 1, 0, none⟩) 1 1] ((W.alloc (.cells #[.string (((⟨#[1]⟩ : ByteArray) ++ key) ++ L1)] 9)).alloc (.cells #[.string (((⟨#[1]⟩ : ByteArray) ++ strange) ++ L1)] 9)) fun e w' => e = .returned (.bool true) ∧ Below W.heap.size W w') := Lib.hid (fun W => by
      have hA : SS ((W.alloc (.cells #[.string (((⟨#[1]⟩ : ByteArray) ++ key) ++ L1)] 9)).alloc (.cells #[.string (((⟨#[1]⟩ : ByteArray) ++ strange) ++ L1)] 9)) (.slice (some ⟨W.heap.size, 0, none⟩) 1 1) [((⟨#[1]⟩ : ByteArray) ++ key) ++ L1] := SS.lit (n := 1) [((⟨#[1]⟩ : ByteArray) ++ key) ++ L1] (at_past W (.cells #[.string (((⟨#[1]⟩ : ByteArray) ++ key) ++ L1)] 9) (.cells #[.string (((⟨#[1]⟩ : ByteArray) ++ strange) ++ L1)] 9)) rfl (by simp)
      have hB : SS ((W.alloc (.cells #[.string (((⟨#[1]⟩ : ByteArray) ++ key) ++ L1)] 9)).alloc (.cells #[.string (((⟨#[1]⟩ : ByteArray) ++ strange) ++ L1)] 9)) (.slice (some ⟨W.heap.size + 1, 0, none⟩) 1 1) [((⟨#[1]⟩ : ByteArray) ++ strange) ++ L1] := SS.lit (n := 1) [((⟨#[1]⟩ : ByteArray) ++ strange) ++ L1] (at_second W (.cells #[.string (((⟨#[1]⟩ : ByteArray) ++ key) ++ L1)] 9) (.cells #[.string (((⟨#[1]⟩ : ByteArray) ++ strange) ++ L1)] 9)) rfl (by simp)
      have hcd := collided_any hA hB (by simp) (by simp) (by
        intro x hx
        rw [List.mem_singleton.1 hx]
        omega) (by
        intro x hx
        rw [List.mem_singleton.1 hx]
        omega)
      rw [show collS [((⟨#[1]⟩ : ByteArray) ++ key) ++ L1] [((⟨#[1]⟩ : ByteArray) ++ strange) ++ L1] = true from by
        rw [ByteArray.append_assoc, ByteArray.append_assoc]; exact HCO.out rfl] at hcd
      refine hcd.mono ?_
      rintro e w' ⟨h1, h2⟩
      exact ⟨h1, below_next (((Below.refl _ _).alloc (Nat.le_refl _) _).alloc (by simp) _) h2⟩)
    go_wp2_with (first | (go_at_call 40; (with_reducible refine (HG1.out _ (Below.refl _ _)).mono ?_); rintro e w22 ⟨rfl, hb22⟩; have HB22 := Lib.hid hb22; clear hb22) | (go_at_call 31; refine (HCX.out w22).mono ?_; rintro e w23 ⟨rfl, hb23⟩; have HF := Lib.hid (K21.out.step (below_next HB22.out hb23)).below; clear hb23))
    go_ret
    exact ⟨rfl, HF.out⟩
end Go.Proofs.YtinfpbkbnhcifaaGreatDoor
