/- The walk of RegisterConvicts. The conditions: what the slices read as, ranges, the table of constants. -/
import Derived.Test.YtinfpbkbnhcifaaGreatDoorQLW1
namespace Go.Proofs.YtinfpbkbnhcifaaGreatDoor
open Go.RowKit Go.BigFrame

set_option maxHeartbeats 12000000 in
set_option maxRecDepth 100000 in
theorem convicts_law {w : World} (carrier at' s0 s1 b0 b1 : Int) {vx vy : Value} {x ys : List Int} (hx : IL w vx x) (hy : IL w vy ys) (ic : I64 carrier) (ix : ∀ n ∈ x, I64 n) (ia : I64 at') (iy : ∀ n ∈ ys, I64 n) (is : I64 s0 ∧ I64 s1) (ib : I64 b0 ∧ I64 b1) (he : Env w) (hg : 0 < w.heap.size) :
    Calls Tryz.prog 7 #[.int .i64 carrier, vx, .int .i64 at', vy, .agg #[.int .i64 s0, .int .i64 s1], .agg #[.int .i64 b0, .int .i64 b1]] w fun e w' => e = .returned (.bool true) ∧ Below w.heap.size w w' := by
  have hpk := pickI_range carrier (n := 8) (by omega)
  obtain ⟨cn, hcn⟩ := Int.eq_ofNat_of_zero_le hpk.1
  have hc7 : cn ≤ 7 := by omega
  have HV : Hid (validB ⟨(cn : Int), madeL x⟩ = true) := Lib.hid (by rw [← hcn]; exact made_valid carrier x)
  have HOV := Lib.hid (other_valid (car := (cn : Int)) (xs := madeL x) at' ys (by omega) (madeL_len x) (madeL_small x))
  have HIY := Lib.hid iy
  have HIX := Lib.hid ix
  have HX := Lib.hid hx
  have HY := Lib.hid hy
  have HIC := Lib.hid ic
  have HIA := Lib.hid ia
  obtain ⟨is0, is1⟩ := is
  obtain ⟨ib0, ib1⟩ := ib
  have K0 := Lib.hid (Know.start he hg)
  clear hpk iy ix hx ic he hg hy ia
  obtain ⟨xs, hxs⟩ : ∃ xs, xs = madeL x := ⟨_, rfl⟩
  have hm12 : xs.length ≤ 12 := by rw [hxs]; exact madeL_len x
  rw [← hxs] at HV HOV
  have HXS := Lib.hid hxs
  clear hxs
  obtain ⟨zs, hzs⟩ : ∃ zs, zs = otherL xs at' ys := ⟨_, rfl⟩
  rw [← hzs] at HOV
  have HZS := Lib.hid hzs
  have hz12 := HOV.out.2.1
  clear hzs
  go_enter Tryz.func7, Tryz.ntmps7
  go_upto_region 1 with fail
  have k00 := (K0.out.box #[.int .i64 s0, .int .i64 s1] 68).box #[.int .i64 b0, .int .i64 b1] 68
  obtain ⟨w00, hw00⟩ : ∃ W, W = (w.alloc (.cells #[.int .i64 s0, .int .i64 s1] 68)).alloc (.cells #[.int .i64 b0, .int .i64 b1] 68) := ⟨_, rfl⟩
  have hsz : (w.alloc (.cells #[.int .i64 s0, .int .i64 s1] 68)).heap.size = w.heap.size + 1 := by simp
  rw [← hw00, hsz] at k00
  rw [← hw00]
  clear hw00 hsz
  generalize w.heap.size + 1 = bb at *
  obtain ⟨sb, hsb⟩ : ∃ sb, sb = w.heap.size := ⟨_, rfl⟩
  rw [← hsb] at k00 ⊢
  clear hsb
  simp only [List.nil_append, List.cons_append] at k00
  have K00 := Lib.hid k00
  clear k00 K0
  go_wp2_with fail
  refine (sane_at K00.out).mono ?_
  rintro e w1 ⟨rfl, kw1⟩
  have K1 := Lib.hid kw1
  clear kw1 K00
  go_wp2_with fail
  refine (made_at K1.out (HX.out.below K1.out.below) HIX.out carrier HIC.out).mono ?_
  rintro e w2 ⟨vr, rfl, k2⟩
  rw [← HXS.out] at k2
  rw [hcn]
  obtain ⟨ar, cr, rfl⟩ := (k2.all 2 _ rfl : SS w2 vr xs).form2
  simp only [List.nil_append, List.cons_append] at k2
  have K2 := Lib.hid k2
  clear k2 K1 HX HIX HIC hcn HXS
  have HX60 := Lib.hid (valid_parts HV.out).2.2.1
  obtain ⟨m, hm⟩ : ∃ m, m = xs.length := ⟨_, rfl⟩
  rw [← hm] at hm12 K2 ⊢
  have HM := Lib.hid hm
  clear hm
  go_upto_region 5 with fail
  have kw3 := K2.out.box #[.int .i64 cn, .slice ar m cr] 26
  obtain ⟨w3, hww3⟩ : ∃ W, W = w2.alloc (.cells #[.int .i64 cn, .slice ar m cr] 26) := ⟨_, rfl⟩
  rw [← hww3] at kw3 ⊢
  clear hww3
  generalize w2.heap.size = rb at kw3 ⊢
  simp only [List.nil_append, List.cons_append] at kw3
  have K3 := Lib.hid kw3
  clear kw3 K2
  obtain ⟨rc0, rc1⟩ := K3.out.duo (i := 3) rfl
  go_wp2_with fail
  refine (other_at K3.out 2 rfl (by rw [← HM.out]; exact hm12) (HY.out.below K3.out.below) HIY.out at' HIA.out cn).mono ?_
  rintro e w4 ⟨vz, rfl, k4⟩
  rw [← HZS.out] at k4
  obtain ⟨az, cz, rfl⟩ := (k4.all 4 _ rfl : SS w4 vz zs).form2
  simp only [List.nil_append, List.cons_append] at k4
  have K4 := Lib.hid k4
  clear k4 K3 HY HIY HIA HZS rc0 rc1
  obtain ⟨mz, hmz⟩ : ∃ m, m = zs.length := ⟨_, rfl⟩
  rw [← hmz] at hz12 K4 ⊢
  have HMZ := Lib.hid hmz
  clear hmz
  go_upto_region 6 with fail
  have kw5 := K4.out.box #[.int .i64 cn, .slice az mz cz] 26
  obtain ⟨w5, hww5⟩ : ∃ W, W = w4.alloc (.cells #[.int .i64 cn, .slice az mz cz] 26) := ⟨_, rfl⟩
  rw [← hww5] at kw5 ⊢
  clear hww5
  generalize w4.heap.size = zb at kw5 ⊢
  simp only [List.nil_append, List.cons_append] at kw5
  have K5 := Lib.hid kw5
  clear kw5 K4
  obtain ⟨rc0, rc1⟩ := K5.out.duo (i := 3) rfl
  go_wp2_with fail
  clear rc0 rc1
  refine (key_at K5.out cn (by omega)).mono ?_
  rintro e w6 ⟨rfl, kw6⟩
  have K6 := Lib.hid kw6
  clear kw6 K5
  have HK32 := Lib.hid (keyS_size (cn : Int))
  generalize keyS (cn : Int) = key at *
  have HPK := Lib.hid (fun W => lpick_any s0 ((m : Int) + 1) W is0 (by omega) (by omega))
  obtain ⟨p0, p1⟩ := pickI_range s0 (n := (m : Int) + 1) (by omega)
  obtain ⟨na, hna⟩ := Int.eq_ofNat_of_zero_le p0
  rw [hna] at HPK p1
  have hnam : na ≤ m := by omega
  have HPZ := Lib.hid (fun W => lpick_any s1 ((mz : Int) + 1) W is1 (by omega) (by omega))
  obtain ⟨p2, p3⟩ := pickI_range s1 (n := (mz : Int) + 1) (by omega)
  obtain ⟨nb, hnb⟩ := Int.eq_ofNat_of_zero_le p2
  rw [hnb] at HPZ p3
  have hnbm : nb ≤ mz := by omega
  have f1 : IntKind.i64.wrap ((m : Int) + 1) = (m : Int) + 1 := IntWalk.i64_in _ (by omega)
  have f2 : IntKind.i64.wrap ((mz : Int) + 1) = (mz : Int) + 1 := IntWalk.i64_in _ (by omega)
  clear hna hnb p0 p1 p2 p3 is0 is1
  obtain ⟨rc0, rc1⟩ := K6.out.duo (i := 3) rfl
  obtain ⟨zc0, zc1⟩ := K6.out.duo (i := 5) rfl
  obtain ⟨sc0, sc1⟩ := K6.out.duo (i := 0) rfl
  obtain ⟨bc0, bc1⟩ := K6.out.duo (i := 1) rfl
  go_wp2_with (go_at_call 16; (first | (with_reducible refine (HPK.out _).mono ?_) | (with_reducible refine (HPZ.out _).mono ?_)); rintro e w' ⟨rfl, hw'⟩; replace hw' := hw'.symm; subst hw')
  clear HPK HPZ f1 f2 rc0 rc1 zc0 zc1 sc0 sc1 bc0 bc1
  refine (indices_at K6.out b0 ib0 na (by omega)).mono ?_
  rintro e w7 ⟨vi, rfl, k7⟩
  obtain ⟨ai, ci, rfl⟩ := (k7.all 6 _ rfl : IL w7 vi (idxI b0 na)).form2
  simp only [List.nil_append, List.cons_append] at k7
  have K7 := Lib.hid k7
  clear k7 K6
  obtain ⟨bc0, bc1⟩ := K7.out.duo (i := 1) rfl
  go_wp2_with fail
  clear bc0 bc1
  refine (indices_at K7.out b1 ib1 nb (by omega)).mono ?_
  rintro e w8 ⟨vk, rfl, k8⟩
  obtain ⟨ak, ck, rfl⟩ := (k8.all 7 _ rfl : IL w8 vk (idxI b1 nb)).form2
  simp only [List.nil_append, List.cons_append] at k8
  have K8 := Lib.hid k8
  clear k8 K7 ib0 ib1
  obtain ⟨is, his⟩ : ∃ is, is = idxS b0 na := ⟨_, rfl⟩
  obtain ⟨ks, hks⟩ : ∃ ks, ks = idxS b1 nb := ⟨_, rfl⟩
  have HISA : Hid (is.Pairwise (· < ·)) := Lib.hid (by rw [his]; exact idxS_asc _ _)
  have HISL : Hid (∀ i ∈ is, i < na) := Lib.hid (by rw [his]; exact idxS_lt _ _)
  have HKSA : Hid (ks.Pairwise (· < ·)) := Lib.hid (by rw [hks]; exact idxS_asc _ _)
  have HKSL : Hid (∀ i ∈ ks, i < nb) := Lib.hid (by rw [hks]; exact idxS_lt _ _)
  have hi0 : idxI b0 na = is.map fun i : Nat => (i : Int) := by rw [his]; rfl
  have hk0 : idxI b1 nb = ks.map fun i : Nat => (i : Int) := by rw [hks]; rfl
  have hil : is.length ≤ 60 := by have := idxI_len b0 na; rw [hi0, List.length_map] at this; omega
  have hkl : ks.length ≤ 60 := by have := idxI_len b1 nb; rw [hk0, List.length_map] at this; omega
  rw [hi0, hk0] at K8
  rw [hi0, hk0, List.length_map, List.length_map]
  rw [List.length_map, List.length_map] at K8
  clear his hks hi0 hk0
  obtain ⟨li, hli⟩ : ∃ l, l = is.length := ⟨_, rfl⟩
  obtain ⟨lk, hlk⟩ : ∃ l, l = ks.length := ⟨_, rfl⟩
  rw [← hli, ← hlk] at K8 ⊢
  have HLI := Lib.hid hli
  have HLK := Lib.hid hlk
  rw [← hli] at hil
  rw [← hlk] at hkl
  clear hli hlk
  obtain ⟨rc0, rc1⟩ := K8.out.duo (i := 3) rfl
  go_wp2_with fail
  clear rc0 rc1
  refine (show_at K8.out 2 6 rfl is rfl key cn na HK32.out HV.out (by rw [← HM.out]; exact hnam) HISA.out HISL.out (by rw [← HLI.out]; omega)).mono ?_
  rintro e w9 ⟨ip, rfl, k9⟩
  obtain ⟨P, hP⟩ : ∃ P, P = partS key cn xs na is := ⟨_, rfl⟩
  rw [← hP] at k9 ⊢
  obtain ⟨⟨pc, ps, pr, pl⟩, pis⟩ := P
  obtain ⟨apx, cpx, hip⟩ := (k9.all 8 _ rfl : IT w9 ip pis).form2
  subst hip
  simp only [pbox, List.nil_append, List.cons_append] at k9 ⊢
  have K9 := Lib.hid k9
  have HP := Lib.hid hP
  clear k9 K8 hP
  go_upto_region 12 with fail
  have kw10 := K9.out.box #[.int .i64 pc, .int .i64 ps, .string pr, .string pl, .slice apx pis.length cpx] 38
  obtain ⟨w10, hww10⟩ : ∃ W, W = w9.alloc (.cells #[.int .i64 pc, .int .i64 ps, .string pr, .string pl, .slice apx pis.length cpx] 38) := ⟨_, rfl⟩
  rw [← hww10] at kw10 ⊢
  clear hww10
  generalize w9.heap.size = pb at kw10 ⊢
  simp only [List.nil_append, List.cons_append] at kw10
  have K10 := Lib.hid kw10
  clear kw10 K9
  obtain ⟨rc0, rc1⟩ := K10.out.duo (i := 5) rfl
  go_wp2_with fail
  clear rc0 rc1
  refine (show_at K10.out 4 7 rfl ks rfl key cn nb HK32.out HOV.out.1 (by rw [← HMZ.out]; exact hnbm) HKSA.out HKSL.out (by rw [← HLK.out]; omega)).mono ?_
  rintro e w11 ⟨iq, rfl, k11⟩
  obtain ⟨Q, hQ⟩ : ∃ Q, Q = partS key cn zs nb ks := ⟨_, rfl⟩
  rw [← hQ] at k11 ⊢
  obtain ⟨⟨qc, qs, qr, ql⟩, qis⟩ := Q
  obtain ⟨aqx, cqx, hiq⟩ := (k11.all 10 _ rfl : IT w11 iq qis).form2
  subst hiq
  simp only [pbox, List.nil_append, List.cons_append] at k11 ⊢
  have K11 := Lib.hid k11
  have HQ := Lib.hid hQ
  clear k11 K10 hQ
  go_upto_region 13 with fail
  have kw12 := K11.out.box #[.int .i64 qc, .int .i64 qs, .string qr, .string ql, .slice aqx qis.length cqx] 38
  obtain ⟨w12, hww12⟩ : ∃ W, W = w11.alloc (.cells #[.int .i64 qc, .int .i64 qs, .string qr, .string ql, .slice aqx qis.length cqx] 38) := ⟨_, rfl⟩
  rw [← hww12] at kw12 ⊢
  clear hww12
  generalize w11.heap.size = qb at kw12 ⊢
  simp only [List.nil_append, List.cons_append] at kw12
  have K12 := Lib.hid kw12
  clear kw12 K11
  have HFP : Hid (FitOne ⟨⟨pc, ps, pr, pl⟩, pis⟩) := Lib.hid (by rw [HP.out]; exact fit_part _ _ _ _ _ (by rw [← HLI.out]; omega) (by rw [← HM.out]; omega))
  have HFQ : Hid (FitOne ⟨⟨qc, qs, qr, ql⟩, qis⟩) := Lib.hid (by rw [HQ.out]; exact fit_part _ _ _ _ _ (by rw [← HLK.out]; omega) (by rw [← HMZ.out]; omega))
  obtain ⟨C, hC⟩ : ∃ C, C = convictsB key ⟨⟨pc, ps, pr, pl⟩, pis⟩ ⟨⟨qc, qs, qr, ql⟩, qis⟩ := ⟨_, rfl⟩
  have HC2 : Hid (convictsB key ⟨⟨qc, qs, qr, ql⟩, qis⟩ ⟨⟨pc, ps, pr, pl⟩, pis⟩ = C) := Lib.hid (by rw [hC, HP.out, HQ.out]; exact convicts_symm)
  have HC := Lib.hid hC
  clear hC
  have HCV : Hid (∀ W, Below w12.heap.size w12 W → Calls Tryz.prog 22 #[.string key, .agg #[.int .i64 pc, .int .i64 ps, .string pr, .string pl, .slice apx pis.length cpx], .agg #[.int .i64 qc, .int .i64 qs, .string qr, .string ql, .slice aqx qis.length cqx]] W fun e w' => e = .returned (.bool C) ∧ Below W.heap.size W w') := Lib.hid (fun W hW =>
    (conv_at2 (K12.out.step hW).here 8 10 (p := ⟨⟨pc, ps, pr, pl⟩, pis⟩) (q := ⟨⟨qc, qs, qr, ql⟩, qis⟩) rfl rfl (by rw [HK32.out]; omega) HFP.out HFQ.out C HC.out.symm).mono fun _ _ ⟨h1, h2⟩ => ⟨h1, h2.below⟩)
  have HCW : Hid (∀ W, Below w12.heap.size w12 W → Calls Tryz.prog 22 #[.string key, .agg #[.int .i64 qc, .int .i64 qs, .string qr, .string ql, .slice aqx qis.length cqx], .agg #[.int .i64 pc, .int .i64 ps, .string pr, .string pl, .slice apx pis.length cpx]] W fun e w' => e = .returned (.bool C) ∧ Below W.heap.size W w') := Lib.hid (fun W hW =>
    (conv_at2 (K12.out.step hW).here 10 8 (p := ⟨⟨qc, qs, qr, ql⟩, qis⟩) (q := ⟨⟨pc, ps, pr, pl⟩, pis⟩) rfl rfl (by rw [HK32.out]; omega) HFQ.out HFP.out C HC2.out).mono fun _ _ ⟨h1, h2⟩ => ⟨h1, h2.below⟩)
  have HKP : Hid (∀ W, Below w12.heap.size w12 W → (W.cell? ⟨pb, 0, none⟩ = some (.int .i64 pc) ∧ W.cell? ⟨pb, 1, none⟩ = some (.int .i64 ps) ∧ W.cell? ⟨pb, 2, none⟩ = some (.string pr) ∧ W.cell? ⟨pb, 3, none⟩ = some (.string pl) ∧ W.cell? ⟨pb, 4, none⟩ = some (.slice apx pis.length cpx)) ∧ W.cell? ⟨qb, 0, none⟩ = some (.int .i64 qc) ∧ W.cell? ⟨qb, 1, none⟩ = some (.int .i64 qs) ∧ W.cell? ⟨qb, 2, none⟩ = some (.string qr) ∧ W.cell? ⟨qb, 3, none⟩ = some (.string ql) ∧ W.cell? ⟨qb, 4, none⟩ = some (.slice aqx qis.length cqx)) := Lib.hid (fun W hW =>
    ⟨five_cells ((K12.out.step hW).all 9 _ rfl), five_cells ((K12.out.step hW).all 11 _ rfl)⟩)
  refine wp_region_noPanic ?_
  refine wp_region_lexB [.q 0, .q 1, .q 2, .q 3, .q 4, .q 5, .q 6, .q 7, .q 8, .q 9, .q 11, .q 12, .q 13, .b 10, .b 14, .q 15, .q 16] (by kernel_rfl) (by kernel_rfl) (fun _ _ _ _ h => h) ?_
  refine wpFl_qL (v := ?_) rfl (Or.inl ⟨by rfl, ?_⟩) ?_
  rotate_left
  focus (intro w' hSw; (try dsimp only [OldKept] at hSw); obtain ⟨⟨p0, p1, p2, p3, p4⟩, q0, q1, q2, q3, q4⟩ := HKP.out w' hSw; go_simp; (try with_reducible rfl); done)
  simp only [Act.put, List.setIfInBounds_toArray, List.set_cons_zero, List.set_cons_succ]
  refine wpFl_qL (v := ?_) rfl (Or.inl ⟨by rfl, ?_⟩) ?_
  rotate_left
  focus (intro w' hSw; (try dsimp only [OldKept] at hSw); obtain ⟨⟨p0, p1, p2, p3, p4⟩, q0, q1, q2, q3, q4⟩ := HKP.out w' hSw; go_simp; (try with_reducible rfl); done)
  simp only [Act.put, List.setIfInBounds_toArray, List.set_cons_zero, List.set_cons_succ]
  refine wpFl_qL (v := ?_) rfl (Or.inl ⟨by rfl, ?_⟩) ?_
  rotate_left
  focus (intro w' hSw; (try dsimp only [OldKept] at hSw); obtain ⟨⟨p0, p1, p2, p3, p4⟩, q0, q1, q2, q3, q4⟩ := HKP.out w' hSw; go_simp; (try with_reducible rfl); done)
  simp only [Act.put, List.setIfInBounds_toArray, List.set_cons_zero, List.set_cons_succ]
  refine wpFl_qL (v := ?_) rfl (Or.inl ⟨by rfl, ?_⟩) ?_
  rotate_left
  focus (intro w' hSw; (try dsimp only [OldKept] at hSw); obtain ⟨⟨p0, p1, p2, p3, p4⟩, q0, q1, q2, q3, q4⟩ := HKP.out w' hSw; go_simp; (try with_reducible rfl); done)
  simp only [Act.put, List.setIfInBounds_toArray, List.set_cons_zero, List.set_cons_succ]
  refine wpFl_qL (v := ?_) rfl (Or.inl ⟨by rfl, ?_⟩) ?_
  rotate_left
  focus (intro w' hSw; (try dsimp only [OldKept] at hSw); obtain ⟨⟨p0, p1, p2, p3, p4⟩, q0, q1, q2, q3, q4⟩ := HKP.out w' hSw; go_simp; (try with_reducible rfl); done)
  simp only [Act.put, List.setIfInBounds_toArray, List.set_cons_zero, List.set_cons_succ]
  refine wpFl_qL (v := ?_) rfl (Or.inl ⟨by rfl, ?_⟩) ?_
  rotate_left
  focus (intro w' hSw; (try dsimp only [OldKept] at hSw); obtain ⟨⟨p0, p1, p2, p3, p4⟩, q0, q1, q2, q3, q4⟩ := HKP.out w' hSw; go_simp; (try with_reducible rfl); done)
  simp only [Act.put, List.setIfInBounds_toArray, List.set_cons_zero, List.set_cons_succ]
  refine wpFl_qL (v := ?_) rfl (Or.inl ⟨by rfl, ?_⟩) ?_
  rotate_left
  focus (intro w' hSw; (try dsimp only [OldKept] at hSw); obtain ⟨⟨p0, p1, p2, p3, p4⟩, q0, q1, q2, q3, q4⟩ := HKP.out w' hSw; go_simp; (try with_reducible rfl); done)
  simp only [Act.put, List.setIfInBounds_toArray, List.set_cons_zero, List.set_cons_succ]
  refine wpFl_qL (v := ?_) rfl (Or.inl ⟨by rfl, ?_⟩) ?_
  rotate_left
  focus (intro w' hSw; (try dsimp only [OldKept] at hSw); obtain ⟨⟨p0, p1, p2, p3, p4⟩, q0, q1, q2, q3, q4⟩ := HKP.out w' hSw; go_simp; (try with_reducible rfl); done)
  simp only [Act.put, List.setIfInBounds_toArray, List.set_cons_zero, List.set_cons_succ]
  refine wpFl_qL (v := ?_) rfl (Or.inl ⟨by rfl, ?_⟩) ?_
  rotate_left
  focus (intro w' hSw; (try dsimp only [OldKept] at hSw); obtain ⟨⟨p0, p1, p2, p3, p4⟩, q0, q1, q2, q3, q4⟩ := HKP.out w' hSw; go_simp; (try with_reducible rfl); done)
  simp only [Act.put, List.setIfInBounds_toArray, List.set_cons_zero, List.set_cons_succ]
  refine wpFl_qL (v := ?_) rfl (Or.inl ⟨by rfl, ?_⟩) ?_
  rotate_left
  focus (intro w' hSw; (try dsimp only [OldKept] at hSw); obtain ⟨⟨p0, p1, p2, p3, p4⟩, q0, q1, q2, q3, q4⟩ := HKP.out w' hSw; go_simp; (try with_reducible rfl); done)
  simp only [Act.put, List.setIfInBounds_toArray, List.set_cons_zero, List.set_cons_succ]
  refine wpFl_qL (v := ?_) rfl (Or.inl ⟨by rfl, ?_⟩) ?_
  rotate_left
  focus (intro w' hSw; (try dsimp only [OldKept] at hSw); obtain ⟨⟨p0, p1, p2, p3, p4⟩, q0, q1, q2, q3, q4⟩ := HKP.out w' hSw; go_simp; (try with_reducible rfl); done)
  simp only [Act.put, List.setIfInBounds_toArray, List.set_cons_zero, List.set_cons_succ]
  refine wpFl_qL (v := ?_) rfl (Or.inl ⟨by rfl, ?_⟩) ?_
  rotate_left
  focus (intro w' hSw; (try dsimp only [OldKept] at hSw); obtain ⟨⟨p0, p1, p2, p3, p4⟩, q0, q1, q2, q3, q4⟩ := HKP.out w' hSw; go_simp; (try with_reducible rfl); done)
  simp only [Act.put, List.setIfInBounds_toArray, List.set_cons_zero, List.set_cons_succ]
  refine wpFl_qL (v := ?_) rfl (Or.inl ⟨by rfl, ?_⟩) ?_
  rotate_left
  focus (intro w' hSw; (try dsimp only [OldKept] at hSw); obtain ⟨⟨p0, p1, p2, p3, p4⟩, q0, q1, q2, q3, q4⟩ := HKP.out w' hSw; go_simp; (try with_reducible rfl); done)
  simp only [Act.put, List.setIfInBounds_toArray, List.set_cons_zero, List.set_cons_succ]
  refine wpFl_bL rfl (fun w13 hn13 hs13 K hK => ?_)
  go_simp
  go_at_call 22
  refine (HCV.out _ hs13).mono ?_
  rintro e w14 ⟨rfl, hb14⟩
  refine hK.out _ _ (below_next hs13 hb14) (Keeps.below hb14) ?_
  clear hK K hn13 hs13 hb14
  refine wpFl_bL rfl (fun w15 hn15 hs15 K hK => ?_)
  go_simp
  go_at_call 22
  refine (HCW.out _ hs15).mono ?_
  rintro e w16 ⟨rfl, hb16⟩
  have HB16 := Lib.hid (below_next hs15 hb16)
  refine hK.out _ _ HB16.out (Keeps.below hb16) ?_
  clear hK K hn15 hs15 hb16
  refine wpFl_qL (v := ?_) rfl (Or.inl ⟨by rfl, ?_⟩) ?_
  rotate_left
  focus (intro w' hSw; (try dsimp only [OldKept] at hSw); go_simp; (try with_reducible rfl); done)
  simp only [Act.put, List.setIfInBounds_toArray, List.set_cons_zero, List.set_cons_succ]
  refine wpFl_qL (v := ?_) rfl (Or.inl ⟨by rfl, ?_⟩) ?_
  rotate_left
  focus (intro w' hSw; (try dsimp only [OldKept] at hSw); go_simp; (try with_reducible rfl); done)
  simp only [Act.put, List.setIfInBounds_toArray, List.set_cons_zero, List.set_cons_succ]
  refine wpFl_nil ?_
  refine NoPanic.normal ?_
  have K16 := Lib.hid (K12.out.step HB16.out)
  have HCX : Hid (∀ W, Below w16.heap.size w16 W → Calls Tryz.prog 22 #[.string key, .agg #[.int .i64 pc, .int .i64 ps, .string pr, .string pl, .slice apx pis.length cpx], .agg #[.int .i64 qc, .int .i64 qs, .string qr, .string ql, .slice aqx qis.length cqx]] W fun e w' => e = .returned (.bool C) ∧ Below W.heap.size W w') := Lib.hid (fun W hW => HCV.out W (below_next HB16.out hW))
  have HPB := Lib.hid (fun W hW => HKP.out W (below_next HB16.out hW))
  clear HKP HCV HCW HB16 K12
  have HII : Hid (IL w16 (.slice ai li ci) (is.map fun i : Nat => (i : Int))) := Lib.hid (K16.out.all 6 _ rfl)
  have HIK : Hid (IL w16 (.slice ak lk ck) (ks.map fun i : Nat => (i : Int))) := Lib.hid (K16.out.all 7 _ rfl)
  obtain ⟨i', c', ei, i1, i2, i3⟩ := HII.out.opened
  have eai : ai = i' := by injection ei
  rw [← eai] at i3
  obtain ⟨k', d', ek, k1, k2, k3⟩ := HIK.out.opened
  have eak : ak = k' := by injection ek
  rw [← eak] at k3
  have HI3 := Lib.hid i3
  have HK3 := Lib.hid k3
  clear eai ei i1 i2 i3 ek k1 k2 k3 eak HII HIK
  obtain ⟨x', y', ex, x1, x2, x3⟩ := (K16.out.all 2 _ rfl : SS w16 (.slice ar m cr) xs).opened
  have ear : ar = x' := by injection ex
  rw [← ear] at x3
  have HX3 := Lib.hid x3
  clear ex x1 x2 x3 ear
  obtain ⟨x', y', ex, x1, x2, x3⟩ := (K16.out.all 4 _ rfl : SS w16 (.slice az mz cz) zs).opened
  have ear : az = x' := by injection ex
  rw [← ear] at x3
  have HZ3 := Lib.hid x3
  clear ex x1 x2 x3 ear
  obtain ⟨rc0, rc1⟩ := K16.out.duo (i := 3) rfl
  obtain ⟨zc0, zc1⟩ := K16.out.duo (i := 5) rfl
  have HRC := Lib.hid rc1
  have HZC := Lib.hid zc1
  clear rc0 rc1 zc0 zc1
  go_wp2
  go_loopw [25, 26] (fun d i wr => ∃ (j : Nat) (D : Bool), j ≤ li ∧ d = .bool D ∧ i = .int .i64 j ∧ Hid (D = true → Differ xs zs is ks) ∧ ∃ n, wr = w16.drewN n) (fun _ i _ => li - (intOf i).toNat)
  case atStart => exact ⟨0, false, by omega, rfl, rfl, Lib.hid (fun h => by cases h), 0, rfl⟩
  case round =>
    obtain ⟨j, D0, hj, rfl, rfl, hD0, nw0, hwr0⟩ := hrel
    have HWR0 := Lib.hid hwr0
    clear hwr0
    by_cases hlj : j < li
    · obtain ⟨ij, eij⟩ : ∃ t, is[j]? = some t := ⟨_, List.getElem?_eq_getElem (by rw [← HLI.out]; exact hlj)⟩
      obtain ⟨bi, oi, eai, hbi, ci0⟩ := HI3.out j (ij : Int) (by rw [List.getElem?_map, eij]; rfl)
      have hijn := HISL.out ij (List.mem_of_getElem? eij)
      have HMI := Lib.hid (List.mem_of_getElem? eij)
      have HCI := Lib.hid ci0
      have tj : (j : Int) < (li : Int) := by omega
      have tj0 : (0 : Int) ≤ (j : Int) := by omega
      clear eij ci0
      subst eai
      go_wp2
      go_loopw [25, 27] (fun d i wr => ∃ (t : Nat) (D : Bool), t ≤ lk ∧ d = .bool D ∧ i = .int .i64 t ∧ Hid (D = true → Differ xs zs is ks) ∧ ∃ n, wr = w16.drewN n) (fun _ i _ => lk - (intOf i).toNat)
      case atStart => exact ⟨0, D0, by omega, rfl, rfl, hD0, nw0, HWR0.out⟩
      case round =>
        obtain ⟨t, D, ht, rfl, rfl, hD, nw, hwr⟩ := hrel
        have HWR := Lib.hid hwr
        clear hwr HWR0
        by_cases hlt : t < lk
        · obtain ⟨kt, ekt⟩ : ∃ u, ks[t]? = some u := ⟨_, List.getElem?_eq_getElem (by rw [← HLK.out]; exact hlt)⟩
          obtain ⟨bk, ok, eak, hbk, ck0⟩ := HK3.out t (kt : Int) (by rw [List.getElem?_map, ekt]; rfl)
          have hktn := HKSL.out kt (List.mem_of_getElem? ekt)
          have HMK := Lib.hid (List.mem_of_getElem? ekt)
          subst eak
          have z1 : wr.cell? ⟨bi, oi + j, none⟩ = some (.int .i64 (ij : Nat)) := by rw [HWR.out]; exact HCI.out
          have z2 : wr.cell? ⟨bk, ok + t, none⟩ = some (.int .i64 (kt : Nat)) := by rw [HWR.out]; exact ck0
          have z3 : wr.cell? ⟨rb, 1, none⟩ = some (.slice ar m cr) := by rw [HWR.out]; exact HRC.out
          have z4 : wr.cell? ⟨zb, 1, none⟩ = some (.slice az mz cz) := by rw [HWR.out]; exact HZC.out
          have tt : (t : Int) < (lk : Int) := by omega
          have tt0 : (0 : Int) ≤ (t : Int) := by omega
          clear ekt ck0
          cases D with
          | true =>
            go_upto_region 22 with fail
            go_quiet (fail)
            have HWN : Hid (∃ n, wr.drewN nq = w16.drewN n) := Lib.hid ⟨nw + nq, by rw [HWR.out, World.drewN_drewN]⟩
            go_wp2
            go_roundw
            case rel => exact ⟨t + 1, true, by omega, rfl, by go_num, hD, HWN.out⟩
            case measure => simp [intOf]; omega
          | false =>
            by_cases hik : ij = kt
            · subst hik
              obtain ⟨sx, esx⟩ : ∃ u, xs[ij]? = some u := ⟨_, List.getElem?_eq_getElem (by rw [← HM.out]; omega)⟩
              obtain ⟨sz, esz⟩ : ∃ u, zs[ij]? = some u := ⟨_, List.getElem?_eq_getElem (by rw [← HMZ.out]; omega)⟩
              obtain ⟨bx, ox, eax, hbx, cx0⟩ := HX3.out ij sx esx
              obtain ⟨bz, oz, eaz, hbz, cz0⟩ := HZ3.out ij sz esz
              subst eax eaz
              have z5 : wr.cell? ⟨bx, ox + ij, none⟩ = some (.string sx) := by rw [HWR.out]; exact cx0
              have z6 : wr.cell? ⟨bz, oz + ij, none⟩ = some (.string sz) := by rw [HWR.out]; exact cz0
              have ti0 : (0 : Int) ≤ (ij : Int) := by omega
              have tim : (ij : Int) < (m : Int) := by omega
              have tiz : (ij : Int) < (mz : Int) := by omega
              have HDn : Hid (sx ≠ sz → Differ xs zs is ks) := Lib.hid (fun h => ⟨ij, HMI.out, HMK.out, by
                rw [List.getD_eq_getElem?_getD, List.getD_eq_getElem?_getD, esx, esz]; exact h⟩)
              clear esx esz cx0 cz0
              by_cases hss : sx = sz
              · subst hss
                go_upto_region 22 with fail
                go_quiet (fail)
                have HWN : Hid (∃ n, wr.drewN nq = w16.drewN n) := Lib.hid ⟨nw + nq, by rw [HWR.out, World.drewN_drewN]⟩
                go_wp2
                go_roundw
                case rel => exact ⟨t + 1, false, by omega, rfl, by go_num, hD, HWN.out⟩
                case measure => simp [intOf]; omega
              · have hDD := Lib.hid (HDn.out hss)
                have hst : (sx.toList == sz.toList) = false := by rw [same_str]; exact decide_eq_false hss
                go_upto_region 22 with fail
                go_quiet (fail)
                have HWN : Hid (∃ n, wr.drewN nq = w16.drewN n) := Lib.hid ⟨nw + nq, by rw [HWR.out, World.drewN_drewN]⟩
                go_wp2
                go_roundw
                case rel => exact ⟨t + 1, true, by omega, rfl, by go_num, Lib.hid (fun _ => hDD.out), HWN.out⟩
                case measure => simp [intOf]; omega
            · have hb1 : ((ij : Int) == (kt : Int)) = false := by simp; omega
              have hb2 : ¬ (ij : Int) = (kt : Int) := by omega
              go_upto_region 22 with fail
              go_quiet (fail)
              have HWN : Hid (∃ n, wr.drewN nq = w16.drewN n) := Lib.hid ⟨nw + nq, by rw [HWR.out, World.drewN_drewN]⟩
              go_wp2
              go_roundw
              case rel => exact ⟨t + 1, false, by omega, rfl, by go_num, hD, HWN.out⟩
              case measure => simp [intOf]; omega
        · have tt : ¬ (t : Int) < (lk : Int) := by omega
          go_wp2
          go_roundw
          case rel => exact ⟨j + 1, D, by omega, rfl, by go_num, hD, nw, HWR.out⟩
          case measure => simp [intOf]; omega
    · have tj : ¬ (j : Int) < (li : Int) := by omega
      have HCP : Hid (C = convB ⟨⟨pc, ps, pr, pl⟩, pis⟩ ⟨⟨qc, qs, qr, ql⟩, qis⟩) := Lib.hid (by
        rw [HC.out, HP.out, HQ.out]
        exact convicts_parts HK32.out HV.out HOV.out.1 (by rw [← HM.out]; exact hnam) (by rw [← HMZ.out]; exact hnbm) HISA.out HKSA.out HISL.out HKSL.out)
      have HBr : Hid (Below w16.heap.size w16 wr) := Lib.hid (by rw [HWR0.out]; exact below_drewN (Below.refl _ _) nw0)
      obtain ⟨⟨p0, p1, p2, p3, p4⟩, q0, q1, q2, q3, q4⟩ := HPB.out wr HBr.out
      go_upto_region 23 with fail
      go_cut [146] from 139 to 178 (fun t wx => t = .bool false ∧ Hid (Below w16.heap.size w16 wx))
      case first =>
        cases D0 with
        | true =>
          have HCt : Hid (C = true) := Lib.hid (by
            rw [HCP.out, HP.out, HQ.out, conv_true]
            exact .inr (hD0.out rfl))
          have HCr := Lib.hid (HCX.out wr HBr.out)
          rw [HCt.out] at HCr
          go_wp2_with (go_at_call 22; refine HCr.out.mono ?_; rintro e wc ⟨rfl, hbc⟩; have HBc := Lib.hid (below_next HBr.out hbc); clear hbc)
          go_meet
          case rel => exact ⟨rfl, HBc⟩
        | false =>
          go_wp2
          go_meet
          case rel => exact ⟨rfl, HBr⟩
      case rest =>
      obtain ⟨ht146, HBx⟩ := hcut
      subst ht146
      obtain ⟨wx, hwx⟩ : ∃ wx, wx = wc := ⟨_, rfl⟩
      subst hwx
      clear p0 p1 p2 p3 p4 q0 q1 q2 q3 q4 HBr HWR0 hD0
      have HKx := Lib.hid (K16.out.step HBx.out)
      have HCELL : Hid (∀ W, Below wx.heap.size wx W → W.cell? ⟨rb, 1, none⟩ = some (.slice ar m cr) ∧ W.cell? ⟨zb, 1, none⟩ = some (.slice az mz cz)) := Lib.hid (fun W hW => ⟨((HKx.out.step hW).duo (i := 3) rfl).2, ((HKx.out.step hW).duo (i := 5) rfl).2⟩)
      have HPX := Lib.hid (fun W hW => HPB.out W (below_next HBx.out hW))
      have HCY := Lib.hid (fun W hW => HCX.out W (below_next HBx.out hW))
      obtain ⟨r1, z1⟩ := HCELL.out wx (Below.refl _ _)
      have g1 : (na : Int) ≤ (m : Int) := by omega
      have g2 : (0 : Int) ≤ (na : Int) := by omega
      have g3 : (nb : Int) ≤ (mz : Int) := by omega
      have g4 : (0 : Int) ≤ (nb : Int) := by omega
      obtain ⟨_, _, ex, x1, _, _⟩ := (K16.out.all 2 _ rfl : SS w16 (.slice ar m cr) xs).opened
      have g5 : na ≤ cr := by
        injection ex with _ _ e3
        omega
      obtain ⟨_, _, ex', x1', _, _⟩ := (K16.out.all 4 _ rfl : SS w16 (.slice az mz cz) zs).opened
      have g6 : nb ≤ cz := by
        injection ex' with _ _ e3
        omega
      clear ex x1 ex' x1' hlj tj HPB HCX
      go_upto_region 25 with fail
      by_cases hab : na = nb
      · subst hab
        have HSA : Hid (∀ W, Below wx.heap.size wx W → SS W (.slice ar na cr) (xs.take na) ∧ SS W (.slice az na cz) (zs.take na)) := Lib.hid (fun W hW => ⟨((HKx.out.step hW).all 2 _ rfl : SS W (.slice ar m cr) xs).cut na hnam, ((HKx.out.step hW).all 4 _ rfl : SS W (.slice az mz cz) zs).cut na hnbm⟩)
        obtain ⟨B, hB⟩ : ∃ B, B = decide (xs.take na = zs.take na) := ⟨_, rfl⟩
        have HSM : Hid (∀ W, Below wx.heap.size wx W → Calls Tryz.prog 39 #[.slice ar na cr, .slice az na cz] W fun e w' => e = .returned (.bool B) ∧ Below W.heap.size W w') := Lib.hid (fun W hW => by
          rw [hB]
          exact same2_any (HSA.out W hW).1 (HSA.out W hW).2)
        have HBF : Hid (B = false → xs.take na ≠ zs.take na) := Lib.hid (fun h => by rw [hB] at h; exact of_decide_eq_false h)
        clear hB
        refine wp_region_noPanic ?_
        refine wp_region_lexB [.q 0, .q 1, .q 2, .q 3, .q 4, .q 5, .q 6, .q 7, .q 8, .q 9, .q 10, .q 11, .b 12, .q 13] (by kernel_rfl) (by kernel_rfl) (fun _ _ _ _ h => h) ?_
        refine wpFl_qL (v := ?_) rfl (Or.inl ⟨by rfl, ?_⟩) ?_
        rotate_left
        focus (intro w' hSw; (try dsimp only [OldKept] at hSw); obtain ⟨r1, z1⟩ := HCELL.out w' hSw; go_simp; (try with_reducible rfl); done)
        simp only [Act.put, List.setIfInBounds_toArray, List.set_cons_zero, List.set_cons_succ]
        refine wpFl_qL (v := ?_) rfl (Or.inl ⟨by rfl, ?_⟩) ?_
        rotate_left
        focus (intro w' hSw; (try dsimp only [OldKept] at hSw); obtain ⟨r1, z1⟩ := HCELL.out w' hSw; go_simp; (try with_reducible rfl); done)
        simp only [Act.put, List.setIfInBounds_toArray, List.set_cons_zero, List.set_cons_succ]
        refine wpFl_qL (v := ?_) rfl (Or.inl ⟨by rfl, ?_⟩) ?_
        rotate_left
        focus (intro w' hSw; (try dsimp only [OldKept] at hSw); obtain ⟨r1, z1⟩ := HCELL.out w' hSw; go_simp; (try with_reducible rfl); done)
        simp only [Act.put, List.setIfInBounds_toArray, List.set_cons_zero, List.set_cons_succ]
        refine wpFl_qL (v := ?_) rfl (Or.inl ⟨by rfl, ?_⟩) ?_
        rotate_left
        focus (intro w' hSw; (try dsimp only [OldKept] at hSw); obtain ⟨r1, z1⟩ := HCELL.out w' hSw; go_simp; (try with_reducible rfl); done)
        simp only [Act.put, List.setIfInBounds_toArray, List.set_cons_zero, List.set_cons_succ]
        refine wpFl_qL (v := ?_) rfl (Or.inl ⟨by rfl, ?_⟩) ?_
        rotate_left
        focus (intro w' hSw; (try dsimp only [OldKept] at hSw); obtain ⟨r1, z1⟩ := HCELL.out w' hSw; go_simp; (try with_reducible rfl); done)
        simp only [Act.put, List.setIfInBounds_toArray, List.set_cons_zero, List.set_cons_succ]
        refine wpFl_qL (v := ?_) rfl (Or.inl ⟨by rfl, ?_⟩) ?_
        rotate_left
        focus (intro w' hSw; (try dsimp only [OldKept] at hSw); obtain ⟨r1, z1⟩ := HCELL.out w' hSw; go_simp; (try with_reducible rfl); done)
        simp only [Act.put, List.setIfInBounds_toArray, List.set_cons_zero, List.set_cons_succ]
        refine wpFl_qL (v := ?_) rfl (Or.inl ⟨by rfl, ?_⟩) ?_
        rotate_left
        focus (intro w' hSw; (try dsimp only [OldKept] at hSw); obtain ⟨r1, z1⟩ := HCELL.out w' hSw; go_simp; (try with_reducible rfl); done)
        simp only [Act.put, List.setIfInBounds_toArray, List.set_cons_zero, List.set_cons_succ]
        refine wpFl_qL (v := ?_) rfl (Or.inl ⟨by rfl, ?_⟩) ?_
        rotate_left
        focus (intro w' hSw; (try dsimp only [OldKept] at hSw); obtain ⟨r1, z1⟩ := HCELL.out w' hSw; go_simp; (try with_reducible rfl); done)
        simp only [Act.put, List.setIfInBounds_toArray, List.set_cons_zero, List.set_cons_succ]
        refine wpFl_qL (v := ?_) rfl (Or.inl ⟨by rfl, ?_⟩) ?_
        rotate_left
        focus (intro w' hSw; (try dsimp only [OldKept] at hSw); obtain ⟨r1, z1⟩ := HCELL.out w' hSw; go_simp; (try with_reducible rfl); done)
        simp only [Act.put, List.setIfInBounds_toArray, List.set_cons_zero, List.set_cons_succ]
        refine wpFl_qL (v := ?_) rfl (Or.inl ⟨by rfl, ?_⟩) ?_
        rotate_left
        focus (intro w' hSw; (try dsimp only [OldKept] at hSw); obtain ⟨r1, z1⟩ := HCELL.out w' hSw; go_simp; (try with_reducible rfl); done)
        simp only [Act.put, List.setIfInBounds_toArray, List.set_cons_zero, List.set_cons_succ]
        refine wpFl_qL (v := ?_) rfl (Or.inl ⟨by rfl, ?_⟩) ?_
        rotate_left
        focus (intro w' hSw; (try dsimp only [OldKept] at hSw); obtain ⟨r1, z1⟩ := HCELL.out w' hSw; go_simp; (try with_reducible rfl); done)
        simp only [Act.put, List.setIfInBounds_toArray, List.set_cons_zero, List.set_cons_succ]
        refine wpFl_qL (v := ?_) rfl (Or.inl ⟨by rfl, ?_⟩) ?_
        rotate_left
        focus (intro w' hSw; (try dsimp only [OldKept] at hSw); obtain ⟨r1, z1⟩ := HCELL.out w' hSw; go_simp; (try with_reducible rfl); done)
        simp only [Act.put, List.setIfInBounds_toArray, List.set_cons_zero, List.set_cons_succ]
        refine wpFl_bL rfl (fun w17 hn17 hs17 K hK => ?_)
        go_simp
        go_at_call 39
        refine (HSM.out _ hs17).mono ?_
        rintro e w18 ⟨rfl, hb18⟩
        have HB18 := Lib.hid (below_next hs17 hb18)
        refine hK.out _ _ HB18.out (Keeps.below hb18) ?_
        clear hK K hn17 hs17 hb18
        refine wpFl_qL (v := ?_) rfl (Or.inl ⟨by rfl, ?_⟩) ?_
        rotate_left
        focus (intro w' hSw; (try dsimp only [OldKept] at hSw); go_simp; (try with_reducible rfl); done)
        simp only [Act.put, List.setIfInBounds_toArray, List.set_cons_zero, List.set_cons_succ]
        refine wpFl_nil ?_
        refine NoPanic.normal ?_
        cases B with
        | true =>
          have HF := Lib.hid (HKx.out.step HB18.out).below
          go_wp2
          go_ret
          exact ⟨rfl, HF.out⟩
        | false =>
          have HLAW := Lib.hid (convicts_size (key := key) (car := (cn : Int)) HK32.out HV.out HOV.out.1 (by rw [← HM.out]; exact hnam) (by rw [← HMZ.out]; exact hnbm) HISA.out HKSA.out HISL.out HKSL.out (HBF.out rfl))
          rw [← HP.out, ← HQ.out, ← HC.out] at HLAW
          have HX1k : Hid (∀ s ∈ xs.take na, s.size ≤ 1000) := Lib.hid (fun s hs => (valid_parts HV.out).2.2.2 s (List.mem_of_mem_take hs))
          have HZ1k : Hid (∀ s ∈ zs.take na, s.size ≤ 1000) := Lib.hid (fun s hs => (valid_parts HOV.out.1).2.2.2 s (List.mem_of_mem_take hs))
          have HCZ := Lib.hid (fun W hW => HCY.out W (below_next HB18.out hW))
          have HCE := Lib.hid (fun W hW => HCELL.out W (below_next HB18.out hW))
          have HPZ := Lib.hid (fun W hW => HPX.out W (below_next HB18.out hW))
          have HSB := Lib.hid (fun W hW => HSA.out W (below_next HB18.out hW))
          have HKz := Lib.hid (HKx.out.step HB18.out)
          have hLx : (xs.take na).length = na := by rw [List.length_take, ← HM.out]; omega
          have hLz : (zs.take na).length = na := by rw [List.length_take, ← HMZ.out]; omega
          have hl1 := hashedS_len (xs.take na)
          have hl2 := hashedS_len (zs.take na)
          rw [hLx] at hl1
          rw [hLz] at hl2
          have HHx : Hid (∀ W, Below w18.heap.size w18 W → Calls Tryz.prog 32 #[.slice ar na cr] W fun e w' => ∃ v', e = .returned v' ∧ OwnS w' W.heap.size v' (hashedS (xs.take na)) ∧ Below W.heap.size W w') := Lib.hid (fun W hW => hashed_any na na (Nat.le_refl _) hLx (HSB.out W hW).1 (by omega) (fun x hx => by have := HX1k.out x hx; omega))
          have HHz : Hid (∀ W, Below w18.heap.size w18 W → Calls Tryz.prog 32 #[.slice az na cz] W fun e w' => ∃ v', e = .returned v' ∧ OwnS w' W.heap.size v' (hashedS (zs.take na)) ∧ Below W.heap.size W w') := Lib.hid (fun W hW => hashed_any na na (Nat.le_refl _) hLz (HSB.out W hW).2 (by omega) (fun x hx => by have := HZ1k.out x hx; omega))
          have HSx := Lib.hid (hashed_small (xs.take na) HX1k.out)
          have HSz := Lib.hid (hashed_small (zs.take na) HZ1k.out)
          clear HCELL HPX HSA HSM HCY hLx hLz r1 z1
          go_upto_region 27 with fail
          cases C with
          | true =>
            refine wp_region_noPanic ?_
            refine wp_region_lexB [.q 0, .q 1, .q 2, .b 3, .q 4, .q 5, .q 6, .q 7, .q 8, .q 10, .q 11, .q 12, .q 13, .q 9, .q 14, .q 15, .q 16, .q 17] (by kernel_rfl) (by kernel_rfl) (fun _ _ _ _ h => h) ?_
            refine wpFl_qL (v := ?_) rfl (Or.inl ⟨by rfl, ?_⟩) ?_
            rotate_left
            focus (intro w' hSw; (try dsimp only [OldKept] at hSw); obtain ⟨⟨p0, p1, p2, p3, p4⟩, q0, q1, q2, q3, q4⟩ := HPZ.out w' hSw; go_simp; (try with_reducible rfl); done)
            simp only [Act.put, List.setIfInBounds_toArray, List.set_cons_zero, List.set_cons_succ]
            refine wpFl_qL (v := ?_) rfl (Or.inl ⟨by rfl, ?_⟩) ?_
            rotate_left
            focus (intro w' hSw; (try dsimp only [OldKept] at hSw); obtain ⟨⟨p0, p1, p2, p3, p4⟩, q0, q1, q2, q3, q4⟩ := HPZ.out w' hSw; go_simp; (try with_reducible rfl); done)
            simp only [Act.put, List.setIfInBounds_toArray, List.set_cons_zero, List.set_cons_succ]
            refine wpFl_qL (v := ?_) rfl (Or.inl ⟨by rfl, ?_⟩) ?_
            rotate_left
            focus (intro w' hSw; (try dsimp only [OldKept] at hSw); obtain ⟨⟨p0, p1, p2, p3, p4⟩, q0, q1, q2, q3, q4⟩ := HPZ.out w' hSw; go_simp; (try with_reducible rfl); done)
            simp only [Act.put, List.setIfInBounds_toArray, List.set_cons_zero, List.set_cons_succ]
            refine wpFl_bL rfl (fun w19 hn19 hs19 K hK => ?_)
            go_simp
            go_at_call 22
            refine (HCZ.out _ hs19).mono ?_
            rintro e w20 ⟨rfl, hb20⟩
            have HB20 := Lib.hid (below_next hs19 hb20)
            refine hK.out _ _ HB20.out (Keeps.below hb20) ?_
            clear hK K hn19 hs19 hb20
            refine wpFl_qL (v := ?_) rfl (Or.inl ⟨by rfl, ?_⟩) ?_
            rotate_left
            focus (intro w' hSw; (try dsimp only [OldKept] at hSw); go_simp; (try with_reducible rfl); done)
            simp only [Act.put, List.setIfInBounds_toArray, List.set_cons_zero, List.set_cons_succ]
            refine wpFl_qL (v := undef) rfl (Or.inr ⟨by rfl, rfl⟩) ?_
            simp only [Act.put, List.setIfInBounds_toArray, List.set_cons_zero, List.set_cons_succ]
            refine wpFl_qL (v := undef) rfl (Or.inr ⟨by rfl, rfl⟩) ?_
            simp only [Act.put, List.setIfInBounds_toArray, List.set_cons_zero, List.set_cons_succ]
            refine wpFl_qL (v := undef) rfl (Or.inr ⟨by rfl, rfl⟩) ?_
            simp only [Act.put, List.setIfInBounds_toArray, List.set_cons_zero, List.set_cons_succ]
            refine wpFl_qL (v := undef) rfl (Or.inr ⟨by rfl, rfl⟩) ?_
            simp only [Act.put, List.setIfInBounds_toArray, List.set_cons_zero, List.set_cons_succ]
            refine wpFl_qL (v := undef) rfl (Or.inr ⟨by rfl, rfl⟩) ?_
            simp only [Act.put, List.setIfInBounds_toArray, List.set_cons_zero, List.set_cons_succ]
            refine wpFl_qL (v := undef) rfl (Or.inr ⟨by rfl, rfl⟩) ?_
            simp only [Act.put, List.setIfInBounds_toArray, List.set_cons_zero, List.set_cons_succ]
            refine wpFl_qL (v := undef) rfl (Or.inr ⟨by rfl, rfl⟩) ?_
            simp only [Act.put, List.setIfInBounds_toArray, List.set_cons_zero, List.set_cons_succ]
            refine wpFl_qL (v := undef) rfl (Or.inr ⟨by rfl, rfl⟩) ?_
            simp only [Act.put, List.setIfInBounds_toArray, List.set_cons_zero, List.set_cons_succ]
            refine wpFl_qL (v := undef) rfl (Or.inr ⟨by rfl, rfl⟩) ?_
            simp only [Act.put, List.setIfInBounds_toArray, List.set_cons_zero, List.set_cons_succ]
            refine wpFl_qL (v := undef) rfl (Or.inr ⟨by rfl, rfl⟩) ?_
            simp only [Act.put, List.setIfInBounds_toArray, List.set_cons_zero, List.set_cons_succ]
            refine wpFl_qL (v := undef) rfl (Or.inr ⟨by rfl, rfl⟩) ?_
            simp only [Act.put, List.setIfInBounds_toArray, List.set_cons_zero, List.set_cons_succ]
            refine wpFl_qL (v := ?_) rfl (Or.inl ⟨by rfl, ?_⟩) ?_
            rotate_left
            focus (intro w' hSw; (try dsimp only [OldKept] at hSw); go_simp; (try with_reducible rfl); done)
            simp only [Act.put, List.setIfInBounds_toArray, List.set_cons_zero, List.set_cons_succ]
            refine wpFl_qL (v := ?_) rfl (Or.inl ⟨by rfl, ?_⟩) ?_
            rotate_left
            focus (intro w' hSw; (try dsimp only [OldKept] at hSw); go_simp; (try with_reducible rfl); done)
            simp only [Act.put, List.setIfInBounds_toArray, List.set_cons_zero, List.set_cons_succ]
            refine wpFl_nil ?_
            refine NoPanic.normal ?_
            have HF := Lib.hid (HKz.out.step HB20.out).below
            go_wp2
            go_ret
            exact ⟨rfl, HF.out⟩
          | false =>
            have HCOL : Hid (collS (hashedS (xs.take na)) (hashedS (zs.take na)) = true) := Lib.hid (HLAW.out.resolve_left (by decide))
            refine wp_region_noPanic ?_
            refine wp_region_lexB [.q 0, .q 1, .q 2, .b 3, .q 4, .q 5, .q 6, .q 7, .q 8, .q 10, .q 11, .q 12, .q 13, .b 9, .b 14, .b 15, .q 16, .q 17] (by kernel_rfl) (by kernel_rfl) (fun _ _ _ _ h => h) ?_
            refine wpFl_qL (v := ?_) rfl (Or.inl ⟨by rfl, ?_⟩) ?_
            rotate_left
            focus (intro w' hSw; (try dsimp only [OldKept] at hSw); obtain ⟨⟨p0, p1, p2, p3, p4⟩, q0, q1, q2, q3, q4⟩ := HPZ.out w' hSw; go_simp; (try with_reducible rfl); done)
            simp only [Act.put, List.setIfInBounds_toArray, List.set_cons_zero, List.set_cons_succ]
            refine wpFl_qL (v := ?_) rfl (Or.inl ⟨by rfl, ?_⟩) ?_
            rotate_left
            focus (intro w' hSw; (try dsimp only [OldKept] at hSw); obtain ⟨⟨p0, p1, p2, p3, p4⟩, q0, q1, q2, q3, q4⟩ := HPZ.out w' hSw; go_simp; (try with_reducible rfl); done)
            simp only [Act.put, List.setIfInBounds_toArray, List.set_cons_zero, List.set_cons_succ]
            refine wpFl_qL (v := ?_) rfl (Or.inl ⟨by rfl, ?_⟩) ?_
            rotate_left
            focus (intro w' hSw; (try dsimp only [OldKept] at hSw); obtain ⟨⟨p0, p1, p2, p3, p4⟩, q0, q1, q2, q3, q4⟩ := HPZ.out w' hSw; go_simp; (try with_reducible rfl); done)
            simp only [Act.put, List.setIfInBounds_toArray, List.set_cons_zero, List.set_cons_succ]
            refine wpFl_bL rfl (fun w19 hn19 hs19 K hK => ?_)
            go_simp
            go_at_call 22
            refine (HCZ.out _ hs19).mono ?_
            rintro e w20 ⟨rfl, hb20⟩
            have HB20 := Lib.hid (below_next hs19 hb20)
            refine hK.out _ _ HB20.out (Keeps.below hb20) ?_
            clear hK K hn19 hs19 hb20
            refine wpFl_qL (v := ?_) rfl (Or.inl ⟨by rfl, ?_⟩) ?_
            rotate_left
            focus (intro w' hSw; (try dsimp only [OldKept] at hSw); obtain ⟨r1, z1⟩ := HCE.out w' hSw; go_simp; (try with_reducible rfl); done)
            simp only [Act.put, List.setIfInBounds_toArray, List.set_cons_zero, List.set_cons_succ]
            refine wpFl_qL (v := ?_) rfl (Or.inl ⟨by rfl, ?_⟩) ?_
            rotate_left
            focus (intro w' hSw; (try dsimp only [OldKept] at hSw); obtain ⟨r1, z1⟩ := HCE.out w' hSw; go_simp; (try with_reducible rfl); done)
            simp only [Act.put, List.setIfInBounds_toArray, List.set_cons_zero, List.set_cons_succ]
            refine wpFl_qL (v := ?_) rfl (Or.inl ⟨by rfl, ?_⟩) ?_
            rotate_left
            focus (intro w' hSw; (try dsimp only [OldKept] at hSw); obtain ⟨r1, z1⟩ := HCE.out w' hSw; go_simp; (try with_reducible rfl); done)
            simp only [Act.put, List.setIfInBounds_toArray, List.set_cons_zero, List.set_cons_succ]
            refine wpFl_qL (v := ?_) rfl (Or.inl ⟨by rfl, ?_⟩) ?_
            rotate_left
            focus (intro w' hSw; (try dsimp only [OldKept] at hSw); obtain ⟨r1, z1⟩ := HCE.out w' hSw; go_simp; (try with_reducible rfl); done)
            simp only [Act.put, List.setIfInBounds_toArray, List.set_cons_zero, List.set_cons_succ]
            refine wpFl_qL (v := ?_) rfl (Or.inl ⟨by rfl, ?_⟩) ?_
            rotate_left
            focus (intro w' hSw; (try dsimp only [OldKept] at hSw); obtain ⟨r1, z1⟩ := HCE.out w' hSw; go_simp; (try with_reducible rfl); done)
            simp only [Act.put, List.setIfInBounds_toArray, List.set_cons_zero, List.set_cons_succ]
            refine wpFl_qL (v := ?_) rfl (Or.inl ⟨by rfl, ?_⟩) ?_
            rotate_left
            focus (intro w' hSw; (try dsimp only [OldKept] at hSw); obtain ⟨r1, z1⟩ := HCE.out w' hSw; go_simp; (try with_reducible rfl); done)
            simp only [Act.put, List.setIfInBounds_toArray, List.set_cons_zero, List.set_cons_succ]
            refine wpFl_qL (v := ?_) rfl (Or.inl ⟨by rfl, ?_⟩) ?_
            rotate_left
            focus (intro w' hSw; (try dsimp only [OldKept] at hSw); obtain ⟨r1, z1⟩ := HCE.out w' hSw; go_simp; (try with_reducible rfl); done)
            simp only [Act.put, List.setIfInBounds_toArray, List.set_cons_zero, List.set_cons_succ]
            refine wpFl_qL (v := ?_) rfl (Or.inl ⟨by rfl, ?_⟩) ?_
            rotate_left
            focus (intro w' hSw; (try dsimp only [OldKept] at hSw); obtain ⟨r1, z1⟩ := HCE.out w' hSw; go_simp; (try with_reducible rfl); done)
            simp only [Act.put, List.setIfInBounds_toArray, List.set_cons_zero, List.set_cons_succ]
            refine wpFl_qL (v := ?_) rfl (Or.inl ⟨by rfl, ?_⟩) ?_
            rotate_left
            focus (intro w' hSw; (try dsimp only [OldKept] at hSw); obtain ⟨r1, z1⟩ := HCE.out w' hSw; go_simp; (try with_reducible rfl); done)
            simp only [Act.put, List.setIfInBounds_toArray, List.set_cons_zero, List.set_cons_succ]
            refine wpFl_bL rfl (fun w21 hn21 hs21 K hK => ?_)
            go_simp
            go_at_call 32
            (with_reducible refine (HHx.out _ hs21).mono ?_)
            rintro e w22 ⟨v22, rfl, ho22, hb22⟩
            have HO22 := Lib.hid ho22.ss
            refine hK.out _ _ (below_next hs21 hb22) (Keeps.below hb22) ?_
            clear hK K hn21 hs21 hb22 ho22
            refine wpFl_bL rfl (fun w23 hn23 hs23 K hK => ?_)
            go_simp
            go_at_call 32
            (with_reducible refine (HHz.out _ hs23).mono ?_)
            rintro e w24 ⟨v24, rfl, ho24, hb24⟩
            have HO24 := Lib.hid ho24.ss
            have HO22 := Lib.hid (SS.below (SS.below HO22.out hn23) hb24)
            refine hK.out _ _ (below_next hs23 hb24) (Keeps.below hb24) ?_
            clear hK K hn23 hs23 hb24 ho24
            refine wpFl_bL rfl (fun w25 hn25 hs25 K hK => ?_)
            have HCL := Lib.hid (collided_any (SS.below HO22.out hn25) (SS.below HO24.out hn25) (by omega) (by omega) (fun x hx => by have := HSx.out x hx; omega) (fun x hx => by have := HSz.out x hx; omega))
            rw [HCOL.out] at HCL
            go_simp
            go_at_call 31
            refine HCL.out.mono ?_
            rintro e w26 ⟨rfl, hb26⟩
            have HB26 := Lib.hid (below_next hs25 hb26)
            refine hK.out _ _ HB26.out (Keeps.below hb26) ?_
            clear hK K hn25 hs25 hb26
            refine wpFl_qL (v := ?_) rfl (Or.inl ⟨by rfl, ?_⟩) ?_
            rotate_left
            focus (intro w' hSw; (try dsimp only [OldKept] at hSw); go_simp; (try with_reducible rfl); done)
            simp only [Act.put, List.setIfInBounds_toArray, List.set_cons_zero, List.set_cons_succ]
            refine wpFl_qL (v := ?_) rfl (Or.inl ⟨by rfl, ?_⟩) ?_
            rotate_left
            focus (intro w' hSw; (try dsimp only [OldKept] at hSw); go_simp; (try with_reducible rfl); done)
            simp only [Act.put, List.setIfInBounds_toArray, List.set_cons_zero, List.set_cons_succ]
            refine wpFl_nil ?_
            refine NoPanic.normal ?_
            have HF := Lib.hid (HKz.out.step HB26.out).below
            go_wp2
            go_ret
            exact ⟨rfl, HF.out⟩
      · have hb1 : ((na : Int) == (nb : Int)) = false := by simp; omega
        have hb2 : ¬ (na : Int) = (nb : Int) := by omega
        go_quiet (fail)
        have HF := Lib.hid (HKx.out.drewN nq).below
        go_wp2
        go_ret
        exact ⟨rfl, HF.out⟩
end Go.Proofs.YtinfpbkbnhcifaaGreatDoor
