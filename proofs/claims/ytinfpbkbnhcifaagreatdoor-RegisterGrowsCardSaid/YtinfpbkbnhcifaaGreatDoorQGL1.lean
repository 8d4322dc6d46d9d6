/- The walk of RegisterGrows. The conditions: what the slices read as, ranges, the table of constants. -/
import Derived.Test.YtinfpbkbnhcifaaGreatDoorQLW1
namespace Go.Proofs.YtinfpbkbnhcifaaGreatDoor
open Go.RowKit Go.BigFrame

theorem spoiled_at {w0 w : World} {ls : List Dat} (k : Know w0 w ls) (i : Nat) {v : Value} {xs : List ByteArray} (hi : ls[i]? = some (.S v xs)) (how : Int) (hh : I64 how) (hl : xs.length ≤ 1000) (hx : ∀ x ∈ xs, x.size ≤ 1000) :
    Calls Tryz.prog 29 #[v, .int .i64 how] w fun e w' => ∃ (r : Value) (zs : List ByteArray), e = .returned r ∧ Know w0 w' (ls ++ [.S r zs]) ∧ zs.length ≤ xs.length + 1 ∧ ∀ x ∈ zs, x.size ≤ 1000 :=
  (spoiled_any how hh (k.all i _ hi : SS w v xs) hl hx).mono fun _ _ ⟨v', zs, h1, h2, h3, h4, h5⟩ => ⟨v', zs, h1, (k.step h5).put (d := .S v' zs) h2, h3, h4⟩

set_option maxHeartbeats 12000000 in
set_option maxRecDepth 100000 in
theorem grows_law {w : World} (carrier at' mm nn how : Int) {vx vy : Value} {x ys : List Int} (hx : IL w vx x) (hy : IL w vy ys) (ic : I64 carrier) (ix : ∀ n ∈ x, I64 n) (ia : I64 at') (iy : ∀ n ∈ ys, I64 n) (im : I64 mm) (inn : I64 nn) (ih : I64 how) (he : Env w) (hg : 0 < w.heap.size) :
    Calls Tryz.prog 5 #[.int .i64 carrier, vx, .int .i64 at', vy, .int .i64 mm, .int .i64 nn, .int .i64 how] w fun e w' => e = .returned (.bool true) ∧ Below w.heap.size w w' := by
  have hpk := pickI_range carrier (n := 8) (by omega)
  obtain ⟨cn, hcn⟩ := Int.eq_ofNat_of_zero_le hpk.1
  have hc7 : cn ≤ 7 := by omega
  have HV : Hid (validB ⟨(cn : Int), madeL x⟩ = true) := Lib.hid (by rw [← hcn]; exact made_valid carrier x)
  have HOV := Lib.hid (other_valid (car := (cn : Int)) (xs := madeL x) at' ys (by omega) (madeL_len x) (madeL_small x))
  have HIY := Lib.hid iy
  have HIX := Lib.hid ix
  have HX := Lib.hid hx
  have HY := Lib.hid hy
  have HIC := Lib.hid ic
  have HIA := Lib.hid ia
  have HIH := Lib.hid ih
  have K0 := Lib.hid (Know.start he hg)
  clear hpk iy ix hx ic he hg hy ia ih
  obtain ⟨xs, hxs⟩ : ∃ xs, xs = madeL x := ⟨_, rfl⟩
  have hm12 : xs.length ≤ 12 := by rw [hxs]; exact madeL_len x
  rw [← hxs] at HV HOV
  have HXS := Lib.hid hxs
  clear hxs
  obtain ⟨zs, hzs⟩ : ∃ zs, zs = otherL xs at' ys := ⟨_, rfl⟩
  rw [← hzs] at HOV
  have HZS := Lib.hid hzs
  have hz12 := HOV.out.2.1
  clear hzs
  go_enter Tryz.func5, Tryz.ntmps5
  go_wp2_with fail
  refine (sane_at K0.out).mono ?_
  rintro e w1 ⟨rfl, kw1⟩
  have K1 := Lib.hid kw1
  clear kw1 K0
  go_wp2_with fail
  refine (made_at K1.out (HX.out.below K1.out.below) HIX.out carrier HIC.out).mono ?_
  rintro e w2 ⟨vr, rfl, k2⟩
  rw [← HXS.out] at k2
  rw [hcn]
  obtain ⟨ar, cr, rfl⟩ := (k2.all 0 _ rfl : SS w2 vr xs).form2
  simp only [List.nil_append] at k2
  have K2 := Lib.hid k2
  clear k2 K1 HX HIX HIC hcn HXS
  obtain ⟨m, hm⟩ : ∃ m, m = xs.length := ⟨_, rfl⟩
  rw [← hm] at hm12 K2 ⊢
  have HM := Lib.hid hm
  clear hm
  go_upto_region 5 with fail
  have kw3 := K2.out.box #[.int .i64 cn, .slice ar m cr] 26
  obtain ⟨w3, hww3⟩ : ∃ W, W = w2.alloc (.cells #[.int .i64 cn, .slice ar m cr] 26) := ⟨_, rfl⟩
  rw [← hww3] at kw3 ⊢
  clear hww3
  generalize w2.heap.size = rb at kw3 ⊢
  simp only [List.nil_append, List.cons_append] at kw3
  have K3 := Lib.hid kw3
  clear kw3 K2
  obtain ⟨rc0, rc1⟩ := K3.out.duo (i := 1) rfl
  go_wp2_with fail
  refine (other_at K3.out 0 rfl (by rw [← HM.out]; exact hm12) (HY.out.below K3.out.below) HIY.out at' HIA.out cn).mono ?_
  rintro e w4 ⟨vz, rfl, k4⟩
  rw [← HZS.out] at k4
  obtain ⟨az, cz, rfl⟩ := (k4.all 2 _ rfl : SS w4 vz zs).form2
  simp only [List.nil_append, List.cons_append] at k4
  have K4 := Lib.hid k4
  clear k4 K3 HY HIY HIA HZS rc0 rc1
  obtain ⟨mz, hmz⟩ : ∃ m, m = zs.length := ⟨_, rfl⟩
  rw [← hmz] at hz12 K4 ⊢
  have HMZ := Lib.hid hmz
  clear hmz
  go_upto_region 6 with fail
  have kw5 := K4.out.box #[.int .i64 cn, .slice az mz cz] 26
  obtain ⟨w5, hww5⟩ : ∃ W, W = w4.alloc (.cells #[.int .i64 cn, .slice az mz cz] 26) := ⟨_, rfl⟩
  rw [← hww5] at kw5 ⊢
  clear hww5
  generalize w4.heap.size = zb at kw5 ⊢
  simp only [List.nil_append, List.cons_append] at kw5
  have K5 := Lib.hid kw5
  clear kw5 K4
  obtain ⟨rc0, rc1⟩ := K5.out.duo (i := 1) rfl
  go_wp2_with fail
  clear rc0 rc1
  refine (key_at K5.out cn (by omega)).mono ?_
  rintro e w6 ⟨rfl, kw6⟩
  have K6 := Lib.hid kw6
  clear kw6 K5
  have HK32 := Lib.hid (keyS_size (cn : Int))
  generalize keyS (cn : Int) = key at *
  have HPK := Lib.hid (fun W => lpick_any mm ((m : Int) + 1) W im (by omega) (by omega))
  obtain ⟨p0, p1⟩ := pickI_range mm (n := (m : Int) + 1) (by omega)
  obtain ⟨lo, hlo⟩ := Int.eq_ofNat_of_zero_le p0
  rw [hlo] at HPK p1
  have hlom : lo ≤ m := by omega
  have HPZ := Lib.hid (fun W => lpick_any nn ((mz : Int) + 1) W inn (by omega) (by omega))
  obtain ⟨p2, p3⟩ := pickI_range nn (n := (mz : Int) + 1) (by omega)
  obtain ⟨sz, hsz⟩ := Int.eq_ofNat_of_zero_le p2
  rw [hsz] at HPZ p3
  have hszm : sz ≤ mz := by omega
  have f1 : IntKind.i64.wrap ((m : Int) + 1) = (m : Int) + 1 := IntWalk.i64_in _ (by omega)
  have f2 : IntKind.i64.wrap ((mz : Int) + 1) = (mz : Int) + 1 := IntWalk.i64_in _ (by omega)
  clear hlo hsz p0 p1 p2 p3 im inn
  obtain ⟨rc0, rc1⟩ := K6.out.duo (i := 1) rfl
  go_wp2_with (go_at_call 16; (with_reducible refine (HPK.out _).mono ?_); rintro e w' ⟨rfl, hw'⟩; replace hw' := hw'.symm; subst hw')
  clear rc0 rc1 f1 HPK
  refine (sign_at K6.out 0 rfl key cn lo HK32.out HV.out (by rw [← HM.out]; exact hlom)).mono ?_
  rintro e w7 ⟨rfl, kw7⟩
  have K7 := Lib.hid kw7
  clear kw7 K6
  obtain ⟨h, hh⟩ : ∃ h, h = headS key cn xs lo := ⟨_, rfl⟩
  rw [← hh]
  obtain ⟨o1, o2, o3, o4⟩ := h
  have HO := Lib.hid hh
  clear hh
  simp only [hbox]
  go_upto_region 9 with fail
  have kw8 := K7.out.box #[.int .i64 o1, .int .i64 o2, .string o3, .string o4] 35
  obtain ⟨w8, hww8⟩ : ∃ W, W = w7.alloc (.cells #[.int .i64 o1, .int .i64 o2, .string o3, .string o4] 35) := ⟨_, rfl⟩
  rw [← hww8] at kw8 ⊢
  clear hww8
  generalize w7.heap.size = ob at kw8 ⊢
  simp only [List.nil_append, List.cons_append] at kw8
  have K8 := Lib.hid kw8
  clear kw8 K7
  obtain ⟨rc0, rc1⟩ := K8.out.duo (i := 1) rfl
  go_wp2_with fail
  clear rc0 rc1
  refine (sign_at K8.out 0 rfl key cn m HK32.out HV.out (by rw [← HM.out]; exact Nat.le_refl _)).mono ?_
  rintro e w9 ⟨rfl, kw9⟩
  have K9 := Lib.hid kw9
  clear kw9 K8
  obtain ⟨h, hh⟩ : ∃ h, h = headS key cn xs m := ⟨_, rfl⟩
  rw [← hh]
  obtain ⟨g1, g2, g3, g4⟩ := h
  have HGd := Lib.hid hh
  clear hh
  simp only [hbox]
  go_upto_region 10 with fail
  have kw10 := K9.out.box #[.int .i64 g1, .int .i64 g2, .string g3, .string g4] 35
  obtain ⟨w10, hww10⟩ : ∃ W, W = w9.alloc (.cells #[.int .i64 g1, .int .i64 g2, .string g3, .string g4] 35) := ⟨_, rfl⟩
  rw [← hww10] at kw10 ⊢
  clear hww10
  generalize w9.heap.size = gb at kw10 ⊢
  simp only [List.nil_append, List.cons_append] at kw10
  have K10 := Lib.hid kw10
  clear kw10 K9
  obtain ⟨rc0, rc1⟩ := K10.out.duo (i := 1) rfl
  go_wp2_with fail
  clear rc0 rc1
  obtain ⟨pf, hpf, hpl, hps⟩ := grown_facts HV.out (n := m) (by rw [← HM.out]; exact Nat.le_refl _) hlom
  refine (grown_at K10.out 0 rfl cn lo m HV.out (by rw [← HM.out]; exact Nat.le_refl _) hlom pf hpf).mono ?_
  rintro e w11 ⟨vp, rfl, k11⟩
  obtain ⟨ap, cp, rfl⟩ := (k11.all 6 _ rfl : SS w11 vp pf).form2
  simp only [List.nil_append, List.cons_append] at k11
  have K11 := Lib.hid k11
  clear k11 K10
  have HEX : Hid (extendsB key ⟨o1, o2, o3, o4⟩ ⟨g1, g2, g3, g4⟩ pf = true) := Lib.hid (by
    rw [HO.out, HGd.out, ← grown_is hpf]
    exact grown_extends key cn xs lo m HK32.out (by omega) (by omega) (by rw [← HM.out]; exact Nat.le_refl _) hlom)
  have hr3 : o3.size = 32 := by
    have := congrArg (fun h : HeadP => h.root) HO.out
    simp only at this
    rw [this]; exact rootB_size _
  have hr3' : g3.size = 32 := by
    have := congrArg (fun h : HeadP => h.root) HGd.out
    simp only at this
    rw [this]; exact rootB_size _
  have HPS := Lib.hid hps
  clear hpf hps
  obtain ⟨h0, h1, h2, h3⟩ := four_cells (K11.out.all 4 _ rfl)
  obtain ⟨i0, i1, i2, i3⟩ := four_cells (K11.out.all 5 _ rfl)
  go_wp2_with fail
  clear h0 h1 h2 h3 i0 i1 i2 i3
  refine (extends_at K11.out 6 rfl key ⟨o1, o2, o3, o4⟩ ⟨g1, g2, g3, g4⟩ (by rw [HK32.out]; omega) (by show o3.size ≤ 1000; omega) (by show g3.size ≤ 1000; omega) (by omega) true HEX.out).mono ?_
  rintro e w12 ⟨rfl, kw12⟩
  have K12 := Lib.hid kw12
  clear kw12 K11
  obtain ⟨zc0, zc1⟩ := K12.out.duo (i := 3) rfl
  go_wp2_with (go_at_call 16; (with_reducible refine (HPZ.out _).mono ?_); rintro e w' ⟨rfl, hw'⟩; replace hw' := hw'.symm; subst hw')
  clear zc0 zc1 f2 HPZ
  refine (sign_at K12.out 2 rfl key cn sz HK32.out HOV.out.1 (by rw [← HMZ.out]; exact hszm)).mono ?_
  rintro e w13 ⟨rfl, kw13⟩
  have K13 := Lib.hid kw13
  clear kw13 K12
  obtain ⟨h, hh⟩ : ∃ h, h = headS key cn zs sz := ⟨_, rfl⟩
  rw [← hh]
  obtain ⟨s1, s2, s3, s4⟩ := h
  have HS := Lib.hid hh
  have hr3s : s3.size = 32 := by
    have := congrArg (fun h : HeadP => h.root) HS.out
    simp only at this
    rw [this]; exact rootB_size _
  clear hh
  simp only [hbox]
  go_upto_region 15 with fail
  have kw14 := K13.out.box #[.int .i64 s1, .int .i64 s2, .string s3, .string s4] 35
  obtain ⟨w14, hww14⟩ : ∃ W, W = w13.alloc (.cells #[.int .i64 s1, .int .i64 s2, .string s3, .string s4] 35) := ⟨_, rfl⟩
  rw [← hww14] at kw14 ⊢
  clear hww14
  generalize w13.heap.size = sb at kw14 ⊢
  simp only [List.nil_append, List.cons_append] at kw14
  have K14 := Lib.hid kw14
  clear kw14 K13
  obtain ⟨zc0, zc1⟩ := K14.out.duo (i := 3) rfl
  go_wp2_with fail
  clear zc0 zc1
  have emin : min (lo : Int) (sz : Int) = ((min lo sz : Nat) : Int) := by omega
  rw [emin]
  clear emin
  obtain ⟨ow, how', hol, hos⟩ := grown_facts HOV.out.1 (n := sz) (m := min lo sz) (by rw [← HMZ.out]; exact hszm) (by omega)
  refine (grown_at K14.out 2 rfl cn (min lo sz) sz HOV.out.1 (by rw [← HMZ.out]; exact hszm) (by omega) ow how').mono ?_
  rintro e w15 ⟨vo, rfl, k15⟩
  obtain ⟨ao, co, rfl⟩ := (k15.all 8 _ rfl : SS w15 vo ow).form2
  simp only [List.nil_append, List.cons_append] at k15
  have K15 := Lib.hid k15
  have HOS := Lib.hid hos
  clear k15 K14 how' hos
  generalize ((min lo sz : Nat) : Int) = mls at *
  go_wp2_with fail
  refine (spoiled_at K15.out 8 rfl how HIH.out (by omega) HOS.out).mono ?_
  rintro e w16 ⟨v1, l1, rfl, k16, h1l, h1s⟩
  obtain ⟨a1, c1, rfl⟩ := (k16.all 9 _ rfl : SS w16 v1 l1).form2
  simp only [List.nil_append, List.cons_append] at k16
  have K16 := Lib.hid k16
  have H1S := Lib.hid h1s
  clear k16 K15 h1s
  go_wp2_with fail
  refine (spoiled_at K16.out 6 rfl how HIH.out (by omega) HPS.out).mono ?_
  rintro e w17 ⟨v2, l2, rfl, k17, h2l, h2s⟩
  obtain ⟨a2, c2, rfl⟩ := (k17.all 10 _ rfl : SS w17 v2 l2).form2
  simp only [List.nil_append, List.cons_append] at k17
  have K17 := Lib.hid k17
  have H2S := Lib.hid h2s
  clear k17 K16 h2s
  go_wp2
  have kw18 := K17.out.box #[.slice ap pf.length cp, .slice ao ow.length co, .slice a1 l1.length c1, .slice a2 l2.length c2] 24
  obtain ⟨w18, hww18⟩ : ∃ W, W = w17.alloc (.cells #[.slice ap pf.length cp, .slice ao ow.length co, .slice a1 l1.length c1, .slice a2 l2.length c2] 24) := ⟨_, rfl⟩
  rw [← hww18] at kw18 ⊢
  clear hww18
  generalize w17.heap.size = qb at kw18 ⊢
  simp only [List.nil_append, List.cons_append] at kw18
  have K18 := Lib.hid kw18
  clear kw18 K17
  have HZ4 : Hid (∀ k : Nat, k < 4 → ∃ a c zl, (#[.slice ap pf.length cp, .slice ao ow.length co, .slice a1 l1.length c1, .slice a2 l2.length c2] : Array Value)[k]? = some (.slice a zl.length c) ∧ SS w18 (.slice a zl.length c) zl ∧ zl.length ≤ 62 ∧ ∀ s ∈ zl, s.size ≤ 1000) := Lib.hid (fun k hk => by
    rcases (by omega : k = 0 ∨ k = 1 ∨ k = 2 ∨ k = 3) with rfl | rfl | rfl | rfl
    · exact ⟨_, _, pf, rfl, K18.out.all 6 _ rfl, by omega, HPS.out⟩
    · exact ⟨_, _, ow, rfl, K18.out.all 8 _ rfl, by omega, HOS.out⟩
    · exact ⟨_, _, l1, rfl, K18.out.all 9 _ rfl, by omega, H1S.out⟩
    · exact ⟨_, _, l2, rfl, K18.out.all 10 _ rfl, by omega, H2S.out⟩)
  have HQB : Hid (w18.heap[qb]? = some (.cells #[.slice ap pf.length cp, .slice ao ow.length co, .slice a1 l1.length c1, .slice a2 l2.length c2] 24 (0, 0))) := Lib.hid (K18.out.all 11 _ rfl)
  generalize pf.length = npf at *
  generalize ow.length = now at *
  generalize l1.length = nl1 at *
  generalize l2.length = nl2 at *
  generalize (#[.slice ap npf cp, .slice ao now co, .slice a1 nl1 c1, .slice a2 nl2 c2] : Array Value) = QC at *
  obtain ⟨x', y', ex, x1, x2, x3⟩ := (K18.out.all 0 _ rfl : SS w18 (.slice ar m cr) xs).opened
  have ear : ar = x' := by injection ex
  have g5 : lo ≤ cr := by
    injection ex with _ _ e3
    omega
  rw [← ear] at x3
  have HX3 := Lib.hid x3
  clear ex x1 x2 x3 ear
  obtain ⟨x', y', ex, x1, x2, x3⟩ := (K18.out.all 2 _ rfl : SS w18 (.slice az mz cz) zs).opened
  have ear : az = x' := by injection ex
  have g6 : sz ≤ cz := by
    injection ex with _ _ e3
    omega
  rw [← ear] at x3
  have HZ3 := Lib.hid x3
  clear ex x1 x2 x3 ear
  have HOBJ : Hid (∀ W, Below w18.heap.size w18 W → (W.cell? ⟨ob, 0, none⟩ = some (.int .i64 o1) ∧ W.cell? ⟨ob, 1, none⟩ = some (.int .i64 o2) ∧ W.cell? ⟨ob, 2, none⟩ = some (.string o3) ∧ W.cell? ⟨ob, 3, none⟩ = some (.string o4)) ∧ (W.cell? ⟨sb, 0, none⟩ = some (.int .i64 s1) ∧ W.cell? ⟨sb, 1, none⟩ = some (.int .i64 s2) ∧ W.cell? ⟨sb, 2, none⟩ = some (.string s3) ∧ W.cell? ⟨sb, 3, none⟩ = some (.string s4)) ∧ W.cell? ⟨rb, 1, none⟩ = some (.slice ar m cr) ∧ W.cell? ⟨zb, 1, none⟩ = some (.slice az mz cz)) := Lib.hid (fun W hW =>
    ⟨four_cells ((K18.out.step hW).all 4 _ rfl), four_cells ((K18.out.step hW).all 7 _ rfl), ((K18.out.step hW).duo (i := 1) rfl).2, ((K18.out.step hW).duo (i := 3) rfl).2⟩)
  have HB0 : Hid (Below w18.heap.size w18 w18) := Lib.hid (Below.refl _ _)
  clear hpl hol h1l h2l HEX hr3'
  go_loopw [134] (fun i wr => ∃ k : Nat, k ≤ 4 ∧ i = .int .i64 k ∧ Hid (Below w18.heap.size w18 wr)) (fun i _ => 4 - (intOf i).toNat)
  case atStart => exact ⟨0, by omega, rfl, HB0⟩
  case round =>
    clear HB0
    obtain ⟨k, hk, rfl, hB⟩ := hrel
    by_cases hlk : k < 4
    · obtain ⟨va, vc, zl, hcell, hzss, hzl, hzs'⟩ := HZ4.out k hlk
      have HZS' := Lib.hid hzs'
      have KX := Lib.hid ((K18.out.step hB.out).put (d := .S (.slice va zl.length vc) zl) (SS.below hzss hB.out))
      have HZSS := Lib.hid hzss
      have zc : wr.cell? ⟨qb, k, none⟩ = some (.slice va zl.length vc) := by rw [cell_of_row wr qb k _ _ _ (kept_block HQB.out hB.out)]; exact hcell
      have tk : (k : Int) < 4 := by omega
      have tk0 : (0 : Int) ≤ (k : Int) := by omega
      obtain ⟨⟨h0, h1, h2, h3⟩, ⟨i0, i1, i2, i3⟩, _, _⟩ := HOBJ.out wr hB.out
      obtain ⟨b, hb⟩ : ∃ b, b = extendsB key ⟨o1, o2, o3, o4⟩ ⟨s1, s2, s3, s4⟩ zl := ⟨_, rfl⟩
      have HBX := Lib.hid hb
      obtain ⟨nz, hnz⟩ : ∃ nz, nz = zl.length := ⟨_, rfl⟩
      have HEx := Lib.hid (extends_at KX.out.here 12 rfl key ⟨o1, o2, o3, o4⟩ ⟨s1, s2, s3, s4⟩ (by rw [HK32.out]; omega) (by show o3.size ≤ 1000; omega) (by show s3.size ≤ 1000; omega) (by omega) b hb.symm)
      rw [← hnz] at HEx zc hzl HZSS
      have HNZ := Lib.hid hnz
      simp only [hbox] at HEx
      clear hb hcell hzss hzs' hnz KX
      go_wp2_with fail
      refine HEx.out.mono ?_
      rintro e w20 ⟨rfl, k20⟩
      have HB20 := Lib.hid (below_next hB.out k20.below)
      clear k20 h0 h1 h2 h3 i0 i1 i2 i3 zc hB HEx
      cases b with
      | false =>
        go_wp2
        go_roundw
        case rel => exact ⟨k + 1, by omega, by go_num, HB20⟩
        case measure => simp [intOf]; omega
      | true =>
        have hlaw := grown_law (key := key) (car := (cn : Int)) (car' := (cn : Int)) (xs := xs) (ys := zs) (m := lo) (n := sz) (pr := zl) (by rw [← HM.out]; exact hlom) (by rw [← HMZ.out]; exact hszm) (by rw [← HO.out, ← HS.out]; exact HBX.out.symm)
        obtain ⟨hls, hdg, hcol⟩ := hlaw
        have HCOL := Lib.hid hcol
        have tls : ¬ (sz : Int) < (lo : Int) := by omega
        clear hcol hdg
        go_wp2
        have hdd : decide (sz < lo) = false := decide_eq_false (by omega)
        rw [hdd]
        clear hdd
        go_loopw [33] (fun i wr => ∃ j : Nat, j ≤ lo ∧ i = .int .i64 j ∧ Hid (Below w18.heap.size w18 wr)) (fun i _ => lo - (intOf i).toNat)
        case atStart => exact ⟨0, by omega, rfl, HB20⟩
        case round =>
          clear HB20
          obtain ⟨j, hj, rfl, hB⟩ := hrel
          by_cases hlj : j < lo
          · obtain ⟨sx, esx⟩ : ∃ u, xs[j]? = some u := ⟨_, List.getElem?_eq_getElem (by rw [← HM.out]; omega)⟩
            obtain ⟨sy, esy⟩ : ∃ u, zs[j]? = some u := ⟨_, List.getElem?_eq_getElem (by rw [← HMZ.out]; omega)⟩
            obtain ⟨bx, ox, eax, hbx, cx0⟩ := HX3.out j sx esx
            obtain ⟨bz, oz, eaz, hbz, cz0⟩ := HZ3.out j sy esy
            subst eax eaz
            have z5 : wr.cell? ⟨bx, ox + j, none⟩ = some (.string sx) := cell_keepB hB.out hbx cx0
            have z6 : wr.cell? ⟨bz, oz + j, none⟩ = some (.string sy) := cell_keepB hB.out hbz cz0
            obtain ⟨_, _, r1, z1⟩ := HOBJ.out wr hB.out
            have tj : (j : Int) < (lo : Int) := by omega
            have tj0 : (0 : Int) ≤ (j : Int) := by omega
            have tjm : (j : Int) < (m : Int) := by omega
            have tjz : (j : Int) < (mz : Int) := by omega
            have HLW := Lib.hid (HCOL.out j hlj)
            rw [List.getD_eq_getElem?_getD, List.getD_eq_getElem?_getD, esx, esy] at HLW
            clear esx esy cx0 cz0
            by_cases hss : sx = sy
            · subst hss
              go_upto_region 27 with fail
              go_quiet (fail)
              have HBq : Hid (Below w18.heap.size w18 (wr.drewN nq)) := Lib.hid (below_drewN hB.out nq)
              go_wp2
              go_roundw
              case rel => exact ⟨j + 1, by omega, by go_num, HBq⟩
              case measure => simp [intOf]; omega
            · have hst : (sx.toList == sy.toList) = false := by rw [same_str]; exact decide_eq_false hss
              have HCL : Hid (collS (hashedS (xs.take lo) ++ hashedS (zs.take sz) ++ (grewS o3 zl.reverse lo sz true).1) (hashedS (xs.take lo) ++ hashedS (zs.take sz) ++ (grewS o3 zl.reverse lo sz true).1) = true) := Lib.hid (by
                have ho3 : o3 = rootB (xs.take lo) := congrArg (fun h : HeadP => h.root) HO.out
                have h1 := HLW.out
                rw [← ho3] at h1
                exact h1.resolve_left (fun e => hss e))
              go_upto_region 27 with fail
              go_quiet (fail)
              have HBq : Hid (Below w18.heap.size w18 (wr.drewN nq)) := Lib.hid (below_drewN hB.out nq)
              clear z5 z6 r1 z1 hB HLW hst
              generalize wr.drewN nq = wq at *
              have HGr := Lib.hid (rgrew_any nz (w := wq) (v := .slice va nz vc) (pr := zl) lo sz o3 true HNZ.out.symm (SS.below HZSS.out HBq.out) (by omega) (by omega) (by omega) (by omega) HZS'.out (by omega))
              have hgf := grew_facts o3 (by omega) zl.reverse (fun x hx => HZS'.out x (List.mem_reverse.1 hx)) lo sz true
              have HGS := Lib.hid (grew_small o3 (by omega) zl.reverse (fun x hx => HZS'.out x (List.mem_reverse.1 hx)) lo sz true)
              have hgl := hgf.1
              rw [List.length_reverse, ← HNZ.out] at hgl
              clear hgf
              generalize (grewS o3 zl.reverse lo sz true).1 = G1 at *
              generalize (grewS o3 zl.reverse lo sz true).2.1 = G2 at *
              generalize (grewS o3 zl.reverse lo sz true).2.2 = G3 at *
              obtain ⟨⟨_, _, h2, _⟩, _, _, _⟩ := HOBJ.out wq HBq.out
              go_upto_region 29 with (go_at_call 36; refine HGr.out.mono ?_; rintro e w22 ⟨vg, rfl, hog, hbg⟩; obtain ⟨ag, cg, hvg⟩ := OwnE.form hog; subst hvg; have HSG := Lib.hid hog.ss; have HB22 := Lib.hid (below_next HBq.out hbg); clear hog hbg)
              clear h2 HGr HBq
              have HX1k : Hid (∀ s ∈ xs.take lo, s.size ≤ 1000) := Lib.hid (fun s hs => (valid_parts HV.out).2.2.2 s (List.mem_of_mem_take hs))
              have HZ1k : Hid (∀ s ∈ zs.take sz, s.size ≤ 1000) := Lib.hid (fun s hs => (valid_parts HOV.out.1).2.2.2 s (List.mem_of_mem_take hs))
              have hLx : (xs.take lo).length = lo := by rw [List.length_take, ← HM.out]; omega
              have hLz : (zs.take sz).length = sz := by rw [List.length_take, ← HMZ.out]; omega
              have hl1 := hashedS_len (xs.take lo)
              have hl2 := hashedS_len (zs.take sz)
              rw [hLx] at hl1
              rw [hLz] at hl2
              have HHx : Hid (∀ W, Below w22.heap.size w22 W → Calls Tryz.prog 32 #[.slice (some ⟨bx, ox, none⟩) lo cr] W fun e w' => ∃ v', e = .returned v' ∧ OwnS w' W.heap.size v' (hashedS (xs.take lo)) ∧ Below W.heap.size W w') := Lib.hid (fun W hW => hashed_any lo lo (Nat.le_refl _) hLx (((K18.out.step (below_next HB22.out hW)).all 0 _ rfl : SS W (.slice (some ⟨bx, ox, none⟩) m cr) xs).cut lo hlom) (by omega) (fun x hx => by have := HX1k.out x hx; omega))
              have HHz : Hid (∀ W, Below w22.heap.size w22 W → Calls Tryz.prog 32 #[.slice (some ⟨bz, oz, none⟩) sz cz] W fun e w' => ∃ v', e = .returned v' ∧ OwnS w' W.heap.size v' (hashedS (zs.take sz)) ∧ Below W.heap.size W w') := Lib.hid (fun W hW => hashed_any sz sz (Nat.le_refl _) hLz (((K18.out.step (below_next HB22.out hW)).all 2 _ rfl : SS W (.slice (some ⟨bz, oz, none⟩) mz cz) zs).cut sz hszm) (by omega) (fun x hx => by have := HZ1k.out x hx; omega))
              have HALL : Hid (∀ x ∈ hashedS (xs.take lo) ++ hashedS (zs.take sz) ++ G1, x.size ≤ 1000000) := Lib.hid (fun x hx => by
                rcases List.mem_append.1 hx with hx | hx
                · rcases List.mem_append.1 hx with hx | hx
                  · have := hashed_small (xs.take lo) HX1k.out x hx; omega
                  · have := hashed_small (zs.take sz) HZ1k.out x hx; omega
                · have := HGS.out x hx; omega)
              have g1 : (lo : Int) ≤ (m : Int) := by omega
              have g2 : (0 : Int) ≤ (lo : Int) := by omega
              have g3 : (sz : Int) ≤ (mz : Int) := by omega
              have g4 : (0 : Int) ≤ (sz : Int) := by omega
              have HCE : Hid (∀ W, Below w22.heap.size w22 W → W.cell? ⟨rb, 1, none⟩ = some (.slice (some ⟨bx, ox, none⟩) m cr) ∧ W.cell? ⟨zb, 1, none⟩ = some (.slice (some ⟨bz, oz, none⟩) mz cz)) := Lib.hid (fun W hW => ⟨(HOBJ.out W (below_next HB22.out hW)).2.2.1, (HOBJ.out W (below_next HB22.out hW)).2.2.2⟩)
              clear hLx hLz HX1k HZ1k HGS tj tj0 tjm tjz hss
              generalize hashedS (xs.take lo) = HX at *
              generalize hashedS (zs.take sz) = HZ at *
              refine wp_region_noPanic ?_
              refine wp_region_lexB [.an 0, .q 1, .q 2, .q 3, .q 4, .q 7, .q 8, .q 9, .q 10, .b 5, .co 0, .b 6, .b 11, .b 12, .q 13] (by kernel_rfl) (by kernel_rfl) (fun _ _ _ _ h => h) ?_
              refine wpFl_anL rfl (.cells #[] 9 (0, 0)) (fun n => .slice (some ⟨n, 0, none⟩) 0 0) ⟨by rfl, fun w' => ?_⟩ ?_
              focus (go_simp; done)
              refine wpFl_qL (v := ?_) rfl (Or.inl ⟨by rfl, ?_⟩) ?_
              rotate_left
              focus (intro w' hSw; (try dsimp only [OldKept] at hSw); obtain ⟨r1, z1⟩ := HCE.out w' hSw; go_simp; (try with_reducible rfl); done)
              simp only [Act.put, List.setIfInBounds_toArray, List.set_cons_zero, List.set_cons_succ]
              refine wpFl_qL (v := ?_) rfl (Or.inl ⟨by rfl, ?_⟩) ?_
              rotate_left
              focus (intro w' hSw; (try dsimp only [OldKept] at hSw); obtain ⟨r1, z1⟩ := HCE.out w' hSw; go_simp; (try with_reducible rfl); done)
              simp only [Act.put, List.setIfInBounds_toArray, List.set_cons_zero, List.set_cons_succ]
              refine wpFl_qL (v := ?_) rfl (Or.inl ⟨by rfl, ?_⟩) ?_
              rotate_left
              focus (intro w' hSw; (try dsimp only [OldKept] at hSw); obtain ⟨r1, z1⟩ := HCE.out w' hSw; go_simp; (try with_reducible rfl); done)
              simp only [Act.put, List.setIfInBounds_toArray, List.set_cons_zero, List.set_cons_succ]
              refine wpFl_qL (v := ?_) rfl (Or.inl ⟨by rfl, ?_⟩) ?_
              rotate_left
              focus (intro w' hSw; (try dsimp only [OldKept] at hSw); obtain ⟨r1, z1⟩ := HCE.out w' hSw; go_simp; (try with_reducible rfl); done)
              simp only [Act.put, List.setIfInBounds_toArray, List.set_cons_zero, List.set_cons_succ]
              refine wpFl_qL (v := ?_) rfl (Or.inl ⟨by rfl, ?_⟩) ?_
              rotate_left
              focus (intro w' hSw; (try dsimp only [OldKept] at hSw); obtain ⟨r1, z1⟩ := HCE.out w' hSw; go_simp; (try with_reducible rfl); done)
              simp only [Act.put, List.setIfInBounds_toArray, List.set_cons_zero, List.set_cons_succ]
              refine wpFl_qL (v := ?_) rfl (Or.inl ⟨by rfl, ?_⟩) ?_
              rotate_left
              focus (intro w' hSw; (try dsimp only [OldKept] at hSw); obtain ⟨r1, z1⟩ := HCE.out w' hSw; go_simp; (try with_reducible rfl); done)
              simp only [Act.put, List.setIfInBounds_toArray, List.set_cons_zero, List.set_cons_succ]
              refine wpFl_qL (v := ?_) rfl (Or.inl ⟨by rfl, ?_⟩) ?_
              rotate_left
              focus (intro w' hSw; (try dsimp only [OldKept] at hSw); obtain ⟨r1, z1⟩ := HCE.out w' hSw; go_simp; (try with_reducible rfl); done)
              simp only [Act.put, List.setIfInBounds_toArray, List.set_cons_zero, List.set_cons_succ]
              refine wpFl_qL (v := ?_) rfl (Or.inl ⟨by rfl, ?_⟩) ?_
              rotate_left
              focus (intro w' hSw; (try dsimp only [OldKept] at hSw); obtain ⟨r1, z1⟩ := HCE.out w' hSw; go_simp; (try with_reducible rfl); done)
              simp only [Act.put, List.setIfInBounds_toArray, List.set_cons_zero, List.set_cons_succ]
              refine wpFl_bL rfl (fun w23 hn23 hs23 K hK => ?_)
              go_simp
              go_at_call 32
              (with_reducible refine (HHx.out _ hs23).mono ?_)
              rintro e w24 ⟨v24, rfl, ho24, hb24⟩
              have HO24 := Lib.hid ho24.ss
              refine hK.out _ _ (below_next hs23 hb24) (Keeps.below hb24) ?_
              clear hK K hn23 hs23 hb24 ho24
              refine wpFl_coL rfl (.cells #[] 9 (0, 0)) (fun n => .slice (some ⟨n, 0, none⟩) 0 0) (by rfl) (N' := []) (by rfl) (fun be w25 hn_w25 hs_w25 hb_be hz_be => ?_)
              simp only [Act.put, List.setIfInBounds_toArray, List.set_cons_zero, List.set_cons_succ]
              have HE25 := Lib.hid (OwnS.zero hz_be hb_be)
              have HO25 := Lib.hid (SS.below HO24.out hn_w25)
              clear hz_be hb_be hn_w25 hs_w25 HO24
              refine wpFl_bL rfl (fun w26 hn26 hs26 K hK => ?_)
              have HE26 := Lib.hid (OwnE.far HE25.out hn26 (Nat.le_refl _))
              have HO26 := Lib.hid (SS.below HO25.out hn26)
              refine step_append_all rfl _ _ w22.heap.size (.slice (some ⟨be, 0, none⟩) 0 0) [] HX v24 HE26.out HO26.out (by simp; omega) hs26.size rfl rfl rfl ?_
              intro v27 w27 hown27 hgr27
              rw [List.nil_append] at hown27
              have HB27 : Hid (Below w22.heap.size w22 w27) := Lib.hid (Below.grown hs26 hgr27 hs26.size (fun j e => OwnE.ge HE26.out j e))
              have HO27 := Lib.hid hown27
              refine hK.out _ _ HB27.out Keeps.nil ?_
              clear hK K hn26 hs26 hgr27 hown27 HE25 HO25 HE26 HO26
              simp only [Act.put, List.setIfInBounds_toArray, List.set_cons_zero, List.set_cons_succ]
              refine wpFl_bL rfl (fun w28 hn28 hs28 K hK => ?_)
              go_simp
              go_at_call 32
              (with_reducible refine (HHz.out _ hs28).mono ?_)
              rintro e w29 ⟨v29, rfl, ho29, hb29⟩
              have HO29 := Lib.hid ho29.ss
              have HP29 := Lib.hid (OwnE.far (OwnE.far HO27.out hn28 (Nat.le_refl _)) hb29 (Nat.le_refl _))
              refine hK.out _ _ (below_next hs28 hb29) (Keeps.below hb29) ?_
              clear hK K hn28 hs28 hb29 ho29 HO27
              refine wpFl_bL rfl (fun w30 hn30 hs30 K hK => ?_)
              have HP30 := Lib.hid (OwnE.far HP29.out hn30 (Nat.le_refl _))
              have HO30 := Lib.hid (SS.below HO29.out hn30)
              refine step_append_all rfl _ _ w22.heap.size v27 HX HZ v29 HP30.out HO30.out (by omega) hs30.size rfl rfl rfl ?_
              intro v31 w31 hown31 hgr31
              have HB31 : Hid (Below w22.heap.size w22 w31) := Lib.hid (Below.grown hs30 hgr31 hs30.size (fun j e => OwnE.ge HP30.out j e))
              have HO31 := Lib.hid hown31
              refine hK.out _ _ HB31.out Keeps.nil ?_
              clear hK K hn30 hs30 hgr31 hown31 HP29 HO29 HP30 HO30
              simp only [Act.put, List.setIfInBounds_toArray, List.set_cons_zero, List.set_cons_succ]
              refine wpFl_qL (v := ?_) rfl (Or.inl ⟨by rfl, ?_⟩) ?_
              rotate_left
              focus (intro w' hSw; (try dsimp only [OldKept] at hSw); go_simp; (try with_reducible rfl); done)
              simp only [Act.put, List.setIfInBounds_toArray, List.set_cons_zero, List.set_cons_succ]
              refine wpFl_nil ?_
              refine NoPanic.normal ?_
              have HSG31 := Lib.hid (SS.below HSG.out HB31.out)
              go_upto_region 31 with (at_builtin; refine wpList_append_all rfl _ _ w22.heap.size v31 (HX ++ HZ) G1 _ HO31.out HSG31.out (by rw [List.length_append]; omega) HB31.out.size rfl rfl rfl ?_; intro v33 w33 hown33 hgr33; have HS33 := Lib.hid hown33.ss; have HB33 := Lib.hid (HB31.out.grown hgr33 HB31.out.size (fun j e => OwnE.ge HO31.out j e)); clear hown33 hgr33)
              have HCd := Lib.hid (collided_any HS33.out HS33.out (by rw [List.length_append, List.length_append]; omega) (by rw [List.length_append, List.length_append]; omega) HALL.out HALL.out)
              rw [HCL.out] at HCd
              go_wp2_with (go_at_call 31; refine HCd.out.mono ?_; rintro e w34 ⟨rfl, hb34⟩; have HB34 := Lib.hid (below_next HB22.out (below_next HB33.out hb34)); clear hb34)
              go_roundw
              case rel => exact ⟨j + 1, by omega, by go_num, HB34⟩
              case measure => simp [intOf]; omega
          · have tj : ¬ (j : Int) < (lo : Int) := by omega
            go_wp2
            go_roundw
            case rel => exact ⟨k + 1, by omega, by go_num, hB⟩
            case measure => simp [intOf]; omega
    · have tk : ¬ (k : Int) < 4 := by omega
      have HF := Lib.hid (K18.out.step hB.out).below
      go_wp2
      go_ret
      exact ⟨rfl, HF.out⟩
end Go.Proofs.YtinfpbkbnhcifaaGreatDoor
