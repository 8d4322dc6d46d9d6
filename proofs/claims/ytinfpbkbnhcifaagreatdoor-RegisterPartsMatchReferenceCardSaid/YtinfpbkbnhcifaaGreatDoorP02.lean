/- The walk of the examples with which each statement of the register layer begins. The conditions: the table of constants. -/
import Derived.Deep.DeepCutAuto
import Derived.Test.YtinfpbkbnhcifaaGreatDoorP01
import Derived.Test.YtinfpbkbnhcifaaGreatDoorQ17
namespace Go.Proofs.YtinfpbkbnhcifaaGreatDoor
open Go.RowKit Go.BigFrame

theorem key3_is : keyS ((3 : Nat) : Int) = key3 := by rfl
theorem valid_eight {w0 w : World} {ls : List Dat} (k : Know w0 w ls) : Calls Tryz.prog 44 #[.agg #[.int .i64 8, .slice none 0 0]] w (Says w0 ls (.bool false)) :=
  (valid_any 8 (show SS w (.slice none 0 0) [] from SliceAt.nil w 1)).mono fun _ _ ⟨h1, h2⟩ => ⟨by rw [h1, s_valid], by rw [h2]; exact k.alloc _⟩

set_option linter.unusedSimpArgs false in
set_option maxHeartbeats 12000000 in
set_option maxRecDepth 100000 in
theorem sane_any {w : World} (he : Env w) (hg : 0 < w.heap.size) : Calls Tryz.prog 12 #[] w fun e w' => e = .returned (.bool true) ∧ Below w.heap.size w w' := by
  have K0 := Lib.hid (Know.start he hg)
  clear he hg
  obtain ⟨P, F, S, A, B, Wh, E, x0, x1, g1, g2, g3, HF⟩ : ∃ P F S A B Wh E x0 x1 g1 g2 g3, Hid (Facts P F S A B Wh E x0 x1 g1 g2 g3) := ⟨_, _, _, _, _, _, _, _, _, _, _, _, Lib.hid facts_are⟩
  obtain ⟨⟨Pc, Pz, Pr, Pl⟩, Pi⟩ := P
  obtain ⟨⟨Fc, Fz, Fr, Fl⟩, Fi⟩ := F
  obtain ⟨⟨Sc, Sz, Sr, Sl⟩, Si⟩ := S
  obtain ⟨⟨Ac, Az, Ar, Al⟩, Ai⟩ := A
  obtain ⟨⟨Bc, Bz, Br, Bl⟩, Bi⟩ := B
  obtain ⟨⟨Whc, Whz, Whr, Whl⟩, Whi⟩ := Wh
  obtain ⟨⟨Ec, Ez, Er, El⟩, Ei⟩ := E
  obtain ⟨i0, e0, q0⟩ := x0
  obtain ⟨i1, e1, q1⟩ := x1
  have hPi := HF.out.hP
  simp only at hPi
  subst hPi
  go_enter Tryz.func12, Tryz.ntmps12
  go_wp2_with fail
  refine (show Calls Tryz.prog 15 #[.int .i64 2] _ _ from key_at K0.out 2 (by omega)).mono ?_
  rintro e w1 ⟨rfl, k1⟩
  rw [key2_is]
  have K1 := Lib.hid k1
  clear k1 K0
  go_upto_region 3 with fail
  have k2 := K1.out.strs 9 oneL (cs := #[.string ⟨#[97]⟩, .string ⟨#[98]⟩, .string ⟨#[99]⟩]) 3 rfl rfl (by decide)
  obtain ⟨w2, hw2⟩ : ∃ W, W = w1.alloc (.cells #[.string ⟨#[97]⟩, .string ⟨#[98]⟩, .string ⟨#[99]⟩] 9) := ⟨_, rfl⟩
  rw [← hw2] at k2 ⊢
  clear hw2
  generalize w1.heap.size = b1 at k2 ⊢
  simp only [List.nil_append] at k2
  have K2 := Lib.hid k2
  clear k2 K1
  go_upto_region 4 with fail
  have k3 := K2.out.strs 9 twoL (cs := #[.string ⟨#[97]⟩, .string ⟨#[120]⟩, .string ⟨#[99]⟩]) 3 rfl rfl (by decide)
  obtain ⟨w3, hw3⟩ : ∃ W, W = w2.alloc (.cells #[.string ⟨#[97]⟩, .string ⟨#[120]⟩, .string ⟨#[99]⟩] 9) := ⟨_, rfl⟩
  rw [← hw3] at k3 ⊢
  clear hw3
  generalize w2.heap.size = b2 at k3 ⊢
  simp only [List.nil_append, List.cons_append] at k3
  have K3 := Lib.hid k3
  clear k3 K2
  go_upto_region 5 with fail
  have k4 := K3.out.box #[.int .i64 2, .slice (some ⟨b1, 0, none⟩) 3 3] 26
  obtain ⟨w4, hw4⟩ : ∃ W, W = w3.alloc (.cells #[.int .i64 2, .slice (some ⟨b1, 0, none⟩) 3 3] 26) := ⟨_, rfl⟩
  rw [← hw4] at k4 ⊢
  clear hw4
  generalize w3.heap.size = br at k4 ⊢
  simp only [List.nil_append, List.cons_append] at k4
  have K4 := Lib.hid k4
  clear k4 K3
  go_upto_region 6 with fail
  have k5 := K4.out.box #[.int .i64 2, .slice (some ⟨b2, 0, none⟩) 3 3] 26
  obtain ⟨w5, hw5⟩ : ∃ W, W = w4.alloc (.cells #[.int .i64 2, .slice (some ⟨b2, 0, none⟩) 3 3] 26) := ⟨_, rfl⟩
  rw [← hw5] at k5 ⊢
  clear hw5
  generalize w4.heap.size = bo at k5 ⊢
  simp only [List.nil_append, List.cons_append] at k5
  have K5 := Lib.hid k5
  clear k5 K4
  -- P
  go_wp2_with fail
  have k6 := K5.out.ints 3 [0, 2] (cs := #[.int .i64 0, .int .i64 2]) 2 rfl rfl (by decide)
  obtain ⟨w6, hw6⟩ : ∃ W, W = w5.alloc (.cells #[.int .i64 0, .int .i64 2] 3) := ⟨_, rfl⟩
  rw [← hw6] at k6 ⊢
  clear hw6
  generalize w5.heap.size = bnP at k6 ⊢
  simp only [List.nil_append, List.cons_append] at k6
  have K6 := Lib.hid k6
  clear k6 K5
  refine (HF.out.shP K6.out 0 4 rfl rfl).mono ?_
  rintro e w7 ⟨ivP, rfl, k7⟩
  simp only [List.nil_append, List.cons_append, pbox] at k7 ⊢
  obtain ⟨pb, po, pcap, pv, pu, rfl, HI, HPr⟩ := k7.pair (i := 5) rfl
  clear HI HPr
  have K7 := Lib.hid k7
  clear k7 K6
  go_upto_region 7 with fail
  have k8 := K7.out.box #[.int .i64 Pc, .int .i64 Pz, .string Pr, .string Pl, .slice (some ⟨pb, po, none⟩) 2 pcap] 38
  obtain ⟨w8, hw8⟩ : ∃ W, W = w7.alloc (.cells #[.int .i64 Pc, .int .i64 Pz, .string Pr, .string Pl, .slice (some ⟨pb, po, none⟩) 2 pcap] 38) := ⟨_, rfl⟩
  rw [← hw8] at k8 ⊢
  clear hw8
  generalize w7.heap.size = bP at k8 ⊢
  simp only [List.nil_append, List.cons_append] at k8
  have K8 := Lib.hid k8
  clear k8 K7
  -- F
  go_wp2_with fail
  have k9 := K8.out.ints 3 [1] (cs := #[.int .i64 1]) 1 rfl rfl (by decide)
  obtain ⟨w9, hw9⟩ : ∃ W, W = w8.alloc (.cells #[.int .i64 1] 3) := ⟨_, rfl⟩
  rw [← hw9] at k9 ⊢
  clear hw9
  generalize w8.heap.size = bnF at k9 ⊢
  simp only [List.nil_append, List.cons_append] at k9
  have K9 := Lib.hid k9
  clear k9 K8
  refine (HF.out.shF K9.out 0 7 rfl rfl).mono ?_
  rintro e w10 ⟨ivF, rfl, k10⟩
  simp only [List.nil_append, List.cons_append, pbox] at k10 ⊢
  obtain ⟨aF, cF, rfl⟩ := (k10.all 8 (.I ivF Fi) rfl : IT w10 ivF Fi).form2
  have K10 := Lib.hid k10
  clear k10 K9
  go_upto_region 8 with fail
  have k11 := K10.out.box #[.int .i64 Fc, .int .i64 Fz, .string Fr, .string Fl, .slice aF Fi.length cF] 38
  obtain ⟨w11, hw11⟩ : ∃ W, W = w10.alloc (.cells #[.int .i64 Fc, .int .i64 Fz, .string Fr, .string Fl, .slice aF Fi.length cF] 38) := ⟨_, rfl⟩
  rw [← hw11] at k11 ⊢
  clear hw11
  generalize w10.heap.size = bF at k11 ⊢
  simp only [List.nil_append, List.cons_append] at k11
  have K11 := Lib.hid k11
  clear k11 K10
  -- S
  go_wp2_with fail
  have k12 := K11.out.ints 3 [1] (cs := #[.int .i64 1]) 1 rfl rfl (by decide)
  obtain ⟨w12, hw12⟩ : ∃ W, W = w11.alloc (.cells #[.int .i64 1] 3) := ⟨_, rfl⟩
  rw [← hw12] at k12 ⊢
  clear hw12
  generalize w11.heap.size = bnS at k12 ⊢
  simp only [List.nil_append, List.cons_append] at k12
  have K12 := Lib.hid k12
  clear k12 K11
  refine (HF.out.shS K12.out 1 10 rfl rfl).mono ?_
  rintro e w13 ⟨ivS, rfl, k13⟩
  simp only [List.nil_append, List.cons_append, pbox] at k13 ⊢
  obtain ⟨aS, cS, rfl⟩ := (k13.all 11 (.I ivS Si) rfl : IT w13 ivS Si).form2
  have K13 := Lib.hid k13
  clear k13 K12
  go_upto_region 9 with fail
  have k14 := K13.out.box #[.int .i64 Sc, .int .i64 Sz, .string Sr, .string Sl, .slice aS Si.length cS] 38
  obtain ⟨w14, hw14⟩ : ∃ W, W = w13.alloc (.cells #[.int .i64 Sc, .int .i64 Sz, .string Sr, .string Sl, .slice aS Si.length cS] 38) := ⟨_, rfl⟩
  rw [← hw14] at k14 ⊢
  clear hw14
  generalize w13.heap.size = bS at k14 ⊢
  simp only [List.nil_append, List.cons_append] at k14
  have K14 := Lib.hid k14
  clear k14 K13
  -- A
  go_wp2_with fail
  have k15 := K14.out.ints 3 [0] (cs := #[.int .i64 0]) 1 rfl rfl (by decide)
  obtain ⟨w15, hw15⟩ : ∃ W, W = w14.alloc (.cells #[.int .i64 0] 3) := ⟨_, rfl⟩
  rw [← hw15] at k15 ⊢
  clear hw15
  generalize w14.heap.size = bnA at k15 ⊢
  simp only [List.nil_append, List.cons_append] at k15
  have K15 := Lib.hid k15
  clear k15 K14
  refine (HF.out.shA K15.out 0 13 rfl rfl).mono ?_
  rintro e w16 ⟨ivA, rfl, k16⟩
  simp only [List.nil_append, List.cons_append, pbox] at k16 ⊢
  obtain ⟨aA, cA, rfl⟩ := (k16.all 14 (.I ivA Ai) rfl : IT w16 ivA Ai).form2
  have K16 := Lib.hid k16
  clear k16 K15
  go_upto_region 10 with fail
  have k17 := K16.out.box #[.int .i64 Ac, .int .i64 Az, .string Ar, .string Al, .slice aA Ai.length cA] 38
  obtain ⟨w17, hw17⟩ : ∃ W, W = w16.alloc (.cells #[.int .i64 Ac, .int .i64 Az, .string Ar, .string Al, .slice aA Ai.length cA] 38) := ⟨_, rfl⟩
  rw [← hw17] at k17 ⊢
  clear hw17
  generalize w16.heap.size = bA at k17 ⊢
  simp only [List.nil_append, List.cons_append] at k17
  have K17 := Lib.hid k17
  clear k17 K16
  -- B
  go_wp2_with fail
  have k18 := K17.out.ints 3 [0] (cs := #[.int .i64 0]) 1 rfl rfl (by decide)
  obtain ⟨w18, hw18⟩ : ∃ W, W = w17.alloc (.cells #[.int .i64 0] 3) := ⟨_, rfl⟩
  rw [← hw18] at k18 ⊢
  clear hw18
  generalize w17.heap.size = bnB at k18 ⊢
  simp only [List.nil_append, List.cons_append] at k18
  have K18 := Lib.hid k18
  clear k18 K17
  refine (HF.out.shB K18.out 1 16 rfl rfl).mono ?_
  rintro e w19 ⟨ivB, rfl, k19⟩
  simp only [List.nil_append, List.cons_append, pbox] at k19 ⊢
  obtain ⟨aB, cB, rfl⟩ := (k19.all 17 (.I ivB Bi) rfl : IT w19 ivB Bi).form2
  have K19 := Lib.hid k19
  clear k19 K18
  go_upto_region 11 with fail
  have k20 := K19.out.box #[.int .i64 Bc, .int .i64 Bz, .string Br, .string Bl, .slice aB Bi.length cB] 38
  obtain ⟨w20, hw20⟩ : ∃ W, W = w19.alloc (.cells #[.int .i64 Bc, .int .i64 Bz, .string Br, .string Bl, .slice aB Bi.length cB] 38) := ⟨_, rfl⟩
  rw [← hw20] at k20 ⊢
  clear hw20
  generalize w19.heap.size = bB at k20 ⊢
  simp only [List.nil_append, List.cons_append] at k20
  have K20 := Lib.hid k20
  clear k20 K19
  -- Wh
  go_wp2_with fail
  have k21 := K20.out.ints 3 [0] (cs := #[.int .i64 0]) 1 rfl rfl (by decide)
  obtain ⟨w21, hw21⟩ : ∃ W, W = w20.alloc (.cells #[.int .i64 0] 3) := ⟨_, rfl⟩
  rw [← hw21] at k21 ⊢
  clear hw21
  generalize w20.heap.size = bnWh at k21 ⊢
  simp only [List.nil_append, List.cons_append] at k21
  have K21 := Lib.hid k21
  clear k21 K20
  refine (HF.out.shWh K21.out 0 19 rfl rfl).mono ?_
  rintro e w22 ⟨ivWh, rfl, k22⟩
  simp only [List.nil_append, List.cons_append, pbox] at k22 ⊢
  obtain ⟨aWh, cWh, rfl⟩ := (k22.all 20 (.I ivWh Whi) rfl : IT w22 ivWh Whi).form2
  have K22 := Lib.hid k22
  clear k22 K21
  go_upto_region 12 with fail
  have k23 := K22.out.box #[.int .i64 Whc, .int .i64 Whz, .string Whr, .string Whl, .slice aWh Whi.length cWh] 38
  obtain ⟨w23, hw23⟩ : ∃ W, W = w22.alloc (.cells #[.int .i64 Whc, .int .i64 Whz, .string Whr, .string Whl, .slice aWh Whi.length cWh] 38) := ⟨_, rfl⟩
  rw [← hw23] at k23 ⊢
  clear hw23
  generalize w22.heap.size = bWh at k23 ⊢
  simp only [List.nil_append, List.cons_append] at k23
  have K23 := Lib.hid k23
  clear k23 K22
  -- E
  go_wp2_with fail
  have k24 := K23.out.ints 3 [0] (cs := #[.int .i64 0]) 1 rfl rfl (by decide)
  obtain ⟨w24, hw24⟩ : ∃ W, W = w23.alloc (.cells #[.int .i64 0] 3) := ⟨_, rfl⟩
  rw [← hw24] at k24 ⊢
  clear hw24
  generalize w23.heap.size = bnE at k24 ⊢
  simp only [List.nil_append, List.cons_append] at k24
  have K24 := Lib.hid k24
  clear k24 K23
  refine (HF.out.shE K24.out 0 22 rfl rfl).mono ?_
  rintro e w25 ⟨ivE, rfl, k25⟩
  simp only [List.nil_append, List.cons_append, pbox] at k25 ⊢
  obtain ⟨aE, cE, rfl⟩ := (k25.all 23 (.I ivE Ei) rfl : IT w25 ivE Ei).form2
  have K25 := Lib.hid k25
  clear k25 K24
  go_upto_region 13 with fail
  have k26 := K25.out.box #[.int .i64 Ec, .int .i64 Ez, .string Er, .string El, .slice aE Ei.length cE] 38
  obtain ⟨w26, hw26⟩ : ∃ W, W = w25.alloc (.cells #[.int .i64 Ec, .int .i64 Ez, .string Er, .string El, .slice aE Ei.length cE] 38) := ⟨_, rfl⟩
  rw [← hw26] at k26 ⊢
  clear hw26
  generalize w25.heap.size = bE at k26 ⊢
  simp only [List.nil_append, List.cons_append] at k26
  have K26 := Lib.hid k26
  clear k26 K25
  obtain ⟨LS, KQ, Qone, Qtwo, Qr, Qother, QIP, QBP, QIF, QBF, QIS, QBS, QIA, QBA, QIB, QBB, QIWh, QBWh, QIE, QBE⟩ : ∃ LS, Hid (Know w w26 LS) ∧ Hid (LS[0]? = some (Dat.S (.slice (some ⟨b1, 0, none⟩) 3 3) oneL)) ∧ Hid (LS[1]? = some (Dat.S (.slice (some ⟨b2, 0, none⟩) 3 3) twoL)) ∧ Hid (LS[2]? = some (Dat.B br #[.int .i64 2, .slice (some ⟨b1, 0, none⟩) 3 3] 26)) ∧ Hid (LS[3]? = some (Dat.B bo #[.int .i64 2, .slice (some ⟨b2, 0, none⟩) 3 3] 26)) ∧ Hid (LS[5]? = some (Dat.I (.slice (some ⟨pb, po, none⟩) 2 pcap) [⟨i0, e0, q0⟩, ⟨i1, e1, q1⟩])) ∧ Hid (LS[6]? = some (Dat.B bP #[.int .i64 Pc, .int .i64 Pz, .string Pr, .string Pl, .slice (some ⟨pb, po, none⟩) 2 pcap] 38)) ∧ Hid (LS[8]? = some (Dat.I (.slice aF Fi.length cF) Fi)) ∧ Hid (LS[9]? = some (Dat.B bF #[.int .i64 Fc, .int .i64 Fz, .string Fr, .string Fl, .slice aF Fi.length cF] 38)) ∧ Hid (LS[11]? = some (Dat.I (.slice aS Si.length cS) Si)) ∧ Hid (LS[12]? = some (Dat.B bS #[.int .i64 Sc, .int .i64 Sz, .string Sr, .string Sl, .slice aS Si.length cS] 38)) ∧ Hid (LS[14]? = some (Dat.I (.slice aA Ai.length cA) Ai)) ∧ Hid (LS[15]? = some (Dat.B bA #[.int .i64 Ac, .int .i64 Az, .string Ar, .string Al, .slice aA Ai.length cA] 38)) ∧ Hid (LS[17]? = some (Dat.I (.slice aB Bi.length cB) Bi)) ∧ Hid (LS[18]? = some (Dat.B bB #[.int .i64 Bc, .int .i64 Bz, .string Br, .string Bl, .slice aB Bi.length cB] 38)) ∧ Hid (LS[20]? = some (Dat.I (.slice aWh Whi.length cWh) Whi)) ∧ Hid (LS[21]? = some (Dat.B bWh #[.int .i64 Whc, .int .i64 Whz, .string Whr, .string Whl, .slice aWh Whi.length cWh] 38)) ∧ Hid (LS[23]? = some (Dat.I (.slice aE Ei.length cE) Ei)) ∧ Hid (LS[24]? = some (Dat.B bE #[.int .i64 Ec, .int .i64 Ez, .string Er, .string El, .slice aE Ei.length cE] 38)) := ⟨_, K26, Lib.hid rfl, Lib.hid rfl, Lib.hid rfl, Lib.hid rfl, Lib.hid rfl, Lib.hid rfl, Lib.hid rfl, Lib.hid rfl, Lib.hid rfl, Lib.hid rfl, Lib.hid rfl, Lib.hid rfl, Lib.hid rfl, Lib.hid rfl, Lib.hid rfl, Lib.hid rfl, Lib.hid rfl, Lib.hid rfl⟩
  clear K26
  go_upto_region 15 with fail
  obtain ⟨pb', po', pcap', pv, pu, hpe, HI, HPr⟩ := KQ.out.pair QIP.out
  have e1' := (Value.slice.inj hpe).1
  have e2' := (Value.slice.inj hpe).2.2
  have e3' := (Addr.mk.inj (Option.some.inj e1')).1
  have e4' := (Addr.mk.inj (Option.some.inj e1')).2.1
  subst e2' e3' e4'
  clear hpe e1'
  have hv0 : SS w26 pv q0 := HI.is.2 (⟨i0, e0, q0⟩, pv) (by simp)
  have hv1 : SS w26 pu q1 := HI.is.2 (⟨i1, e1, q1⟩, pu) (by simp)
  obtain ⟨va0, vc0, rfl⟩ := hv0.form2
  obtain ⟨va1, vc1, rfl⟩ := hv1.form2
  clear hv0 hv1
  have HI := Lib.hid HI
  obtain ⟨hpb, y0, y1, y2, y3, y4, y5⟩ := HPr
  simp only at y0 y1 y2 y3 y4 y5
  obtain ⟨z0, z1, z2, z3, z4⟩ := KQ.out.five QBP.out
  have hbP : bP < w26.heap.size := (Array.getElem?_eq_some_iff.1 (KQ.out.all _ _ QBP.out)).1
  go_cut [20] (fun s20 wx => ∃ (g : Nat) (iv : Value), s20 = .pointer (some ⟨g, 0, none⟩) ∧ Hid (Know w wx (LS ++ [.I iv [⟨i0, e0, q0⟩, ⟨2, sD, q1⟩]] ++ [.B g #[.int .i64 Pc, .int .i64 Pz, .string Pr, .string Pl, iv] 38])))
  case first =>
    go_region_held3 (fun w' => w'.cell? ⟨bP, 0, none⟩ = some (.int .i64 Pc) ∧ w'.cell? ⟨bP, 1, none⟩ = some (.int .i64 Pz) ∧ w'.cell? ⟨bP, 2, none⟩ = some (.string Pr) ∧ w'.cell? ⟨bP, 3, none⟩ = some (.string Pl) ∧ w'.cell? ⟨bP, 4, none⟩ = some (.slice (some ⟨pb, po, none⟩) 2 pcap) ∧ w'.cell? ⟨pb, po, none⟩ = some (.int .i64 i0) ∧ w'.cell? ⟨pb, po + 1, none⟩ = some (.string e0) ∧ w'.cell? ⟨pb, po + 2, none⟩ = some (.slice va0 q0.length vc0) ∧ w'.cell? ⟨pb, po + 3, none⟩ = some (.int .i64 i1) ∧ w'.cell? ⟨pb, po + 4, none⟩ = some (.string e1) ∧ w'.cell? ⟨pb, po + 5, none⟩ = some (.slice va1 q1.length vc1)) (go_keep) (first | fail)
    · go_wp2_with fail
      go_meet
      exact ⟨_, _, rfl, Lib.hid (KQ.out.newPart1 HI.out ⟨i0, e0, q0⟩ ⟨2, sD, q1⟩ rfl rfl (.int .i64 Pc) (.int .i64 Pz) (.string Pr) (.string Pl))⟩
    · go_wp2_with fail
      go_meet
      exact ⟨_, _, rfl, Lib.hid (KQ.out.newPart2 HI.out ⟨i0, e0, q0⟩ ⟨2, sD, q1⟩ rfl rfl (.int .i64 Pc) (.int .i64 Pz) (.string Pr) (.string Pl))⟩
  case rest =>
    clear HI y0 y1 y2 y3 y4 y5 z0 z1 z2 z3 z4 hpb hbP
    obtain ⟨bX, ivX, rfl, KC⟩ := hcut
    obtain ⟨aX, cX, rfl⟩ := (KC.out.all _ (.I ivX [⟨i0, e0, q0⟩, ⟨2, sD, q1⟩]) (get_app get_new) : IT wc ivX [⟨i0, e0, q0⟩, ⟨2, sD, q1⟩]).form2
    simp only [List.length_cons, List.length_nil, Nat.zero_add, Nat.reduceAdd] at KC ⊢
    obtain ⟨L1, KL1, Qone1, Qtwo1, Qr1, Qother1, QIP1, QBP1, QIF1, QBF1, QIS1, QBS1, QIA1, QBA1, QIB1, QBB1, QIWh1, QBWh1, QIE1, QBE1, iIX, QIX1, iBX, QBX1⟩ : ∃ L, Hid (Know w wc L) ∧ Hid (L[0]? = some (Dat.S (.slice (some ⟨b1, 0, none⟩) 3 3) oneL)) ∧ Hid (L[1]? = some (Dat.S (.slice (some ⟨b2, 0, none⟩) 3 3) twoL)) ∧ Hid (L[2]? = some (Dat.B br #[.int .i64 2, .slice (some ⟨b1, 0, none⟩) 3 3] 26)) ∧ Hid (L[3]? = some (Dat.B bo #[.int .i64 2, .slice (some ⟨b2, 0, none⟩) 3 3] 26)) ∧ Hid (L[5]? = some (Dat.I (.slice (some ⟨pb, po, none⟩) 2 pcap) [⟨i0, e0, q0⟩, ⟨i1, e1, q1⟩])) ∧ Hid (L[6]? = some (Dat.B bP #[.int .i64 Pc, .int .i64 Pz, .string Pr, .string Pl, .slice (some ⟨pb, po, none⟩) 2 pcap] 38)) ∧ Hid (L[8]? = some (Dat.I (.slice aF Fi.length cF) Fi)) ∧ Hid (L[9]? = some (Dat.B bF #[.int .i64 Fc, .int .i64 Fz, .string Fr, .string Fl, .slice aF Fi.length cF] 38)) ∧ Hid (L[11]? = some (Dat.I (.slice aS Si.length cS) Si)) ∧ Hid (L[12]? = some (Dat.B bS #[.int .i64 Sc, .int .i64 Sz, .string Sr, .string Sl, .slice aS Si.length cS] 38)) ∧ Hid (L[14]? = some (Dat.I (.slice aA Ai.length cA) Ai)) ∧ Hid (L[15]? = some (Dat.B bA #[.int .i64 Ac, .int .i64 Az, .string Ar, .string Al, .slice aA Ai.length cA] 38)) ∧ Hid (L[17]? = some (Dat.I (.slice aB Bi.length cB) Bi)) ∧ Hid (L[18]? = some (Dat.B bB #[.int .i64 Bc, .int .i64 Bz, .string Br, .string Bl, .slice aB Bi.length cB] 38)) ∧ Hid (L[20]? = some (Dat.I (.slice aWh Whi.length cWh) Whi)) ∧ Hid (L[21]? = some (Dat.B bWh #[.int .i64 Whc, .int .i64 Whz, .string Whr, .string Whl, .slice aWh Whi.length cWh] 38)) ∧ Hid (L[23]? = some (Dat.I (.slice aE Ei.length cE) Ei)) ∧ Hid (L[24]? = some (Dat.B bE #[.int .i64 Ec, .int .i64 Ez, .string Er, .string El, .slice aE Ei.length cE] 38)) ∧ ∃ i : Nat, Hid (L[i]? = some (Dat.I (.slice aX 2 cX) [⟨i0, e0, q0⟩, ⟨2, sD, q1⟩])) ∧ ∃ i : Nat, Hid (L[i]? = some (Dat.B bX #[.int .i64 Pc, .int .i64 Pz, .string Pr, .string Pl, .slice aX 2 cX] 38)) := ⟨_, KC, Lib.hid (get_app (get_app (Qone.out))), Lib.hid (get_app (get_app (Qtwo.out))), Lib.hid (get_app (get_app (Qr.out))), Lib.hid (get_app (get_app (Qother.out))), Lib.hid (get_app (get_app (QIP.out))), Lib.hid (get_app (get_app (QBP.out))), Lib.hid (get_app (get_app (QIF.out))), Lib.hid (get_app (get_app (QBF.out))), Lib.hid (get_app (get_app (QIS.out))), Lib.hid (get_app (get_app (QBS.out))), Lib.hid (get_app (get_app (QIA.out))), Lib.hid (get_app (get_app (QBA.out))), Lib.hid (get_app (get_app (QIB.out))), Lib.hid (get_app (get_app (QBB.out))), Lib.hid (get_app (get_app (QIWh.out))), Lib.hid (get_app (get_app (QBWh.out))), Lib.hid (get_app (get_app (QIE.out))), Lib.hid (get_app (get_app (QBE.out))), _, Lib.hid (get_app (get_new)), _, Lib.hid (get_new)⟩
    clear KC Qone Qtwo Qr Qother QIP QBP QIF QBF QIS QBS QIA QBA QIB QBB QIWh QBWh QIE QBE
    obtain ⟨zr0, zr1⟩ := KL1.out.duo Qr1.out
    go_wp2_with fail
    clear zr0 zr1
    refine (grown_at KL1.out 0 Qone1.out 2 1 3 one_valid (by decide) (by decide) g1 HF.out.r1).mono ?_
    rintro e w41 ⟨vg1, rfl, k41⟩
    have s41 : SS w41 vg1 g1 := k41.all _ (.S vg1 g1) get_new
    obtain ⟨ag1, cg1, rfl⟩ := s41.form2
    have K41 := Lib.hid k41
    clear k41 s41
    obtain ⟨L2, KL2, Qone2, Qtwo2, Qr2, Qother2, QIP2, QBP2, QIF2, QBF2, QIS2, QBS2, QIA2, QBA2, QIB2, QBB2, QIWh2, QBWh2, QIE2, QBE2, QIX2, QBX2, iSg1, QSg12⟩ : ∃ L, Hid (Know w w41 L) ∧ Hid (L[0]? = some (Dat.S (.slice (some ⟨b1, 0, none⟩) 3 3) oneL)) ∧ Hid (L[1]? = some (Dat.S (.slice (some ⟨b2, 0, none⟩) 3 3) twoL)) ∧ Hid (L[2]? = some (Dat.B br #[.int .i64 2, .slice (some ⟨b1, 0, none⟩) 3 3] 26)) ∧ Hid (L[3]? = some (Dat.B bo #[.int .i64 2, .slice (some ⟨b2, 0, none⟩) 3 3] 26)) ∧ Hid (L[5]? = some (Dat.I (.slice (some ⟨pb, po, none⟩) 2 pcap) [⟨i0, e0, q0⟩, ⟨i1, e1, q1⟩])) ∧ Hid (L[6]? = some (Dat.B bP #[.int .i64 Pc, .int .i64 Pz, .string Pr, .string Pl, .slice (some ⟨pb, po, none⟩) 2 pcap] 38)) ∧ Hid (L[8]? = some (Dat.I (.slice aF Fi.length cF) Fi)) ∧ Hid (L[9]? = some (Dat.B bF #[.int .i64 Fc, .int .i64 Fz, .string Fr, .string Fl, .slice aF Fi.length cF] 38)) ∧ Hid (L[11]? = some (Dat.I (.slice aS Si.length cS) Si)) ∧ Hid (L[12]? = some (Dat.B bS #[.int .i64 Sc, .int .i64 Sz, .string Sr, .string Sl, .slice aS Si.length cS] 38)) ∧ Hid (L[14]? = some (Dat.I (.slice aA Ai.length cA) Ai)) ∧ Hid (L[15]? = some (Dat.B bA #[.int .i64 Ac, .int .i64 Az, .string Ar, .string Al, .slice aA Ai.length cA] 38)) ∧ Hid (L[17]? = some (Dat.I (.slice aB Bi.length cB) Bi)) ∧ Hid (L[18]? = some (Dat.B bB #[.int .i64 Bc, .int .i64 Bz, .string Br, .string Bl, .slice aB Bi.length cB] 38)) ∧ Hid (L[20]? = some (Dat.I (.slice aWh Whi.length cWh) Whi)) ∧ Hid (L[21]? = some (Dat.B bWh #[.int .i64 Whc, .int .i64 Whz, .string Whr, .string Whl, .slice aWh Whi.length cWh] 38)) ∧ Hid (L[23]? = some (Dat.I (.slice aE Ei.length cE) Ei)) ∧ Hid (L[24]? = some (Dat.B bE #[.int .i64 Ec, .int .i64 Ez, .string Er, .string El, .slice aE Ei.length cE] 38)) ∧ Hid (L[iIX]? = some (Dat.I (.slice aX 2 cX) [⟨i0, e0, q0⟩, ⟨2, sD, q1⟩])) ∧ Hid (L[iBX]? = some (Dat.B bX #[.int .i64 Pc, .int .i64 Pz, .string Pr, .string Pl, .slice aX 2 cX] 38)) ∧ ∃ i : Nat, Hid (L[i]? = some (Dat.S (.slice ag1 g1.length cg1) g1)) := ⟨_, K41, Lib.hid (get_app (Qone1.out)), Lib.hid (get_app (Qtwo1.out)), Lib.hid (get_app (Qr1.out)), Lib.hid (get_app (Qother1.out)), Lib.hid (get_app (QIP1.out)), Lib.hid (get_app (QBP1.out)), Lib.hid (get_app (QIF1.out)), Lib.hid (get_app (QBF1.out)), Lib.hid (get_app (QIS1.out)), Lib.hid (get_app (QBS1.out)), Lib.hid (get_app (QIA1.out)), Lib.hid (get_app (QBA1.out)), Lib.hid (get_app (QIB1.out)), Lib.hid (get_app (QBB1.out)), Lib.hid (get_app (QIWh1.out)), Lib.hid (get_app (QBWh1.out)), Lib.hid (get_app (QIE1.out)), Lib.hid (get_app (QBE1.out)), Lib.hid (get_app (QIX1.out)), Lib.hid (get_app (QBX1.out)), _, Lib.hid (get_new)⟩
    clear K41 Qone1 Qtwo1 Qr1 Qother1 QIP1 QBP1 QIF1 QBF1 QIS1 QBS1 QIA1 QBA1 QIB1 QBB1 QIWh1 QBWh1 QIE1 QBE1 QIX1 QBX1 KL1
    obtain ⟨zr0, zr1⟩ := KL2.out.duo Qother2.out
    go_wp2_with fail
    clear zr0 zr1
    refine (grown_at KL2.out 1 Qtwo2.out 2 1 3 two_valid (by decide) (by decide) g2 HF.out.r2).mono ?_
    rintro e w42 ⟨vg2, rfl, k42⟩
    have s42 : SS w42 vg2 g2 := k42.all _ (.S vg2 g2) get_new
    obtain ⟨ag2, cg2, rfl⟩ := s42.form2
    have K42 := Lib.hid k42
    clear k42 s42
    obtain ⟨L3, KL3, Qone3, Qtwo3, Qr3, Qother3, QIP3, QBP3, QIF3, QBF3, QIS3, QBS3, QIA3, QBA3, QIB3, QBB3, QIWh3, QBWh3, QIE3, QBE3, QIX3, QBX3, QSg13, iSg2, QSg23⟩ : ∃ L, Hid (Know w w42 L) ∧ Hid (L[0]? = some (Dat.S (.slice (some ⟨b1, 0, none⟩) 3 3) oneL)) ∧ Hid (L[1]? = some (Dat.S (.slice (some ⟨b2, 0, none⟩) 3 3) twoL)) ∧ Hid (L[2]? = some (Dat.B br #[.int .i64 2, .slice (some ⟨b1, 0, none⟩) 3 3] 26)) ∧ Hid (L[3]? = some (Dat.B bo #[.int .i64 2, .slice (some ⟨b2, 0, none⟩) 3 3] 26)) ∧ Hid (L[5]? = some (Dat.I (.slice (some ⟨pb, po, none⟩) 2 pcap) [⟨i0, e0, q0⟩, ⟨i1, e1, q1⟩])) ∧ Hid (L[6]? = some (Dat.B bP #[.int .i64 Pc, .int .i64 Pz, .string Pr, .string Pl, .slice (some ⟨pb, po, none⟩) 2 pcap] 38)) ∧ Hid (L[8]? = some (Dat.I (.slice aF Fi.length cF) Fi)) ∧ Hid (L[9]? = some (Dat.B bF #[.int .i64 Fc, .int .i64 Fz, .string Fr, .string Fl, .slice aF Fi.length cF] 38)) ∧ Hid (L[11]? = some (Dat.I (.slice aS Si.length cS) Si)) ∧ Hid (L[12]? = some (Dat.B bS #[.int .i64 Sc, .int .i64 Sz, .string Sr, .string Sl, .slice aS Si.length cS] 38)) ∧ Hid (L[14]? = some (Dat.I (.slice aA Ai.length cA) Ai)) ∧ Hid (L[15]? = some (Dat.B bA #[.int .i64 Ac, .int .i64 Az, .string Ar, .string Al, .slice aA Ai.length cA] 38)) ∧ Hid (L[17]? = some (Dat.I (.slice aB Bi.length cB) Bi)) ∧ Hid (L[18]? = some (Dat.B bB #[.int .i64 Bc, .int .i64 Bz, .string Br, .string Bl, .slice aB Bi.length cB] 38)) ∧ Hid (L[20]? = some (Dat.I (.slice aWh Whi.length cWh) Whi)) ∧ Hid (L[21]? = some (Dat.B bWh #[.int .i64 Whc, .int .i64 Whz, .string Whr, .string Whl, .slice aWh Whi.length cWh] 38)) ∧ Hid (L[23]? = some (Dat.I (.slice aE Ei.length cE) Ei)) ∧ Hid (L[24]? = some (Dat.B bE #[.int .i64 Ec, .int .i64 Ez, .string Er, .string El, .slice aE Ei.length cE] 38)) ∧ Hid (L[iIX]? = some (Dat.I (.slice aX 2 cX) [⟨i0, e0, q0⟩, ⟨2, sD, q1⟩])) ∧ Hid (L[iBX]? = some (Dat.B bX #[.int .i64 Pc, .int .i64 Pz, .string Pr, .string Pl, .slice aX 2 cX] 38)) ∧ Hid (L[iSg1]? = some (Dat.S (.slice ag1 g1.length cg1) g1)) ∧ ∃ i : Nat, Hid (L[i]? = some (Dat.S (.slice ag2 g2.length cg2) g2)) := ⟨_, K42, Lib.hid (get_app (Qone2.out)), Lib.hid (get_app (Qtwo2.out)), Lib.hid (get_app (Qr2.out)), Lib.hid (get_app (Qother2.out)), Lib.hid (get_app (QIP2.out)), Lib.hid (get_app (QBP2.out)), Lib.hid (get_app (QIF2.out)), Lib.hid (get_app (QBF2.out)), Lib.hid (get_app (QIS2.out)), Lib.hid (get_app (QBS2.out)), Lib.hid (get_app (QIA2.out)), Lib.hid (get_app (QBA2.out)), Lib.hid (get_app (QIB2.out)), Lib.hid (get_app (QBB2.out)), Lib.hid (get_app (QIWh2.out)), Lib.hid (get_app (QBWh2.out)), Lib.hid (get_app (QIE2.out)), Lib.hid (get_app (QBE2.out)), Lib.hid (get_app (QIX2.out)), Lib.hid (get_app (QBX2.out)), Lib.hid (get_app (QSg12.out)), _, Lib.hid (get_new)⟩
    clear K42 Qone2 Qtwo2 Qr2 Qother2 QIP2 QBP2 QIF2 QBF2 QIS2 QBS2 QIA2 QBA2 QIB2 QBB2 QIWh2 QBWh2 QIE2 QBE2 QIX2 QBX2 QSg12 KL2
    obtain ⟨zr0, zr1⟩ := KL3.out.duo Qother3.out
    go_wp2_with fail
    clear zr0 zr1
    refine (grown_at KL3.out 1 Qtwo3.out 2 2 3 two_valid (by decide) (by decide) g3 HF.out.r3).mono ?_
    rintro e w43 ⟨vg3, rfl, k43⟩
    have s43 : SS w43 vg3 g3 := k43.all _ (.S vg3 g3) get_new
    obtain ⟨ag3, cg3, rfl⟩ := s43.form2
    have K43 := Lib.hid k43
    clear k43 s43
    obtain ⟨L4, KL4, Qone4, Qtwo4, Qr4, Qother4, QIP4, QBP4, QIF4, QBF4, QIS4, QBS4, QIA4, QBA4, QIB4, QBB4, QIWh4, QBWh4, QIE4, QBE4, QIX4, QBX4, QSg14, QSg24, iSg3, QSg34⟩ : ∃ L, Hid (Know w w43 L) ∧ Hid (L[0]? = some (Dat.S (.slice (some ⟨b1, 0, none⟩) 3 3) oneL)) ∧ Hid (L[1]? = some (Dat.S (.slice (some ⟨b2, 0, none⟩) 3 3) twoL)) ∧ Hid (L[2]? = some (Dat.B br #[.int .i64 2, .slice (some ⟨b1, 0, none⟩) 3 3] 26)) ∧ Hid (L[3]? = some (Dat.B bo #[.int .i64 2, .slice (some ⟨b2, 0, none⟩) 3 3] 26)) ∧ Hid (L[5]? = some (Dat.I (.slice (some ⟨pb, po, none⟩) 2 pcap) [⟨i0, e0, q0⟩, ⟨i1, e1, q1⟩])) ∧ Hid (L[6]? = some (Dat.B bP #[.int .i64 Pc, .int .i64 Pz, .string Pr, .string Pl, .slice (some ⟨pb, po, none⟩) 2 pcap] 38)) ∧ Hid (L[8]? = some (Dat.I (.slice aF Fi.length cF) Fi)) ∧ Hid (L[9]? = some (Dat.B bF #[.int .i64 Fc, .int .i64 Fz, .string Fr, .string Fl, .slice aF Fi.length cF] 38)) ∧ Hid (L[11]? = some (Dat.I (.slice aS Si.length cS) Si)) ∧ Hid (L[12]? = some (Dat.B bS #[.int .i64 Sc, .int .i64 Sz, .string Sr, .string Sl, .slice aS Si.length cS] 38)) ∧ Hid (L[14]? = some (Dat.I (.slice aA Ai.length cA) Ai)) ∧ Hid (L[15]? = some (Dat.B bA #[.int .i64 Ac, .int .i64 Az, .string Ar, .string Al, .slice aA Ai.length cA] 38)) ∧ Hid (L[17]? = some (Dat.I (.slice aB Bi.length cB) Bi)) ∧ Hid (L[18]? = some (Dat.B bB #[.int .i64 Bc, .int .i64 Bz, .string Br, .string Bl, .slice aB Bi.length cB] 38)) ∧ Hid (L[20]? = some (Dat.I (.slice aWh Whi.length cWh) Whi)) ∧ Hid (L[21]? = some (Dat.B bWh #[.int .i64 Whc, .int .i64 Whz, .string Whr, .string Whl, .slice aWh Whi.length cWh] 38)) ∧ Hid (L[23]? = some (Dat.I (.slice aE Ei.length cE) Ei)) ∧ Hid (L[24]? = some (Dat.B bE #[.int .i64 Ec, .int .i64 Ez, .string Er, .string El, .slice aE Ei.length cE] 38)) ∧ Hid (L[iIX]? = some (Dat.I (.slice aX 2 cX) [⟨i0, e0, q0⟩, ⟨2, sD, q1⟩])) ∧ Hid (L[iBX]? = some (Dat.B bX #[.int .i64 Pc, .int .i64 Pz, .string Pr, .string Pl, .slice aX 2 cX] 38)) ∧ Hid (L[iSg1]? = some (Dat.S (.slice ag1 g1.length cg1) g1)) ∧ Hid (L[iSg2]? = some (Dat.S (.slice ag2 g2.length cg2) g2)) ∧ ∃ i : Nat, Hid (L[i]? = some (Dat.S (.slice ag3 g3.length cg3) g3)) := ⟨_, K43, Lib.hid (get_app (Qone3.out)), Lib.hid (get_app (Qtwo3.out)), Lib.hid (get_app (Qr3.out)), Lib.hid (get_app (Qother3.out)), Lib.hid (get_app (QIP3.out)), Lib.hid (get_app (QBP3.out)), Lib.hid (get_app (QIF3.out)), Lib.hid (get_app (QBF3.out)), Lib.hid (get_app (QIS3.out)), Lib.hid (get_app (QBS3.out)), Lib.hid (get_app (QIA3.out)), Lib.hid (get_app (QBA3.out)), Lib.hid (get_app (QIB3.out)), Lib.hid (get_app (QBB3.out)), Lib.hid (get_app (QIWh3.out)), Lib.hid (get_app (QBWh3.out)), Lib.hid (get_app (QIE3.out)), Lib.hid (get_app (QBE3.out)), Lib.hid (get_app (QIX3.out)), Lib.hid (get_app (QBX3.out)), Lib.hid (get_app (QSg13.out)), Lib.hid (get_app (QSg23.out)), _, Lib.hid (get_new)⟩
    clear K43 Qone3 Qtwo3 Qr3 Qother3 QIP3 QBP3 QIF3 QBF3 QIS3 QBS3 QIA3 QBA3 QIB3 QBB3 QIWh3 QBWh3 QIE3 QBE3 QIX3 QBX3 QSg13 QSg23 KL3
    obtain ⟨zE0, zE1, zE2, zE3, zE4⟩ := KL4.out.five QBE4.out
    obtain ⟨zP0, zP1, zP2, zP3, zP4⟩ := KL4.out.five QBP4.out
    go_wp2_with fail
    clear zE0 zE1 zE2 zE3 zE4 zP0 zP1 zP2 zP3 zP4
    have k44 := KL4.out.parts 38 [(⟨⟨Ec, Ez, Er, El⟩, Ei⟩, .slice aE Ei.length cE), (⟨⟨Pc, Pz, Pr, Pl⟩, [⟨i0, e0, q0⟩, ⟨i1, e1, q1⟩]⟩, .slice (some ⟨pb, po, none⟩) 2 pcap)] (cs := #[.int .i64 Ec, .int .i64 Ez, .string Er, .string El, .slice aE Ei.length cE, .int .i64 Pc, .int .i64 Pz, .string Pr, .string Pl, .slice (some ⟨pb, po, none⟩) 2 pcap]) 2 rfl rfl (by simp) (fun z hz => by
      simp at hz
      rcases hz with rfl | rfl
      · exact ⟨_, QIE4.out⟩
      · exact ⟨_, QIP4.out⟩
      )
    obtain ⟨w44, hw44⟩ : ∃ W, W = w43.alloc (.cells #[.int .i64 Ec, .int .i64 Ez, .string Er, .string El, .slice aE Ei.length cE, .int .i64 Pc, .int .i64 Pz, .string Pr, .string Pl, .slice (some ⟨pb, po, none⟩) 2 pcap] 38) := ⟨_, rfl⟩
    rw [← hw44] at k44 ⊢
    clear hw44
    generalize w43.heap.size = bj at k44 ⊢
    have K44 := Lib.hid k44
    clear k44
    refine (join_at K44.out _ get_new key2 (by decide) (by simp) (fun z hz => by
      simp at hz
      rcases hz with rfl | rfl
      · exact HF.out.fE
      · exact HF.out.fP
      ) [⟨0, sA, []⟩, ⟨2, sC, []⟩] (-1) (-1) HF.out.j1).mono ?_
    rintro e w45 ⟨vbj, rfl, k45⟩
    obtain ⟨jb, jo, jc, jv, ju, rfl, HJ, HJP⟩ := k45.pair get_new
    clear HJ HJP
    have K45 := Lib.hid k45
    clear k45 K44
    obtain ⟨L5, KL5, Qone5, Qtwo5, Qr5, Qother5, QIP5, QBP5, QIF5, QBF5, QIS5, QBS5, QIA5, QBA5, QIB5, QBB5, QIWh5, QBWh5, QIE5, QBE5, QIX5, QBX5, QSg15, QSg25, QSg35, iPSbj, QPSbj5, iIJbj, QIJbj5⟩ : ∃ L, Hid (Know w w45 L) ∧ Hid (L[0]? = some (Dat.S (.slice (some ⟨b1, 0, none⟩) 3 3) oneL)) ∧ Hid (L[1]? = some (Dat.S (.slice (some ⟨b2, 0, none⟩) 3 3) twoL)) ∧ Hid (L[2]? = some (Dat.B br #[.int .i64 2, .slice (some ⟨b1, 0, none⟩) 3 3] 26)) ∧ Hid (L[3]? = some (Dat.B bo #[.int .i64 2, .slice (some ⟨b2, 0, none⟩) 3 3] 26)) ∧ Hid (L[5]? = some (Dat.I (.slice (some ⟨pb, po, none⟩) 2 pcap) [⟨i0, e0, q0⟩, ⟨i1, e1, q1⟩])) ∧ Hid (L[6]? = some (Dat.B bP #[.int .i64 Pc, .int .i64 Pz, .string Pr, .string Pl, .slice (some ⟨pb, po, none⟩) 2 pcap] 38)) ∧ Hid (L[8]? = some (Dat.I (.slice aF Fi.length cF) Fi)) ∧ Hid (L[9]? = some (Dat.B bF #[.int .i64 Fc, .int .i64 Fz, .string Fr, .string Fl, .slice aF Fi.length cF] 38)) ∧ Hid (L[11]? = some (Dat.I (.slice aS Si.length cS) Si)) ∧ Hid (L[12]? = some (Dat.B bS #[.int .i64 Sc, .int .i64 Sz, .string Sr, .string Sl, .slice aS Si.length cS] 38)) ∧ Hid (L[14]? = some (Dat.I (.slice aA Ai.length cA) Ai)) ∧ Hid (L[15]? = some (Dat.B bA #[.int .i64 Ac, .int .i64 Az, .string Ar, .string Al, .slice aA Ai.length cA] 38)) ∧ Hid (L[17]? = some (Dat.I (.slice aB Bi.length cB) Bi)) ∧ Hid (L[18]? = some (Dat.B bB #[.int .i64 Bc, .int .i64 Bz, .string Br, .string Bl, .slice aB Bi.length cB] 38)) ∧ Hid (L[20]? = some (Dat.I (.slice aWh Whi.length cWh) Whi)) ∧ Hid (L[21]? = some (Dat.B bWh #[.int .i64 Whc, .int .i64 Whz, .string Whr, .string Whl, .slice aWh Whi.length cWh] 38)) ∧ Hid (L[23]? = some (Dat.I (.slice aE Ei.length cE) Ei)) ∧ Hid (L[24]? = some (Dat.B bE #[.int .i64 Ec, .int .i64 Ez, .string Er, .string El, .slice aE Ei.length cE] 38)) ∧ Hid (L[iIX]? = some (Dat.I (.slice aX 2 cX) [⟨i0, e0, q0⟩, ⟨2, sD, q1⟩])) ∧ Hid (L[iBX]? = some (Dat.B bX #[.int .i64 Pc, .int .i64 Pz, .string Pr, .string Pl, .slice aX 2 cX] 38)) ∧ Hid (L[iSg1]? = some (Dat.S (.slice ag1 g1.length cg1) g1)) ∧ Hid (L[iSg2]? = some (Dat.S (.slice ag2 g2.length cg2) g2)) ∧ Hid (L[iSg3]? = some (Dat.S (.slice ag3 g3.length cg3) g3)) ∧ ∃ i : Nat, Hid (L[i]? = some (Dat.P (.slice (some ⟨bj, 0, none⟩) 2 2) [⟨⟨Ec, Ez, Er, El⟩, Ei⟩, ⟨⟨Pc, Pz, Pr, Pl⟩, [⟨i0, e0, q0⟩, ⟨i1, e1, q1⟩]⟩])) ∧ ∃ i : Nat, Hid (L[i]? = some (Dat.I (.slice (some ⟨jb, jo, none⟩) 2 jc) [⟨0, sA, []⟩, ⟨2, sC, []⟩])) := ⟨_, K45, Lib.hid (get_app (get_app (Qone4.out))), Lib.hid (get_app (get_app (Qtwo4.out))), Lib.hid (get_app (get_app (Qr4.out))), Lib.hid (get_app (get_app (Qother4.out))), Lib.hid (get_app (get_app (QIP4.out))), Lib.hid (get_app (get_app (QBP4.out))), Lib.hid (get_app (get_app (QIF4.out))), Lib.hid (get_app (get_app (QBF4.out))), Lib.hid (get_app (get_app (QIS4.out))), Lib.hid (get_app (get_app (QBS4.out))), Lib.hid (get_app (get_app (QIA4.out))), Lib.hid (get_app (get_app (QBA4.out))), Lib.hid (get_app (get_app (QIB4.out))), Lib.hid (get_app (get_app (QBB4.out))), Lib.hid (get_app (get_app (QIWh4.out))), Lib.hid (get_app (get_app (QBWh4.out))), Lib.hid (get_app (get_app (QIE4.out))), Lib.hid (get_app (get_app (QBE4.out))), Lib.hid (get_app (get_app (QIX4.out))), Lib.hid (get_app (get_app (QBX4.out))), Lib.hid (get_app (get_app (QSg14.out))), Lib.hid (get_app (get_app (QSg24.out))), Lib.hid (get_app (get_app (QSg34.out))), _, Lib.hid (get_app (get_new)), _, Lib.hid (get_new)⟩
    clear K45 Qone4 Qtwo4 Qr4 Qother4 QIP4 QBP4 QIF4 QBF4 QIS4 QBS4 QIA4 QBA4 QIB4 QBB4 QIWh4 QBWh4 QIE4 QBE4 QIX4 QBX4 QSg14 QSg24 QSg34 KL4
    obtain ⟨zE0, zE1, zE2, zE3, zE4⟩ := KL5.out.five QBE5.out
    obtain ⟨zF0, zF1, zF2, zF3, zF4⟩ := KL5.out.five QBF5.out
    obtain ⟨zS0, zS1, zS2, zS3, zS4⟩ := KL5.out.five QBS5.out
    go_wp2_with fail
    clear zE0 zE1 zE2 zE3 zE4 zF0 zF1 zF2 zF3 zF4 zS0 zS1 zS2 zS3 zS4
    have k46 := KL5.out.parts 38 [(⟨⟨Ec, Ez, Er, El⟩, Ei⟩, .slice aE Ei.length cE), (⟨⟨Fc, Fz, Fr, Fl⟩, Fi⟩, .slice aF Fi.length cF), (⟨⟨Sc, Sz, Sr, Sl⟩, Si⟩, .slice aS Si.length cS)] (cs := #[.int .i64 Ec, .int .i64 Ez, .string Er, .string El, .slice aE Ei.length cE, .int .i64 Fc, .int .i64 Fz, .string Fr, .string Fl, .slice aF Fi.length cF, .int .i64 Sc, .int .i64 Sz, .string Sr, .string Sl, .slice aS Si.length cS]) 3 rfl rfl (by simp) (fun z hz => by
      simp at hz
      rcases hz with rfl | rfl | rfl
      · exact ⟨_, QIE5.out⟩
      · exact ⟨_, QIF5.out⟩
      · exact ⟨_, QIS5.out⟩
      )
    obtain ⟨w46, hw46⟩ : ∃ W, W = w45.alloc (.cells #[.int .i64 Ec, .int .i64 Ez, .string Er, .string El, .slice aE Ei.length cE, .int .i64 Fc, .int .i64 Fz, .string Fr, .string Fl, .slice aF Fi.length cF, .int .i64 Sc, .int .i64 Sz, .string Sr, .string Sl, .slice aS Si.length cS] 38) := ⟨_, rfl⟩
    rw [← hw46] at k46 ⊢
    clear hw46
    generalize w45.heap.size = bk at k46 ⊢
    have K46 := Lib.hid k46
    clear k46
    refine (join_at K46.out _ get_new key2 (by decide) (by simp) (fun z hz => by
      simp at hz
      rcases hz with rfl | rfl | rfl
      · exact HF.out.fE
      · exact HF.out.fF
      · exact HF.out.fS
      ) [] 1 2 HF.out.j2).mono ?_
    rintro e w47 ⟨vbk, rfl, k47⟩
    obtain ⟨abk, cbk, rfl⟩ := (k47.all _ (.I vbk []) get_new : IT w47 vbk []).form2
    simp only [List.length_nil] at k47 ⊢
    have K47 := Lib.hid k47
    clear k47 K46
    obtain ⟨L6, KL6, Qone6, Qtwo6, Qr6, Qother6, QIP6, QBP6, QIF6, QBF6, QIS6, QBS6, QIA6, QBA6, QIB6, QBB6, QIWh6, QBWh6, QIE6, QBE6, QIX6, QBX6, QSg16, QSg26, QSg36, QPSbj6, QIJbj6, iPSbk, QPSbk6, iIJbk, QIJbk6⟩ : ∃ L, Hid (Know w w47 L) ∧ Hid (L[0]? = some (Dat.S (.slice (some ⟨b1, 0, none⟩) 3 3) oneL)) ∧ Hid (L[1]? = some (Dat.S (.slice (some ⟨b2, 0, none⟩) 3 3) twoL)) ∧ Hid (L[2]? = some (Dat.B br #[.int .i64 2, .slice (some ⟨b1, 0, none⟩) 3 3] 26)) ∧ Hid (L[3]? = some (Dat.B bo #[.int .i64 2, .slice (some ⟨b2, 0, none⟩) 3 3] 26)) ∧ Hid (L[5]? = some (Dat.I (.slice (some ⟨pb, po, none⟩) 2 pcap) [⟨i0, e0, q0⟩, ⟨i1, e1, q1⟩])) ∧ Hid (L[6]? = some (Dat.B bP #[.int .i64 Pc, .int .i64 Pz, .string Pr, .string Pl, .slice (some ⟨pb, po, none⟩) 2 pcap] 38)) ∧ Hid (L[8]? = some (Dat.I (.slice aF Fi.length cF) Fi)) ∧ Hid (L[9]? = some (Dat.B bF #[.int .i64 Fc, .int .i64 Fz, .string Fr, .string Fl, .slice aF Fi.length cF] 38)) ∧ Hid (L[11]? = some (Dat.I (.slice aS Si.length cS) Si)) ∧ Hid (L[12]? = some (Dat.B bS #[.int .i64 Sc, .int .i64 Sz, .string Sr, .string Sl, .slice aS Si.length cS] 38)) ∧ Hid (L[14]? = some (Dat.I (.slice aA Ai.length cA) Ai)) ∧ Hid (L[15]? = some (Dat.B bA #[.int .i64 Ac, .int .i64 Az, .string Ar, .string Al, .slice aA Ai.length cA] 38)) ∧ Hid (L[17]? = some (Dat.I (.slice aB Bi.length cB) Bi)) ∧ Hid (L[18]? = some (Dat.B bB #[.int .i64 Bc, .int .i64 Bz, .string Br, .string Bl, .slice aB Bi.length cB] 38)) ∧ Hid (L[20]? = some (Dat.I (.slice aWh Whi.length cWh) Whi)) ∧ Hid (L[21]? = some (Dat.B bWh #[.int .i64 Whc, .int .i64 Whz, .string Whr, .string Whl, .slice aWh Whi.length cWh] 38)) ∧ Hid (L[23]? = some (Dat.I (.slice aE Ei.length cE) Ei)) ∧ Hid (L[24]? = some (Dat.B bE #[.int .i64 Ec, .int .i64 Ez, .string Er, .string El, .slice aE Ei.length cE] 38)) ∧ Hid (L[iIX]? = some (Dat.I (.slice aX 2 cX) [⟨i0, e0, q0⟩, ⟨2, sD, q1⟩])) ∧ Hid (L[iBX]? = some (Dat.B bX #[.int .i64 Pc, .int .i64 Pz, .string Pr, .string Pl, .slice aX 2 cX] 38)) ∧ Hid (L[iSg1]? = some (Dat.S (.slice ag1 g1.length cg1) g1)) ∧ Hid (L[iSg2]? = some (Dat.S (.slice ag2 g2.length cg2) g2)) ∧ Hid (L[iSg3]? = some (Dat.S (.slice ag3 g3.length cg3) g3)) ∧ Hid (L[iPSbj]? = some (Dat.P (.slice (some ⟨bj, 0, none⟩) 2 2) [⟨⟨Ec, Ez, Er, El⟩, Ei⟩, ⟨⟨Pc, Pz, Pr, Pl⟩, [⟨i0, e0, q0⟩, ⟨i1, e1, q1⟩]⟩])) ∧ Hid (L[iIJbj]? = some (Dat.I (.slice (some ⟨jb, jo, none⟩) 2 jc) [⟨0, sA, []⟩, ⟨2, sC, []⟩])) ∧ ∃ i : Nat, Hid (L[i]? = some (Dat.P (.slice (some ⟨bk, 0, none⟩) 3 3) [⟨⟨Ec, Ez, Er, El⟩, Ei⟩, ⟨⟨Fc, Fz, Fr, Fl⟩, Fi⟩, ⟨⟨Sc, Sz, Sr, Sl⟩, Si⟩])) ∧ ∃ i : Nat, Hid (L[i]? = some (Dat.I (.slice abk 0 cbk) [])) := ⟨_, K47, Lib.hid (get_app (get_app (Qone5.out))), Lib.hid (get_app (get_app (Qtwo5.out))), Lib.hid (get_app (get_app (Qr5.out))), Lib.hid (get_app (get_app (Qother5.out))), Lib.hid (get_app (get_app (QIP5.out))), Lib.hid (get_app (get_app (QBP5.out))), Lib.hid (get_app (get_app (QIF5.out))), Lib.hid (get_app (get_app (QBF5.out))), Lib.hid (get_app (get_app (QIS5.out))), Lib.hid (get_app (get_app (QBS5.out))), Lib.hid (get_app (get_app (QIA5.out))), Lib.hid (get_app (get_app (QBA5.out))), Lib.hid (get_app (get_app (QIB5.out))), Lib.hid (get_app (get_app (QBB5.out))), Lib.hid (get_app (get_app (QIWh5.out))), Lib.hid (get_app (get_app (QBWh5.out))), Lib.hid (get_app (get_app (QIE5.out))), Lib.hid (get_app (get_app (QBE5.out))), Lib.hid (get_app (get_app (QIX5.out))), Lib.hid (get_app (get_app (QBX5.out))), Lib.hid (get_app (get_app (QSg15.out))), Lib.hid (get_app (get_app (QSg25.out))), Lib.hid (get_app (get_app (QSg35.out))), Lib.hid (get_app (get_app (QPSbj5.out))), Lib.hid (get_app (get_app (QIJbj5.out))), _, Lib.hid (get_app (get_new)), _, Lib.hid (get_new)⟩
    clear K47 Qone5 Qtwo5 Qr5 Qother5 QIP5 QBP5 QIF5 QBF5 QIS5 QBS5 QIA5 QBA5 QIB5 QBB5 QIWh5 QBWh5 QIE5 QBE5 QIX5 QBX5 QSg15 QSg25 QSg35 QPSbj5 QIJbj5 KL5
    -- region 23
    obtain ⟨zE0, zE1, zE2, zE3, zE4⟩ := KL6.out.five QBE6.out
    obtain ⟨zP0, zP1, zP2, zP3, zP4⟩ := KL6.out.five QBP6.out
    go_wp2_with fail
    clear zE0 zE1 zE2 zE3 zE4 zP0 zP1 zP2 zP3 zP4
    refine (extends_at KL6.out iSg1 QSg16.out key2 ⟨Ec, Ez, Er, El⟩ ⟨Pc, Pz, Pr, Pl⟩ (by decide) HF.out.fE.1 HF.out.fP.1 HF.out.l1 true HF.out.e1).mono ?_
    rintro e w48 ⟨rfl, k48⟩
    have K48 := Lib.hid k48
    clear k48 KL6
    obtain ⟨zE0, zE1, zE2, zE3, zE4⟩ := K48.out.five QBE6.out
    obtain ⟨zS0, zS1, zS2, zS3, zS4⟩ := K48.out.five QBS6.out
    go_wp2_with fail
    clear zE0 zE1 zE2 zE3 zE4 zS0 zS1 zS2 zS3 zS4
    refine (extends_at K48.out iSg2 QSg26.out key2 ⟨Ec, Ez, Er, El⟩ ⟨Sc, Sz, Sr, Sl⟩ (by decide) HF.out.fE.1 HF.out.fS.1 HF.out.l2 true HF.out.e2).mono ?_
    rintro e w49 ⟨rfl, k49⟩
    have K49 := Lib.hid k49
    clear k49 K48
    obtain ⟨zF0, zF1, zF2, zF3, zF4⟩ := K49.out.five QBF6.out
    obtain ⟨zS0, zS1, zS2, zS3, zS4⟩ := K49.out.five QBS6.out
    go_wp2_with fail
    clear zF0 zF1 zF2 zF3 zF4 zS0 zS1 zS2 zS3 zS4
    refine (extends_at K49.out iSg3 QSg36.out key2 ⟨Fc, Fz, Fr, Fl⟩ ⟨Sc, Sz, Sr, Sl⟩ (by decide) HF.out.fF.1 HF.out.fS.1 HF.out.l3 false HF.out.e3).mono ?_
    rintro e w50 ⟨rfl, k50⟩
    have K50 := Lib.hid k50
    clear k50 K49
    -- region 24
    obtain ⟨zF0, zF1, zF2, zF3, zF4⟩ := K50.out.five QBF6.out
    obtain ⟨zS0, zS1, zS2, zS3, zS4⟩ := K50.out.five QBS6.out
    go_wp2_with fail
    clear zF0 zF1 zF2 zF3 zF4 zS0 zS1 zS2 zS3 zS4
    refine (conv_at2 K50.out 8 11 (p := ⟨⟨Fc, Fz, Fr, Fl⟩, Fi⟩) (q := ⟨⟨Sc, Sz, Sr, Sl⟩, Si⟩) QIF6.out QIS6.out (by decide) HF.out.fF HF.out.fS true HF.out.c1).mono ?_
    rintro e w51 ⟨rfl, k51⟩
    have K51 := Lib.hid k51
    clear k51 K50
    obtain ⟨zA0, zA1, zA2, zA3, zA4⟩ := K51.out.five QBA6.out
    obtain ⟨zB0, zB1, zB2, zB3, zB4⟩ := K51.out.five QBB6.out
    go_wp2_with fail
    clear zA0 zA1 zA2 zA3 zA4 zB0 zB1 zB2 zB3 zB4
    refine (conv_at2 K51.out 14 17 (p := ⟨⟨Ac, Az, Ar, Al⟩, Ai⟩) (q := ⟨⟨Bc, Bz, Br, Bl⟩, Bi⟩) QIA6.out QIB6.out (by decide) HF.out.fA HF.out.fB false HF.out.c2).mono ?_
    rintro e w52 ⟨rfl, k52⟩
    have K52 := Lib.hid k52
    clear k52 K51
    obtain ⟨zWh0, zWh1, zWh2, zWh3, zWh4⟩ := K52.out.five QBWh6.out
    obtain ⟨zB0, zB1, zB2, zB3, zB4⟩ := K52.out.five QBB6.out
    go_wp2_with fail
    clear zWh0 zWh1 zWh2 zWh3 zWh4 zB0 zB1 zB2 zB3 zB4
    refine (conv_at2 K52.out 20 17 (p := ⟨⟨Whc, Whz, Whr, Whl⟩, Whi⟩) (q := ⟨⟨Bc, Bz, Br, Bl⟩, Bi⟩) QIWh6.out QIB6.out (by decide) HF.out.fWh HF.out.fB true HF.out.c3).mono ?_
    rintro e w53 ⟨rfl, k53⟩
    have K53 := Lib.hid k53
    clear k53 K52
    obtain ⟨zP0, zP1, zP2, zP3, zP4⟩ := K53.out.five QBP6.out
    obtain ⟨zF0, zF1, zF2, zF3, zF4⟩ := K53.out.five QBF6.out
    go_wp2_with fail
    clear zP0 zP1 zP2 zP3 zP4 zF0 zF1 zF2 zF3 zF4
    refine (conv_at2 K53.out 5 8 (p := ⟨⟨Pc, Pz, Pr, Pl⟩, [⟨i0, e0, q0⟩, ⟨i1, e1, q1⟩]⟩) (q := ⟨⟨Fc, Fz, Fr, Fl⟩, Fi⟩) QIP6.out QIF6.out (by decide) HF.out.fP HF.out.fF false HF.out.c4).mono ?_
    rintro e w54 ⟨rfl, k54⟩
    have K54 := Lib.hid k54
    clear k54 K53
    -- region 25
    go_upto_region 25 with fail
    obtain ⟨jb', jo', jc', jv, ju, hpe, HJ, HJP⟩ := K54.out.pair QIJbj6.out
    have f1' := (Value.slice.inj hpe).1
    have f2' := (Value.slice.inj hpe).2.2
    have f3' := (Addr.mk.inj (Option.some.inj f1')).1
    have f4' := (Addr.mk.inj (Option.some.inj f1')).2.1
    subst f2' f3' f4'
    clear hpe f1'
    have hv0 : SS w54 jv [] := HJ.is.2 (⟨0, sA, []⟩, jv) (by simp)
    obtain ⟨va0, vc0, rfl⟩ := hv0.form2
    clear hv0 HJ
    obtain ⟨hjb, y0, y1, y2, y3, y4, y5⟩ := HJP
    simp only [sA, sC, List.length_nil] at y0 y1 y2 y3 y4 y5
    go_upto_region 26 with fail
    clear y0 y1 y2 y3 y4 y5 hjb
    have KD := Lib.hid K54.out.drew
    clear K54
    obtain ⟨xz0, xz1, xz2, xz3, xz4⟩ := KD.out.five QBX6.out
    obtain ⟨uz0, uz1, uz2, uz3, uz4⟩ := KD.out.five QBP6.out
    obtain ⟨tz0, tz1⟩ := KD.out.duo Qr6.out
    refine wp_region_noPanic ?_
    refine wp_region_lexO [10, 17, 20, 23, 28, 32] [0, 1, 2, 3, 4, 5, 6, 7, 8, 9, 10, 11, 12, 13, 14, 15, 16, 17, 18, 19, 21, 22, 20, 23, 24, 25, 26, 27, 28, 29, 30, 31, 32, 33, 34, 35] (fun w' => w'.cell? ⟨bX, 0, none⟩ = some (.int .i64 Pc) ∧ w'.cell? ⟨bX, 1, none⟩ = some (.int .i64 Pz) ∧ w'.cell? ⟨bX, 2, none⟩ = some (.string Pr) ∧ w'.cell? ⟨bX, 3, none⟩ = some (.string Pl) ∧ w'.cell? ⟨bX, 4, none⟩ = some (.slice aX 2 cX) ∧ w'.cell? ⟨bP, 0, none⟩ = some (.int .i64 Pc) ∧ w'.cell? ⟨bP, 1, none⟩ = some (.int .i64 Pz) ∧ w'.cell? ⟨bP, 2, none⟩ = some (.string Pr) ∧ w'.cell? ⟨bP, 3, none⟩ = some (.string Pl) ∧ w'.cell? ⟨br, 0, none⟩ = some (.int .i64 2) ∧ w'.cell? ⟨br, 1, none⟩ = some (.slice (some ⟨b1, 0, none⟩) 3 3)) (by kernel_rfl) (by kernel_rfl) rfl (fun _ _ _ _ _ h => h) ⟨xz0, xz1, xz2, xz3, xz4, uz0, uz1, uz2, uz3, tz0, tz1⟩ ?_
    clear xz0 xz1 xz2 xz3 xz4 uz0 uz1 uz2 uz3 uz4 tz0 tz1
    refine wpLexO_takeL (v := ?_) rfl (by rfl) (Or.inl ⟨by rfl, ?_⟩) ?_
    rotate_left
    · intro w hSw; (try dsimp only at hSw); go_simp; try with_reducible rfl
    simp only [Act.put, List.setIfInBounds_toArray, List.set_cons_zero, List.set_cons_succ]
    refine wpLexO_takeL (v := ?_) rfl (by rfl) (Or.inl ⟨by rfl, ?_⟩) ?_
    rotate_left
    · intro w hSw; (try dsimp only at hSw); go_simp; try with_reducible rfl
    simp only [Act.put, List.setIfInBounds_toArray, List.set_cons_zero, List.set_cons_succ]
    refine wpLexO_takeL (v := ?_) rfl (by rfl) (Or.inl ⟨by rfl, ?_⟩) ?_
    rotate_left
    · intro w hSw; (try dsimp only at hSw); go_simp; try with_reducible rfl
    simp only [Act.put, List.setIfInBounds_toArray, List.set_cons_zero, List.set_cons_succ]
    refine wpLexO_takeL (v := ?_) rfl (by rfl) (Or.inl ⟨by rfl, ?_⟩) ?_
    rotate_left
    · intro w hSw; (try dsimp only at hSw); go_simp; try with_reducible rfl
    simp only [Act.put, List.setIfInBounds_toArray, List.set_cons_zero, List.set_cons_succ]
    refine wpLexO_takeL (v := ?_) rfl (by rfl) (Or.inl ⟨by rfl, ?_⟩) ?_
    rotate_left
    · intro w hSw; (try dsimp only at hSw); go_simp; try with_reducible rfl
    simp only [Act.put, List.setIfInBounds_toArray, List.set_cons_zero, List.set_cons_succ]
    refine wpLexO_takeL (v := ?_) rfl (by rfl) (Or.inl ⟨by rfl, ?_⟩) ?_
    rotate_left
    · intro w hSw; (try dsimp only at hSw); go_simp; try with_reducible rfl
    simp only [Act.put, List.setIfInBounds_toArray, List.set_cons_zero, List.set_cons_succ]
    refine wpLexO_takeL (v := ?_) rfl (by rfl) (Or.inl ⟨by rfl, ?_⟩) ?_
    rotate_left
    · intro w hSw; (try dsimp only at hSw); go_simp; try with_reducible rfl
    simp only [Act.put, List.setIfInBounds_toArray, List.set_cons_zero, List.set_cons_succ]
    refine wpLexO_takeL (v := ?_) rfl (by rfl) (Or.inl ⟨by rfl, ?_⟩) ?_
    rotate_left
    · intro w hSw; (try dsimp only at hSw); go_simp; try with_reducible rfl
    simp only [Act.put, List.setIfInBounds_toArray, List.set_cons_zero, List.set_cons_succ]
    refine wpLexO_takeL (v := ?_) rfl (by rfl) (Or.inl ⟨by rfl, ?_⟩) ?_
    rotate_left
    · intro w hSw; (try dsimp only at hSw); go_simp; try with_reducible rfl
    simp only [Act.put, List.setIfInBounds_toArray, List.set_cons_zero, List.set_cons_succ]
    refine wpLexO_takeL (v := ?_) rfl (by rfl) (Or.inl ⟨by rfl, ?_⟩) ?_
    rotate_left
    · intro w hSw; (try dsimp only at hSw); go_simp; try with_reducible rfl
    simp only [Act.put, List.setIfInBounds_toArray, List.set_cons_zero, List.set_cons_succ]
    have HCx : Hid (Calls Tryz.prog 24 #[.string key2, .agg #[.int .i64 Pc, .int .i64 Pz, .string Pr, .string Pl, .slice aX 2 cX]] w54.drew (Says w L6 (.bool false))) := Lib.hid (check_at KD.out iIX (p := ⟨⟨Pc, Pz, Pr, Pl⟩, [⟨i0, e0, q0⟩, ⟨2, sD, q1⟩]⟩) (iv := .slice aX 2 cX) QIX6.out (by decide) HF.out.fbad false HF.out.bad)
    refine wpLexO_bigL rfl (by rfl) (fun K hK => ?_)
    go_simp
    go_at_call 24
    with_reducible refine HCx.out.mono ?_
    rintro e w55 ⟨rfl, k55⟩
    have K55 := Lib.hid k55
    clear k55 KD HCx
    obtain ⟨xz0, xz1, xz2, xz3, xz4⟩ := K55.out.five QBX6.out
    obtain ⟨uz0, uz1, uz2, uz3, uz4⟩ := K55.out.five QBP6.out
    obtain ⟨tz0, tz1⟩ := K55.out.duo Qr6.out
    refine hK.out _ _ ⟨xz0, xz1, xz2, xz3, xz4, uz0, uz1, uz2, uz3, tz0, tz1⟩ (fun _ => ?_)
    clear hK K
    clear xz0 xz1 xz2 xz3 xz4 uz0 uz1 uz2 uz3 uz4 tz0 tz1
    refine wpLexO_takeL (v := ?_) rfl (by rfl) (Or.inl ⟨by rfl, ?_⟩) ?_
    rotate_left
    · intro w hSw; (try dsimp only at hSw); go_simp; try with_reducible rfl
    simp only [Act.put, List.setIfInBounds_toArray, List.set_cons_zero, List.set_cons_succ]
    refine wpLexO_takeL (v := ?_) rfl (by rfl) (Or.inl ⟨by rfl, ?_⟩) ?_
    rotate_left
    · intro w hSw; (try dsimp only at hSw); go_simp; try with_reducible rfl
    simp only [Act.put, List.setIfInBounds_toArray, List.set_cons_zero, List.set_cons_succ]
    refine wpLexO_takeL (v := ?_) rfl (by rfl) (Or.inl ⟨by rfl, ?_⟩) ?_
    rotate_left
    · intro w hSw; (try dsimp only at hSw); go_simp; try with_reducible rfl
    simp only [Act.put, List.setIfInBounds_toArray, List.set_cons_zero, List.set_cons_succ]
    refine wpLexO_takeL (v := ?_) rfl (by rfl) (Or.inl ⟨by rfl, ?_⟩) ?_
    rotate_left
    · intro w hSw; (try dsimp only at hSw); go_simp; try with_reducible rfl
    simp only [Act.put, List.setIfInBounds_toArray, List.set_cons_zero, List.set_cons_succ]
    refine wpLexO_takeL (v := ?_) rfl (by rfl) (Or.inl ⟨by rfl, ?_⟩) ?_
    rotate_left
    · intro w hSw; (try dsimp only at hSw); go_simp; try with_reducible rfl
    simp only [Act.put, List.setIfInBounds_toArray, List.set_cons_zero, List.set_cons_succ]
    refine wpLexO_takeL (v := ?_) rfl (by rfl) (Or.inl ⟨by rfl, ?_⟩) ?_
    rotate_left
    · intro w hSw; (try dsimp only at hSw); go_simp; try with_reducible rfl
    simp only [Act.put, List.setIfInBounds_toArray, List.set_cons_zero, List.set_cons_succ]
    have HCx : Hid (Calls Tryz.prog 40 #[.string key2, .agg #[.int .i64 Pc, .int .i64 Pz, .string Pr, .string Pl]] w55 (Says w L6 (.bool true))) := Lib.hid (genuine_at K55.out key2 ⟨Pc, Pz, Pr, Pl⟩ (by decide) HF.out.fP.1 true HF.out.n1)
    refine wpLexO_bigL rfl (by rfl) (fun K hK => ?_)
    go_simp
    go_at_call 40
    with_reducible refine HCx.out.mono ?_
    rintro e w56 ⟨rfl, k56⟩
    have K56 := Lib.hid k56
    clear k56 K55 HCx
    obtain ⟨xz0, xz1, xz2, xz3, xz4⟩ := K56.out.five QBX6.out
    obtain ⟨uz0, uz1, uz2, uz3, uz4⟩ := K56.out.five QBP6.out
    obtain ⟨tz0, tz1⟩ := K56.out.duo Qr6.out
    refine hK.out _ _ ⟨xz0, xz1, xz2, xz3, xz4, uz0, uz1, uz2, uz3, tz0, tz1⟩ (fun _ => ?_)
    clear hK K
    clear xz0 xz1 xz2 xz3 xz4 uz0 uz1 uz2 uz3 uz4 tz0 tz1
    refine wpLexO_takeL (v := ?_) rfl (by rfl) (Or.inl ⟨by rfl, ?_⟩) ?_
    rotate_left
    · intro w hSw; (try dsimp only at hSw); go_simp; try with_reducible rfl
    simp only [Act.put, List.setIfInBounds_toArray, List.set_cons_zero, List.set_cons_succ]
    refine wpLexO_takeL (v := ?_) rfl (by rfl) (Or.inl ⟨by rfl, ?_⟩) ?_
    rotate_left
    · intro w hSw; (try dsimp only at hSw); go_simp; try with_reducible rfl
    simp only [Act.put, List.setIfInBounds_toArray, List.set_cons_zero, List.set_cons_succ]
    refine wpLexO_takeL (v := ?_) rfl (by rfl) (Or.inl ⟨by rfl, ?_⟩) ?_
    rotate_left
    · intro w hSw; (try dsimp only at hSw); go_simp; try with_reducible rfl
    simp only [Act.put, List.setIfInBounds_toArray, List.set_cons_zero, List.set_cons_succ]
    refine wpLexO_takeL (v := ?_) rfl (by rfl) (Or.inl ⟨by rfl, ?_⟩) ?_
    rotate_left
    · intro w hSw; (try dsimp only at hSw); go_simp; try with_reducible rfl
    simp only [Act.put, List.setIfInBounds_toArray, List.set_cons_zero, List.set_cons_succ]
    have HCx : Hid (Calls Tryz.prog 15 #[.int .i64 3] w56 (Says w L6 (.string (keyS ((3 : Nat) : Int))))) := Lib.hid (key_at K56.out 3 (by omega))
    refine wpLexO_bigL rfl (by rfl) (fun K hK => ?_)
    go_simp
    go_at_call 15
    with_reducible refine HCx.out.mono ?_
    rintro e w57 ⟨rfl, k57⟩
    have K57 := Lib.hid k57
    clear k57 K56 HCx
    obtain ⟨xz0, xz1, xz2, xz3, xz4⟩ := K57.out.five QBX6.out
    obtain ⟨uz0, uz1, uz2, uz3, uz4⟩ := K57.out.five QBP6.out
    obtain ⟨tz0, tz1⟩ := K57.out.duo Qr6.out
    refine hK.out _ _ ⟨xz0, xz1, xz2, xz3, xz4, uz0, uz1, uz2, uz3, tz0, tz1⟩ (fun _ => ?_)
    clear hK K
    clear xz0 xz1 xz2 xz3 xz4 uz0 uz1 uz2 uz3 uz4 tz0 tz1
    rw [key3_is]
    have HCx : Hid (Calls Tryz.prog 40 #[.string key3, .agg #[.int .i64 Pc, .int .i64 Pz, .string Pr, .string Pl]] w57 (Says w L6 (.bool false))) := Lib.hid (genuine_at K57.out key3 ⟨Pc, Pz, Pr, Pl⟩ (by decide) HF.out.fP.1 false HF.out.n2)
    refine wpLexO_bigL rfl (by rfl) (fun K hK => ?_)
    go_simp
    go_at_call 40
    with_reducible refine HCx.out.mono ?_
    rintro e w58 ⟨rfl, k58⟩
    have K58 := Lib.hid k58
    clear k58 K57 HCx
    obtain ⟨xz0, xz1, xz2, xz3, xz4⟩ := K58.out.five QBX6.out
    obtain ⟨uz0, uz1, uz2, uz3, uz4⟩ := K58.out.five QBP6.out
    obtain ⟨tz0, tz1⟩ := K58.out.duo Qr6.out
    refine hK.out _ _ ⟨xz0, xz1, xz2, xz3, xz4, uz0, uz1, uz2, uz3, tz0, tz1⟩ (fun _ => ?_)
    clear hK K
    clear xz0 xz1 xz2 xz3 xz4 uz0 uz1 uz2 uz3 uz4 tz0 tz1
    refine wpLexO_takeL (v := ?_) rfl (by rfl) (Or.inl ⟨by rfl, ?_⟩) ?_
    rotate_left
    · intro w hSw; (try dsimp only at hSw); go_simp; try with_reducible rfl
    simp only [Act.put, List.setIfInBounds_toArray, List.set_cons_zero, List.set_cons_succ]
    refine wpLexO_takeL (v := ?_) rfl (by rfl) (Or.inl ⟨by rfl, ?_⟩) ?_
    rotate_left
    · intro w hSw; (try dsimp only at hSw); go_simp; try with_reducible rfl
    simp only [Act.put, List.setIfInBounds_toArray, List.set_cons_zero, List.set_cons_succ]
    refine wpLexO_takeL (v := ?_) rfl (by rfl) (Or.inl ⟨by rfl, ?_⟩) ?_
    rotate_left
    · intro w hSw; (try dsimp only at hSw); go_simp; try with_reducible rfl
    simp only [Act.put, List.setIfInBounds_toArray, List.set_cons_zero, List.set_cons_succ]
    refine wpLexO_takeL (v := ?_) rfl (by rfl) (Or.inl ⟨by rfl, ?_⟩) ?_
    rotate_left
    · intro w hSw; (try dsimp only at hSw); go_simp; try with_reducible rfl
    simp only [Act.put, List.setIfInBounds_toArray, List.set_cons_zero, List.set_cons_succ]
    have HCx : Hid (Calls Tryz.prog 44 #[.agg #[.int .i64 2, .slice (some ⟨b1, 0, none⟩) 3 3]] w58 (Says w L6 (.bool true))) := Lib.hid (valid_at K58.out 0 Qone6.out 2 true one_valid)
    refine wpLexO_bigL rfl (by rfl) (fun K hK => ?_)
    go_simp
    go_at_call 44
    with_reducible refine HCx.out.mono ?_
    rintro e w59 ⟨rfl, k59⟩
    have K59 := Lib.hid k59
    clear k59 K58 HCx
    obtain ⟨xz0, xz1, xz2, xz3, xz4⟩ := K59.out.five QBX6.out
    obtain ⟨uz0, uz1, uz2, uz3, uz4⟩ := K59.out.five QBP6.out
    obtain ⟨tz0, tz1⟩ := K59.out.duo Qr6.out
    refine hK.out _ _ ⟨xz0, xz1, xz2, xz3, xz4, uz0, uz1, uz2, uz3, tz0, tz1⟩ (fun _ => ?_)
    clear hK K
    clear xz0 xz1 xz2 xz3 xz4 uz0 uz1 uz2 uz3 uz4 tz0 tz1
    refine wpLexO_takeL (v := ?_) rfl (by rfl) (Or.inl ⟨by rfl, ?_⟩) ?_
    rotate_left
    · intro w hSw; (try dsimp only at hSw); go_simp; try with_reducible rfl
    simp only [Act.put, List.setIfInBounds_toArray, List.set_cons_zero, List.set_cons_succ]
    refine wpLexO_takeL (v := ?_) rfl (by rfl) (Or.inl ⟨by rfl, ?_⟩) ?_
    rotate_left
    · intro w hSw; (try dsimp only at hSw); go_simp; try with_reducible rfl
    simp only [Act.put, List.setIfInBounds_toArray, List.set_cons_zero, List.set_cons_succ]
    refine wpLexO_takeL (v := ?_) rfl (by rfl) (Or.inl ⟨by rfl, ?_⟩) ?_
    rotate_left
    · intro w hSw; (try dsimp only at hSw); go_simp; try with_reducible rfl
    simp only [Act.put, List.setIfInBounds_toArray, List.set_cons_zero, List.set_cons_succ]
    have HCx : Hid (Calls Tryz.prog 44 #[.agg #[.int .i64 8, .slice none 0 0]] w59 (Says w L6 (.bool false))) := Lib.hid (valid_eight K59.out)
    refine wpLexO_bigL rfl (by rfl) (fun K hK => ?_)
    go_simp
    go_at_call 44
    with_reducible refine HCx.out.mono ?_
    rintro e w60 ⟨rfl, k60⟩
    have K60 := Lib.hid k60
    clear k60 K59 HCx
    obtain ⟨xz0, xz1, xz2, xz3, xz4⟩ := K60.out.five QBX6.out
    obtain ⟨uz0, uz1, uz2, uz3, uz4⟩ := K60.out.five QBP6.out
    obtain ⟨tz0, tz1⟩ := K60.out.duo Qr6.out
    refine hK.out _ _ ⟨xz0, xz1, xz2, xz3, xz4, uz0, uz1, uz2, uz3, tz0, tz1⟩ (fun _ => ?_)
    clear hK K
    clear xz0 xz1 xz2 xz3 xz4 uz0 uz1 uz2 uz3 uz4 tz0 tz1
    refine wpLexO_takeL (v := ?_) rfl (by rfl) (Or.inl ⟨by rfl, ?_⟩) ?_
    rotate_left
    · intro w hSw; (try dsimp only at hSw); go_simp; try with_reducible rfl
    simp only [Act.put, List.setIfInBounds_toArray, List.set_cons_zero, List.set_cons_succ]
    refine wpLexO_takeL (v := ?_) rfl (by rfl) (Or.inl ⟨by rfl, ?_⟩) ?_
    rotate_left
    · intro w hSw; (try dsimp only at hSw); go_simp; try with_reducible rfl
    simp only [Act.put, List.setIfInBounds_toArray, List.set_cons_zero, List.set_cons_succ]
    refine wpLexO_takeL (v := ?_) rfl (by rfl) (Or.inl ⟨by rfl, ?_⟩) ?_
    rotate_left
    · intro w hSw; (try dsimp only at hSw); go_simp; try with_reducible rfl
    simp only [Act.put, List.setIfInBounds_toArray, List.set_cons_zero, List.set_cons_succ]
    refine wpLexO_nil ?_
    refine NoPanic.normal ?_
    go_wp2
    go_ret
    exact ⟨rfl, K60.out.below⟩
theorem sane_at {w0 w : World} {ls : List Dat} (k : Know w0 w ls) : Calls Tryz.prog 12 #[] w (Says w0 ls (.bool true)) :=
  (sane_any k.env k.tab).mono fun _ _ ⟨he, hb⟩ => ⟨he, k.step hb⟩
end Go.Proofs.YtinfpbkbnhcifaaGreatDoor
