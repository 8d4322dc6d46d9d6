/- Walk of the law: QuorumOne. The conditions: what the row holds, the tables of constants. -/
import Derived.Test.YtggdcnjaofflbaaGreatDoorC20
import Derived.Test.YtggdcnjaofflbaaGreatDoorC21
import Derived.Test.YtggdcnjaofflbaaGreatDoorEE00
import Derived.Test.YtggdcnjaofflbaaGreatDoorEE01
namespace Go.Proofs.YtggdcnjaofflbaaGreatDoor
open Go.RowKit Go.BigFrame

theorem wp_of_eqO {P : Program} {c L : Code} {Q : Exit → Act → World → Prop} {a : Act} {w : World} (h : c.wp P Q a w) (e : c = L) : L.wp P Q a w := e ▸ h
set_option maxHeartbeats 16000000 in
set_option maxRecDepth 100000 in
theorem one_walk {w : World} {x : Value} {xs : List R4} (n at1 one two : Int) (hx : RS w x xs) (hi : ∀ q ∈ xs, Int4 q) (i0 : I64 n) (i1 : I64 at1) (i2 : I64 one) (i3 : I64 two) (he : QEnv w) :
    Calls Tryz.prog 4 #[.int .i64 n, x, .int .i64 at1, .int .i64 one, .int .i64 two] w fun e w' => e = .returned (.bool true) ∧ Below w.heap.size w w' := by
  have HSA := Lib.hid (sane_any he)
  have HMA := Lib.hid (fun W => made19_any n i0 W)
  have HAT := Lib.hid (fun W => at_any at1 i1 W)
  have HV1 := Lib.hid (fun W => valN_any one i2 W)
  have HV2 := Lib.hid (fun W => valN_any two i3 W)
  have HX := Lib.hid hx
  have HI := Lib.hid hi
  have HE0 := Lib.hid he
  have hm := madeN_or n
  have hnr := atNum_range at1
  have hsr := atStp_range at1
  have hus := valN_size one
  have hts := valN_size two
  generalize madeN n = m at *
  generalize atNum at1 = num at *
  generalize atStp at1 = stp at *
  generalize valN one = u at *
  generalize valN two = t at *
  clear hx hi he
  go_enter Tryz.func4, Tryz.ntmps4
  go_upto_region 4 with (go_at_call 11; refine HSA.out.mono ?_; rintro e w2 ⟨rfl, hb2⟩)
  go_upto_region 5 with (go_at_call 12; refine (HMA.out _).mono ?_; rintro e w3 ⟨kv, rfl, hks, hb3⟩; obtain ⟨ka, kc, hkv, -, -, -⟩ := hks.opened; rw [madeQ_len] at hkv; subst hkv)
  have HB3 := Lib.hid (q_next hb2 hb3)
  have HK3 := Lib.hid hks
  clear hb2 hb3 hks
  obtain ⟨w4, hw4⟩ : ∃ W, W = w3.alloc (.cells #[.slice ka m kc] 31) := ⟨_, rfl⟩
  have HV_w4 : Hid (w4.heap[w3.heap.size]? = some (.cells #[.slice ka m kc] 31 (0, 0))) := Lib.hid (by rw [hw4]; exact heap_alloc_new w3 _)
  have HS_w4 : Hid (Below w3.heap.size w3 w4) := Lib.hid (by rw [hw4]; exact (Below.refl _ _).alloc (Nat.le_refl _) _)
  have HB_w4 := Lib.hid (q_next HB3.out HS_w4.out)
  rw [← hw4]
  obtain ⟨bc, hbc⟩ : ∃ b, b = w3.heap.size := ⟨_, rfl⟩
  rw [← hbc] at HV_w4 ⊢
  clear hw4 hbc
  go_upto_region 6 with (go_at_call 13; refine (HAT.out _).mono ?_; rintro e w5 ⟨rfl, hb5⟩)
  have HB5 := Lib.hid (q_next HB_w4.out hb5)
  have HV5 := Lib.hid ((hb5.block _ (Array.getElem?_eq_some_iff.1 HV_w4.out).1).trans HV_w4.out)
  have HK5 := Lib.hid (HK3.out.below (q_next HS_w4.out hb5))
  clear hb5 HV_w4 HS_w4 HB_w4 HK3 HB3
  obtain ⟨w6, hw6⟩ : ∃ W, W = w5.alloc (.cells #[.int .i64 num, .int .i64 stp] 25) := ⟨_, rfl⟩
  have HV_w6 : Hid (w6.heap[w5.heap.size]? = some (.cells #[.int .i64 num, .int .i64 stp] 25 (0, 0))) := Lib.hid (by rw [hw6]; exact heap_alloc_new w5 _)
  have HS_w6 : Hid (Below w5.heap.size w5 w6) := Lib.hid (by rw [hw6]; exact (Below.refl _ _).alloc (Nat.le_refl _) _)
  have HB_w6 := Lib.hid (q_next HB5.out HS_w6.out)
  rw [← hw6]
  obtain ⟨bs, hbs⟩ : ∃ b, b = w5.heap.size := ⟨_, rfl⟩
  rw [← hbs] at HV_w6 ⊢
  clear hw6 hbs
  obtain ⟨w7, hw7⟩ : ∃ w7, w7 = w6 := ⟨_, rfl⟩
  rw [← hw7] at HV_w6 HS_w6 HB_w6 ⊢
  clear hw7
  have HB7 := HB_w6
  have HK7 := Lib.hid (HK5.out.below HS_w6.out)
  have HVC := Lib.hid ((HS_w6.out.block _ (Array.getElem?_eq_some_iff.1 HV5.out).1).trans HV5.out)
  have HVS := HV_w6
  clear HV_w6 HS_w6 HB_w6 HK5 HB5 HV5 HSA HMA HAT
  have HCB : Hid (∀ W, Below w7.heap.size w7 W → W.cell? ⟨bc, 0, none⟩ = some (.slice ka m kc) ∧ W.cell? ⟨bs, 0, none⟩ = some (.int .i64 num) ∧ W.cell? ⟨bs, 1, none⟩ = some (.int .i64 stp)) := Lib.hid (fun W hW => by
    have h := two_at ((hW.block bs (Array.getElem?_eq_some_iff.1 HVS.out).1).trans HVS.out)
    exact ⟨cell_of_row W _ 0 _ _ _ ((hW.block bc (Array.getElem?_eq_some_iff.1 HVC.out).1).trans HVC.out), h.1, h.2⟩)
  have HPO := Lib.hid (pool_any (HX.out.below HB7.out) HI.out)
  go_upto_region 7 with (go_at_call 15; refine HPO.out.mono ?_; rintro e w8 ⟨vp, rfl, hvo, hb8⟩)
  have HVP := Lib.hid hvo
  have HS8 := Lib.hid hb8
  have hvk := madeQ_valid hm
  have HM := Lib.hid hm
  clear hvo hb8 HPO HX HI hm
  generalize poolN xs = PL at *
  go_upto_region 8 with (go_at_call 14; refine (HV1.out _).mono ?_; rintro e w9 ⟨rfl, hb9⟩)
  have HS9 := Lib.hid (q_next HS8.out hb9)
  have HVP9 := Lib.hid (HVP.out.below hb9)
  clear hb9 HVP
  go_upto_region 9 with (go_at_call 14; refine (HV2.out _).mono ?_; rintro e wa ⟨rfl, hb9⟩)
  have HSa := Lib.hid (q_next HS9.out hb9)
  have HVPa := Lib.hid (HVP9.out.below hb9)
  clear hb9 HVP9 HS9 HS8 HV1 HV2
  have HEa := Lib.hid (HE0.out.step (HB7.out.trans (HSa.out.mono HB7.out.size)))
  have HKa := Lib.hid (HK7.out.below HSa.out)
  have HCa := Lib.hid (fun W (hW : Below wa.heap.size wa W) => HCB.out W (q_next HSa.out hW))
  obtain ⟨o1, ho1⟩ : ∃ o, o = proveV (madeQ m) num stp u PL := ⟨_, rfl⟩
  obtain ⟨o2, ho2⟩ : ∃ o, o = proveV (madeQ m) num stp t PL := ⟨_, rfl⟩
  have HP1 := Lib.hid (prove_w HEa.out HKa.out HVPa.out num stp u hus o1 ho1.symm)
  have HP2 := Lib.hid (prove_w HEa.out HKa.out HVPa.out num stp t hts o2 ho2.symm)
  have HD1 := Lib.hid (doubles_w HEa.out HKa.out hvk HVPa.out (doublesV (madeQ m) PL) rfl)
  have HO1 := Lib.hid ho1
  have HO2 := Lib.hid ho2
  clear ho1 ho2 HVPa
  obtain ⟨c0, t0, t1⟩ := HCa.out wa (Below.refl _ _)
  go_upto_region 10 with (go_at_call 34; (with_reducible refine (HP1.out wa (Below.refl _ _)).mono ?_); rintro e wb ⟨v1, rfl, hv1, hb1⟩)
  have HBb := Lib.hid hb1
  have HQ1 := Lib.hid hv1
  clear c0 t0 t1 hv1 hb1
  obtain ⟨c0, t0, t1⟩ := HCa.out wb HBb.out
  go_upto_region 11 with (go_at_call 34; (with_reducible refine (HP2.out wb HBb.out).mono ?_); rintro e wc ⟨v2, rfl, hv2, hb2⟩)
  have HBc := Lib.hid (q_next HBb.out hb2)
  have HQ1c := Lib.hid (HQ1.out.below hb2)
  have HQ2c := Lib.hid hv2
  clear c0 t0 t1 hv2 hb2 HQ1
  obtain ⟨c0, t0, t1⟩ := HCa.out wc HBc.out
  go_upto_region 12 with (go_at_call 35; (with_reducible refine (HD1.out wc HBc.out).mono ?_); rintro e wd ⟨vl, rfl, hvl, hbd⟩)
  have HBd := Lib.hid (q_next HBc.out hbd)
  have HQ1d := Lib.hid (HQ1c.out.below hbd)
  have HQ2d := Lib.hid (HQ2c.out.below hbd)
  have HLd := Lib.hid hvl
  have HBE := Lib.hid (HB7.out.trans ((q_next HSa.out HBd.out).mono HB7.out.size))
  clear c0 t0 t1 hvl hbd HQ1c HQ2c HP1 HP2 HD1
  cases o1 with
  | none =>
    simp only [Option.isSome_none]
    go_wp2
    go_ret
    exact ⟨rfl, HBE.out⟩
  | some p =>
  cases o2 with
  | none =>
    simp only [Option.isSome_none, Option.isSome_some]
    go_wp2
    go_ret
    exact ⟨rfl, HBE.out⟩
  | some q =>
  have hss := same_str u t
  obtain ⟨eq, heq⟩ : ∃ eq, eq = decide (u = t) := ⟨_, rfl⟩
  rw [← heq] at hss
  have HEQ := Lib.hid heq
  clear heq
  simp only [Option.isSome_some, Option.getD_some] at HQ1d HQ2d ⊢
  cases eq with
  | true =>
    go_wp2
    go_ret
    exact ⟨rfl, HBE.out⟩
  | false =>
    obtain ⟨D, hbl, hlen, hgd, has, hcnt⟩ := one_facts HO1.out.symm HO2.out.symm (of_decide_eq_false HEQ.out.symm)
    rw [madeQ_len] at hlen
    have HEd := Lib.hid (HEa.out.step HBd.out)
    have HKd := Lib.hid (HKa.out.below HBd.out)
    have HBL := Lib.hid (blame_w HEd.out HKd.out HQ1d.out HQ2d.out (some D) hbl)
    have HFA := Lib.hid (fun W => faults_any HM.out ka kc W)
    have HGZ := Lib.hid hgd
    have HAZ := Lib.hid has
    have hf2 : (m - 1) / 3 ≤ 2 := by have := HM.out; omega
    obtain ⟨f, hf⟩ : ∃ f, f = (m - 1) / 3 := ⟨_, rfl⟩
    rw [← hf] at HFA hlen hf2
    clear hf hbl hgd has
    obtain ⟨c0, t0, t1⟩ := HCa.out wd HBd.out
    go_upto_region 14 with fail
    go_upto_region 15 with (go_at_call 31; (with_reducible refine (HBL.out wd (Below.refl _ _)).mono ?_); rintro e we ⟨vd, rfl, hvd, hbe⟩)
    have HBe := Lib.hid (q_next HBd.out hbe)
    have HBde := Lib.hid hbe
    have HLe := Lib.hid (HLd.out.below hbe)
    clear c0 t0 t1
    simp only [Option.getD_some] at hvd ⊢
    obtain ⟨da, dc, hde, hdl, hdm, -⟩ := hvd.opened
    subst hde
    have HDe := Lib.hid hvd
    have HLI := Lib.hid (fun W (hW : Below we.heap.size we W) => liars_any (HLe.out.below hW) num stp)
    obtain ⟨c, hc⟩ : ∃ c, c = ((doublesV (madeQ m) PL).filter (atSlot num stp)).length := ⟨_, rfl⟩
    rw [← hc] at HLI hcnt
    obtain ⟨N, hN⟩ : ∃ N, N = D.length := ⟨_, rfl⟩
    rw [← hN] at hcnt hlen hdl HDe ⊢
    clear hc hN hvd hbe
    have hN9 : N ≤ 9223372036854775807 := by unfold maxLen at hdm; omega
    have h1 : ¬ (N : Int) < IntKind.i64.wrap ((f : Int) + 1) := by rw [IntWalk.i64_in _ (by omega)]; omega
    have h2 : ¬ (c : Int) < (N : Int) := by omega
    obtain ⟨c0, t0, t1⟩ := HCa.out we HBe.out
    go_wp2_with fail
    go_at_call 36
    (with_reducible refine (HFA.out _).mono ?_)
    rintro e wf ⟨rfl, hbf⟩
    have HBf := Lib.hid hbf
    clear c0 t0 t1
    obtain ⟨c0, t0, t1⟩ := HCa.out wf (q_next HBe.out hbf)
    go_wp2_with fail
    go_at_call 37
    (with_reducible refine (HLI.out wf HBf.out).mono ?_)
    rintro e wz ⟨rfl, hbg⟩
    have HBg := Lib.hid (q_next HBf.out hbg)
    clear c0 t0 t1
    dsimp only
    iterate 17 go_step
    have HBW := Lib.hid (HB7.out.trans ((q_next HSa.out (q_next HBe.out HBg.out)).mono HB7.out.size))
    have HBX := Lib.hid (q_next HBde.out HBg.out)
    have HEZ := Lib.hid (HEd.out.step HBX.out)
    have HKZ := Lib.hid (HKd.out.below HBX.out)
    have HCZ := Lib.hid (fun W (hW : Below wz.heap.size wz W) => HCa.out W (q_next (q_next HBe.out HBg.out) hW))
    have HLZ := Lib.hid (HLe.out.below HBg.out)
    have HDZ := Lib.hid (HDe.out.below HBg.out)
    refine wp_of_eqO (one_doubles HBW HEZ bc bs m kc ka num stp (madeQ m) vl (.slice da N dc) (doublesV (madeQ m) PL) D HKZ HCZ HLZ HDZ HGZ HAZ _ _ _ _ _ _ _ _ _ _ _ _ _ _ _ _ _ _ _ _ _ _ _ _ _ _ _ _ _ _ _ _ _ _ _ _ _ _ _ _ _ _ _ _ _ _ _ _ _ _ _ _ _ _ _ _ _ _ _ _ _ _ _ _ _ _ _ _ _ _ _ _ _ _ _ _ _ _ _ _ _ _ _ _ _ _ _ _ _ _ _ _ _ _ _ _ _ _ _ _ _ _ _ _ _ _ _ _ _ _ _ _ _ _ _ _ _ _ _ _ _ _ _ _ _ _ _ _ _ _ _ _ _ _ _ _ _ _ _ _ _ _ _ _ _ _ _ _ _ _ _ _ _ _ _ _ _ _ _ _ _ _).choose_spec.2 ?_
    exact tailQO (one_doubles HBW HEZ bc bs m kc ka num stp (madeQ m) vl (.slice da N dc) (doublesV (madeQ m) PL) D HKZ HCZ HLZ HDZ HGZ HAZ _ _ _ _ _ _ _ _ _ _ _ _ _ _ _ _ _ _ _ _ _ _ _ _ _ _ _ _ _ _ _ _ _ _ _ _ _ _ _ _ _ _ _ _ _ _ _ _ _ _ _ _ _ _ _ _ _ _ _ _ _ _ _ _ _ _ _ _ _ _ _ _ _ _ _ _ _ _ _ _ _ _ _ _ _ _ _ _ _ _ _ _ _ _ _ _ _ _ _ _ _ _ _ _ _ _ _ _ _ _ _ _ _ _ _ _ _ _ _ _ _ _ _ _ _ _ _ _ _ _ _ _ _ _ _ _ _ _ _ _ _ _ _ _ _ _ _ _ _ _ _ _ _ _ _ _ _ _ _ _ _ _).choose_spec.1
end Go.Proofs.YtggdcnjaofflbaaGreatDoor
