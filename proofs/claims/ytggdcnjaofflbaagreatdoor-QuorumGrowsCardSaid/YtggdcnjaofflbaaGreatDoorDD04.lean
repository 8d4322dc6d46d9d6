/- Walk of the law: QuorumGrows. The conditions: what the row holds, the tables of constants. -/
import Derived.Test.YtggdcnjaofflbaaGreatDoorC20
import Derived.Test.YtggdcnjaofflbaaGreatDoorC21
import Derived.Test.YtggdcnjaofflbaaGreatDoorDD00
import Derived.Test.YtggdcnjaofflbaaGreatDoorDD03
namespace Go.Proofs.YtggdcnjaofflbaaGreatDoor
open Go.RowKit Go.BigFrame

set_option maxHeartbeats 16000000 in
set_option maxRecDepth 100000 in
theorem grows_walk {w : World} {x y : Value} {xs ys : List R4} (n at1 : Int) (hx : RS w x xs) (hy : RS w y ys) (hi : ∀ q ∈ xs, Int4 q) (hj : ∀ q ∈ ys, Int4 q) (i0 : I64 n) (i1 : I64 at1) (he : QEnv w) :
    Calls Tryz.prog 8 #[.int .i64 n, x, y, .int .i64 at1] w fun e w' => e = .returned (.bool true) ∧ Below w.heap.size w w' := by
  have HSA := Lib.hid (sane_any he)
  have HMA := Lib.hid (fun W => made19_any n i0 W)
  have HAT := Lib.hid (fun W => at_any at1 i1 W)
  have HX := Lib.hid hx
  have HI := Lib.hid hi
  have HY := Lib.hid hy
  have HJ := Lib.hid hj
  have HE0 := Lib.hid he
  have hm := madeN_or n
  have hnr := atNum_range at1
  have hsr := atStp_range at1
  generalize madeN n = m at *
  generalize atNum at1 = num at *
  generalize atStp at1 = stp at *
  clear hx hi hy hj he
  go_enter Tryz.func8, Tryz.ntmps8
  go_upto_region 4 with (go_at_call 11; refine HSA.out.mono ?_; rintro e w2 ⟨rfl, hb2⟩)
  go_upto_region 5 with (go_at_call 12; refine (HMA.out _).mono ?_; rintro e w3 ⟨kv, rfl, hks, hb3⟩; obtain ⟨ka, kc, hkv, -, -, -⟩ := hks.opened; rw [madeQ_len] at hkv; subst hkv)
  have HB3 := Lib.hid (q_next hb2 hb3)
  have HK3 := Lib.hid hks
  clear hb2 hb3 hks
  obtain ⟨w4, hw4⟩ : ∃ W, W = w3.alloc (.cells #[.slice ka m kc] 31) := ⟨_, rfl⟩
  have HV_w4 : Hid (w4.heap[w3.heap.size]? = some (.cells #[.slice ka m kc] 31 (0, 0))) := Lib.hid (by rw [hw4]; exact heap_alloc_new w3 _)
  have HS_w4 : Hid (Below w3.heap.size w3 w4) := Lib.hid (by rw [hw4]; exact (Below.refl _ _).alloc (Nat.le_refl _) _)
  have HB_w4 := Lib.hid (q_next HB3.out HS_w4.out)
  rw [← hw4]
  obtain ⟨bc, hbc⟩ : ∃ b, b = w3.heap.size := ⟨_, rfl⟩
  rw [← hbc] at HV_w4 ⊢
  clear hw4 hbc
  go_upto_region 6 with (go_at_call 13; refine (HAT.out _).mono ?_; rintro e w5 ⟨rfl, hb5⟩)
  have HB5 := Lib.hid (q_next HB_w4.out hb5)
  have HV5 := Lib.hid ((hb5.block _ (Array.getElem?_eq_some_iff.1 HV_w4.out).1).trans HV_w4.out)
  have HK5 := Lib.hid (HK3.out.below (q_next HS_w4.out hb5))
  clear hb5 HV_w4 HS_w4 HB_w4 HK3 HB3
  obtain ⟨w6, hw6⟩ : ∃ W, W = w5.alloc (.cells #[.int .i64 num, .int .i64 stp] 25) := ⟨_, rfl⟩
  have HV_w6 : Hid (w6.heap[w5.heap.size]? = some (.cells #[.int .i64 num, .int .i64 stp] 25 (0, 0))) := Lib.hid (by rw [hw6]; exact heap_alloc_new w5 _)
  have HS_w6 : Hid (Below w5.heap.size w5 w6) := Lib.hid (by rw [hw6]; exact (Below.refl _ _).alloc (Nat.le_refl _) _)
  have HB_w6 := Lib.hid (q_next HB5.out HS_w6.out)
  rw [← hw6]
  obtain ⟨bs, hbs⟩ : ∃ b, b = w5.heap.size := ⟨_, rfl⟩
  rw [← hbs] at HV_w6 ⊢
  clear hw6 hbs
  obtain ⟨w7, hw7⟩ : ∃ w7, w7 = w6 := ⟨_, rfl⟩
  rw [← hw7] at HV_w6 HS_w6 HB_w6 ⊢
  clear hw7
  have HB7 := HB_w6
  have HK7 := Lib.hid (HK5.out.below HS_w6.out)
  have HVC := Lib.hid ((HS_w6.out.block _ (Array.getElem?_eq_some_iff.1 HV5.out).1).trans HV5.out)
  have HVS := HV_w6
  clear HV_w6 HS_w6 HB_w6 HK5 HB5 HV5 HSA HMA HAT
  have HCB : Hid (∀ W, Below w7.heap.size w7 W → W.cell? ⟨bc, 0, none⟩ = some (.slice ka m kc) ∧ W.cell? ⟨bs, 0, none⟩ = some (.int .i64 num) ∧ W.cell? ⟨bs, 1, none⟩ = some (.int .i64 stp)) := Lib.hid (fun W hW => by
    have h := two_at ((hW.block bs (Array.getElem?_eq_some_iff.1 HVS.out).1).trans HVS.out)
    exact ⟨cell_of_row W _ 0 _ _ _ ((hW.block bc (Array.getElem?_eq_some_iff.1 HVC.out).1).trans HVC.out), h.1, h.2⟩)
  have HPO := Lib.hid (pool_any (HX.out.below HB7.out) HI.out)
  go_upto_region 7 with (go_at_call 15; refine HPO.out.mono ?_; rintro e w8 ⟨vp, rfl, hvo, hb8⟩)
  have HVP := Lib.hid hvo
  have HS8 := Lib.hid hb8
  have HPY := Lib.hid (pool_own (HY.out.below (q_next HB7.out hb8)) HJ.out)
  have hpl := poolN_len xs
  have hql := poolN_len ys
  have hvk := madeQ_valid hm
  have HM := Lib.hid hm
  clear hvo hb8 HPO HX HI HY HJ hm
  generalize poolN xs = P at *
  generalize poolN ys = R at *
  go_upto_region 8 with (first | (go_at_call 15; refine HPY.out.mono ?_; rintro e w9 ⟨vr, rfl, hvr, hb9⟩; have HVR := Lib.hid hvr; have HB9 := Lib.hid hb9; have HV9 := Lib.hid (HVP.out.below hb9); have hl6 : Hid (R.length + P.length ≤ 1000000) := Lib.hid (by omega); clear hvr hb9) | (at_builtin; refine wpList_append_votes _ _ w8.heap.size _ R P _ HVR.out HV9.out hl6.out HB9.out.size rfl rfl rfl rfl ?_; intro vm w10 hown10 hgr10; have HOM := Lib.hid hown10; have HB10 := Lib.hid (HB9.out.grown hgr10 HB9.out.size (fun j e => OwnE.ge HVR.out j e)); clear hown10 hgr10))
  have HV10 := Lib.hid (HVP.out.below HB10.out)
  have HS10 := Lib.hid (q_next HS8.out HB10.out)
  obtain ⟨pa, pc, hpe, -, -, hp3⟩ := HV10.out.opened
  subst hpe
  have HP3 := Lib.hid hp3
  obtain ⟨N, hN⟩ : ∃ N, N = P.length := ⟨_, rfl⟩
  rw [← hN] at hpl HV10 ⊢
  have HN := Lib.hid hN
  have HR0 : Hid (OwnV w10 w10.heap.size (.slice none 0 0) (P.drop N).reverse) := Lib.hid (by rw [hN, List.drop_length]; exact OwnE.nil _ _ _ _)
  clear hN hp3
  go_wp2
  go_loopw [14, 15] (fun v i wr => ∃ (j : Nat) (x : Int), j ≤ N ∧ x = (j : Int) - 1 ∧ i = .int .i64 x ∧ Hid (OwnV wr w10.heap.size v (P.drop j).reverse) ∧ Hid (Below w10.heap.size w10 wr)) (fun _ i _ => (intOf i + 1).toNat)
  case atStart => exact ⟨N, (N : Int) - 1, by omega, rfl, by first | rfl | go_num, HR0, Lib.hid (Below.refl _ _)⟩
  case round =>
    clear HR0
    obtain ⟨j, xi, hjN, hxi, rfl, hO, hB⟩ := hrel
    cases j with
    | succ j =>
      obtain rfl : xi = (j : Int) := by omega
      have tj0 : (0 : Int) ≤ (j : Int) := by omega
      have tjN : (j : Int) < (N : Int) := by omega
      obtain ⟨v, ev⟩ : ∃ v, P[j]? = some v := ⟨_, List.getElem?_eq_getElem (by rw [← HN.out]; omega)⟩
      obtain ⟨pb, po, rfl, hpb, hv⟩ := HP3.out j v ev
      obtain ⟨v0, v1, v2, v3, v4⟩ := hv.keep hB.out hpb
      have HDR : Hid ((P.drop j).reverse = (P.drop (j + 1)).reverse ++ [v]) := Lib.hid (by
        obtain ⟨h1, rfl⟩ := List.getElem?_eq_some_iff.1 ev
        rw [List.drop_eq_getElem_cons h1, List.reverse_cons])
      have hDL : Hid ((P.drop (j + 1)).reverse.length ≤ 1000000) := Lib.hid (by rw [List.length_reverse, List.length_drop, ← HN.out]; omega)
      generalize (P.drop (j + 1)).reverse = DL at *
      obtain ⟨vc, vn, vs, vv, vl⟩ := v
      simp only at v0 v1 v2 v3 v4
      have HOA : Hid (OwnV (wr.alloc (.cells #[.int .i64 vc, .int .i64 vn, .int .i64 vs, .string vv, .string vl] 27)) w10.heap.size _ DL) := Lib.hid (OwnE.alloc hO.out _)
      have HNA := Lib.hid (heap_alloc_new wr (.cells #[.int .i64 vc, .int .i64 vn, .int .i64 vs, .string vv, .string vl] 27))
      have HBA := Lib.hid (hB.out.alloc hB.out.size (.cells #[.int .i64 vc, .int .i64 vn, .int .i64 vs, .string vv, .string vl] 27))
      clear hxi hv ev
      go_wp2_with (at_builtin; refine wpList_append_vote _ _ w10.heap.size _ DL ⟨vc, vn, vs, vv, vl⟩ wr.heap.size _ HOA.out hDL.out HBA.out.size HNA.out rfl rfl rfl rfl ?_; intro v7 w12 hown7 hgr7; have HO7 := Lib.hid hown7; have HB7' := Lib.hid (HBA.out.grown hgr7 HBA.out.size (fun j e => OwnE.ge HOA.out j e)); clear hown7 hgr7)
      go_roundw
      case rel => exact ⟨j, (j : Int) - 1, by omega, rfl, by first | rfl | go_num, Lib.hid (by rw [HDR.out]; exact HO7.out), HB7'⟩
      case measure => first | (simp [intOf]; done) | (simp [intOf]; omega)
    | zero =>
      have tneg : ¬ (0 : Int) ≤ xi := by omega
      clear hxi
      have HOB : Hid (OwnV wr w10.heap.size _ P.reverse) := Lib.hid (by have h := hO.out; rw [List.drop_zero] at h; exact h)
      have HVPr := Lib.hid (HV10.out.below hB.out)
      have hl2 : Hid (P.reverse.length + P.length ≤ 1000000) := Lib.hid (by rw [List.length_reverse, ← HN.out]; omega)
      go_upto_region 14 with (at_builtin; refine wpList_append_votesK _ _ w10.heap.size _ P.reverse P _ HOB.out HVPr.out hl2.out hB.out.size rfl rfl rfl rfl ?_; intro v2 wt hown8 hgr8 hvb8; have HO8 := Lib.hid hown8; have HVB := Lib.hid hvb8; have HBT := Lib.hid (hB.out.grown hgr8 hB.out.size (fun j e => OwnE.ge HOB.out j e)); clear hown8 hgr8 hvb8)
      have HWt := Lib.hid (q_next HS10.out HBT.out)
      have HEt := Lib.hid (HE0.out.step (HB7.out.trans (HWt.out.mono HB7.out.size)))
      have HKt := Lib.hid (HK7.out.below HWt.out)
      have HCt := Lib.hid (fun W (hW : Below wt.heap.size wt W) => HCB.out W (q_next HWt.out hW))
      have HVPt := Lib.hid (HV10.out.below HBT.out)
      have HVMt := Lib.hid (HOM.out.vs.below HBT.out)
      have HV2t := Lib.hid HO8.out.vs
      have HI1 : Hid (isPool (madeQ m) P = true) := Lib.hid (pool_is hvk (by rw [← HN.out]; omega))
      have HI2 : Hid (isPool (madeQ m) (R ++ P) = true) := Lib.hid (pool_is hvk (by rw [List.length_append, ← HN.out]; omega))
      have HI3 : Hid (isPool (madeQ m) (P.reverse ++ P) = true) := Lib.hid (pool_is hvk (by rw [List.length_append, List.length_reverse, ← HN.out]; omega))
      have HI4 : Hid (isPool (madeQ m) P.reverse = true) := Lib.hid (pool_is hvk (by rw [List.length_reverse, ← HN.out]; omega))
      obtain ⟨A, hA⟩ : ∃ A, A = tallyV (madeQ m) num stp P := ⟨_, rfl⟩
      obtain ⟨B, hB2⟩ : ∃ B, B = tallyV (madeQ m) num stp (R ++ P) := ⟨_, rfl⟩
      obtain ⟨D, hD⟩ : ∃ D, D = doublesV (madeQ m) P := ⟨_, rfl⟩
      obtain ⟨E, hE⟩ : ∃ E, E = doublesV (madeQ m) (R ++ P) := ⟨_, rfl⟩
      have HT1 := Lib.hid (tallies_w HEt.out HKt.out HVPt.out num stp A hA.symm)
      have HT2 := Lib.hid (tallies_w HEt.out HKt.out HVMt.out num stp B hB2.symm)
      have HT3 := Lib.hid (tallies_w HEt.out HKt.out HV2t.out num stp A (by rw [hA]; exact (tally_same (twice_same P) (HI1.out.trans HI3.out.symm)).symm))
      have HT4 := Lib.hid (tallies_w HEt.out HKt.out HVB.out num stp A (by rw [hA]; exact (tally_same (back_same P) (HI1.out.trans HI4.out.symm)).symm))
      have HD1 := Lib.hid (doubles_w HEt.out HKt.out hvk HVPt.out D hD.symm)
      have HD2 := Lib.hid (doubles_w HEt.out HKt.out hvk HVMt.out E hE.symm)
      have HD3 := Lib.hid (doubles_w HEt.out HKt.out hvk HV2t.out D (by rw [hD]; exact (doubles_same (twice_same P) (HI1.out.trans HI3.out.symm)).symm))
      have HSUB : Hid (∀ v ∈ P, v ∈ R ++ P) := Lib.hid (fun v h => List.mem_append_right _ h)
      have HGD : Hid (∀ d ∈ D, ∃ e ∈ E, oneV e.1 d.1 = true) := Lib.hid (fun d h => by
        rw [hD] at h
        rw [hE]
        exact double_grows HSUB.out HI2.out h)
      have HAE := Lib.hid hA
      have HBE := Lib.hid hB2
      clear hA hB2 hD hE hB hO hjN HP3 HOB HVPr
      obtain ⟨c0, t0, t1⟩ := HCt.out wt (Below.refl _ _)
      go_upto_region 15 with (go_at_call 38; (with_reducible refine (HT1.out wt (Below.refl _ _)).mono ?_); rintro e wa ⟨va, rfl, hva, hba⟩)
      clear c0 t0 t1
      obtain ⟨c0, t0, t1⟩ := HCt.out wa hba
      go_upto_region 16 with (go_at_call 38; (with_reducible refine (HT2.out wa hba).mono ?_); rintro e wb ⟨vb, rfl, hvb, hbb⟩)
      have HBb := Lib.hid (q_next hba hbb)
      have HVA := Lib.hid (hva.below hbb)
      have HVBt := Lib.hid hvb
      clear c0 t0 t1 hva hvb hba hbb
      obtain ⟨c0, t0, t1⟩ := HCt.out wb HBb.out
      go_upto_region 17 with (go_at_call 35; (with_reducible refine (HD1.out wb HBb.out).mono ?_); rintro e wc ⟨vd, rfl, hvd, hbc⟩)
      have HBc := Lib.hid (q_next HBb.out hbc)
      have HVA1 := Lib.hid (HVA.out.below hbc)
      have HVB1 := Lib.hid (HVBt.out.below hbc)
      have HVD := Lib.hid hvd
      clear c0 t0 t1 hvd hbc
      obtain ⟨c0, t0, t1⟩ := HCt.out wc HBc.out
      go_upto_region 18 with (go_at_call 35; (with_reducible refine (HD2.out wc HBc.out).mono ?_); rintro e wd ⟨ve, rfl, hve, hbd⟩)
      have HBd := Lib.hid (q_next HBc.out hbd)
      have HVA2 := Lib.hid (HVA1.out.below hbd)
      have HVB2 := Lib.hid (HVB1.out.below hbd)
      have HVD2 := Lib.hid (HVD.out.below hbd)
      have HVE2 := Lib.hid hve
      clear c0 t0 t1 hve hbd HVA HVA1 HVB1 HVD HVBt
      obtain ⟨c0, t0, t1⟩ := HCt.out wd HBd.out
      go_wp2_with fail
      go_at_call 38
      (with_reducible refine (HT3.out wd HBd.out).mono ?_)
      rintro e we ⟨v1, rfl, hv1, hb1⟩
      have HBe := Lib.hid (q_next HBd.out hb1)
      have HSM := Lib.hid (sameT_any (HVA2.out.below hb1) hv1)
      rw [decide_eq_true rfl] at HSM
      have HBde := Lib.hid hb1
      clear c0 t0 t1 hv1 hb1
      go_wp2_with fail
      go_at_call 45
      (with_reducible refine HSM.out.mono ?_)
      rintro e wf ⟨rfl, hbf⟩
      have HBf := Lib.hid (q_next HBe.out hbf)
      have HBdf := Lib.hid (q_next HBde.out hbf)
      clear hbf HSM
      obtain ⟨c0, t0, t1⟩ := HCt.out wf HBf.out
      go_wp2_with fail
      go_at_call 35
      (with_reducible refine (HD3.out wf HBf.out).mono ?_)
      rintro e wg ⟨v3, rfl, hv3, hb3⟩
      have HBg := Lib.hid (q_next HBf.out hb3)
      have HBdg := Lib.hid (q_next HBdf.out hb3)
      have HSM := Lib.hid (sameD_any (HVD2.out.below HBdg.out) hv3)
      rw [decide_eq_true rfl] at HSM
      clear c0 t0 t1 hv3 hb3
      go_wp2_with fail
      go_at_call 33
      (with_reducible refine HSM.out.mono ?_)
      rintro e wh ⟨rfl, hbh⟩
      have HBh := Lib.hid (q_next HBg.out hbh)
      have HBdh := Lib.hid (q_next HBdg.out hbh)
      clear hbh HSM
      obtain ⟨c0, t0, t1⟩ := HCt.out wh HBh.out
      go_wp2_with fail
      go_at_call 38
      (with_reducible refine (HT4.out wh HBh.out).mono ?_)
      rintro e wi ⟨v4, rfl, hv4, hb4⟩
      have HBi := Lib.hid (q_next HBh.out hb4)
      have HBdi := Lib.hid (q_next HBdh.out hb4)
      have HSM := Lib.hid (sameT_any (HVA2.out.below HBdi.out) hv4)
      rw [decide_eq_true rfl] at HSM
      clear c0 t0 t1 hv4 hb4
      go_wp2_with fail
      go_at_call 45
      (with_reducible refine HSM.out.mono ?_)
      rintro e wj ⟨rfl, hbj⟩
      have HBj := Lib.hid (q_next HBi.out hbj)
      have HBdj := Lib.hid (q_next HBdi.out hbj)
      clear hbj HSM
      dsimp only
      iterate 13 go_step
      have HBWj := Lib.hid (HB7.out.trans ((q_next HWt.out HBj.out).mono HB7.out.size))
      have HEj := Lib.hid (HEt.out.step HBj.out)
      have HKj := Lib.hid (HKt.out.below HBj.out)
      have HCj := Lib.hid (fun W (hW : Below wj.heap.size wj W) => HCt.out W (q_next HBj.out hW))
      have HPj := Lib.hid (HVPt.out.below HBj.out)
      have HMj := Lib.hid (HVMt.out.below HBj.out)
      have H2j := Lib.hid (HV2t.out.below HBj.out)
      have HAj := Lib.hid (HVA2.out.below HBdj.out)
      have HBBj := Lib.hid (HVB2.out.below HBdj.out)
      have HDj := Lib.hid (HVD2.out.below HBdj.out)
      have HEEj := Lib.hid (HVE2.out.below HBdj.out)
      have HSAM : Hid (∀ v, v ∈ P ↔ v ∈ P.reverse ++ P) := Lib.hid (twice_same P)
      refine wp_of_eqG (grows_tallies HBWj bc bs m kc ka num stp (madeQ m) (.slice pa N pc) vm v2 va vb vd ve P (R ++ P) (P.reverse ++ P) A B D E HEj HKj HCj HPj HMj H2j HAj HBBj HAE HBE HSUB HSAM HI1 HI2 HI3 HDj HEEj HGD _ _ _ _ _ _ _ _ _ _ _ _ _ _ _ _ _ _ _ _ _ _ _ _ _ _ _ _ _ _ _ _ _ _ _ _ _ _ _ _ _ _ _ _ _ _ _ _ _ _ _ _ _ _ _ _ _ _ _ _ _ _ _ _ _ _ _ _ _ _ _ _ _ _ _ _ _ _ _ _ _ _ _ _ _ _ _ _ _ _ _ _ _ _ _ _ _ _ _ _ _ _ _ _ _ _ _ _ _ _ _ _ _ _ _ _ _ _ _ _ _ _ _ _ _ _ _ _ _ _ _ _ _ _ _ _ _ _ _ _ _ _ _ _ _ _ _ _ _ _ _ _ _ _ _ _ _ _ _ _ _ _ _ _ _ _ _ _ _ _ _ _ _ _ _ _ _ _ _ _ _ _ _ _ _ _ _ _ _ _ _ _ _ _ _ _ _ _ _ _ _ _ _ _ _ _ _ _ _ _ _ _ _ _ _ _ _ _ _ _ _ _ _ _ _ _ _ _ _ _ _ _ _ _ _ _ _ _ _ _).choose_spec.2 ?_
      exact tailQGA (grows_tallies HBWj bc bs m kc ka num stp (madeQ m) (.slice pa N pc) vm v2 va vb vd ve P (R ++ P) (P.reverse ++ P) A B D E HEj HKj HCj HPj HMj H2j HAj HBBj HAE HBE HSUB HSAM HI1 HI2 HI3 HDj HEEj HGD _ _ _ _ _ _ _ _ _ _ _ _ _ _ _ _ _ _ _ _ _ _ _ _ _ _ _ _ _ _ _ _ _ _ _ _ _ _ _ _ _ _ _ _ _ _ _ _ _ _ _ _ _ _ _ _ _ _ _ _ _ _ _ _ _ _ _ _ _ _ _ _ _ _ _ _ _ _ _ _ _ _ _ _ _ _ _ _ _ _ _ _ _ _ _ _ _ _ _ _ _ _ _ _ _ _ _ _ _ _ _ _ _ _ _ _ _ _ _ _ _ _ _ _ _ _ _ _ _ _ _ _ _ _ _ _ _ _ _ _ _ _ _ _ _ _ _ _ _ _ _ _ _ _ _ _ _ _ _ _ _ _ _ _ _ _ _ _ _ _ _ _ _ _ _ _ _ _ _ _ _ _ _ _ _ _ _ _ _ _ _ _ _ _ _ _ _ _ _ _ _ _ _ _ _ _ _ _ _ _ _ _ _ _ _ _ _ _ _ _ _ _ _ _ _ _ _ _ _ _ _ _ _ _ _ _ _ _ _ _).choose_spec.1
end Go.Proofs.YtggdcnjaofflbaaGreatDoor
