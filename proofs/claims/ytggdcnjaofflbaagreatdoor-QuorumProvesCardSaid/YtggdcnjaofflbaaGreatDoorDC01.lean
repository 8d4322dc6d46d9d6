/- Walk of the law: QuorumProves. The conditions: what the row holds, the tables of constants. -/
import Derived.Deep.DeepCutAuto
import Derived.Deep.CutBlock
import Derived.Test.YtggdcnjaofflbaaGreatDoorC20
import Derived.Test.YtggdcnjaofflbaaGreatDoorC21
import Derived.Test.YtggdcnjaofflbaaGreatDoorDC00
import Derived.Test.YtggdcnjaofflbaaGreatDoorC19
import Derived.Test.YtggdcnjaofflbaaGreatDoorC22
namespace Go.Proofs.YtggdcnjaofflbaaGreatDoor
open Go.RowKit Go.BigFrame

theorem wp_enterN {P : Program} {c : Code} {Q R : Exit → Act → World → Prop} {K : Act → World → Prop} {a : Act} {w : World} (hK : ∀ a w, c.wp P Q a w → K a w) (h : c.wp P Q a w) : Exit.then K R .normal a w := hK a w h
theorem vfive_belowAt {w W : World} {b B : Nat} (h : Below B w W) (hb : B ≤ b) (k : Nat) (v0 v1 v2 v3 v4 : Value) :
    Below B w (((((W.setCell ⟨b, k, none⟩ v0).setCell ⟨b, k + 1, none⟩ v1).setCell ⟨b, k + 2, none⟩ v2).setCell ⟨b, k + 3, none⟩ v3).setCell ⟨b, k + 4, none⟩ v4) :=
  ((((h.setCell (p := ⟨b, k, none⟩) hb _).setCell (p := ⟨b, k + 1, none⟩) hb _).setCell (p := ⟨b, k + 2, none⟩) hb _).setCell (p := ⟨b, k + 3, none⟩) hb _).setCell (p := ⟨b, k + 4, none⟩) hb _
theorem VS.addrAt {w : World} {a : Option Addr} {n c : Nat} {l : List VoteP} (h : VS w (.slice a n c) l) {k : Nat} {v : VoteP} (hk : l[k]? = some v) : ∃ b off, a = some ⟨b, off, none⟩ ∧ b < w.heap.size ∧ VAt w b (off + k * 5) v := by
  obtain ⟨a', c', e, _, _, h3⟩ := h.opened
  injection e with e1 _ _
  subst e1
  exact h3 k v hk
set_option maxHeartbeats 16000000 in
set_option maxRecDepth 100000 in
theorem proves_walk {w : World} {x : Value} {xs : List R4} (n at1 value which b0 b1 : Int) (hx : RS w x xs) (hi : ∀ q ∈ xs, Int4 q) (i0 : I64 n) (i1 : I64 at1) (i2 : I64 value) (i3 : I64 which) (i4 : I64 b0) (i5 : I64 b1) (he : QEnv w) :
    Calls Tryz.prog 6 #[.int .i64 n, x, .int .i64 at1, .int .i64 value, .int .i64 which, .agg #[.int .i64 b0, .int .i64 b1]] w fun e w' => e = .returned (.bool true) ∧ Below w.heap.size w w' := by
  obtain ⟨W1, hW1⟩ : ∃ W1, W1 = w.alloc (.cells #[.int .i64 b0, .int .i64 b1] 23) := ⟨_, rfl⟩
  have HB1 : Hid (Below w.heap.size w W1) := Lib.hid (by rw [hW1]; exact (Below.refl _ _).alloc (Nat.le_refl _) _)
  have HX1 : Hid (W1.heap[w.heap.size]? = some (.cells #[.int .i64 b0, .int .i64 b1] 23 (0, 0))) := Lib.hid (by rw [hW1]; exact heap_alloc_new w _)
  have HE1 := Lib.hid (he.step HB1.out)
  have HSA := Lib.hid (sane_any HE1.out)
  have HMA := Lib.hid (fun W => made19_any n i0 W)
  have HAT := Lib.hid (fun W => at_any at1 i1 W)
  have HVL := Lib.hid (fun W => valN_any value i2 W)
  have HX := Lib.hid (hx.below HB1.out)
  have HI := Lib.hid hi
  have HW1 := Lib.hid hW1
  have hm := madeN_or n
  have hnr := atNum_range at1
  have hsr := atStp_range at1
  have hus := valN_size value
  generalize madeN n = m at *
  generalize atNum at1 = num at *
  generalize atStp at1 = stp at *
  generalize valN value = u at *
  clear hx hi he hW1
  go_enter Tryz.func6, Tryz.ntmps6
  go_upto_region 1 with fail
  rw [← HW1.out]
  obtain ⟨bb, hbb⟩ : ∃ bb, bb = w.heap.size := ⟨_, rfl⟩
  rw [← hbb] at HX1 ⊢
  clear hbb HW1
  go_upto_region 4 with (go_at_call 11; refine HSA.out.mono ?_; rintro e w2 ⟨rfl, hb2⟩)
  go_upto_region 5 with (go_at_call 12; refine (HMA.out _).mono ?_; rintro e w3 ⟨kv, rfl, hks, hb3⟩; obtain ⟨ka, kc, hkv, -, -, -⟩ := hks.opened; rw [madeQ_len] at hkv; subst hkv)
  have HB3 := Lib.hid (q_next hb2 hb3)
  have HK3 := Lib.hid hks
  clear hb2 hb3 hks
  obtain ⟨w4, hw4⟩ : ∃ W, W = w3.alloc (.cells #[.slice ka m kc] 31) := ⟨_, rfl⟩
  have HV_w4 : Hid (w4.heap[w3.heap.size]? = some (.cells #[.slice ka m kc] 31 (0, 0))) := Lib.hid (by rw [hw4]; exact heap_alloc_new w3 _)
  have HS_w4 : Hid (Below w3.heap.size w3 w4) := Lib.hid (by rw [hw4]; exact (Below.refl _ _).alloc (Nat.le_refl _) _)
  have HB_w4 := Lib.hid (q_next HB3.out HS_w4.out)
  rw [← hw4]
  obtain ⟨bc, hbc⟩ : ∃ b, b = w3.heap.size := ⟨_, rfl⟩
  rw [← hbc] at HV_w4 ⊢
  clear hw4 hbc
  go_upto_region 6 with (go_at_call 13; refine (HAT.out _).mono ?_; rintro e w5 ⟨rfl, hb5⟩)
  have HB5 := Lib.hid (q_next HB_w4.out hb5)
  have HV5 := Lib.hid ((hb5.block _ (Array.getElem?_eq_some_iff.1 HV_w4.out).1).trans HV_w4.out)
  have HK5 := Lib.hid (HK3.out.below (q_next HS_w4.out hb5))
  clear hb5 HV_w4 HS_w4 HB_w4 HK3 HB3
  obtain ⟨w6, hw6⟩ : ∃ W, W = w5.alloc (.cells #[.int .i64 num, .int .i64 stp] 25) := ⟨_, rfl⟩
  have HV_w6 : Hid (w6.heap[w5.heap.size]? = some (.cells #[.int .i64 num, .int .i64 stp] 25 (0, 0))) := Lib.hid (by rw [hw6]; exact heap_alloc_new w5 _)
  have HS_w6 : Hid (Below w5.heap.size w5 w6) := Lib.hid (by rw [hw6]; exact (Below.refl _ _).alloc (Nat.le_refl _) _)
  have HB_w6 := Lib.hid (q_next HB5.out HS_w6.out)
  rw [← hw6]
  obtain ⟨bs, hbs⟩ : ∃ b, b = w5.heap.size := ⟨_, rfl⟩
  rw [← hbs] at HV_w6 ⊢
  clear hw6 hbs
  go_upto_region 7 with (go_at_call 14; refine (HVL.out _).mono ?_; rintro e w7 ⟨rfl, hb7⟩)
  have HB7 := Lib.hid (q_next HB_w6.out hb7)
  have HK7 := Lib.hid (HK5.out.below (q_next HS_w6.out hb7))
  have HVC := Lib.hid (((q_next HS_w6.out hb7).block _ (Array.getElem?_eq_some_iff.1 HV5.out).1).trans HV5.out)
  have HVS := Lib.hid ((hb7.block _ (Array.getElem?_eq_some_iff.1 HV_w6.out).1).trans HV_w6.out)
  clear hb7 HV_w6 HS_w6 HB_w6 HK5 HB5 HV5 HSA HMA HAT HVL
  have HCB : Hid (∀ W, Below w7.heap.size w7 W → W.cell? ⟨bc, 0, none⟩ = some (.slice ka m kc) ∧ W.cell? ⟨bs, 0, none⟩ = some (.int .i64 num) ∧ W.cell? ⟨bs, 1, none⟩ = some (.int .i64 stp)) := Lib.hid (fun W hW => by
    have h := two_at ((hW.block bs (Array.getElem?_eq_some_iff.1 HVS.out).1).trans HVS.out)
    exact ⟨cell_of_row W _ 0 _ _ _ ((hW.block bc (Array.getElem?_eq_some_iff.1 HVC.out).1).trans HVC.out), h.1, h.2⟩)
  have HPO := Lib.hid (pool_any (HX.out.below HB7.out) HI.out)
  go_upto_region 8 with (go_at_call 15; refine HPO.out.mono ?_; rintro e w8 ⟨vo, rfl, hvo, hb8⟩)
  have HS8 := Lib.hid hb8
  have HV8 := Lib.hid hvo
  have HE8 := Lib.hid (HE1.out.step (q_next HB7.out hb8))
  have HK8 := Lib.hid (HK7.out.below hb8)
  have hip := poolN_is (madeQ_valid hm) xs
  have hvk := madeQ_valid hm
  generalize poolN xs = PL at *
  obtain ⟨o, ho⟩ : ∃ o, o = proveV (madeQ m) num stp u PL := ⟨_, rfl⟩
  have HP1 := Lib.hid (prove_w HE8.out HK8.out HV8.out num stp u hus o ho.symm)
  have HO := Lib.hid ho
  clear ho hb8 hvo HPO HX HI
  obtain ⟨c0, t0, t1⟩ := HCB.out w8 HS8.out
  go_upto_region 9 with (go_at_call 34; refine (HP1.out w8 (Below.refl _ _)).mono ?_; rintro e w9 ⟨vp, rfl, hvp, hb9⟩)
  have HVP := Lib.hid hvp
  have HS9 := Lib.hid hb9
  clear hvp hb9 c0 t0 t1
  obtain ⟨l, hl⟩ : ∃ l, l = tallyV (madeQ m) num stp PL := ⟨_, rfl⟩
  have HT1 := Lib.hid (tallies_w HE8.out HK8.out HV8.out num stp l hl.symm)
  have HLE := Lib.hid hl
  clear hl
  obtain ⟨c0, t0, t1⟩ := HCB.out w9 (q_next HS8.out HS9.out)
  go_upto_region 10 with (go_at_call 38; refine (HT1.out w9 HS9.out).mono ?_; rintro e wt ⟨vt, rfl, hvt, hbt⟩)
  obtain ⟨ta, tc, hvt', htl, htm, ht3⟩ := hvt.opened
  subst hvt'
  have HT3 := Lib.hid ht3
  have HVP2 := Lib.hid (HVP.out.below hbt)
  have HST := Lib.hid (q_next HS9.out hbt)
  clear hvt ht3 hbt c0 t0 t1 HT1 HP1 HVP
  obtain ⟨N, hN⟩ : ∃ N, N = l.length := ⟨_, rfl⟩
  rw [← hN] at htl ⊢
  have HN := Lib.hid hN
  have hN9 : N ≤ 9223372036854775807 := by unfold maxLen at htm; omega
  clear hN htl htm
  obtain ⟨f, hf⟩ : ∃ f, f = (m - 1) / 3 := ⟨_, rfl⟩
  have hf2 : f ≤ 2 := by omega
  have HEN : Hid (enoughC (madeQ m) = 2 * f + 1) := Lib.hid (by unfold enoughC; rw [madeQ_len, hf])
  have HFA := Lib.hid (fun W => faults_any hm ka kc W)
  rw [← hf] at HFA
  have HTF : Hid (∀ (k : Nat) t, l[k]? = some t → 1 ≤ t.2 ∧ t.2 ≤ m) := Lib.hid (fun k t h => by
    have h1 := tally_facts (HLE.out ▸ List.mem_of_getElem? h)
    rw [madeQ_len] at h1
    exact h1.2)
  have HTA : Hid (∀ (k : Nat) s t, l[k]? = some s → l[k + 1]? = some t → s.1.toList < t.1.toList) := Lib.hid (fun k s t h1 h2 => by
    rw [HLE.out] at h1 h2
    exact tally_asc h1 h2)
  have HCT : Hid (∀ W, Below wt.heap.size wt W → W.cell? ⟨bc, 0, none⟩ = some (.slice ka m kc)) := Lib.hid (fun W hW => (HCB.out W (q_next HS8.out (q_next HST.out hW))).1)
  have hm7 : m ≤ 7 := by omega
  have HM := Lib.hid hm
  clear hf hm
  have HE0 : Hid (enoughT (2 * f + 1) u (l.take 0) = false) := Lib.hid rfl
  go_wp2
  go_loopw [21, 22] (fun en i wr => ∃ (k : Nat) (eb : Bool), k ≤ N ∧ i = .int .i64 k ∧ en = .bool eb ∧ Hid (eb = enoughT (2 * f + 1) u (l.take k)) ∧ Hid (Below wt.heap.size wt wr)) (fun _ i _ => N - (intOf i).toNat)
  case atStart => exact ⟨0, false, by omega, rfl, rfl, Lib.hid HE0.out.symm, Lib.hid (Below.refl _ _)⟩
  case round =>
    obtain ⟨k, eb, hk, rfl, rfl, hE, hB⟩ := hrel
    clear HE0
    by_cases hlt : k < N
    · have tk : (k : Int) < (N : Int) := by omega
      have tk0 : (0 : Int) ≤ (k : Int) := by omega
      obtain ⟨t, et⟩ : ∃ t, l[k]? = some t := ⟨_, List.getElem?_eq_getElem (by rw [← HN.out]; exact hlt)⟩
      obtain ⟨tb, to1, rfl, htb, hc1, hc2⟩ := HT3.out k t et
      have htf := HTF.out k t et
      have HSN := Lib.hid (enoughT_snoc (q := 2 * f + 1) (val := u) et)
      obtain ⟨tv, tn⟩ := t
      simp only at hc1 hc2 htf HSN
      obtain ⟨ht1, htm⟩ := htf
      have HC : Hid (∀ W, Below wr.heap.size wr W → W.cell? ⟨tb, to1 + k * 2, none⟩ = some (.string tv) ∧ W.cell? ⟨tb, to1 + k * 2 + 1, none⟩ = some (.int .i64 (tn : Int))) := Lib.hid (fun W hW => ⟨cell_keepB (q_next hB.out hW) htb hc1, cell_keepB (q_next hB.out hW) htb hc2⟩)
      have HCC := Lib.hid (fun W (hW : Below wr.heap.size wr W) => HCT.out W (q_next hB.out hW))
      have h1t : ¬ (tn : Int) < 1 := by omega
      have hmt : ¬ (m : Int) < (tn : Int) := by omega
      go_upto_region 14 with fail
      go_cut [91] (fun t wx => t = .bool false ∧ Hid (Below wr.heap.size wr wx))
      case first =>
        cases k with
        | zero =>
          refine wp_region_noPanic ?_
          refine wp_region_lexB [.q 0, .q 1, .q 2, .q 3, .q 4, .q 5, .q 6, .q 7, .q 8, .q 9, .q 10, .q 11, .q 12, .q 13, .q 14, .q 15, .q 16, .q 17, .q 18, .q 19, .q 20, .q 21, .q 22, .q 23, .q 24, .q 25, .q 26, .q 27, .q 28, .q 29, .q 30, .q 31, .q 32, .q 33, .q 34, .q 35] (by kernel_rfl) (by kernel_rfl) (fun _ _ _ _ h => h) ?_
          iterate 21 (refine wpFl_qL (v := ?_) rfl (Or.inl ⟨by rfl, ?_⟩) ?_; rotate_left; (focus (intro w' hSw; (try dsimp only [OldKept] at hSw); obtain ⟨a0, a1⟩ := HC.out w' hSw; have c0 := HCC.out w' hSw; go_simp; (try with_reducible rfl); done)); simp only [Act.put, List.setIfInBounds_toArray, List.set_cons_zero, List.set_cons_succ])
          iterate 13 (refine wpFl_qL (v := undef) rfl (Or.inr ⟨by rfl, rfl⟩) ?_; simp only [Act.put, List.setIfInBounds_toArray, List.set_cons_zero, List.set_cons_succ])
          iterate 2 (refine wpFl_qL (v := ?_) rfl (Or.inl ⟨by rfl, ?_⟩) ?_; rotate_left; (focus (intro w' hSw; (try dsimp only [OldKept] at hSw); go_simp; (try with_reducible rfl); done)); simp only [Act.put, List.setIfInBounds_toArray, List.set_cons_zero, List.set_cons_succ])
          refine wpFl_nil ?_
          refine NoPanic.normal ?_
          go_wp2
          go_meet
          case rel => exact ⟨rfl, Lib.hid (Below.drew (Below.refl _ _))⟩
        | succ k =>
          obtain ⟨s, es⟩ : ∃ s, l[k]? = some s := ⟨_, List.getElem?_eq_getElem (by rw [← HN.out]; omega)⟩
          obtain ⟨tb2, to2, e2, htb2, hd1, -⟩ := HT3.out k s es
          have hasc := HTA.out k s _ es et
          obtain ⟨rfl, rfl⟩ : tb2 = tb ∧ to2 = to1 := by
            injection e2 with e
            injection e with e1 e2
            exact ⟨e1.symm, e2.symm⟩
          have HCS := Lib.hid (fun W (hW : Below wr.heap.size wr W) => cell_keepB (q_next hB.out hW) htb2 hd1)
          have hbl : Op.bytesLess s.1.toList tv.toList = true := by rw [bytesLess_eq]; exact decide_eq_true hasc
          have tk' : (k : Int) + 1 < (N : Int) := by omega
          have tk0' : (0 : Int) ≤ (k : Int) + 1 := by omega
          have tk1' : (0 : Int) < (k : Int) + 1 := by omega
          have tk2' : (0 : Int) ≤ (k : Int) := by omega
          have tk3' : (k : Int) < (N : Int) := by omega
          have hmx : max (IntKind.i64.wrap (k : Int)) 0 = (k : Int) := by rw [IntWalk.i64_in _ (by omega)]; omega
          clear es e2 hasc et
          refine wp_region_noPanic ?_
          refine wp_region_lexB [.q 0, .q 1, .q 2, .q 3, .q 4, .q 5, .q 6, .q 7, .q 8, .q 9, .q 10, .q 11, .q 12, .q 13, .q 14, .q 15, .q 16, .q 17, .q 18, .q 19, .q 20, .q 21, .q 22, .q 23, .q 24, .q 25, .q 26, .q 27, .q 28, .q 29, .q 30, .q 31, .q 32, .q 33, .q 34, .q 35] (by kernel_rfl) (by kernel_rfl) (fun _ _ _ _ h => h) ?_
          iterate 36 (refine wpFl_qL (v := ?_) rfl (Or.inl ⟨by rfl, ?_⟩) ?_; rotate_left; (focus (intro w' hSw; (try dsimp only [OldKept] at hSw); obtain ⟨a0, a1⟩ := HC.out w' hSw; have c0 := HCC.out w' hSw; have s0 := HCS.out w' hSw; go_simp; (try with_reducible rfl); done)); simp only [Act.put, List.setIfInBounds_toArray, List.set_cons_zero, List.set_cons_succ])
          refine wpFl_nil ?_
          refine NoPanic.normal ?_
          go_wp2
          go_meet
          case rel => exact ⟨rfl, Lib.hid (Below.drew (Below.refl _ _))⟩
      case rest =>
      obtain ⟨ht91, HBc⟩ := hcut
      subst ht91
      have HBC := Lib.hid (q_next hB.out HBc.out)
      have HC2 := Lib.hid (fun W (hW : Below wc.heap.size wc W) => HC.out W (q_next HBc.out hW))
      have HCC2 := Lib.hid (fun W (hW : Below wc.heap.size wc W) => HCC.out W (q_next HBc.out hW))
      clear HC HCC HBc hc1 hc2 h1t hmt et
      go_upto_region 16 with fail
      cases eb with
      | true =>
        refine wp_region_noPanic ?_
        refine wp_region_lexB [.q 0, .q 1, .q 2, .q 3, .q 4, .q 5, .q 6, .q 7, .q 8, .q 9, .q 10, .q 11, .q 12, .q 13, .q 14, .q 15, .q 16, .q 17, .q 18, .q 19, .q 20, .q 21, .q 22] (by kernel_rfl) (by kernel_rfl) (fun _ _ _ _ h => h) ?_
        iterate 2 (refine wpFl_qL (v := ?_) rfl (Or.inl ⟨by rfl, ?_⟩) ?_; rotate_left; (focus (intro w' hSw; (try dsimp only [OldKept] at hSw); go_simp; (try with_reducible rfl); done)); simp only [Act.put, List.setIfInBounds_toArray, List.set_cons_zero, List.set_cons_succ])
        iterate 19 (refine wpFl_qL (v := undef) rfl (Or.inr ⟨by rfl, rfl⟩) ?_; simp only [Act.put, List.setIfInBounds_toArray, List.set_cons_zero, List.set_cons_succ])
        iterate 2 (refine wpFl_qL (v := ?_) rfl (Or.inl ⟨by rfl, ?_⟩) ?_; rotate_left; (focus (intro w' hSw; (try dsimp only [OldKept] at hSw); go_simp; (try with_reducible rfl); done)); simp only [Act.put, List.setIfInBounds_toArray, List.set_cons_zero, List.set_cons_succ])
        refine wpFl_nil ?_
        refine NoPanic.normal ?_
        go_wp2
        go_roundw
        case rel => exact ⟨k + 1, true, by omega, by go_num, rfl, Lib.hid (by rw [HSN.out, ← hE.out]; rfl), Lib.hid (Below.drew HBC.out)⟩
        case measure => simp [intOf]; omega
      | false =>
        have hss := same_str tv u
        obtain ⟨eq, heq⟩ : ∃ eq, eq = decide (tv = u) := ⟨_, rfl⟩
        rw [← heq] at hss HSN
        clear heq
        cases eq with
        | false =>
          refine wp_region_noPanic ?_
          refine wp_region_lexB [.q 0, .q 1, .q 2, .q 3, .q 4, .q 5, .q 6, .q 7, .q 8, .q 9, .q 10, .q 11, .q 12, .q 13, .q 14, .q 15, .q 16, .q 17, .q 18, .q 19, .q 20, .q 21, .q 22] (by kernel_rfl) (by kernel_rfl) (fun _ _ _ _ h => h) ?_
          iterate 10 (refine wpFl_qL (v := ?_) rfl (Or.inl ⟨by rfl, ?_⟩) ?_; rotate_left; (focus (intro w' hSw; (try dsimp only [OldKept] at hSw); obtain ⟨a0, a1⟩ := HC2.out w' hSw; have c0 := HCC2.out w' hSw; go_simp; (try with_reducible rfl); done)); simp only [Act.put, List.setIfInBounds_toArray, List.set_cons_zero, List.set_cons_succ])
          iterate 10 (refine wpFl_qL (v := undef) rfl (Or.inr ⟨by rfl, rfl⟩) ?_; simp only [Act.put, List.setIfInBounds_toArray, List.set_cons_zero, List.set_cons_succ])
          iterate 3 (refine wpFl_qL (v := ?_) rfl (Or.inl ⟨by rfl, ?_⟩) ?_; rotate_left; (focus (intro w' hSw; (try dsimp only [OldKept] at hSw); go_simp; (try with_reducible rfl); done)); simp only [Act.put, List.setIfInBounds_toArray, List.set_cons_zero, List.set_cons_succ])
          refine wpFl_nil ?_
          refine NoPanic.normal ?_
          go_wp2
          go_roundw
          case rel => exact ⟨k + 1, false, by omega, by go_num, rfl, Lib.hid (by rw [HSN.out, ← hE.out]; rfl), Lib.hid (Below.drew HBC.out)⟩
          case measure => simp [intOf]; omega
        | true =>
          by_cases hge : 2 * f + 1 ≤ tn
          · have hge' : decide (IntKind.i64.wrap (IntKind.i64.wrap (2 * (f : Int)) + 1) ≤ (tn : Int)) = true := by
              rw [IntWalk.i64_in (2 * (f : Int)) (by omega), IntWalk.i64_in _ (by omega)]
              exact decide_eq_true (by omega)
            refine wp_region_noPanic ?_
            refine wp_region_lexB [.q 0, .q 1, .q 2, .q 3, .q 4, .q 5, .q 6, .q 7, .q 8, .q 9, .q 10, .q 11, .q 12, .q 13, .q 14, .q 15, .b 16, .q 17, .q 18, .q 19, .q 20, .q 21, .q 22] (by kernel_rfl) (by kernel_rfl) (fun _ _ _ _ h => h) ?_
            iterate 16 (refine wpFl_qL (v := ?_) rfl (Or.inl ⟨by rfl, ?_⟩) ?_; rotate_left; (focus (intro w' hSw; (try dsimp only [OldKept] at hSw); obtain ⟨a0, a1⟩ := HC2.out w' hSw; have c0 := HCC2.out w' hSw; go_simp; (try with_reducible rfl); done)); simp only [Act.put, List.setIfInBounds_toArray, List.set_cons_zero, List.set_cons_succ])
            refine wpFl_bL rfl (fun waa hnaa hsaa K hK => ?_)
            go_simp
            go_at_call 36
            (with_reducible refine (HFA.out _).mono ?_)
            rintro e wba ⟨rfl, hba⟩
            have HBF := Lib.hid (q_next hsaa hba)
            refine hK.out _ _ (q_next hsaa hba) (Keeps.below hba) ?_
            clear hK K hnaa hsaa
            iterate 6 (refine wpFl_qL (v := ?_) rfl (Or.inl ⟨by rfl, ?_⟩) ?_; rotate_left; (focus (intro w' hSw; (try dsimp only [OldKept] at hSw); go_simp; (try with_reducible rfl); done)); simp only [Act.put, List.setIfInBounds_toArray, List.set_cons_zero, List.set_cons_succ])
            refine wpFl_nil ?_
            refine NoPanic.normal ?_
            go_wp2
            go_roundw
            case rel => exact ⟨k + 1, true, by omega, by go_num, rfl, Lib.hid (by rw [HSN.out, ← hE.out, decide_eq_true hge]; rfl), Lib.hid (q_next HBC.out HBF.out)⟩
            case measure => simp [intOf]; omega
          · have hge' : decide (IntKind.i64.wrap (IntKind.i64.wrap (2 * (f : Int)) + 1) ≤ (tn : Int)) = false := by
              rw [IntWalk.i64_in (2 * (f : Int)) (by omega), IntWalk.i64_in _ (by omega)]
              exact decide_eq_false (by omega)
            refine wp_region_noPanic ?_
            refine wp_region_lexB [.q 0, .q 1, .q 2, .q 3, .q 4, .q 5, .q 6, .q 7, .q 8, .q 9, .q 10, .q 11, .q 12, .q 13, .q 14, .q 15, .b 16, .q 17, .q 18, .q 19, .q 20, .q 21, .q 22] (by kernel_rfl) (by kernel_rfl) (fun _ _ _ _ h => h) ?_
            iterate 16 (refine wpFl_qL (v := ?_) rfl (Or.inl ⟨by rfl, ?_⟩) ?_; rotate_left; (focus (intro w' hSw; (try dsimp only [OldKept] at hSw); obtain ⟨a0, a1⟩ := HC2.out w' hSw; have c0 := HCC2.out w' hSw; go_simp; (try with_reducible rfl); done)); simp only [Act.put, List.setIfInBounds_toArray, List.set_cons_zero, List.set_cons_succ])
            refine wpFl_bL rfl (fun waa hnaa hsaa K hK => ?_)
            go_simp
            go_at_call 36
            (with_reducible refine (HFA.out _).mono ?_)
            rintro e wba ⟨rfl, hba⟩
            have HBF := Lib.hid (q_next hsaa hba)
            refine hK.out _ _ (q_next hsaa hba) (Keeps.below hba) ?_
            clear hK K hnaa hsaa
            iterate 6 (refine wpFl_qL (v := ?_) rfl (Or.inl ⟨by rfl, ?_⟩) ?_; rotate_left; (focus (intro w' hSw; (try dsimp only [OldKept] at hSw); go_simp; (try with_reducible rfl); done)); simp only [Act.put, List.setIfInBounds_toArray, List.set_cons_zero, List.set_cons_succ])
            refine wpFl_nil ?_
            refine NoPanic.normal ?_
            go_wp2
            go_roundw
            case rel => exact ⟨k + 1, false, by omega, by go_num, rfl, Lib.hid (by rw [HSN.out, ← hE.out, decide_eq_false hge]; rfl), Lib.hid (q_next HBC.out HBF.out)⟩
            case measure => simp [intOf]; omega
    · obtain rfl : k = N := by omega
      have tk : ¬ (k : Int) < (k : Int) := by omega
      have hfin : l.take k = l := by rw [HN.out, List.take_length]
      have heb : eb = o.isSome := by
        rw [hE.out, hfin, ← HEN.out, HLE.out, HO.out]
        exact enoughT_is hip
      subst heb
      have HBr := Lib.hid (q_next HST.out hB.out)
      have HVR := Lib.hid (HVP2.out.below hB.out)
      have HKR := Lib.hid (HK8.out.below HBr.out)
      have HER := Lib.hid (HE8.out.step HBr.out)
      have HCR := Lib.hid (fun W (hW : Below wr.heap.size wr W) => HCB.out W (q_next HS8.out (q_next HBr.out hW)))
      have HXR := Lib.hid (fun W (hW : Below wr.heap.size wr W) => two_at (((q_next HB7.out (q_next HS8.out (q_next HBr.out hW))).block _ (Array.getElem?_eq_some_iff.1 HX1.out).1).trans HX1.out))
      clear hfin hE hB HTF HTA HCT HT3 HVP2 HN hN9 hlt
      obtain ⟨c0, t0, t1⟩ := HCR.out wr (Below.refl _ _)
      cases o with
      | none =>
        have HC1 := Lib.hid (qcheck_w HER.out HKR.out HVR.out num stp u false check_nil)
        obtain ⟨pa, pc, hpv, -, -, -⟩ := HVR.out.opened
        subst hpv
        simp only [Option.getD_none, List.length_nil, Option.isSome_none] at HC1 ⊢
        go_wp2_with (go_at_call 39; refine (HC1.out wr (Below.refl _ _)).mono ?_; rintro e wz ⟨rfl, hbz⟩)
        go_ret
        exact ⟨rfl, HB1.out.trans ((q_next HB7.out (q_next HS8.out (q_next HBr.out hbz))).mono HB1.out.size)⟩
      | some l1 =>
        have hck := prove_check HO.out.symm
        have HC1 := Lib.hid (qcheck_w HER.out HKR.out HVR.out num stp u true hck)
        have hcf := check_facts hck
        have HCK := Lib.hid hck
        simp only [Option.getD_some, Option.isSome_some] at HC1 HVR ⊢
        go_upto_region 19 with (go_at_call 39; refine (HC1.out wr (Below.refl _ _)).mono ?_; rintro e wz ⟨rfl, hbz⟩)
        obtain ⟨pa, pc, hpv, hpl, hpm, hp3⟩ := HVR.out.opened
        subst hpv
        have hL1 : 1 ≤ l1.length := by rw [hcf.2.1]; exact enough_pos _
        have hL7 : l1.length ≤ 7 := by rw [hcf.2.1, HEN.out]; omega
        have HGF := Lib.hid hcf.2.2
        have HP3 := Lib.hid hp3
        obtain ⟨L, hL⟩ : ∃ L, L = l1.length := ⟨_, rfl⟩
        rw [← hL] at hL1 hL7 hpl HVR ⊢
        have HL := Lib.hid hL
        have hpk := pickI_range which (show (0 : Int) < (L : Int) by omega)
        obtain ⟨j, hj⟩ : ∃ j : Nat, pickI which L = (j : Int) := ⟨(pickI which L).toNat, by omega⟩
        have HPK := Lib.hid (fun W => lpickQ_any which L W i3 (by omega) (by omega))
        rw [hj] at HPK hpk
        have hjL : j < L := by omega
        obtain ⟨pv, epv⟩ : ∃ pv, l1[j]? = some pv := ⟨_, List.getElem?_eq_getElem (by rw [← hL]; exact hjL)⟩
        obtain ⟨pb, po, rfl, hpb, hpc⟩ := HP3.out j pv epv
        have HGV := Lib.hid (HGF.out pv (List.mem_of_getElem? epv)).2
        have HVZ := Lib.hid (HVR.out.below hbz)
        have HBz := Lib.hid hbz
        have HEP := Lib.hid epv
        clear hck hcf hL hj hpk hpl hpm hp3 epv hbz c0 t0 t1 HC1
        go_upto_region 22 with (go_at_call 16; (with_reducible refine (HPK.out _).mono ?_); rintro e w' ⟨rfl, hw'⟩; replace hw' := hw'.symm; subst hw')
        have HOA : Hid (OwnV (wz.alloc (.cells #[] 27)) wz.heap.size (.slice (some ⟨wz.heap.size, 0, none⟩) 0 0) []) := Lib.hid ⟨rfl, .inr ⟨wz.heap.size, 0, #[], rfl, Nat.le_refl _, heap_alloc_new wz _, Nat.le_refl _, by decide, rfl, rfl⟩⟩
        have HBA : Hid (Below wz.heap.size wz (wz.alloc (.cells #[] 27))) := Lib.hid ((Below.refl _ _).alloc (Nat.le_refl _) _)
        have HVA := Lib.hid (HVZ.out.below HBA.out)
        have hl6 : Hid (([] : List VoteP).length + l1.length ≤ 1000000) := Lib.hid (by rw [← HL.out]; simp; omega)
        go_upto_region 23 with (at_builtin; refine wpList_append_votes _ _ wz.heap.size _ [] l1 _ HOA.out HVA.out hl6.out HBA.out.size rfl rfl rfl rfl ?_; intro vo2 wd hown hgr; have HOD := Lib.hid hown; have HBD := Lib.hid (HBA.out.grown hgr HBA.out.size (fun j e => OwnE.ge HOA.out j e)); clear hown hgr)
        rw [List.nil_append] at HOD
        obtain ⟨g, gc, rfl, hgz⟩ : ∃ g gc, vo2 = .slice (some ⟨g, 0, none⟩) L gc ∧ wz.heap.size ≤ g := by
          rcases HOD.out.2 with ⟨_, h0⟩ | ⟨g, cap, cur, hv, hb, _⟩
          · rw [List.length_map, ← HL.out] at h0
            omega
          · rw [List.length_map, ← HL.out] at hv
            exact ⟨g, cap, hv, hb⟩
        have HBT := Lib.hid (fun W => rbent_any pv b0 b1 i4 i5 W)
        obtain ⟨z, hz⟩ : ∃ z, z = bentV pv b0 b1 := ⟨_, rfl⟩
        rw [← hz] at HBT
        have HZ := Lib.hid hz
        have HEQ := Lib.hid (fun W => eqlVote z pv W)
        have HSE := Lib.hid (fun (W : World) (h : OwnV W wz.heap.size (.slice (some ⟨g, 0, none⟩) L gc) l1) => OwnV.set h j (by rw [← HL.out]; exact hjL) z)
        have HCL := Lib.hid (fun (W : World) (h : OwnV W wz.heap.size (.slice (some ⟨g, 0, none⟩) L gc) l1) => And.intro (OwnV.cells h).1 ((OwnV.cells h).2.2.2.2 j pv HEP.out))
        have HPC := Lib.hid (fun W (hW : Below wr.heap.size wr W) => VAt.keep hpc hW hpb)
        have HPA := Lib.hid (fun W (hW : Below wz.heap.size wz W) => And.intro (HPC.out W (q_next HBz.out hW)) (HXR.out W (q_next HBz.out hW)))
        have HKS2 := Lib.hid (HKR.out)
        obtain ⟨vc, vn, vs, vv, vl⟩ := pv
        obtain ⟨zc, zn, zs, zv, zl⟩ := z
        simp only [vagg] at HBT HEQ HSE HCL
        have tj0 : (0 : Int) ≤ (j : Int) := by omega
        have tjL : (j : Int) < (L : Int) := by omega
        clear hz HOA HBA HVA hl6 HPK hpc
        refine wp_region_noPanic ?_
        refine wp_region_lexB [.q 0, .q 1, .q 2, .q 3, .q 4, .q 5, .q 6, .q 7, .q 8, .q 9, .b 10, .q 11, .l 12] (by kernel_rfl) (by kernel_rfl) (fun _ _ _ _ h => h) ?_
        iterate 10 (refine wpFl_qL (v := ?_) rfl (Or.inl ⟨by rfl, ?_⟩) ?_; rotate_left; (focus (intro w' hSw; (try dsimp only [OldKept] at hSw); obtain ⟨⟨v0, v1, v2, v3, v4⟩, x0, x1⟩ := HPA.out w' (q_next HBD.out hSw); go_simp; (try with_reducible rfl); done)); simp only [Act.put, List.setIfInBounds_toArray, List.set_cons_zero, List.set_cons_succ])
        refine wpFl_bL rfl (fun waa hnaa hsaa K hK => ?_)
        go_simp
        go_at_call 17
        (with_reducible refine (HBT.out _).mono ?_)
        rintro e wba ⟨rfl, hba⟩
        have HBF := Lib.hid (q_next hsaa hba)
        refine hK.out _ _ (q_next hsaa hba) (Keeps.below hba) ?_
        clear hK K hnaa hsaa
        refine wpFl_qL (v := ?_) rfl (Or.inl ⟨by rfl, ?_⟩) ?_
        rotate_left
        focus (intro w' hSw; (try dsimp only [OldKept] at hSw); go_simp; (try with_reducible rfl); done)
        simp only [Act.put, List.setIfInBounds_toArray, List.set_cons_zero, List.set_cons_succ]
        refine wpFl_lL rfl (fun wn hn_wn hs_wn K hK => ?_)
        have HON := Lib.hid (OwnE.far HOD.out hs_wn (Nat.le_refl _))
        obtain ⟨zf, d0, d1, d2, d3, d4⟩ := HCL.out wn HON.out
        have HOO := Lib.hid (HSE.out wn HON.out)
        have HBO := Lib.hid (vfive_belowAt (q_next HBD.out hs_wn) hgz (j * 5) (.int .i64 zc) (.int .i64 zn) (.int .i64 zs) (.string zv) (.string zl))
        go_simp
        refine hK.out _ _ (NoPanic.normal ?_)
        clear hK K zf d0 d1 d2 d3 d4 hn_wn hs_wn HON HBF hba HSE HCL HBT HOD HBD
        generalize (((((wn.setCell ⟨g, j * 5, none⟩ (.int .i64 zc)).setCell ⟨g, j * 5 + 1, none⟩ (.int .i64 zn)).setCell ⟨g, j * 5 + 2, none⟩ (.int .i64 zs)).setCell ⟨g, j * 5 + 3, none⟩ (.string zv)).setCell ⟨g, j * 5 + 4, none⟩ (.string zl)) = wo at *
        have HBQ := Lib.hid (q_next HBz.out HBO.out)
        have HEO := Lib.hid (HER.out.step HBQ.out)
        have HKO := Lib.hid (HKS2.out.below HBQ.out)
        obtain ⟨b, hb⟩ : ∃ b, b = checkV (madeQ m) num stp u (l1.set j ⟨zc, zn, zs, zv, zl⟩) := ⟨_, rfl⟩
        have HC2 := Lib.hid (qcheck_w HEO.out HKO.out (OwnV.vs HOO.out) num stp u b hb.symm)
        have HBC := Lib.hid hb
        clear hb
        obtain ⟨ob2, oo2, hoe, hob2, hoc2⟩ := (OwnV.vs HOO.out).addrAt (k := j) (v := ⟨zc, zn, zs, zv, zl⟩) (by rw [List.getElem?_set_self (by rw [← HL.out]; exact hjL)])
        obtain ⟨rfl, rfl⟩ : ob2 = g ∧ oo2 = 0 := by
          injection hoe with e
          injection e with e1 e2
          exact ⟨e1.symm, e2.symm⟩
        rw [Nat.zero_add] at hoc2
        have HFO := Lib.hid (fun W (hW : Below wo.heap.size wo W) => And.intro (HPA.out W (q_next HBO.out hW)).1 (And.intro (hoc2.keep hW hob2) (HCR.out W (q_next HBQ.out hW))))
        obtain ⟨de, hde⟩ : ∃ de, de = decide ((⟨zc, zn, zs, zv, zl⟩ : VoteP) = ⟨vc, vn, vs, vv, vl⟩) := ⟨_, rfl⟩
        rw [← hde] at HEQ
        have HDE := Lib.hid hde
        clear hde hoc2 hoe HPA
        have hq := HEQ.out
        go_upto_region 24 with fail
        cases de with
        | true =>
          refine wp_region_noPanic ?_
          refine wp_region_lexB [.q 0, .q 1, .q 2, .q 3, .q 4, .q 5, .q 6, .q 7, .q 8, .q 9, .q 10, .q 11, .q 12, .q 13, .q 14, .q 15, .q 16] (by kernel_rfl) (by kernel_rfl) (fun _ _ _ _ h => h) ?_
          iterate 10 (refine wpFl_qL (v := ?_) rfl (Or.inl ⟨by rfl, ?_⟩) ?_; rotate_left; (focus (intro w' hSw; (try dsimp only [OldKept] at hSw); obtain ⟨⟨v0, v1, v2, v3, v4⟩, ⟨o0, o1, o2, o3, o4⟩, c0, t0, t1⟩ := HFO.out w' hSw; go_simp; (try with_reducible rfl); done)); simp only [Act.put, List.setIfInBounds_toArray, List.set_cons_zero, List.set_cons_succ])
          iterate 6 (refine wpFl_qL (v := undef) rfl (Or.inr ⟨by rfl, rfl⟩) ?_; simp only [Act.put, List.setIfInBounds_toArray, List.set_cons_zero, List.set_cons_succ])
          refine wpFl_qL (v := ?_) rfl (Or.inl ⟨by rfl, ?_⟩) ?_
          rotate_left
          focus (intro w' hSw; (try dsimp only [OldKept] at hSw); go_simp; (try with_reducible rfl); done)
          simp only [Act.put, List.setIfInBounds_toArray, List.set_cons_zero, List.set_cons_succ]
          refine wpFl_nil ?_
          refine NoPanic.normal ?_
          go_wp2
          go_ret
          exact ⟨rfl, HB1.out.trans ((q_next HB7.out (q_next HS8.out (q_next HBr.out (q_next HBQ.out (Below.drew (Below.refl _ _)))))).mono HB1.out.size)⟩
        | false =>
          cases b with
          | false =>
            refine wp_region_noPanic ?_
            refine wp_region_lexB [.q 0, .q 1, .q 2, .q 3, .q 4, .q 5, .q 6, .q 7, .q 8, .q 9, .q 10, .q 11, .q 12, .q 13, .b 14, .q 15, .q 16] (by kernel_rfl) (by kernel_rfl) (fun _ _ _ _ h => h) ?_
            iterate 14 (refine wpFl_qL (v := ?_) rfl (Or.inl ⟨by rfl, ?_⟩) ?_; rotate_left; (focus (intro w' hSw; (try dsimp only [OldKept] at hSw); obtain ⟨⟨v0, v1, v2, v3, v4⟩, ⟨o0, o1, o2, o3, o4⟩, c0, t0, t1⟩ := HFO.out w' hSw; go_simp; (try with_reducible rfl); done)); simp only [Act.put, List.setIfInBounds_toArray, List.set_cons_zero, List.set_cons_succ])
            refine wpFl_bL rfl (fun waa hnaa hsaa K hK => ?_)
            go_simp
            go_at_call 39
            (with_reducible refine (HC2.out _ hsaa).mono ?_)
            rintro e wba ⟨rfl, hba⟩
            have HBF := Lib.hid (q_next hsaa hba)
            refine hK.out _ _ (q_next hsaa hba) (Keeps.below hba) ?_
            clear hK K hnaa hsaa
            iterate 2 (refine wpFl_qL (v := ?_) rfl (Or.inl ⟨by rfl, ?_⟩) ?_; rotate_left; (focus (intro w' hSw; (try dsimp only [OldKept] at hSw); go_simp; (try with_reducible rfl); done)); simp only [Act.put, List.setIfInBounds_toArray, List.set_cons_zero, List.set_cons_succ])
            refine wpFl_nil ?_
            refine NoPanic.normal ?_
            go_wp2
            go_ret
            exact ⟨rfl, HB1.out.trans ((q_next HB7.out (q_next HS8.out (q_next HBr.out (q_next HBQ.out HBF.out)))).mono HB1.out.size)⟩
          | true =>
            refine wp_region_noPanic ?_
            refine wp_region_lexB [.q 0, .q 1, .q 2, .q 3, .q 4, .q 5, .q 6, .q 7, .q 8, .q 9, .q 10, .q 11, .q 12, .q 13, .b 14, .q 15, .q 16] (by kernel_rfl) (by kernel_rfl) (fun _ _ _ _ h => h) ?_
            iterate 14 (refine wpFl_qL (v := ?_) rfl (Or.inl ⟨by rfl, ?_⟩) ?_; rotate_left; (focus (intro w' hSw; (try dsimp only [OldKept] at hSw); obtain ⟨⟨v0, v1, v2, v3, v4⟩, ⟨o0, o1, o2, o3, o4⟩, c0, t0, t1⟩ := HFO.out w' hSw; go_simp; (try with_reducible rfl); done)); simp only [Act.put, List.setIfInBounds_toArray, List.set_cons_zero, List.set_cons_succ])
            refine wpFl_bL rfl (fun waa hnaa hsaa K hK => ?_)
            go_simp
            go_at_call 39
            (with_reducible refine (HC2.out _ hsaa).mono ?_)
            rintro e wba ⟨rfl, hba⟩
            have HBF := Lib.hid (q_next hsaa hba)
            refine hK.out _ _ (q_next hsaa hba) (Keeps.below hba) ?_
            clear hK K hnaa hsaa
            iterate 2 (refine wpFl_qL (v := ?_) rfl (Or.inl ⟨by rfl, ?_⟩) ?_; rotate_left; (focus (intro w' hSw; (try dsimp only [OldKept] at hSw); go_simp; (try with_reducible rfl); done)); simp only [Act.put, List.setIfInBounds_toArray, List.set_cons_zero, List.set_cons_succ])
            refine wpFl_nil ?_
            refine NoPanic.normal ?_
            refine wp_enterN (by assumption) ?_
            refine wp_cond_false (by rfl) ?_
            refine wp_skip ?_
            refine wp_enterN (by assumption) ?_
            have hgz2 := (check_facts HBC.out.symm).2.2 ⟨zc, zn, zs, zv, zl⟩ (List.mem_of_getElem? (i := j) (by rw [List.getElem?_set_self (by rw [← HL.out]; exact hjL)]))
            have HGZ := Lib.hid hgz2.2
            have HCO := Lib.hid (bent_coll (ks := madeQ m) (v := ⟨vc, vn, vs, vv, vl⟩) (how := b0) (n := b1) (by unfold validC at hvk; rw [Bool.and_eq_true] at hvk; exact hvk.2) HGV.out (by rw [← HZ.out]; exact HGZ.out) (by rw [← HZ.out]; exact fun e => of_decide_eq_false HDE.out.symm e.symm))
            rw [← HZ.out] at HCO
            have HBW := Lib.hid (HB1.out.trans ((q_next HB7.out (q_next HS8.out (q_next HBr.out (q_next HBQ.out HBF.out)))).mono HB1.out.size))
            have HCT := Lib.hid (fun W (hW : Below wba.heap.size wba W) => And.intro (HFO.out W (q_next HBF.out hW)).2.2.1 (And.intro (HFO.out W (q_next HBF.out hW)).1 (HFO.out W (q_next HBF.out hW)).2.1))
            have HKT := Lib.hid (HKO.out.below HBF.out)
            have HKZ : Hid (∀ k ∈ madeQ m, k.size = 32) := Lib.hid (fun k hk => by
              obtain ⟨i, _, rfl⟩ := List.mem_map.1 hk
              exact keyQ_size i)
            refine wp_of_eqQ (proves_tail HBW bc pb po ob2 j L m pc gc kc ka (madeQ m) ⟨vc, vn, vs, vv, vl⟩ ⟨zc, zn, zs, zv, zl⟩ hjL (madeQ_len m) hm7 HCT HKT HKZ HGV HGZ HCO _ _ _ _ _ _ _ _ _ _ _ _ _ _ _ _ _ _ _ _ _ _ _ _ _ _ _ _ _ _ _ _ _ _ _ _ _ _ _ _ _ _ _ _ _ _ _ _ _ _ _ _ _ _ _ _ _ _ _ _ _ _ _ _ _ _ _ _ _ _ _ _ _ _ _ _ _ _ _ _ _ _ _ _ _ _ _ _ _ _ _ _ _ _ _ _ _ _ _ _ _ _ _ _ _ _ _ _ _ _ _ _ _ _ _ _ _ _ _ _ _ _ _ _ _ _ _ _ _ _ _ _ _ _ _ _ _ _ _ _ _ _ _ _ _ _ _ _ _ _ _ _ _ _ _ _ _ _ _ _ _ _ _ _ _ _ _ _ _ _ _ _ _ _ _ _ _ _ _ _ _ _ _ _ _ _ _ _ _ _ _ _ _ _ _ _ _ _ _ _ _ _ _ _ _ _ _ _ _ _ _).choose_spec.2 ?_
            exact tailQP (proves_tail HBW bc pb po ob2 j L m pc gc kc ka (madeQ m) ⟨vc, vn, vs, vv, vl⟩ ⟨zc, zn, zs, zv, zl⟩ hjL (madeQ_len m) hm7 HCT HKT HKZ HGV HGZ HCO _ _ _ _ _ _ _ _ _ _ _ _ _ _ _ _ _ _ _ _ _ _ _ _ _ _ _ _ _ _ _ _ _ _ _ _ _ _ _ _ _ _ _ _ _ _ _ _ _ _ _ _ _ _ _ _ _ _ _ _ _ _ _ _ _ _ _ _ _ _ _ _ _ _ _ _ _ _ _ _ _ _ _ _ _ _ _ _ _ _ _ _ _ _ _ _ _ _ _ _ _ _ _ _ _ _ _ _ _ _ _ _ _ _ _ _ _ _ _ _ _ _ _ _ _ _ _ _ _ _ _ _ _ _ _ _ _ _ _ _ _ _ _ _ _ _ _ _ _ _ _ _ _ _ _ _ _ _ _ _ _ _ _ _ _ _ _ _ _ _ _ _ _ _ _ _ _ _ _ _ _ _ _ _ _ _ _ _ _ _ _ _ _ _ _ _ _ _ _ _ _ _ _ _ _ _ _ _ _ _ _).choose_spec.1
end Go.Proofs.YtggdcnjaofflbaaGreatDoor
