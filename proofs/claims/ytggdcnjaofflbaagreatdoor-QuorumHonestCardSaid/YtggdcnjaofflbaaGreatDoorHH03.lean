/- Walk of the law: QuorumHonest. The conditions: what the row holds, the tables of constants. -/
import Derived.Test.YtggdcnjaofflbaaGreatDoorC20
import Derived.Test.YtggdcnjaofflbaaGreatDoorHH00
import Derived.Test.YtggdcnjaofflbaaGreatDoorC19
import Derived.Test.YtggdcnjaofflbaaGreatDoorC10
import Derived.Test.YtggdcnjaofflbaaGreatDoorHH02
namespace Go.Proofs.YtggdcnjaofflbaaGreatDoor
open Go.RowKit Go.BigFrame

theorem any_snocH {α : Type} {l : List α} {k : Nat} {x : α} (p : α → Bool) (h : l[k]? = some x) : (l.take (k + 1)).any p = ((l.take k).any p || p x) := by
  rw [List.take_add_one, h, List.any_append]
  simp
theorem cast_let {m who : Nat} (hm : m = 1 ∨ m = 4 ∨ m = 7) (hw : who < m) {num stp : Int} (h1 : 0 ≤ num ∧ num ≤ 99999999) (h2 : 0 ≤ stp ∧ stp ≤ 1000) {u : ByteArray} (hu : u.size = 32) {l : List VoteP} (h : honP who l) :
    ∃ (c n s er : Int) (v sl : ByteArray), castR (castV (keyQ who) who num stp u l) = .tuple #[.agg #[.int .i64 c, .int .i64 n, .int .i64 s, .string v, .string sl], .int .i64 er] ∧
      ((otherH num stp u l = true ∧ er = 190) ∨ (otherH num stp u l = false ∧ er = 0 ∧ genuineV (madeQ m) ⟨c, n, s, v, sl⟩ = true ∧ (c = who ∧ n = num ∧ s = stp ∧ v = u) ∧ honP who (l ++ [⟨c, n, s, v, sl⟩]))) := by
  obtain ⟨a, b⟩ := hon_cast hm hw h1 h2 hu h
  cases e : otherH num stp u l with
  | true =>
    rw [a e]
    exact ⟨_, _, _, _, _, _, rfl, .inl ⟨rfl, rfl⟩⟩
  | false =>
    obtain ⟨⟨c, n, s, v, sl⟩, hc, hg, hf, hh⟩ := b e
    rw [hc]
    exact ⟨c, n, s, 0, v, sl, rfl, .inr ⟨rfl, rfl, hg, hf, hh⟩⟩
set_option maxHeartbeats 16000000 in
set_option maxRecDepth 100000 in
theorem honest_walk {w : World} {x y : Value} {xs : List R4} {ys : List (Int × Int)} (n carrier : Int) (hx : RS w x xs) (hy : P2S w y ys) (hi : ∀ q ∈ xs, Int4 q) (hj : ∀ q ∈ ys, Int2 q) (i0 : I64 n) (i1 : I64 carrier) (he : QEnv w) :
    Calls Tryz.prog 5 #[.int .i64 n, .int .i64 carrier, y, x] w fun e w' => e = .returned (.bool true) ∧ Below w.heap.size w w' := by
  have HSA := Lib.hid (sane_any he)
  have HMA := Lib.hid (fun W => made19_any n i0 W)
  have HX := Lib.hid hx
  have HI := Lib.hid hi
  have HY := Lib.hid hy
  have HJ := Lib.hid hj
  have HE := Lib.hid he
  have hm := madeN_or n
  have hpr := pickI_range carrier (show (0 : Int) < (madeN n : Int) by omega)
  have HPK := Lib.hid (fun W => lpickQ_any carrier (madeN n) W i1 (by omega) (by omega))
  obtain ⟨who, hp⟩ : ∃ p : Nat, pickI carrier (madeN n) = (p : Int) := ⟨(pickI carrier (madeN n)).toNat, by omega⟩
  rw [hp] at HPK hpr
  generalize madeN n = m at *
  have hwm : who < m := by omega
  have hkey : (madeQ m)[who]? = some (keyQ who) := by
    have e := madeQ_get hwm
    rw [List.getD_eq_getElem?_getD] at e
    obtain ⟨k, hk⟩ : ∃ k, (madeQ m)[who]? = some k := ⟨_, List.getElem?_eq_getElem (by rw [madeQ_len]; exact hwm)⟩
    rw [hk] at e ⊢
    exact congrArg some e
  have hksz := keyQ_size who
  have HM := Lib.hid hm
  clear hx hi hy hj he hp hm
  go_enter Tryz.func5, Tryz.ntmps5
  go_upto_region 4 with (go_at_call 11; refine HSA.out.mono ?_; rintro e w2 ⟨rfl, hb2⟩)
  go_upto_region 5 with (go_at_call 12; refine (HMA.out _).mono ?_; rintro e w3 ⟨kv, rfl, hks, hb3⟩; obtain ⟨ka, kc, hkv, -, -, hk3⟩ := hks.opened; rw [madeQ_len] at hkv; subst hkv)
  obtain ⟨kb, ko, rfl, hkb, hkc⟩ := hk3 who (keyQ who) hkey
  have HB3 := Lib.hid (q_next hb2 hb3)
  have HK3 := Lib.hid hks
  clear hb2 hb3 hks hk3 hkey
  obtain ⟨w4, hw4⟩ : ∃ W, W = w3.alloc (.cells #[.slice (some ⟨kb, ko, none⟩) m kc] 31) := ⟨_, rfl⟩
  have HV_w4 : Hid (w4.heap[w3.heap.size]? = some (.cells #[.slice (some ⟨kb, ko, none⟩) m kc] 31 (0, 0))) := Lib.hid (by rw [hw4]; exact heap_alloc_new w3 _)
  have HS_w4 : Hid (Below w3.heap.size w3 w4) := Lib.hid (by rw [hw4]; exact (Below.refl _ _).alloc (Nat.le_refl _) _)
  have HB_w4 := Lib.hid (q_next HB3.out HS_w4.out)
  rw [← hw4]
  obtain ⟨bc, hbc⟩ : ∃ b, b = w3.heap.size := ⟨_, rfl⟩
  rw [← hbc] at HV_w4 ⊢
  clear hw4 hbc
  have HK4 := Lib.hid (HK3.out.below HS_w4.out)
  have HCB : Hid (∀ W, Below w4.heap.size w4 W → W.cell? ⟨bc, 0, none⟩ = some (.slice (some ⟨kb, ko, none⟩) m kc)) := Lib.hid (fun W hW => cell_of_row W _ 0 _ _ _ ((hW.block bc (Array.getElem?_eq_some_iff.1 HV_w4.out).1).trans HV_w4.out))
  have HKE := Lib.hid (fun W (hW : Below w4.heap.size w4 W) => cell_keepB (q_next HS_w4.out hW) hkb hkc)
  have hbc := (Array.getElem?_eq_some_iff.1 HV_w4.out).1
  have HB4 := HB_w4
  have HX4 := Lib.hid (HX.out.below HB4.out)
  have HE4 := Lib.hid (HE.out.step HB4.out)
  obtain ⟨ya, yc, rfl, hyl, hym, hy3⟩ := (HY.out.below HB4.out).opened
  have HY3 := Lib.hid hy3
  obtain ⟨A, hA⟩ : ∃ A, A = ys.length := ⟨_, rfl⟩
  rw [← hA] at hyl ⊢
  have HA := Lib.hid hA
  have hA9 : A ≤ 9223372036854775807 := by unfold maxLen at hym; omega
  clear HK3 HV_w4 HS_w4 HB_w4 HB3 HSA HMA hkb hkc hA hyl hym hy3 HY HX HE
  obtain c0 := HCB.out w4 (Below.refl _ _)
  go_upto_region 6 with (go_at_call 16; (with_reducible refine (HPK.out _).mono ?_); rintro e w' ⟨rfl, hw'⟩; replace hw' := hw'.symm; subst hw')
  clear c0
  have HS0 : Hid (HoAt w4 (.slice none 0 0) [] w4) := Lib.hid ⟨Below.refl _ _, OwnE.nil _ _ _ _⟩
  have HH0 := Lib.hid (honP_nil who)
  go_upto_block 0 with fail
  go_cut [12] (fun v wx => ∃ (v' : Value) (l : List VoteP), v = v' ∧ l.length ≤ 20 ∧ Hid (honP who l) ∧ Hid (HoAt w4 v' l wx))
  case first =>
    go_wp2
    go_loopw [12, 13] (fun v i wr => ∃ (k : Nat) (v' : Value) (l : List VoteP), k ≤ A ∧ k ≤ 20 ∧ v = v' ∧ i = .int .i64 k ∧ l.length ≤ k ∧ Hid (honP who l) ∧ Hid (HoAt w4 v' l wr)) (fun _ i _ => 20 - (intOf i).toNat)
    case atStart => exact ⟨0, _, [], by omega, by omega, rfl, rfl, by simp, HH0, HS0⟩
    case round =>
      clear HS0 HH0
      obtain ⟨k, v', l, hk, hk20, rfl, rfl, hl, hH, hS⟩ := hrel
      obtain ⟨va, vc, hv⟩ := hS.out.2.form
      subst hv
      by_cases hlt : k < A
      · by_cases h20 : k < 20
        · have tk : (k : Int) < (A : Int) := by omega
          have tk0 : (0 : Int) ≤ (k : Int) := by omega
          have t20 : (k : Int) < 20 := by omega
          obtain ⟨⟨q1, q2⟩, eq⟩ : ∃ q, ys[k]? = some q := ⟨_, List.getElem?_eq_getElem (by rw [← HA.out]; exact hlt)⟩
          obtain ⟨yb, yo, rfl, hyb, hq0, hq1⟩ := HY3.out k _ eq
          obtain ⟨hj1, hj2⟩ := HJ.out _ (List.mem_of_getElem? eq)
          simp only at hq0 hq1 hj1 hj2
          have HATI := Lib.hid (fun W => at_any q1 hj1 W)
          have HVLI := Lib.hid (fun W => valN_any q2 hj2 W)
          have hnr := atNum_range q1
          have hsr := atStp_range q1
          have hus := valN_size q2
          have HQ := Lib.hid (fun W (hW : Below wr.heap.size wr W) => And.intro (cell_keepB (q_next hS.out.1 hW) hyb hq0) (cell_keepB (q_next hS.out.1 hW) hyb hq1))
          generalize atNum q1 = num at *
          generalize atStp q1 = stp at *
          generalize valN q2 = u at *
          clear eq hq0 hq1 hj1 hj2 hyb
          obtain ⟨e0, -⟩ := HQ.out wr (Below.refl _ _)
          go_upto_region 11 with (go_at_call 13; refine (HATI.out _).mono ?_; rintro e y1 ⟨rfl, hba⟩)
          have HBa := Lib.hid hba
          clear e0 hba
          obtain ⟨y2, hy2⟩ : ∃ W, W = y1.alloc (.cells #[.int .i64 num, .int .i64 stp] 25) := ⟨_, rfl⟩
          have HV_y2 : Hid (y2.heap[y1.heap.size]? = some (.cells #[.int .i64 num, .int .i64 stp] 25 (0, 0))) := Lib.hid (by rw [hy2]; exact heap_alloc_new y1 _)
          have HS_y2 : Hid (Below y1.heap.size y1 y2) := Lib.hid (by rw [hy2]; exact (Below.refl _ _).alloc (Nat.le_refl _) _)
          have HB_y2 := Lib.hid (q_next HBa.out HS_y2.out)
          rw [← hy2]
          obtain ⟨bs, hbs⟩ : ∃ b, b = y1.heap.size := ⟨_, rfl⟩
          rw [← hbs] at HV_y2 ⊢
          clear hy2 hbs
          obtain ⟨-, e1⟩ := HQ.out y2 HB_y2.out
          go_upto_region 12 with (go_at_call 14; refine (HVLI.out _).mono ?_; rintro e y3 ⟨rfl, hbb⟩)
          have HBy := Lib.hid (q_next HB_y2.out hbb)
          have HSy := Lib.hid (hS.out.far HBy.out)
          have HSB := Lib.hid (fun W (hW : Below y3.heap.size y3 W) => two_at (((q_next hbb hW).block bs (Array.getElem?_eq_some_iff.1 HV_y2.out).1).trans HV_y2.out))
          clear e1 hbb HBa HV_y2 HS_y2 HB_y2 HATI HVLI HQ hS
          obtain ⟨va', vc', hve, hvl, hvm, hv3⟩ := HSy.out.2.vs.opened
          have HV3 := Lib.hid hv3
          obtain ⟨rfl, rfl⟩ : va' = va ∧ vc' = vc := by
            injection hve with e1 _ e3
            exact ⟨e1.symm, e3.symm⟩
          obtain ⟨N, hN⟩ : ∃ N, N = l.length := ⟨_, rfl⟩
          rw [← hN] at hl hvl HSy ⊢
          have HN := Lib.hid hN
          obtain ⟨c, zn, zs, er, zv, zl, hcast, hrest⟩ := cast_let HM.out hwm (num := num) (stp := stp) (by omega) (by omega) hus hH.out
          have HE3 := Lib.hid (HE4.out.step HSy.out.1)
          have HCS := Lib.hid (cast_w HE3.out HSy.out.2.vs (keyQ who) hksz who num stp u _ rfl)
          rw [hcast] at HCS
          have HRS := Lib.hid hrest
          obtain ⟨ot, hot⟩ : ∃ ot, ot = otherH num stp u l := ⟨_, rfl⟩
          rw [← hot] at HRS
          have HOT := Lib.hid hot
          have HO0 : Hid (false = otherH num stp u (l.take 0)) := Lib.hid rfl
          clear hve hvm hv3 hN hcast hrest hot
          go_upto_block 2 with fail
          go_cut [16] (fun f wx => f = .bool ot ∧ Hid (Below y3.heap.size y3 wx))
          case first =>
            go_wp2
            go_loopw [16, 17] (fun f i wr => ∃ (j : Nat) (fb : Bool), j ≤ N ∧ i = .int .i64 j ∧ f = .bool fb ∧ Hid (fb = otherH num stp u (l.take j)) ∧ Hid (Below y3.heap.size y3 wr)) (fun _ i _ => N - (intOf i).toNat)
            case atStart => exact ⟨0, false, by omega, rfl, rfl, HO0, Lib.hid (Below.refl _ _)⟩
            case round =>
              clear HO0
              obtain ⟨j, fb, hj, rfl, rfl, hF, hB⟩ := hrel
              by_cases hltj : j < N
              · have tj : (j : Int) < (N : Int) := by omega
                have tj0 : (0 : Int) ≤ (j : Int) := by omega
                obtain ⟨v, ev⟩ : ∃ v, l[j]? = some v := ⟨_, List.getElem?_eq_getElem (by rw [← HN.out]; exact hltj)⟩
                obtain ⟨vb, vo, rfl, hvb, hva⟩ := HV3.out j v ev
                have HSN := Lib.hid (any_snocH (fun v : VoteP => decide (v.num = num ∧ v.stp = stp) && decide (v.val ≠ u)) ev)
                obtain ⟨vcar, vnum, vstp, vv, vl⟩ := v
                have HC := Lib.hid (fun W (hW : Below wr.heap.size wr W) => And.intro (And.intro (hva.keep (q_next hB.out hW) hvb).2.1 (And.intro (hva.keep (q_next hB.out hW) hvb).2.2.1 (hva.keep (q_next hB.out hW) hvb).2.2.2.1)) (HSB.out W (q_next hB.out hW)))
                simp only at HC
                have HSL := Lib.hid (fun W => eqlSlot vnum vstp num stp W)
                have hss := same_str vv u
                obtain ⟨se, hse⟩ : ∃ se, se = decide (vnum = num ∧ vstp = stp) := ⟨_, rfl⟩
                obtain ⟨eu, heu⟩ : ∃ eu, eu = decide (vv = u) := ⟨_, rfl⟩
                rw [← hse] at HSL
                rw [← heu] at hss
                have hsl := HSL.out
                have HFN : Hid ((decide (vnum = num ∧ vstp = stp) && decide (vv ≠ u)) = (se && !eu)) := Lib.hid (by rw [hse, heu, decide_not])
                have HSN2 : Hid (otherH num stp u (l.take (j + 1)) = (otherH num stp u (l.take j) || (se && !eu))) := Lib.hid (HSN.out.trans (by rw [← HFN.out]; rfl))
                clear ev hva HSN HFN hse heu
                go_upto_region 16 with fail
                cases fb with
                | true =>
                  refine wp_region_noPanic ?_
                  refine wp_region_lexB [.q 0, .q 1, .q 2, .q 3, .q 4, .q 5, .q 6, .q 7, .q 8, .q 9, .q 10, .q 11, .q 12, .q 13, .q 14, .q 15, .q 16, .q 17, .q 18, .q 19] (by kernel_rfl) (by kernel_rfl) (fun _ _ _ _ h => h) ?_
                  iterate 2 (refine wpFl_qL (v := ?_) rfl (Or.inl ⟨by rfl, ?_⟩) ?_; rotate_left; (focus (intro w' hSw; (try dsimp only [OldKept] at hSw); go_simp; (try with_reducible rfl); done)); simp only [Act.put, List.setIfInBounds_toArray, List.set_cons_zero, List.set_cons_succ])
                  iterate 16 (refine wpFl_qL (v := undef) rfl (Or.inr ⟨by rfl, rfl⟩) ?_; simp only [Act.put, List.setIfInBounds_toArray, List.set_cons_zero, List.set_cons_succ])
                  iterate 2 (refine wpFl_qL (v := ?_) rfl (Or.inl ⟨by rfl, ?_⟩) ?_; rotate_left; (focus (intro w' hSw; (try dsimp only [OldKept] at hSw); go_simp; (try with_reducible rfl); done)); simp only [Act.put, List.setIfInBounds_toArray, List.set_cons_zero, List.set_cons_succ])
                  refine wpFl_nil ?_
                  refine NoPanic.normal ?_
                  go_wp2
                  go_roundw
                  case rel => exact ⟨j + 1, true, by omega, by go_num, rfl, Lib.hid (by rw [HSN2.out, ← hF.out]; rfl), Lib.hid (Below.drew hB.out)⟩
                  case measure => simp [intOf]; omega
                | false =>
                  cases se with
                  | false =>
                    refine wp_region_noPanic ?_
                    refine wp_region_lexB [.q 0, .q 1, .q 2, .q 3, .q 4, .q 5, .q 6, .q 7, .q 8, .q 9, .q 10, .q 11, .q 12, .q 13, .q 14, .q 15, .q 16, .q 17, .q 18, .q 19] (by kernel_rfl) (by kernel_rfl) (fun _ _ _ _ h => h) ?_
                    iterate 10 (refine wpFl_qL (v := ?_) rfl (Or.inl ⟨by rfl, ?_⟩) ?_; rotate_left; (focus (intro w' hSw; (try dsimp only [OldKept] at hSw); obtain ⟨⟨d1, d2, d3⟩, s0, s1⟩ := HC.out w' hSw; go_simp; (try with_reducible rfl); done)); simp only [Act.put, List.setIfInBounds_toArray, List.set_cons_zero, List.set_cons_succ])
                    iterate 7 (refine wpFl_qL (v := undef) rfl (Or.inr ⟨by rfl, rfl⟩) ?_; simp only [Act.put, List.setIfInBounds_toArray, List.set_cons_zero, List.set_cons_succ])
                    iterate 3 (refine wpFl_qL (v := ?_) rfl (Or.inl ⟨by rfl, ?_⟩) ?_; rotate_left; (focus (intro w' hSw; (try dsimp only [OldKept] at hSw); go_simp; (try with_reducible rfl); done)); simp only [Act.put, List.setIfInBounds_toArray, List.set_cons_zero, List.set_cons_succ])
                    refine wpFl_nil ?_
                    refine NoPanic.normal ?_
                    go_wp2
                    go_roundw
                    case rel => exact ⟨j + 1, false, by omega, by go_num, rfl, Lib.hid (by rw [HSN2.out, ← hF.out]; rfl), Lib.hid (Below.drew hB.out)⟩
                    case measure => simp [intOf]; omega
                  | true =>
                    refine wp_region_noPanic ?_
                    refine wp_region_lexB [.q 0, .q 1, .q 2, .q 3, .q 4, .q 5, .q 6, .q 7, .q 8, .q 9, .q 10, .q 11, .q 12, .q 13, .q 14, .q 15, .q 16, .q 17, .q 18, .q 19] (by kernel_rfl) (by kernel_rfl) (fun _ _ _ _ h => h) ?_
                    iterate 20 (refine wpFl_qL (v := ?_) rfl (Or.inl ⟨by rfl, ?_⟩) ?_; rotate_left; (focus (intro w' hSw; (try dsimp only [OldKept] at hSw); obtain ⟨⟨d1, d2, d3⟩, s0, s1⟩ := HC.out w' hSw; go_simp; (try with_reducible rfl); done)); simp only [Act.put, List.setIfInBounds_toArray, List.set_cons_zero, List.set_cons_succ])
                    refine wpFl_nil ?_
                    refine NoPanic.normal ?_
                    go_wp2
                    go_roundw
                    case rel => exact ⟨j + 1, !eu, by omega, by go_num, rfl, Lib.hid (by rw [HSN2.out, ← hF.out]; rfl), Lib.hid (Below.drew hB.out)⟩
                    case measure => simp [intOf]; omega
              · obtain rfl : j = N := by omega
                have tj : ¬ (j : Int) < (j : Int) := by omega
                have hfb : fb = ot := by rw [hF.out, HOT.out, HN.out, List.take_length]
                subst hfb
                go_wp2
                go_meet
                case rel => exact ⟨rfl, hB⟩
          case rest =>
          obtain ⟨hf, HBd⟩ := hcut
          subst hf
          clear HV3 HO0 HOT
          have HFC := Lib.hid (fun W (hW : Below wc.heap.size wc W) => And.intro (HCB.out W (q_next HSy.out.1 (q_next HBd.out hW))) (And.intro (HKE.out W (q_next HSy.out.1 (q_next HBd.out hW))) (HSB.out W (q_next HBd.out hW))))
          have tw0 : (0 : Int) ≤ (who : Int) := by omega
          have twm : (who : Int) < (m : Int) := by omega
          go_upto_region 17 with fail
          refine wp_region_noPanic ?_
          refine wp_region_lexB [.q 0, .q 1, .q 2, .q 3, .q 4, .q 5, .q 6, .q 7, .q 8, .an 13, .b 9, .q 10, .q 11, .q 12, .co 13, .b 14, .q 15] (by kernel_rfl) (by kernel_rfl) (fun _ _ _ _ h => h) ?_
          iterate 9 (refine wpFl_qL (v := ?_) rfl (Or.inl ⟨by rfl, ?_⟩) ?_; rotate_left; (focus (intro w' hSw; (try dsimp only [OldKept] at hSw); obtain ⟨c0, kk, s0, s1⟩ := HFC.out w' hSw; go_simp; (try with_reducible rfl); done)); simp only [Act.put, List.setIfInBounds_toArray, List.set_cons_zero, List.set_cons_succ])
          refine wpFl_anL rfl (.cells #[.int .i64 0, .int .i64 0, .int .i64 0, .string ⟨#[]⟩, .string ⟨#[]⟩] 27 (0, 0)) (fun n => .pointer (some ⟨n, 0, none⟩)) ⟨by rfl, fun w' => ?_⟩ ?_
          focus (go_simp; done)
          refine wpFl_bL rfl (fun waa hnaa hsaa K hK => ?_)
          go_simp
          go_at_call 23
          (with_reducible refine (HCS.out _ (q_next HBd.out hsaa)).mono ?_)
          rintro e wba ⟨rfl, hba⟩
          refine hK.out _ _ (q_next hsaa hba) (Keeps.below hba) ?_
          clear hK K hnaa hsaa
          iterate 3 (refine wpFl_qL (v := ?_) rfl (Or.inl ⟨by rfl, ?_⟩) ?_; rotate_left; (focus (intro w' hSw; (try dsimp only [OldKept] at hSw); go_simp; (try with_reducible rfl); done)); simp only [Act.put, List.setIfInBounds_toArray, List.set_cons_zero, List.set_cons_succ])
          refine wpFl_coL rfl (.cells #[.int .i64 0, .int .i64 0, .int .i64 0, .string ⟨#[]⟩, .string ⟨#[]⟩] 27 (0, 0)) (fun n => .pointer (some ⟨n, 0, none⟩)) (by rfl) (N' := []) (by rfl) (fun vb wk hn_wk hs_wk hb_vb hz_vb => ?_)
          simp only [Act.put, List.setIfInBounds_toArray, List.set_cons_zero, List.set_cons_succ]
          refine wpFl_bL rfl (fun wd hnd hsd K hK => ?_)
          have HZ := Lib.hid ((hnd.block vb (Array.getElem?_eq_some_iff.1 hz_vb).1).trans hz_vb)
          obtain ⟨z0, z1, z2, z3, z4⟩ := vcellsAt HZ.out
          have zf : ∀ j, wd.frozen? ⟨vb, j, none⟩ = false := fun j => by unfold World.frozen?; rw [HZ.out]; simp
          go_simp
          refine hK.out _ _ (vfive_below hsd hb_vb _ _ _ _ _) Keeps.nil ?_
          clear hK K
          have HV7 := Lib.hid (vfive_heap HZ.out (.int .i64 c) (.int .i64 zn) (.int .i64 zs) (.string zv) (.string zl))
          have HB7 := Lib.hid (q_next HBd.out (vfive_below hsd hb_vb (.int .i64 c) (.int .i64 zn) (.int .i64 zs) (.string zv) (.string zl)))
          generalize (((((wd.setCell ⟨vb, 0, none⟩ (.int .i64 c)).setCell ⟨vb, 1, none⟩ (.int .i64 zn)).setCell ⟨vb, 2, none⟩ (.int .i64 zs)).setCell ⟨vb, 3, none⟩ (.string zv)).setCell ⟨vb, 4, none⟩ (.string zl)) = w7 at *
          clear z0 z1 z2 z3 z4 zf HZ hnd hsd hn_wk hs_wk hz_vb HCS hb_vb HFC
          refine wpFl_qL (v := ?_) rfl (Or.inl ⟨by rfl, ?_⟩) ?_
          rotate_left
          focus (intro w' hSw; (try dsimp only [OldKept] at hSw); go_simp; (try with_reducible rfl); done)
          simp only [Act.put, List.setIfInBounds_toArray, List.set_cons_zero, List.set_cons_succ]
          refine wpFl_nil ?_
          refine NoPanic.normal ?_
          have HS7 := Lib.hid (HSy.out.far HB7.out)
          have HF7 := Lib.hid (fun W (hW : Below w7.heap.size w7 W) => And.intro (HCB.out W (q_next HS7.out.1 hW)) (And.intro (HSB.out W (q_next HB7.out hW)) (vcellsAt ((hW.block vb (Array.getElem?_eq_some_iff.1 HV7.out).1).trans HV7.out))))
          rcases HRS.out with ⟨rfl, rfl⟩ | ⟨rfl, rfl, hg, ⟨rfl, rfl, rfl, rfl⟩, hh⟩
          · obtain ⟨c0, ⟨s0, s1⟩, d0, d1, d2, d3, d4⟩ := HF7.out w7 (Below.refl _ _)
            go_wp2
            go_roundw
            case rel => exact ⟨k + 1, _, l, by omega, by omega, rfl, by go_num, by rw [← HN.out]; omega, hH, HS7⟩
            case measure => simp [intOf]; omega
          · have HGN := Lib.hid (qgen_w (HE4.out.step HS7.out.1) (HK4.out.below HS7.out.1) ⟨(who : Int), _, _, _, zl⟩ true hg)
            simp only [vagg] at HGN
            obtain ⟨c0, ⟨s0, s1⟩, d0, d1, d2, d3, d4⟩ := HF7.out w7 (Below.refl _ _)
            have hsl : ∀ W, (binOp .neq 25 (.agg #[.int .i64 zn, .int .i64 zs]) (.agg #[.int .i64 zn, .int .i64 zs])).run Tryz.prog W = .ok (.bool false) W := fun W => by
              have h := neqSlot zn zs zn zs W
              rw [decide_eq_true ⟨rfl, rfl⟩] at h
              exact h
            have hl6 : l.length ≤ 1000000 := by rw [← HN.out]; omega
            go_wp2_with (first | (go_at_call 21; (with_reducible refine (HGN.out w7 (Below.refl _ _)).mono ?_); rintro e wg ⟨rfl, hbg⟩; obtain ⟨-, ⟨t0, t1⟩, g0, g1, g2, g3, g4⟩ := HF7.out wg hbg; have HSg := Lib.hid (HS7.out.far hbg); have HOA : Hid (OwnV (wg.alloc (.cells #[.int .i64 who, .int .i64 zn, .int .i64 zs, .string zv, .string zl] 27)) w4.heap.size (.slice va' N vc') l) := Lib.hid (OwnE.alloc HSg.out.2 _); have HNA := Lib.hid (heap_alloc_new wg (.cells #[.int .i64 who, .int .i64 zn, .int .i64 zs, .string zv, .string zl] 27)); have HBA : Hid (w4.heap.size ≤ (wg.alloc (.cells #[.int .i64 who, .int .i64 zn, .int .i64 zs, .string zv, .string zl] 27)).heap.size) := Lib.hid (by have := HSg.out.1.size; simp; omega)) | (at_builtin; refine wpList_append_voteB _ _ w4.heap.size _ l ⟨(who : Int), zn, zs, zv, zl⟩ wg.heap.size _ HOA.out hl6 HBA.out HNA.out rfl rfl rfl rfl ?_; intro g7 c7 w12 hown7 hgr7 _; have HS9 := Lib.hid (HSg.out.row hgr7 hown7); clear hown7 hgr7))
            go_roundw
            case rel => exact ⟨k + 1, _, l ++ [⟨(who : Int), zn, zs, zv, zl⟩], by omega, by omega, rfl, by go_num, by rw [List.length_append, ← HN.out]; simp; omega, Lib.hid hh, HS9⟩
            case measure => simp [intOf]; omega
        · have tk : (k : Int) < (A : Int) := by omega
          have t20 : ¬ (k : Int) < 20 := by omega
          go_wp2
          go_meet
          case rel => exact ⟨_, l, rfl, by omega, hH, hS⟩
      · have tk : ¬ (k : Int) < (A : Int) := by omega
        go_wp2
        go_meet
        case rel => exact ⟨_, l, rfl, by omega, hH, hS⟩
  case rest =>
  obtain ⟨v', l, hv', hl, hH, hS⟩ := hcut
  have hv2 := hv'.symm
  subst hv2
  rename_i hKK
  refine hKK _ _ (wp_of_eqH (honest_pool HB4 HE4 bc m kc who (some ⟨kb, ko, none⟩) x v' xs l HX4 HI HM.out HK4 HCB hbc hS hl hH _ _ _ _ _ _ _ _ _ _ _ _ _ _ _ _ _ _ _ _ _ _ _ _ _ _ _ _ _ _ _ _ _ _ _ _ _ _ _ _ _ _ _ _ _ _ _ _ _ _ _ _ _ _ _ _ _ _ _ _ _ _ _ _ _ _ _ _ _ _ _ _ _ _ _ _ _ _ _ _ _ _ _ _ _ _ _ _ _ _ _ _ _ _ _ _ _ _ _ _ _ _ _ _ _ _ _ _ _ _ _ _ _ _ _ _ _ _ _ _ _ _ _ _ _ _ _ _ _ _ _ _ _ _ _ _ _ _ _ _ _ _ _ _ _ _ _ _ _ _ _ _ _ _ _ _ _ _ _ _ _ _ _ _ _ _ _ _ _ _ _ _ _ _ _ _ _ _ _ _ _ _ _ _ _ _ _ _ _ _ _ _ _ _ _ _).choose_spec.2 ?_)
  exact tailQHB (honest_pool HB4 HE4 bc m kc who (some ⟨kb, ko, none⟩) x v' xs l HX4 HI HM.out HK4 HCB hbc hS hl hH _ _ _ _ _ _ _ _ _ _ _ _ _ _ _ _ _ _ _ _ _ _ _ _ _ _ _ _ _ _ _ _ _ _ _ _ _ _ _ _ _ _ _ _ _ _ _ _ _ _ _ _ _ _ _ _ _ _ _ _ _ _ _ _ _ _ _ _ _ _ _ _ _ _ _ _ _ _ _ _ _ _ _ _ _ _ _ _ _ _ _ _ _ _ _ _ _ _ _ _ _ _ _ _ _ _ _ _ _ _ _ _ _ _ _ _ _ _ _ _ _ _ _ _ _ _ _ _ _ _ _ _ _ _ _ _ _ _ _ _ _ _ _ _ _ _ _ _ _ _ _ _ _ _ _ _ _ _ _ _ _ _ _ _ _ _ _ _ _ _ _ _ _ _ _ _ _ _ _ _ _ _ _ _ _ _ _ _ _ _ _ _ _ _ _ _).choose_spec.1
end Go.Proofs.YtggdcnjaofflbaaGreatDoor
