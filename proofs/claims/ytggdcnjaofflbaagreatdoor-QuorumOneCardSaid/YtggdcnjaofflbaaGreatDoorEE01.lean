/- Walk of the law: QuorumOne, its last loop: what Blame names. The conditions: what the slices read as. -/
import Derived.Deep.DeepCutAuto
import Derived.Deep.CutBlock
import Derived.Test.YtggdcnjaofflbaaGreatDoorC19
import Derived.Test.YtggdcnjaofflbaaGreatDoorEE00
import Derived.Test.YtggdcnjaofflbaaGreatDoorC18
namespace Go.Proofs.YtggdcnjaofflbaaGreatDoor
open Go.RowKit Go.BigFrame

theorem any_snocO {α : Type} {l : List α} {k : Nat} {x : α} (p : α → Bool) (h : l[k]? = some x) : (l.take (k + 1)).any p = ((l.take k).any p || p x) := by
  rw [List.take_add_one, h, List.any_append]
  simp

def rtQO (c : Code) : Code := rtQ (rtQ (rtQ (rtQ (rtQ (rtQ (rtQ (rtQ (rtQ (rtQ (rtQ (rtQ (rtQ (rtQ (c))))))))))))))
theorem tailQO {c L : Code} (h : ∃ a0 a1 a2 a3 a4 a5 a6 a7 a8 a9 a10 a11 a12 a13 : Code, Tryz.f4.body = some (a0.seq (a1.seq (a2.seq (a3.seq (a4.seq (a5.seq (a6.seq (a7.seq (a8.seq (a9.seq (a10.seq (a11.seq (a12.seq (a13.seq (c)))))))))))))))) (hL : Tryz.f4.body.map rtQO = some L := by rfl) : c = L := by
  obtain ⟨a0, a1, a2, a3, a4, a5, a6, a7, a8, a9, a10, a11, a12, a13, e⟩ := h
  rw [e] at hL
  exact Option.some.inj hL
set_option maxHeartbeats 16000000 in
set_option maxRecDepth 100000 in
theorem one_doubles {w wb : World} (HBW : Hid (Below w.heap.size w wb)) (HEB : Hid (QEnv wb)) (bc bs m kc : Nat) (ka : Option Addr) (num stp : Int) (ks : List ByteArray) (vl vd : Value) (L D : List (VoteP × VoteP))
    (HK : Hid (SS wb (.slice ka m kc) ks)) (HCB : Hid (∀ W, Below wb.heap.size wb W → W.cell? ⟨bc, 0, none⟩ = some (.slice ka m kc) ∧ W.cell? ⟨bs, 0, none⟩ = some (.int .i64 num) ∧ W.cell? ⟨bs, 1, none⟩ = some (.int .i64 stp)))
    (HL : Hid (DS wb vl L)) (HD : Hid (DS wb vd D)) (HG : Hid (∀ e ∈ D, convictsV ks e = true ∧ (e.1.num = num ∧ e.1.stp = stp) ∧ ∃ x ∈ L, oneV x.1 e.1 = true)) (HA : Hid (∀ (k : Nat) (a b : VoteP × VoteP), D[k]? = some a → D[k + 1]? = some b → a.1.car < b.1.car)) (u0 u1 u2 u3 u4 u5 u6 u7 u8 u9 u10 u14 u15 u16 u17 u18 u19 u20 u23 u24 u25 u26 u27 u28 u29 u30 u31 u32 u33 u34 u35 u36 u37 u38 u39 u40 u41 u42 u43 u44 u45 u46 u47 u48 u49 u50 u51 u52 u53 u54 u55 u56 u57 u58 u59 u60 u61 u62 u63 u64 u65 u66 u67 u68 u69 u70 u71 u72 u73 u74 u75 u76 u77 u78 u79 u80 u81 u82 u83 u84 u85 u86 u87 u88 u89 u90 u91 u92 u93 u94 u95 u96 u97 u98 u99 u100 u101 u102 u103 u104 u105 u106 u107 u108 u109 u110 u111 u112 u113 u114 u115 u116 u117 u118 u119 u120 u121 u122 u123 u124 u125 u126 u127 u128 u129 u130 u131 u132 u133 u134 u135 u136 u137 u138 u139 u140 u141 u142 u143 u144 u145 u146 u147 u148 u149 u150 u151 u152 u153 u154 u155 u156 u157 u158 u159 u160 u161 u162 u163 u164 u165 u166 : Value) :
    ∃ c : Code, (∃ a0 a1 a2 a3 a4 a5 a6 a7 a8 a9 a10 a11 a12 a13 : Code, Tryz.f4.body = some (a0.seq (a1.seq (a2.seq (a3.seq (a4.seq (a5.seq (a6.seq (a7.seq (a8.seq (a9.seq (a10.seq (a11.seq (a12.seq (a13.seq (c)))))))))))))))) ∧ c.wp Tryz.prog (bodyPost Tryz.prog Tryz.f4 fun e w' => e = .returned (.bool true) ∧ Below w.heap.size w w') { tmps := #[u0, u1, u2, u3, u4, u5, u6, u7, u8, u9, u10, .bool true, .pointer (some ⟨bc, 0, none⟩), .pointer (some ⟨bs, 0, none⟩), u14, u15, u16, u17, u18, u19, u20, vl, vd, u23, u24, u25, u26, u27, u28, u29, u30, u31, u32, u33, u34, u35, u36, u37, u38, u39, u40, u41, u42, u43, u44, u45, u46, u47, u48, u49, u50, u51, u52, u53, u54, u55, u56, u57, u58, u59, u60, u61, u62, u63, u64, u65, u66, u67, u68, u69, u70, u71, u72, u73, u74, u75, u76, u77, u78, u79, u80, u81, u82, u83, u84, u85, u86, u87, u88, u89, u90, u91, u92, u93, u94, u95, u96, u97, u98, u99, u100, u101, u102, u103, u104, u105, u106, u107, u108, u109, u110, u111, u112, u113, u114, u115, u116, u117, u118, u119, u120, u121, u122, u123, u124, u125, u126, u127, u128, u129, u130, u131, u132, u133, u134, u135, u136, u137, u138, u139, u140, u141, u142, u143, u144, u145, u146, u147, u148, u149, u150, u151, u152, u153, u154, u155, u156, u157, u158, u159, u160, u161, u162, u163, u164, u165, u166], defers := [] } wb := by
  refine ⟨_, ⟨_, _, _, _, _, _, _, _, _, _, _, _, _, _, rfl⟩, ?_⟩
  obtain ⟨da, dc, rfl, hdl, hdm, hd3⟩ := HD.out.opened
  obtain ⟨ea, ec, rfl, hel, hem, he3⟩ := HL.out.opened
  have HD3 := Lib.hid hd3
  have HE3 := Lib.hid he3
  obtain ⟨N, hN⟩ : ∃ N, N = D.length := ⟨_, rfl⟩
  obtain ⟨M, hM⟩ : ∃ M, M = L.length := ⟨_, rfl⟩
  rw [← hN, ← hM]
  have HN := Lib.hid hN
  have HM := Lib.hid hM
  rw [← hN] at hdl
  rw [← hM] at hel
  have hN9 : N ≤ 9223372036854775807 := by unfold maxLen at hdm; omega
  have hM9 : M ≤ 9223372036854775807 := by unfold maxLen at hem; omega
  clear hN hM hdm hem hd3 he3 hdl hel
  go_wp2
  go_loopw [24] (fun i wr => ∃ k : Nat, k ≤ N ∧ i = .int .i64 k ∧ Hid (Below wb.heap.size wb wr)) (fun i _ => N - (intOf i).toNat)
  case atStart => exact ⟨0, by omega, rfl, Lib.hid (Below.refl _ _)⟩
  case round =>
    obtain ⟨k, hk, rfl, hB⟩ := hrel
    by_cases hlt : k < N
    · have tk : (k : Int) < (N : Int) := by omega
      have tk0 : (0 : Int) ≤ (k : Int) := by omega
      obtain ⟨d, ed⟩ : ∃ d, D[k]? = some d := ⟨_, List.getElem?_eq_getElem (by rw [← HN.out]; exact hlt)⟩
      obtain ⟨db, do1, rfl, hdb, hdat⟩ := HD3.out k d ed
      obtain ⟨hcv, ⟨hnum, hstp⟩, x1, hx1, hox⟩ := HG.out d (List.mem_of_getElem? ed)
      have HAN : Hid (L.any (fun e => oneV e.1 d.1) = true) := Lib.hid (List.any_eq_true.2 ⟨x1, hx1, hox⟩)
      have HCV := Lib.hid (qconvicts_w HEB.out HK.out d true hcv)
      have HA0 : Hid (false = (L.take 0).any (fun e => oneV e.1 d.1)) := Lib.hid rfl
      have HAS := Lib.hid (fun (j : Nat) x (h : L[j]? = some x) => any_snocO (fun e : VoteP × VoteP => oneV e.1 d.1) h)
      have HDA := Lib.hid hdat
      have HED := Lib.hid ed
      obtain ⟨⟨dcar, dnum, dstp, dv, dl⟩, gcar, gnum, gstp, gv, gl⟩ := d
      simp only at hnum hstp
      subst hnum hstp
      simp only [dagg] at HCV
      clear ed hdat hcv hx1 hox x1
      go_wp2
      go_loopw [25, 26] (fun f j wq => ∃ (q : Nat) (fb : Bool), q ≤ M ∧ j = .int .i64 q ∧ f = .bool fb ∧ Hid (fb = (L.take q).any (fun e => oneV e.1 ⟨dcar, dnum, dstp, dv, dl⟩)) ∧ Hid (Below wb.heap.size wb wq)) (fun _ j _ => M - (intOf j).toNat)
      case atStart => exact ⟨0, false, by omega, rfl, rfl, HA0, hB⟩
      case round =>
        clear hB HA0
        obtain ⟨q, fb, hq, rfl, rfl, hF, hB⟩ := hrel
        by_cases hltq : q < M
        · have tq : (q : Int) < (M : Int) := by omega
          have tq0 : (0 : Int) ≤ (q : Int) := by omega
          obtain ⟨e, ee⟩ : ∃ e, L[q]? = some e := ⟨_, List.getElem?_eq_getElem (by rw [← HM.out]; exact hltq)⟩
          obtain ⟨eb, eo1, rfl, heb, ⟨he0, he1, he2, -, -⟩, -⟩ := HE3.out q e ee
          have HSN := Lib.hid (HAS.out q e ee)
          obtain ⟨⟨ecar, enum, estp, ev, el⟩, e2'⟩ := e
          simp only at he0 he1 he2
          have HC := Lib.hid (fun W (hW : Below wr.heap.size wr W) => And.intro (And.intro (HDA.out.1.keep (q_next hB.out hW) hdb).1 (And.intro (HDA.out.1.keep (q_next hB.out hW) hdb).2.1 (HDA.out.1.keep (q_next hB.out hW) hdb).2.2.1)) (And.intro (And.intro (cell_keepB (q_next hB.out hW) heb he0) (And.intro (cell_keepB (q_next hB.out hW) heb he1) (cell_keepB (q_next hB.out hW) heb he2))) (HCB.out W (q_next hB.out hW))))
          simp only at HC
          have HSL := Lib.hid (fun W => eqlSlot enum estp dnum dstp W)
          clear ee
          go_upto_region 24 with fail
          cases fb with
          | true =>
            refine wp_region_noPanic ?_
            refine wp_region_lexB [.q 0, .q 1, .q 2, .q 3, .q 4, .q 5, .q 6, .q 7, .q 8, .q 9, .q 10, .q 11, .q 12, .q 13, .q 14, .q 15, .q 16, .q 17, .q 18, .q 19, .q 20, .q 21, .q 22, .q 23, .q 24, .q 25, .q 26] (by kernel_rfl) (by kernel_rfl) (fun _ _ _ _ h => h) ?_
            iterate 2 (refine wpFl_qL (v := ?_) rfl (Or.inl ⟨by rfl, ?_⟩) ?_; rotate_left; (focus (intro w' hSw; (try dsimp only [OldKept] at hSw); go_simp; (try with_reducible rfl); done)); simp only [Act.put, List.setIfInBounds_toArray, List.set_cons_zero, List.set_cons_succ])
            iterate 23 (refine wpFl_qL (v := undef) rfl (Or.inr ⟨by rfl, rfl⟩) ?_; simp only [Act.put, List.setIfInBounds_toArray, List.set_cons_zero, List.set_cons_succ])
            iterate 2 (refine wpFl_qL (v := ?_) rfl (Or.inl ⟨by rfl, ?_⟩) ?_; rotate_left; (focus (intro w' hSw; (try dsimp only [OldKept] at hSw); go_simp; (try with_reducible rfl); done)); simp only [Act.put, List.setIfInBounds_toArray, List.set_cons_zero, List.set_cons_succ])
            refine wpFl_nil ?_
            refine NoPanic.normal ?_
            go_wp2
            go_roundw
            case rel => exact ⟨q + 1, true, by omega, by go_num, rfl, Lib.hid (by rw [HSN.out, ← hF.out]; rfl), Lib.hid (Below.drew hB.out)⟩
            case measure => simp [intOf]; omega
          | false =>
            by_cases hcc : ecar = dcar
            · have hbq : (ecar == dcar) = true := by simp [hcc]
              obtain ⟨se, hse⟩ : ∃ se, se = decide (enum = dnum ∧ estp = dstp) := ⟨_, rfl⟩
              rw [← hse] at HSL
              have hsl := HSL.out
              have HFN : Hid (oneV ⟨ecar, enum, estp, ev, el⟩ ⟨dcar, dnum, dstp, dv, dl⟩ = se) := Lib.hid (by rw [hse]; unfold oneV; exact decide_eq_decide.2 ⟨fun h => ⟨h.2.1, h.2.2⟩, fun h => ⟨hcc, h.1, h.2⟩⟩)
              clear hse
              refine wp_region_noPanic ?_
              refine wp_region_lexB [.q 0, .q 1, .q 2, .q 3, .q 4, .q 5, .q 6, .q 7, .q 8, .q 9, .q 10, .q 11, .q 12, .q 13, .q 14, .q 15, .q 16, .q 17, .q 18, .q 19, .q 20, .q 21, .q 22, .q 23, .q 24, .q 25, .q 26] (by kernel_rfl) (by kernel_rfl) (fun _ _ _ _ h => h) ?_
              iterate 27 (refine wpFl_qL (v := ?_) rfl (Or.inl ⟨by rfl, ?_⟩) ?_; rotate_left; (focus (intro w' hSw; (try dsimp only [OldKept] at hSw); obtain ⟨⟨d0, d1, d2⟩, ⟨e0, e1, e2⟩, c0, t0, t1⟩ := HC.out w' hSw; go_simp; (try with_reducible rfl); done)); simp only [Act.put, List.setIfInBounds_toArray, List.set_cons_zero, List.set_cons_succ])
              refine wpFl_nil ?_
              refine NoPanic.normal ?_
              go_wp2
              go_roundw
              case rel => exact ⟨q + 1, se, by omega, by go_num, rfl, Lib.hid (by rw [HSN.out, ← hF.out, HFN.out, Bool.false_or]), Lib.hid (Below.drew hB.out)⟩
              case measure => simp [intOf]; omega
            · have hbq : (ecar == dcar) = false := by simp [hcc]
              have HFN : Hid (oneV ⟨ecar, enum, estp, ev, el⟩ ⟨dcar, dnum, dstp, dv, dl⟩ = false) := Lib.hid (decide_eq_false (fun h => hcc h.1))
              refine wp_region_noPanic ?_
              refine wp_region_lexB [.q 0, .q 1, .q 2, .q 3, .q 4, .q 5, .q 6, .q 7, .q 8, .q 9, .q 10, .q 11, .q 12, .q 13, .q 14, .q 15, .q 16, .q 17, .q 18, .q 19, .q 20, .q 21, .q 22, .q 23, .q 24, .q 25, .q 26] (by kernel_rfl) (by kernel_rfl) (fun _ _ _ _ h => h) ?_
              iterate 16 (refine wpFl_qL (v := ?_) rfl (Or.inl ⟨by rfl, ?_⟩) ?_; rotate_left; (focus (intro w' hSw; (try dsimp only [OldKept] at hSw); obtain ⟨⟨d0, d1, d2⟩, ⟨e0, e1, e2⟩, c0, t0, t1⟩ := HC.out w' hSw; go_simp; (try with_reducible rfl); done)); simp only [Act.put, List.setIfInBounds_toArray, List.set_cons_zero, List.set_cons_succ])
              iterate 8 (refine wpFl_qL (v := undef) rfl (Or.inr ⟨by rfl, rfl⟩) ?_; simp only [Act.put, List.setIfInBounds_toArray, List.set_cons_zero, List.set_cons_succ])
              iterate 3 (refine wpFl_qL (v := ?_) rfl (Or.inl ⟨by rfl, ?_⟩) ?_; rotate_left; (focus (intro w' hSw; (try dsimp only [OldKept] at hSw); go_simp; (try with_reducible rfl); done)); simp only [Act.put, List.setIfInBounds_toArray, List.set_cons_zero, List.set_cons_succ])
              refine wpFl_nil ?_
              refine NoPanic.normal ?_
              go_wp2
              go_roundw
              case rel => exact ⟨q + 1, false, by omega, by go_num, rfl, Lib.hid (by rw [HSN.out, ← hF.out, HFN.out]; rfl), Lib.hid (Below.drew hB.out)⟩
              case measure => simp [intOf]; omega
        · obtain rfl : q = M := by omega
          have tq : ¬ (q : Int) < (q : Int) := by omega
          have hfb : fb = true := by
            rw [hF.out, HM.out, List.take_length]
            exact HAN.out
          subst hfb
          have HC := Lib.hid (fun W (hW : Below wr.heap.size wr W) => And.intro (HDA.out.keep (q_next hB.out hW) hdb) (HCB.out W (q_next hB.out hW)))
          have HCV2 := Lib.hid (fun W (hW : Below wr.heap.size wr W) => HCV.out W (q_next hB.out hW))
          go_upto_region 25 with fail
          cases k with
          | zero =>
            simp only [Nat.zero_mul, Nat.add_zero] at HC
            refine wp_region_noPanic ?_
            refine wp_region_lexB [.q 0, .q 1, .q 2, .q 3, .q 4, .q 5, .q 6, .q 7, .b 8, .q 9, .q 10, .q 11, .q 12, .q 13, .q 14, .q 15, .q 16, .q 17, .q 18, .q 19, .q 20, .q 21, .q 22, .q 23, .q 24, .q 25, .q 26, .q 27, .q 28, .q 29, .q 30, .q 31] (by kernel_rfl) (by kernel_rfl) (fun _ _ _ _ h => h) ?_
            iterate 8 (refine wpFl_qL (v := ?_) rfl (Or.inl ⟨by rfl, ?_⟩) ?_; rotate_left; (focus (intro w' hSw; (try dsimp only [OldKept] at hSw); obtain ⟨⟨⟨d0, d1, d2, d3, d4⟩, f0, f1, f2, f3, f4⟩, c0, t0, t1⟩ := HC.out w' hSw; go_simp; (try with_reducible rfl); done)); simp only [Act.put, List.setIfInBounds_toArray, List.set_cons_zero, List.set_cons_succ])
            refine wpFl_bL rfl (fun waa hnaa hsaa K hK => ?_)
            go_simp
            go_at_call 26
            (with_reducible refine (HCV2.out _ hsaa).mono ?_)
            rintro e wba ⟨rfl, hba⟩
            have HBF := Lib.hid (q_next hsaa hba)
            refine hK.out _ _ (q_next hsaa hba) (Keeps.below hba) ?_
            clear hK K hnaa hsaa
            iterate 6 (refine wpFl_qL (v := ?_) rfl (Or.inl ⟨by rfl, ?_⟩) ?_; rotate_left; (focus (intro w' hSw; (try dsimp only [OldKept] at hSw); go_simp; (try with_reducible rfl); done)); simp only [Act.put, List.setIfInBounds_toArray, List.set_cons_zero, List.set_cons_succ])
            iterate 15 (refine wpFl_qL (v := undef) rfl (Or.inr ⟨by rfl, rfl⟩) ?_; simp only [Act.put, List.setIfInBounds_toArray, List.set_cons_zero, List.set_cons_succ])
            iterate 2 (refine wpFl_qL (v := ?_) rfl (Or.inl ⟨by rfl, ?_⟩) ?_; rotate_left; (focus (intro w' hSw; (try dsimp only [OldKept] at hSw); go_simp; (try with_reducible rfl); done)); simp only [Act.put, List.setIfInBounds_toArray, List.set_cons_zero, List.set_cons_succ])
            refine wpFl_nil ?_
            refine NoPanic.normal ?_
            go_wp2
            go_roundw
            case rel => exact ⟨1, by omega, by go_num, Lib.hid (q_next hB.out HBF.out)⟩
            case measure => simp [intOf]; omega
          | succ k =>
            obtain ⟨s, es⟩ : ∃ s, D[k]? = some s := ⟨_, List.getElem?_eq_getElem (by rw [← HN.out]; omega)⟩
            obtain ⟨db2, do2, e2, hdb2, ⟨hs0, -, -, -, -⟩, -⟩ := HD3.out k s es
            have hasc := HA.out k s _ es HED.out
            obtain ⟨rfl, rfl⟩ : db2 = db ∧ do2 = do1 := by
              injection e2 with e
              injection e with e1 e2
              exact ⟨e1.symm, e2.symm⟩
            have HCS := Lib.hid (fun W (hW : Below wr.heap.size wr W) => cell_keepB (q_next hB.out hW) hdb2 hs0)
            obtain ⟨⟨scar, snum, sstp, sv, sl⟩, s2'⟩ := s
            simp only at hasc HCS
            have hng : ¬ dcar ≤ scar := by omega
            have tk' : (k : Int) + 1 < (N : Int) := by omega
            have tk0' : (0 : Int) ≤ (k : Int) + 1 := by omega
            have tk1' : (0 : Int) < (k : Int) + 1 := by omega
            have tk2' : (0 : Int) ≤ (k : Int) := by omega
            have tk3' : (k : Int) < (N : Int) := by omega
            have hmx : max (IntKind.i64.wrap (k : Int)) 0 = (k : Int) := by rw [IntWalk.i64_in _ (by omega)]; omega
            clear es e2 hasc
            refine wp_region_noPanic ?_
            refine wp_region_lexB [.q 0, .q 1, .q 2, .q 3, .q 4, .q 5, .q 6, .q 7, .b 8, .q 9, .q 10, .q 11, .q 12, .q 13, .q 14, .q 15, .q 16, .q 17, .q 18, .q 19, .q 20, .q 21, .q 22, .q 23, .q 24, .q 25, .q 26, .q 27, .q 28, .q 29, .q 30, .q 31] (by kernel_rfl) (by kernel_rfl) (fun _ _ _ _ h => h) ?_
            iterate 8 (refine wpFl_qL (v := ?_) rfl (Or.inl ⟨by rfl, ?_⟩) ?_; rotate_left; (focus (intro w' hSw; (try dsimp only [OldKept] at hSw); obtain ⟨⟨⟨d0, d1, d2, d3, d4⟩, f0, f1, f2, f3, f4⟩, c0, t0, t1⟩ := HC.out w' hSw; have s0 := HCS.out w' hSw; go_simp; (try with_reducible rfl); done)); simp only [Act.put, List.setIfInBounds_toArray, List.set_cons_zero, List.set_cons_succ])
            refine wpFl_bL rfl (fun waa hnaa hsaa K hK => ?_)
            go_simp
            go_at_call 26
            (with_reducible refine (HCV2.out _ hsaa).mono ?_)
            rintro e wba ⟨rfl, hba⟩
            have HBF := Lib.hid (q_next hsaa hba)
            refine hK.out _ _ (q_next hsaa hba) (Keeps.below hba) ?_
            clear hK K hnaa hsaa
            iterate 23 (refine wpFl_qL (v := ?_) rfl (Or.inl ⟨by rfl, ?_⟩) ?_; rotate_left; (focus (intro w' hSw; (try dsimp only [OldKept] at hSw); obtain ⟨⟨⟨d0, d1, d2, d3, d4⟩, f0, f1, f2, f3, f4⟩, c0, t0, t1⟩ := HC.out w' hSw; have s0 := HCS.out w' hSw; go_simp; (try with_reducible rfl); done)); simp only [Act.put, List.setIfInBounds_toArray, List.set_cons_zero, List.set_cons_succ])
            refine wpFl_nil ?_
            refine NoPanic.normal ?_
            go_wp2
            go_roundw
            case rel => exact ⟨k + 2, by omega, by go_num, Lib.hid (q_next hB.out HBF.out)⟩
            case measure => simp [intOf]; omega
    · have tk : ¬ (k : Int) < (N : Int) := by omega
      go_wp2
      go_ret
      exact ⟨rfl, HBW.out.trans (hB.out.mono HBW.out.size)⟩
end Go.Proofs.YtggdcnjaofflbaaGreatDoor
