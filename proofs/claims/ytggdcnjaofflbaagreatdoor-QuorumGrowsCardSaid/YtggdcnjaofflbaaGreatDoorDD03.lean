/- Walk of the law: QuorumGrows, its loop over the tallies. The conditions: what is known. -/
import Derived.Test.YtggdcnjaofflbaaGreatDoorDD01
import Derived.Test.YtggdcnjaofflbaaGreatDoorDD02
import Derived.Test.YtggdcnjaofflbaaGreatDoorC18
namespace Go.Proofs.YtggdcnjaofflbaaGreatDoor
open Go.RowKit Go.BigFrame

def rtQGA (c : Code) : Code := rtQ (rtQ (rtQ (rtQ (rtQ (rtQ (rtQ (rtQ (rtQ (rtQ (rtQ (rtQ (rtQ (rtQ (rtQ (c)))))))))))))))
theorem tailQGA {c L : Code} (h : ∃ a0 a1 a2 a3 a4 a5 a6 a7 a8 a9 a10 a11 a12 a13 a14 : Code, Tryz.f8.body = some (a0.seq (a1.seq (a2.seq (a3.seq (a4.seq (a5.seq (a6.seq (a7.seq (a8.seq (a9.seq (a10.seq (a11.seq (a12.seq (a13.seq (a14.seq (c))))))))))))))))) (hL : Tryz.f8.body.map rtQGA = some L := by rfl) : c = L := by
  obtain ⟨a0, a1, a2, a3, a4, a5, a6, a7, a8, a9, a10, a11, a12, a13, a14, e⟩ := h
  rw [e] at hL
  exact Option.some.inj hL
set_option maxHeartbeats 16000000 in
set_option maxRecDepth 100000 in
theorem grows_tallies {w wb : World} (HBW : Hid (Below w.heap.size w wb)) (bc bs m kc : Nat) (ka : Option Addr) (num stp : Int) (ks : List ByteArray) (vp vm v2 va vb vd ve : Value) (P R T : List VoteP) (A B : List (ByteArray × Nat)) (D E : List (VoteP × VoteP))
    (HEV : Hid (QEnv wb)) (HK : Hid (SS wb (.slice ka m kc) ks)) (HCB : Hid (∀ W, Below wb.heap.size wb W → W.cell? ⟨bc, 0, none⟩ = some (.slice ka m kc) ∧ W.cell? ⟨bs, 0, none⟩ = some (.int .i64 num) ∧ W.cell? ⟨bs, 1, none⟩ = some (.int .i64 stp)))
    (HVP : Hid (VS wb vp P)) (HVM : Hid (VS wb vm R)) (HV2 : Hid (VS wb v2 T)) (HA : Hid (TS wb va A)) (HB : Hid (TS wb vb B)) (HAE : Hid (A = tallyV ks num stp P)) (HBE : Hid (B = tallyV ks num stp R))
    (HS1 : Hid (∀ v ∈ P, v ∈ R)) (HS2 : Hid (∀ v, v ∈ P ↔ v ∈ T)) (HI1 : Hid (isPool ks P = true)) (HI2 : Hid (isPool ks R = true)) (HI3 : Hid (isPool ks T = true))
    (HD : Hid (DS wb vd D)) (HE : Hid (DS wb ve E)) (HG : Hid (∀ d ∈ D, ∃ e ∈ E, oneV e.1 d.1 = true)) (u0 u1 u2 u3 u4 u5 u6 u7 u14 u15 u21 u22 u23 u24 u25 u26 u27 u28 u29 u30 u31 u32 u33 u34 u35 u36 u37 u38 u39 u40 u41 u42 u43 u44 u45 u46 u47 u48 u49 u50 u51 u52 u53 u54 u55 u56 u57 u58 u59 u60 u61 u62 u63 u64 u65 u66 u67 u68 u69 u70 u71 u72 u73 u74 u75 u76 u77 u78 u79 u80 u81 u82 u83 u84 u85 u86 u87 u88 u89 u90 u91 u92 u93 u94 u95 u96 u97 u98 u99 u100 u101 u102 u103 u104 u105 u106 u107 u108 u109 u110 u111 u112 u113 u114 u115 u116 u117 u118 u119 u120 u121 u122 u123 u124 u125 u126 u127 u128 u129 u130 u131 u132 u133 u134 u135 u136 u137 u138 u139 u140 u141 u142 u143 u144 u145 u146 u147 u148 u149 u150 u151 u152 u153 u154 u155 u156 u157 u158 u159 u160 u161 u162 u163 u164 u165 u166 u167 u168 u169 u170 u171 u172 u173 u174 u175 u176 u177 u178 u179 u180 u181 u182 u183 u184 u185 u186 u187 u188 u189 u190 u191 u192 u193 u194 u195 u196 u197 u198 u199 u200 u201 u202 u203 u204 u205 u206 u207 u208 u209 u210 u211 u212 u213 u214 u215 u216 u217 u218 u219 u220 u221 u222 u223 u224 u225 u226 u227 u228 u229 u230 u231 u232 u233 u234 u235 u236 u237 u238 u239 u240 u241 u242 u243 u244 u245 u246 u247 u248 u249 u250 : Value) :
    ∃ c : Code, (∃ a0 a1 a2 a3 a4 a5 a6 a7 a8 a9 a10 a11 a12 a13 a14 : Code, Tryz.f8.body = some (a0.seq (a1.seq (a2.seq (a3.seq (a4.seq (a5.seq (a6.seq (a7.seq (a8.seq (a9.seq (a10.seq (a11.seq (a12.seq (a13.seq (a14.seq (c))))))))))))))))) ∧ c.wp Tryz.prog (bodyPost Tryz.prog Tryz.f8 fun e w' => e = .returned (.bool true) ∧ Below w.heap.size w w') { tmps := #[u0, u1, u2, u3, u4, u5, u6, u7, .bool false, .bool true, .pointer (some ⟨bc, 0, none⟩), .pointer (some ⟨bs, 0, none⟩), vp, vm, u14, u15, v2, va, vb, vd, ve, u21, u22, u23, u24, u25, u26, u27, u28, u29, u30, u31, u32, u33, u34, u35, u36, u37, u38, u39, u40, u41, u42, u43, u44, u45, u46, u47, u48, u49, u50, u51, u52, u53, u54, u55, u56, u57, u58, u59, u60, u61, u62, u63, u64, u65, u66, u67, u68, u69, u70, u71, u72, u73, u74, u75, u76, u77, u78, u79, u80, u81, u82, u83, u84, u85, u86, u87, u88, u89, u90, u91, u92, u93, u94, u95, u96, u97, u98, u99, u100, u101, u102, u103, u104, u105, u106, u107, u108, u109, u110, u111, u112, u113, u114, u115, u116, u117, u118, u119, u120, u121, u122, u123, u124, u125, u126, u127, u128, u129, u130, u131, u132, u133, u134, u135, u136, u137, u138, u139, u140, u141, u142, u143, u144, u145, u146, u147, u148, u149, u150, u151, u152, u153, u154, u155, u156, u157, u158, u159, u160, u161, u162, u163, u164, u165, u166, u167, u168, u169, u170, u171, u172, u173, u174, u175, u176, u177, u178, u179, u180, u181, u182, u183, u184, u185, u186, u187, u188, u189, u190, u191, u192, u193, u194, u195, u196, u197, u198, u199, u200, u201, u202, u203, u204, u205, u206, u207, u208, u209, u210, u211, u212, u213, u214, u215, u216, u217, u218, u219, u220, u221, u222, u223, u224, u225, u226, u227, u228, u229, u230, u231, u232, u233, u234, u235, u236, u237, u238, u239, u240, u241, u242, u243, u244, u245, u246, u247, u248, u249, u250], defers := [] } wb := by
  refine ⟨_, ⟨_, _, _, _, _, _, _, _, _, _, _, _, _, _, _, rfl⟩, ?_⟩
  obtain ⟨ta, tc, rfl, hal, ham, ha3⟩ := HA.out.opened
  obtain ⟨ba, bcp, rfl, hbl, hbm, hb3⟩ := HB.out.opened
  have HA3 := Lib.hid ha3
  have HB3 := Lib.hid hb3
  obtain ⟨N, hN⟩ : ∃ N, N = A.length := ⟨_, rfl⟩
  obtain ⟨M, hM⟩ : ∃ M, M = B.length := ⟨_, rfl⟩
  rw [← hN] at hal ⊢
  rw [← hM] at hbl ⊢
  have HN := Lib.hid hN
  have HM := Lib.hid hM
  have hN9 : N ≤ 9223372036854775807 := by unfold maxLen at ham; omega
  have hM9 : M ≤ 9223372036854775807 := by unfold maxLen at hbm; omega
  clear hN hM ham hbm ha3 hb3 hal hbl
  go_wp2
  go_loopw [21] (fun i wr => ∃ k : Nat, k ≤ N ∧ i = .int .i64 k ∧ Hid (Below wb.heap.size wb wr)) (fun i _ => N - (intOf i).toNat)
  case atStart => exact ⟨0, by omega, rfl, Lib.hid (Below.refl _ _)⟩
  case round =>
    obtain ⟨k, hk, rfl, hB⟩ := hrel
    by_cases hlt : k < N
    · have tk : (k : Int) < (N : Int) := by omega
      have tk0 : (0 : Int) ≤ (k : Int) := by omega
      obtain ⟨t, et⟩ : ∃ t, A[k]? = some t := ⟨_, List.getElem?_eq_getElem (by rw [← HN.out]; exact hlt)⟩
      obtain ⟨tb, to1, rfl, htb, hc1, hc2⟩ := HA3.out k t et
      have htm : t ∈ tallyV ks num stp P := HAE.out ▸ List.mem_of_getElem? et
      have HAN : Hid (foundT t B = true) := Lib.hid (by rw [HBE.out]; exact found_more HS1.out HI2.out htm)
      have HA0 : Hid (false = foundT t (B.take 0)) := Lib.hid rfl
      have HAS := Lib.hid (fun (j : Nat) x (h : B[j]? = some x) => foundT_snoc (t := t) h)
      have hts := tally_val htm
      obtain ⟨tv, tn⟩ := t
      simp only at hc1 hc2 hts HAS
      clear et htm
      go_wp2
      go_loopw [22, 23] (fun f j wq => ∃ (q : Nat) (fb : Bool), q ≤ M ∧ j = .int .i64 q ∧ f = .bool fb ∧ Hid (fb = foundT (tv, tn) (B.take q)) ∧ Hid (Below wb.heap.size wb wq)) (fun _ j _ => M - (intOf j).toNat)
      case atStart => exact ⟨0, false, by omega, rfl, rfl, HA0, hB⟩
      case round =>
        clear hB HA0
        obtain ⟨q, fb, hq, rfl, rfl, hF, hB⟩ := hrel
        by_cases hltq : q < M
        · have tq : (q : Int) < (M : Int) := by omega
          have tq0 : (0 : Int) ≤ (q : Int) := by omega
          obtain ⟨s, es⟩ : ∃ s, B[q]? = some s := ⟨_, List.getElem?_eq_getElem (by rw [← HM.out]; exact hltq)⟩
          obtain ⟨sb, so, rfl, hsb, hd1, hd2⟩ := HB3.out q s es
          have HSN := Lib.hid (HAS.out q s es)
          obtain ⟨sv, sn⟩ := s
          simp only at hd1 hd2 HSN
          have HC := Lib.hid (fun W (hW : Below wr.heap.size wr W) => And.intro (cell_keepB (q_next hB.out hW) htb hc1) (And.intro (cell_keepB (q_next hB.out hW) htb hc2) (And.intro (cell_keepB (q_next hB.out hW) hsb hd1) (cell_keepB (q_next hB.out hW) hsb hd2))))
          clear es
          go_upto_region 27 with fail
          cases fb with
          | true =>
            refine wp_region_noPanic ?_
            refine wp_region_lexB [.q 0, .q 1, .q 2, .q 3, .q 4, .q 5, .q 6, .q 7, .q 8, .q 9, .q 10, .q 11, .q 12, .q 13, .q 14, .q 15, .q 16, .q 17, .q 18, .q 19, .q 20, .q 21, .q 22, .q 23, .q 24, .q 25, .q 26, .q 27] (by kernel_rfl) (by kernel_rfl) (fun _ _ _ _ h => h) ?_
            iterate 2 (refine wpFl_qL (v := ?_) rfl (Or.inl ⟨by rfl, ?_⟩) ?_; rotate_left; (focus (intro w' hSw; (try dsimp only [OldKept] at hSw); go_simp; (try with_reducible rfl); done)); simp only [Act.put, List.setIfInBounds_toArray, List.set_cons_zero, List.set_cons_succ])
            iterate 24 (refine wpFl_qL (v := undef) rfl (Or.inr ⟨by rfl, rfl⟩) ?_; simp only [Act.put, List.setIfInBounds_toArray, List.set_cons_zero, List.set_cons_succ])
            iterate 2 (refine wpFl_qL (v := ?_) rfl (Or.inl ⟨by rfl, ?_⟩) ?_; rotate_left; (focus (intro w' hSw; (try dsimp only [OldKept] at hSw); go_simp; (try with_reducible rfl); done)); simp only [Act.put, List.setIfInBounds_toArray, List.set_cons_zero, List.set_cons_succ])
            refine wpFl_nil ?_
            refine NoPanic.normal ?_
            go_wp2
            go_roundw
            case rel => exact ⟨q + 1, true, by omega, by go_num, rfl, Lib.hid (by rw [HSN.out, ← hF.out]; rfl), Lib.hid (Below.drew hB.out)⟩
            case measure => simp [intOf]; omega
          | false =>
            have hss := same_str sv tv
            obtain ⟨eq, heq⟩ : ∃ eq, eq = decide (sv = tv) := ⟨_, rfl⟩
            rw [← heq] at hss HSN
            clear heq
            cases eq with
            | false =>
              refine wp_region_noPanic ?_
              refine wp_region_lexB [.q 0, .q 1, .q 2, .q 3, .q 4, .q 5, .q 6, .q 7, .q 8, .q 9, .q 10, .q 11, .q 12, .q 13, .q 14, .q 15, .q 16, .q 17, .q 18, .q 19, .q 20, .q 21, .q 22, .q 23, .q 24, .q 25, .q 26, .q 27] (by kernel_rfl) (by kernel_rfl) (fun _ _ _ _ h => h) ?_
              iterate 14 (refine wpFl_qL (v := ?_) rfl (Or.inl ⟨by rfl, ?_⟩) ?_; rotate_left; (focus (intro w' hSw; (try dsimp only [OldKept] at hSw); obtain ⟨a0, a1, b0, b1⟩ := HC.out w' hSw; go_simp; (try with_reducible rfl); done)); simp only [Act.put, List.setIfInBounds_toArray, List.set_cons_zero, List.set_cons_succ])
              iterate 11 (refine wpFl_qL (v := undef) rfl (Or.inr ⟨by rfl, rfl⟩) ?_; simp only [Act.put, List.setIfInBounds_toArray, List.set_cons_zero, List.set_cons_succ])
              iterate 3 (refine wpFl_qL (v := ?_) rfl (Or.inl ⟨by rfl, ?_⟩) ?_; rotate_left; (focus (intro w' hSw; (try dsimp only [OldKept] at hSw); go_simp; (try with_reducible rfl); done)); simp only [Act.put, List.setIfInBounds_toArray, List.set_cons_zero, List.set_cons_succ])
              refine wpFl_nil ?_
              refine NoPanic.normal ?_
              go_wp2
              go_roundw
              case rel => exact ⟨q + 1, false, by omega, by go_num, rfl, Lib.hid (by rw [HSN.out, ← hF.out]; rfl), Lib.hid (Below.drew hB.out)⟩
              case measure => simp [intOf]; omega
            | true =>
              obtain ⟨ge, hge⟩ : ∃ ge, ge = decide (tn ≤ sn) := ⟨_, rfl⟩
              have hgi : decide ((tn : Int) ≤ (sn : Int)) = ge := by rw [hge]; exact decide_eq_decide.2 (by omega)
              rw [← hge] at HSN
              have HGE := Lib.hid hge
              clear hge
              refine wp_region_noPanic ?_
              refine wp_region_lexB [.q 0, .q 1, .q 2, .q 3, .q 4, .q 5, .q 6, .q 7, .q 8, .q 9, .q 10, .q 11, .q 12, .q 13, .q 14, .q 15, .q 16, .q 17, .q 18, .q 19, .q 20, .q 21, .q 22, .q 23, .q 24, .q 25, .q 26, .q 27] (by kernel_rfl) (by kernel_rfl) (fun _ _ _ _ h => h) ?_
              iterate 28 (refine wpFl_qL (v := ?_) rfl (Or.inl ⟨by rfl, ?_⟩) ?_; rotate_left; (focus (intro w' hSw; (try dsimp only [OldKept] at hSw); obtain ⟨a0, a1, b0, b1⟩ := HC.out w' hSw; go_simp; (try with_reducible rfl); done)); simp only [Act.put, List.setIfInBounds_toArray, List.set_cons_zero, List.set_cons_succ])
              refine wpFl_nil ?_
              refine NoPanic.normal ?_
              go_wp2
              go_roundw
              case rel => exact ⟨q + 1, ge, by omega, by go_num, by rw [← hgi]; first | rfl | simp, Lib.hid (by rw [HSN.out, ← hF.out]; rfl), Lib.hid (Below.drew hB.out)⟩
              case measure => simp [intOf]; omega
        · obtain rfl : q = M := by omega
          have tq : ¬ (q : Int) < (q : Int) := by omega
          have hfb : fb = true := by
            rw [hF.out, HM.out, List.take_length]
            exact HAN.out
          subst hfb
          have HCQ := Lib.hid (fun W (hW : Below wb.heap.size wb W) => And.intro (HCB.out W hW).1 (And.intro (HCB.out W hW).2.1 (And.intro (HCB.out W hW).2.2 (cell_keepB hW htb hc1))))
          have hrest := hB.out
          obtain ⟨oM, hoM⟩ : ∃ oM, oM = proveV ks num stp tv R := ⟨_, rfl⟩
          have HP2 := Lib.hid (prove_w HEV.out HK.out HVM.out num stp tv hts oM hoM.symm)
          have hT := prove_same (num := num) (stp := stp) (val := tv) HS2.out (HI1.out.trans HI3.out.symm)
          clear hrest
          cases hoP : proveV ks num stp tv P with
          | none =>
            have HP1 := Lib.hid (prove_w HEV.out HK.out HVP.out num stp tv hts none hoP)
            have HP3 := Lib.hid (prove_w HEV.out HK.out HV2.out num stp tv hts none (hT.symm.trans hoP))
            clear hT hoP hoM
            go_upto_region 28 with fail
            refine wp_region_noPanic ?_
            refine wp_region_lexB [.q 0, .q 1, .q 2, .q 3, .q 4, .q 5, .q 6, .q 7, .b 8, .q 9, .q 10, .q 11, .q 12, .q 13] (by kernel_rfl) (by kernel_rfl) (fun _ _ _ _ h => h) ?_
            iterate 8 (refine wpFl_qL (v := ?_) rfl (Or.inl ⟨by rfl, ?_⟩) ?_; rotate_left; (focus (intro w' hSw; (try dsimp only [OldKept] at hSw); obtain ⟨c0, t0, t1, a0⟩ := HCQ.out w' (q_next hB.out hSw); go_simp; (try with_reducible rfl); done)); simp only [Act.put, List.setIfInBounds_toArray, List.set_cons_zero, List.set_cons_succ])
            refine wpFl_bL rfl (fun waa hnaa hsaa K hK => ?_)
            go_simp
            go_at_call 34
            (with_reducible refine (HP1.out _ (q_next hB.out hsaa)).mono ?_)
            rintro e wba ⟨vxa, rfl, hva, hba⟩
            have HQ1 := Lib.hid (q_next hB.out (q_next hsaa hba))
            have HVXa := Lib.hid hva
            simp only [Option.isSome_none]
            refine hK.out _ _ (q_next hsaa hba) (Keeps.below hba) ?_
            clear hK K hnaa hsaa
            iterate 5 (refine wpFl_qL (v := ?_) rfl (Or.inl ⟨by rfl, ?_⟩) ?_; rotate_left; (focus (intro w' hSw; (try dsimp only [OldKept] at hSw); go_simp; (try with_reducible rfl); done)); simp only [Act.put, List.setIfInBounds_toArray, List.set_cons_zero, List.set_cons_succ])
            refine wpFl_nil ?_
            refine NoPanic.normal ?_
            go_upto_region 29 with fail
            refine wp_region_noPanic ?_
            refine wp_region_lexB [.q 0, .q 1, .q 2, .q 3, .q 4, .q 5, .q 6, .q 7, .b 8, .q 9, .q 10, .q 11, .q 12, .q 13] (by kernel_rfl) (by kernel_rfl) (fun _ _ _ _ h => h) ?_
            iterate 8 (refine wpFl_qL (v := ?_) rfl (Or.inl ⟨by rfl, ?_⟩) ?_; rotate_left; (focus (intro w' hSw; (try dsimp only [OldKept] at hSw); obtain ⟨c0, t0, t1, a0⟩ := HCQ.out w' (q_next HQ1.out hSw); go_simp; (try with_reducible rfl); done)); simp only [Act.put, List.setIfInBounds_toArray, List.set_cons_zero, List.set_cons_succ])
            refine wpFl_bL rfl (fun wab hnab hsab K hK => ?_)
            go_simp
            go_at_call 34
            (with_reducible refine (HP2.out _ (q_next HQ1.out hsab)).mono ?_)
            rintro e wbb ⟨vxb, rfl, hvb, hbb⟩
            have HQ2 := Lib.hid (q_next HQ1.out (q_next hsab hbb))
            have HVXb := Lib.hid hvb
            refine hK.out _ _ (q_next hsab hbb) (Keeps.below hbb) ?_
            clear hK K hnab hsab
            iterate 5 (refine wpFl_qL (v := ?_) rfl (Or.inl ⟨by rfl, ?_⟩) ?_; rotate_left; (focus (intro w' hSw; (try dsimp only [OldKept] at hSw); go_simp; (try with_reducible rfl); done)); simp only [Act.put, List.setIfInBounds_toArray, List.set_cons_zero, List.set_cons_succ])
            refine wpFl_nil ?_
            refine NoPanic.normal ?_
            go_upto_region 30 with fail
            refine wp_region_noPanic ?_
            refine wp_region_lexB [.q 0, .q 1, .q 2, .q 3, .q 4, .q 5, .q 6, .q 7, .b 8, .q 9, .q 10, .q 11, .q 12, .q 13] (by kernel_rfl) (by kernel_rfl) (fun _ _ _ _ h => h) ?_
            iterate 8 (refine wpFl_qL (v := ?_) rfl (Or.inl ⟨by rfl, ?_⟩) ?_; rotate_left; (focus (intro w' hSw; (try dsimp only [OldKept] at hSw); obtain ⟨c0, t0, t1, a0⟩ := HCQ.out w' (q_next HQ2.out hSw); go_simp; (try with_reducible rfl); done)); simp only [Act.put, List.setIfInBounds_toArray, List.set_cons_zero, List.set_cons_succ])
            refine wpFl_bL rfl (fun wac hnac hsac K hK => ?_)
            go_simp
            go_at_call 34
            (with_reducible refine (HP3.out _ (q_next HQ2.out hsac)).mono ?_)
            rintro e wbc ⟨vxc, rfl, hvc, hbc⟩
            have HQ3 := Lib.hid (q_next HQ2.out (q_next hsac hbc))
            have HVXc := Lib.hid hvc
            simp only [Option.isSome_none]
            refine hK.out _ _ (q_next hsac hbc) (Keeps.below hbc) ?_
            clear hK K hnac hsac
            iterate 5 (refine wpFl_qL (v := ?_) rfl (Or.inl ⟨by rfl, ?_⟩) ?_; rotate_left; (focus (intro w' hSw; (try dsimp only [OldKept] at hSw); go_simp; (try with_reducible rfl); done)); simp only [Act.put, List.setIfInBounds_toArray, List.set_cons_zero, List.set_cons_succ])
            refine wpFl_nil ?_
            refine NoPanic.normal ?_
            clear hba hbb hbc hva hvb hvc HVXa HVXb HVXc HQ1 HQ2 HP1 HP2 HP3
            go_upto_region 31 with fail
            refine wp_region_noPanic ?_
            refine wp_region_lexB [.q 0, .q 1, .q 2, .q 3, .q 4, .q 5, .q 6, .q 7, .q 8, .q 9, .q 10, .q 11, .q 12, .q 13, .q 14, .q 15, .q 16, .q 17, .q 18, .q 19, .q 20, .q 21, .q 22, .q 23, .q 24, .q 25, .q 26, .q 27, .q 28] (by kernel_rfl) (by kernel_rfl) (fun _ _ _ _ h => h) ?_
            iterate 5 (refine wpFl_qL (v := ?_) rfl (Or.inl ⟨by rfl, ?_⟩) ?_; rotate_left; (focus (intro w' hSw; (try dsimp only [OldKept] at hSw); go_simp; (try with_reducible rfl); done)); simp only [Act.put, List.setIfInBounds_toArray, List.set_cons_zero, List.set_cons_succ])
            iterate 2 (refine wpFl_qL (v := undef) rfl (Or.inr ⟨by rfl, rfl⟩) ?_; simp only [Act.put, List.setIfInBounds_toArray, List.set_cons_zero, List.set_cons_succ])
            iterate 10 (refine wpFl_qL (v := ?_) rfl (Or.inl ⟨by rfl, ?_⟩) ?_; rotate_left; (focus (intro w' hSw; (try dsimp only [OldKept] at hSw); go_simp; (try with_reducible rfl); done)); simp only [Act.put, List.setIfInBounds_toArray, List.set_cons_zero, List.set_cons_succ])
            iterate 10 (refine wpFl_qL (v := undef) rfl (Or.inr ⟨by rfl, rfl⟩) ?_; simp only [Act.put, List.setIfInBounds_toArray, List.set_cons_zero, List.set_cons_succ])
            iterate 2 (refine wpFl_qL (v := ?_) rfl (Or.inl ⟨by rfl, ?_⟩) ?_; rotate_left; (focus (intro w' hSw; (try dsimp only [OldKept] at hSw); go_simp; (try with_reducible rfl); done)); simp only [Act.put, List.setIfInBounds_toArray, List.set_cons_zero, List.set_cons_succ])
            refine wpFl_nil ?_
            refine NoPanic.normal ?_
            go_wp2
            go_roundw
            case rel => exact ⟨k + 1, by omega, by go_num, Lib.hid (Below.drew HQ3.out)⟩
            case measure => simp [intOf]; omega
          | some lp =>
            have HP1 := Lib.hid (prove_w HEV.out HK.out HVP.out num stp tv hts (some lp) hoP)
            have HP3 := Lib.hid (prove_w HEV.out HK.out HV2.out num stp tv hts (some lp) (hT.symm.trans hoP))
            have hsm := prove_none_len HS1.out HI2.out hoP
            rw [← hoM] at hsm
            obtain ⟨lm, rfl⟩ := Option.isSome_iff_exists.1 hsm
            have HCK := Lib.hid (prove_check hoP)
            clear hT hoP hoM hsm
            go_upto_region 28 with fail
            refine wp_region_noPanic ?_
            refine wp_region_lexB [.q 0, .q 1, .q 2, .q 3, .q 4, .q 5, .q 6, .q 7, .b 8, .q 9, .q 10, .q 11, .q 12, .q 13] (by kernel_rfl) (by kernel_rfl) (fun _ _ _ _ h => h) ?_
            iterate 8 (refine wpFl_qL (v := ?_) rfl (Or.inl ⟨by rfl, ?_⟩) ?_; rotate_left; (focus (intro w' hSw; (try dsimp only [OldKept] at hSw); obtain ⟨c0, t0, t1, a0⟩ := HCQ.out w' (q_next hB.out hSw); go_simp; (try with_reducible rfl); done)); simp only [Act.put, List.setIfInBounds_toArray, List.set_cons_zero, List.set_cons_succ])
            refine wpFl_bL rfl (fun waa hnaa hsaa K hK => ?_)
            go_simp
            go_at_call 34
            (with_reducible refine (HP1.out _ (q_next hB.out hsaa)).mono ?_)
            rintro e wba ⟨vxa, rfl, hva, hba⟩
            have HQ1 := Lib.hid (q_next hB.out (q_next hsaa hba))
            have HVXa := Lib.hid hva
            simp only [Option.isSome_some]
            refine hK.out _ _ (q_next hsaa hba) (Keeps.below hba) ?_
            clear hK K hnaa hsaa
            iterate 5 (refine wpFl_qL (v := ?_) rfl (Or.inl ⟨by rfl, ?_⟩) ?_; rotate_left; (focus (intro w' hSw; (try dsimp only [OldKept] at hSw); go_simp; (try with_reducible rfl); done)); simp only [Act.put, List.setIfInBounds_toArray, List.set_cons_zero, List.set_cons_succ])
            refine wpFl_nil ?_
            refine NoPanic.normal ?_
            go_upto_region 29 with fail
            refine wp_region_noPanic ?_
            refine wp_region_lexB [.q 0, .q 1, .q 2, .q 3, .q 4, .q 5, .q 6, .q 7, .b 8, .q 9, .q 10, .q 11, .q 12, .q 13] (by kernel_rfl) (by kernel_rfl) (fun _ _ _ _ h => h) ?_
            iterate 8 (refine wpFl_qL (v := ?_) rfl (Or.inl ⟨by rfl, ?_⟩) ?_; rotate_left; (focus (intro w' hSw; (try dsimp only [OldKept] at hSw); obtain ⟨c0, t0, t1, a0⟩ := HCQ.out w' (q_next HQ1.out hSw); go_simp; (try with_reducible rfl); done)); simp only [Act.put, List.setIfInBounds_toArray, List.set_cons_zero, List.set_cons_succ])
            refine wpFl_bL rfl (fun wab hnab hsab K hK => ?_)
            go_simp
            go_at_call 34
            (with_reducible refine (HP2.out _ (q_next HQ1.out hsab)).mono ?_)
            rintro e wbb ⟨vxb, rfl, hvb, hbb⟩
            have HQ2 := Lib.hid (q_next HQ1.out (q_next hsab hbb))
            have HVXb := Lib.hid hvb
            simp only [Option.isSome_some]
            refine hK.out _ _ (q_next hsab hbb) (Keeps.below hbb) ?_
            clear hK K hnab hsab
            iterate 5 (refine wpFl_qL (v := ?_) rfl (Or.inl ⟨by rfl, ?_⟩) ?_; rotate_left; (focus (intro w' hSw; (try dsimp only [OldKept] at hSw); go_simp; (try with_reducible rfl); done)); simp only [Act.put, List.setIfInBounds_toArray, List.set_cons_zero, List.set_cons_succ])
            refine wpFl_nil ?_
            refine NoPanic.normal ?_
            go_upto_region 30 with fail
            refine wp_region_noPanic ?_
            refine wp_region_lexB [.q 0, .q 1, .q 2, .q 3, .q 4, .q 5, .q 6, .q 7, .b 8, .q 9, .q 10, .q 11, .q 12, .q 13] (by kernel_rfl) (by kernel_rfl) (fun _ _ _ _ h => h) ?_
            iterate 8 (refine wpFl_qL (v := ?_) rfl (Or.inl ⟨by rfl, ?_⟩) ?_; rotate_left; (focus (intro w' hSw; (try dsimp only [OldKept] at hSw); obtain ⟨c0, t0, t1, a0⟩ := HCQ.out w' (q_next HQ2.out hSw); go_simp; (try with_reducible rfl); done)); simp only [Act.put, List.setIfInBounds_toArray, List.set_cons_zero, List.set_cons_succ])
            refine wpFl_bL rfl (fun wac hnac hsac K hK => ?_)
            go_simp
            go_at_call 34
            (with_reducible refine (HP3.out _ (q_next HQ2.out hsac)).mono ?_)
            rintro e wbc ⟨vxc, rfl, hvc, hbc⟩
            have HQ3 := Lib.hid (q_next HQ2.out (q_next hsac hbc))
            have HVXc := Lib.hid hvc
            simp only [Option.isSome_some]
            refine hK.out _ _ (q_next hsac hbc) (Keeps.below hbc) ?_
            clear hK K hnac hsac
            iterate 5 (refine wpFl_qL (v := ?_) rfl (Or.inl ⟨by rfl, ?_⟩) ?_; rotate_left; (focus (intro w' hSw; (try dsimp only [OldKept] at hSw); go_simp; (try with_reducible rfl); done)); simp only [Act.put, List.setIfInBounds_toArray, List.set_cons_zero, List.set_cons_succ])
            refine wpFl_nil ?_
            refine NoPanic.normal ?_
            have HVC := HVXc
            simp only [Option.getD_some] at HVC
            have HC1 := Lib.hid (qcheck_w (HEV.out.step HQ3.out) (HK.out.below HQ3.out) HVC.out num stp tv true HCK.out)
            clear hba hbb hbc hva hvb hvc HVXa HVXb HVXc HQ1 HQ2 HP1 HP2 HP3
            go_upto_region 31 with fail
            refine wp_region_noPanic ?_
            refine wp_region_lexB [.q 0, .q 1, .q 2, .q 3, .q 4, .q 5, .q 6, .q 7, .q 8, .q 9, .q 10, .q 11, .q 12, .q 13, .q 14, .q 15, .q 16, .q 17, .q 18, .q 19, .q 20, .q 21, .q 22, .q 23, .q 24, .b 25, .q 26, .q 27, .q 28] (by kernel_rfl) (by kernel_rfl) (fun _ _ _ _ h => h) ?_
            iterate 25 (refine wpFl_qL (v := ?_) rfl (Or.inl ⟨by rfl, ?_⟩) ?_; rotate_left; (focus (intro w' hSw; (try dsimp only [OldKept] at hSw); obtain ⟨c0, t0, t1, a0⟩ := HCQ.out w' (q_next HQ3.out hSw); go_simp; (try with_reducible rfl); done)); simp only [Act.put, List.setIfInBounds_toArray, List.set_cons_zero, List.set_cons_succ])
            refine wpFl_bL rfl (fun wad hnad hsad K hK => ?_)
            go_simp
            go_at_call 39
            (with_reducible refine (HC1.out _ hsad).mono ?_)
            rintro e wbd ⟨rfl, hbd⟩
            have HQ4 := Lib.hid (q_next HQ3.out (q_next hsad hbd))
            refine hK.out _ _ (q_next hsad hbd) (Keeps.below hbd) ?_
            clear hK K hnad hsad
            iterate 3 (refine wpFl_qL (v := ?_) rfl (Or.inl ⟨by rfl, ?_⟩) ?_; rotate_left; (focus (intro w' hSw; (try dsimp only [OldKept] at hSw); go_simp; (try with_reducible rfl); done)); simp only [Act.put, List.setIfInBounds_toArray, List.set_cons_zero, List.set_cons_succ])
            refine wpFl_nil ?_
            refine NoPanic.normal ?_
            go_wp2
            go_roundw
            case rel => exact ⟨k + 1, by omega, by go_num, HQ4⟩
            case measure => simp [intOf]; omega
    · obtain rfl : k = N := by omega
      have tk : ¬ (k : Int) < (k : Int) := by omega
      have HBE2 := Lib.hid (HBW.out.trans (hB.out.mono HBW.out.size))
      have HDE := Lib.hid (HD.out.below hB.out)
      have HEE := Lib.hid (HE.out.below hB.out)
      iterate 25 go_step
      refine wp_of_eqG (grows_doubles HBE2 vd ve D E HDE HEE HG _ _ _ _ _ _ _ _ _ _ _ _ _ _ _ _ _ _ _ _ _ _ _ _ _ _ _ _ _ _ _ _ _ _ _ _ _ _ _ _ _ _ _ _ _ _ _ _ _ _ _ _ _ _ _ _ _ _ _ _ _ _ _ _ _ _ _ _ _ _ _ _ _ _ _ _ _ _ _ _ _ _ _ _ _ _ _ _ _ _ _ _ _ _ _ _ _ _ _ _ _ _ _ _ _ _ _ _ _ _ _ _ _ _ _ _ _ _ _ _ _ _ _ _ _ _ _ _ _ _ _ _ _ _ _ _ _ _ _ _ _ _ _ _ _ _ _ _ _ _ _ _ _ _ _ _ _ _ _ _ _ _ _ _ _ _ _ _ _ _ _ _ _ _ _ _ _ _ _ _ _ _ _ _ _ _ _ _ _ _ _ _ _ _ _ _ _ _ _ _ _ _ _ _ _ _ _ _ _ _ _ _ _ _ _ _ _ _ _ _ _ _ _ _ _ _ _ _ _ _ _ _ _ _ _ _ _ _ _ _ _ _ _ _ _ _ _ _).choose_spec.2 ?_
      exact tailQGB (grows_doubles HBE2 vd ve D E HDE HEE HG _ _ _ _ _ _ _ _ _ _ _ _ _ _ _ _ _ _ _ _ _ _ _ _ _ _ _ _ _ _ _ _ _ _ _ _ _ _ _ _ _ _ _ _ _ _ _ _ _ _ _ _ _ _ _ _ _ _ _ _ _ _ _ _ _ _ _ _ _ _ _ _ _ _ _ _ _ _ _ _ _ _ _ _ _ _ _ _ _ _ _ _ _ _ _ _ _ _ _ _ _ _ _ _ _ _ _ _ _ _ _ _ _ _ _ _ _ _ _ _ _ _ _ _ _ _ _ _ _ _ _ _ _ _ _ _ _ _ _ _ _ _ _ _ _ _ _ _ _ _ _ _ _ _ _ _ _ _ _ _ _ _ _ _ _ _ _ _ _ _ _ _ _ _ _ _ _ _ _ _ _ _ _ _ _ _ _ _ _ _ _ _ _ _ _ _ _ _ _ _ _ _ _ _ _ _ _ _ _ _ _ _ _ _ _ _ _ _ _ _ _ _ _ _ _ _ _ _ _ _ _ _ _ _ _ _ _ _ _ _ _ _ _ _ _ _ _ _).choose_spec.1
end Go.Proofs.YtggdcnjaofflbaaGreatDoor
