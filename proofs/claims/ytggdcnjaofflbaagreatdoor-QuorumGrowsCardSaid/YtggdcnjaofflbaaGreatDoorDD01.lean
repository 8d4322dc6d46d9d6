/- Walk of the law: QuorumGrows, its last loop: no double is lost. The conditions: what the slices read as. -/
import Derived.Deep.DeepCutAuto
import Derived.Deep.CutBlock
import Derived.Test.YtggdcnjaofflbaaGreatDoorC19
import Derived.Test.YtggdcnjaofflbaaGreatDoorC21
namespace Go.Proofs.YtggdcnjaofflbaaGreatDoor
open Go.RowKit Go.BigFrame

theorem any_snocG {α : Type} {l : List α} {k : Nat} {x : α} (p : α → Bool) (h : l[k]? = some x) : (l.take (k + 1)).any p = ((l.take k).any p || p x) := by
  rw [List.take_add_one, h, List.any_append]
  simp
theorem wp_of_eqG {P : Program} {c L : Code} {Q : Exit → Act → World → Prop} {a : Act} {w : World} (h : c.wp P Q a w) (e : c = L) : L.wp P Q a w := e ▸ h
def rtQGB (c : Code) : Code := rtQ (rtQ (rtQ (rtQ (rtQ (rtQ (rtQ (rtQ (rtQ (rtQ (rtQ (rtQ (rtQ (rtQ (rtQ (rtQ (c))))))))))))))))
theorem tailQGB {c L : Code} (h : ∃ a0 a1 a2 a3 a4 a5 a6 a7 a8 a9 a10 a11 a12 a13 a14 a15 : Code, Tryz.f8.body = some (a0.seq (a1.seq (a2.seq (a3.seq (a4.seq (a5.seq (a6.seq (a7.seq (a8.seq (a9.seq (a10.seq (a11.seq (a12.seq (a13.seq (a14.seq (a15.seq (c)))))))))))))))))) (hL : Tryz.f8.body.map rtQGB = some L := by rfl) : c = L := by
  obtain ⟨a0, a1, a2, a3, a4, a5, a6, a7, a8, a9, a10, a11, a12, a13, a14, a15, e⟩ := h
  rw [e] at hL
  exact Option.some.inj hL
set_option maxHeartbeats 16000000 in
set_option maxRecDepth 100000 in
theorem grows_doubles {w wb : World} (HBW : Hid (Below w.heap.size w wb)) (vd ve : Value) (D E : List (VoteP × VoteP)) (HD : Hid (DS wb vd D)) (HE : Hid (DS wb ve E)) (HG : Hid (∀ d ∈ D, ∃ e ∈ E, oneV e.1 d.1 = true)) (u0 u1 u2 u3 u4 u5 u6 u7 u8 u10 u11 u12 u13 u14 u15 u16 u17 u18 u21 u22 u23 u24 u25 u26 u27 u28 u29 u30 u31 u32 u33 u34 u35 u36 u37 u38 u39 u40 u41 u42 u43 u44 u45 u46 u47 u48 u49 u50 u51 u52 u53 u54 u55 u56 u57 u58 u59 u60 u61 u62 u63 u64 u65 u66 u67 u68 u69 u70 u71 u72 u73 u74 u75 u76 u77 u78 u79 u80 u81 u82 u83 u84 u85 u86 u87 u88 u89 u90 u91 u92 u93 u94 u95 u96 u97 u98 u99 u100 u101 u102 u103 u104 u105 u106 u107 u108 u109 u110 u111 u112 u113 u114 u115 u116 u117 u118 u119 u120 u121 u122 u123 u124 u125 u126 u127 u128 u129 u130 u131 u132 u133 u134 u135 u136 u137 u138 u139 u140 u141 u142 u143 u144 u145 u146 u147 u148 u149 u150 u151 u152 u153 u154 u155 u156 u157 u158 u159 u160 u161 u162 u163 u164 u165 u166 u167 u168 u169 u170 u171 u172 u173 u174 u175 u176 u177 u178 u179 u180 u181 u182 u183 u184 u185 u186 u187 u188 u189 u190 u191 u192 u193 u194 u195 u196 u197 u198 u199 u200 u201 u202 u203 u204 u205 u206 u207 u208 u209 u210 u211 u212 u213 u214 u215 u216 u217 u218 u219 u220 u221 u222 u223 u224 u225 u226 u227 u228 u229 u230 u231 u232 u233 u234 u235 u236 u237 u238 u239 u240 u241 u242 u243 u244 u245 u246 u247 u248 u249 u250 : Value) :
    ∃ c : Code, (∃ a0 a1 a2 a3 a4 a5 a6 a7 a8 a9 a10 a11 a12 a13 a14 a15 : Code, Tryz.f8.body = some (a0.seq (a1.seq (a2.seq (a3.seq (a4.seq (a5.seq (a6.seq (a7.seq (a8.seq (a9.seq (a10.seq (a11.seq (a12.seq (a13.seq (a14.seq (a15.seq (c)))))))))))))))))) ∧ c.wp Tryz.prog (bodyPost Tryz.prog Tryz.f8 fun e w' => e = .returned (.bool true) ∧ Below w.heap.size w w') { tmps := #[u0, u1, u2, u3, u4, u5, u6, u7, u8, .bool true, u10, u11, u12, u13, u14, u15, u16, u17, u18, vd, ve, u21, u22, u23, u24, u25, u26, u27, u28, u29, u30, u31, u32, u33, u34, u35, u36, u37, u38, u39, u40, u41, u42, u43, u44, u45, u46, u47, u48, u49, u50, u51, u52, u53, u54, u55, u56, u57, u58, u59, u60, u61, u62, u63, u64, u65, u66, u67, u68, u69, u70, u71, u72, u73, u74, u75, u76, u77, u78, u79, u80, u81, u82, u83, u84, u85, u86, u87, u88, u89, u90, u91, u92, u93, u94, u95, u96, u97, u98, u99, u100, u101, u102, u103, u104, u105, u106, u107, u108, u109, u110, u111, u112, u113, u114, u115, u116, u117, u118, u119, u120, u121, u122, u123, u124, u125, u126, u127, u128, u129, u130, u131, u132, u133, u134, u135, u136, u137, u138, u139, u140, u141, u142, u143, u144, u145, u146, u147, u148, u149, u150, u151, u152, u153, u154, u155, u156, u157, u158, u159, u160, u161, u162, u163, u164, u165, u166, u167, u168, u169, u170, u171, u172, u173, u174, u175, u176, u177, u178, u179, u180, u181, u182, u183, u184, u185, u186, u187, u188, u189, u190, u191, u192, u193, u194, u195, u196, u197, u198, u199, u200, u201, u202, u203, u204, u205, u206, u207, u208, u209, u210, u211, u212, u213, u214, u215, u216, u217, u218, u219, u220, u221, u222, u223, u224, u225, u226, u227, u228, u229, u230, u231, u232, u233, u234, u235, u236, u237, u238, u239, u240, u241, u242, u243, u244, u245, u246, u247, u248, u249, u250], defers := [] } wb := by
  refine ⟨_, ⟨_, _, _, _, _, _, _, _, _, _, _, _, _, _, _, _, rfl⟩, ?_⟩
  obtain ⟨da, dc, rfl, hdl, hdm, hd3⟩ := HD.out.opened
  obtain ⟨ea, ec, rfl, hel, hem, he3⟩ := HE.out.opened
  have HD3 := Lib.hid hd3
  have HE3 := Lib.hid he3
  obtain ⟨N, hN⟩ : ∃ N, N = D.length := ⟨_, rfl⟩
  obtain ⟨M, hM⟩ : ∃ M, M = E.length := ⟨_, rfl⟩
  rw [← hN, ← hM]
  have HN := Lib.hid hN
  have HM := Lib.hid hM
  rw [← hN] at hdl
  rw [← hM] at hel
  have hN9 : N ≤ 9223372036854775807 := by unfold maxLen at hdm; omega
  have hM9 : M ≤ 9223372036854775807 := by unfold maxLen at hem; omega
  clear hN hM hdm hem hd3 he3 hdl hel
  go_wp2
  go_loopw [30] (fun i wr => ∃ k : Nat, k ≤ N ∧ i = .int .i64 k ∧ Hid (Below wb.heap.size wb wr)) (fun i _ => N - (intOf i).toNat)
  case atStart => exact ⟨0, by omega, rfl, Lib.hid (Below.refl _ _)⟩
  case round =>
    obtain ⟨k, hk, rfl, hB⟩ := hrel
    by_cases hlt : k < N
    · have tk : (k : Int) < (N : Int) := by omega
      have tk0 : (0 : Int) ≤ (k : Int) := by omega
      obtain ⟨d, ed⟩ : ∃ d, D[k]? = some d := ⟨_, List.getElem?_eq_getElem (by rw [← HN.out]; exact hlt)⟩
      obtain ⟨db, do1, rfl, hdb, ⟨hd0, hd1, hd2, -, -⟩, -⟩ := HD3.out k d ed
      have hany : E.any (fun e => oneV e.1 d.1) = true := by
        obtain ⟨e, he, h1⟩ := HG.out d (List.mem_of_getElem? ed)
        exact List.any_eq_true.2 ⟨e, he, h1⟩
      have HAN := Lib.hid hany
      have HA0 : Hid (false = (E.take 0).any (fun e => oneV e.1 d.1)) := Lib.hid rfl
      have HAS := Lib.hid (fun (j : Nat) x (h : E[j]? = some x) => any_snocG (fun e : VoteP × VoteP => oneV e.1 d.1) h)
      obtain ⟨⟨dcar, dnum, dstp, dv, dl⟩, d2'⟩ := d
      simp only at hd0 hd1 hd2
      clear hany ed
      go_wp2
      go_loopw [31, 32] (fun f j wq => ∃ (q : Nat) (fb : Bool), q ≤ M ∧ j = .int .i64 q ∧ f = .bool fb ∧ Hid (fb = (E.take q).any (fun e => oneV e.1 ⟨dcar, dnum, dstp, dv, dl⟩)) ∧ Hid (Below wb.heap.size wb wq)) (fun _ j _ => M - (intOf j).toNat)
      case atStart => exact ⟨0, false, by omega, rfl, rfl, HA0, hB⟩
      case round =>
        clear hB HA0
        obtain ⟨q, fb, hq, rfl, rfl, hF, hB⟩ := hrel
        by_cases hltq : q < M
        · have tq : (q : Int) < (M : Int) := by omega
          have tq0 : (0 : Int) ≤ (q : Int) := by omega
          obtain ⟨e, ee⟩ : ∃ e, E[q]? = some e := ⟨_, List.getElem?_eq_getElem (by rw [← HM.out]; exact hltq)⟩
          obtain ⟨eb, eo1, rfl, heb, ⟨he0, he1, he2, -, -⟩, -⟩ := HE3.out q e ee
          have HSN := Lib.hid (HAS.out q e ee)
          obtain ⟨⟨ecar, enum, estp, ev, el⟩, e2'⟩ := e
          simp only at he0 he1 he2
          have HC := Lib.hid (fun W (hW : Below wr.heap.size wr W) => And.intro (And.intro (cell_keepB (q_next hB.out hW) hdb hd0) (And.intro (cell_keepB (q_next hB.out hW) hdb hd1) (cell_keepB (q_next hB.out hW) hdb hd2))) (And.intro (cell_keepB (q_next hB.out hW) heb he0) (And.intro (cell_keepB (q_next hB.out hW) heb he1) (cell_keepB (q_next hB.out hW) heb he2))))
          have HSL := Lib.hid (fun W => eqlSlot enum estp dnum dstp W)
          clear ee
          go_upto_region 40 with fail
          cases fb with
          | true =>
            refine wp_region_noPanic ?_
            refine wp_region_lexB [.q 0, .q 1, .q 2, .q 3, .q 4, .q 5, .q 6, .q 7, .q 8, .q 9, .q 10, .q 11, .q 12, .q 13, .q 14, .q 15, .q 16, .q 17, .q 18, .q 19, .q 20, .q 21, .q 22, .q 23, .q 24, .q 25, .q 26, .q 27, .q 28, .q 29, .q 30, .q 31] (by kernel_rfl) (by kernel_rfl) (fun _ _ _ _ h => h) ?_
            iterate 2 (refine wpFl_qL (v := ?_) rfl (Or.inl ⟨by rfl, ?_⟩) ?_; rotate_left; (focus (intro w' hSw; (try dsimp only [OldKept] at hSw); go_simp; (try with_reducible rfl); done)); simp only [Act.put, List.setIfInBounds_toArray, List.set_cons_zero, List.set_cons_succ])
            iterate 28 (refine wpFl_qL (v := undef) rfl (Or.inr ⟨by rfl, rfl⟩) ?_; simp only [Act.put, List.setIfInBounds_toArray, List.set_cons_zero, List.set_cons_succ])
            iterate 2 (refine wpFl_qL (v := ?_) rfl (Or.inl ⟨by rfl, ?_⟩) ?_; rotate_left; (focus (intro w' hSw; (try dsimp only [OldKept] at hSw); go_simp; (try with_reducible rfl); done)); simp only [Act.put, List.setIfInBounds_toArray, List.set_cons_zero, List.set_cons_succ])
            refine wpFl_nil ?_
            refine NoPanic.normal ?_
            go_wp2
            go_roundw
            case rel => exact ⟨q + 1, true, by omega, by go_num, rfl, Lib.hid (by rw [HSN.out, ← hF.out]; rfl), Lib.hid (Below.drew hB.out)⟩
            case measure => simp [intOf]; omega
          | false =>
            by_cases hcc : ecar = dcar
            · have hbq : (ecar == dcar) = true := by simp [hcc]
              obtain ⟨se, hse⟩ : ∃ se, se = decide (enum = dnum ∧ estp = dstp) := ⟨_, rfl⟩
              rw [← hse] at HSL
              have hsl := HSL.out
              have HFN : Hid (oneV ⟨ecar, enum, estp, ev, el⟩ ⟨dcar, dnum, dstp, dv, dl⟩ = se) := Lib.hid (by rw [hse]; unfold oneV; exact decide_eq_decide.2 ⟨fun h => ⟨h.2.1, h.2.2⟩, fun h => ⟨hcc, h.1, h.2⟩⟩)
              clear hse
              refine wp_region_noPanic ?_
              refine wp_region_lexB [.q 0, .q 1, .q 2, .q 3, .q 4, .q 5, .q 6, .q 7, .q 8, .q 9, .q 10, .q 11, .q 12, .q 13, .q 14, .q 15, .q 16, .q 17, .q 18, .q 19, .q 20, .q 21, .q 22, .q 23, .q 24, .q 25, .q 26, .q 27, .q 28, .q 29, .q 30, .q 31] (by kernel_rfl) (by kernel_rfl) (fun _ _ _ _ h => h) ?_
              iterate 32 (refine wpFl_qL (v := ?_) rfl (Or.inl ⟨by rfl, ?_⟩) ?_; rotate_left; (focus (intro w' hSw; (try dsimp only [OldKept] at hSw); obtain ⟨⟨d0, d1, d2⟩, e0, e1, e2⟩ := HC.out w' hSw; go_simp; (try with_reducible rfl); done)); simp only [Act.put, List.setIfInBounds_toArray, List.set_cons_zero, List.set_cons_succ])
              refine wpFl_nil ?_
              refine NoPanic.normal ?_
              go_wp2
              go_roundw
              case rel => exact ⟨q + 1, se, by omega, by go_num, rfl, Lib.hid (by rw [HSN.out, ← hF.out, HFN.out, Bool.false_or]), Lib.hid (Below.drew hB.out)⟩
              case measure => simp [intOf]; omega
            · have hbq : (ecar == dcar) = false := by simp [hcc]
              have HFN : Hid (oneV ⟨ecar, enum, estp, ev, el⟩ ⟨dcar, dnum, dstp, dv, dl⟩ = false) := Lib.hid (decide_eq_false (fun h => hcc h.1))
              refine wp_region_noPanic ?_
              refine wp_region_lexB [.q 0, .q 1, .q 2, .q 3, .q 4, .q 5, .q 6, .q 7, .q 8, .q 9, .q 10, .q 11, .q 12, .q 13, .q 14, .q 15, .q 16, .q 17, .q 18, .q 19, .q 20, .q 21, .q 22, .q 23, .q 24, .q 25, .q 26, .q 27, .q 28, .q 29, .q 30, .q 31] (by kernel_rfl) (by kernel_rfl) (fun _ _ _ _ h => h) ?_
              iterate 16 (refine wpFl_qL (v := ?_) rfl (Or.inl ⟨by rfl, ?_⟩) ?_; rotate_left; (focus (intro w' hSw; (try dsimp only [OldKept] at hSw); obtain ⟨⟨d0, d1, d2⟩, e0, e1, e2⟩ := HC.out w' hSw; go_simp; (try with_reducible rfl); done)); simp only [Act.put, List.setIfInBounds_toArray, List.set_cons_zero, List.set_cons_succ])
              iterate 13 (refine wpFl_qL (v := undef) rfl (Or.inr ⟨by rfl, rfl⟩) ?_; simp only [Act.put, List.setIfInBounds_toArray, List.set_cons_zero, List.set_cons_succ])
              iterate 3 (refine wpFl_qL (v := ?_) rfl (Or.inl ⟨by rfl, ?_⟩) ?_; rotate_left; (focus (intro w' hSw; (try dsimp only [OldKept] at hSw); go_simp; (try with_reducible rfl); done)); simp only [Act.put, List.setIfInBounds_toArray, List.set_cons_zero, List.set_cons_succ])
              refine wpFl_nil ?_
              refine NoPanic.normal ?_
              go_wp2
              go_roundw
              case rel => exact ⟨q + 1, false, by omega, by go_num, rfl, Lib.hid (by rw [HSN.out, ← hF.out, HFN.out]; rfl), Lib.hid (Below.drew hB.out)⟩
              case measure => simp [intOf]; omega
        · obtain rfl : q = M := by omega
          have tq : ¬ (q : Int) < (q : Int) := by omega
          have hfb : fb = true := by
            rw [hF.out, HM.out, List.take_length]
            exact HAN.out
          subst hfb
          go_wp2
          go_roundw
          case rel => exact ⟨k + 1, by omega, by go_num, hB⟩
          case measure => simp [intOf]; omega
    · have tk : ¬ (k : Int) < (N : Int) := by omega
      go_wp2
      go_ret
      exact ⟨rfl, HBW.out.trans (hB.out.mono HBW.out.size)⟩
end Go.Proofs.YtggdcnjaofflbaaGreatDoor
