/- Walk of the law: QuorumHonest, its last loop: no double names the carrier. The conditions: what the slices read as. -/
import Derived.Deep.DeepCutAuto
import Derived.Deep.CutBlock
import Derived.Test.YtggdcnjaofflbaaGreatDoorC19
import Derived.Test.YtggdcnjaofflbaaGreatDoorHH00
import Derived.Test.YtggdcnjaofflbaaGreatDoorC18
namespace Go.Proofs.YtggdcnjaofflbaaGreatDoor
open Go.RowKit Go.BigFrame

def rtQHC (c : Code) : Code := rtQ (rtQ (rtQ (rtQ (rtQ (rtQ (rtQ (rtQ (rtQ (rtQ (rtQ (c)))))))))))
theorem tailQHC {c L : Code} (h : ∃ a0 a1 a2 a3 a4 a5 a6 a7 a8 a9 a10 : Code, Tryz.f5.body = some (a0.seq (a1.seq (a2.seq (a3.seq (a4.seq (a5.seq (a6.seq (a7.seq (a8.seq (a9.seq (a10.seq (c))))))))))))) (hL : Tryz.f5.body.map rtQHC = some L := by rfl) : c = L := by
  obtain ⟨a0, a1, a2, a3, a4, a5, a6, a7, a8, a9, a10, e⟩ := h
  rw [e] at hL
  exact Option.some.inj hL
set_option maxHeartbeats 16000000 in
set_option maxRecDepth 100000 in
theorem honest_last {w wb : World} (HBW : Hid (Below w.heap.size w wb)) (HEB : Hid (QEnv wb)) (bc m kc who : Nat) (ka : Option Addr) (ks : List ByteArray) (vl : Value) (L : List (VoteP × VoteP))
    (HK : Hid (SS wb (.slice ka m kc) ks)) (HCB : Hid (∀ W, Below wb.heap.size wb W → W.cell? ⟨bc, 0, none⟩ = some (.slice ka m kc)))
    (HL : Hid (DS wb vl L)) (HG : Hid (∀ d ∈ L, d.1.car ≠ (who : Int) ∧ d.2.car ≠ (who : Int) ∧ convictsV ks d = true)) (u0 u1 u2 u3 u4 u5 u6 u7 u8 u12 u13 u14 u15 u16 u17 u18 u19 u20 u21 u22 u24 u25 u26 u27 u28 u29 u30 u31 u32 u33 u34 u35 u36 u37 u38 u39 u40 u41 u42 u43 u44 u45 u46 u47 u48 u49 u50 u51 u52 u53 u54 u55 u56 u57 u58 u59 u60 u61 u62 u63 u64 u65 u66 u67 u68 u69 u70 u71 u72 u73 u74 u75 u76 u77 u78 u79 u80 u81 u82 u83 u84 u85 u86 u87 u88 u89 u90 u91 u92 u93 u94 u95 u96 u97 u98 u99 u100 u101 u102 u103 u104 u105 u106 u107 u108 u109 u110 u111 u112 u113 u114 u115 u116 u117 u118 u119 u120 u121 u122 u123 u124 u125 u126 u127 u128 u129 u130 u131 u132 u133 u134 u135 u136 u137 u138 u139 u140 u141 u142 u143 u144 u145 u146 u147 u148 u149 u150 u151 u152 u153 u154 u155 u156 u157 u158 u159 u160 u161 u162 u163 u164 u165 u166 u167 u168 u169 u170 u171 u172 u173 u174 u175 u176 u177 u178 u179 u180 u181 u182 u183 u184 u185 u186 u187 u188 u189 u190 u191 u192 u193 u194 u195 u196 u197 u198 u199 u200 : Value) :
    ∃ c : Code, (∃ a0 a1 a2 a3 a4 a5 a6 a7 a8 a9 a10 : Code, Tryz.f5.body = some (a0.seq (a1.seq (a2.seq (a3.seq (a4.seq (a5.seq (a6.seq (a7.seq (a8.seq (a9.seq (a10.seq (c))))))))))))) ∧ c.wp Tryz.prog (bodyPost Tryz.prog Tryz.f5 fun e w' => e = .returned (.bool true) ∧ Below w.heap.size w w') { tmps := #[u0, u1, u2, u3, u4, u5, u6, u7, u8, .bool true, .pointer (some ⟨bc, 0, none⟩), .int .i64 (who : Int), u12, u13, u14, u15, u16, u17, u18, u19, u20, u21, u22, vl, u24, u25, u26, u27, u28, u29, u30, u31, u32, u33, u34, u35, u36, u37, u38, u39, u40, u41, u42, u43, u44, u45, u46, u47, u48, u49, u50, u51, u52, u53, u54, u55, u56, u57, u58, u59, u60, u61, u62, u63, u64, u65, u66, u67, u68, u69, u70, u71, u72, u73, u74, u75, u76, u77, u78, u79, u80, u81, u82, u83, u84, u85, u86, u87, u88, u89, u90, u91, u92, u93, u94, u95, u96, u97, u98, u99, u100, u101, u102, u103, u104, u105, u106, u107, u108, u109, u110, u111, u112, u113, u114, u115, u116, u117, u118, u119, u120, u121, u122, u123, u124, u125, u126, u127, u128, u129, u130, u131, u132, u133, u134, u135, u136, u137, u138, u139, u140, u141, u142, u143, u144, u145, u146, u147, u148, u149, u150, u151, u152, u153, u154, u155, u156, u157, u158, u159, u160, u161, u162, u163, u164, u165, u166, u167, u168, u169, u170, u171, u172, u173, u174, u175, u176, u177, u178, u179, u180, u181, u182, u183, u184, u185, u186, u187, u188, u189, u190, u191, u192, u193, u194, u195, u196, u197, u198, u199, u200], defers := [] } wb := by
  refine ⟨_, ⟨_, _, _, _, _, _, _, _, _, _, _, rfl⟩, ?_⟩
  obtain ⟨da, dc, rfl, hdl, hdm, hd3⟩ := HL.out.opened
  have HD3 := Lib.hid hd3
  obtain ⟨N, hN⟩ : ∃ N, N = L.length := ⟨_, rfl⟩
  rw [← hN]
  have HN := Lib.hid hN
  rw [← hN] at hdl
  have hN9 : N ≤ 9223372036854775807 := by unfold maxLen at hdm; omega
  clear hN hdm hd3 hdl
  go_wp2
  go_loopw [24] (fun i wr => ∃ k : Nat, k ≤ N ∧ i = .int .i64 k ∧ Hid (Below wb.heap.size wb wr)) (fun i _ => N - (intOf i).toNat)
  case atStart => exact ⟨0, by omega, rfl, Lib.hid (Below.refl _ _)⟩
  case round =>
    obtain ⟨k, hk, rfl, hB⟩ := hrel
    by_cases hlt : k < N
    · have tk : (k : Int) < (N : Int) := by omega
      have tk0 : (0 : Int) ≤ (k : Int) := by omega
      obtain ⟨d, ed⟩ : ∃ d, L[k]? = some d := ⟨_, List.getElem?_eq_getElem (by rw [← HN.out]; exact hlt)⟩
      obtain ⟨db, do1, rfl, hdb, hdat⟩ := HD3.out k d ed
      obtain ⟨hn1, hn2, hcv⟩ := HG.out d (List.mem_of_getElem? ed)
      have HCV := Lib.hid (qconvicts_w HEB.out HK.out d true hcv)
      have HDA := Lib.hid hdat
      obtain ⟨⟨dcar, dnum, dstp, dv, dl⟩, gcar, gnum, gstp, gv, gl⟩ := d
      simp only at hn1 hn2
      have hb1 : (dcar == (who : Int)) = false := by simp [hn1]
      have hb2 : (gcar == (who : Int)) = false := by simp [hn2]
      simp only [dagg] at HCV
      clear ed hdat hcv
      have HC := Lib.hid (fun W (hW : Below wr.heap.size wr W) => And.intro (HDA.out.keep (q_next hB.out hW) hdb) (HCB.out W (q_next hB.out hW)))
      have HCV2 := Lib.hid (fun W (hW : Below wr.heap.size wr W) => HCV.out W (q_next hB.out hW))
      go_upto_region 33 with fail
      refine wp_region_noPanic ?_
      refine wp_region_lexB [.q 0, .q 1, .q 2, .q 3, .q 4, .q 5, .q 6, .q 7, .q 8, .q 9, .q 10, .q 11, .q 12, .q 13, .q 14, .q 15, .q 16, .q 17, .q 18, .q 19, .q 20, .q 21, .q 22, .q 23, .b 24, .q 25, .q 26] (by kernel_rfl) (by kernel_rfl) (fun _ _ _ _ h => h) ?_
      iterate 24 (refine wpFl_qL (v := ?_) rfl (Or.inl ⟨by rfl, ?_⟩) ?_; rotate_left; (focus (intro w' hSw; (try dsimp only [OldKept] at hSw); obtain ⟨⟨⟨d0, d1, d2, d3, d4⟩, f0, f1, f2, f3, f4⟩, c0⟩ := HC.out w' hSw; go_simp; (try with_reducible rfl); done)); simp only [Act.put, List.setIfInBounds_toArray, List.set_cons_zero, List.set_cons_succ])
      refine wpFl_bL rfl (fun waa hnaa hsaa K hK => ?_)
      go_simp
      go_at_call 26
      (with_reducible refine (HCV2.out _ hsaa).mono ?_)
      rintro e wba ⟨rfl, hba⟩
      have HBF := Lib.hid (q_next hsaa hba)
      refine hK.out _ _ (q_next hsaa hba) (Keeps.below hba) ?_
      clear hK K hnaa hsaa
      iterate 2 (refine wpFl_qL (v := ?_) rfl (Or.inl ⟨by rfl, ?_⟩) ?_; rotate_left; (focus (intro w' hSw; (try dsimp only [OldKept] at hSw); go_simp; (try with_reducible rfl); done)); simp only [Act.put, List.setIfInBounds_toArray, List.set_cons_zero, List.set_cons_succ])
      refine wpFl_nil ?_
      refine NoPanic.normal ?_
      go_wp2
      go_roundw
      case rel => exact ⟨k + 1, by omega, by go_num, Lib.hid (q_next hB.out HBF.out)⟩
      case measure => simp [intOf]; omega
    · have tk : ¬ (k : Int) < (N : Int) := by omega
      go_wp2
      go_ret
      exact ⟨rfl, HBW.out.trans (hB.out.mono HBW.out.size)⟩
end Go.Proofs.YtggdcnjaofflbaaGreatDoor
