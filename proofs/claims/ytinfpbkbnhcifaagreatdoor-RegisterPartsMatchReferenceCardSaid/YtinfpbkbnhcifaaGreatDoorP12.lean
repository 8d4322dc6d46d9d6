/- The tail of the walk of RegisterPartsMatchReference: the lists of parts. The conditions: what the lists hold. -/
import Derived.Test.YtinfpbkbnhcifaaGreatDoorP11
namespace Go.Proofs.YtinfpbkbnhcifaaGreatDoor
open Go.RowKit Go.BigFrame

set_option maxHeartbeats 16000000 in
set_option maxRecDepth 100000 in
theorem parts_tail {w w40 : World} {ls : List Dat} (key S : ByteArray) {lb lo n lc : Nat} (u0 u1 u2 u3 u4 u5 u6 u7 u8 u10 u11 u12 u13 u14 u15 u16 u17 u18 u19 u20 u22 u23 u25 u26 u27 u28 u29 u30 u31 u32 u33 u34 u35 u36 u37 u38 u39 u40 u42 u43 u44 u45 u46 u47 u48 u49 u50 u51 u52 u53 u54 u55 u56 u57 u58 u59 u60 u61 u62 u63 u64 u65 u66 u67 u68 u69 u70 u71 u72 u73 u74 u75 u76 u77 u78 u79 u80 u81 u82 u83 u84 u85 u86 u87 u88 u89 u90 u91 u92 u93 u94 u95 u96 u97 u98 u99 u100 u101 u102 u103 u104 u105 u106 u107 u108 u109 u110 u111 u112 u113 u114 u115 u116 u117 u118 u119 u120 u121 u122 u123 u124 u125 u126 u127 u128 u129 u130 u131 u132 u133 u134 u135 u136 u137 u138 u139 u140 u141 u142 u143 u144 u145 u146 u147 u148 u149 u150 u151 u152 u153 u154 u155 u156 u157 u158 u159 u160 u161 u162 u163 u164 u165 u166 u167 u168 u169 u170 u171 u172 u173 u174 u175 u176 u177 u178 u179 u180 u181 u182 u183 u184 u185 u186 u187 u188 u189 u190 u191 u192 u193 u194 u195 u196 u197 u198 u199 u200 u201 u202 u203 u204 u205 u206 u207 u208 u209 u210 u211 u212 u213 u214 u215 u216 u217 u218 u219 u220 u221 u222 u223 u224 u225 u226 u227 u228 u229 u230 u231 u232 u233 u234 u235 u236 u237 u238 u239 u240 u241 u242 u243 u244 u245 u246 u247 u248 u249 u250 u251 u252 u253 u254 u255 u256 u257 u258 u259 u260 u261 u262 u263 u264 u265 u266 u267 u268 u269 u270 u271 u272 u273 u274 u275 u276 u277 u278 u279 u280 u281 u282 u283 u284 u285 u286 u287 u288 u289 u290 u291 u292 u293 u294 u295 u296 u297 u298 u299 u300 u301 u302 u303 u304 u305 u306 u307 u308 u309 u310 u311 u312 u313 u314 u315 u316 u317 u318 u319 u320 u321 u322 u323 u324 u325 u326 u327 u328 u329 u330 u331 u332 u333 u334 u335 u336 u337 u338 u339 u340 u341 u342 : Value) (HK32 : Hid (key.size = 32)) (hS33 : S.size ≤ 33) (K40 : Hid (Know w w40 ls)) (hn5 : n ≤ 5)
    (HLS : Hid (∀ j : Nat, j < n → ∃ (a : Option Addr) (m c : Nat) (zs : List (PartP × Value)), FitP zs ∧ m = zs.length ∧ (∀ W', Below w40.heap.size w40 W' → W'.cell? ⟨lb, lo + j, none⟩ = some (.slice a m c)) ∧ PS w40 (.slice a m c) zs)) :
    ∃ c : Code, (∃ a0 a1 a2 a3 a4 a5 a6 a7 a8 a9 a10 a11 : Code, Tryz.f3.body = some (a0.seq (a1.seq (a2.seq (a3.seq (a4.seq (a5.seq (a6.seq (a7.seq (a8.seq (a9.seq (a10.seq (a11.seq (c)))))))))))))) ∧ c.wp Tryz.prog (bodyPost Tryz.prog Tryz.f3 fun e w' => e = .returned (.bool true) ∧ Below w.heap.size w w') { tmps := #[u0, u1, u2, u3, u4, u5, u6, u7, u8, .string S, u10, u11, u12, u13, u14, u15, u16, u17, u18, u19, u20, .bool true, u22, u23, .string key, u25, u26, u27, u28, u29, u30, u31, u32, u33, u34, u35, u36, u37, u38, u39, u40, .slice (some ⟨lb, lo, none⟩) n lc, u42, u43, u44, u45, u46, u47, u48, u49, u50, u51, u52, u53, u54, u55, u56, u57, u58, u59, u60, u61, u62, u63, u64, u65, u66, u67, u68, u69, u70, u71, u72, u73, u74, u75, u76, u77, u78, u79, u80, u81, u82, u83, u84, u85, u86, u87, u88, u89, u90, u91, u92, u93, u94, u95, u96, u97, u98, u99, u100, u101, u102, u103, u104, u105, u106, u107, u108, u109, u110, u111, u112, u113, u114, u115, u116, u117, u118, u119, u120, u121, u122, u123, u124, u125, u126, u127, u128, u129, u130, u131, u132, u133, u134, u135, u136, u137, u138, u139, u140, u141, u142, u143, u144, u145, u146, u147, u148, u149, u150, u151, u152, u153, u154, u155, u156, u157, u158, u159, u160, u161, u162, u163, u164, u165, u166, u167, u168, u169, u170, u171, u172, u173, u174, u175, u176, u177, u178, u179, u180, u181, u182, u183, u184, u185, u186, u187, u188, u189, u190, u191, u192, u193, u194, u195, u196, u197, u198, u199, u200, u201, u202, u203, u204, u205, u206, u207, u208, u209, u210, u211, u212, u213, u214, u215, u216, u217, u218, u219, u220, u221, u222, u223, u224, u225, u226, u227, u228, u229, u230, u231, u232, u233, u234, u235, u236, u237, u238, u239, u240, u241, u242, u243, u244, u245, u246, u247, u248, u249, u250, u251, u252, u253, u254, u255, u256, u257, u258, u259, u260, u261, u262, u263, u264, u265, u266, u267, u268, u269, u270, u271, u272, u273, u274, u275, u276, u277, u278, u279, u280, u281, u282, u283, u284, u285, u286, u287, u288, u289, u290, u291, u292, u293, u294, u295, u296, u297, u298, u299, u300, u301, u302, u303, u304, u305, u306, u307, u308, u309, u310, u311, u312, u313, u314, u315, u316, u317, u318, u319, u320, u321, u322, u323, u324, u325, u326, u327, u328, u329, u330, u331, u332, u333, u334, u335, u336, u337, u338, u339, u340, u341, u342], defers := [] } w40 := by
  refine ⟨_, ⟨_, _, _, _, _, _, _, _, _, _, _, _, rfl⟩, ?_⟩
  have HB0 : Hid (Below w40.heap.size w40 w40) := Lib.hid (Below.refl _ _)
  go_upto_block 8 with fail
  go_wp2
  go_loopw [232] (fun i wr => ∃ p : Nat, p ≤ n ∧ i = .int .i64 p ∧ Hid (Below w40.heap.size w40 wr)) (fun i _ => n - (intOf i).toNat)
  case atStart => exact ⟨0, by omega, rfl, HB0⟩
  case round =>
    clear HB0
    obtain ⟨p, hp, rfl, hB⟩ := hrel
    by_cases hlp : p < n
    · obtain ⟨a, m, c, zs, hfp, hm, hcell, hps⟩ := HLS.out p hlp
      have c0 := hcell wr hB.out
      obtain ⟨a', cap', ev, l1, l2, l3⟩ := hps.opened
      obtain rfl : a = a' := by injection ev
      have hm1000 : m ≤ 1000 := by rw [hm]; exact hfp.1
      have H3 := Lib.hid l3
      have HFP := Lib.hid hfp
      have HM := Lib.hid hm
      have HPS := Lib.hid hps
      have tp : (p : Int) < (n : Int) := by omega
      have tp0 : (0 : Int) ≤ (p : Int) := by omega
      clear hfp hm hcell hps ev l1 l2 l3
      go_upto_block 10 with fail
      clear c0
      go_wp2
      go_loopw [47] (fun i wr => ∃ q : Nat, q ≤ m ∧ i = .int .i64 q ∧ Hid (Below w40.heap.size w40 wr)) (fun i _ => m - (intOf i).toNat)
      case atStart => exact ⟨0, by omega, rfl, hB⟩
      case round =>
        clear hB
        obtain ⟨q, hq, rfl, hB⟩ := hrel
        by_cases hlq : q < m
        · obtain ⟨z, ez⟩ : ∃ z, zs[q]? = some z := ⟨_, List.getElem?_eq_getElem (by rw [← HM.out]; exact hlq)⟩
          obtain ⟨b, off, rfl, hb, hat⟩ := H3.out q z ez
          have HAT := Lib.hid (fun W (hW : Below w40.heap.size w40 W) => hat.keep hW hb)
          have HFZ : Hid (FitOne z.1) := Lib.hid (HFP.out.2 z (List.mem_of_getElem? ez))
          have HIZ := Lib.hid (HPS.out.2 z (List.mem_of_getElem? ez))
          obtain ⟨ia, il, ic, hiv⟩ := HIZ.out.form
          obtain ⟨⟨⟨c1, c2, c3, c4⟩, cits⟩, cv⟩ := z
          simp only at hiv HIZ
          subst hiv
          unfold PAt at HAT
          simp only at HAT
          have tq : (q : Int) < (m : Int) := by omega
          have tq0 : (0 : Int) ≤ (q : Int) := by omega
          clear hat ez
          go_upto_block 12 with fail
          go_wp2
          go_loopw [48] (fun i wr => ∃ k : Nat, k ≤ m ∧ i = .int .i64 k ∧ Hid (Below w40.heap.size w40 wr)) (fun i _ => m - (intOf i).toNat)
          case atStart => exact ⟨0, by omega, rfl, hB⟩
          case round =>
            clear hB
            obtain ⟨k, hk, rfl, hB⟩ := hrel
            have HW := Lib.hid (fun W (hW : Below wr.heap.size wr W) => below_next hB.out hW)
            by_cases hlk : k < m
            · obtain ⟨z', ez'⟩ : ∃ z, zs[k]? = some z := ⟨_, List.getElem?_eq_getElem (by rw [← HM.out]; exact hlk)⟩
              obtain ⟨b', off', eb, hb', hat'⟩ := H3.out k z' ez'
              cases eb
              have HL := Lib.hid (fun W (hW : Below wr.heap.size wr W) => And.intro (HAT.out W (HW.out W hW)) (hat'.keep (HW.out W hW) hb'))
              have hfz' : FitOne z'.1 := HFP.out.2 z' (List.mem_of_getElem? ez')
              have hiz' := HPS.out.2 z' (List.mem_of_getElem? ez')
              obtain ⟨ia', il', ic', hiv'⟩ := hiz'.form
              obtain ⟨⟨⟨d1, d2, d3, d4⟩, dits⟩, dv⟩ := z'
              simp only at hiv' hiz'
              subst hiv'
              unfold PAt at HL
              simp only at HL
              obtain ⟨bb, hc1, hc2⟩ := cvt_both K40.out key (by rw [HK32.out]; omega) ⟨⟨c1, c2, c3, c4⟩, cits⟩ ⟨⟨d1, d2, d3, d4⟩, dits⟩ HFZ.out hfz' HIZ.out hiz'
              have HC1 := Lib.hid hc1
              have HC2 := Lib.hid hc2
              have tk : (k : Int) < (m : Int) := by omega
              have tk0 : (0 : Int) ≤ (k : Int) := by omega
              clear hat' ez' hfz' hiz' hc1 hc2
              go_upto_region 49 with fail
              refine wp_region_noPanic ?_
              refine wp_region_lexB [.q 0, .q 1, .q 2, .q 3, .q 4, .q 5, .q 6, .q 7, .q 8, .q 10, .q 11, .q 12, .q 13, .q 14, .q 15, .q 16, .q 17, .q 18, .b 9, .b 19, .q 20] (by as_aux_lemma => kernel_rfl) (by as_aux_lemma => kernel_rfl) (fun _ _ _ _ h => h) ?_
              iterate 18 (refine wpFl_qL (v := ?_) rfl (Or.inl ⟨by rfl, ?_⟩) ?_; rotate_left; (focus (intro w' hSw; (try dsimp only [OldKept] at hSw); obtain ⟨⟨e0, e1, e2, e3, e4⟩, f0, f1, f2, f3, f4⟩ := HL.out w' hSw; go_simp; (try with_reducible rfl); done)); simp only [Act.put, List.setIfInBounds_toArray, List.set_cons_zero, List.set_cons_succ])
              refine wpFl_bL rfl (fun wa1 hna1 hsa1 K hK => ?_)
              go_simp
              go_at_call 22
              (with_reducible refine (HC1.out _ (HW.out _ hsa1)).mono ?_)
              rintro e wb1 ⟨rfl, hb1⟩
              refine hK.out _ _ (below_next hsa1 hb1) (Keeps.below hb1) ?_
              clear hK K hna1 hsa1 hb1
              refine wpFl_bL rfl (fun wa2 hna2 hsa2 K hK => ?_)
              go_simp
              go_at_call 23
              (with_reducible refine (HC2.out _ (HW.out _ hsa2)).mono ?_)
              rintro e wb2 ⟨rfl, hb2⟩
              have HBL := Lib.hid (below_next hsa2 hb2)
              refine hK.out _ _ (below_next hsa2 hb2) (Keeps.below hb2) ?_
              clear hK K hna2 hsa2 hb2
              refine wpFl_qL (v := .bool false) rfl (Or.inl ⟨by rfl, ?_⟩) ?_
              focus (intro w' hSw; cases bb <;> go_simp; done)
              simp only [Act.put, List.setIfInBounds_toArray, List.set_cons_zero, List.set_cons_succ]
              refine wpFl_nil ?_
              refine NoPanic.normal ?_
              have HBN := Lib.hid (HW.out _ HBL.out)
              go_wp2
              go_roundw
              case rel => exact ⟨k + 1, by omega, by go_num, HBN⟩
              case measure => simp [intOf]; omega
            · have tk : ¬ (k : Int) < (m : Int) := by omega
              have HL1 := Lib.hid (fun W (hW : Below wr.heap.size wr W) => HAT.out W (HW.out W hW))
              obtain ⟨b1, hk1, hk2⟩ := chk_both K40.out key (by rw [HK32.out]; omega) ⟨⟨c1, c2, c3, c4⟩, cits⟩ HFZ.out HIZ.out
              obtain ⟨b2, hk3, hk4⟩ := chk_both K40.out S (by omega) ⟨⟨c1, c2, c3, c4⟩, cits⟩ HFZ.out HIZ.out
              have HC1 := Lib.hid hk1
              have HC2 := Lib.hid hk2
              have HC3 := Lib.hid hk3
              have HC4 := Lib.hid hk4
              clear hk1 hk2 hk3 hk4
              go_upto_region 51 with fail
              refine wp_region_noPanic ?_
              refine wp_region_lexB [.q 0, .q 1, .q 2, .q 3, .q 4, .q 6, .q 7, .q 8, .q 9, .q 10, .b 5, .b 11, .q 12, .q 13, .q 14, .q 15, .q 16, .q 17, .q 18, .q 20, .q 21, .q 22, .q 23, .q 24, .b 19, .b 25, .q 26, .q 27] (by as_aux_lemma => kernel_rfl) (by as_aux_lemma => kernel_rfl) (fun _ _ _ _ h => h) ?_
              iterate 10 (refine wpFl_qL (v := ?_) rfl (Or.inl ⟨by rfl, ?_⟩) ?_; rotate_left; (focus (intro w' hSw; (try dsimp only [OldKept] at hSw); obtain ⟨e0, e1, e2, e3, e4⟩ := HL1.out w' hSw; go_simp; (try with_reducible rfl); done)); simp only [Act.put, List.setIfInBounds_toArray, List.set_cons_zero, List.set_cons_succ])
              refine wpFl_bL rfl (fun wa1 hna1 hsa1 K hK => ?_)
              go_simp
              go_at_call 24
              (with_reducible refine (HC1.out _ (HW.out _ hsa1)).mono ?_)
              rintro e wb1 ⟨rfl, hb1⟩
              refine hK.out _ _ (below_next hsa1 hb1) (Keeps.below hb1) ?_
              clear hK K hna1 hsa1 hb1
              refine wpFl_bL rfl (fun wa2 hna2 hsa2 K hK => ?_)
              go_simp
              go_at_call 25
              (with_reducible refine (HC2.out _ (HW.out _ hsa2)).mono ?_)
              rintro e wb2 ⟨rfl, hb2⟩
              refine hK.out _ _ (below_next hsa2 hb2) (Keeps.below hb2) ?_
              clear hK K hna2 hsa2 hb2
              refine wpFl_qL (v := .bool false) rfl (Or.inl ⟨by rfl, ?_⟩) ?_
              focus (intro w' hSw; cases b1 <;> go_simp; done)
              simp only [Act.put, List.setIfInBounds_toArray, List.set_cons_zero, List.set_cons_succ]
              refine wpFl_qL (v := .bool false) rfl (Or.inl ⟨by rfl, ?_⟩) ?_
              focus (intro w' hSw; go_simp; done)
              simp only [Act.put, List.setIfInBounds_toArray, List.set_cons_zero, List.set_cons_succ]
              iterate 10 (refine wpFl_qL (v := ?_) rfl (Or.inl ⟨by rfl, ?_⟩) ?_; rotate_left; (focus (intro w' hSw; (try dsimp only [OldKept] at hSw); obtain ⟨e0, e1, e2, e3, e4⟩ := HL1.out w' hSw; go_simp; (try with_reducible rfl); done)); simp only [Act.put, List.setIfInBounds_toArray, List.set_cons_zero, List.set_cons_succ])
              refine wpFl_bL rfl (fun wa3 hna3 hsa3 K hK => ?_)
              go_simp
              go_at_call 24
              (with_reducible refine (HC3.out _ (HW.out _ hsa3)).mono ?_)
              rintro e wb3 ⟨rfl, hb3⟩
              refine hK.out _ _ (below_next hsa3 hb3) (Keeps.below hb3) ?_
              clear hK K hna3 hsa3 hb3
              refine wpFl_bL rfl (fun wa4 hna4 hsa4 K hK => ?_)
              go_simp
              go_at_call 25
              (with_reducible refine (HC4.out _ (HW.out _ hsa4)).mono ?_)
              rintro e wb4 ⟨rfl, hb4⟩
              have HBL := Lib.hid (below_next hsa4 hb4)
              refine hK.out _ _ (below_next hsa4 hb4) (Keeps.below hb4) ?_
              clear hK K hna4 hsa4 hb4
              refine wpFl_qL (v := .bool false) rfl (Or.inl ⟨by rfl, ?_⟩) ?_
              focus (intro w' hSw; cases b2 <;> go_simp; done)
              simp only [Act.put, List.setIfInBounds_toArray, List.set_cons_zero, List.set_cons_succ]
              refine wpFl_qL (v := .bool false) rfl (Or.inl ⟨by rfl, ?_⟩) ?_
              focus (intro w' hSw; go_simp; done)
              simp only [Act.put, List.setIfInBounds_toArray, List.set_cons_zero, List.set_cons_succ]
              refine wpFl_nil ?_
              refine NoPanic.normal ?_
              have HBN := Lib.hid (HW.out _ HBL.out)
              go_wp2
              go_roundw
              case rel => exact ⟨q + 1, by omega, by go_num, HBN⟩
              case measure => simp [intOf]; omega
        · have tq : ¬ (q : Int) < (m : Int) := by omega
          go_upto_block 14 with fail
          have HY47 : Hid ((wr.alloc (.cells #[.string S, .string key] 9)).heap[wr.heap.size]? = some (.cells #[.string S, .string key] 9 (0, 0))) := Lib.hid (heap_alloc_new wr _)
          have HB47 : Hid (Below w40.heap.size w40 (wr.alloc (.cells #[.string S, .string key] 9))) := Lib.hid (below_next hB.out ((Below.refl _ _).alloc (Nat.le_refl _) _))
          obtain ⟨w47, hw47⟩ : ∃ W, W = wr.alloc (.cells #[.string S, .string key] 9) := ⟨_, rfl⟩
          rw [← hw47] at HY47 HB47 ⊢
          generalize wr.heap.size = kb at *
          clear hB hw47
          have HKC := Lib.hid (keys_at S key hS33 (by rw [HK32.out]; omega) kb)
          have HB0 : Hid (Below w47.heap.size w47 w47) := Lib.hid (Below.refl _ _)
          go_wp2
          go_loopw [301] (fun i wr => ∃ j : Nat, j ≤ 2 ∧ i = .int .i64 j ∧ Hid (Below w47.heap.size w47 wr)) (fun i _ => 2 - (intOf i).toNat)
          case atStart => exact ⟨0, by omega, rfl, HB0⟩
          case round =>
            clear HB0
            obtain ⟨j, hj, rfl, hB⟩ := hrel
            by_cases hlj : j < 2
            · obtain ⟨kk, hkk, hkc⟩ := HKC.out j hlj
              have kc := hkc wr (kept_block HY47.out hB.out)
              obtain ⟨⟨jl, ji, jk⟩, jer, hj1, hj2⟩ := jn_both K40.out kk (by omega) HPS.out HFP.out
              unfold JoinIs at hj1 hj2
              simp only at hj1 hj2
              obtain ⟨jn, hjn⟩ : ∃ jn, jn = jl.length := ⟨_, rfl⟩
              rw [← hjn] at hj1 hj2
              have HJ1 := Lib.hid hj1
              have HJ2 := Lib.hid hj2
              have tj : (j : Int) < 2 := by omega
              have tj0 : (0 : Int) ≤ (j : Int) := by omega
              have HWr := Lib.hid (below_next HB47.out hB.out)
              clear hj1 hj2 hkc hjn
              go_wp2_with fail
              refine (HJ1.out wr HWr.out).mono ?_
              rintro e w56 ⟨ja, jc, rfl, hji, hjb⟩
              have HI56 := Lib.hid hji
              have HB56 := Lib.hid hjb
              clear hji hjb kc
              go_wp2_with fail
              refine (HJ2.out w56 (below_next HWr.out HB56.out)).mono ?_
              rintro e w57 ⟨ja', jc', rfl, hji, hjb⟩
              have HI57 := Lib.hid hji
              have HJ57 := Lib.hid (IT.below HI56.out hjb)
              have HB57 := Lib.hid (below_next HB56.out hjb)
              clear hji hjb
              go_wp2_with fail
              refine (items_self HJ57.out HI57.out).mono ?_
              rintro e w58 ⟨rfl, hb58⟩
              have HB58 := Lib.hid (below_next hB.out (below_next HB57.out hb58))
              clear hb58
              go_wp2
              go_roundw
              case rel => exact ⟨j + 1, by omega, by go_num, HB58⟩
              case measure => simp [intOf]; omega
            · have tj : ¬ (j : Int) < 2 := by omega
              obtain rfl : j = 2 := by omega
              have HBN := Lib.hid (below_next HB47.out hB.out)
              go_wp2
              go_roundw
              case rel => exact ⟨p + 1, by omega, by go_num, HBN⟩
              case measure => simp [intOf]; omega
    · have tp : ¬ (p : Int) < (n : Int) := by omega
      have HF := Lib.hid (K40.out.step hB.out).below
      go_wp2
      go_ret
      exact ⟨rfl, HF.out⟩
end Go.Proofs.YtinfpbkbnhcifaaGreatDoor
