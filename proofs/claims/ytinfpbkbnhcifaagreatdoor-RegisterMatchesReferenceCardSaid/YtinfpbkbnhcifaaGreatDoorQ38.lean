/- The tail of the walk of RegisterMatchesReference: the heads and the proofs. The conditions: what the rows hold. -/
import Derived.Test.YtinfpbkbnhcifaaGreatDoorQ37
namespace Go.Proofs.YtinfpbkbnhcifaaGreatDoor
open Go.RowKit Go.BigFrame

def rt : Code → Code
  | .seq _ b => b
  | c => c
set_option maxHeartbeats 16000000 in
set_option maxRecDepth 100000 in
theorem match_tail {w w38 : World} {ls : List Dat} (nn how : Int) (key S : ByteArray) {hb ho pb po hc pc : Nat} (u0 u1 u2 u3 u4 u5 u6 u10 u11 u12 u13 u14 u15 u16 u17 u18 u19 u20 u22 u23 u27 u28 u29 u30 u31 u32 u33 u34 u35 u36 u37 u38 u39 u40 u41 u42 u43 u44 u45 u46 u47 u48 u49 u50 u51 u52 u53 u54 u55 u56 u57 u58 u59 u60 u61 u62 u63 u64 u65 u66 u67 u68 u69 u70 u71 u72 u73 u74 u75 u76 u77 u78 u79 u80 u81 u82 u83 u84 u85 u86 u87 u88 u89 u90 u91 u92 u93 u94 u95 u96 u97 u98 u99 u100 u101 u102 u103 u104 u105 u106 u107 u108 u109 u110 u111 u112 u113 u114 u115 u116 u117 u118 u119 u120 u121 u122 u123 u124 u125 u126 u127 u128 u129 u130 u131 u132 u133 u134 u135 u136 u137 u138 u139 u140 u141 u142 u143 u144 u145 u146 u147 u148 u149 u150 u151 u152 u153 u154 u155 u156 u157 u158 u159 u160 u161 u162 u163 u164 u165 u166 u167 u168 u169 u170 u171 u172 u173 u174 u175 u176 u177 u178 u179 u180 u181 u182 u183 u184 u185 u186 u187 u188 u189 u190 u191 u192 u193 u194 u195 u196 u197 u198 u199 u200 u201 u202 u203 u204 u205 u206 u207 u208 u209 u210 u211 u212 u213 u214 u215 u216 u217 u218 u219 u220 u221 u222 u223 u224 u225 u226 u227 u228 u229 u230 u231 u232 u233 u234 u235 u236 u237 u238 u239 u240 u241 u242 u243 u244 u245 u246 u247 u248 u249 u250 u251 u252 u253 u254 u255 u256 u257 u258 u259 u260 u261 u262 u263 u264 u265 u266 u267 u268 u269 u270 u271 u272 u273 u274 u275 u276 u277 u278 u279 u280 u281 u282 u283 u284 u285 u286 u287 u288 u289 u290 u291 u292 u293 u294 u295 u296 u297 u298 u299 u300 u301 u302 u303 u304 u305 u306 u307 u308 u309 u310 u311 u312 u313 u314 u315 u316 u317 u318 u319 u320 u321 u322 u323 : Value) (HK32 : Hid (key.size = 32)) (hS33 : S.size ≤ 33) (HIH : Hid (I64 how)) (HIN : Hid (I64 nn)) (K38 : Hid (Know w w38 ls))
    (HHD : Hid (∀ k : Nat, k < 27 → ∃ c1 c2 c3 c4, HFit ⟨c1, c2, c3, c4⟩ ∧ ∀ W', Below w38.heap.size w38 W' → W'.cell? ⟨hb, ho + k * 4, none⟩ = some (.int .i64 c1) ∧ W'.cell? ⟨hb, ho + k * 4 + 1, none⟩ = some (.int .i64 c2) ∧ W'.cell? ⟨hb, ho + k * 4 + 2, none⟩ = some (.string c3) ∧ W'.cell? ⟨hb, ho + k * 4 + 3, none⟩ = some (.string c4)))
    (HPR : Hid (∀ k : Nat, k < 9 → ∃ (zs : List ByteArray) (pa : Option Addr) (pn pc : Nat), PFit zs ∧ pn = zs.length ∧ (∀ W', Below w38.heap.size w38 W' → W'.cell? ⟨pb, po + k, none⟩ = some (.slice pa pn pc)) ∧ ∀ W', Below w38.heap.size w38 W' → SS W' (.slice pa pn pc) zs)) :
    ∃ c : Code, (∃ a0 a1 a2 a3 a4 a5 a6 a7 a8 a9 a10 : Code, Tryz.f10.body = some (a0.seq (a1.seq (a2.seq (a3.seq (a4.seq (a5.seq (a6.seq (a7.seq (a8.seq (a9.seq (a10.seq (c))))))))))))) ∧ c.wp Tryz.prog (bodyPost Tryz.prog Tryz.f10 fun e w' => e = .returned (.bool true) ∧ Below w.heap.size w w') { tmps := #[u0, u1, u2, u3, u4, u5, u6, .int .i64 nn, .string S, .int .i64 how, u10, u11, u12, u13, u14, u15, u16, u17, u18, u19, u20, .bool true, u22, u23, .string key, .slice (some ⟨hb, ho, none⟩) 27 hc, .slice (some ⟨pb, po, none⟩) 9 pc, u27, u28, u29, u30, u31, u32, u33, u34, u35, u36, u37, u38, u39, u40, u41, u42, u43, u44, u45, u46, u47, u48, u49, u50, u51, u52, u53, u54, u55, u56, u57, u58, u59, u60, u61, u62, u63, u64, u65, u66, u67, u68, u69, u70, u71, u72, u73, u74, u75, u76, u77, u78, u79, u80, u81, u82, u83, u84, u85, u86, u87, u88, u89, u90, u91, u92, u93, u94, u95, u96, u97, u98, u99, u100, u101, u102, u103, u104, u105, u106, u107, u108, u109, u110, u111, u112, u113, u114, u115, u116, u117, u118, u119, u120, u121, u122, u123, u124, u125, u126, u127, u128, u129, u130, u131, u132, u133, u134, u135, u136, u137, u138, u139, u140, u141, u142, u143, u144, u145, u146, u147, u148, u149, u150, u151, u152, u153, u154, u155, u156, u157, u158, u159, u160, u161, u162, u163, u164, u165, u166, u167, u168, u169, u170, u171, u172, u173, u174, u175, u176, u177, u178, u179, u180, u181, u182, u183, u184, u185, u186, u187, u188, u189, u190, u191, u192, u193, u194, u195, u196, u197, u198, u199, u200, u201, u202, u203, u204, u205, u206, u207, u208, u209, u210, u211, u212, u213, u214, u215, u216, u217, u218, u219, u220, u221, u222, u223, u224, u225, u226, u227, u228, u229, u230, u231, u232, u233, u234, u235, u236, u237, u238, u239, u240, u241, u242, u243, u244, u245, u246, u247, u248, u249, u250, u251, u252, u253, u254, u255, u256, u257, u258, u259, u260, u261, u262, u263, u264, u265, u266, u267, u268, u269, u270, u271, u272, u273, u274, u275, u276, u277, u278, u279, u280, u281, u282, u283, u284, u285, u286, u287, u288, u289, u290, u291, u292, u293, u294, u295, u296, u297, u298, u299, u300, u301, u302, u303, u304, u305, u306, u307, u308, u309, u310, u311, u312, u313, u314, u315, u316, u317, u318, u319, u320, u321, u322, u323], defers := [] } w38 := by
  refine ⟨_, ⟨_, _, _, _, _, _, _, _, _, _, _, rfl⟩, ?_⟩
  have HP4 := Lib.hid (fun W => lpick_any how 4 W HIH.out (by omega) (by omega))
  have HK4 := Lib.hid (pickI_range how (n := 4) (by omega))
  have HP3 := Lib.hid (fun W => lpick_any how 3 W HIH.out (by omega) (by omega))
  obtain ⟨p30, p31⟩ := pickI_range how (n := 3) (by omega)
  obtain ⟨t3, ht3⟩ := Int.eq_ofNat_of_zero_le p30
  rw [ht3] at HP3 p31
  have ht32 : t3 < 3 := by omega
  clear ht3 p30 p31
  generalize pickI how 4 = k4 at *
  have HB38 : Hid (Below w38.heap.size w38 w38) := Lib.hid (Below.refl _ _)
  go_upto_block 6 with fail
  go_wp2
  go_loopw [47] (fun i wr => ∃ k : Nat, k ≤ 27 ∧ i = .int .i64 k ∧ Hid (Below w38.heap.size w38 wr)) (fun i _ => 27 - (intOf i).toNat)
  case atStart => exact ⟨0, by omega, rfl, HB38⟩
  case round =>
    clear HB38
    obtain ⟨k, hk, rfl, hB⟩ := hrel
    by_cases hlk : k < 27
    · obtain ⟨h1, h2, h3, h4, hf, hcell⟩ := HHD.out k hlk
      obtain ⟨z1, z2, z3, z4, C, hfz, hbt⟩ := bent_head h1 h2 h3 h4 hf k4 nn HK4.out HIN.out
      have HHF := Lib.hid hf
      have HZF := Lib.hid hfz
      have HBT := Lib.hid hbt
      have HC := Lib.hid (fun W (hW : Below wr.heap.size wr W) => hcell W (below_next hB.out hW))
      have HCELL := Lib.hid hcell
      have tk : (k : Int) < 27 := by omega
      have tk0 : (0 : Int) ≤ (k : Int) := by omega
      clear hf hfz hbt hcell
      go_upto_region 42 with fail
      refine wp_region_noPanic ?_
      refine wp_region_lexB [.q 0, .q 1, .q 2, .q 3, .q 4, .q 5, .q 7, .an 12, .b 6, .b 8, .q 9, .q 10, .q 11, .co 12, .b 13, .q 14] (by as_aux_lemma => kernel_rfl) (by as_aux_lemma => kernel_rfl) (fun _ _ _ _ h => h) ?_
      refine wpFl_qL (v := ?_) rfl (Or.inl ⟨by rfl, ?_⟩) ?_
      rotate_left
      focus (intro w' hSw; (try dsimp only [OldKept] at hSw); obtain ⟨c0, c1, c2, c3⟩ := HC.out w' hSw; go_simp; (try with_reducible rfl); done)
      simp only [Act.put, List.setIfInBounds_toArray, List.set_cons_zero, List.set_cons_succ]
      refine wpFl_qL (v := ?_) rfl (Or.inl ⟨by rfl, ?_⟩) ?_
      rotate_left
      focus (intro w' hSw; (try dsimp only [OldKept] at hSw); obtain ⟨c0, c1, c2, c3⟩ := HC.out w' hSw; go_simp; (try with_reducible rfl); done)
      simp only [Act.put, List.setIfInBounds_toArray, List.set_cons_zero, List.set_cons_succ]
      refine wpFl_qL (v := ?_) rfl (Or.inl ⟨by rfl, ?_⟩) ?_
      rotate_left
      focus (intro w' hSw; (try dsimp only [OldKept] at hSw); obtain ⟨c0, c1, c2, c3⟩ := HC.out w' hSw; go_simp; (try with_reducible rfl); done)
      simp only [Act.put, List.setIfInBounds_toArray, List.set_cons_zero, List.set_cons_succ]
      refine wpFl_qL (v := ?_) rfl (Or.inl ⟨by rfl, ?_⟩) ?_
      rotate_left
      focus (intro w' hSw; (try dsimp only [OldKept] at hSw); obtain ⟨c0, c1, c2, c3⟩ := HC.out w' hSw; go_simp; (try with_reducible rfl); done)
      simp only [Act.put, List.setIfInBounds_toArray, List.set_cons_zero, List.set_cons_succ]
      refine wpFl_qL (v := ?_) rfl (Or.inl ⟨by rfl, ?_⟩) ?_
      rotate_left
      focus (intro w' hSw; (try dsimp only [OldKept] at hSw); obtain ⟨c0, c1, c2, c3⟩ := HC.out w' hSw; go_simp; (try with_reducible rfl); done)
      simp only [Act.put, List.setIfInBounds_toArray, List.set_cons_zero, List.set_cons_succ]
      refine wpFl_qL (v := ?_) rfl (Or.inl ⟨by rfl, ?_⟩) ?_
      rotate_left
      focus (intro w' hSw; (try dsimp only [OldKept] at hSw); obtain ⟨c0, c1, c2, c3⟩ := HC.out w' hSw; go_simp; (try with_reducible rfl); done)
      simp only [Act.put, List.setIfInBounds_toArray, List.set_cons_zero, List.set_cons_succ]
      refine wpFl_qL (v := ?_) rfl (Or.inl ⟨by rfl, ?_⟩) ?_
      rotate_left
      focus (intro w' hSw; (try dsimp only [OldKept] at hSw); obtain ⟨c0, c1, c2, c3⟩ := HC.out w' hSw; go_simp; (try with_reducible rfl); done)
      simp only [Act.put, List.setIfInBounds_toArray, List.set_cons_zero, List.set_cons_succ]
      refine wpFl_anL rfl (.cells #[.int .i64 0, .int .i64 0, .string ⟨#[]⟩, .string ⟨#[]⟩, .slice none 0 0] 38 (0, 0)) (fun n => .pointer (some ⟨n, 0, none⟩)) ⟨by rfl, fun w' => ?_⟩ ?_
      focus (go_simp; done)
      refine wpFl_bL rfl (fun w39 hn39 hs39 K hK => ?_)
      go_simp
      go_at_call 16
      (with_reducible refine (HP4.out _).mono ?_)
      rintro e w' ⟨rfl, hw'⟩
      replace hw' := hw'.symm
      subst hw'
      refine hK.out _ _ hs39 (Keeps.below (Below.refl _ _)) ?_
      clear hK K hn39 hs39
      refine wpFl_bL rfl (fun w40 hn40 hs40 K hK => ?_)
      go_simp
      go_at_call 21
      (with_reducible refine (HBT.out _).mono ?_)
      rintro e w41 ⟨ia, il, ic, rfl, hb41⟩
      refine hK.out _ _ (below_next hs40 hb41) (Keeps.below hb41) ?_
      clear hK K hn40 hs40 hb41 HBT
      refine wpFl_qL (v := ?_) rfl (Or.inl ⟨by rfl, ?_⟩) ?_
      rotate_left
      focus (intro w' hSw; (try dsimp only [OldKept] at hSw); go_simp; (try with_reducible rfl); done)
      simp only [Act.put, List.setIfInBounds_toArray, List.set_cons_zero, List.set_cons_succ]
      refine wpFl_qL (v := ?_) rfl (Or.inl ⟨by rfl, ?_⟩) ?_
      rotate_left
      focus (intro w' hSw; (try dsimp only [OldKept] at hSw); go_simp; (try with_reducible rfl); done)
      simp only [Act.put, List.setIfInBounds_toArray, List.set_cons_zero, List.set_cons_succ]
      refine wpFl_qL (v := ?_) rfl (Or.inl ⟨by rfl, ?_⟩) ?_
      rotate_left
      focus (intro w' hSw; (try dsimp only [OldKept] at hSw); go_simp; (try with_reducible rfl); done)
      simp only [Act.put, List.setIfInBounds_toArray, List.set_cons_zero, List.set_cons_succ]
      refine wpFl_coL rfl (.cells #[.int .i64 0, .int .i64 0, .string ⟨#[]⟩, .string ⟨#[]⟩, .slice none 0 0] 38 (0, 0)) (fun n => .pointer (some ⟨n, 0, none⟩)) (by rfl) (N' := []) (by rfl) (fun zb w42 hn_w42 hs_w42 hb_zb hz_zb => ?_)
      simp only [Act.put, List.setIfInBounds_toArray, List.set_cons_zero, List.set_cons_succ]
      refine wpFl_bL rfl (fun w43 hn43 hs43 K hK => ?_)
      have HZ43 := Lib.hid (kept_block hz_zb hn43)
      obtain ⟨z0', z1', z2', z3', z4'⟩ := pfive HZ43.out
      have zf : ∀ j, w43.frozen? ⟨zb, j, none⟩ = false := fun j => by unfold World.frozen?; rw [HZ43.out]; simp
      go_simp
      refine hK.out _ _ (five_below hs43 hb_zb _ _ _ _ _) Keeps.nil ?_
      clear hK K
      have HB44 := Lib.hid (below_next hB.out (five_below hs43 hb_zb (.int .i64 z1) (.int .i64 z2) (.string z3) (.string z4) (.slice ia il ic)))
      have HZ44 := Lib.hid (five_heap HZ43.out (.int .i64 z1) (.int .i64 z2) (.string z3) (.string z4) (.slice ia il ic))
      generalize (((((w43.setCell ⟨zb, 0, none⟩ (.int .i64 z1)).setCell ⟨zb, 1, none⟩ (.int .i64 z2)).setCell ⟨zb, 2, none⟩ (.string z3)).setCell ⟨zb, 3, none⟩ (.string z4)).setCell ⟨zb, 4, none⟩ (.slice ia il ic)) = w44 at *
      clear z0' z1' z2' z3' z4' zf HZ43 hn43 hs43 hb_zb hz_zb hn_w42 hs_w42 HC hB
      refine wpFl_qL (v := ?_) rfl (Or.inl ⟨by rfl, ?_⟩) ?_
      rotate_left
      focus (intro w' hSw; (try dsimp only [OldKept] at hSw); go_simp; (try with_reducible rfl); done)
      simp only [Act.put, List.setIfInBounds_toArray, List.set_cons_zero, List.set_cons_succ]
      refine wpFl_nil ?_
      refine NoPanic.normal ?_
      have HC : Hid (∀ W, Below w44.heap.size w44 W → (W.cell? ⟨hb, ho + k * 4, none⟩ = some (.int .i64 h1) ∧ W.cell? ⟨hb, ho + k * 4 + 1, none⟩ = some (.int .i64 h2) ∧ W.cell? ⟨hb, ho + k * 4 + 2, none⟩ = some (.string h3) ∧ W.cell? ⟨hb, ho + k * 4 + 3, none⟩ = some (.string h4)) ∧ (W.cell? ⟨zb, 0, none⟩ = some (.int .i64 z1) ∧ W.cell? ⟨zb, 1, none⟩ = some (.int .i64 z2) ∧ W.cell? ⟨zb, 2, none⟩ = some (.string z3) ∧ W.cell? ⟨zb, 3, none⟩ = some (.string z4) ∧ W.cell? ⟨zb, 4, none⟩ = some (.slice ia il ic))) := Lib.hid (fun W hW => ⟨HCELL.out W (below_next HB44.out hW), pfive (kept_block HZ44.out hW)⟩)
      go_upto_region 43 with fail
      refine wp_region_noPanic ?_
      refine wp_region_lexB [.q 0, .q 1, .q 2, .q 3, .q 4, .q 5, .q 8, .an 6, .co 6, .q 7] (by as_aux_lemma => kernel_rfl) (by as_aux_lemma => kernel_rfl) (fun _ _ _ _ h => h) ?_
      refine wpFl_qL (v := ?_) rfl (Or.inl ⟨by rfl, ?_⟩) ?_
      rotate_left
      focus (intro w' hSw; (try dsimp only [OldKept] at hSw); obtain ⟨⟨c0, c1, c2, c3⟩, d0, d1, d2, d3, d4⟩ := HC.out w' hSw; go_simp; (try with_reducible rfl); done)
      simp only [Act.put, List.setIfInBounds_toArray, List.set_cons_zero, List.set_cons_succ]
      refine wpFl_qL (v := ?_) rfl (Or.inl ⟨by rfl, ?_⟩) ?_
      rotate_left
      focus (intro w' hSw; (try dsimp only [OldKept] at hSw); obtain ⟨⟨c0, c1, c2, c3⟩, d0, d1, d2, d3, d4⟩ := HC.out w' hSw; go_simp; (try with_reducible rfl); done)
      simp only [Act.put, List.setIfInBounds_toArray, List.set_cons_zero, List.set_cons_succ]
      refine wpFl_qL (v := ?_) rfl (Or.inl ⟨by rfl, ?_⟩) ?_
      rotate_left
      focus (intro w' hSw; (try dsimp only [OldKept] at hSw); obtain ⟨⟨c0, c1, c2, c3⟩, d0, d1, d2, d3, d4⟩ := HC.out w' hSw; go_simp; (try with_reducible rfl); done)
      simp only [Act.put, List.setIfInBounds_toArray, List.set_cons_zero, List.set_cons_succ]
      refine wpFl_qL (v := ?_) rfl (Or.inl ⟨by rfl, ?_⟩) ?_
      rotate_left
      focus (intro w' hSw; (try dsimp only [OldKept] at hSw); obtain ⟨⟨c0, c1, c2, c3⟩, d0, d1, d2, d3, d4⟩ := HC.out w' hSw; go_simp; (try with_reducible rfl); done)
      simp only [Act.put, List.setIfInBounds_toArray, List.set_cons_zero, List.set_cons_succ]
      refine wpFl_qL (v := ?_) rfl (Or.inl ⟨by rfl, ?_⟩) ?_
      rotate_left
      focus (intro w' hSw; (try dsimp only [OldKept] at hSw); obtain ⟨⟨c0, c1, c2, c3⟩, d0, d1, d2, d3, d4⟩ := HC.out w' hSw; go_simp; (try with_reducible rfl); done)
      simp only [Act.put, List.setIfInBounds_toArray, List.set_cons_zero, List.set_cons_succ]
      refine wpFl_qL (v := ?_) rfl (Or.inl ⟨by rfl, ?_⟩) ?_
      rotate_left
      focus (intro w' hSw; (try dsimp only [OldKept] at hSw); obtain ⟨⟨c0, c1, c2, c3⟩, d0, d1, d2, d3, d4⟩ := HC.out w' hSw; go_simp; (try with_reducible rfl); done)
      simp only [Act.put, List.setIfInBounds_toArray, List.set_cons_zero, List.set_cons_succ]
      refine wpFl_qL (v := ?_) rfl (Or.inl ⟨by rfl, ?_⟩) ?_
      rotate_left
      focus (intro w' hSw; (try dsimp only [OldKept] at hSw); obtain ⟨⟨c0, c1, c2, c3⟩, d0, d1, d2, d3, d4⟩ := HC.out w' hSw; go_simp; (try with_reducible rfl); done)
      simp only [Act.put, List.setIfInBounds_toArray, List.set_cons_zero, List.set_cons_succ]
      refine wpFl_anL rfl (.cells #[.int .i64 h1, .int .i64 h2, .string h3, .string h4, .int .i64 z1, .int .i64 z2, .string z3, .string z4] 35 (0, 0)) (fun n => .slice (some ⟨n, 0, none⟩) 2 2) ⟨by rfl, fun w' => ?_⟩ ?_
      focus (go_simp; done)
      refine wpFl_coL rfl (.cells #[.int .i64 h1, .int .i64 h2, .string h3, .string h4, .int .i64 z1, .int .i64 z2, .string z3, .string z4] 35 (0, 0)) (fun n => .slice (some ⟨n, 0, none⟩) 2 2) (by rfl) (N' := []) (by rfl) (fun tb w45 hn_w45 hs_w45 hb_tb hz_tb => ?_)
      simp only [Act.put, List.setIfInBounds_toArray, List.set_cons_zero, List.set_cons_succ]
      have HB45 := Lib.hid (below_next HB44.out hs_w45)
      have HT45 := Lib.hid hz_tb
      clear hn_w45 hs_w45 hb_tb hz_tb HC HZ44 HB44
      refine wpFl_qL (v := ?_) rfl (Or.inl ⟨by rfl, ?_⟩) ?_
      rotate_left
      focus (intro w' hSw; (try dsimp only [OldKept] at hSw); go_simp; (try with_reducible rfl); done)
      simp only [Act.put, List.setIfInBounds_toArray, List.set_cons_zero, List.set_cons_succ]
      refine wpFl_nil ?_
      refine NoPanic.normal ?_
      have HH2 := Lib.hid (heads_at h1 h2 h3 h4 z1 z2 z3 z4 HHF.out HZF.out tb)
      have HB0 : Hid (Below w45.heap.size w45 w45) := Lib.hid (Below.refl _ _)
      go_upto_block 8 with fail
      go_wp2
      go_loopw [251] (fun i wr => ∃ q : Nat, q ≤ 2 ∧ i = .int .i64 q ∧ Hid (Below w45.heap.size w45 wr)) (fun i _ => 2 - (intOf i).toNat)
      case atStart => exact ⟨0, by omega, rfl, HB0⟩
      case round =>
        clear HB0
        obtain ⟨q, hq, rfl, hB⟩ := hrel
        by_cases hlq : q < 2
        · obtain ⟨g1, g2, g3, g4, hgf, hgc⟩ := HH2.out q hlq
          obtain ⟨c0, c1, c2, c3⟩ := hgc wr (kept_block HT45.out hB.out)
          have HGF := Lib.hid hgf
          have tq : (q : Int) < 2 := by omega
          have tq0 : (0 : Int) ≤ (q : Int) := by omega
          clear hgf hgc
          go_upto_region 46 with fail
          have HX46 : Hid ((wr.alloc (.cells #[.int .i64 g1, .int .i64 g2, .string g3, .string g4] 35)).heap[wr.heap.size]? = some (.cells #[.int .i64 g1, .int .i64 g2, .string g3, .string g4] 35 (0, 0))) := Lib.hid (heap_alloc_new wr _)
          have HB46 : Hid (Below w45.heap.size w45 (wr.alloc (.cells #[.int .i64 g1, .int .i64 g2, .string g3, .string g4] 35))) := Lib.hid (below_next hB.out ((Below.refl _ _).alloc (Nat.le_refl _) _))
          obtain ⟨w46, hw46⟩ : ∃ W, W = wr.alloc (.cells #[.int .i64 g1, .int .i64 g2, .string g3, .string g4] 35) := ⟨_, rfl⟩
          rw [← hw46] at HX46 HB46 ⊢
          generalize wr.heap.size = xb at *
          clear c0 c1 c2 c3 hB hw46
          go_upto_block 10 with fail
          have HY47 : Hid ((w46.alloc (.cells #[.string S, .string key] 9)).heap[w46.heap.size]? = some (.cells #[.string S, .string key] 9 (0, 0))) := Lib.hid (heap_alloc_new w46 _)
          have HX47 := Lib.hid (kept_block HX46.out ((Below.refl _ _).alloc (Nat.le_refl _) (.cells #[.string S, .string key] 9)))
          have HB47 : Hid (Below w45.heap.size w45 (w46.alloc (.cells #[.string S, .string key] 9))) := Lib.hid (below_next HB46.out ((Below.refl _ _).alloc (Nat.le_refl _) _))
          obtain ⟨w47, hw47⟩ : ∃ W, W = w46.alloc (.cells #[.string S, .string key] 9) := ⟨_, rfl⟩
          rw [← hw47] at HY47 HX47 HB47 ⊢
          generalize w46.heap.size = kb at *
          clear HX46 HB46 hw47
          have HKC := Lib.hid (keys_at S key hS33 (by rw [HK32.out]; omega) kb)
          have HB0 : Hid (Below w47.heap.size w47 w47) := Lib.hid (Below.refl _ _)
          go_wp2
          go_loopw [259] (fun i wr => ∃ j : Nat, j ≤ 2 ∧ i = .int .i64 j ∧ Hid (Below w47.heap.size w47 wr)) (fun i _ => 2 - (intOf i).toNat)
          case atStart => exact ⟨0, by omega, rfl, HB0⟩
          case round =>
            clear HB0
            obtain ⟨j, hj, rfl, hB⟩ := hrel
            by_cases hlj : j < 2
            · obtain ⟨kk, hkk, hkc⟩ := HKC.out j hlj
              have kc := hkc wr (kept_block HY47.out hB.out)
              obtain ⟨b, hg1, hg2⟩ := gen_both K38.out kk (by omega) g1 g2 g3 g4 HGF.out
              have HG1 := Lib.hid hg1
              have HG2 := Lib.hid hg2
              have tj : (j : Int) < 2 := by omega
              have tj0 : (0 : Int) ≤ (j : Int) := by omega
              have HW : Hid (∀ W, Below wr.heap.size wr W → Below w38.heap.size w38 W) := Lib.hid (fun W hW => below_next HB45.out (below_next HB47.out (below_next hB.out hW)))
              have HC := Lib.hid (fun W (hW : Below wr.heap.size wr W) => four_cells (kept_block HX47.out (below_next hB.out hW)))
              clear hg1 hg2 hkc
              go_upto_region 49 with fail
              clear kc
              refine wp_region_noPanic ?_
              refine wp_region_lexB [.q 0, .q 1, .q 3, .q 4, .b 2, .b 5, .q 6] (by as_aux_lemma => kernel_rfl) (by as_aux_lemma => kernel_rfl) (fun _ _ _ _ h => h) ?_
              refine wpFl_qL (v := ?_) rfl (Or.inl ⟨by rfl, ?_⟩) ?_
              rotate_left
              focus (intro w' hSw; (try dsimp only [OldKept] at hSw); obtain ⟨c0, c1, c2, c3⟩ := HC.out w' hSw; go_simp; (try with_reducible rfl); done)
              simp only [Act.put, List.setIfInBounds_toArray, List.set_cons_zero, List.set_cons_succ]
              refine wpFl_qL (v := ?_) rfl (Or.inl ⟨by rfl, ?_⟩) ?_
              rotate_left
              focus (intro w' hSw; (try dsimp only [OldKept] at hSw); obtain ⟨c0, c1, c2, c3⟩ := HC.out w' hSw; go_simp; (try with_reducible rfl); done)
              simp only [Act.put, List.setIfInBounds_toArray, List.set_cons_zero, List.set_cons_succ]
              refine wpFl_qL (v := ?_) rfl (Or.inl ⟨by rfl, ?_⟩) ?_
              rotate_left
              focus (intro w' hSw; (try dsimp only [OldKept] at hSw); obtain ⟨c0, c1, c2, c3⟩ := HC.out w' hSw; go_simp; (try with_reducible rfl); done)
              simp only [Act.put, List.setIfInBounds_toArray, List.set_cons_zero, List.set_cons_succ]
              refine wpFl_qL (v := ?_) rfl (Or.inl ⟨by rfl, ?_⟩) ?_
              rotate_left
              focus (intro w' hSw; (try dsimp only [OldKept] at hSw); obtain ⟨c0, c1, c2, c3⟩ := HC.out w' hSw; go_simp; (try with_reducible rfl); done)
              simp only [Act.put, List.setIfInBounds_toArray, List.set_cons_zero, List.set_cons_succ]
              refine wpFl_bL rfl (fun w48 hn48 hs48 K hK => ?_)
              go_simp
              go_at_call 40
              (with_reducible refine (HG1.out _ (HW.out _ hs48)).mono ?_)
              rintro e w49 ⟨rfl, hb49⟩
              refine hK.out _ _ (below_next hs48 hb49) (Keeps.below hb49) ?_
              clear hK K hn48 hs48 hb49
              refine wpFl_bL rfl (fun w50 hn50 hs50 K hK => ?_)
              go_simp
              go_at_call 49
              (with_reducible refine (HG2.out _ (HW.out _ hs50)).mono ?_)
              rintro e w51 ⟨rfl, hb51⟩
              have HB51 := Lib.hid (below_next hB.out (below_next hs50 hb51))
              refine hK.out _ _ (below_next hs50 hb51) (Keeps.below hb51) ?_
              clear hK K hn50 hs50 hb51
              refine wpFl_qL (v := .bool false) rfl (Or.inl ⟨by rfl, ?_⟩) ?_
              focus (intro w' hSw; cases b <;> go_simp; done)
              simp only [Act.put, List.setIfInBounds_toArray, List.set_cons_zero, List.set_cons_succ]
              refine wpFl_nil ?_
              refine NoPanic.normal ?_
              go_wp2
              go_roundw
              case rel => exact ⟨j + 1, by omega, by go_num, HB51⟩
              case measure => simp [intOf]; omega
            · have tj : ¬ (j : Int) < 2 := by omega
              obtain rfl : j = 2 := by omega
              go_wp2
              go_roundw
              case rel => exact ⟨q + 1, by omega, by go_num, Lib.hid (below_next HB47.out hB.out)⟩
              case measure => simp [intOf]; omega
        · have tq : ¬ (q : Int) < 2 := by omega
          obtain rfl : q = 2 := by omega
          have HB53 := Lib.hid (below_next HB45.out hB.out)
          obtain ⟨w53, hw53⟩ : ∃ W, W = wr := ⟨_, rfl⟩
          rw [← hw53] at HB53 ⊢
          clear hB hw53 wr HH2 HT45 HB45
          go_upto_block 12 with fail
          have HB0 : Hid (Below w53.heap.size w53 w53) := Lib.hid (Below.refl _ _)
          go_wp2
          go_loopw [54] (fun i wr => ∃ q : Nat, q ≤ 9 ∧ i = .int .i64 q ∧ Hid (Below w53.heap.size w53 wr)) (fun i _ => 9 - (intOf i).toNat)
          case atStart => exact ⟨0, by omega, rfl, HB0⟩
          case round =>
            clear HB0
            obtain ⟨q, hq, rfl, hB⟩ := hrel
            by_cases hlq : q < 9
            · obtain ⟨zs', va, vn, vc, hpf, hvn, hpc, hss⟩ := HPR.out q hlq
              obtain ⟨r, hr⟩ : ∃ r, r = (k + 1 + t3) % 27 := ⟨_, rfl⟩
              have hr27 : r < 27 := by rw [hr]; exact Nat.mod_lt _ (by omega)
              obtain ⟨o1, o2, o3, o4, hof, hoc⟩ := HHD.out r hr27
              have HOF := Lib.hid hof
              have f1 : IntKind.i64.wrap ((k : Int) + 1) = (k : Int) + 1 := IntWalk.i64_in _ (by omega)
              have f2 : IntKind.i64.wrap ((k : Int) + 1 + (t3 : Int)) = (k : Int) + 1 + (t3 : Int) := IntWalk.i64_in _ (by omega)
              have hr' : ((k : Int) + 1 + (t3 : Int)) % (27 : Int) = (r : Int) := by omega
              clear hr
              have tr0 : (0 : Int) ≤ (r : Int) := by omega
              have tr : (r : Int) < 27 := by omega
              have tq : (q : Int) < 9 := by omega
              have tq0 : (0 : Int) ≤ (q : Int) := by omega
              obtain ⟨c0, c1, c2, c3⟩ := hoc wr (below_next HB53.out hB.out)
              have HPF := Lib.hid hpf
              have HVN := Lib.hid hvn
              have HPC := Lib.hid hpc
              have HSS := Lib.hid hss
              clear hof hoc hpf hvn hpc hss
              go_upto_region 57 with (go_at_call 16; (with_reducible refine (HP3.out _).mono ?_); rintro e w' ⟨rfl, hw'⟩; replace hw' := hw'.symm; subst hw')
              have HX57 : Hid ((wr.alloc (.cells #[.int .i64 o1, .int .i64 o2, .string o3, .string o4] 35)).heap[wr.heap.size]? = some (.cells #[.int .i64 o1, .int .i64 o2, .string o3, .string o4] 35 (0, 0))) := Lib.hid (heap_alloc_new wr _)
              have HB57 : Hid (Below w53.heap.size w53 (wr.alloc (.cells #[.int .i64 o1, .int .i64 o2, .string o3, .string o4] 35))) := Lib.hid (below_next hB.out ((Below.refl _ _).alloc (Nat.le_refl _) _))
              obtain ⟨w57, hw57⟩ : ∃ W, W = wr.alloc (.cells #[.int .i64 o1, .int .i64 o2, .string o3, .string o4] 35) := ⟨_, rfl⟩
              rw [← hw57] at HX57 HB57 ⊢
              generalize wr.heap.size = xb at *
              clear c0 c1 c2 c3 hB hw57 f1 f2 hr'
              have HW : Hid (∀ W, Below w57.heap.size w57 W → Below w38.heap.size w38 W) := Lib.hid (fun W hW => below_next HB53.out (below_next HB57.out hW))
              have HSP : Hid (∀ W, Below w57.heap.size w57 W → Calls Tryz.prog 29 #[.slice va vn vc, .int .i64 how] W fun e w' => ∃ (a : Option Addr) (c : Nat) (ws : List ByteArray), e = .returned (.slice a ws.length c) ∧ SS w' (.slice a ws.length c) ws ∧ ws.length ≤ 1000 ∧ Below W.heap.size W w') := Lib.hid (fun W hW => by
                refine (spoiled_any how HIH.out (HSS.out W (HW.out W hW)) (by have := HPF.out.1; omega) HPF.out.2).mono ?_
                rintro e w' ⟨v', ws, g1, g2, g3, g4, g5⟩
                obtain ⟨a, c, rfl⟩ := g2.form2
                exact ⟨a, c, ws, g1, g2, by have := HPF.out.1; omega, g5⟩)
              have HC := Lib.hid (fun W (hW : Below w57.heap.size w57 W) => HPC.out W (HW.out W hW))
              refine wp_region_noPanic ?_
              refine wp_region_lexB [.q 0, .q 1, .q 2, .q 3, .q 4, .q 5, .q 6, .q 7, .q 8, .q 12, .b 9, .an 10, .co 10, .q 11] (by as_aux_lemma => kernel_rfl) (by as_aux_lemma => kernel_rfl) (fun _ _ _ _ h => h) ?_
              refine wpFl_qL (v := ?_) rfl (Or.inl ⟨by rfl, ?_⟩) ?_
              rotate_left
              focus (intro w' hSw; (try dsimp only [OldKept] at hSw); have c0 := HC.out w' hSw; go_simp; (try with_reducible rfl); done)
              simp only [Act.put, List.setIfInBounds_toArray, List.set_cons_zero, List.set_cons_succ]
              refine wpFl_qL (v := ?_) rfl (Or.inl ⟨by rfl, ?_⟩) ?_
              rotate_left
              focus (intro w' hSw; (try dsimp only [OldKept] at hSw); have c0 := HC.out w' hSw; go_simp; (try with_reducible rfl); done)
              simp only [Act.put, List.setIfInBounds_toArray, List.set_cons_zero, List.set_cons_succ]
              refine wpFl_qL (v := ?_) rfl (Or.inl ⟨by rfl, ?_⟩) ?_
              rotate_left
              focus (intro w' hSw; (try dsimp only [OldKept] at hSw); have c0 := HC.out w' hSw; go_simp; (try with_reducible rfl); done)
              simp only [Act.put, List.setIfInBounds_toArray, List.set_cons_zero, List.set_cons_succ]
              refine wpFl_qL (v := ?_) rfl (Or.inl ⟨by rfl, ?_⟩) ?_
              rotate_left
              focus (intro w' hSw; (try dsimp only [OldKept] at hSw); have c0 := HC.out w' hSw; go_simp; (try with_reducible rfl); done)
              simp only [Act.put, List.setIfInBounds_toArray, List.set_cons_zero, List.set_cons_succ]
              refine wpFl_qL (v := ?_) rfl (Or.inl ⟨by rfl, ?_⟩) ?_
              rotate_left
              focus (intro w' hSw; (try dsimp only [OldKept] at hSw); have c0 := HC.out w' hSw; go_simp; (try with_reducible rfl); done)
              simp only [Act.put, List.setIfInBounds_toArray, List.set_cons_zero, List.set_cons_succ]
              refine wpFl_qL (v := ?_) rfl (Or.inl ⟨by rfl, ?_⟩) ?_
              rotate_left
              focus (intro w' hSw; (try dsimp only [OldKept] at hSw); have c0 := HC.out w' hSw; go_simp; (try with_reducible rfl); done)
              simp only [Act.put, List.setIfInBounds_toArray, List.set_cons_zero, List.set_cons_succ]
              refine wpFl_qL (v := ?_) rfl (Or.inl ⟨by rfl, ?_⟩) ?_
              rotate_left
              focus (intro w' hSw; (try dsimp only [OldKept] at hSw); have c0 := HC.out w' hSw; go_simp; (try with_reducible rfl); done)
              simp only [Act.put, List.setIfInBounds_toArray, List.set_cons_zero, List.set_cons_succ]
              refine wpFl_qL (v := ?_) rfl (Or.inl ⟨by rfl, ?_⟩) ?_
              rotate_left
              focus (intro w' hSw; (try dsimp only [OldKept] at hSw); have c0 := HC.out w' hSw; go_simp; (try with_reducible rfl); done)
              simp only [Act.put, List.setIfInBounds_toArray, List.set_cons_zero, List.set_cons_succ]
              refine wpFl_qL (v := ?_) rfl (Or.inl ⟨by rfl, ?_⟩) ?_
              rotate_left
              focus (intro w' hSw; (try dsimp only [OldKept] at hSw); have c0 := HC.out w' hSw; go_simp; (try with_reducible rfl); done)
              simp only [Act.put, List.setIfInBounds_toArray, List.set_cons_zero, List.set_cons_succ]
              refine wpFl_qL (v := ?_) rfl (Or.inl ⟨by rfl, ?_⟩) ?_
              rotate_left
              focus (intro w' hSw; (try dsimp only [OldKept] at hSw); have c0 := HC.out w' hSw; go_simp; (try with_reducible rfl); done)
              simp only [Act.put, List.setIfInBounds_toArray, List.set_cons_zero, List.set_cons_succ]
              refine wpFl_bL rfl (fun w58 hn58 hs58 K hK => ?_)
              go_simp
              go_at_call 29
              (with_reducible refine (HSP.out _ hs58).mono ?_)
              rintro e w59 ⟨sa, sc, ws, rfl, hs59, hwl, hb59⟩
              have HS59 := Lib.hid hs59
              refine hK.out _ _ (below_next hs58 hb59) (Keeps.below hb59) ?_
              clear hK K hn58 hs58 hb59 hs59 HSP
              obtain ⟨sn, hsn⟩ : ∃ sn, sn = ws.length := ⟨_, rfl⟩
              rw [← hsn] at HS59 ⊢
              clear hsn
              refine wpFl_anL rfl (.cells #[.slice va vn vc, .slice sa sn sc] 24 (0, 0)) (fun n => .slice (some ⟨n, 0, none⟩) 2 2) ⟨by rfl, fun w' => ?_⟩ ?_
              focus (go_simp; done)
              refine wpFl_coL rfl (.cells #[.slice va vn vc, .slice sa sn sc] 24 (0, 0)) (fun n => .slice (some ⟨n, 0, none⟩) 2 2) (by rfl) (N' := []) (by rfl) (fun tb w60 hn_w60 hs_w60 hb_tb hz_tb => ?_)
              simp only [Act.put, List.setIfInBounds_toArray, List.set_cons_zero, List.set_cons_succ]
              have HS60 := Lib.hid (fun W (hW : Below w60.heap.size w60 W) => SS.below HS59.out (below_next hn_w60 hW))
              have HX60 := Lib.hid (kept_block HX57.out hs_w60)
              have HB60 := Lib.hid (HW.out _ hs_w60)
              have HQ60 := Lib.hid (below_next HB57.out hs_w60)
              have HT60 := Lib.hid hz_tb
              clear hn_w60 hs_w60 hb_tb hz_tb HC HW HX57 HB57 HS59
              refine wpFl_qL (v := ?_) rfl (Or.inl ⟨by rfl, ?_⟩) ?_
              rotate_left
              focus (intro w' hSw; (try dsimp only [OldKept] at hSw); go_simp; (try with_reducible rfl); done)
              simp only [Act.put, List.setIfInBounds_toArray, List.set_cons_zero, List.set_cons_succ]
              refine wpFl_nil ?_
              refine NoPanic.normal ?_
              have K60 := Lib.hid (K38.out.step HB60.out)
              have HSZ := Lib.hid (fun W (hW : Below w60.heap.size w60 W) => HSS.out W (below_next HB60.out hW))
              have HPA := Lib.hid (proofs_at va vn vc sa sn sc HSZ.out HS60.out (by have := HPF.out.1; omega) hwl tb)
              have HCK := Lib.hid (fun W (hW : Below w60.heap.size w60 W) => HCELL.out W (below_next HB60.out hW))
              clear HSZ HS60 HPF HVN HPC HSS hwl
              have HB0 : Hid (Below w60.heap.size w60 w60) := Lib.hid (Below.refl _ _)
              go_upto_block 14 with fail
              go_wp2
              go_loopw [301] (fun i wr => ∃ j : Nat, j ≤ 2 ∧ i = .int .i64 j ∧ Hid (Below w60.heap.size w60 wr)) (fun i _ => 2 - (intOf i).toNat)
              case atStart => exact ⟨0, by omega, rfl, HB0⟩
              case round =>
                clear HB0
                obtain ⟨j, hj, rfl, hB⟩ := hrel
                by_cases hlj : j < 2
                · obtain ⟨ea, en, ec, es, hel, hes, hec⟩ := HPA.out j hlj
                  have kc := hec wr (kept_block HT60.out hB.out)
                  obtain ⟨b, he1, he2⟩ := ext_both K60.out key (by rw [HK32.out]; omega) o1 o2 o3 o4 HOF.out h1 h2 h3 h4 HHF.out hes hel
                  have HE1 := Lib.hid he1
                  have HE2 := Lib.hid he2
                  have tj : (j : Int) < 2 := by omega
                  have tj0 : (0 : Int) ≤ (j : Int) := by omega
                  have HC : Hid (∀ W, Below wr.heap.size wr W → (W.cell? ⟨xb, 0, none⟩ = some (.int .i64 o1) ∧ W.cell? ⟨xb, 1, none⟩ = some (.int .i64 o2) ∧ W.cell? ⟨xb, 2, none⟩ = some (.string o3) ∧ W.cell? ⟨xb, 3, none⟩ = some (.string o4)) ∧ (W.cell? ⟨hb, ho + k * 4, none⟩ = some (.int .i64 h1) ∧ W.cell? ⟨hb, ho + k * 4 + 1, none⟩ = some (.int .i64 h2) ∧ W.cell? ⟨hb, ho + k * 4 + 2, none⟩ = some (.string h3) ∧ W.cell? ⟨hb, ho + k * 4 + 3, none⟩ = some (.string h4))) := Lib.hid (fun W hW => ⟨four_cells (kept_block HX60.out (below_next hB.out hW)), HCK.out W (below_next hB.out hW)⟩)
                  clear he1 he2 hec hes hel
                  go_upto_region 60 with fail
                  clear kc
                  refine wp_region_noPanic ?_
                  refine wp_region_lexB [.q 0, .q 1, .q 2, .q 3, .q 4, .q 5, .q 6, .q 8, .q 9, .q 10, .q 11, .q 12, .q 13, .q 14, .b 7, .b 15, .q 16] (by as_aux_lemma => kernel_rfl) (by as_aux_lemma => kernel_rfl) (fun _ _ _ _ h => h) ?_
                  refine wpFl_qL (v := ?_) rfl (Or.inl ⟨by rfl, ?_⟩) ?_
                  rotate_left
                  focus (intro w' hSw; (try dsimp only [OldKept] at hSw); obtain ⟨⟨c0, c1, c2, c3⟩, d0, d1, d2, d3⟩ := HC.out w' hSw; go_simp; (try with_reducible rfl); done)
                  simp only [Act.put, List.setIfInBounds_toArray, List.set_cons_zero, List.set_cons_succ]
                  refine wpFl_qL (v := ?_) rfl (Or.inl ⟨by rfl, ?_⟩) ?_
                  rotate_left
                  focus (intro w' hSw; (try dsimp only [OldKept] at hSw); obtain ⟨⟨c0, c1, c2, c3⟩, d0, d1, d2, d3⟩ := HC.out w' hSw; go_simp; (try with_reducible rfl); done)
                  simp only [Act.put, List.setIfInBounds_toArray, List.set_cons_zero, List.set_cons_succ]
                  refine wpFl_qL (v := ?_) rfl (Or.inl ⟨by rfl, ?_⟩) ?_
                  rotate_left
                  focus (intro w' hSw; (try dsimp only [OldKept] at hSw); obtain ⟨⟨c0, c1, c2, c3⟩, d0, d1, d2, d3⟩ := HC.out w' hSw; go_simp; (try with_reducible rfl); done)
                  simp only [Act.put, List.setIfInBounds_toArray, List.set_cons_zero, List.set_cons_succ]
                  refine wpFl_qL (v := ?_) rfl (Or.inl ⟨by rfl, ?_⟩) ?_
                  rotate_left
                  focus (intro w' hSw; (try dsimp only [OldKept] at hSw); obtain ⟨⟨c0, c1, c2, c3⟩, d0, d1, d2, d3⟩ := HC.out w' hSw; go_simp; (try with_reducible rfl); done)
                  simp only [Act.put, List.setIfInBounds_toArray, List.set_cons_zero, List.set_cons_succ]
                  refine wpFl_qL (v := ?_) rfl (Or.inl ⟨by rfl, ?_⟩) ?_
                  rotate_left
                  focus (intro w' hSw; (try dsimp only [OldKept] at hSw); obtain ⟨⟨c0, c1, c2, c3⟩, d0, d1, d2, d3⟩ := HC.out w' hSw; go_simp; (try with_reducible rfl); done)
                  simp only [Act.put, List.setIfInBounds_toArray, List.set_cons_zero, List.set_cons_succ]
                  refine wpFl_qL (v := ?_) rfl (Or.inl ⟨by rfl, ?_⟩) ?_
                  rotate_left
                  focus (intro w' hSw; (try dsimp only [OldKept] at hSw); obtain ⟨⟨c0, c1, c2, c3⟩, d0, d1, d2, d3⟩ := HC.out w' hSw; go_simp; (try with_reducible rfl); done)
                  simp only [Act.put, List.setIfInBounds_toArray, List.set_cons_zero, List.set_cons_succ]
                  refine wpFl_qL (v := ?_) rfl (Or.inl ⟨by rfl, ?_⟩) ?_
                  rotate_left
                  focus (intro w' hSw; (try dsimp only [OldKept] at hSw); obtain ⟨⟨c0, c1, c2, c3⟩, d0, d1, d2, d3⟩ := HC.out w' hSw; go_simp; (try with_reducible rfl); done)
                  simp only [Act.put, List.setIfInBounds_toArray, List.set_cons_zero, List.set_cons_succ]
                  refine wpFl_qL (v := ?_) rfl (Or.inl ⟨by rfl, ?_⟩) ?_
                  rotate_left
                  focus (intro w' hSw; (try dsimp only [OldKept] at hSw); obtain ⟨⟨c0, c1, c2, c3⟩, d0, d1, d2, d3⟩ := HC.out w' hSw; go_simp; (try with_reducible rfl); done)
                  simp only [Act.put, List.setIfInBounds_toArray, List.set_cons_zero, List.set_cons_succ]
                  refine wpFl_qL (v := ?_) rfl (Or.inl ⟨by rfl, ?_⟩) ?_
                  rotate_left
                  focus (intro w' hSw; (try dsimp only [OldKept] at hSw); obtain ⟨⟨c0, c1, c2, c3⟩, d0, d1, d2, d3⟩ := HC.out w' hSw; go_simp; (try with_reducible rfl); done)
                  simp only [Act.put, List.setIfInBounds_toArray, List.set_cons_zero, List.set_cons_succ]
                  refine wpFl_qL (v := ?_) rfl (Or.inl ⟨by rfl, ?_⟩) ?_
                  rotate_left
                  focus (intro w' hSw; (try dsimp only [OldKept] at hSw); obtain ⟨⟨c0, c1, c2, c3⟩, d0, d1, d2, d3⟩ := HC.out w' hSw; go_simp; (try with_reducible rfl); done)
                  simp only [Act.put, List.setIfInBounds_toArray, List.set_cons_zero, List.set_cons_succ]
                  refine wpFl_qL (v := ?_) rfl (Or.inl ⟨by rfl, ?_⟩) ?_
                  rotate_left
                  focus (intro w' hSw; (try dsimp only [OldKept] at hSw); obtain ⟨⟨c0, c1, c2, c3⟩, d0, d1, d2, d3⟩ := HC.out w' hSw; go_simp; (try with_reducible rfl); done)
                  simp only [Act.put, List.setIfInBounds_toArray, List.set_cons_zero, List.set_cons_succ]
                  refine wpFl_qL (v := ?_) rfl (Or.inl ⟨by rfl, ?_⟩) ?_
                  rotate_left
                  focus (intro w' hSw; (try dsimp only [OldKept] at hSw); obtain ⟨⟨c0, c1, c2, c3⟩, d0, d1, d2, d3⟩ := HC.out w' hSw; go_simp; (try with_reducible rfl); done)
                  simp only [Act.put, List.setIfInBounds_toArray, List.set_cons_zero, List.set_cons_succ]
                  refine wpFl_qL (v := ?_) rfl (Or.inl ⟨by rfl, ?_⟩) ?_
                  rotate_left
                  focus (intro w' hSw; (try dsimp only [OldKept] at hSw); obtain ⟨⟨c0, c1, c2, c3⟩, d0, d1, d2, d3⟩ := HC.out w' hSw; go_simp; (try with_reducible rfl); done)
                  simp only [Act.put, List.setIfInBounds_toArray, List.set_cons_zero, List.set_cons_succ]
                  refine wpFl_qL (v := ?_) rfl (Or.inl ⟨by rfl, ?_⟩) ?_
                  rotate_left
                  focus (intro w' hSw; (try dsimp only [OldKept] at hSw); obtain ⟨⟨c0, c1, c2, c3⟩, d0, d1, d2, d3⟩ := HC.out w' hSw; go_simp; (try with_reducible rfl); done)
                  simp only [Act.put, List.setIfInBounds_toArray, List.set_cons_zero, List.set_cons_succ]
                  refine wpFl_bL rfl (fun w61 hn61 hs61 K hK => ?_)
                  go_simp
                  go_at_call 35
                  (with_reducible refine (HE1.out _ (below_next hB.out hs61)).mono ?_)
                  rintro e w62 ⟨rfl, hb62⟩
                  refine hK.out _ _ (below_next hs61 hb62) (Keeps.below hb62) ?_
                  clear hK K hn61 hs61 hb62
                  refine wpFl_bL rfl (fun w63 hn63 hs63 K hK => ?_)
                  go_simp
                  go_at_call 50
                  (with_reducible refine (HE2.out _ (below_next hB.out hs63)).mono ?_)
                  rintro e w64 ⟨rfl, hb64⟩
                  have HB64 := Lib.hid (below_next hB.out (below_next hs63 hb64))
                  refine hK.out _ _ (below_next hs63 hb64) (Keeps.below hb64) ?_
                  clear hK K hn63 hs63 hb64
                  refine wpFl_qL (v := .bool false) rfl (Or.inl ⟨by rfl, ?_⟩) ?_
                  focus (intro w' hSw; cases b <;> go_simp; done)
                  simp only [Act.put, List.setIfInBounds_toArray, List.set_cons_zero, List.set_cons_succ]
                  refine wpFl_nil ?_
                  refine NoPanic.normal ?_
                  go_wp2
                  go_roundw
                  case rel => exact ⟨j + 1, by omega, by go_num, HB64⟩
                  case measure => simp [intOf]; omega
                · have tj : ¬ (j : Int) < 2 := by omega
                  obtain rfl : j = 2 := by omega
                  go_wp2
                  go_roundw
                  case rel => exact ⟨q + 1, by omega, by go_num, Lib.hid (below_next HQ60.out hB.out)⟩
                  case measure => simp [intOf]; omega
            · have tq : ¬ (q : Int) < 9 := by omega
              obtain rfl : q = 9 := by omega
              go_wp2
              go_roundw
              case rel => exact ⟨k + 1, by omega, by go_num, Lib.hid (below_next HB53.out hB.out)⟩
              case measure => simp [intOf]; omega
    · have tk : ¬ (k : Int) < 27 := by omega
      have HF := Lib.hid (K38.out.step hB.out).below
      go_wp2
      go_ret
      exact ⟨rfl, HF.out⟩
end Go.Proofs.YtinfpbkbnhcifaaGreatDoor
