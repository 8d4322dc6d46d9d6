/- Walk of the law: sane. The conditions: the tables of constants. -/
import Derived.Sort.Walk0
import Derived.Test.YtggdcnjaofflbaaGreatDoorC17
import Derived.Test.YtggdcnjaofflbaaGreatDoorC14
import Derived.Test.YtggdcnjaofflbaaGreatDoorC18
import Derived.Test.YtggdcnjaofflbaaGreatDoorC08
import Derived.Test.YtggdcnjaofflbaaGreatDoorC19
import Derived.Test.YtggdcnjaofflbaaGreatDoorC06
import Derived.Test.YtggdcnjaofflbaaGreatDoorC05
import Derived.Test.YtggdcnjaofflbaaGreatDoorC07
import Derived.Test.YtggdcnjaofflbaaGreatDoorC10
import Derived.Deep.DeepCutAuto
import Derived.Deep.CutBlock
namespace Go.Proofs.YtggdcnjaofflbaaGreatDoor
open Go.RowKit Go.BigFrame

theorem wp_of_eqQ {P : Program} {c L : Code} {Q : Exit → Act → World → Prop} {a : Act} {w : World} (h : c.wp P Q a w) (e : c = L) : L.wp P Q a w := e ▸ h
theorem run_minS {P : Program} {ts : Array TypeId} {t : TypeId} {w : World} (x y : ByteArray) (h : x.toList < y.toList) : (Builtin.min_ ts t #[.string y, .string x]).run P w = .ok (.string x) w := by
  have h1 : Op.bytesLess y.toList x.toList = false := by
    rw [bytesLess_eq]
    exact decide_eq_false (fun h' => u8l_irrefl _ (u8l_trans h h'))
  have h2 : (y.toList == x.toList) = false := by
    rw [Bool.eq_false_iff]
    intro e
    rw [beq_iff_eq] at e
    rw [e] at h
    exact u8l_irrefl _ h
  simp [Builtin.min_, Builtin.min2, Op.stringOp, h1, h2, asBool]
theorem run_maxS {P : Program} {ts : Array TypeId} {t : TypeId} {w : World} (x y : ByteArray) (h : x.toList < y.toList) : (Builtin.max_ ts t #[.string y, .string x]).run P w = .ok (.string y) w := by
  have h1 : Op.bytesLess y.toList x.toList = false := by
    rw [bytesLess_eq]
    exact decide_eq_false (fun h' => u8l_irrefl _ (u8l_trans h h'))
  simp [Builtin.max_, Builtin.max2, Op.stringOp, h1, asBool]
set_option maxHeartbeats 4000000 in
set_option maxRecDepth 100000 in
theorem sane_any {w : World} (heq : QEnv w) : Calls Tryz.prog 11 #[] w fun e w' => e = .returned (.bool true) ∧ Below w.heap.size w w' := by
  have he := heq.env
  have hg := heq.round
  have ht := heq.tab
  have hgt := heq.tabs
  have HMA := Lib.hid (made19_any 0 (by unfold I64; omega) w)
  rw [show madeN 0 = 4 from rfl] at HMA
  have HV0 : Hid (∀ W, Calls Tryz.prog 14 #[.int .i64 0] W fun e w' => e = .returned (.string (valQ 0)) ∧ Below W.heap.size W w') := Lib.hid (fun W => valN_any 0 (by unfold I64; omega) W)
  have HV1 : Hid (∀ W, Calls Tryz.prog 14 #[.int .i64 1] W fun e w' => e = .returned (.string (valQ 1)) ∧ Below W.heap.size W w') := Lib.hid (fun W => valN_any 1 (by unfold I64; omega) W)
  have hlt := val10
  have s0 := valQ_size 0
  have s1 := valQ_size 1
  have hmin := fun (ts : Array TypeId) (t : TypeId) (W : World) => run_minS (P := Tryz.prog) (ts := ts) (t := t) (w := W) _ _ hlt
  have hmax := fun (ts : Array TypeId) (t : TypeId) (W : World) => run_maxS (P := Tryz.prog) (ts := ts) (t := t) (w := W) _ _ hlt
  generalize hy : valQ 0 = y at *
  generalize hx : valQ 1 = x at *
  have HXE := Lib.hid hx.symm
  have HYE := Lib.hid hy.symm
  clear hx hy
  go_enter Tryz.func11, Tryz.ntmps11
  go_upto_region 3 with (go_at_call 12; refine HMA.out.mono ?_; rintro e w1 ⟨kv, rfl, hks, hb1⟩; obtain ⟨ka, kc, hkv, -, -, -⟩ := hks.opened; rw [madeQ_len] at hkv; subst hkv)
  have HKS := Lib.hid hks
  have HB1 := Lib.hid hb1
  clear hks hb1
  obtain ⟨W3, hW3⟩ : ∃ W3, W3 = (w1.alloc (.cells #[.slice ka 4 kc] 31)).alloc (.cells #[.int .i64 55, .int .i64 0] 25) := ⟨_, rfl⟩
  rw [← hW3]
  have HB3 : Hid (Below w.heap.size w W3) := Lib.hid (by rw [hW3]; exact (HB1.out.alloc HB1.out.size _).alloc (by have := HB1.out.size; simp; omega) _)
  have HX1 : Hid (W3.heap[w1.heap.size]? = some (.cells #[.slice ka 4 kc] 31 (0, 0))) := Lib.hid (by rw [hW3]; exact at_past w1 _ _)
  have HX2 : Hid (W3.heap[w1.heap.size + 1]? = some (.cells #[.int .i64 55, .int .i64 0] 25 (0, 0))) := Lib.hid (by rw [hW3]; exact at_second w1 _ _)
  have HKS3 : Hid (SS W3 (.slice ka 4 kc) (madeQ 4)) := Lib.hid (HKS.out.below (by rw [hW3]; exact ((Below.refl _ _).alloc (Nat.le_refl _) _).alloc (by simp) _))
  have HB := Lib.hid (Below.refl W3.heap.size W3)
  obtain ⟨b1, hb1'⟩ : ∃ b1, b1 = w1.heap.size := ⟨_, rfl⟩
  rw [← hb1'] at HX1 HX2 ⊢
  clear hW3 hb1' HKS HB1 HMA
  go_wp2_with (first | (go_at_call 14; (with_reducible refine (HV0.out _).mono ?_); rintro e w2 ⟨rfl, hb2⟩; replace HB := Lib.hid (q_next HB.out hb2); clear hb2) | (go_at_call 14; (with_reducible refine (HV1.out _).mono ?_); rintro e w2 ⟨rfl, hb2⟩; replace HB := Lib.hid (q_next HB.out hb2); clear hb2))
  have HCL : Hid (∀ W, Below w2.heap.size w2 W → W.cell? ⟨b1 + 1, 0, none⟩ = some (.int .i64 55) ∧ W.cell? ⟨b1 + 1, 1, none⟩ = some (.int .i64 0)) := Lib.hid fun W hW =>
    ⟨cell_of_row W _ 0 _ _ _ (((q_next HB.out hW).block _ (Array.getElem?_eq_some_iff.1 HX2.out).1).trans HX2.out), cell_of_row W _ 1 _ _ _ (((q_next HB.out hW).block _ (Array.getElem?_eq_some_iff.1 HX2.out).1).trans HX2.out)⟩
  have HCA : Hid (∀ (i : Nat) (v : ByteArray), i < 256 → ∀ W, Below w2.heap.size w2 W → Calls Tryz.prog 43 #[.int .i64 i, .agg #[.int .i64 55, .int .i64 0], .string v] W fun e w' => e = .returned (vagg (castL i 55 0 v)) ∧ Below W.heap.size W w') := Lib.hid fun i v hi W hW => by
    have hBW := HB3.out.trans ((q_next HB.out hW).mono HB3.out.size)
    exact castL_any i hi 55 0 v W (he.below hBW hg) (Nat.lt_of_lt_of_le hg hBW.size)
  have HC1 := Lib.hid (HCA.out 3 y (by omega))
  have HC2 := Lib.hid (HCA.out 2 x (by omega))
  have HC3 := Lib.hid (HCA.out 1 x (by omega))
  have HC4 := Lib.hid (HCA.out 2 y (by omega))
  have HC5 := Lib.hid (HCA.out 0 x (by omega))
  obtain ⟨v1, hv1⟩ : ∃ v, v = castL 3 55 0 y := ⟨_, rfl⟩
  obtain ⟨v2, hv2⟩ : ∃ v, v = castL 2 55 0 x := ⟨_, rfl⟩
  obtain ⟨v3, hv3⟩ : ∃ v, v = castL 1 55 0 x := ⟨_, rfl⟩
  obtain ⟨v4, hv4⟩ : ∃ v, v = castL 2 55 0 y := ⟨_, rfl⟩
  obtain ⟨v5, hv5⟩ : ∃ v, v = castL 0 55 0 x := ⟨_, rfl⟩
  rw [← hv1] at HC1
  rw [← hv2] at HC2
  rw [← hv3] at HC3
  rw [← hv4] at HC4
  rw [← hv5] at HC5
  obtain ⟨c1, n1, s1', u1, l1⟩ := v1
  obtain ⟨c2, n2, s2', u2, l2⟩ := v2
  obtain ⟨c3, n3, s3', u3, l3⟩ := v3
  obtain ⟨c4, n4, s4', u4, l4⟩ := v4
  obtain ⟨c5, n5, s5', u5, l5⟩ := v5
  unfold vagg at HC1 HC2 HC3 HC4 HC5
  simp only at HC1 HC2 HC3 HC4 HC5
  have HVS := Lib.hid (And.intro hv1 (And.intro hv2 (And.intro hv3 (And.intro hv4 hv5))))
  clear hv1 hv2 hv3 hv4 hv5
  refine wp_region_noPanic ?_
  refine wp_region_lexB [.q 0, .q 1, .q 3, .q 4, .q 6, .q 7, .q 9, .q 10, .q 12, .q 13, .b 2, .b 5, .b 8, .b 11, .b 14, .an 15, .co 15, .q 16] (by kernel_rfl) (by kernel_rfl) (fun _ _ _ _ h => h) ?_
  iterate 10 (refine wpFl_qL (v := ?_) rfl (Or.inl ⟨by rfl, ?_⟩) ?_; rotate_left; (focus (intro w' hSw; (try dsimp only [OldKept] at hSw); obtain ⟨f0, f1⟩ := HCL.out w' hSw; go_simp; (try with_reducible rfl); done)); simp only [Act.put, List.setIfInBounds_toArray, List.set_cons_zero, List.set_cons_succ])
  refine wpFl_bL rfl (fun wa1 hna1 hsa1 K hK => ?_)
  go_simp
  go_at_call 43
  refine (HC1.out wa1 hsa1).mono ?_
  rintro e wb1 ⟨rfl, hb1⟩
  refine hK.out _ _ (q_next hsa1 hb1) (Keeps.below hb1) ?_
  clear hK K hna1 hsa1 hb1
  refine wpFl_bL rfl (fun wa2 hna2 hsa2 K hK => ?_)
  go_simp
  go_at_call 43
  refine (HC2.out wa2 hsa2).mono ?_
  rintro e wb2 ⟨rfl, hb2⟩
  refine hK.out _ _ (q_next hsa2 hb2) (Keeps.below hb2) ?_
  clear hK K hna2 hsa2 hb2
  refine wpFl_bL rfl (fun wa3 hna3 hsa3 K hK => ?_)
  go_simp
  go_at_call 43
  refine (HC3.out wa3 hsa3).mono ?_
  rintro e wb3 ⟨rfl, hb3⟩
  refine hK.out _ _ (q_next hsa3 hb3) (Keeps.below hb3) ?_
  clear hK K hna3 hsa3 hb3
  refine wpFl_bL rfl (fun wa4 hna4 hsa4 K hK => ?_)
  go_simp
  go_at_call 43
  refine (HC4.out wa4 hsa4).mono ?_
  rintro e wb4 ⟨rfl, hb4⟩
  refine hK.out _ _ (q_next hsa4 hb4) (Keeps.below hb4) ?_
  clear hK K hna4 hsa4 hb4
  refine wpFl_bL rfl (fun wa5 hna5 hsa5 K hK => ?_)
  go_simp
  go_at_call 43
  refine (HC5.out wa5 hsa5).mono ?_
  rintro e wb5 ⟨rfl, hb5⟩
  refine hK.out _ _ (q_next hsa5 hb5) (Keeps.below hb5) ?_
  clear hK K hna5 hsa5 hb5
  refine wpFl_anL rfl (.cells #[.int .i64 c1, .int .i64 n1, .int .i64 s1', .string u1, .string l1, .int .i64 c2, .int .i64 n2, .int .i64 s2', .string u2, .string l2, .int .i64 c3, .int .i64 n3, .int .i64 s3', .string u3, .string l3, .int .i64 c4, .int .i64 n4, .int .i64 s4', .string u4, .string l4, .int .i64 c5, .int .i64 n5, .int .i64 s5', .string u5, .string l5] 27 (0, 0)) (fun n => .slice (some ⟨n, 0, none⟩) 5 5) ⟨by rfl, fun w' => ?_⟩ ?_
  focus (go_simp; done)
  refine wpFl_coL rfl (.cells #[.int .i64 c1, .int .i64 n1, .int .i64 s1', .string u1, .string l1, .int .i64 c2, .int .i64 n2, .int .i64 s2', .string u2, .string l2, .int .i64 c3, .int .i64 n3, .int .i64 s3', .string u3, .string l3, .int .i64 c4, .int .i64 n4, .int .i64 s4', .string u4, .string l4, .int .i64 c5, .int .i64 n5, .int .i64 s5', .string u5, .string l5] 27 (0, 0)) (fun n => .slice (some ⟨n, 0, none⟩) 5 5) (by rfl) (N' := []) (by rfl) (fun bp wp hn_wp hs_wp hb_bp hz_bp => ?_)
  simp only [Act.put, List.setIfInBounds_toArray, List.set_cons_zero, List.set_cons_succ]
  refine wpFl_qL (v := ?_) rfl (Or.inl ⟨by rfl, ?_⟩) ?_
  rotate_left
  focus (intro w' hSw; (try dsimp only [OldKept] at hSw); go_simp; (try with_reducible rfl); done)
  simp only [Act.put, List.setIfInBounds_toArray, List.set_cons_zero, List.set_cons_succ]
  refine wpFl_nil ?_
  refine NoPanic.normal ?_
  have hk : validC (madeQ 4) = true := madeQ_valid (.inr (.inl rfl))
  have h4 : (madeQ 4).length = 4 := madeQ_len 4
  have HPOOL : Hid (VS wp (.slice (some ⟨bp, 0, none⟩) 5 5) (poolS (madeQ 4) x y)) := Lib.hid (by
    have h := five_votes (v1 := ⟨c1, n1, s1', u1, l1⟩) (v2 := ⟨c2, n2, s2', u2, l2⟩) (v3 := ⟨c3, n3, s3', u3, l3⟩) (v4 := ⟨c4, n4, s4', u4, l4⟩) (v5 := ⟨c5, n5, s5', u5, l5⟩) hz_bp
    obtain ⟨e1, e2, e3, e4, e5⟩ := HVS.out
    rw [e1, e2, e3, e4, e5, castL_vS 3 (by omega) y s0, castL_vS 2 (by omega) x s1, castL_vS 1 (by omega) x s1, castL_vS 2 (by omega) y s0, castL_vS 0 (by omega) x s1] at h
    exact h)
  have HBP := Lib.hid (HB3.out.trans ((q_next HB.out hs_wp).mono HB3.out.size))
  have HK4 := Lib.hid (HKS3.out.below (q_next HB.out hs_wp))
  have HC6 : Hid (∀ W, Below wp.heap.size wp W → W.cell? ⟨b1, 0, none⟩ = some (.slice ka 4 kc) ∧ W.cell? ⟨b1 + 1, 0, none⟩ = some (.int .i64 55) ∧ W.cell? ⟨b1 + 1, 1, none⟩ = some (.int .i64 0)) := Lib.hid fun W hW =>
    ⟨cell_of_row W _ 0 _ _ _ (((q_next (q_next HB.out hs_wp) hW).block _ (Array.getElem?_eq_some_iff.1 HX1.out).1).trans HX1.out), cell_of_row W _ 0 _ _ _ (((q_next (q_next HB.out hs_wp) hW).block _ (Array.getElem?_eq_some_iff.1 HX2.out).1).trans HX2.out), cell_of_row W _ 1 _ _ _ (((q_next (q_next HB.out hs_wp) hW).block _ (Array.getElem?_eq_some_iff.1 HX2.out).1).trans HX2.out)⟩
  have HPX : Hid (∀ W, Below wp.heap.size wp W → Calls Tryz.prog 34 #[.agg #[.slice ka 4 kc], .agg #[.int .i64 55, .int .i64 0], .string x, .slice (some ⟨bp, 0, none⟩) 5 5] W (ProveIs W (some [vS (madeQ 4) x 0, vS (madeQ 4) x 1, vS (madeQ 4) x 2]))) := Lib.hid fun W hW => by
    have hBW := q_next HBP.out hW
    have h := prove_any (HK4.out.below hW) (HPOOL.out.below hW) 55 0 x (by rw [s1]; decide) (he.below hBW hg) (Nat.lt_of_lt_of_le hg hBW.size) (ht.below hBW hgt) (Nat.lt_of_lt_of_le hgt hBW.size)
    rw [s_prove hk h4 s1 s0 hlt] at h
    exact h
  have HPY : Hid (∀ W, Below wp.heap.size wp W → Calls Tryz.prog 34 #[.agg #[.slice ka 4 kc], .agg #[.int .i64 55, .int .i64 0], .string y, .slice (some ⟨bp, 0, none⟩) 5 5] W (ProveIs W none)) := Lib.hid fun W hW => by
    have hBW := q_next HBP.out hW
    have h := prove_any (HK4.out.below hW) (HPOOL.out.below hW) 55 0 y (by rw [s0]; decide) (he.below hBW hg) (Nat.lt_of_lt_of_le hg hBW.size) (ht.below hBW hgt) (Nat.lt_of_lt_of_le hgt hBW.size)
    rw [s_prove_y hk h4 s1 s0 hlt] at h
    exact h
  obtain ⟨f0, f1, f2⟩ := HC6.out wp (Below.refl _ _)
  go_upto_region 7 with (go_at_call 34; refine (HPX.out _ (Below.refl _ _)).mono ?_; rintro e w6 ⟨vp, rfl, hp1, hb6⟩; simp only [Option.isSome_some])
  have HVP := Lib.hid hp1
  have HW6 := Lib.hid hb6
  clear hp1 hb6 f0 f1 f2
  have HDX : Hid (∀ W, Below wp.heap.size wp W → Calls Tryz.prog 44 #[.agg #[.slice ka 4 kc], .agg #[.int .i64 55, .int .i64 0], .slice (some ⟨bp, 0, none⟩) 5 5] W fun e w' => e = .returned (.tuple #[.string x, .bool true]) ∧ Below W.heap.size W w') := Lib.hid fun W hW => by
    have hBW := q_next HBP.out hW
    have h := decided_any (HK4.out.below hW) (HPOOL.out.below hW) 55 0 (by rw [h4]; decide) (he.below hBW hg) (Nat.lt_of_lt_of_le hg hBW.size)
    rw [s_decided hk h4 s1 s0 hlt] at h
    exact h
  have HD1 : Hid (∀ W, Below wp.heap.size wp W → Calls Tryz.prog 44 #[.agg #[.slice ka 4 kc], .agg #[.int .i64 55, .int .i64 1], .slice (some ⟨bp, 0, none⟩) 5 5] W fun e w' => e = .returned (.tuple #[.string ⟨#[]⟩, .bool false]) ∧ Below W.heap.size W w') := Lib.hid fun W hW => by
    have hBW := q_next HBP.out hW
    have h := decided_any (HK4.out.below hW) (HPOOL.out.below hW) 55 1 (by rw [h4]; decide) (he.below hBW hg) (Nat.lt_of_lt_of_le hg hBW.size)
    rw [s_decided1 hk h4 s1 s0 hlt] at h
    exact h
  obtain ⟨f0, f1, f2⟩ := HC6.out w6 HW6.out
  go_upto_region 8 with (go_at_call 34; refine (HPY.out _ HW6.out).mono ?_; rintro e w7 ⟨vq, rfl, hp1, hb7⟩; simp only [Option.isSome_none])
  have HVQ := Lib.hid hp1
  have HW7 := Lib.hid (q_next HW6.out hb7)
  replace HVP := Lib.hid (HVP.out.below hb7)
  clear hp1 hb7 f0 f1 f2
  obtain ⟨f0, f1, f2⟩ := HC6.out w7 HW7.out
  go_upto_region 9 with (go_at_call 44; refine (HDX.out _ HW7.out).mono ?_; rintro e w8 ⟨rfl, hb8⟩)
  have HW8 := Lib.hid (q_next HW7.out hb8)
  replace HVP := Lib.hid (HVP.out.below hb8)
  clear hb8 f0 f1 f2
  obtain ⟨f0, f1, f2⟩ := HC6.out w8 HW8.out
  go_upto_region 10 with (go_at_call 44; refine (HD1.out _ HW8.out).mono ?_; rintro e w9 ⟨rfl, hb9⟩)
  have HW9 := Lib.hid (q_next HW8.out hb9)
  replace HVP := Lib.hid (HVP.out.below hb9)
  clear hb9 f0 f1 f2
  have HKE2 : Hid (∀ W, Calls Tryz.prog 25 #[.int .i64 2] W fun e w' => e = .returned (.string (keyQ 2)) ∧ Below W.heap.size W w') := Lib.hid fun W => keyQ_any 2 (by omega) W
  have HKE0 : Hid (∀ W, Calls Tryz.prog 25 #[.int .i64 0] W fun e w' => e = .returned (.string (keyQ 0)) ∧ Below W.heap.size W w') := Lib.hid fun W => keyQ_any 0 (by omega) W
  have HCN : Hid (∀ W, Below wp.heap.size wp W → Calls Tryz.prog 23 #[.string (keyQ 2), .int .i64 2, .slice (some ⟨bp, 0, none⟩) 5 5, .agg #[.int .i64 55, .int .i64 0], .string y] W fun e w' => e = .returned (.tuple #[.agg #[.int .i64 0, .int .i64 0, .int .i64 0, .string ⟨#[]⟩, .string ⟨#[]⟩], .int .i64 190]) ∧ Below W.heap.size W w') := Lib.hid fun W hW => by
    have hBW := q_next HBP.out hW
    have h := cast_any (keyQ 2) 2 55 0 y (HPOOL.out.below hW) (by rw [keyQ_size]; decide) (he.below hBW hg) (Nat.lt_of_lt_of_le hg hBW.size)
    rw [s_cast_no hk h4 s1 s0 hlt] at h
    exact h
  obtain ⟨vo, hvo⟩ : ∃ v, v = vS (madeQ 4) x 0 := ⟨_, rfl⟩
  have HCO : Hid (∀ W, Below wp.heap.size wp W → Calls Tryz.prog 23 #[.string (keyQ 0), .int .i64 0, .slice (some ⟨bp, 0, none⟩) 5 5, .agg #[.int .i64 55, .int .i64 0], .string x] W fun e w' => e = .returned (.tuple #[vagg vo, .int .i64 0]) ∧ Below W.heap.size W w') := Lib.hid fun W hW => by
    have hBW := q_next HBP.out hW
    have h := cast_any (keyQ 0) 0 55 0 x (HPOOL.out.below hW) (by rw [keyQ_size]; decide) (he.below hBW hg) (Nat.lt_of_lt_of_le hg hBW.size)
    have e0 : keyQ 0 = (madeQ 4).getD 0 ⟨#[]⟩ := (madeQ_get (by omega)).symm
    have hc := s_cast hk h4 s1 s0 hlt 0 x (by omega) s1 (poolS (madeQ 4) x y) (s_own hk h4 s1 s0 hlt) (by rw [← e0]; rfl)
    rw [← e0, ← hvo] at hc
    rw [show ((0 : Nat) : Int) = 0 from rfl] at hc
    rw [hc] at h
    exact h
  obtain ⟨oc, on1, os, ov, ol⟩ := vo
  have HVO := Lib.hid hvo
  clear hvo
  unfold vagg at HCO
  simp only at HCO
  generalize keyQ 2 = key2 at *
  generalize keyQ 0 = key0 at *
  refine wp_region_noPanic ?_
  refine wp_region_lexB [.q 1, .q 2, .q 3, .an 8, .b 0, .b 4, .q 5, .q 6, .q 7, .co 8, .b 9, .q 10] (by kernel_rfl) (by kernel_rfl) (fun _ _ _ _ h => h) ?_
  iterate 3 (refine wpFl_qL (v := ?_) rfl (Or.inl ⟨by rfl, ?_⟩) ?_; rotate_left; (focus (intro w' hSw; (try dsimp only [OldKept] at hSw); obtain ⟨f0, f1, f2⟩ := HC6.out w' (q_next HW9.out hSw); go_simp; (try with_reducible rfl); done)); simp only [Act.put, List.setIfInBounds_toArray, List.set_cons_zero, List.set_cons_succ])
  refine wpFl_anL rfl (.cells #[.int .i64 0, .int .i64 0, .int .i64 0, .string ⟨#[]⟩, .string ⟨#[]⟩] 27 (0, 0)) (fun n => .pointer (some ⟨n, 0, none⟩)) ⟨by rfl, fun w' => ?_⟩ ?_
  focus (go_simp; done)
  refine wpFl_bL rfl (fun waa hnaa hsaa K hK => ?_)
  go_simp
  go_at_call 25
  refine (HKE2.out waa).mono ?_
  rintro e wba ⟨rfl, hba⟩
  refine hK.out _ _ (q_next hsaa hba) (Keeps.below hba) ?_
  clear hK K hnaa hsaa hba
  refine wpFl_bL rfl (fun wca hnca hsca K hK => ?_)
  go_simp
  go_at_call 23
  refine (HCN.out wca (q_next HW9.out hsca)).mono ?_
  rintro e wda ⟨rfl, hba⟩
  refine hK.out _ _ (q_next hsca hba) (Keeps.below hba) ?_
  clear hK K hnca hsca hba
  iterate 3 (refine wpFl_qL (v := ?_) rfl (Or.inl ⟨by rfl, ?_⟩) ?_; rotate_left; (focus (intro w' hSw; (try dsimp only [OldKept] at hSw); go_simp; (try with_reducible rfl); done)); simp only [Act.put, List.setIfInBounds_toArray, List.set_cons_zero, List.set_cons_succ])
  refine wpFl_coL rfl (.cells #[.int .i64 0, .int .i64 0, .int .i64 0, .string ⟨#[]⟩, .string ⟨#[]⟩] 27 (0, 0)) (fun n => .pointer (some ⟨n, 0, none⟩)) (by rfl) (N' := []) (by rfl) (fun bva wea hn_wea hs_wea hb_bva hz_bva => ?_)
  simp only [Act.put, List.setIfInBounds_toArray, List.set_cons_zero, List.set_cons_succ]
  refine wpFl_bL rfl (fun wfa hnfa hsfa K hK => ?_)
  have HZ := Lib.hid ((hnfa.block bva (Array.getElem?_eq_some_iff.1 hz_bva).1).trans hz_bva)
  obtain ⟨z0, z1, z2, z3, z4⟩ := vcellsAt HZ.out
  have zf : ∀ j, wfa.frozen? ⟨bva, j, none⟩ = false := fun j => by unfold World.frozen?; rw [HZ.out]; simp
  go_simp
  refine hK.out _ _ (vfive_below hsfa hb_bva _ _ _ _ _) Keeps.nil ?_
  clear hK K
  have HBXa := Lib.hid (vfive_heap HZ.out (.int .i64 0) (.int .i64 0) (.int .i64 0) (.string ⟨#[]⟩) (.string ⟨#[]⟩))
  have HBw10 := Lib.hid (q_next HW9.out (vfive_below hsfa hb_bva (.int .i64 0) (.int .i64 0) (.int .i64 0) (.string ⟨#[]⟩) (.string ⟨#[]⟩)))
  replace HVP := Lib.hid (HVP.out.below (vfive_below hsfa hb_bva (.int .i64 0) (.int .i64 0) (.int .i64 0) (.string ⟨#[]⟩) (.string ⟨#[]⟩)))
  generalize (((((wfa.setCell ⟨bva, 0, none⟩ (.int .i64 0)).setCell ⟨bva, 1, none⟩ (.int .i64 0)).setCell ⟨bva, 2, none⟩ (.int .i64 0)).setCell ⟨bva, 3, none⟩ (.string ⟨#[]⟩)).setCell ⟨bva, 4, none⟩ (.string ⟨#[]⟩)) = w10 at *
  clear z0 z1 z2 z3 z4 zf HZ hnfa hsfa hb_bva hz_bva hn_wea hs_wea
  refine wpFl_qL (v := ?_) rfl (Or.inl ⟨by rfl, ?_⟩) ?_
  rotate_left
  focus (intro w' hSw; (try dsimp only [OldKept] at hSw); go_simp; (try with_reducible rfl); done)
  simp only [Act.put, List.setIfInBounds_toArray, List.set_cons_zero, List.set_cons_succ]
  refine wpFl_nil ?_
  refine NoPanic.normal ?_
  go_upto_region 11 with fail
  refine wp_region_noPanic ?_
  refine wp_region_lexB [.q 1, .q 2, .q 3, .an 8, .b 0, .b 4, .q 5, .q 6, .q 7, .co 8, .b 9, .q 10] (by kernel_rfl) (by kernel_rfl) (fun _ _ _ _ h => h) ?_
  iterate 3 (refine wpFl_qL (v := ?_) rfl (Or.inl ⟨by rfl, ?_⟩) ?_; rotate_left; (focus (intro w' hSw; (try dsimp only [OldKept] at hSw); obtain ⟨f0, f1, f2⟩ := HC6.out w' (q_next HBw10.out hSw); go_simp; (try with_reducible rfl); done)); simp only [Act.put, List.setIfInBounds_toArray, List.set_cons_zero, List.set_cons_succ])
  refine wpFl_anL rfl (.cells #[.int .i64 0, .int .i64 0, .int .i64 0, .string ⟨#[]⟩, .string ⟨#[]⟩] 27 (0, 0)) (fun n => .pointer (some ⟨n, 0, none⟩)) ⟨by rfl, fun w' => ?_⟩ ?_
  focus (go_simp; done)
  refine wpFl_bL rfl (fun wab hnab hsab K hK => ?_)
  go_simp
  go_at_call 25
  refine (HKE0.out wab).mono ?_
  rintro e wbb ⟨rfl, hbb⟩
  refine hK.out _ _ (q_next hsab hbb) (Keeps.below hbb) ?_
  clear hK K hnab hsab hbb
  refine wpFl_bL rfl (fun wcb hncb hscb K hK => ?_)
  go_simp
  go_at_call 23
  refine (HCO.out wcb (q_next HBw10.out hscb)).mono ?_
  rintro e wdb ⟨rfl, hbb⟩
  refine hK.out _ _ (q_next hscb hbb) (Keeps.below hbb) ?_
  clear hK K hncb hscb hbb
  iterate 3 (refine wpFl_qL (v := ?_) rfl (Or.inl ⟨by rfl, ?_⟩) ?_; rotate_left; (focus (intro w' hSw; (try dsimp only [OldKept] at hSw); go_simp; (try with_reducible rfl); done)); simp only [Act.put, List.setIfInBounds_toArray, List.set_cons_zero, List.set_cons_succ])
  refine wpFl_coL rfl (.cells #[.int .i64 0, .int .i64 0, .int .i64 0, .string ⟨#[]⟩, .string ⟨#[]⟩] 27 (0, 0)) (fun n => .pointer (some ⟨n, 0, none⟩)) (by rfl) (N' := []) (by rfl) (fun bvb web hn_web hs_web hb_bvb hz_bvb => ?_)
  simp only [Act.put, List.setIfInBounds_toArray, List.set_cons_zero, List.set_cons_succ]
  refine wpFl_bL rfl (fun wfb hnfb hsfb K hK => ?_)
  have HZ := Lib.hid ((hnfb.block bvb (Array.getElem?_eq_some_iff.1 hz_bvb).1).trans hz_bvb)
  obtain ⟨z0, z1, z2, z3, z4⟩ := vcellsAt HZ.out
  have zf : ∀ j, wfb.frozen? ⟨bvb, j, none⟩ = false := fun j => by unfold World.frozen?; rw [HZ.out]; simp
  go_simp
  refine hK.out _ _ (vfive_below hsfb hb_bvb _ _ _ _ _) Keeps.nil ?_
  clear hK K
  have HBXb := Lib.hid (vfive_heap HZ.out (.int .i64 oc) (.int .i64 on1) (.int .i64 os) (.string ov) (.string ol))
  have HBw11 := Lib.hid (q_next HBw10.out (vfive_below hsfb hb_bvb (.int .i64 oc) (.int .i64 on1) (.int .i64 os) (.string ov) (.string ol)))
  replace HVP := Lib.hid (HVP.out.below (vfive_below hsfb hb_bvb (.int .i64 oc) (.int .i64 on1) (.int .i64 os) (.string ov) (.string ol)))
  generalize (((((wfb.setCell ⟨bvb, 0, none⟩ (.int .i64 oc)).setCell ⟨bvb, 1, none⟩ (.int .i64 on1)).setCell ⟨bvb, 2, none⟩ (.int .i64 os)).setCell ⟨bvb, 3, none⟩ (.string ov)).setCell ⟨bvb, 4, none⟩ (.string ol)) = w11 at *
  clear z0 z1 z2 z3 z4 zf HZ hnfb hsfb hb_bvb hz_bvb hn_web hs_web
  refine wpFl_qL (v := ?_) rfl (Or.inl ⟨by rfl, ?_⟩) ?_
  rotate_left
  focus (intro w' hSw; (try dsimp only [OldKept] at hSw); go_simp; (try with_reducible rfl); done)
  simp only [Act.put, List.setIfInBounds_toArray, List.set_cons_zero, List.set_cons_succ]
  refine wpFl_nil ?_
  refine NoPanic.normal ?_
  have HDB : Hid (∀ W, Below wp.heap.size wp W → Calls Tryz.prog 35 #[.agg #[.slice ka 4 kc], .slice (some ⟨bp, 0, none⟩) 5 5] W (DoubIs W [(vS (madeQ 4) x 2, vS (madeQ 4) y 2)])) := Lib.hid fun W hW => by
    have hBW := q_next HBP.out hW
    have h := doubles_any (HK4.out.below hW) (valid_sizes hk) (HPOOL.out.below hW) (he.below hBW hg) (Nat.lt_of_lt_of_le hg hBW.size)
    rw [s_doubles hk h4 s1 s0 hlt] at h
    exact h
  obtain ⟨f0, f1, f2⟩ := HC6.out w11 HBw11.out
  go_upto_region 13 with (go_at_call 35; refine (HDB.out _ HBw11.out).mono ?_; rintro e w12 ⟨vd, rfl, hp1, hb12⟩)
  have HVD := Lib.hid hp1
  have HBw12 := Lib.hid (q_next HBw11.out hb12)
  replace HVP := Lib.hid (HVP.out.below hb12)
  replace HBXb := Lib.hid ((hb12.block _ (Array.getElem?_eq_some_iff.1 HBXb.out).1).trans HBXb.out)
  clear hp1 hb12 f0 f1 f2
  obtain ⟨va, hva⟩ : ∃ v, v = vS (madeQ 4) x 0 := ⟨_, rfl⟩
  have HEa : Hid (∀ W, Below w12.heap.size w12 W → Calls Tryz.prog 43 #[.int .i64 0, .agg #[.int .i64 55, .int .i64 0], .string x] W fun e w' => e = .returned (vagg va) ∧ Below W.heap.size W w') := Lib.hid fun W hW => by
    have h := HCA.out 0 x (by omega) W (q_next hs_wp (q_next HBw12.out hW))
    rw [castL_vS 0 (by omega) x s1, ← hva] at h
    exact h
  obtain ⟨a1, a2, a3, a4, a5⟩ := va
  unfold vagg at HEa
  simp only at HEa
  have HQa := Lib.hid hva
  clear hva
  obtain ⟨vb, hvb⟩ : ∃ v, v = vS (madeQ 4) x 1 := ⟨_, rfl⟩
  have HEb : Hid (∀ W, Below w12.heap.size w12 W → Calls Tryz.prog 43 #[.int .i64 1, .agg #[.int .i64 55, .int .i64 0], .string x] W fun e w' => e = .returned (vagg vb) ∧ Below W.heap.size W w') := Lib.hid fun W hW => by
    have h := HCA.out 1 x (by omega) W (q_next hs_wp (q_next HBw12.out hW))
    rw [castL_vS 1 (by omega) x s1, ← hvb] at h
    exact h
  obtain ⟨g1, g2, g3, g4, g5⟩ := vb
  unfold vagg at HEb
  simp only at HEb
  have HQb := Lib.hid hvb
  clear hvb
  obtain ⟨vc, hvc⟩ : ∃ v, v = vS (madeQ 4) x 2 := ⟨_, rfl⟩
  have HEc : Hid (∀ W, Below w12.heap.size w12 W → Calls Tryz.prog 43 #[.int .i64 2, .agg #[.int .i64 55, .int .i64 0], .string x] W fun e w' => e = .returned (vagg vc) ∧ Below W.heap.size W w') := Lib.hid fun W hW => by
    have h := HCA.out 2 x (by omega) W (q_next hs_wp (q_next HBw12.out hW))
    rw [castL_vS 2 (by omega) x s1, ← hvc] at h
    exact h
  obtain ⟨c1, c2, c3, c4, c5⟩ := vc
  unfold vagg at HEc
  simp only at HEc
  have HQc := Lib.hid hvc
  clear hvc
  obtain ⟨vd, hvd⟩ : ∃ v, v = vS (madeQ 4) y 1 := ⟨_, rfl⟩
  have HEd : Hid (∀ W, Below w12.heap.size w12 W → Calls Tryz.prog 43 #[.int .i64 1, .agg #[.int .i64 55, .int .i64 0], .string y] W fun e w' => e = .returned (vagg vd) ∧ Below W.heap.size W w') := Lib.hid fun W hW => by
    have h := HCA.out 1 y (by omega) W (q_next hs_wp (q_next HBw12.out hW))
    rw [castL_vS 1 (by omega) y s0, ← hvd] at h
    exact h
  obtain ⟨d1, d2, d3, d4, d5⟩ := vd
  unfold vagg at HEd
  simp only at HEd
  have HQd := Lib.hid hvd
  clear hvd
  obtain ⟨ve, hve⟩ : ∃ v, v = vS (madeQ 4) y 2 := ⟨_, rfl⟩
  have HEe : Hid (∀ W, Below w12.heap.size w12 W → Calls Tryz.prog 43 #[.int .i64 2, .agg #[.int .i64 55, .int .i64 0], .string y] W fun e w' => e = .returned (vagg ve) ∧ Below W.heap.size W w') := Lib.hid fun W hW => by
    have h := HCA.out 2 y (by omega) W (q_next hs_wp (q_next HBw12.out hW))
    rw [castL_vS 2 (by omega) y s0, ← hve] at h
    exact h
  obtain ⟨e1, e2, e3, e4, e5⟩ := ve
  unfold vagg at HEe
  simp only at HEe
  have HQe := Lib.hid hve
  clear hve
  obtain ⟨vf, hvf⟩ : ∃ v, v = vS (madeQ 4) y 3 := ⟨_, rfl⟩
  have HEf : Hid (∀ W, Below w12.heap.size w12 W → Calls Tryz.prog 43 #[.int .i64 3, .agg #[.int .i64 55, .int .i64 0], .string y] W fun e w' => e = .returned (vagg vf) ∧ Below W.heap.size W w') := Lib.hid fun W hW => by
    have h := HCA.out 3 y (by omega) W (q_next hs_wp (q_next HBw12.out hW))
    rw [castL_vS 3 (by omega) y s0, ← hvf] at h
    exact h
  obtain ⟨f1, f2, f3, f4, f5⟩ := vf
  unfold vagg at HEf
  simp only at HEf
  have HQf := Lib.hid hvf
  clear hvf
  refine wp_region_noPanic ?_
  refine wp_region_lexB [.q 0, .q 1, .q 2, .q 4, .q 5, .q 7, .q 8, .q 11, .q 12, .q 14, .q 15, .q 17, .q 18, .b 3, .b 6, .b 9, .an 10, .b 13, .b 16, .b 19, .an 20, .co 10, .co 20, .b 21, .q 22, .q 23, .q 24, .q 25, .q 26] (by kernel_rfl) (by kernel_rfl) (fun _ _ _ _ h => h) ?_
  iterate 13 (refine wpFl_qL (v := ?_) rfl (Or.inl ⟨by rfl, ?_⟩) ?_; rotate_left; (focus (intro w' hSw; (try dsimp only [OldKept] at hSw); obtain ⟨f0, f1, f2⟩ := HC6.out w' (q_next HBw12.out hSw); go_simp; (try with_reducible rfl); done)); simp only [Act.put, List.setIfInBounds_toArray, List.set_cons_zero, List.set_cons_succ])
  refine wpFl_bL rfl (fun waa hnaa hsaa K hK => ?_)
  go_simp
  go_at_call 43
  refine (HEa.out waa hsaa).mono ?_
  rintro e wba ⟨rfl, hba⟩
  refine hK.out _ _ (q_next hsaa hba) (Keeps.below hba) ?_
  clear hK K hnaa hsaa hba
  refine wpFl_bL rfl (fun wab hnab hsab K hK => ?_)
  go_simp
  go_at_call 43
  refine (HEb.out wab hsab).mono ?_
  rintro e wbb ⟨rfl, hbb⟩
  refine hK.out _ _ (q_next hsab hbb) (Keeps.below hbb) ?_
  clear hK K hnab hsab hbb
  refine wpFl_bL rfl (fun wac hnac hsac K hK => ?_)
  go_simp
  go_at_call 43
  refine (HEc.out wac hsac).mono ?_
  rintro e wbc ⟨rfl, hbc⟩
  refine hK.out _ _ (q_next hsac hbc) (Keeps.below hbc) ?_
  clear hK K hnac hsac hbc
  refine wpFl_anL rfl (.cells #[.int .i64 a1, .int .i64 a2, .int .i64 a3, .string a4, .string a5, .int .i64 g1, .int .i64 g2, .int .i64 g3, .string g4, .string g5, .int .i64 c1, .int .i64 c2, .int .i64 c3, .string c4, .string c5] 27 (0, 0)) (fun n => .slice (some ⟨n, 0, none⟩) 3 3) ⟨by rfl, fun w' => ?_⟩ ?_
  focus (go_simp; done)
  refine wpFl_bL rfl (fun wad hnad hsad K hK => ?_)
  go_simp
  go_at_call 43
  refine (HEd.out wad hsad).mono ?_
  rintro e wbd ⟨rfl, hbd⟩
  refine hK.out _ _ (q_next hsad hbd) (Keeps.below hbd) ?_
  clear hK K hnad hsad hbd
  refine wpFl_bL rfl (fun wae hnae hsae K hK => ?_)
  go_simp
  go_at_call 43
  refine (HEe.out wae hsae).mono ?_
  rintro e wbe ⟨rfl, hbe⟩
  refine hK.out _ _ (q_next hsae hbe) (Keeps.below hbe) ?_
  clear hK K hnae hsae hbe
  refine wpFl_bL rfl (fun waf hnaf hsaf K hK => ?_)
  go_simp
  go_at_call 43
  refine (HEf.out waf hsaf).mono ?_
  rintro e wbf ⟨rfl, hbf⟩
  refine hK.out _ _ (q_next hsaf hbf) (Keeps.below hbf) ?_
  clear hK K hnaf hsaf hbf
  refine wpFl_anL rfl (.cells #[.int .i64 d1, .int .i64 d2, .int .i64 d3, .string d4, .string d5, .int .i64 e1, .int .i64 e2, .int .i64 e3, .string e4, .string e5, .int .i64 f1, .int .i64 f2, .int .i64 f3, .string f4, .string f5] 27 (0, 0)) (fun n => .slice (some ⟨n, 0, none⟩) 3 3) ⟨by rfl, fun w' => ?_⟩ ?_
  focus (go_simp; done)
  refine wpFl_coL rfl (.cells #[.int .i64 a1, .int .i64 a2, .int .i64 a3, .string a4, .string a5, .int .i64 g1, .int .i64 g2, .int .i64 g3, .string g4, .string g5, .int .i64 c1, .int .i64 c2, .int .i64 c3, .string c4, .string c5] 27 (0, 0)) (fun n => .slice (some ⟨n, 0, none⟩) 3 3) (by rfl) (N' := [(20, .cells #[.int .i64 d1, .int .i64 d2, .int .i64 d3, .string d4, .string d5, .int .i64 e1, .int .i64 e2, .int .i64 e3, .string e4, .string e5, .int .i64 f1, .int .i64 f2, .int .i64 f3, .string f4, .string f5] 27 (0, 0), fun n => .slice (some ⟨n, 0, none⟩) 3 3)]) (by rfl) (fun bx wx hn_wx hs_wx hb_bx hz_bx => ?_)
  simp only [Act.put, List.setIfInBounds_toArray, List.set_cons_zero, List.set_cons_succ]
  refine wpFl_coL rfl (.cells #[.int .i64 d1, .int .i64 d2, .int .i64 d3, .string d4, .string d5, .int .i64 e1, .int .i64 e2, .int .i64 e3, .string e4, .string e5, .int .i64 f1, .int .i64 f2, .int .i64 f3, .string f4, .string f5] 27 (0, 0)) (fun n => .slice (some ⟨n, 0, none⟩) 3 3) (by rfl) (N' := []) (by rfl) (fun by1 wy hn_wy hs_wy hb_by1 hz_by1 => ?_)
  simp only [Act.put, List.setIfInBounds_toArray, List.set_cons_zero, List.set_cons_succ]
  refine wpFl_bL rfl (fun wz hnz hsz K hK => ?_)
  have HVA : Hid (VS wz (.slice (some ⟨bx, 0, none⟩) 3 3) [vS (madeQ 4) x 0, vS (madeQ 4) x 1, vS (madeQ 4) x 2]) := Lib.hid (by
    have h := three_votes (v1 := ⟨a1, a2, a3, a4, a5⟩) (v2 := ⟨g1, g2, g3, g4, g5⟩) (v3 := ⟨c1, c2, c3, c4, c5⟩) ((hnz.block _ (by have := (Array.getElem?_eq_some_iff.1 hz_bx).1; have := hn_wy.size; omega)).trans ((hn_wy.block _ (Array.getElem?_eq_some_iff.1 hz_bx).1).trans hz_bx))
    rw [HQa.out, HQb.out, HQc.out] at h
    exact h)
  have HVB : Hid (VS wz (.slice (some ⟨by1, 0, none⟩) 3 3) [vS (madeQ 4) y 1, vS (madeQ 4) y 2, vS (madeQ 4) y 3]) := Lib.hid (by
    have h := three_votes (v1 := ⟨d1, d2, d3, d4, d5⟩) (v2 := ⟨e1, e2, e3, e4, e5⟩) (v3 := ⟨f1, f2, f3, f4, f5⟩) ((hnz.block _ (Array.getElem?_eq_some_iff.1 hz_by1).1).trans hz_by1)
    rw [HQd.out, HQe.out, HQf.out] at h
    exact h)
  have HBL : Hid (Calls Tryz.prog 31 #[.agg #[.slice ka 4 kc], .slice (some ⟨bx, 0, none⟩) 3 3, .slice (some ⟨by1, 0, none⟩) 3 3] wz (BlameIs wz (some [(vS (madeQ 4) x 1, vS (madeQ 4) y 1), (vS (madeQ 4) x 2, vS (madeQ 4) y 2)]))) := Lib.hid (by
    have hW := q_next HBw12.out hsz
    have hBW := q_next HBP.out hW
    have h := blame_any (HK4.out.below hW) HVA.out HVB.out (he.below hBW hg) (Nat.lt_of_lt_of_le hg hBW.size)
    rw [s_blame hk h4 s1 s0 hlt] at h
    exact h)
  go_simp
  go_at_call 31
  refine HBL.out.mono ?_
  rintro e wb1 ⟨vb, rfl, hbl, hbb1⟩
  simp only [Option.isSome_some, if_true, Option.getD_some] at hbl ⊢
  refine hK.out _ _ (q_next hsz hbb1) (Keeps.below hbb1) ?_
  have HLB := Lib.hid hbl
  have HLW := Lib.hid (q_next hsz hbb1)
  clear hK K hbl
  iterate 5 (refine wpFl_qL (v := ?_) rfl (Or.inl ⟨by rfl, ?_⟩) ?_; rotate_left; (focus (intro w' hSw; (try dsimp only [OldKept] at hSw); go_simp; (try with_reducible rfl); done)); simp only [Act.put, List.setIfInBounds_toArray, List.set_cons_zero, List.set_cons_succ])
  refine wpFl_nil ?_
  refine NoPanic.normal ?_
  have HEE : Hid (QEnv wb1) := Lib.hid (heq.step (HBP.out.trans ((q_next HBw12.out HLW.out).mono HBP.out.size)))
  have HBW : Hid (Below w.heap.size w wb1) := Lib.hid (HBP.out.trans ((q_next HBw12.out HLW.out).mono HBP.out.size))
  have HW3 : Hid (Below W3.heap.size W3 wb1) := Lib.hid (q_next HB.out (q_next hs_wp (q_next HBw12.out HLW.out)))
  have H1 := Lib.hid ((HW3.out.block _ (Array.getElem?_eq_some_iff.1 HX1.out).1).trans HX1.out)
  have H2 := Lib.hid ((HW3.out.block _ (Array.getElem?_eq_some_iff.1 HX2.out).1).trans HX2.out)
  have H3 := Lib.hid ((HLW.out.block _ (Array.getElem?_eq_some_iff.1 HBXb.out).1).trans HBXb.out)
  have HKSE := Lib.hid (HK4.out.below (q_next HBw12.out HLW.out))
  have HPOE := Lib.hid (HPOOL.out.below (q_next HBw12.out HLW.out))
  have HVPE := Lib.hid (HVP.out.below HLW.out)
  have HVDE := Lib.hid (HVD.out.below HLW.out)
  rename_i hKK
  refine hKK _ _ ?_
  refine wp_of_eqQ (sane_tail HEE HBW b1 bvb ka kc x y oc on1 os ov ol (.slice (some ⟨bp, 0, none⟩) 5 5) vp vd vb HXE HYE H1 H2 H3 HVO HKSE HPOE HVPE HVDE HLB _ _ _ _ _ _ _ _ _ _ _ _ _ _ _ _ _ _ _ _ _ _ _ _ _ _ _ _ _ _ _ _ _ _ _ _ _ _ _ _ _ _ _ _ _ _ _ _ _ _ _ _ _ _ _ _ _ _ _ _ _ _ _ _ _ _ _ _ _ _ _ _ _ _ _ _ _ _ _ _ _ _ _ _ _ _ _ _ _ _ _ _ _ _ _ _ _ _ _ _ _ _ _ _ _ _ _ _ _ _ _ _ _ _ _ _ _ _ _ _ _ _ _ _ _ _ _ _ _ _ _ _ _ _ _ _ _ _ _ _ _ _ _ _ _ _ _ _ _ _ _ _ _ _ _ _ _ _ _ _ _ _ _ _ _ _ _ _ _ _ _ _ _ _ _ _ _ _ _ _ _ _ _ _ _ _ _ _ _ _ _ _ _ _ _ _ _ _ _ _ _ _ _ _ _ _ _ _ _ _ _ _ _ _ _ _ _ _ _ _ _ _ _ _ _ _ _ _ _ _ _ _ _ _ _ _ _ _ _ _ _ _ _ _ _ _ _ _ _ _ _ _ _ _ _ _ _ _ _ _ _ _ _ _ _ _ _ _ _ _ _ _ _ _ _ _ _ _ _ _ _ _ _ _ _ _ _ _ _ _ _ _ _ _ _ _).choose_spec.2 ?_
  exact tailQS (sane_tail HEE HBW b1 bvb ka kc x y oc on1 os ov ol (.slice (some ⟨bp, 0, none⟩) 5 5) vp vd vb HXE HYE H1 H2 H3 HVO HKSE HPOE HVPE HVDE HLB _ _ _ _ _ _ _ _ _ _ _ _ _ _ _ _ _ _ _ _ _ _ _ _ _ _ _ _ _ _ _ _ _ _ _ _ _ _ _ _ _ _ _ _ _ _ _ _ _ _ _ _ _ _ _ _ _ _ _ _ _ _ _ _ _ _ _ _ _ _ _ _ _ _ _ _ _ _ _ _ _ _ _ _ _ _ _ _ _ _ _ _ _ _ _ _ _ _ _ _ _ _ _ _ _ _ _ _ _ _ _ _ _ _ _ _ _ _ _ _ _ _ _ _ _ _ _ _ _ _ _ _ _ _ _ _ _ _ _ _ _ _ _ _ _ _ _ _ _ _ _ _ _ _ _ _ _ _ _ _ _ _ _ _ _ _ _ _ _ _ _ _ _ _ _ _ _ _ _ _ _ _ _ _ _ _ _ _ _ _ _ _ _ _ _ _ _ _ _ _ _ _ _ _ _ _ _ _ _ _ _ _ _ _ _ _ _ _ _ _ _ _ _ _ _ _ _ _ _ _ _ _ _ _ _ _ _ _ _ _ _ _ _ _ _ _ _ _ _ _ _ _ _ _ _ _ _ _ _ _ _ _ _ _ _ _ _ _ _ _ _ _ _ _ _ _ _ _ _ _ _ _ _ _ _ _ _ _ _ _ _ _ _ _ _ _).choose_spec.1
end Go.Proofs.YtggdcnjaofflbaaGreatDoor

/- The reference's numbers of up to four groups, the content and the seal of a vote. The conditions: the numbers' bounds. -/
namespace Go.Proofs.YtggdcnjaofflbaaGreatDoor
open Go.RowKit Go.BigFrame

theorem zigzagQ_any (n : Nat) (hn : n < 134217728) (w : World) : Calls Tryz.prog 122 #[.int .i64 n] w fun e w' => e = .returned (.int .u64 ((2 * n : Nat) : Int)) ∧ w' = w := by
  have t0 : ¬ (n : Int) < 0 := by omega
  go_enter Tryz.func122, Tryz.ntmps122
  go_wp2
  go_ret
  exact ⟨ret_int (by omega), rfl⟩

theorem grp_small {f z : Nat} (h : z < 128) : grp f z = [UInt8.ofNat z] := by
  cases f with
  | zero => rfl
  | succ f => rw [grp, if_pos h]
theorem grp_great {f z : Nat} (h : ¬ z < 128) : grp (f + 1) z = UInt8.ofNat (z % 128 + 128) :: grp f (z / 128) := by rw [grp, if_neg h]
theorem strOf_bytes (l : List Nat) : strOf l = ⟨(l.map UInt8.ofNat).toArray⟩ := rfl

def PutAt (n f z : Nat) (pre : List Nat) : Prop := z < 128 ^ (f + 1) ∧ pre.length + f = 3 ∧ (∀ y ∈ pre, y < 256) ∧ pre.map UInt8.ofNat ++ grp f z = grp 3 (2 * n)
theorem PutAt.next {n f z : Nat} {pre : List Nat} (h : PutAt n f z pre) (hz : 128 ≤ z) : ∃ g, f = g + 1 ∧ PutAt n g (z / 128) (pre ++ [z % 128 + 128]) := by
  obtain ⟨h1, h2, h3, h4⟩ := h
  cases f with
  | zero => simp at h1; omega
  | succ g =>
    refine ⟨g, rfl, ?_, by rw [List.length_append]; simp; omega, ?_, ?_⟩
    · rw [Nat.div_lt_iff_lt_mul (by decide)]
      rw [Nat.pow_succ] at h1
      exact h1
    · intro y hy
      rcases List.mem_append.1 hy with e | e
      · exact h3 y e
      · rw [List.mem_singleton] at e
        omega
    · rw [← h4, grp_great (by omega), List.map_append, List.append_assoc]
      rfl
theorem PutAt.last {n f z : Nat} {pre : List Nat} (h : PutAt n f z pre) (hz : z < 128) : (∀ y ∈ pre ++ [z], y < 256) ∧ strOf (pre ++ [z]) = ⟨(putN (n : Int)).toArray⟩ := by
  obtain ⟨h1, h2, h3, h4⟩ := h
  refine ⟨?_, ?_⟩
  · intro y hy
    rcases List.mem_append.1 hy with e | e
    · exact h3 y e
    · rw [List.mem_singleton] at e
      omega
  · rw [strOf_bytes, List.map_append]
    unfold putN
    rw [Int.toNat_natCast, ← h4, grp_small hz]
    rfl
set_option maxHeartbeats 1000000 in
set_option maxRecDepth 100000 in
theorem r1putQ_any (n : Nat) (hn : n < 134217728) (w : World) : Calls Tryz.prog 85 #[.int .i64 n] w fun e w' => e = .returned (.tuple #[.string ⟨(putN (n : Int)).toArray⟩, .int .i64 0]) ∧ Below w.heap.size w w' := by
  have HZ := Lib.hid (zigzagQ_any n hn w)
  have t1 : ¬ (n : Int) < -4611686018427387903 := by omega
  have t2 : ¬ (4611686018427387903 : Int) < (n : Int) := by omega
  have HP : Hid (PutAt n 3 (2 * n) []) := Lib.hid ⟨by omega, rfl, by simp, rfl⟩
  obtain ⟨R, hR⟩ : ∃ R, R = (⟨(putN (n : Int)).toArray⟩ : ByteArray) := ⟨_, rfl⟩
  rw [← hR]
  have HR := Lib.hid hR
  clear hR
  go_enter Tryz.func85, Tryz.ntmps85
  go_wp2_with (go_at_call 122; refine HZ.out.mono ?_; rintro e w1 ⟨rfl, rfl⟩)
  go_loopw [4, 5] (fun z v wr => ∃ (f zn : Nat) (pre : List Nat), z = .int .u64 (zn : Int) ∧ Hid (PutAt n f zn pre) ∧ Hid (OwnB wr w1.heap.size v pre) ∧ Hid (Below w1.heap.size w1 wr)) (fun z _ _ => (intOf z).toNat)
  case atStart => exact ⟨3, 2 * n, [], rfl, HP, Lib.hid (OwnE.nil _ _ _ _), Lib.hid (Below.refl _ _)⟩
  case round =>
    clear HP HZ
    obtain ⟨f, z, pre, rfl, hP, hO, hB⟩ := hrel
    obtain ⟨va, vn, vc, hv, hvn⟩ := OwnB.form hO.out
    subst hv
    have HVN := Lib.hid hvn
    clear hvn
    have hsz := hB.out.size
    have HX : Hid (pre.length ≤ 1100000000) := Lib.hid (by have := hP.out.2.1; omega)
    have hz28 : z < 268435456 := by
      have h1 := hP.out.1
      have h2 := hP.out.2.1
      have : f = 0 ∨ f = 1 ∨ f = 2 ∨ f = 3 := by omega
      rcases this with rfl | rfl | rfl | rfl <;> omega
    by_cases hlt : 128 ≤ z
    · have t4 : (128 : Int) ≤ (z : Int) := by omega
      obtain ⟨g, hg, hN⟩ := hP.out.next hlt
      have HN := Lib.hid hN
      clear hN hg
      have HY : Hid ((z : Int) % 128 + 128 = ((z % 128 + 128 : Nat) : Int)) := Lib.hid (by omega)
      have HQ : Hid (IntKind.u64.wrap ((z : Int) / 128) = ((z / 128 : Nat) : Int)) := Lib.hid (by rw [IntKind.wrap_u64]; omega)
      obtain ⟨y, hy⟩ : ∃ y, y = z % 128 + 128 := ⟨_, rfl⟩
      rw [← hy] at HY HN
      have HOA : Hid (OwnB (wr.alloc (.cells #[.int .u8 ((z : Int) % 128 + 128)] 5)) w1.heap.size (.slice va vn vc) pre) := Lib.hid (OwnE.alloc hO.out _)
      have HNA := Lib.hid (heap_alloc_new wr (.cells #[.int .u8 ((z : Int) % 128 + 128)] 5))
      have HBA := Lib.hid (hB.out.alloc hsz (.cells #[.int .u8 ((z : Int) % 128 + 128)] 5))
      have HZ0 := Lib.hid hz28
      clear hy hz28
      go_wp2_with (at_builtin; refine wpList_append_byte _ _ w1.heap.size _ pre wr.heap.size _ y HY.out _ HOA.out HX.out HBA.out.size HNA.out rfl rfl rfl rfl ?_; intro v7 w7 hown7 hgr7; have HO7 := Lib.hid hown7; have HB7 := Lib.hid (HBA.out.grown hgr7 HBA.out.size (fun j e => OwnE.ge HOA.out j e)); clear hown7 hgr7)
      go_roundw
      case rel => exact ⟨g, z / 128, pre ++ [y], congrArg (Value.int .u64) HQ.out, HN, HO7, HB7⟩
      case measure =>
        have hq := HQ.out
        simp [intOf]
        omega
    · have t4 : ¬ (128 : Int) ≤ (z : Int) := by omega
      obtain ⟨h256, hst⟩ := hP.out.last (by omega)
      have HST : Hid (strOf (pre ++ [z]) = R) := Lib.hid (by rw [hst, HR.out])
      have H256 := Lib.hid h256
      have HY : Hid ((z : Int) = ((z : Nat) : Int)) := Lib.hid rfl
      have HOA : Hid (OwnB (wr.alloc (.cells #[.int .u8 (z : Int)] 5)) w1.heap.size (.slice va vn vc) pre) := Lib.hid (OwnE.alloc hO.out _)
      have HNA := Lib.hid (heap_alloc_new wr (.cells #[.int .u8 (z : Int)] 5))
      have HBA := Lib.hid (hB.out.alloc hsz (.cells #[.int .u8 (z : Int)] 5))
      have hz8 : z < 128 := by omega
      clear h256 hst hP
      go_wp2_with (first | (at_builtin; refine wpList_append_byte _ _ w1.heap.size _ pre wr.heap.size _ z HY.out _ HOA.out HX.out HBA.out.size HNA.out rfl rfl rfl rfl ?_; intro v7 w7 hown7 hgr7; have HO7 := Lib.hid hown7; have HB7 := Lib.hid (HBA.out.grown hgr7 HBA.out.size (fun j e => OwnE.ge HOA.out j e)); clear hown7 hgr7; obtain ⟨gx, ox, cx, hv7, _, _, _, hx3⟩ := HO7.out.cells (by simp); have HX3 := Lib.hid hx3; clear hx3; subst hv7) | (refine wpList_convS (pre ++ [z]) H256.out 80 9 5 _ gx ox _ cx rfl rfl rfl (by simp) (by kernel_rfl) (by kernel_rfl) (by kernel_rfl) HX3.out ?_))
      go_ret2
      exact ⟨congrArg (fun s => Ending.returned (.tuple #[.string s, .int .i64 0])) HST.out, HB7.out⟩
end Go.Proofs.YtggdcnjaofflbaaGreatDoor

/- Walks of the reference: Content, Seal. The conditions: the vote is formed but for its seal. -/
namespace Go.Proofs.YtggdcnjaofflbaaGreatDoor
open Go.RowKit Go.BigFrame

set_option maxHeartbeats 2000000 in
set_option maxRecDepth 100000 in
theorem rcontent_any (v : VoteP) (hs : SmallV v) (w : World) :
    Calls Tryz.prog 40 #[.agg #[.int .i64 v.car, .int .i64 v.num, .int .i64 v.stp, .string v.val, .string v.sl]] w fun e w' => e = .returned (.string (voteC v)) ∧ Below w.heap.size w w' := by
  obtain ⟨car, num, stp, val, sl⟩ := v
  obtain ⟨⟨c0, c1⟩, ⟨n0, n1⟩, ⟨s0, s1⟩, hv⟩ := hs
  simp only at c0 c1 n0 n1 s0 s1 hv
  obtain ⟨c, rfl⟩ := Int.eq_ofNat_of_zero_le c0
  obtain ⟨n, rfl⟩ := Int.eq_ofNat_of_zero_le n0
  obtain ⟨s, rfl⟩ := Int.eq_ofNat_of_zero_le s0
  have HR := Lib.hid (voteC_is c n s val sl)
  generalize voteC ⟨(c : Int), n, s, val, sl⟩ = R at *
  obtain ⟨PB, hPB⟩ : ∃ PB : Nat → ByteArray, PB = fun k => ⟨(putsL (([5, c, n, s] : List Nat).take k)).toArray⟩ := ⟨_, rfl⟩
  obtain ⟨PN, hPN⟩ : ∃ PN : Nat → ByteArray, PN = fun x => ⟨(putN (x : Int)).toArray⟩ := ⟨_, rfl⟩
  have HP0 : Hid (PB 0 = ⟨#[]⟩) := Lib.hid (by rw [hPB]; rfl)
  have HP4 : Hid (R = PB 4 ++ val) := Lib.hid (by rw [HR.out, hPB]; rfl)
  have HPS : Hid (∀ k x, ([5, c, n, s] : List Nat)[k]? = some x → PB (k + 1) = PB k ++ PN x) := Lib.hid (fun k x hx => by
    rw [hPB, hPN]
    show (⟨(putsL _).toArray⟩ : ByteArray) = _
    rw [putsL_snoc hx]
    refine ByteArray.ext ?_
    rw [ByteArray.data_append]
    simp)
  have HPZ : Hid (∀ k, (PB k).size ≤ 16) := Lib.hid (fun k => by
    rw [hPB]
    show (List.toArray _).size ≤ 16
    rw [List.size_toArray]
    have := putsL_len (([5, c, n, s] : List Nat).take k)
    have h4 : (([5, c, n, s] : List Nat).take k).length ≤ 4 := by rw [List.length_take]; simp; omega
    omega)
  have HNZ : Hid (∀ x, (PN x).size ≤ 4) := Lib.hid (fun x => by
    rw [hPN]
    show (List.toArray _).size ≤ 4
    rw [List.size_toArray]
    exact (putN_len _).2)
  have HPI : Hid (∀ x : Nat, x < 134217728 → ∀ W, Calls Tryz.prog 85 #[.int .i64 x] W fun e w' => e = .returned (.tuple #[.string (PN x), .int .i64 0]) ∧ Below W.heap.size W w') := Lib.hid (fun x hx W => by rw [hPN]; exact r1putQ_any x hx W)
  clear hPB hPN HR
  obtain ⟨W1, hW1⟩ : ∃ W1, W1 = w.alloc (.cells #[.int .i64 (c : Nat), .int .i64 (n : Nat), .int .i64 (s : Nat), .string val, .string sl] 27) := ⟨_, rfl⟩
  have HB1 : Hid (Below w.heap.size w W1) := Lib.hid (by rw [hW1]; exact (Below.refl _ _).alloc (Nat.le_refl _) _)
  have HH1 : Hid (W1.heap[w.heap.size]? = some (.cells #[.int .i64 (c : Nat), .int .i64 (n : Nat), .int .i64 (s : Nat), .string val, .string sl] 27 (0, 0))) := Lib.hid (by rw [hW1]; exact heap_alloc_new w _)
  obtain ⟨W2, hW2⟩ : ∃ W2, W2 = W1.alloc (.cells #[.int .i64 5, .int .i64 (c : Nat), .int .i64 (n : Nat), .int .i64 (s : Nat)] 3) := ⟨_, rfl⟩
  have HB2 : Hid (Below w.heap.size w W2) := Lib.hid (by rw [hW2]; exact HB1.out.alloc HB1.out.size _)
  have HV2 : Hid (W2.heap[w.heap.size]? = some (.cells #[.int .i64 (c : Nat), .int .i64 (n : Nat), .int .i64 (s : Nat), .string val, .string sl] 27 (0, 0))) := Lib.hid (by rw [hW2]; exact alloc_at HH1.out)
  have HA2 : Hid (W2.heap[W1.heap.size]? = some (.cells #[.int .i64 5, .int .i64 (c : Nat), .int .i64 (n : Nat), .int .i64 (s : Nat)] 3 (0, 0))) := Lib.hid (by rw [hW2]; exact heap_alloc_new W1 _)
  obtain ⟨d0, d1, d2, d3, d4⟩ := vcellsAt HH1.out
  have HW1 := Lib.hid hW1
  have HW2 := Lib.hid hW2
  clear hW1 hW2
  go_enter Tryz.func40, Tryz.ntmps40
  go_upto_region 2 with fail
  rw [← HW1.out]
  go_upto_block 3 with fail
  rw [← HW2.out]
  clear d0 d1 d2 d3 d4
  obtain ⟨b0, hb0⟩ : ∃ b0, b0 = w.heap.size := ⟨_, rfl⟩
  obtain ⟨ba, hba⟩ : ∃ ba, ba = W1.heap.size := ⟨_, rfl⟩
  rw [← hb0] at HV2 ⊢
  rw [← hba] at HA2 ⊢
  clear hb0 hba HW1 HW2 HH1 HB1
  have h0 : PB 0 = ⟨#[]⟩ := HP0.out
  go_wp2
  go_loopw [3, 18] (fun s i wr => ∃ k : Nat, k ≤ 4 ∧ i = .int .i64 k ∧ s = .string (PB k) ∧ Hid (Below W2.heap.size W2 wr)) (fun _ i _ => 4 - (intOf i).toNat)
  case atStart => exact ⟨0, by omega, rfl, by rw [h0], Lib.hid (Below.refl _ _)⟩
  case round =>
    clear h0
    obtain ⟨k, hk, rfl, rfl, hB⟩ := hrel
    by_cases hlt : k < 4
    · have tk : (k : Int) < 4 := by omega
      have tk0 : (0 : Int) ≤ (k : Int) := by omega
      obtain ⟨x, hx⟩ : ∃ x, ([5, c, n, s] : List Nat)[k]? = some x := ⟨_, List.getElem?_eq_getElem (by simp; omega)⟩
      have hx27 : x < 134217728 := by
        have hm := List.mem_of_getElem? hx
        simp only [List.mem_cons, List.not_mem_nil, or_false] at hm
        omega
      have HX := Lib.hid (HPS.out k x hx)
      have hcl : wr.cell? ⟨ba, k, none⟩ = some (.int .i64 (x : Nat)) := by
        rw [cell_of_row wr ba k _ _ _ ((hB.out.block ba (Array.getElem?_eq_some_iff.1 HA2.out).1).trans HA2.out)]
        match k, hlt, hx with
        | 0, _, hx => cases hx; rfl
        | 1, _, hx => cases hx; rfl
        | 2, _, hx => cases hx; rfl
        | 3, _, hx => cases hx; rfl
      have HPX := Lib.hid (HPI.out x hx27)
      have hz1 := HPZ.out k
      have hz2 := HNZ.out x
      have hcat : ¬ 9223372036854775807 < (PB k).size + (PN x).size := by omega
      clear hx
      go_wp2_with (go_at_call 85; refine (HPX.out _).mono ?_; rintro e w3 ⟨rfl, hb3⟩)
      go_roundw
      case rel => exact ⟨k + 1, by omega, by go_num, by rw [HX.out], Lib.hid (q_next hB.out hb3)⟩
      case measure => simp [intOf]; omega
    · obtain rfl : k = 4 := by omega
      obtain ⟨d0, d1, d2, d3, d4⟩ := vcellsAt ((hB.out.block b0 (Array.getElem?_eq_some_iff.1 HV2.out).1).trans HV2.out)
      have hz1 := HPZ.out 4
      have hcat : ¬ 9223372036854775807 < (PB 4).size + val.size := by omega
      go_wp2
      go_ret
      exact ⟨congrArg (fun x => Ending.returned (Value.string x)) HP4.out.symm, HB2.out.trans (hB.out.mono HB2.out.size)⟩
set_option maxHeartbeats 1000000 in
theorem rseal_any (key s : ByteArray) (hk : key.size ≤ 1000) (hs : s.size ≤ 1000) (w : World) :
    Calls Tryz.prog 56 #[.string key, .string s] w fun e w' => e = .returned (.string (nodeS key (leafS s))) ∧ Below w.heap.size w w' := by
  have H1 := Lib.hid (r2leaf_any s w (by omega))
  have hl : (leafS s).size = 32 := leafS_size _
  generalize leafS s = L at *
  have H2 := Lib.hid (fun W => r2node_any key L W (by omega) (by omega))
  generalize nodeS key L = R at *
  go_enter Tryz.func56, Tryz.ntmps56
  go_wp2_with (first | (go_at_call 42; refine H1.out.mono ?_; rintro e w1 ⟨rfl, h1⟩) | (go_at_call 103; refine (H2.out _).mono ?_; rintro e w2 ⟨rfl, h2⟩))
  go_ret
  exact ⟨rfl, q_next h1 h2⟩
end Go.Proofs.YtggdcnjaofflbaaGreatDoor
