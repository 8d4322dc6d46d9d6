/- The walk of RegisterMatchesReference: up to the three registers. The conditions: what the slices read as, ranges, the table of constants. -/
import Derived.Test.YtinfpbkbnhcifaaGreatDoorQ37
import Derived.Test.YtinfpbkbnhcifaaGreatDoorQ38
namespace Go.Proofs.YtinfpbkbnhcifaaGreatDoor
open Go.RowKit Go.BigFrame

theorem wp_of_eq {P : Program} {c L : Code} {Q : Exit → Act → World → Prop} {a : Act} {w : World} (h : c.wp P Q a w) (e : c = L) : L.wp P Q a w := e ▸ h
def rt11 (c : Code) : Code := rt (rt (rt (rt (rt (rt (rt (rt (rt (rt (rt c))))))))))
theorem tail_eq {c L : Code} (h : ∃ a0 a1 a2 a3 a4 a5 a6 a7 a8 a9 a10 : Code, Tryz.f10.body = some (a0.seq (a1.seq (a2.seq (a3.seq (a4.seq (a5.seq (a6.seq (a7.seq (a8.seq (a9.seq (a10.seq (c))))))))))))) (hL : Tryz.f10.body.map rt11 = some L := by rfl) : c = L := by
  obtain ⟨a0, a1, a2, a3, a4, a5, a6, a7, a8, a9, a10, e⟩ := h
  rw [e] at hL
  exact Option.some.inj hL
set_option maxHeartbeats 16000000 in
set_option maxRecDepth 100000 in
theorem match_walk {w : World} (carrier at' mm nn how oc : Int) (entry sg : ByteArray) {vx vy vo : Value} {x ys : List Int} {os : List ByteArray} (hx : IL w vx x) (hy : IL w vy ys) (ho : SS w vo os) (ic : I64 carrier) (ix : ∀ n ∈ x, I64 n) (ia : I64 at') (iy : ∀ n ∈ ys, I64 n) (imm : I64 mm) (inn : I64 nn) (ih : I64 how) (_ioc : I64 oc) (_hes : entry.size ≤ maxLen) (_hsg : sg.size ≤ maxLen) (he : Env w) (hg : 0 < w.heap.size) :
    Calls Tryz.prog 10 #[.int .i64 carrier, vx, .int .i64 at', vy, .agg #[.int .i64 oc, vo], .string entry, .int .i64 mm, .int .i64 nn, .string sg, .int .i64 how] w fun e w' => e = .returned (.bool true) ∧ Below w.heap.size w w' := by
  have hpk := pickI_range carrier (n := 8) (by omega)
  obtain ⟨cn, hcn⟩ := Int.eq_ofNat_of_zero_le hpk.1
  have hc7 : cn ≤ 7 := by omega
  have HIY := Lib.hid iy
  have HIX := Lib.hid ix
  have hz12 := (other_valid (car := (cn : Int)) (xs := madeL x) at' ys (by omega) (madeL_len x) (madeL_small x)).2.1
  have HX := Lib.hid hx
  have HY := Lib.hid hy
  have HIC := Lib.hid ic
  have HIA := Lib.hid ia
  have HIH := Lib.hid ih
  have HIM := Lib.hid imm
  have HIN := Lib.hid inn
  obtain ⟨bo, lo, hvo⟩ := ho.form2
  subst hvo
  have K0 := Lib.hid ((Know.start he hg).put (d := .S (.slice bo os.length lo) os) ho)
  clear hpk iy ix hx ic he hg hy ia ih inn imm ho
  obtain ⟨xs, hxs⟩ : ∃ xs, xs = madeL x := ⟨_, rfl⟩
  have hm12 : xs.length ≤ 12 := by rw [hxs]; exact madeL_len x
  rw [← hxs] at hz12
  obtain ⟨zs, hzs⟩ : ∃ zs, zs = otherL xs at' ys := ⟨_, rfl⟩
  rw [← hzs] at hz12
  have HXS := Lib.hid hxs
  have HZS := Lib.hid hzs
  clear hzs hxs
  obtain ⟨qs, hqs⟩ : ∃ qs, qs = cutL os := ⟨_, rfl⟩
  have hq4 : qs.length ≤ 4 := by rw [hqs]; exact cutL_len os
  have HQS := Lib.hid hqs
  clear hqs
  obtain ⟨lq, hlq⟩ : ∃ l, l = os.length := ⟨_, rfl⟩
  rw [← hlq] at K0 ⊢
  clear hlq
  go_enter Tryz.func10, Tryz.ntmps10
  simp only [List.nil_append] at K0
  go_upto_region 1 with fail
  have kw0 := K0.out.box #[.int .i64 oc, .slice bo lq lo] 26
  obtain ⟨w0, hww0⟩ : ∃ W, W = w.alloc (.cells #[.int .i64 oc, .slice bo lq lo] 26) := ⟨_, rfl⟩
  rw [← hww0] at kw0 ⊢
  clear hww0
  generalize w.heap.size = ob at kw0 ⊢
  simp only [List.nil_append, List.cons_append] at kw0
  have K00 := Lib.hid kw0
  clear kw0 K0
  go_wp2_with fail
  refine (sane_at K00.out).mono ?_
  rintro e w1 ⟨rfl, kw1⟩
  have K1 := Lib.hid kw1
  clear kw1 K00
  go_wp2_with fail
  refine (made_at K1.out (HX.out.below K1.out.below) HIX.out carrier HIC.out).mono ?_
  rintro e w2 ⟨vr, rfl, k2⟩
  rw [← HXS.out] at k2
  rw [hcn]
  obtain ⟨ar, cr, rfl⟩ := (k2.all 2 _ rfl : SS w2 vr xs).form2
  simp only [List.nil_append, List.cons_append] at k2
  have K2 := Lib.hid k2
  clear k2 K1 HX HIX HIC hcn HXS
  obtain ⟨m, hm⟩ : ∃ m, m = xs.length := ⟨_, rfl⟩
  rw [← hm] at hm12 K2 ⊢
  have HM := Lib.hid hm
  clear hm
  go_upto_region 5 with fail
  have kw3 := K2.out.box #[.int .i64 cn, .slice ar m cr] 26
  obtain ⟨w3, hww3⟩ : ∃ W, W = w2.alloc (.cells #[.int .i64 cn, .slice ar m cr] 26) := ⟨_, rfl⟩
  rw [← hww3] at kw3 ⊢
  clear hww3
  generalize w2.heap.size = rb at kw3 ⊢
  simp only [List.nil_append, List.cons_append] at kw3
  have K3 := Lib.hid kw3
  clear kw3 K2
  have HOT : Hid (∀ W, Below w3.heap.size w3 W → Calls Tryz.prog 14 #[.agg #[.int .i64 cn, .slice ar m cr], .int .i64 at', vy] W fun e w' => ∃ (a : Option Addr) (c : Nat), e = .returned (.agg #[.int .i64 cn, .slice a zs.length c]) ∧ SS w' (.slice a zs.length c) zs ∧ Below W.heap.size W w') := Lib.hid (fun W hW => by
    have h1 := other_any (cn : Int) at' HIA.out ((K3.out.step hW).all 2 _ rfl : SS W (.slice ar m cr) xs) (by rw [← HM.out]; exact hm12) (HY.out.below (K3.out.step hW).below) HIY.out
    refine h1.mono ?_
    rintro e w' ⟨v', h1, h2, h3⟩
    rw [← HZS.out] at h2
    obtain ⟨a, c, rfl⟩ := h2.ss.form2
    exact ⟨a, c, h1, h2.ss, h3⟩)
  have HCT : Hid (∀ W, Below w3.heap.size w3 W → Calls Tryz.prog 41 #[.agg #[.int .i64 oc, .slice bo lq lo]] W fun e w' => ∃ (a : Option Addr) (c : Nat), e = .returned (.agg #[.int .i64 oc, .slice a qs.length c]) ∧ SS w' (.slice a qs.length c) qs ∧ Below W.heap.size W w') := Lib.hid (fun W hW => by
    refine (cut_any oc ((K3.out.step hW).all 0 _ rfl : SS W (.slice bo lq lo) os)).mono ?_
    rintro e w' ⟨v', h1, h2, h3⟩
    rw [← HQS.out] at h2
    obtain ⟨a, c, rfl⟩ := h2.ss.form2
    exact ⟨a, c, h1, h2.ss, h3⟩)
  obtain ⟨my, hmy⟩ : ∃ l, l = zs.length := ⟨_, rfl⟩
  obtain ⟨mo, hmo⟩ : ∃ l, l = qs.length := ⟨_, rfl⟩
  rw [← hmy] at HOT hz12
  rw [← hmo] at HCT hq4
  have HMY := Lib.hid hmy
  have HMO := Lib.hid hmo
  clear hmy hmo HIY HIA HY
  have HC : Hid (∀ W, Below w3.heap.size w3 W → (W.cell? ⟨ob, 0, none⟩ = some (.int .i64 oc) ∧ W.cell? ⟨ob, 1, none⟩ = some (.slice bo lq lo)) ∧ W.cell? ⟨rb, 0, none⟩ = some (.int .i64 cn) ∧ W.cell? ⟨rb, 1, none⟩ = some (.slice ar m cr)) := Lib.hid (fun W hW =>
    ⟨(K3.out.step hW).duo (i := 1) rfl, (K3.out.step hW).duo (i := 3) rfl⟩)
  refine wp_region_noPanic ?_
  refine wp_region_lexB [.q 0, .q 1, .q 2, .q 3, .q 5, .b 4, .b 6, .an 7, .co 7, .q 8] (by as_aux_lemma => kernel_rfl) (by as_aux_lemma => kernel_rfl) (fun _ _ _ _ h => h) ?_
  refine wpFl_qL (v := ?_) rfl (Or.inl ⟨by rfl, ?_⟩) ?_
  rotate_left
  focus (intro w' hSw; (try dsimp only [OldKept] at hSw); obtain ⟨⟨c0, c1⟩, d0, d1⟩ := HC.out w' hSw; go_simp; (try with_reducible rfl); done)
  simp only [Act.put, List.setIfInBounds_toArray, List.set_cons_zero, List.set_cons_succ]
  refine wpFl_qL (v := ?_) rfl (Or.inl ⟨by rfl, ?_⟩) ?_
  rotate_left
  focus (intro w' hSw; (try dsimp only [OldKept] at hSw); obtain ⟨⟨c0, c1⟩, d0, d1⟩ := HC.out w' hSw; go_simp; (try with_reducible rfl); done)
  simp only [Act.put, List.setIfInBounds_toArray, List.set_cons_zero, List.set_cons_succ]
  refine wpFl_qL (v := ?_) rfl (Or.inl ⟨by rfl, ?_⟩) ?_
  rotate_left
  focus (intro w' hSw; (try dsimp only [OldKept] at hSw); obtain ⟨⟨c0, c1⟩, d0, d1⟩ := HC.out w' hSw; go_simp; (try with_reducible rfl); done)
  simp only [Act.put, List.setIfInBounds_toArray, List.set_cons_zero, List.set_cons_succ]
  refine wpFl_qL (v := ?_) rfl (Or.inl ⟨by rfl, ?_⟩) ?_
  rotate_left
  focus (intro w' hSw; (try dsimp only [OldKept] at hSw); obtain ⟨⟨c0, c1⟩, d0, d1⟩ := HC.out w' hSw; go_simp; (try with_reducible rfl); done)
  simp only [Act.put, List.setIfInBounds_toArray, List.set_cons_zero, List.set_cons_succ]
  refine wpFl_qL (v := ?_) rfl (Or.inl ⟨by rfl, ?_⟩) ?_
  rotate_left
  focus (intro w' hSw; (try dsimp only [OldKept] at hSw); obtain ⟨⟨c0, c1⟩, d0, d1⟩ := HC.out w' hSw; go_simp; (try with_reducible rfl); done)
  simp only [Act.put, List.setIfInBounds_toArray, List.set_cons_zero, List.set_cons_succ]
  refine wpFl_bL rfl (fun w4 hn4 hs4 K hK => ?_)
  go_simp
  go_at_call 14
  (with_reducible refine (HOT.out _ hs4).mono ?_)
  rintro e w5 ⟨ay, cy, rfl, hy5, hb5⟩
  have HSY := Lib.hid hy5
  have HB5 := Lib.hid (below_next hs4 hb5)
  refine hK.out _ _ HB5.out (Keeps.below hb5) ?_
  clear hK K hn4 hs4 hb5 hy5
  refine wpFl_bL rfl (fun w6 hn6 hs6 K hK => ?_)
  have HSY6 := Lib.hid (SS.below HSY.out hn6)
  go_simp
  go_at_call 41
  (with_reducible refine (HCT.out _ hs6).mono ?_)
  rintro e w7 ⟨ao, co, rfl, ho7, hb7⟩
  have HSO := Lib.hid ho7
  have HSY7 := Lib.hid (SS.below HSY6.out hb7)
  refine hK.out _ _ (below_next hs6 hb7) (Keeps.below hb7) ?_
  clear hK K hn6 hs6 hb7 ho7 HSY HSY6 HB5
  refine wpFl_anL rfl (.cells #[.int .i64 cn, .slice ar m cr, .int .i64 cn, .slice ay my cy, .int .i64 oc, .slice ao mo co] 26 (0, 0)) (fun n => .slice (some ⟨n, 0, none⟩) 3 3) ⟨by rfl, fun w' => ?_⟩ ?_
  focus (go_simp; done)
  refine wpFl_coL rfl (.cells #[.int .i64 cn, .slice ar m cr, .int .i64 cn, .slice ay my cy, .int .i64 oc, .slice ao mo co] 26 (0, 0)) (fun n => .slice (some ⟨n, 0, none⟩) 3 3) (by rfl) (N' := []) (by rfl) (fun lb w8 hn_w8 hs_w8 hb_lb hz_lb => ?_)
  simp only [Act.put, List.setIfInBounds_toArray, List.set_cons_zero, List.set_cons_succ]
  have k8 := (((K3.out.step hs_w8).put (d := .S (.slice ay my cy) zs) (SS.below HSY7.out hn_w8)).put (d := .S (.slice ao mo co) qs) (SS.below HSO.out hn_w8)).put (d := .B lb #[.int .i64 cn, .slice ar m cr, .int .i64 cn, .slice ay my cy, .int .i64 oc, .slice ao mo co] 26) hz_lb
  simp only [List.nil_append, List.cons_append] at k8
  have K8 := Lib.hid k8
  clear k8 K3 HSY7 HSO HC HOT HCT hn_w8 hs_w8 hb_lb hz_lb
  refine wpFl_qL (v := ?_) rfl (Or.inl ⟨by rfl, ?_⟩) ?_
  rotate_left
  focus (intro w' hSw; (try dsimp only [OldKept] at hSw); go_simp; (try with_reducible rfl); done)
  simp only [Act.put, List.setIfInBounds_toArray, List.set_cons_zero, List.set_cons_succ]
  refine wpFl_nil ?_
  refine NoPanic.normal ?_
  obtain ⟨q, hq⟩ : ∃ q : Nat, min (sg.size : Int) 33 = (q : Int) := ⟨min sg.size 33, by omega⟩
  have q1 : (q : Int) ≤ (sg.size : Int) := by omega
  have q0 : (0 : Int) ≤ (q : Int) := by omega
  go_upto_region 7 with fail
  have hS33 : (sg.extract 0 q).size ≤ 33 := by rw [ByteArray.size_extract]; omega
  generalize sg.extract 0 q = S at *
  clear hq q0 q1 _hsg
  obtain ⟨q, hq⟩ : ∃ q : Nat, min (entry.size : Int) 1001 = (q : Int) := ⟨min entry.size 1001, by omega⟩
  have q1 : (q : Int) ≤ (entry.size : Int) := by omega
  have q0 : (0 : Int) ≤ (q : Int) := by omega
  go_upto_region 8 with fail
  have hE : (entry.extract 0 q).size ≤ 1001 := by rw [ByteArray.size_extract]; omega
  generalize entry.extract 0 q = E at *
  clear hq q0 q1 _hes
  obtain ⟨rc0, rc1⟩ := K8.out.duo (i := 3) rfl
  go_wp2_with fail
  clear rc0 rc1
  refine (key_at K8.out cn (by omega)).mono ?_
  rintro e w9 ⟨rfl, kw9⟩
  have K9 := Lib.hid kw9
  clear kw9 K8
  have HK32 := Lib.hid (keyS_size (cn : Int))
  obtain ⟨key, hkey⟩ : ∃ k, k = keyS (cn : Int) := ⟨_, rfl⟩
  rw [← hkey] at HK32 ⊢
  clear hkey
  have HREG : Hid (∀ k : Nat, k < 3 → ∃ (c : Int) (a : Option Addr) (n cp : Nat) (rs : List ByteArray), n = rs.length ∧ n ≤ 12 ∧ SS w9 (.slice a n cp) rs ∧ ∀ W, Below w9.heap.size w9 W → W.cell? ⟨lb, k * 2, none⟩ = some (.int .i64 c) ∧ W.cell? ⟨lb, k * 2 + 1, none⟩ = some (.slice a n cp)) := Lib.hid (fun k hk => by
    rcases (by omega : k = 0 ∨ k = 1 ∨ k = 2) with rfl | rfl | rfl
    · refine ⟨cn, ar, m, cr, xs, HM.out, hm12, K9.out.all 2 _ rfl, fun W hW => ?_⟩
      have h := fun i => cell_of_row W lb i _ _ _ ((K9.out.step hW).all 6 _ rfl)
      exact ⟨h 0, h 1⟩
    · refine ⟨cn, ay, my, cy, zs, HMY.out, hz12, K9.out.all 4 _ rfl, fun W hW => ?_⟩
      have h := fun i => cell_of_row W lb i _ _ _ ((K9.out.step hW).all 6 _ rfl)
      exact ⟨h 2, h 3⟩
    · refine ⟨oc, ao, mo, co, qs, HMO.out, by omega, K9.out.all 5 _ rfl, fun W hW => ?_⟩
      have h := fun i => cell_of_row W lb i _ _ _ ((K9.out.step hW).all 6 _ rfl)
      exact ⟨h 4, h 5⟩)
  have HM0 := Lib.hid (MAt.zero w9)
  go_upto_block 0 with fail
  go_cut [25, 26] (fun hv pv wx => ∃ (a : Option Addr) (c : Nat) (a' : Option Addr) (c' : Nat) (hs : List HeadP) (ps : List (List ByteArray × Value)), hv = .slice a 27 c ∧ pv = .slice a' 9 c' ∧ hs.length = 27 ∧ ps.length = 9 ∧ Hid (MAt w9 wx hv pv hs ps))
  case first =>
    go_wp2
    go_loopw [25, 26, 87] (fun hv pv i wr => ∃ (k : Nat) (a : Option Addr) (c : Nat) (a' : Option Addr) (c' : Nat) (hs : List HeadP) (ps : List (List ByteArray × Value)), k ≤ 3 ∧ i = .int .i64 k ∧ hv = .slice a (9 * k) c ∧ pv = .slice a' (3 * k) c' ∧ hs.length = 9 * k ∧ ps.length = 3 * k ∧ Hid (MAt w9 wr hv pv hs ps)) (fun _ _ i _ => 3 - (intOf i).toNat)
    case atStart => exact ⟨0, none, 0, none, 0, [], [], by omega, rfl, rfl, rfl, rfl, rfl, HM0⟩
    case round =>
      clear HM0
      obtain ⟨k, ha, hc, pa, pc, hs, ps, hk, rfl, rfl, rfl, hhl, hpl, hM⟩ := hrel
      by_cases hlk : k < 3
      · obtain ⟨c, a, n, cp, rs, hrl, hr12, hrs, hcells⟩ := HREG.out k hlk
        obtain ⟨c0, c1⟩ := hcells wr hM.out.1
        have HRL := Lib.hid hrl
        have HRS := Lib.hid (fun W (hW : Below w9.heap.size w9 W) => SS.below hrs hW)
        have tk : (k : Int) < 3 := by omega
        have tk0 : (0 : Int) ≤ (k : Int) := by omega
        clear hrl hrs hcells
        go_upto_region 14 with fail
        have HZ10 : Hid ((wr.alloc (.cells #[.int .i64 c, .slice a n cp] 26)).heap[wr.heap.size]? = some (.cells #[.int .i64 c, .slice a n cp] 26 (0, 0))) := Lib.hid (heap_alloc_new wr _)
        have HM10 : Hid (MAt w9 (wr.alloc (.cells #[.int .i64 c, .slice a n cp] 26)) (.slice ha (9 * k) hc) (.slice pa (3 * k) pc) hs ps) := Lib.hid (hM.out.far ((Below.refl _ _).alloc (Nat.le_refl _) _))
        obtain ⟨w10, hw10⟩ : ∃ W, W = wr.alloc (.cells #[.int .i64 c, .slice a n cp] 26) := ⟨_, rfl⟩
        rw [← hw10] at HZ10 HM10 ⊢
        generalize wr.heap.size = zb at *
        clear c0 c1 hM hw10
        have HZC := Lib.hid (fun W (hW : Below w10.heap.size w10 W) => two_cells (kept_block HZ10.out hW))
        have HRW := Lib.hid (fun W (hW : Below w10.heap.size w10 W) => HRS.out W (HM10.out.far hW).1)
        have HAP := Lib.hid (fun W (hW : Below w10.heap.size w10 W) => append_all c E (HRW.out W hW) (by rw [← HRL.out]; omega))
        have HAR := Lib.hid (fun W (hW : Below w10.heap.size w10 W) => rappend_all c E (HRW.out W hW) (by rw [← HRL.out]; omega))
        generalize appC c (rs ++ [E]) = ac at *
        generalize appS c (rs ++ [E]) = aw at *
        generalize appE c (rs ++ [E]) = ae at *
        obtain ⟨c0, c1, cf⟩ := HZC.out w10 (Below.refl _ _)
        go_wp2_with fail
        refine (HAP.out _ (Below.refl _ _)).mono ?_
        rintro e w11 ⟨aa, an, acp, rfl, hs11, hb11⟩
        have HB11 := Lib.hid hb11
        have HS11 := Lib.hid hs11
        clear c0 c1 cf hb11 hs11
        obtain ⟨c0, c1, cf⟩ := HZC.out w11 HB11.out
        go_upto_region 15 with fail
        clear c0 c1 cf
        have HZ12 : Hid ((w11.alloc (.cells #[.int .i64 ac, .slice aa an acp] 26)).heap[w11.heap.size]? = some (.cells #[.int .i64 ac, .slice aa an acp] 26 (0, 0))) := Lib.hid (heap_alloc_new w11 _)
        have HB12 : Hid (Below w10.heap.size w10 (w11.alloc (.cells #[.int .i64 ac, .slice aa an acp] 26))) := Lib.hid (below_next HB11.out ((Below.refl _ _).alloc (Nat.le_refl _) _))
        have HS12 := Lib.hid (SS.below HS11.out ((Below.refl _ _).alloc (Nat.le_refl _) (.cells #[.int .i64 ac, .slice aa an acp] 26)))
        obtain ⟨w12, hw12⟩ : ∃ W, W = w11.alloc (.cells #[.int .i64 ac, .slice aa an acp] 26) := ⟨_, rfl⟩
        rw [← hw12] at HZ12 HB12 HS12 ⊢
        generalize w11.heap.size = ab at *
        clear hw12 HB11 HS11 HAP
        obtain ⟨c0, c1, cf⟩ := HZC.out w12 HB12.out
        go_wp2_with fail
        refine (HAR.out _ HB12.out).mono ?_
        rintro e w13 ⟨ba, bn, bcp, rfl, hs13, hb13⟩
        have HB13 := Lib.hid (below_next HB12.out hb13)
        have HZ13 := Lib.hid (kept_block HZ12.out hb13)
        have HA13 := Lib.hid (SS.below HS12.out hb13)
        have HS13 := Lib.hid hs13
        clear c0 c1 cf hb13 hs13 HB12 HZ12 HS12 HAR
        obtain ⟨c0, c1, cf⟩ := HZC.out w13 HB13.out
        go_upto_region 16 with fail
        clear c0 c1 cf
        have HY14 : Hid ((w13.alloc (.cells #[.int .i64 ac, .slice ba bn bcp] 26)).heap[w13.heap.size]? = some (.cells #[.int .i64 ac, .slice ba bn bcp] 26 (0, 0))) := Lib.hid (heap_alloc_new w13 _)
        have hb14 : Below w13.heap.size w13 (w13.alloc (.cells #[.int .i64 ac, .slice ba bn bcp] 26)) := (Below.refl _ _).alloc (Nat.le_refl _) _
        have HB14 := Lib.hid (below_next HB13.out hb14)
        have HZ14 := Lib.hid (kept_block HZ13.out hb14)
        have HA14 := Lib.hid (SS.below HA13.out hb14)
        have HS14 := Lib.hid (SS.below HS13.out hb14)
        clear hb14
        obtain ⟨w14, hw14⟩ : ∃ W, W = w13.alloc (.cells #[.int .i64 ac, .slice ba bn bcp] 26) := ⟨_, rfl⟩
        rw [← hw14] at HY14 HB14 HZ14 HA14 HS14 ⊢
        generalize w13.heap.size = bb at *
        clear hw14 HB13 HZ13 HA13 HS13
        have HC : Hid (∀ W, Below w14.heap.size w14 W → (W.cell? ⟨zb, 0, none⟩ = some (.int .i64 c) ∧ W.cell? ⟨zb, 1, none⟩ = some (.slice a n cp)) ∧ (W.cell? ⟨ab, 0, none⟩ = some (.int .i64 ac) ∧ W.cell? ⟨ab, 1, none⟩ = some (.slice aa an acp)) ∧ W.cell? ⟨bb, 0, none⟩ = some (.int .i64 ac) ∧ W.cell? ⟨bb, 1, none⟩ = some (.slice ba bn bcp)) := Lib.hid (fun W hW => by
          obtain ⟨x1, x2, _⟩ := HZC.out W (below_next HB14.out hW)
          obtain ⟨y1, y2, _⟩ := two_cells (kept_block HZ14.out hW)
          obtain ⟨z1, z2, _⟩ := two_cells (kept_block HY14.out hW)
          exact ⟨⟨x1, x2⟩, ⟨y1, y2⟩, z1, z2⟩)
        have HV1 : Hid (∀ W, Below w14.heap.size w14 W → Calls Tryz.prog 44 #[.agg #[.int .i64 c, .slice a n cp]] W fun e w' => e = .returned (.bool (validB ⟨c, rs⟩)) ∧ Below W.heap.size W w') := Lib.hid (fun W hW => (valid_any c (HRW.out W (below_next HB14.out hW))).mono (fun _ _ ⟨h1, h2⟩ => ⟨h1, by rw [h2]; exact (Below.refl _ _).alloc (Nat.le_refl _) _⟩))
        have HV2 := Lib.hid (fun W (hW : Below w14.heap.size w14 W) => rvalid_any c (HRW.out W (below_next HB14.out hW)))
        have HSM : Hid (∀ W, Below w14.heap.size w14 W → Calls Tryz.prog 46 #[.agg #[.int .i64 ac, .slice aa an acp], .agg #[.int .i64 ac, .slice ba bn bcp]] W fun e w' => e = .returned (.bool true) ∧ Below W.heap.size W w') := Lib.hid (fun W hW => by
          have h := rsame_any ac ac (SS.below HA14.out hW) (SS.below HS14.out hW)
          rwa [decide_eq_true (show ac = ac ∧ aw = aw from ⟨rfl, rfl⟩)] at h)
        generalize validB ⟨c, rs⟩ = V at *
        go_cut [118] (fun t wx => t = .bool false ∧ Hid (Below w14.heap.size w14 wx))
        case first =>
          refine wp_region_noPanic ?_
          refine wp_region_lexB [.q 0, .q 2, .b 1, .b 3, .q 4, .q 5, .q 6, .q 7, .q 8, .q 9, .q 10, .q 11, .q 12, .b 13, .q 14, .q 15] (by as_aux_lemma => kernel_rfl) (by as_aux_lemma => kernel_rfl) (fun _ _ _ _ h => h) ?_
          refine wpFl_qL (v := ?_) rfl (Or.inl ⟨by rfl, ?_⟩) ?_
          rotate_left
          focus (intro w' hSw; (try dsimp only [OldKept] at hSw); obtain ⟨⟨c0, c1⟩, ⟨d0, d1⟩, e0, e1⟩ := HC.out w' hSw; go_simp; (try with_reducible rfl); done)
          simp only [Act.put, List.setIfInBounds_toArray, List.set_cons_zero, List.set_cons_succ]
          refine wpFl_qL (v := ?_) rfl (Or.inl ⟨by rfl, ?_⟩) ?_
          rotate_left
          focus (intro w' hSw; (try dsimp only [OldKept] at hSw); obtain ⟨⟨c0, c1⟩, ⟨d0, d1⟩, e0, e1⟩ := HC.out w' hSw; go_simp; (try with_reducible rfl); done)
          simp only [Act.put, List.setIfInBounds_toArray, List.set_cons_zero, List.set_cons_succ]
          refine wpFl_bL rfl (fun w15 hn15 hs15 K hK => ?_)
          go_simp
          go_at_call 44
          (with_reducible refine (HV1.out _ hs15).mono ?_)
          rintro e w16 ⟨rfl, hb16⟩
          refine hK.out _ _ (below_next hs15 hb16) (Keeps.below hb16) ?_
          clear hK K hn15 hs15 hb16
          refine wpFl_bL rfl (fun w17 hn17 hs17 K hK => ?_)
          go_simp
          go_at_call 45
          (with_reducible refine (HV2.out _ hs17).mono ?_)
          rintro e w18 ⟨rfl, hb18⟩
          refine hK.out _ _ (below_next hs17 hb18) (Keeps.below hb18) ?_
          clear hK K hn17 hs17 hb18
          refine wpFl_qL (v := .bool false) rfl (Or.inl ⟨by rfl, ?_⟩) ?_
          focus (intro w' hSw; cases V <;> go_simp; done)
          simp only [Act.put, List.setIfInBounds_toArray, List.set_cons_zero, List.set_cons_succ]
          refine wpFl_qL (v := ?_) rfl (Or.inl ⟨by rfl, ?_⟩) ?_
          rotate_left
          focus (intro w' hSw; (try dsimp only [OldKept] at hSw); go_simp; (try with_reducible rfl); done)
          simp only [Act.put, List.setIfInBounds_toArray, List.set_cons_zero, List.set_cons_succ]
          refine wpFl_qL (v := ?_) rfl (Or.inl ⟨by rfl, ?_⟩) ?_
          rotate_left
          focus (intro w' hSw; (try dsimp only [OldKept] at hSw); go_simp; (try with_reducible rfl); done)
          simp only [Act.put, List.setIfInBounds_toArray, List.set_cons_zero, List.set_cons_succ]
          refine wpFl_qL (v := ?_) rfl (Or.inl ⟨by rfl, ?_⟩) ?_
          rotate_left
          focus (intro w' hSw; (try dsimp only [OldKept] at hSw); go_simp; (try with_reducible rfl); done)
          simp only [Act.put, List.setIfInBounds_toArray, List.set_cons_zero, List.set_cons_succ]
          refine wpFl_qL (v := .bool false) rfl (Or.inl ⟨by rfl, ?_⟩) ?_
          focus (intro w' hSw; go_simp; done)
          simp only [Act.put, List.setIfInBounds_toArray, List.set_cons_zero, List.set_cons_succ]
          refine wpFl_qL (v := ?_) rfl (Or.inl ⟨by rfl, ?_⟩) ?_
          rotate_left
          focus (intro w' hSw; (try dsimp only [OldKept] at hSw); obtain ⟨⟨c0, c1⟩, ⟨d0, d1⟩, e0, e1⟩ := HC.out w' hSw; go_simp; (try with_reducible rfl); done)
          simp only [Act.put, List.setIfInBounds_toArray, List.set_cons_zero, List.set_cons_succ]
          refine wpFl_qL (v := ?_) rfl (Or.inl ⟨by rfl, ?_⟩) ?_
          rotate_left
          focus (intro w' hSw; (try dsimp only [OldKept] at hSw); obtain ⟨⟨c0, c1⟩, ⟨d0, d1⟩, e0, e1⟩ := HC.out w' hSw; go_simp; (try with_reducible rfl); done)
          simp only [Act.put, List.setIfInBounds_toArray, List.set_cons_zero, List.set_cons_succ]
          refine wpFl_qL (v := ?_) rfl (Or.inl ⟨by rfl, ?_⟩) ?_
          rotate_left
          focus (intro w' hSw; (try dsimp only [OldKept] at hSw); obtain ⟨⟨c0, c1⟩, ⟨d0, d1⟩, e0, e1⟩ := HC.out w' hSw; go_simp; (try with_reducible rfl); done)
          simp only [Act.put, List.setIfInBounds_toArray, List.set_cons_zero, List.set_cons_succ]
          refine wpFl_qL (v := ?_) rfl (Or.inl ⟨by rfl, ?_⟩) ?_
          rotate_left
          focus (intro w' hSw; (try dsimp only [OldKept] at hSw); obtain ⟨⟨c0, c1⟩, ⟨d0, d1⟩, e0, e1⟩ := HC.out w' hSw; go_simp; (try with_reducible rfl); done)
          simp only [Act.put, List.setIfInBounds_toArray, List.set_cons_zero, List.set_cons_succ]
          refine wpFl_bL rfl (fun w19 hn19 hs19 K hK => ?_)
          go_simp
          go_at_call 46
          (with_reducible refine (HSM.out _ hs19).mono ?_)
          rintro e w20 ⟨rfl, hb20⟩
          have HB20 := Lib.hid (below_next hs19 hb20)
          refine hK.out _ _ HB20.out (Keeps.below hb20) ?_
          clear hK K hn19 hs19 hb20
          refine wpFl_qL (v := ?_) rfl (Or.inl ⟨by rfl, ?_⟩) ?_
          rotate_left
          focus (intro w' hSw; (try dsimp only [OldKept] at hSw); go_simp; (try with_reducible rfl); done)
          simp only [Act.put, List.setIfInBounds_toArray, List.set_cons_zero, List.set_cons_succ]
          refine wpFl_qL (v := ?_) rfl (Or.inl ⟨by rfl, ?_⟩) ?_
          rotate_left
          focus (intro w' hSw; (try dsimp only [OldKept] at hSw); go_simp; (try with_reducible rfl); done)
          simp only [Act.put, List.setIfInBounds_toArray, List.set_cons_zero, List.set_cons_succ]
          refine wpFl_nil ?_
          refine NoPanic.normal ?_
          go_wp2
          go_meet
          case rel => exact ⟨rfl, HB20⟩
        case rest =>
        obtain ⟨ht118, HBc⟩ := hcut
        subst ht118
        have HM15 := Lib.hid (HM10.out.far (below_next HB14.out HBc.out))
        have HZ15 := Lib.hid (kept_block HZ10.out (below_next HB14.out HBc.out))
        clear HBc HV1 HV2 HSM HC HZ14 HY14 HA14 HS14 HRW HZC HB14 HM10 HZ10
        obtain ⟨w15, hw15⟩ : ∃ W, W = wc := ⟨_, rfl⟩
        rw [← hw15] at HM15 HZ15 ⊢
        clear hw15 wc
        have HC : Hid (∀ W, Below w15.heap.size w15 W → W.cell? ⟨zb, 0, none⟩ = some (.int .i64 c) ∧ W.cell? ⟨zb, 1, none⟩ = some (.slice a n cp)) := Lib.hid (fun W hW => by
          obtain ⟨x1, x2, _⟩ := two_cells (kept_block HZ15.out hW)
          exact ⟨x1, x2⟩)
        have HP1 := Lib.hid (fun W => lpick_any mm 13 W HIM.out (by omega) (by omega))
        have HP2 := Lib.hid (fun W => lpick_any nn 13 W HIN.out (by omega) (by omega))
        have HP3 := Lib.hid (fun W => lpick_any mm ((n : Int) + 1) W HIM.out (by omega) (by omega))
        have f1 : IntKind.i64.wrap ((n : Int) + 1) = (n : Int) + 1 := IntWalk.i64_in _ (by omega)
        generalize pickI mm 13 = pm at *
        generalize pickI nn 13 = pn at *
        generalize pickI mm ((n : Int) + 1) = pl at *
        go_upto_region 18 with fail
        refine wp_region_noPanic ?_
        refine wp_region_lexB [.q 0, .q 1, .q 2, .q 3, .q 5, .q 8, .q 9, .q 10, .q 11, .q 12, .q 14, .q 15, .q 16, .q 20, .b 4, .b 6, .q 7, .b 13, .q 17, .an 18, .co 18, .q 19] (by as_aux_lemma => kernel_rfl) (by as_aux_lemma => kernel_rfl) (fun _ _ _ _ h => h) ?_
        refine wpFl_qL (v := ?_) rfl (Or.inl ⟨by rfl, ?_⟩) ?_
        rotate_left
        focus (intro w' hSw; (try dsimp only [OldKept] at hSw); obtain ⟨c0, c1⟩ := HC.out w' hSw; go_simp; (try with_reducible rfl); done)
        simp only [Act.put, List.setIfInBounds_toArray, List.set_cons_zero, List.set_cons_succ]
        refine wpFl_qL (v := ?_) rfl (Or.inl ⟨by rfl, ?_⟩) ?_
        rotate_left
        focus (intro w' hSw; (try dsimp only [OldKept] at hSw); obtain ⟨c0, c1⟩ := HC.out w' hSw; go_simp; (try with_reducible rfl); done)
        simp only [Act.put, List.setIfInBounds_toArray, List.set_cons_zero, List.set_cons_succ]
        refine wpFl_qL (v := ?_) rfl (Or.inl ⟨by rfl, ?_⟩) ?_
        rotate_left
        focus (intro w' hSw; (try dsimp only [OldKept] at hSw); obtain ⟨c0, c1⟩ := HC.out w' hSw; go_simp; (try with_reducible rfl); done)
        simp only [Act.put, List.setIfInBounds_toArray, List.set_cons_zero, List.set_cons_succ]
        refine wpFl_qL (v := ?_) rfl (Or.inl ⟨by rfl, ?_⟩) ?_
        rotate_left
        focus (intro w' hSw; (try dsimp only [OldKept] at hSw); obtain ⟨c0, c1⟩ := HC.out w' hSw; go_simp; (try with_reducible rfl); done)
        simp only [Act.put, List.setIfInBounds_toArray, List.set_cons_zero, List.set_cons_succ]
        refine wpFl_qL (v := ?_) rfl (Or.inl ⟨by rfl, ?_⟩) ?_
        rotate_left
        focus (intro w' hSw; (try dsimp only [OldKept] at hSw); obtain ⟨c0, c1⟩ := HC.out w' hSw; go_simp; (try with_reducible rfl); done)
        simp only [Act.put, List.setIfInBounds_toArray, List.set_cons_zero, List.set_cons_succ]
        refine wpFl_qL (v := ?_) rfl (Or.inl ⟨by rfl, ?_⟩) ?_
        rotate_left
        focus (intro w' hSw; (try dsimp only [OldKept] at hSw); obtain ⟨c0, c1⟩ := HC.out w' hSw; go_simp; (try with_reducible rfl); done)
        simp only [Act.put, List.setIfInBounds_toArray, List.set_cons_zero, List.set_cons_succ]
        refine wpFl_qL (v := ?_) rfl (Or.inl ⟨by rfl, ?_⟩) ?_
        rotate_left
        focus (intro w' hSw; (try dsimp only [OldKept] at hSw); obtain ⟨c0, c1⟩ := HC.out w' hSw; go_simp; (try with_reducible rfl); done)
        simp only [Act.put, List.setIfInBounds_toArray, List.set_cons_zero, List.set_cons_succ]
        refine wpFl_qL (v := ?_) rfl (Or.inl ⟨by rfl, ?_⟩) ?_
        rotate_left
        focus (intro w' hSw; (try dsimp only [OldKept] at hSw); obtain ⟨c0, c1⟩ := HC.out w' hSw; go_simp; (try with_reducible rfl); done)
        simp only [Act.put, List.setIfInBounds_toArray, List.set_cons_zero, List.set_cons_succ]
        refine wpFl_qL (v := ?_) rfl (Or.inl ⟨by rfl, ?_⟩) ?_
        rotate_left
        focus (intro w' hSw; (try dsimp only [OldKept] at hSw); obtain ⟨c0, c1⟩ := HC.out w' hSw; go_simp; (try with_reducible rfl); done)
        simp only [Act.put, List.setIfInBounds_toArray, List.set_cons_zero, List.set_cons_succ]
        refine wpFl_qL (v := ?_) rfl (Or.inl ⟨by rfl, ?_⟩) ?_
        rotate_left
        focus (intro w' hSw; (try dsimp only [OldKept] at hSw); obtain ⟨c0, c1⟩ := HC.out w' hSw; go_simp; (try with_reducible rfl); done)
        simp only [Act.put, List.setIfInBounds_toArray, List.set_cons_zero, List.set_cons_succ]
        refine wpFl_qL (v := ?_) rfl (Or.inl ⟨by rfl, ?_⟩) ?_
        rotate_left
        focus (intro w' hSw; (try dsimp only [OldKept] at hSw); obtain ⟨c0, c1⟩ := HC.out w' hSw; go_simp; (try with_reducible rfl); done)
        simp only [Act.put, List.setIfInBounds_toArray, List.set_cons_zero, List.set_cons_succ]
        refine wpFl_qL (v := ?_) rfl (Or.inl ⟨by rfl, ?_⟩) ?_
        rotate_left
        focus (intro w' hSw; (try dsimp only [OldKept] at hSw); obtain ⟨c0, c1⟩ := HC.out w' hSw; go_simp; (try with_reducible rfl); done)
        simp only [Act.put, List.setIfInBounds_toArray, List.set_cons_zero, List.set_cons_succ]
        refine wpFl_qL (v := ?_) rfl (Or.inl ⟨by rfl, ?_⟩) ?_
        rotate_left
        focus (intro w' hSw; (try dsimp only [OldKept] at hSw); obtain ⟨c0, c1⟩ := HC.out w' hSw; go_simp; (try with_reducible rfl); done)
        simp only [Act.put, List.setIfInBounds_toArray, List.set_cons_zero, List.set_cons_succ]
        refine wpFl_qL (v := ?_) rfl (Or.inl ⟨by rfl, ?_⟩) ?_
        rotate_left
        focus (intro w' hSw; (try dsimp only [OldKept] at hSw); obtain ⟨c0, c1⟩ := HC.out w' hSw; go_simp; (try with_reducible rfl); done)
        simp only [Act.put, List.setIfInBounds_toArray, List.set_cons_zero, List.set_cons_succ]
        refine wpFl_bL rfl (fun w16 hn16 hs16 K hK => ?_)
        go_simp
        go_at_call 16
        (with_reducible refine (HP1.out _).mono ?_)
        rintro e w' ⟨rfl, hw'⟩
        replace hw' := hw'.symm
        subst hw'
        refine hK.out _ _ hs16 (Keeps.below (Below.refl _ _)) ?_
        clear hK K hn16 hs16
        refine wpFl_bL rfl (fun w17 hn17 hs17 K hK => ?_)
        go_simp
        go_at_call 16
        (with_reducible refine (HP2.out _).mono ?_)
        rintro e w' ⟨rfl, hw'⟩
        replace hw' := hw'.symm
        subst hw'
        refine hK.out _ _ hs17 (Keeps.below (Below.refl _ _)) ?_
        clear hK K hn17 hs17
        refine wpFl_qL (v := ?_) rfl (Or.inl ⟨by rfl, ?_⟩) ?_
        rotate_left
        focus (intro w' hSw; (try dsimp only [OldKept] at hSw); go_simp; (try with_reducible rfl); done)
        simp only [Act.put, List.setIfInBounds_toArray, List.set_cons_zero, List.set_cons_succ]
        refine wpFl_bL rfl (fun w18 hn18 hs18 K hK => ?_)
        go_simp
        go_at_call 16
        (with_reducible refine (HP3.out _).mono ?_)
        rintro e w' ⟨rfl, hw'⟩
        replace hw' := hw'.symm
        subst hw'
        refine hK.out _ _ hs18 (Keeps.below (Below.refl _ _)) ?_
        clear hK K hn18 hs18
        refine wpFl_qL (v := ?_) rfl (Or.inl ⟨by rfl, ?_⟩) ?_
        rotate_left
        focus (intro w' hSw; (try dsimp only [OldKept] at hSw); go_simp; (try with_reducible rfl); done)
        simp only [Act.put, List.setIfInBounds_toArray, List.set_cons_zero, List.set_cons_succ]
        refine wpFl_anL rfl (.cells #[.int .i64 mm, .int .i64 nn, .int .i64 pm, .int .i64 pn, .int .i64 pl, .int .i64 n] 68 (0, 0)) (fun n => .slice (some ⟨n, 0, none⟩) 3 3) ⟨by rfl, fun w' => ?_⟩ ?_
        focus (go_simp; done)
        refine wpFl_coL rfl (.cells #[.int .i64 mm, .int .i64 nn, .int .i64 pm, .int .i64 pn, .int .i64 pl, .int .i64 n] 68 (0, 0)) (fun n => .slice (some ⟨n, 0, none⟩) 3 3) (by rfl) (N' := []) (by rfl) (fun tb w19 hn_w19 hs_w19 hb_tb hz_tb => ?_)
        simp only [Act.put, List.setIfInBounds_toArray, List.set_cons_zero, List.set_cons_succ]
        have HM19 := Lib.hid (HM15.out.far hs_w19)
        have HZ19 := Lib.hid (kept_block HZ15.out hs_w19)
        have HT19 := Lib.hid hz_tb
        clear hn_w19 hs_w19 hb_tb hz_tb HP1 HP2 HP3 HC HM15 HZ15 f1
        refine wpFl_qL (v := ?_) rfl (Or.inl ⟨by rfl, ?_⟩) ?_
        rotate_left
        focus (intro w' hSw; (try dsimp only [OldKept] at hSw); go_simp; (try with_reducible rfl); done)
        simp only [Act.put, List.setIfInBounds_toArray, List.set_cons_zero, List.set_cons_succ]
        refine wpFl_nil ?_
        refine NoPanic.normal ?_
        obtain ⟨TB, hTB⟩ : ∃ TB, TB = pairsB mm nn pm pn pl n := ⟨_, rfl⟩
        have HT2 : Hid (w19.heap[tb]? = some (.cells TB 68 (0, 0))) := Lib.hid (by rw [hTB]; exact HT19.out)
        have HTC := Lib.hid (pairs_at mm nn pm pn pl n tb)
        rw [← hTB] at HTC
        have HB0 := Lib.hid (MB.two HM19.out HZ19.out HT2.out)
        clear HM19 HZ19 HT19 HT2 hTB
        go_upto_block 2 with fail
        go_wp2
        go_loopw [25, 26, 139] (fun hv pv i wr => ∃ (t : Nat) (a' : Option Addr) (c' : Nat) (a'' : Option Addr) (c'' : Nat) (hs : List HeadP) (ps : List (List ByteArray × Value)), t ≤ 3 ∧ i = .int .i64 t ∧ hv = .slice a' (9 * k + 3 * t) c' ∧ pv = .slice a'' (3 * k + t) c'' ∧ hs.length = 9 * k + 3 * t ∧ ps.length = 3 * k + t ∧ Hid (MB w9 wr hv pv hs ps [(zb, #[.int .i64 c, .slice a n cp], 26), (tb, TB, 68)])) (fun _ _ i _ => 3 - (intOf i).toNat)
        case atStart => exact ⟨0, ha, hc, pa, pc, hs, ps, by omega, rfl, rfl, rfl, hhl, hpl, HB0⟩
        case round =>
          clear HB0 hhl hpl
          obtain ⟨t, ha, hc, pa, pc, hs, ps, ht, rfl, rfl, rfl, hhl, hpl, hM⟩ := hrel
          by_cases hlt : t < 3
          · obtain ⟨s0, s1, hpc⟩ := HTC.out t hlt
            obtain ⟨p0, p1⟩ := hpc wr (hM.out.2.cell 1 rfl)
            have tt : (t : Int) < 3 := by omega
            have tt0 : (0 : Int) ≤ (t : Int) := by omega
            go_upto_region 21 with fail
            have HS20 : Hid ((wr.alloc (.cells #[.int .i64 s0, .int .i64 s1] 68)).heap[wr.heap.size]? = some (.cells #[.int .i64 s0, .int .i64 s1] 68 (0, 0))) := Lib.hid (heap_alloc_new wr _)
            have HM20 : Hid (MB w9 (wr.alloc (.cells #[.int .i64 s0, .int .i64 s1] 68)) (.slice ha (9 * k + 3 * t) hc) (.slice pa (3 * k + t) pc) hs ps [(zb, #[.int .i64 c, .slice a n cp], 26), (tb, TB, 68)]) := Lib.hid (hM.out.far ((Below.refl _ _).alloc (Nat.le_refl _) _))
            obtain ⟨w20, hw20⟩ : ∃ W, W = wr.alloc (.cells #[.int .i64 s0, .int .i64 s1] 68) := ⟨_, rfl⟩
            rw [← hw20] at HS20 HM20 ⊢
            generalize wr.heap.size = sb at *
            clear p0 p1 hM hw20 hpc
            have HB20 := Lib.hid (HM20.out.put HS20.out (by decide) (by decide))
            simp only [List.cons_append, List.nil_append] at HB20
            clear HM20 HS20
            go_upto_block 4 with fail
            have HS21 : Hid ((w20.alloc (.cells #[.string S, .string key] 9)).heap[w20.heap.size]? = some (.cells #[.string S, .string key] 9 (0, 0))) := Lib.hid (heap_alloc_new w20 _)
            have HM21 := Lib.hid (HB20.out.far ((Below.refl _ _).alloc (Nat.le_refl _) (.cells #[.string S, .string key] 9)))
            obtain ⟨w21, hw21⟩ : ∃ W, W = w20.alloc (.cells #[.string S, .string key] 9) := ⟨_, rfl⟩
            rw [← hw21] at HS21 HM21 ⊢
            generalize w20.heap.size = kb at *
            clear HB20 hw21
            have HB21 := Lib.hid (HM21.out.put HS21.out (by decide) (by decide))
            simp only [List.cons_append, List.nil_append] at HB21
            clear HM21 HS21
            have HKC := Lib.hid (keys_at S key hS33 (by rw [HK32.out]; omega) kb)
            go_wp2
            go_loopw [25, 147] (fun hv i wr => ∃ (j : Nat) (a' : Option Addr) (c' : Nat) (hs : List HeadP), j ≤ 2 ∧ i = .int .i64 j ∧ hv = .slice a' (9 * k + 3 * t + j) c' ∧ hs.length = 9 * k + 3 * t + j ∧ Hid (MB w9 wr hv (.slice pa (3 * k + t) pc) hs ps [(zb, #[.int .i64 c, .slice a n cp], 26), (tb, TB, 68), (sb, #[.int .i64 s0, .int .i64 s1], 68), (kb, #[.string S, .string key], 9)])) (fun _ i _ => 2 - (intOf i).toNat)
            case atStart => exact ⟨0, ha, hc, hs, by omega, rfl, rfl, hhl, HB21⟩
            case round =>
              clear HB21 hhl
              obtain ⟨j, ha, hc, hs, hj, rfl, rfl, hhl, hM⟩ := hrel
              obtain ⟨c0, c1, _⟩ := two_cells (hM.out.2.cell 0 rfl)
              obtain ⟨p0, p1, _⟩ := two_cells (hM.out.2.cell 2 rfl)
              by_cases hlj : j < 2
              · obtain ⟨kk, hkk, hkc⟩ := HKC.out j hlj
                have kc := hkc wr (hM.out.2.cell 3 rfl)
                have tj : (j : Int) < 2 := by omega
                have tj0 : (0 : Int) ≤ (j : Int) := by omega
                obtain ⟨h1, h2, h3, h4, er, hfit, hsg, hrg⟩ := sgn_both K9.out kk c s1 HRS.out
                have HSG := Lib.hid hsg
                have HRG := Lib.hid hrg
                have HFIT := Lib.hid hfit
                clear hsg hrg hfit hkc
                go_wp2_with fail
                refine (HSG.out wr hM.out.1.1).mono ?_
                rintro e w24 ⟨rfl, hb24⟩
                have HM24 := Lib.hid (hM.out.far hb24)
                clear kc c0 c1 p0 p1 hM hb24 HSG
                go_upto_region 25 with fail
                have HX25 : Hid ((w24.alloc (.cells #[.int .i64 h1, .int .i64 h2, .string h3, .string h4] 35)).heap[w24.heap.size]? = some (.cells #[.int .i64 h1, .int .i64 h2, .string h3, .string h4] 35 (0, 0))) := Lib.hid (heap_alloc_new w24 _)
                have HM25 := Lib.hid (HM24.out.far ((Below.refl _ _).alloc (Nat.le_refl _) (.cells #[.int .i64 h1, .int .i64 h2, .string h3, .string h4] 35)))
                obtain ⟨w25, hw25⟩ : ∃ W, W = w24.alloc (.cells #[.int .i64 h1, .int .i64 h2, .string h3, .string h4] 35) := ⟨_, rfl⟩
                rw [← hw25] at HX25 HM25 ⊢
                generalize w24.heap.size = xb at *
                clear hw25 HM24
                obtain ⟨c0, c1, _⟩ := two_cells (HM25.out.2.cell 0 rfl)
                obtain ⟨p0, p1, _⟩ := two_cells (HM25.out.2.cell 2 rfl)
                go_wp2_with fail
                refine (HRG.out w25 HM25.out.1.1).mono ?_
                rintro e w26 ⟨rfl, hb26⟩
                have HM26 := Lib.hid (HM25.out.far hb26)
                have HX26 := Lib.hid (kept_block HX25.out hb26)
                clear c0 c1 p0 p1 hb26 HRG HM25 HX25
                go_upto_region 26 with fail
                have HY27 : Hid ((w26.alloc (.cells #[.int .i64 h1, .int .i64 h2, .string h3, .string h4] 35)).heap[w26.heap.size]? = some (.cells #[.int .i64 h1, .int .i64 h2, .string h3, .string h4] 35 (0, 0))) := Lib.hid (heap_alloc_new w26 _)
                have HX27 := Lib.hid (kept_block HX26.out ((Below.refl _ _).alloc (Nat.le_refl _) (.cells #[.int .i64 h1, .int .i64 h2, .string h3, .string h4] 35)))
                have HM27 := Lib.hid (HM26.out.far ((Below.refl _ _).alloc (Nat.le_refl _) (.cells #[.int .i64 h1, .int .i64 h2, .string h3, .string h4] 35)))
                obtain ⟨w27, hw27⟩ : ∃ W, W = w26.alloc (.cells #[.int .i64 h1, .int .i64 h2, .string h3, .string h4] 35) := ⟨_, rfl⟩
                rw [← hw27] at HX27 HY27 HM27 ⊢
                generalize w26.heap.size = yb at *
                clear hw27 HM26 HX26
                obtain ⟨x0, x1, x2, x3⟩ := four_cells HX27.out
                obtain ⟨y0, y1, y2, y3⟩ := four_cells HY27.out
                have st3 : (h3.toList == h3.toList) = true := by rw [same_str]; exact decide_eq_true rfl
                have st4 : (h4.toList == h4.toList) = true := by rw [same_str]; exact decide_eq_true rfl
                go_upto_region 28 with fail
                clear x0 x1 x2 x3 st3 st4
                have HN28 : Hid ((w27.alloc (.cells #[.int .i64 h1, .int .i64 h2, .string h3, .string h4] 35)).heap[w27.heap.size]? = some (.cells #[.int .i64 h1, .int .i64 h2, .string h3, .string h4] 35 (0, 0))) := Lib.hid (heap_alloc_new w27 _)
                have HM28 := Lib.hid (HM27.out.far ((Below.refl _ _).alloc (Nat.le_refl _) (.cells #[.int .i64 h1, .int .i64 h2, .string h3, .string h4] 35)))
                have hlen : hs.length ≤ 100000 := by omega
                go_wp2_with (at_builtin; refine wpList_append_head _ _ w9.heap.size _ hs w27.heap.size ⟨h1, h2, h3, h4⟩ (0, 0) HM28.out.1.2.1 hlen HM28.out.1.1.size HN28.out rfl rfl rfl rfl ?_; intro v9 w28 hown9 hgr9; have HO9 := Lib.hid hown9; have HG9 := Lib.hid hgr9; clear hown9 hgr9)
                have HM29 := Lib.hid (HM28.out.head ⟨h1, h2, h3, h4⟩ HFIT.out HO9.out HG9.out)
                obtain ⟨a9, c9, hv9⟩ := OwnE.form HO9.out
                replace hv9 : v9 = .slice a9 (9 * k + 3 * t + (j + 1)) c9 := by
                  rw [hv9, hdcells_len, List.length_append, hhl]
                  rfl
                subst hv9
                clear y0 y1 y2 y3 HM27 HX27 HY27 HN28 HM28 HO9 HG9
                go_wp2
                go_roundw
                case rel => exact ⟨j + 1, a9, c9, _, by omega, by go_num, rfl, by rw [List.length_append, hhl]; rfl, HM29⟩
                case measure => simp [intOf]; omega
              · have tj : ¬ (j : Int) < 2 := by omega
                obtain rfl : j = 2 := by omega
                obtain ⟨gz, er, hpf, hgr, hrr⟩ := grw_both K9.out c s0 s1 HRS.out
                obtain ⟨h1, h2, h3, h4, er2, hfit, _, hrg⟩ := sgn_both K9.out key c s0 HRS.out
                have HGR := Lib.hid hgr
                have HRR := Lib.hid hrr
                have HRG := Lib.hid hrg
                have HPF := Lib.hid hpf
                have HFIT := Lib.hid hfit
                clear hpf hgr hrr hfit hrg
                obtain ⟨gn, hgn⟩ : ∃ gn, gn = gz.length := ⟨_, rfl⟩
                unfold GrwIs at HGR
                unfold RGrwIs at HRR
                rw [← hgn] at HGR HRR
                clear hgn
                go_wp2_with fail
                refine (HGR.out wr hM.out.1.1).mono ?_
                rintro e w30 ⟨ga, gc, rfl, hg30, hb30⟩
                have HM30 := Lib.hid (hM.out.far hb30)
                have HG30 := Lib.hid hg30
                clear c0 c1 p0 p1 hM hb30 hg30 HGR
                obtain ⟨c0, c1, _⟩ := two_cells (HM30.out.2.cell 0 rfl)
                obtain ⟨p0, p1, _⟩ := two_cells (HM30.out.2.cell 2 rfl)
                go_wp2_with fail
                refine (HRR.out w30 HM30.out.1.1).mono ?_
                rintro e w31 ⟨ra, rc, rfl, hr31, ht31, hb31⟩
                have HM31 := Lib.hid (HM30.out.far hb31)
                have HG31 := Lib.hid (SS.below HG30.out hb31)
                have HR31 := Lib.hid hr31
                have HT31 := Lib.hid ht31
                clear c0 c1 p0 p1 HM30 HG30 hr31 ht31 hb31 HRR
                go_wp2_with fail
                refine (same_self HG31.out HR31.out).mono ?_
                rintro e w32 ⟨rfl, hb32⟩
                have HM32 := Lib.hid (HM31.out.far hb32)
                have HR32 := Lib.hid (SS.below HR31.out hb32)
                have HT32 := Lib.hid (HT31.out.below hb32)
                clear HM31 HG31 HR31 HT31 hb32
                go_upto_region 34 with fail
                have HN33 : Hid ((w32.alloc (.cells #[.slice ra gn rc] 24)).heap[w32.heap.size]? = some (.cells #[.slice ra gn rc] 24 (0, 0))) := Lib.hid (heap_alloc_new w32 _)
                have HM33 := Lib.hid (HM32.out.far ((Below.refl _ _).alloc (Nat.le_refl _) (.cells #[.slice ra gn rc] 24)))
                have HR33 := Lib.hid (SS.below HR32.out ((Below.refl _ _).alloc (Nat.le_refl _) (.cells #[.slice ra gn rc] 24)))
                have HT33 := Lib.hid (HT32.out.below ((Below.refl _ _).alloc (Nat.le_refl _) (.cells #[.slice ra gn rc] 24)))
                have hlen : ps.length ≤ 100000 := by omega
                go_upto_region 35 with (at_builtin; refine wpList_append_proof _ _ w9.heap.size _ ps w32.heap.size (gz, .slice ra gn rc) (0, 0) HM33.out.1.2.2.1 hlen HM33.out.1.1.size rfl HN33.out rfl rfl rfl rfl ?_; intro v9 w34 hown9 hgr9; have HO9 := Lib.hid hown9; have HG9 := Lib.hid hgr9; clear hown9 hgr9)
                have HM34 := Lib.hid (HM33.out.proof (gz, .slice ra gn rc) HR33.out HT33.out HPF.out HO9.out HG9.out)
                obtain ⟨q9, d9, hv9⟩ := OwnE.form HO9.out
                replace hv9 : v9 = .slice q9 (3 * k + (t + 1)) d9 := by
                  rw [hv9, prcells_len, List.length_append, hpl]
                  exact congrArg (fun n => Value.slice q9 n d9) (show 3 * k + t + 1 = 3 * k + (t + 1) by omega)
                subst hv9
                have hpl' : (ps ++ [(gz, Value.slice ra gn rc)]).length = 3 * k + (t + 1) := by
                  rw [List.length_append, hpl]
                  rfl
                clear HM32 HR32 HT32 HN33 HM33 HR33 HT33 HO9 HG9 HPF hlen
                generalize ps ++ [(gz, Value.slice ra gn rc)] = ps9 at *
                obtain ⟨c0, c1, _⟩ := two_cells (HM34.out.2.cell 0 rfl)
                obtain ⟨p0, p1, _⟩ := two_cells (HM34.out.2.cell 2 rfl)
                go_wp2_with fail
                have hw34 := HM34.out.1.1
                refine (HRG.out w34 hw34).mono ?_
                rintro e w35 ⟨rfl, hb35⟩
                have HM35 := Lib.hid (HM34.out.far hb35)
                clear c0 c1 p0 p1 hw34 hb35 HM34 HRG
                go_upto_region 36 with fail
                have HX36 : Hid ((w35.alloc (.cells #[.int .i64 h1, .int .i64 h2, .string h3, .string h4] 35)).heap[w35.heap.size]? = some (.cells #[.int .i64 h1, .int .i64 h2, .string h3, .string h4] 35 (0, 0))) := Lib.hid (heap_alloc_new w35 _)
                have HM36 := Lib.hid (HM35.out.far ((Below.refl _ _).alloc (Nat.le_refl _) (.cells #[.int .i64 h1, .int .i64 h2, .string h3, .string h4] 35)))
                obtain ⟨w36, hw36⟩ : ∃ W, W = w35.alloc (.cells #[.int .i64 h1, .int .i64 h2, .string h3, .string h4] 35) := ⟨_, rfl⟩
                rw [← hw36] at HX36 HM36 ⊢
                generalize w35.heap.size = xb at *
                clear hw36 HM35
                obtain ⟨x0, x1, x2, x3⟩ := four_cells HX36.out
                have HN37 : Hid ((w36.alloc (.cells #[.int .i64 h1, .int .i64 h2, .string h3, .string h4] 35)).heap[w36.heap.size]? = some (.cells #[.int .i64 h1, .int .i64 h2, .string h3, .string h4] 35 (0, 0))) := Lib.hid (heap_alloc_new w36 _)
                have HM37 := Lib.hid (HM36.out.far ((Below.refl _ _).alloc (Nat.le_refl _) (.cells #[.int .i64 h1, .int .i64 h2, .string h3, .string h4] 35)))
                have hlen : hs.length ≤ 100000 := by omega
                go_wp2_with (at_builtin; refine wpList_append_head _ _ w9.heap.size _ hs w36.heap.size ⟨h1, h2, h3, h4⟩ (0, 0) HM37.out.1.2.1 hlen HM37.out.1.1.size HN37.out rfl rfl rfl rfl ?_; intro v9 w37 hown9 hgr9; have HO9 := Lib.hid hown9; have HG9 := Lib.hid hgr9; clear hown9 hgr9)
                have HM38 := Lib.hid (HM37.out.head ⟨h1, h2, h3, h4⟩ HFIT.out HO9.out HG9.out)
                obtain ⟨a9, c9, hv9⟩ := OwnE.form HO9.out
                replace hv9 : v9 = .slice a9 (9 * k + 3 * (t + 1)) c9 := by
                  rw [hv9, hdcells_len, List.length_append, hhl]
                  exact congrArg (fun n => Value.slice a9 n c9) (show 9 * k + 3 * t + 2 + 1 = 9 * k + 3 * (t + 1) by omega)
                subst hv9
                clear x0 x1 x2 x3 HM36 HX36 HN37 HM37 HO9 HG9
                go_wp2
                go_roundw
                case rel => exact ⟨t + 1, a9, c9, q9, d9, _, _, by omega, by go_num, rfl, rfl, (by rw [List.length_append, hhl]; show 9 * k + 3 * t + 2 + 1 = _; omega), hpl', Lib.hid (MB.pre (xs := [(zb, #[.int .i64 c, .slice a n cp], 26), (tb, TB, 68)]) _ HM38.out)⟩
                case measure => simp [intOf]; omega
          · have tk : ¬ (t : Int) < 3 := by omega
            obtain rfl : t = 3 := by omega
            go_wp2
            go_roundw
            case rel => exact ⟨k + 1, ha, hc, pa, pc, hs, ps, by omega, by go_num, rfl, rfl, by omega, by omega, Lib.hid hM.out.1⟩
            case measure => simp [intOf]; omega
      · have tk : ¬ (k : Int) < 3 := by omega
        obtain rfl : k = 3 := by omega
        go_wp2
        go_meet
        case rel => exact ⟨ha, hc, pa, pc, hs, ps, rfl, rfl, hhl, hpl, hM⟩
  case rest =>
  rename_i hKK
  obtain ⟨ha, hc, pa, pc, hs, ps, rfl, rfl, hhl, hpl, hM⟩ := hcut
  obtain ⟨hb, ho, rfl, hhd⟩ := hM.out.heads hhl (by omega)
  obtain ⟨pb, po, rfl, hpr⟩ := hM.out.proofs hpl (by omega)
  have K38 := Lib.hid (K9.out.step hM.out.1)
  have HHD := Lib.hid hhd
  have HPR := Lib.hid hpr
  clear hhd hpr hM HREG HM0 hhl hpl
  refine hKK _ _ (wp_of_eq (match_tail nn how key S _ _ _ _ _ _ _ _ _ _ _ _ _ _ _ _ _ _ _ _ _ _ _ _ _ _ _ _ _ _ _ _ _ _ _ _ _ _ _ _ _ _ _ _ _ _ _ _ _ _ _ _ _ _ _ _ _ _ _ _ _ _ _ _ _ _ _ _ _ _ _ _ _ _ _ _ _ _ _ _ _ _ _ _ _ _ _ _ _ _ _ _ _ _ _ _ _ _ _ _ _ _ _ _ _ _ _ _ _ _ _ _ _ _ _ _ _ _ _ _ _ _ _ _ _ _ _ _ _ _ _ _ _ _ _ _ _ _ _ _ _ _ _ _ _ _ _ _ _ _ _ _ _ _ _ _ _ _ _ _ _ _ _ _ _ _ _ _ _ _ _ _ _ _ _ _ _ _ _ _ _ _ _ _ _ _ _ _ _ _ _ _ _ _ _ _ _ _ _ _ _ _ _ _ _ _ _ _ _ _ _ _ _ _ _ _ _ _ _ _ _ _ _ _ _ _ _ _ _ _ _ _ _ _ _ _ _ _ _ _ _ _ _ _ _ _ _ _ _ _ _ _ _ _ _ _ _ _ _ _ _ _ _ _ _ _ _ _ _ _ _ _ _ _ _ _ _ _ _ _ _ _ _ _ _ _ _ _ _ _ _ _ _ _ _ _ _ _ _ _ _ _ _ _ _ _ _ _ _ _ _ _ _ _ _ _ _ HK32 hS33 HIH HIN K38 HHD HPR).choose_spec.2 ?_)
  exact tail_eq (match_tail nn how key S _ _ _ _ _ _ _ _ _ _ _ _ _ _ _ _ _ _ _ _ _ _ _ _ _ _ _ _ _ _ _ _ _ _ _ _ _ _ _ _ _ _ _ _ _ _ _ _ _ _ _ _ _ _ _ _ _ _ _ _ _ _ _ _ _ _ _ _ _ _ _ _ _ _ _ _ _ _ _ _ _ _ _ _ _ _ _ _ _ _ _ _ _ _ _ _ _ _ _ _ _ _ _ _ _ _ _ _ _ _ _ _ _ _ _ _ _ _ _ _ _ _ _ _ _ _ _ _ _ _ _ _ _ _ _ _ _ _ _ _ _ _ _ _ _ _ _ _ _ _ _ _ _ _ _ _ _ _ _ _ _ _ _ _ _ _ _ _ _ _ _ _ _ _ _ _ _ _ _ _ _ _ _ _ _ _ _ _ _ _ _ _ _ _ _ _ _ _ _ _ _ _ _ _ _ _ _ _ _ _ _ _ _ _ _ _ _ _ _ _ _ _ _ _ _ _ _ _ _ _ _ _ _ _ _ _ _ _ _ _ _ _ _ _ _ _ _ _ _ _ _ _ _ _ _ _ _ _ _ _ _ _ _ _ _ _ _ _ _ _ _ _ _ _ _ _ _ _ _ _ _ _ _ _ _ _ _ _ _ _ _ _ _ _ _ _ _ _ _ _ _ _ _ _ _ _ _ _ _ _ _ _ _ _ _ _ _ HK32 hS33 HIH HIN K38 HHD HPR).choose_spec.1
end Go.Proofs.YtinfpbkbnhcifaaGreatDoor
