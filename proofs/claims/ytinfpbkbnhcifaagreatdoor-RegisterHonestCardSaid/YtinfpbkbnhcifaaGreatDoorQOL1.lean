/- The walk of RegisterHonest. The conditions: what the slice reads as, ranges, the table of constants. -/
import Derived.Test.YtinfpbkbnhcifaaGreatDoorQLW3
namespace Go.Proofs.YtinfpbkbnhcifaaGreatDoor
open Go.RowKit Go.BigFrame

theorem three_cells {W : World} {b : Nat} {c0 c1 c2 : Value} {T : TypeId} (h : W.heap[b]? = some (.cells #[c0, c1, c2] T (0, 0))) : W.cell? ⟨b, 0, none⟩ = some c0 ∧ W.cell? ⟨b, 1, none⟩ = some c1 ∧ W.cell? ⟨b, 2, none⟩ = some c2 :=
  ⟨cell_of_row W _ 0 _ _ _ h, cell_of_row W _ 1 _ _ _ h, cell_of_row W _ 2 _ _ _ h⟩
set_option maxHeartbeats 12000000 in
set_option maxRecDepth 100000 in
theorem honest_walk {w : World} (carrier s0 s1 b0 b1 how nn at' : Int) {vx : Value} {x : List Int} (hx : IL w vx x) (ic : I64 carrier) (ix : ∀ n ∈ x, I64 n) (is : I64 s0 ∧ I64 s1) (ib : I64 b0 ∧ I64 b1) (ih : I64 how) (inn : I64 nn) (ia : I64 at') (he : Env w) (hg : 0 < w.heap.size) :
    Calls Tryz.prog 6 #[.int .i64 carrier, vx, .agg #[.int .i64 s0, .int .i64 s1], .agg #[.int .i64 b0, .int .i64 b1], .int .i64 how, .int .i64 nn, .int .i64 at'] w fun e w' => e = .returned (.bool true) ∧ Below w.heap.size w w' := by
  have hpk := pickI_range carrier (n := 8) (by omega)
  obtain ⟨cn, hcn⟩ := Int.eq_ofNat_of_zero_le hpk.1
  have hc7 : cn ≤ 7 := by omega
  have HV : Hid (validB ⟨(cn : Int), madeL x⟩ = true) := Lib.hid (by rw [← hcn]; exact made_valid carrier x)
  have HIX := Lib.hid ix
  have HX := Lib.hid hx
  have HIC := Lib.hid ic
  have HIH := Lib.hid ih
  have HIN := Lib.hid inn
  have HIA := Lib.hid ia
  obtain ⟨is0, is1⟩ := is
  obtain ⟨ib0, ib1⟩ := ib
  have HB0 := Lib.hid ib0
  have HB1 := Lib.hid ib1
  have K0 := Lib.hid (Know.start he hg)
  clear hpk ix hx ic he hg ih inn ia ib0 ib1
  obtain ⟨xs, hxs⟩ : ∃ xs, xs = madeL x := ⟨_, rfl⟩
  have hm12 : xs.length ≤ 12 := by rw [hxs]; exact madeL_len x
  have HSM : Hid (∀ s ∈ xs, s.size ≤ 2) := Lib.hid (by rw [hxs]; exact madeL_small x)
  rw [← hxs] at HV
  have HXS := Lib.hid hxs
  clear hxs
  go_enter Tryz.func6, Tryz.ntmps6
  go_upto_region 1 with fail
  have k00 := (K0.out.box #[.int .i64 s0, .int .i64 s1] 68).box #[.int .i64 b0, .int .i64 b1] 68
  obtain ⟨w00, hw00⟩ : ∃ W, W = (w.alloc (.cells #[.int .i64 s0, .int .i64 s1] 68)).alloc (.cells #[.int .i64 b0, .int .i64 b1] 68) := ⟨_, rfl⟩
  have hsz : (w.alloc (.cells #[.int .i64 s0, .int .i64 s1] 68)).heap.size = w.heap.size + 1 := by simp
  rw [← hw00, hsz] at k00
  rw [← hw00]
  clear hw00 hsz
  generalize w.heap.size + 1 = bb at *
  obtain ⟨sb, hsb⟩ : ∃ sb, sb = w.heap.size := ⟨_, rfl⟩
  rw [← hsb] at k00 ⊢
  clear hsb
  simp only [List.nil_append, List.cons_append] at k00
  have K00 := Lib.hid k00
  clear k00 K0
  go_wp2_with fail
  refine (sane_at K00.out).mono ?_
  rintro e w1 ⟨rfl, kw1⟩
  have K1 := Lib.hid kw1
  clear kw1 K00
  go_wp2_with fail
  refine (made_at K1.out (HX.out.below K1.out.below) HIX.out carrier HIC.out).mono ?_
  rintro e w2 ⟨vr, rfl, k2⟩
  rw [← HXS.out] at k2
  rw [hcn]
  obtain ⟨ar, cr, rfl⟩ := (k2.all 2 _ rfl : SS w2 vr xs).form2
  simp only [List.nil_append, List.cons_append] at k2
  have K2 := Lib.hid k2
  clear k2 K1 HX HIX HIC hcn HXS
  obtain ⟨m, hm⟩ : ∃ m, m = xs.length := ⟨_, rfl⟩
  rw [← hm] at hm12 K2 ⊢
  have HM := Lib.hid hm
  clear hm
  go_upto_region 5 with fail
  have kw3 := K2.out.box #[.int .i64 cn, .slice ar m cr] 26
  obtain ⟨w3, hww3⟩ : ∃ W, W = w2.alloc (.cells #[.int .i64 cn, .slice ar m cr] 26) := ⟨_, rfl⟩
  rw [← hww3] at kw3 ⊢
  clear hww3
  generalize w2.heap.size = rb at kw3 ⊢
  simp only [List.nil_append, List.cons_append] at kw3
  have K3 := Lib.hid kw3
  clear kw3 K2
  obtain ⟨rc0, rc1⟩ := K3.out.duo (i := 3) rfl
  go_wp2_with fail
  clear rc0 rc1
  refine (key_at K3.out cn (by omega)).mono ?_
  rintro e w6 ⟨rfl, kw6⟩
  have K6 := Lib.hid kw6
  clear kw6 K3
  have HK32 := Lib.hid (keyS_size (cn : Int))
  generalize keyS (cn : Int) = key at *
  have HPK := Lib.hid (fun W => lpick_any s0 ((m : Int) + 1) W is0 (by omega) (by omega))
  obtain ⟨p0, p1⟩ := pickI_range s0 (n := (m : Int) + 1) (by omega)
  obtain ⟨na, hna⟩ := Int.eq_ofNat_of_zero_le p0
  rw [hna] at HPK p1
  have hnam : na ≤ m := by omega
  have HPZ := Lib.hid (fun W => lpick_any s1 ((m : Int) + 1) W is1 (by omega) (by omega))
  obtain ⟨p2, p3⟩ := pickI_range s1 (n := (m : Int) + 1) (by omega)
  obtain ⟨nb, hnb⟩ := Int.eq_ofNat_of_zero_le p2
  rw [hnb] at HPZ p3
  have hnbm : nb ≤ m := by omega
  have f1 : IntKind.i64.wrap ((m : Int) + 1) = (m : Int) + 1 := IntWalk.i64_in _ (by omega)
  clear hna hnb p0 p1 p2 p3 is0 is1
  obtain ⟨rc0, rc1⟩ := K6.out.duo (i := 3) rfl
  obtain ⟨sc0, sc1⟩ := K6.out.duo (i := 0) rfl
  go_upto_region 8 with (go_at_call 16; (first | (with_reducible refine (HPK.out _).mono ?_) | (with_reducible refine (HPZ.out _).mono ?_)); rintro e w' ⟨rfl, hw'⟩; replace hw' := hw'.symm; subst hw')
  clear HPK HPZ f1 rc0 rc1 sc0 sc1
  obtain ⟨⟨⟨c1P, c2P, c3P, c4P⟩, isP⟩, hpP⟩ : ∃ p : PartP, p = partS key cn xs na (idxS b0 na) := ⟨_, rfl⟩
  have HPP := Lib.hid hpP
  clear hpP
  have HCL := Lib.hid (fun W (hW : Below w6.heap.size w6 W) => And.intro ((K6.out.step hW).duo (i := 3) rfl) ((K6.out.step hW).duo (i := 1) rfl))
  have HIX := Lib.hid (fun W => indices_any b0 HB0.out na (by omega) W)
  have HSX := Lib.hid (show_w K6.out 2 rfl key cn na HK32.out HV.out (by rw [← HM.out]; exact hnam) b0 c1P c2P c3P c4P isP HPP.out)
  refine wp_region_noPanic ?_
  refine wp_region_lexB [.q 0, .q 1, .q 2, .q 3, .q 4, .q 5, .an 11, .b 6, .b 7, .q 8, .q 9, .q 10, .co 11, .b 12, .q 13] (by kernel_rfl) (by kernel_rfl) (fun _ _ _ _ h => h) ?_
  refine wpFl_qL (v := ?_) rfl (Or.inl ⟨by rfl, ?_⟩) ?_
  rotate_left
  focus (intro w' hSw; (try dsimp only [OldKept] at hSw); obtain ⟨⟨rc0, rc1⟩, bc0, bc1⟩ := HCL.out w' hSw; go_simp; (try with_reducible rfl); done)
  simp only [Act.put, List.setIfInBounds_toArray, List.set_cons_zero, List.set_cons_succ]
  refine wpFl_qL (v := ?_) rfl (Or.inl ⟨by rfl, ?_⟩) ?_
  rotate_left
  focus (intro w' hSw; (try dsimp only [OldKept] at hSw); obtain ⟨⟨rc0, rc1⟩, bc0, bc1⟩ := HCL.out w' hSw; go_simp; (try with_reducible rfl); done)
  simp only [Act.put, List.setIfInBounds_toArray, List.set_cons_zero, List.set_cons_succ]
  refine wpFl_qL (v := ?_) rfl (Or.inl ⟨by rfl, ?_⟩) ?_
  rotate_left
  focus (intro w' hSw; (try dsimp only [OldKept] at hSw); obtain ⟨⟨rc0, rc1⟩, bc0, bc1⟩ := HCL.out w' hSw; go_simp; (try with_reducible rfl); done)
  simp only [Act.put, List.setIfInBounds_toArray, List.set_cons_zero, List.set_cons_succ]
  refine wpFl_qL (v := ?_) rfl (Or.inl ⟨by rfl, ?_⟩) ?_
  rotate_left
  focus (intro w' hSw; (try dsimp only [OldKept] at hSw); obtain ⟨⟨rc0, rc1⟩, bc0, bc1⟩ := HCL.out w' hSw; go_simp; (try with_reducible rfl); done)
  simp only [Act.put, List.setIfInBounds_toArray, List.set_cons_zero, List.set_cons_succ]
  refine wpFl_qL (v := ?_) rfl (Or.inl ⟨by rfl, ?_⟩) ?_
  rotate_left
  focus (intro w' hSw; (try dsimp only [OldKept] at hSw); obtain ⟨⟨rc0, rc1⟩, bc0, bc1⟩ := HCL.out w' hSw; go_simp; (try with_reducible rfl); done)
  simp only [Act.put, List.setIfInBounds_toArray, List.set_cons_zero, List.set_cons_succ]
  refine wpFl_qL (v := ?_) rfl (Or.inl ⟨by rfl, ?_⟩) ?_
  rotate_left
  focus (intro w' hSw; (try dsimp only [OldKept] at hSw); obtain ⟨⟨rc0, rc1⟩, bc0, bc1⟩ := HCL.out w' hSw; go_simp; (try with_reducible rfl); done)
  simp only [Act.put, List.setIfInBounds_toArray, List.set_cons_zero, List.set_cons_succ]
  refine wpFl_anL rfl (.cells #[.int .i64 0, .int .i64 0, .string ⟨#[]⟩, .string ⟨#[]⟩, .slice none 0 0] 38 (0, 0)) (fun n => .pointer (some ⟨n, 0, none⟩)) ⟨by rfl, fun w' => ?_⟩ ?_
  focus (go_simp; done)
  refine wpFl_bL rfl (fun waP hnaP hsaP K hK => ?_)
  go_simp
  go_at_call 17
  (with_reducible refine (HIX.out _).mono ?_)
  rintro e wbP ⟨viP, rfl, hilP, hbP⟩
  have HIL := Lib.hid hilP
  refine hK.out _ _ (below_next hsaP hbP) (Keeps.below hbP) ?_
  clear hK K hnaP hsaP hbP hilP
  refine wpFl_bL rfl (fun wcP hncP hscP K hK => ?_)
  go_simp
  go_at_call 18
  refine (HSX.out _ _ hscP (IL.below HIL.out hncP)).mono ?_
  rintro e wdP ⟨aP, nP, rfl, hitP, hbP⟩
  have HIT := Lib.hid hitP
  refine hK.out _ _ (below_next hscP hbP) (Keeps.below hbP) ?_
  clear hK K hncP hscP hbP hitP HIL HIX HSX
  refine wpFl_qL (v := ?_) rfl (Or.inl ⟨by rfl, ?_⟩) ?_
  rotate_left
  focus (intro w' hSw; (try dsimp only [OldKept] at hSw); go_simp; (try with_reducible rfl); done)
  simp only [Act.put, List.setIfInBounds_toArray, List.set_cons_zero, List.set_cons_succ]
  refine wpFl_qL (v := ?_) rfl (Or.inl ⟨by rfl, ?_⟩) ?_
  rotate_left
  focus (intro w' hSw; (try dsimp only [OldKept] at hSw); go_simp; (try with_reducible rfl); done)
  simp only [Act.put, List.setIfInBounds_toArray, List.set_cons_zero, List.set_cons_succ]
  refine wpFl_qL (v := ?_) rfl (Or.inl ⟨by rfl, ?_⟩) ?_
  rotate_left
  focus (intro w' hSw; (try dsimp only [OldKept] at hSw); go_simp; (try with_reducible rfl); done)
  simp only [Act.put, List.setIfInBounds_toArray, List.set_cons_zero, List.set_cons_succ]
  refine wpFl_coL rfl (.cells #[.int .i64 0, .int .i64 0, .string ⟨#[]⟩, .string ⟨#[]⟩, .slice none 0 0] 38 (0, 0)) (fun n => .pointer (some ⟨n, 0, none⟩)) (by rfl) (N' := []) (by rfl) (fun pbP weP hn_weP hs_weP hb_pbP hz_pbP => ?_)
  simp only [Act.put, List.setIfInBounds_toArray, List.set_cons_zero, List.set_cons_succ]
  refine wpFl_bL rfl (fun wfP hnfP hsfP K hK => ?_)
  have HZ := Lib.hid (kept_block hz_pbP hnfP)
  have HIT2 := Lib.hid (IT.below (IT.below HIT.out hn_weP) hnfP)
  obtain ⟨z0', z1', z2', z3', z4'⟩ := pfive HZ.out
  have zf : ∀ j, wfP.frozen? ⟨pbP, j, none⟩ = false := fun j => by unfold World.frozen?; rw [HZ.out]; simp
  go_simp
  refine hK.out _ _ (five_below hsfP hb_pbP _ _ _ _ _) Keeps.nil ?_
  clear hK K
  have kw8 := ((K6.out.step (five_below hsfP hb_pbP (.int .i64 c1P) (.int .i64 c2P) (.string c3P) (.string c4P) (.slice aP isP.length nP))).put (d := .I (.slice aP isP.length nP) isP) (IT.grownT HIT2.out HZ.out (by decide) (by decide) (five_grown wfP pbP (.int .i64 c1P) (.int .i64 c2P) (.string c3P) (.string c4P) (.slice aP isP.length nP)))).put (d := .B pbP #[.int .i64 c1P, .int .i64 c2P, .string c3P, .string c4P, .slice aP isP.length nP] 38) (five_heap HZ.out _ _ _ _ _)
  generalize (((((wfP.setCell ⟨pbP, 0, none⟩ (.int .i64 c1P)).setCell ⟨pbP, 1, none⟩ (.int .i64 c2P)).setCell ⟨pbP, 2, none⟩ (.string c3P)).setCell ⟨pbP, 3, none⟩ (.string c4P)).setCell ⟨pbP, 4, none⟩ (.slice aP isP.length nP)) = w8 at *
  simp only [List.nil_append, List.cons_append] at kw8
  have K8 := Lib.hid kw8
  clear kw8 z0' z1' z2' z3' z4' zf HZ HIT HIT2 hnfP hsfP hb_pbP hz_pbP hn_weP hs_weP HCL K6
  refine wpFl_qL (v := ?_) rfl (Or.inl ⟨by rfl, ?_⟩) ?_
  rotate_left
  focus (intro w' hSw; (try dsimp only [OldKept] at hSw); go_simp; (try with_reducible rfl); done)
  simp only [Act.put, List.setIfInBounds_toArray, List.set_cons_zero, List.set_cons_succ]
  refine wpFl_nil ?_
  refine NoPanic.normal ?_
  go_upto_region 9 with fail
  obtain ⟨⟨⟨c1Q, c2Q, c3Q, c4Q⟩, isQ⟩, hpQ⟩ : ∃ p : PartP, p = partS key cn xs nb (idxS b1 nb) := ⟨_, rfl⟩
  have HPQ := Lib.hid hpQ
  clear hpQ
  have HCL := Lib.hid (fun W (hW : Below w8.heap.size w8 W) => And.intro ((K8.out.step hW).duo (i := 3) rfl) ((K8.out.step hW).duo (i := 1) rfl))
  have HIX := Lib.hid (fun W => indices_any b1 HB1.out nb (by omega) W)
  have HSX := Lib.hid (show_w K8.out 2 rfl key cn nb HK32.out HV.out (by rw [← HM.out]; exact hnbm) b1 c1Q c2Q c3Q c4Q isQ HPQ.out)
  refine wp_region_noPanic ?_
  refine wp_region_lexB [.q 0, .q 1, .q 2, .q 3, .q 4, .q 5, .an 11, .b 6, .b 7, .q 8, .q 9, .q 10, .co 11, .b 12, .q 13] (by kernel_rfl) (by kernel_rfl) (fun _ _ _ _ h => h) ?_
  refine wpFl_qL (v := ?_) rfl (Or.inl ⟨by rfl, ?_⟩) ?_
  rotate_left
  focus (intro w' hSw; (try dsimp only [OldKept] at hSw); obtain ⟨⟨rc0, rc1⟩, bc0, bc1⟩ := HCL.out w' hSw; go_simp; (try with_reducible rfl); done)
  simp only [Act.put, List.setIfInBounds_toArray, List.set_cons_zero, List.set_cons_succ]
  refine wpFl_qL (v := ?_) rfl (Or.inl ⟨by rfl, ?_⟩) ?_
  rotate_left
  focus (intro w' hSw; (try dsimp only [OldKept] at hSw); obtain ⟨⟨rc0, rc1⟩, bc0, bc1⟩ := HCL.out w' hSw; go_simp; (try with_reducible rfl); done)
  simp only [Act.put, List.setIfInBounds_toArray, List.set_cons_zero, List.set_cons_succ]
  refine wpFl_qL (v := ?_) rfl (Or.inl ⟨by rfl, ?_⟩) ?_
  rotate_left
  focus (intro w' hSw; (try dsimp only [OldKept] at hSw); obtain ⟨⟨rc0, rc1⟩, bc0, bc1⟩ := HCL.out w' hSw; go_simp; (try with_reducible rfl); done)
  simp only [Act.put, List.setIfInBounds_toArray, List.set_cons_zero, List.set_cons_succ]
  refine wpFl_qL (v := ?_) rfl (Or.inl ⟨by rfl, ?_⟩) ?_
  rotate_left
  focus (intro w' hSw; (try dsimp only [OldKept] at hSw); obtain ⟨⟨rc0, rc1⟩, bc0, bc1⟩ := HCL.out w' hSw; go_simp; (try with_reducible rfl); done)
  simp only [Act.put, List.setIfInBounds_toArray, List.set_cons_zero, List.set_cons_succ]
  refine wpFl_qL (v := ?_) rfl (Or.inl ⟨by rfl, ?_⟩) ?_
  rotate_left
  focus (intro w' hSw; (try dsimp only [OldKept] at hSw); obtain ⟨⟨rc0, rc1⟩, bc0, bc1⟩ := HCL.out w' hSw; go_simp; (try with_reducible rfl); done)
  simp only [Act.put, List.setIfInBounds_toArray, List.set_cons_zero, List.set_cons_succ]
  refine wpFl_qL (v := ?_) rfl (Or.inl ⟨by rfl, ?_⟩) ?_
  rotate_left
  focus (intro w' hSw; (try dsimp only [OldKept] at hSw); obtain ⟨⟨rc0, rc1⟩, bc0, bc1⟩ := HCL.out w' hSw; go_simp; (try with_reducible rfl); done)
  simp only [Act.put, List.setIfInBounds_toArray, List.set_cons_zero, List.set_cons_succ]
  refine wpFl_anL rfl (.cells #[.int .i64 0, .int .i64 0, .string ⟨#[]⟩, .string ⟨#[]⟩, .slice none 0 0] 38 (0, 0)) (fun n => .pointer (some ⟨n, 0, none⟩)) ⟨by rfl, fun w' => ?_⟩ ?_
  focus (go_simp; done)
  refine wpFl_bL rfl (fun waQ hnaQ hsaQ K hK => ?_)
  go_simp
  go_at_call 17
  (with_reducible refine (HIX.out _).mono ?_)
  rintro e wbQ ⟨viQ, rfl, hilQ, hbQ⟩
  have HIL := Lib.hid hilQ
  refine hK.out _ _ (below_next hsaQ hbQ) (Keeps.below hbQ) ?_
  clear hK K hnaQ hsaQ hbQ hilQ
  refine wpFl_bL rfl (fun wcQ hncQ hscQ K hK => ?_)
  go_simp
  go_at_call 18
  refine (HSX.out _ _ hscQ (IL.below HIL.out hncQ)).mono ?_
  rintro e wdQ ⟨aQ, nQ, rfl, hitQ, hbQ⟩
  have HIT := Lib.hid hitQ
  refine hK.out _ _ (below_next hscQ hbQ) (Keeps.below hbQ) ?_
  clear hK K hncQ hscQ hbQ hitQ HIL HIX HSX
  refine wpFl_qL (v := ?_) rfl (Or.inl ⟨by rfl, ?_⟩) ?_
  rotate_left
  focus (intro w' hSw; (try dsimp only [OldKept] at hSw); go_simp; (try with_reducible rfl); done)
  simp only [Act.put, List.setIfInBounds_toArray, List.set_cons_zero, List.set_cons_succ]
  refine wpFl_qL (v := ?_) rfl (Or.inl ⟨by rfl, ?_⟩) ?_
  rotate_left
  focus (intro w' hSw; (try dsimp only [OldKept] at hSw); go_simp; (try with_reducible rfl); done)
  simp only [Act.put, List.setIfInBounds_toArray, List.set_cons_zero, List.set_cons_succ]
  refine wpFl_qL (v := ?_) rfl (Or.inl ⟨by rfl, ?_⟩) ?_
  rotate_left
  focus (intro w' hSw; (try dsimp only [OldKept] at hSw); go_simp; (try with_reducible rfl); done)
  simp only [Act.put, List.setIfInBounds_toArray, List.set_cons_zero, List.set_cons_succ]
  refine wpFl_coL rfl (.cells #[.int .i64 0, .int .i64 0, .string ⟨#[]⟩, .string ⟨#[]⟩, .slice none 0 0] 38 (0, 0)) (fun n => .pointer (some ⟨n, 0, none⟩)) (by rfl) (N' := []) (by rfl) (fun pbQ weQ hn_weQ hs_weQ hb_pbQ hz_pbQ => ?_)
  simp only [Act.put, List.setIfInBounds_toArray, List.set_cons_zero, List.set_cons_succ]
  refine wpFl_bL rfl (fun wfQ hnfQ hsfQ K hK => ?_)
  have HZ := Lib.hid (kept_block hz_pbQ hnfQ)
  have HIT2 := Lib.hid (IT.below (IT.below HIT.out hn_weQ) hnfQ)
  obtain ⟨z0', z1', z2', z3', z4'⟩ := pfive HZ.out
  have zf : ∀ j, wfQ.frozen? ⟨pbQ, j, none⟩ = false := fun j => by unfold World.frozen?; rw [HZ.out]; simp
  go_simp
  refine hK.out _ _ (five_below hsfQ hb_pbQ _ _ _ _ _) Keeps.nil ?_
  clear hK K
  have kw9 := ((K8.out.step (five_below hsfQ hb_pbQ (.int .i64 c1Q) (.int .i64 c2Q) (.string c3Q) (.string c4Q) (.slice aQ isQ.length nQ))).put (d := .I (.slice aQ isQ.length nQ) isQ) (IT.grownT HIT2.out HZ.out (by decide) (by decide) (five_grown wfQ pbQ (.int .i64 c1Q) (.int .i64 c2Q) (.string c3Q) (.string c4Q) (.slice aQ isQ.length nQ)))).put (d := .B pbQ #[.int .i64 c1Q, .int .i64 c2Q, .string c3Q, .string c4Q, .slice aQ isQ.length nQ] 38) (five_heap HZ.out _ _ _ _ _)
  generalize (((((wfQ.setCell ⟨pbQ, 0, none⟩ (.int .i64 c1Q)).setCell ⟨pbQ, 1, none⟩ (.int .i64 c2Q)).setCell ⟨pbQ, 2, none⟩ (.string c3Q)).setCell ⟨pbQ, 3, none⟩ (.string c4Q)).setCell ⟨pbQ, 4, none⟩ (.slice aQ isQ.length nQ)) = w9 at *
  simp only [List.nil_append, List.cons_append] at kw9
  have K9 := Lib.hid kw9
  clear kw9 z0' z1' z2' z3' z4' zf HZ HIT HIT2 hnfQ hsfQ hb_pbQ hz_pbQ hn_weQ hs_weQ HCL K8
  refine wpFl_qL (v := ?_) rfl (Or.inl ⟨by rfl, ?_⟩) ?_
  rotate_left
  focus (intro w' hSw; (try dsimp only [OldKept] at hSw); go_simp; (try with_reducible rfl); done)
  simp only [Act.put, List.setIfInBounds_toArray, List.set_cons_zero, List.set_cons_succ]
  refine wpFl_nil ?_
  refine NoPanic.normal ?_
  have HFP : Hid (FitOne ⟨⟨c1P, c2P, c3P, c4P⟩, isP⟩) := Lib.hid (by rw [HPP.out]; exact fit_part _ _ _ _ _ (by have := idxS_len b0 na; omega) (by rw [← HM.out]; omega))
  have HFQ : Hid (FitOne ⟨⟨c1Q, c2Q, c3Q, c4Q⟩, isQ⟩) := Lib.hid (by rw [HPQ.out]; exact fit_part _ _ _ _ _ (by have := idxS_len b1 nb; omega) (by rw [← HM.out]; omega))
  have HCV := Lib.hid (conv_w K9.out 4 6 key c1P c2P c3P c4P isP c1Q c2Q c3Q c4Q isQ rfl rfl (by rw [HK32.out]; omega) HFP.out HFQ.out false (by rw [HPP.out, HPQ.out]; exact convicts_none _ _ _ _))
  have HCW := Lib.hid (conv_w K9.out 6 4 key c1Q c2Q c3Q c4Q isQ c1P c2P c3P c4P isP rfl rfl (by rw [HK32.out]; omega) HFQ.out HFP.out false (by rw [HPP.out, HPQ.out]; exact convicts_none _ _ _ _))
  have HL : Hid (∀ W, Below w9.heap.size w9 W → (W.cell? ⟨pbP, 0, none⟩ = some (.int .i64 c1P) ∧ W.cell? ⟨pbP, 1, none⟩ = some (.int .i64 c2P) ∧ W.cell? ⟨pbP, 2, none⟩ = some (.string c3P) ∧ W.cell? ⟨pbP, 3, none⟩ = some (.string c4P) ∧ W.cell? ⟨pbP, 4, none⟩ = some (.slice aP isP.length nP)) ∧ (W.cell? ⟨pbQ, 0, none⟩ = some (.int .i64 c1Q) ∧ W.cell? ⟨pbQ, 1, none⟩ = some (.int .i64 c2Q) ∧ W.cell? ⟨pbQ, 2, none⟩ = some (.string c3Q) ∧ W.cell? ⟨pbQ, 3, none⟩ = some (.string c4Q) ∧ W.cell? ⟨pbQ, 4, none⟩ = some (.slice aQ isQ.length nQ))) := Lib.hid (fun W hW =>
    ⟨pfive ((K9.out.step hW).all 5 _ rfl), pfive ((K9.out.step hW).all 7 _ rfl)⟩)
  obtain ⟨⟨c0, c1, c2, c3, c4⟩, d0, d1, d2, d3, d4⟩ := HL.out w9 (Below.refl _ _)
  go_upto_region 12 with (first | (go_at_call 22; (with_reducible refine (HCV.out _ (Below.refl _ _)).mono ?_); rintro e w10 ⟨rfl, hb10⟩; have HB10 := Lib.hid hb10; obtain ⟨⟨e0, e1, e2, e3, e4⟩, g0, g1, g2, g3, g4⟩ := HL.out w10 hb10; clear hb10) | (go_at_call 22; (with_reducible refine (HCW.out _ HB10.out).mono ?_); rintro e w11 ⟨rfl, hb11⟩; have HB11 := Lib.hid (below_next HB10.out hb11); clear hb11))
  clear c0 c1 c2 c3 c4 d0 d1 d2 d3 d4 e0 e1 e2 e3 e4 g0 g1 g2 g3 g4 HCV HCW
  have K11 := Lib.hid (K9.out.step HB11.out)
  obtain ⟨⟨c0, c1, c2, c3, c4⟩, _⟩ := HL.out w11 HB11.out
  -- the part that is changed
  obtain ⟨⟨⟨z1, z2, z3, z4⟩, zis⟩, hz⟩ : ∃ z : PartP, z = bentP ⟨⟨c1P, c2P, c3P, c4P⟩, isP⟩ how nn at' := ⟨_, rfl⟩
  obtain ⟨C, hCH⟩ : ∃ C, C = decide (bentP ⟨⟨c1P, c2P, c3P, c4P⟩, isP⟩ how nn at' ≠ ⟨⟨c1P, c2P, c3P, c4P⟩, isP⟩) := ⟨_, rfl⟩
  have HFZ : Hid (FitOne ⟨⟨z1, z2, z3, z4⟩, zis⟩ ∧ z4 = c4P) := Lib.hid (by
    refine ⟨?_, (congrArg (fun p : PartP => p.head.sl) hz).trans (bentK_sl _ _ _ _)⟩
    rw [hz]
    exact bent_fit _ _ _ _ HFP.out)
  have HENT : Hid (∀ x ∈ isP, x.ent.size ≤ 100000) := Lib.hid (by
    have h1 := part_ent key (cn : Int) xs na (idxS b0 na) (fun s hs => by have := HSM.out s hs; omega)
    rw [← HPP.out] at h1
    exact h1)
  have HBT : Hid (∀ W, Below w11.heap.size w11 W → Calls Tryz.prog 21 #[.agg #[.int .i64 c1P, .int .i64 c2P, .string c3P, .string c4P, .slice aP isP.length nP], .int .i64 how, .int .i64 nn, .int .i64 at'] W fun e w' => ∃ (a : Option Addr) (c : Nat), e = .returned (.tuple #[.agg #[.int .i64 z1, .int .i64 z2, .string z3, .string z4, .slice a zis.length c], .bool C]) ∧ IT w' (.slice a zis.length c) zis ∧ Below W.heap.size W w') := Lib.hid (fun W hW => by
    have hlen : isP.length ≤ 1000 := by
      have h1 := congrArg (fun p : PartP => p.items.length) HPP.out
      simp only at h1
      rw [h1, shown_mem]
      have := idxS_len b0 na
      omega
    refine (bent_any ⟨⟨c1P, c2P, c3P, c4P⟩, isP⟩ how nn at' (w := W) ((K11.out.step hW).all 4 _ rfl) HIH.out HIN.out HIA.out hlen HFP.out.1 HENT.out).mono ?_
    rintro e w' ⟨iv', h1, h2, h3⟩
    rw [← hCH, ← hz] at h1
    rw [← hz] at h2
    obtain ⟨a, c, rfl⟩ := h2.form2
    exact ⟨a, c, h1, h2, h3⟩)
  have HCE := Lib.hid hCH
  have HZE := Lib.hid hz
  clear hz hCH
  go_upto_region 13 with (go_at_call 21; refine (HBT.out _ (Below.refl _ _)).mono ?_; rintro e w12 ⟨az, nz, rfl, hit, hb12⟩; have k12 := (K11.out.step hb12).put (d := .I (.slice az zis.length nz) zis) hit; clear hit hb12; simp only [List.nil_append, List.cons_append] at k12; have K12 := Lib.hid k12; clear k12)
  clear c0 c1 c2 c3 c4 HBT K11 HB10 HB11 HL K9
  have kw13 := K12.out.box #[.int .i64 z1, .int .i64 z2, .string z3, .string z4, .slice az zis.length nz] 38
  obtain ⟨w13, hww13⟩ : ∃ W, W = w12.alloc (.cells #[.int .i64 z1, .int .i64 z2, .string z3, .string z4, .slice az zis.length nz] 38) := ⟨_, rfl⟩
  rw [← hww13] at kw13 ⊢
  clear hww13
  generalize w12.heap.size = zb at kw13 ⊢
  simp only [List.nil_append, List.cons_append] at kw13
  have K13 := Lib.hid kw13
  clear kw13 K12
  obtain ⟨G, hG⟩ : ∃ G, G = checkB key ⟨⟨z1, z2, z3, z4⟩, zis⟩ := ⟨_, rfl⟩
  have HCK := Lib.hid (check_w K13.out 8 key z1 z2 z3 z4 zis rfl (by rw [HK32.out]; omega) HFZ.out.1 G hG.symm)
  have HGE := Lib.hid hG
  clear hG
  obtain ⟨c0, c1, c2, c3, c4⟩ := pfive (K13.out.all 9 _ rfl)
  cases C with
  | false =>
    have HF := Lib.hid K13.out.below
    go_wp2
    go_ret
    exact ⟨rfl, HF.out⟩
  | true =>
    cases G with
    | false =>
      go_wp2_with (go_at_call 24; refine (HCK.out _ (Below.refl _ _)).mono ?_; rintro e w14 ⟨rfl, hb14⟩; have HF := Lib.hid (K13.out.step hb14).below; clear hb14)
      go_ret
      exact ⟨rfl, HF.out⟩
    | true =>
      go_upto_region 15 with (go_at_call 24; refine (HCK.out _ (Below.refl _ _)).mono ?_; rintro e w14 ⟨rfl, hb14⟩; have K14 := Lib.hid (K13.out.step hb14); clear hb14)
      have hk32 : key.size = 32 := HK32.out
      have HL : Hid (∀ W, Below w14.heap.size w14 W → (W.cell? ⟨pbP, 0, none⟩ = some (.int .i64 c1P) ∧ W.cell? ⟨pbP, 1, none⟩ = some (.int .i64 c2P) ∧ W.cell? ⟨pbP, 2, none⟩ = some (.string c3P) ∧ W.cell? ⟨pbP, 3, none⟩ = some (.string c4P) ∧ W.cell? ⟨pbP, 4, none⟩ = some (.slice aP isP.length nP)) ∧ (W.cell? ⟨zb, 0, none⟩ = some (.int .i64 z1) ∧ W.cell? ⟨zb, 1, none⟩ = some (.int .i64 z2) ∧ W.cell? ⟨zb, 2, none⟩ = some (.string z3) ∧ W.cell? ⟨zb, 3, none⟩ = some (.string z4) ∧ W.cell? ⟨zb, 4, none⟩ = some (.slice az zis.length nz))) := Lib.hid (fun W hW =>
        ⟨pfive ((K14.out.step hW).all 5 _ rfl), pfive ((K14.out.step hW).all 9 _ rfl)⟩)
      have HGZ : Hid (genuineB key ⟨z1, z2, z3, z4⟩ = true) := Lib.hid (by
        have h1 := HGE.out.symm
        unfold checkB at h1
        rw [Bool.and_eq_true] at h1
        exact h1.1)
      have HGP : Hid (genuineB key ⟨c1P, c2P, c3P, c4P⟩ = true) := Lib.hid (by
        rw [show (⟨c1P, c2P, c3P, c4P⟩ : HeadP) = headS key cn xs na from congrArg (fun p : PartP => p.head) HPP.out]
        exact head_genuine hk32 (by omega) (by omega))
      clear c0 c1 c2 c3 c4 HCK K13
      obtain ⟨⟨c0, c1, c2, c3, c4⟩, d0, d1, d2, d3, d4⟩ := HL.out w14 (Below.refl _ _)
      by_cases hh : (⟨z1, z2, z3, z4⟩ : HeadP) = ⟨c1P, c2P, c3P, c4P⟩
      · injection hh with e1 e2 e3 e4
        subst e1 e2 e3 e4
        have HSH : Hid (∀ x ∈ zis, ∃ i : Nat, x.idx = (i : Int) ∧ i < na ∧ (∀ s ∈ x.prf, s.size = 32) ∧ x.ent.size ≤ 1000 ∧ (xs.getD i ⟨#[]⟩ = x.ent ∨ collS (walkedS x.ent x.prf.reverse na i).1 (hashedS (xs.take na)) = true)) := Lib.hid (fun x hx =>
          shows_item (key := key) (car := (cn : Int)) (xs := xs) (n := na) (by rw [← HM.out]; exact hnam) (z := ⟨⟨z1, z2, z3, z4⟩, zis⟩) HGE.out.symm (congrArg (fun p : PartP => p.head) HPP.out) hx)
        obtain ⟨y1, y2, ey, y3, y4, hcl⟩ := (K14.out.all 8 _ rfl : IT w14 (.slice az zis.length nz) zis).opened
        have eaz : az = y1 := by injection ey
        rw [← eaz] at hcl
        have HCL := Lib.hid hcl
        have HPL : Hid (∀ x ∈ zis, x.prf.length ≤ 1000) := Lib.hid HFZ.out.1.2.2
        obtain ⟨x', y', ex, x1, x2, x3⟩ := (K14.out.all 2 _ rfl : SS w14 (.slice ar m cr) xs).opened
        have ear : ar = x' := by injection ex
        have gcr : na ≤ cr := by
          injection ex with _ _ e3
          omega
        rw [← ear] at x3
        have HX3 := Lib.hid x3
        clear ex x1 x2 x3 ear hcl ey eaz y3 y4 HGE HGZ HGP HFP HFQ HCE HZE HENT
        obtain ⟨L, hL⟩ : ∃ L, L = zis.length := ⟨_, rfl⟩
        rw [← hL] at HL K14 d4 ⊢
        have HLL := Lib.hid hL
        have hL5 : L ≤ 100000 := by rw [hL]; exact HFZ.out.1.2.1
        clear hL
        obtain ⟨_, rc1⟩ := K14.out.duo (i := 3) rfl
        have HRC := Lib.hid (fun W (hW : Below w14.heap.size w14 W) => ((K14.out.step hW).duo (i := 3) rfl).2)
        have HB0' : Hid (Below w14.heap.size w14 w14) := Lib.hid (Below.refl _ _)
        have HX1k : Hid (∀ s ∈ xs.take na, s.size ≤ 1000) := Lib.hid (fun s hs => (valid_parts HV.out).2.2.2 s (List.mem_of_mem_take hs))
        have hLx : (xs.take na).length = na := by rw [List.length_take, ← HM.out]; omega
        have hl1 := hashedS_len (xs.take na)
        rw [hLx] at hl1
        have HHX : Hid (∀ x ∈ hashedS (xs.take na), x.size ≤ 1000000) := Lib.hid (fun x hx => by have := hashed_small (xs.take na) HX1k.out x hx; omega)
        have HHx : Hid (∀ W, Below w14.heap.size w14 W → Calls Tryz.prog 32 #[.slice ar na cr] W fun e w' => ∃ v', e = .returned v' ∧ OwnS w' W.heap.size v' (hashedS (xs.take na)) ∧ Below W.heap.size W w') := Lib.hid (fun W hW => hashed_any na na (Nat.le_refl _) hLx (((K14.out.step hW).all 2 _ rfl : SS W (.slice ar m cr) xs).cut na hnam) (by omega) (fun x hx => by have := HX1k.out x hx; omega))
        generalize hashedS (xs.take na) = HX at *
        clear HX1k hLx rc1
        go_wp2
        go_loopw [26] (fun i wr => ∃ k : Nat, k ≤ L ∧ i = .int .i64 k ∧ Hid (Below w14.heap.size w14 wr)) (fun i _ => L - (intOf i).toNat)
        case atStart => exact ⟨0, by omega, rfl, HB0'⟩
        case round =>
          clear HB0' c0 c1 c2 c3 c4 d0 d1 d2 d3 d4
          obtain ⟨k, hk, rfl, hB⟩ := hrel
          obtain ⟨_, d0, d1, d2, d3, d4⟩ := HL.out wr hB.out
          by_cases hlk : k < L
          · obtain ⟨⟨xi, xe, xp⟩, exk⟩ : ∃ u, zis[k]? = some u := ⟨_, List.getElem?_eq_getElem (by rw [← HLL.out]; exact hlk)⟩
            obtain ⟨i, hxi, hina, h32, hx1k, hor⟩ := HSH.out _ (List.mem_of_getElem? exk)
            have hpl := HPL.out _ (List.mem_of_getElem? exk)
            obtain ⟨b, off, pv, eb, hb, g0, g1, g2, hss⟩ := HCL.out k _ exk
            subst eb
            simp only at hxi h32 hx1k hor hpl g0 g1 g2 hss
            subst hxi
            obtain ⟨ap, cp, hpv⟩ := hss.form2
            subst hpv
            have g0 := cell_keepB hB.out hb g0
            have g1 := cell_keepB hB.out hb g1
            have g2 := cell_keepB hB.out hb g2
            have HSP := Lib.hid (SS.below hss hB.out)
            have H32 := Lib.hid h32
            have HOR := Lib.hid hor
            obtain ⟨np, hnp⟩ : ∃ np, np = xp.length := ⟨_, rfl⟩
            rw [← hnp] at hpl g2 HSP
            have HNP := Lib.hid hnp
            have tk : (k : Int) < (L : Int) := by omega
            have tk0 : (0 : Int) ≤ (k : Int) := by omega
            obtain ⟨sx, esx⟩ : ∃ u, xs[i]? = some u := ⟨_, List.getElem?_eq_getElem (by rw [← HM.out]; omega)⟩
            obtain ⟨bx, ox, eax, hbx, cx0⟩ := HX3.out i sx esx
            clear hor hss h32 exk hnp
            rw [List.getD_eq_getElem?_getD, esx] at HOR
            subst eax
            go_upto_region 21 with fail
            have HB15 : Hid (Below w14.heap.size w14 (wr.alloc (.cells #[.int .i64 (i : Int), .string xe, .slice ap np cp] 53))) := Lib.hid (hB.out.alloc hB.out.size _)
            have HT15 : Hid ((wr.alloc (.cells #[.int .i64 (i : Int), .string xe, .slice ap np cp] 53)).heap[wr.heap.size]? = some (.cells #[.int .i64 (i : Int), .string xe, .slice ap np cp] 53 (0, 0))) := Lib.hid (heap_alloc_new wr _)
            have HS15 := Lib.hid (SS.below HSP.out ((Below.refl _ _).alloc (Nat.le_refl _) (.cells #[.int .i64 (i : Int), .string xe, .slice ap np cp] 53)))
            obtain ⟨w15, hw15⟩ : ∃ W, W = wr.alloc (.cells #[.int .i64 (i : Int), .string xe, .slice ap np cp] 53) := ⟨_, rfl⟩
            rw [← hw15] at HB15 HT15 HS15 ⊢
            clear hw15 hB HSP g0 g1 g2 d0 d1 d2 d3 d4
            generalize wr.heap.size = tb at *
            have HWK := Lib.hid (rwalked_any np na i xe HNP.out.symm HS15.out (by omega) (by omega) (by omega) (fun x hx => by have := H32.out x hx; omega) hpl)
            have hwl := walked_len xe xp.reverse na i
            have HWS := Lib.hid (walked_small xe (by omega) xp.reverse (fun x hx => by have := H32.out x (List.mem_reverse.1 hx); omega) na i)
            rw [List.length_reverse, ← HNP.out] at hwl
            generalize (walkedS xe xp.reverse na i).1 = W1 at *
            generalize (walkedS xe xp.reverse na i).2 = W2 at *
            obtain ⟨u0, u1, u2⟩ := three_cells HT15.out
            go_upto_region 22 with (go_at_call 30; refine HWK.out.mono ?_; rintro e w16 ⟨vw, rfl, how, hbw⟩; obtain ⟨aw, cw, hvw⟩ := OwnE.form how; subst hvw; have HOW := Lib.hid how.ss; have HB16 := Lib.hid (below_next HB15.out hbw); have HT16 := Lib.hid (kept_block HT15.out hbw); clear how hbw)
            clear u0 u1 u2 HWK HS15 HT15 HB15
            have HL2 : Hid (∀ W, Below w16.heap.size w16 W → (W.cell? ⟨tb, 0, none⟩ = some (.int .i64 (i : Int)) ∧ W.cell? ⟨tb, 1, none⟩ = some (.string xe) ∧ W.cell? ⟨tb, 2, none⟩ = some (.slice ap np cp)) ∧ W.cell? ⟨rb, 1, none⟩ = some (.slice (some ⟨bx, ox, none⟩) m cr) ∧ W.cell? ⟨bx, ox + i, none⟩ = some (.string sx)) := Lib.hid (fun W hW =>
              ⟨three_cells (kept_block HT16.out hW), HRC.out W (below_next HB16.out hW), cell_keepB (below_next HB16.out hW) hbx cx0⟩)
            have ti0 : (0 : Int) ≤ (i : Int) := by omega
            have ti1 : ¬ (i : Int) < 0 := by omega
            have ti2 : ¬ (na : Int) ≤ (i : Int) := by omega
            have ti3 : (i : Int) < (m : Int) := by omega
            have ti4 : (na : Int) ≤ (m : Int) := by omega
            have ti5 : (0 : Int) ≤ (na : Int) := by omega
            by_cases hse : sx = xe
            · subst hse
              refine wp_region_noPanic ?_
              refine wp_region_lexB [.q 0, .q 1, .q 2, .q 3, .q 4, .q 5, .q 6, .q 7, .q 8, .q 9, .q 10, .q 11, .q 12, .q 13, .q 14, .q 15, .q 16, .q 17, .q 18, .q 19, .q 20, .q 21, .q 22, .q 23, .q 24, .q 25, .q 26, .q 27, .q 28, .q 29] (by kernel_rfl) (by kernel_rfl) (fun _ _ _ _ h => h) ?_
              refine wpFl_qL (v := ?_) rfl (Or.inl ⟨by rfl, ?_⟩) ?_
              rotate_left
              focus (intro w' hSw; (try dsimp only [OldKept] at hSw); obtain ⟨⟨u0, u1, u2⟩, r1, x0⟩ := HL2.out w' hSw; go_simp; (try with_reducible rfl); done)
              simp only [Act.put, List.setIfInBounds_toArray, List.set_cons_zero, List.set_cons_succ]
              refine wpFl_qL (v := ?_) rfl (Or.inl ⟨by rfl, ?_⟩) ?_
              rotate_left
              focus (intro w' hSw; (try dsimp only [OldKept] at hSw); obtain ⟨⟨u0, u1, u2⟩, r1, x0⟩ := HL2.out w' hSw; go_simp; (try with_reducible rfl); done)
              simp only [Act.put, List.setIfInBounds_toArray, List.set_cons_zero, List.set_cons_succ]
              refine wpFl_qL (v := ?_) rfl (Or.inl ⟨by rfl, ?_⟩) ?_
              rotate_left
              focus (intro w' hSw; (try dsimp only [OldKept] at hSw); obtain ⟨⟨u0, u1, u2⟩, r1, x0⟩ := HL2.out w' hSw; go_simp; (try with_reducible rfl); done)
              simp only [Act.put, List.setIfInBounds_toArray, List.set_cons_zero, List.set_cons_succ]
              refine wpFl_qL (v := ?_) rfl (Or.inl ⟨by rfl, ?_⟩) ?_
              rotate_left
              focus (intro w' hSw; (try dsimp only [OldKept] at hSw); obtain ⟨⟨u0, u1, u2⟩, r1, x0⟩ := HL2.out w' hSw; go_simp; (try with_reducible rfl); done)
              simp only [Act.put, List.setIfInBounds_toArray, List.set_cons_zero, List.set_cons_succ]
              refine wpFl_qL (v := ?_) rfl (Or.inl ⟨by rfl, ?_⟩) ?_
              rotate_left
              focus (intro w' hSw; (try dsimp only [OldKept] at hSw); obtain ⟨⟨u0, u1, u2⟩, r1, x0⟩ := HL2.out w' hSw; go_simp; (try with_reducible rfl); done)
              simp only [Act.put, List.setIfInBounds_toArray, List.set_cons_zero, List.set_cons_succ]
              refine wpFl_qL (v := ?_) rfl (Or.inl ⟨by rfl, ?_⟩) ?_
              rotate_left
              focus (intro w' hSw; (try dsimp only [OldKept] at hSw); obtain ⟨⟨u0, u1, u2⟩, r1, x0⟩ := HL2.out w' hSw; go_simp; (try with_reducible rfl); done)
              simp only [Act.put, List.setIfInBounds_toArray, List.set_cons_zero, List.set_cons_succ]
              refine wpFl_qL (v := ?_) rfl (Or.inl ⟨by rfl, ?_⟩) ?_
              rotate_left
              focus (intro w' hSw; (try dsimp only [OldKept] at hSw); obtain ⟨⟨u0, u1, u2⟩, r1, x0⟩ := HL2.out w' hSw; go_simp; (try with_reducible rfl); done)
              simp only [Act.put, List.setIfInBounds_toArray, List.set_cons_zero, List.set_cons_succ]
              refine wpFl_qL (v := ?_) rfl (Or.inl ⟨by rfl, ?_⟩) ?_
              rotate_left
              focus (intro w' hSw; (try dsimp only [OldKept] at hSw); obtain ⟨⟨u0, u1, u2⟩, r1, x0⟩ := HL2.out w' hSw; go_simp; (try with_reducible rfl); done)
              simp only [Act.put, List.setIfInBounds_toArray, List.set_cons_zero, List.set_cons_succ]
              refine wpFl_qL (v := ?_) rfl (Or.inl ⟨by rfl, ?_⟩) ?_
              rotate_left
              focus (intro w' hSw; (try dsimp only [OldKept] at hSw); obtain ⟨⟨u0, u1, u2⟩, r1, x0⟩ := HL2.out w' hSw; go_simp; (try with_reducible rfl); done)
              simp only [Act.put, List.setIfInBounds_toArray, List.set_cons_zero, List.set_cons_succ]
              refine wpFl_qL (v := ?_) rfl (Or.inl ⟨by rfl, ?_⟩) ?_
              rotate_left
              focus (intro w' hSw; (try dsimp only [OldKept] at hSw); obtain ⟨⟨u0, u1, u2⟩, r1, x0⟩ := HL2.out w' hSw; go_simp; (try with_reducible rfl); done)
              simp only [Act.put, List.setIfInBounds_toArray, List.set_cons_zero, List.set_cons_succ]
              refine wpFl_qL (v := ?_) rfl (Or.inl ⟨by rfl, ?_⟩) ?_
              rotate_left
              focus (intro w' hSw; (try dsimp only [OldKept] at hSw); obtain ⟨⟨u0, u1, u2⟩, r1, x0⟩ := HL2.out w' hSw; go_simp; (try with_reducible rfl); done)
              simp only [Act.put, List.setIfInBounds_toArray, List.set_cons_zero, List.set_cons_succ]
              refine wpFl_qL (v := ?_) rfl (Or.inl ⟨by rfl, ?_⟩) ?_
              rotate_left
              focus (intro w' hSw; (try dsimp only [OldKept] at hSw); obtain ⟨⟨u0, u1, u2⟩, r1, x0⟩ := HL2.out w' hSw; go_simp; (try with_reducible rfl); done)
              simp only [Act.put, List.setIfInBounds_toArray, List.set_cons_zero, List.set_cons_succ]
              refine wpFl_qL (v := ?_) rfl (Or.inl ⟨by rfl, ?_⟩) ?_
              rotate_left
              focus (intro w' hSw; (try dsimp only [OldKept] at hSw); obtain ⟨⟨u0, u1, u2⟩, r1, x0⟩ := HL2.out w' hSw; go_simp; (try with_reducible rfl); done)
              simp only [Act.put, List.setIfInBounds_toArray, List.set_cons_zero, List.set_cons_succ]
              refine wpFl_qL (v := ?_) rfl (Or.inl ⟨by rfl, ?_⟩) ?_
              rotate_left
              focus (intro w' hSw; (try dsimp only [OldKept] at hSw); obtain ⟨⟨u0, u1, u2⟩, r1, x0⟩ := HL2.out w' hSw; go_simp; (try with_reducible rfl); done)
              simp only [Act.put, List.setIfInBounds_toArray, List.set_cons_zero, List.set_cons_succ]
              refine wpFl_qL (v := ?_) rfl (Or.inl ⟨by rfl, ?_⟩) ?_
              rotate_left
              focus (intro w' hSw; (try dsimp only [OldKept] at hSw); obtain ⟨⟨u0, u1, u2⟩, r1, x0⟩ := HL2.out w' hSw; go_simp; (try with_reducible rfl); done)
              simp only [Act.put, List.setIfInBounds_toArray, List.set_cons_zero, List.set_cons_succ]
              refine wpFl_qL (v := ?_) rfl (Or.inl ⟨by rfl, ?_⟩) ?_
              rotate_left
              focus (intro w' hSw; (try dsimp only [OldKept] at hSw); obtain ⟨⟨u0, u1, u2⟩, r1, x0⟩ := HL2.out w' hSw; go_simp; (try with_reducible rfl); done)
              simp only [Act.put, List.setIfInBounds_toArray, List.set_cons_zero, List.set_cons_succ]
              refine wpFl_qL (v := ?_) rfl (Or.inl ⟨by rfl, ?_⟩) ?_
              rotate_left
              focus (intro w' hSw; (try dsimp only [OldKept] at hSw); obtain ⟨⟨u0, u1, u2⟩, r1, x0⟩ := HL2.out w' hSw; go_simp; (try with_reducible rfl); done)
              simp only [Act.put, List.setIfInBounds_toArray, List.set_cons_zero, List.set_cons_succ]
              refine wpFl_qL (v := ?_) rfl (Or.inl ⟨by rfl, ?_⟩) ?_
              rotate_left
              focus (intro w' hSw; (try dsimp only [OldKept] at hSw); obtain ⟨⟨u0, u1, u2⟩, r1, x0⟩ := HL2.out w' hSw; go_simp; (try with_reducible rfl); done)
              simp only [Act.put, List.setIfInBounds_toArray, List.set_cons_zero, List.set_cons_succ]
              refine wpFl_qL (v := ?_) rfl (Or.inl ⟨by rfl, ?_⟩) ?_
              rotate_left
              focus (intro w' hSw; (try dsimp only [OldKept] at hSw); obtain ⟨⟨u0, u1, u2⟩, r1, x0⟩ := HL2.out w' hSw; go_simp; (try with_reducible rfl); done)
              simp only [Act.put, List.setIfInBounds_toArray, List.set_cons_zero, List.set_cons_succ]
              refine wpFl_qL (v := ?_) rfl (Or.inl ⟨by rfl, ?_⟩) ?_
              rotate_left
              focus (intro w' hSw; (try dsimp only [OldKept] at hSw); obtain ⟨⟨u0, u1, u2⟩, r1, x0⟩ := HL2.out w' hSw; go_simp; (try with_reducible rfl); done)
              simp only [Act.put, List.setIfInBounds_toArray, List.set_cons_zero, List.set_cons_succ]
              refine wpFl_qL (v := undef) rfl (Or.inr ⟨by rfl, rfl⟩) ?_
              simp only [Act.put, List.setIfInBounds_toArray, List.set_cons_zero, List.set_cons_succ]
              refine wpFl_qL (v := undef) rfl (Or.inr ⟨by rfl, rfl⟩) ?_
              simp only [Act.put, List.setIfInBounds_toArray, List.set_cons_zero, List.set_cons_succ]
              refine wpFl_qL (v := undef) rfl (Or.inr ⟨by rfl, rfl⟩) ?_
              simp only [Act.put, List.setIfInBounds_toArray, List.set_cons_zero, List.set_cons_succ]
              refine wpFl_qL (v := undef) rfl (Or.inr ⟨by rfl, rfl⟩) ?_
              simp only [Act.put, List.setIfInBounds_toArray, List.set_cons_zero, List.set_cons_succ]
              refine wpFl_qL (v := undef) rfl (Or.inr ⟨by rfl, rfl⟩) ?_
              simp only [Act.put, List.setIfInBounds_toArray, List.set_cons_zero, List.set_cons_succ]
              refine wpFl_qL (v := undef) rfl (Or.inr ⟨by rfl, rfl⟩) ?_
              simp only [Act.put, List.setIfInBounds_toArray, List.set_cons_zero, List.set_cons_succ]
              refine wpFl_qL (v := undef) rfl (Or.inr ⟨by rfl, rfl⟩) ?_
              simp only [Act.put, List.setIfInBounds_toArray, List.set_cons_zero, List.set_cons_succ]
              refine wpFl_qL (v := undef) rfl (Or.inr ⟨by rfl, rfl⟩) ?_
              simp only [Act.put, List.setIfInBounds_toArray, List.set_cons_zero, List.set_cons_succ]
              refine wpFl_qL (v := ?_) rfl (Or.inl ⟨by rfl, ?_⟩) ?_
              rotate_left
              focus (intro w' hSw; (try dsimp only [OldKept] at hSw); go_simp; (try with_reducible rfl); done)
              simp only [Act.put, List.setIfInBounds_toArray, List.set_cons_zero, List.set_cons_succ]
              refine wpFl_qL (v := ?_) rfl (Or.inl ⟨by rfl, ?_⟩) ?_
              rotate_left
              focus (intro w' hSw; (try dsimp only [OldKept] at hSw); go_simp; (try with_reducible rfl); done)
              simp only [Act.put, List.setIfInBounds_toArray, List.set_cons_zero, List.set_cons_succ]
              refine wpFl_nil ?_
              refine NoPanic.normal ?_
              have HBq := Lib.hid (below_next HB16.out (Below.drew (Below.refl _ _)))
              go_wp2
              go_roundw
              case rel => exact ⟨k + 1, by omega, by go_num, HBq⟩
              case measure => simp [intOf]; omega
            · have hst : (xe.toList == sx.toList) = false := by rw [same_str]; exact decide_eq_false (fun e => hse e.symm)
              have HCO : Hid (collS W1 HX = true) := Lib.hid (HOR.out.resolve_left hse)
              refine wp_region_noPanic ?_
              refine wp_region_lexB [.q 0, .q 1, .q 2, .q 3, .q 4, .q 5, .q 6, .q 7, .q 8, .q 9, .q 10, .q 11, .q 12, .q 13, .q 14, .q 15, .q 16, .q 17, .q 18, .q 19, .q 20, .q 21, .q 22, .q 23, .q 24, .b 25, .b 26, .q 27, .q 28, .q 29] (by kernel_rfl) (by kernel_rfl) (fun _ _ _ _ h => h) ?_
              refine wpFl_qL (v := ?_) rfl (Or.inl ⟨by rfl, ?_⟩) ?_
              rotate_left
              focus (intro w' hSw; (try dsimp only [OldKept] at hSw); obtain ⟨⟨u0, u1, u2⟩, r1, x0⟩ := HL2.out w' hSw; go_simp; (try with_reducible rfl); done)
              simp only [Act.put, List.setIfInBounds_toArray, List.set_cons_zero, List.set_cons_succ]
              refine wpFl_qL (v := ?_) rfl (Or.inl ⟨by rfl, ?_⟩) ?_
              rotate_left
              focus (intro w' hSw; (try dsimp only [OldKept] at hSw); obtain ⟨⟨u0, u1, u2⟩, r1, x0⟩ := HL2.out w' hSw; go_simp; (try with_reducible rfl); done)
              simp only [Act.put, List.setIfInBounds_toArray, List.set_cons_zero, List.set_cons_succ]
              refine wpFl_qL (v := ?_) rfl (Or.inl ⟨by rfl, ?_⟩) ?_
              rotate_left
              focus (intro w' hSw; (try dsimp only [OldKept] at hSw); obtain ⟨⟨u0, u1, u2⟩, r1, x0⟩ := HL2.out w' hSw; go_simp; (try with_reducible rfl); done)
              simp only [Act.put, List.setIfInBounds_toArray, List.set_cons_zero, List.set_cons_succ]
              refine wpFl_qL (v := ?_) rfl (Or.inl ⟨by rfl, ?_⟩) ?_
              rotate_left
              focus (intro w' hSw; (try dsimp only [OldKept] at hSw); obtain ⟨⟨u0, u1, u2⟩, r1, x0⟩ := HL2.out w' hSw; go_simp; (try with_reducible rfl); done)
              simp only [Act.put, List.setIfInBounds_toArray, List.set_cons_zero, List.set_cons_succ]
              refine wpFl_qL (v := ?_) rfl (Or.inl ⟨by rfl, ?_⟩) ?_
              rotate_left
              focus (intro w' hSw; (try dsimp only [OldKept] at hSw); obtain ⟨⟨u0, u1, u2⟩, r1, x0⟩ := HL2.out w' hSw; go_simp; (try with_reducible rfl); done)
              simp only [Act.put, List.setIfInBounds_toArray, List.set_cons_zero, List.set_cons_succ]
              refine wpFl_qL (v := ?_) rfl (Or.inl ⟨by rfl, ?_⟩) ?_
              rotate_left
              focus (intro w' hSw; (try dsimp only [OldKept] at hSw); obtain ⟨⟨u0, u1, u2⟩, r1, x0⟩ := HL2.out w' hSw; go_simp; (try with_reducible rfl); done)
              simp only [Act.put, List.setIfInBounds_toArray, List.set_cons_zero, List.set_cons_succ]
              refine wpFl_qL (v := ?_) rfl (Or.inl ⟨by rfl, ?_⟩) ?_
              rotate_left
              focus (intro w' hSw; (try dsimp only [OldKept] at hSw); obtain ⟨⟨u0, u1, u2⟩, r1, x0⟩ := HL2.out w' hSw; go_simp; (try with_reducible rfl); done)
              simp only [Act.put, List.setIfInBounds_toArray, List.set_cons_zero, List.set_cons_succ]
              refine wpFl_qL (v := ?_) rfl (Or.inl ⟨by rfl, ?_⟩) ?_
              rotate_left
              focus (intro w' hSw; (try dsimp only [OldKept] at hSw); obtain ⟨⟨u0, u1, u2⟩, r1, x0⟩ := HL2.out w' hSw; go_simp; (try with_reducible rfl); done)
              simp only [Act.put, List.setIfInBounds_toArray, List.set_cons_zero, List.set_cons_succ]
              refine wpFl_qL (v := ?_) rfl (Or.inl ⟨by rfl, ?_⟩) ?_
              rotate_left
              focus (intro w' hSw; (try dsimp only [OldKept] at hSw); obtain ⟨⟨u0, u1, u2⟩, r1, x0⟩ := HL2.out w' hSw; go_simp; (try with_reducible rfl); done)
              simp only [Act.put, List.setIfInBounds_toArray, List.set_cons_zero, List.set_cons_succ]
              refine wpFl_qL (v := ?_) rfl (Or.inl ⟨by rfl, ?_⟩) ?_
              rotate_left
              focus (intro w' hSw; (try dsimp only [OldKept] at hSw); obtain ⟨⟨u0, u1, u2⟩, r1, x0⟩ := HL2.out w' hSw; go_simp; (try with_reducible rfl); done)
              simp only [Act.put, List.setIfInBounds_toArray, List.set_cons_zero, List.set_cons_succ]
              refine wpFl_qL (v := ?_) rfl (Or.inl ⟨by rfl, ?_⟩) ?_
              rotate_left
              focus (intro w' hSw; (try dsimp only [OldKept] at hSw); obtain ⟨⟨u0, u1, u2⟩, r1, x0⟩ := HL2.out w' hSw; go_simp; (try with_reducible rfl); done)
              simp only [Act.put, List.setIfInBounds_toArray, List.set_cons_zero, List.set_cons_succ]
              refine wpFl_qL (v := ?_) rfl (Or.inl ⟨by rfl, ?_⟩) ?_
              rotate_left
              focus (intro w' hSw; (try dsimp only [OldKept] at hSw); obtain ⟨⟨u0, u1, u2⟩, r1, x0⟩ := HL2.out w' hSw; go_simp; (try with_reducible rfl); done)
              simp only [Act.put, List.setIfInBounds_toArray, List.set_cons_zero, List.set_cons_succ]
              refine wpFl_qL (v := ?_) rfl (Or.inl ⟨by rfl, ?_⟩) ?_
              rotate_left
              focus (intro w' hSw; (try dsimp only [OldKept] at hSw); obtain ⟨⟨u0, u1, u2⟩, r1, x0⟩ := HL2.out w' hSw; go_simp; (try with_reducible rfl); done)
              simp only [Act.put, List.setIfInBounds_toArray, List.set_cons_zero, List.set_cons_succ]
              refine wpFl_qL (v := ?_) rfl (Or.inl ⟨by rfl, ?_⟩) ?_
              rotate_left
              focus (intro w' hSw; (try dsimp only [OldKept] at hSw); obtain ⟨⟨u0, u1, u2⟩, r1, x0⟩ := HL2.out w' hSw; go_simp; (try with_reducible rfl); done)
              simp only [Act.put, List.setIfInBounds_toArray, List.set_cons_zero, List.set_cons_succ]
              refine wpFl_qL (v := ?_) rfl (Or.inl ⟨by rfl, ?_⟩) ?_
              rotate_left
              focus (intro w' hSw; (try dsimp only [OldKept] at hSw); obtain ⟨⟨u0, u1, u2⟩, r1, x0⟩ := HL2.out w' hSw; go_simp; (try with_reducible rfl); done)
              simp only [Act.put, List.setIfInBounds_toArray, List.set_cons_zero, List.set_cons_succ]
              refine wpFl_qL (v := ?_) rfl (Or.inl ⟨by rfl, ?_⟩) ?_
              rotate_left
              focus (intro w' hSw; (try dsimp only [OldKept] at hSw); obtain ⟨⟨u0, u1, u2⟩, r1, x0⟩ := HL2.out w' hSw; go_simp; (try with_reducible rfl); done)
              simp only [Act.put, List.setIfInBounds_toArray, List.set_cons_zero, List.set_cons_succ]
              refine wpFl_qL (v := ?_) rfl (Or.inl ⟨by rfl, ?_⟩) ?_
              rotate_left
              focus (intro w' hSw; (try dsimp only [OldKept] at hSw); obtain ⟨⟨u0, u1, u2⟩, r1, x0⟩ := HL2.out w' hSw; go_simp; (try with_reducible rfl); done)
              simp only [Act.put, List.setIfInBounds_toArray, List.set_cons_zero, List.set_cons_succ]
              refine wpFl_qL (v := ?_) rfl (Or.inl ⟨by rfl, ?_⟩) ?_
              rotate_left
              focus (intro w' hSw; (try dsimp only [OldKept] at hSw); obtain ⟨⟨u0, u1, u2⟩, r1, x0⟩ := HL2.out w' hSw; go_simp; (try with_reducible rfl); done)
              simp only [Act.put, List.setIfInBounds_toArray, List.set_cons_zero, List.set_cons_succ]
              refine wpFl_qL (v := ?_) rfl (Or.inl ⟨by rfl, ?_⟩) ?_
              rotate_left
              focus (intro w' hSw; (try dsimp only [OldKept] at hSw); obtain ⟨⟨u0, u1, u2⟩, r1, x0⟩ := HL2.out w' hSw; go_simp; (try with_reducible rfl); done)
              simp only [Act.put, List.setIfInBounds_toArray, List.set_cons_zero, List.set_cons_succ]
              refine wpFl_qL (v := ?_) rfl (Or.inl ⟨by rfl, ?_⟩) ?_
              rotate_left
              focus (intro w' hSw; (try dsimp only [OldKept] at hSw); obtain ⟨⟨u0, u1, u2⟩, r1, x0⟩ := HL2.out w' hSw; go_simp; (try with_reducible rfl); done)
              simp only [Act.put, List.setIfInBounds_toArray, List.set_cons_zero, List.set_cons_succ]
              refine wpFl_qL (v := ?_) rfl (Or.inl ⟨by rfl, ?_⟩) ?_
              rotate_left
              focus (intro w' hSw; (try dsimp only [OldKept] at hSw); obtain ⟨⟨u0, u1, u2⟩, r1, x0⟩ := HL2.out w' hSw; go_simp; (try with_reducible rfl); done)
              simp only [Act.put, List.setIfInBounds_toArray, List.set_cons_zero, List.set_cons_succ]
              refine wpFl_qL (v := ?_) rfl (Or.inl ⟨by rfl, ?_⟩) ?_
              rotate_left
              focus (intro w' hSw; (try dsimp only [OldKept] at hSw); obtain ⟨⟨u0, u1, u2⟩, r1, x0⟩ := HL2.out w' hSw; go_simp; (try with_reducible rfl); done)
              simp only [Act.put, List.setIfInBounds_toArray, List.set_cons_zero, List.set_cons_succ]
              refine wpFl_qL (v := ?_) rfl (Or.inl ⟨by rfl, ?_⟩) ?_
              rotate_left
              focus (intro w' hSw; (try dsimp only [OldKept] at hSw); obtain ⟨⟨u0, u1, u2⟩, r1, x0⟩ := HL2.out w' hSw; go_simp; (try with_reducible rfl); done)
              simp only [Act.put, List.setIfInBounds_toArray, List.set_cons_zero, List.set_cons_succ]
              refine wpFl_qL (v := ?_) rfl (Or.inl ⟨by rfl, ?_⟩) ?_
              rotate_left
              focus (intro w' hSw; (try dsimp only [OldKept] at hSw); obtain ⟨⟨u0, u1, u2⟩, r1, x0⟩ := HL2.out w' hSw; go_simp; (try with_reducible rfl); done)
              simp only [Act.put, List.setIfInBounds_toArray, List.set_cons_zero, List.set_cons_succ]
              refine wpFl_qL (v := ?_) rfl (Or.inl ⟨by rfl, ?_⟩) ?_
              rotate_left
              focus (intro w' hSw; (try dsimp only [OldKept] at hSw); obtain ⟨⟨u0, u1, u2⟩, r1, x0⟩ := HL2.out w' hSw; go_simp; (try with_reducible rfl); done)
              simp only [Act.put, List.setIfInBounds_toArray, List.set_cons_zero, List.set_cons_succ]
              refine wpFl_bL rfl (fun w17 hn17 hs17 K hK => ?_)
              go_simp
              go_at_call 32
              (with_reducible refine (HHx.out _ (below_next HB16.out hs17)).mono ?_)
              rintro e w18 ⟨vh, rfl, hoh, hb18⟩
              have HOH := Lib.hid hoh.ss
              have HOW2 := Lib.hid (SS.below HOW.out (below_next hs17 hb18))
              refine hK.out _ _ (below_next hs17 hb18) (Keeps.below hb18) ?_
              clear hK K hn17 hs17 hb18 hoh
              refine wpFl_bL rfl (fun w19 hn19 hs19 K hK => ?_)
              go_simp
              go_at_call 31
              have hcd := collided_any (SS.below HOW2.out hn19) (SS.below HOH.out hn19) (by omega) (by omega) (fun x hx => by have := HWS.out x hx; omega) HHX.out
              rw [HCO.out] at hcd
              refine hcd.mono ?_
              rintro e w20 ⟨rfl, hb20⟩
              have HB20 := Lib.hid (below_next HB16.out (below_next hs19 hb20))
              refine hK.out _ _ (below_next hs19 hb20) (Keeps.below hb20) ?_
              clear hK K hn19 hs19 hb20 hcd HOH HOW2
              refine wpFl_qL (v := ?_) rfl (Or.inl ⟨by rfl, ?_⟩) ?_
              rotate_left
              focus (intro w' hSw; (try dsimp only [OldKept] at hSw); go_simp; (try with_reducible rfl); done)
              simp only [Act.put, List.setIfInBounds_toArray, List.set_cons_zero, List.set_cons_succ]
              refine wpFl_qL (v := ?_) rfl (Or.inl ⟨by rfl, ?_⟩) ?_
              rotate_left
              focus (intro w' hSw; (try dsimp only [OldKept] at hSw); go_simp; (try with_reducible rfl); done)
              simp only [Act.put, List.setIfInBounds_toArray, List.set_cons_zero, List.set_cons_succ]
              refine wpFl_qL (v := ?_) rfl (Or.inl ⟨by rfl, ?_⟩) ?_
              rotate_left
              focus (intro w' hSw; (try dsimp only [OldKept] at hSw); go_simp; (try with_reducible rfl); done)
              simp only [Act.put, List.setIfInBounds_toArray, List.set_cons_zero, List.set_cons_succ]
              refine wpFl_nil ?_
              refine NoPanic.normal ?_
              go_wp2
              go_roundw
              case rel => exact ⟨k + 1, by omega, by go_num, HB20⟩
              case measure => simp [intOf]; omega
          · have tk : ¬ (k : Int) < (L : Int) := by omega
            have HF := Lib.hid (K14.out.step hB.out).below
            go_wp2
            go_ret
            exact ⟨rfl, HF.out⟩
      · have hne : ¬ (z1 = c1P ∧ z2 = c2P ∧ z3 = c3P ∧ z4 = c4P) := fun ⟨a, b, c, d⟩ => hh (by rw [a, b, c, d])
        have HCO : Hid (collS [markL (contentB ⟨c1P, c2P, c3P, c4P⟩), markN key (leafS (contentB ⟨c1P, c2P, c3P, c4P⟩))] [markL (contentB ⟨z1, z2, z3, z4⟩), markN key (leafS (contentB ⟨z1, z2, z3, z4⟩))] = true) := Lib.hid (genuine_coll HGP.out HGZ.out HFZ.out.2 hh)
        obtain ⟨g1, g2, g3, g4, g5⟩ := of_decide_eq_true (show decide _ = true from HGZ.out)
        have HCz : Hid (∀ W, Calls Tryz.prog 37 #[.agg #[.int .i64 z1, .int .i64 z2, .string z3, .string z4]] W fun e w' => e = .returned (.string (contentB ⟨z1, z2, z3, z4⟩)) ∧ Below W.heap.size W w') := Lib.hid (fun W => content_any ⟨z1, z2, z3, z4⟩ g2 g3 (by show z3.size ≤ 1000; rw [show z3.size = 32 from g4]; omega) W)
        have g4z : z3.size = 32 := g4
        have hC2 : (contentB ⟨z1, z2, z3, z4⟩).size ≤ 2000 := by rw [content_size]; simp only; omega
        clear g4z g1 g2 g3 g4 g5
        obtain ⟨g1, g2, g3, g4, g5⟩ := of_decide_eq_true (show decide _ = true from HGP.out)
        have HCn : Hid (∀ W, Calls Tryz.prog 37 #[.agg #[.int .i64 c1P, .int .i64 c2P, .string c3P, .string c4P]] W fun e w' => e = .returned (.string (contentB ⟨c1P, c2P, c3P, c4P⟩)) ∧ Below W.heap.size W w') := Lib.hid (fun W => content_any ⟨c1P, c2P, c3P, c4P⟩ g2 g3 (by show c3P.size ≤ 1000; rw [show c3P.size = 32 from g4]; omega) W)
        have g4z : c3P.size = 32 := g4
        have hC1 : (contentB ⟨c1P, c2P, c3P, c4P⟩).size ≤ 2000 := by rw [content_size]; simp only; omega
        clear g4z g1 g2 g3 g4 g5 hh
        generalize contentB ⟨z1, z2, z3, z4⟩ = C2 at *
        generalize contentB ⟨c1P, c2P, c3P, c4P⟩ = C1 at *
        have HLz := Lib.hid (fun W => r2leaf_any C2 W (by omega))
        have hL2 : (leafS C2).size = 32 := leafS_size _
        have HLf := Lib.hid (fun W => r2leaf_any C1 W (by omega))
        have hL1 : (leafS C1).size = 32 := leafS_size _
        generalize leafS C2 = L2 at *
        generalize leafS C1 = L1 at *
        have s1 : (((⟨#[1]⟩ : ByteArray) ++ key)).size = key.size + 1 := mark_size 1 key
        have s2 : (((⟨#[1]⟩ : ByteArray) ++ key) ++ L1).size = key.size + 1 + L1.size := by rw [ByteArray.size_append, s1]
        have s3 : (((⟨#[1]⟩ : ByteArray) ++ key) ++ L2).size = key.size + 1 + L2.size := by rw [ByteArray.size_append, s1]
        have s4 : ((⟨#[0]⟩ : ByteArray) ++ C1).size = C1.size + 1 := mark_size 0 C1
        have s5 : ((⟨#[0]⟩ : ByteArray) ++ C2).size = C2.size + 1 := mark_size 0 C2
        have s6 : ¬ 9223372036854775807 < 1 + C1.size := by omega
        have s7 : ¬ 9223372036854775807 < 1 + C2.size := by omega
        go_cut [114] (fun t wx => t = .bool true ∧ wx = w14)
        case first =>
          go_wp2
          all_goals first
            | (exfalso; exact hne ⟨by assumption, by assumption, list_str (by assumption), list_str (by assumption)⟩)
            | (go_meet; exact ⟨rfl, rfl⟩)
        case rest =>
        obtain ⟨ht, hw⟩ := hcut
        subst ht
        replace hw := hw.symm
        subst hw
        clear c0 c1 c2 c3 c4 d0 d1 d2 d3 d4 hne
        go_upto_region 16 with fail
        refine wp_region_noPanic ?_
        refine wp_region_lexB [.q 0, .q 1, .q 4, .q 5, .q 6, .q 7, .q 12, .q 13, .q 16, .q 17, .q 18, .q 19, .b 2, .q 3, .b 8, .b 9, .q 10, .an 11, .b 14, .q 15, .b 20, .b 21, .q 22, .an 23, .co 11, .co 23, .b 24, .q 25] (by kernel_rfl) (by kernel_rfl) (fun _ _ _ _ h => h) ?_
        refine wpFl_qL (v := ?_) rfl (Or.inl ⟨by rfl, ?_⟩) ?_
        rotate_left
        focus (intro w' hSw; (try dsimp only [OldKept] at hSw); obtain ⟨⟨c0, c1, c2, c3, c4⟩, d0, d1, d2, d3, d4⟩ := HL.out w' hSw; go_simp; (try with_reducible rfl); done)
        simp only [Act.put, List.setIfInBounds_toArray, List.set_cons_zero, List.set_cons_succ]
        refine wpFl_qL (v := ?_) rfl (Or.inl ⟨by rfl, ?_⟩) ?_
        rotate_left
        focus (intro w' hSw; (try dsimp only [OldKept] at hSw); obtain ⟨⟨c0, c1, c2, c3, c4⟩, d0, d1, d2, d3, d4⟩ := HL.out w' hSw; go_simp; (try with_reducible rfl); done)
        simp only [Act.put, List.setIfInBounds_toArray, List.set_cons_zero, List.set_cons_succ]
        refine wpFl_qL (v := ?_) rfl (Or.inl ⟨by rfl, ?_⟩) ?_
        rotate_left
        focus (intro w' hSw; (try dsimp only [OldKept] at hSw); obtain ⟨⟨c0, c1, c2, c3, c4⟩, d0, d1, d2, d3, d4⟩ := HL.out w' hSw; go_simp; (try with_reducible rfl); done)
        simp only [Act.put, List.setIfInBounds_toArray, List.set_cons_zero, List.set_cons_succ]
        refine wpFl_qL (v := ?_) rfl (Or.inl ⟨by rfl, ?_⟩) ?_
        rotate_left
        focus (intro w' hSw; (try dsimp only [OldKept] at hSw); obtain ⟨⟨c0, c1, c2, c3, c4⟩, d0, d1, d2, d3, d4⟩ := HL.out w' hSw; go_simp; (try with_reducible rfl); done)
        simp only [Act.put, List.setIfInBounds_toArray, List.set_cons_zero, List.set_cons_succ]
        refine wpFl_qL (v := ?_) rfl (Or.inl ⟨by rfl, ?_⟩) ?_
        rotate_left
        focus (intro w' hSw; (try dsimp only [OldKept] at hSw); obtain ⟨⟨c0, c1, c2, c3, c4⟩, d0, d1, d2, d3, d4⟩ := HL.out w' hSw; go_simp; (try with_reducible rfl); done)
        simp only [Act.put, List.setIfInBounds_toArray, List.set_cons_zero, List.set_cons_succ]
        refine wpFl_qL (v := ?_) rfl (Or.inl ⟨by rfl, ?_⟩) ?_
        rotate_left
        focus (intro w' hSw; (try dsimp only [OldKept] at hSw); obtain ⟨⟨c0, c1, c2, c3, c4⟩, d0, d1, d2, d3, d4⟩ := HL.out w' hSw; go_simp; (try with_reducible rfl); done)
        simp only [Act.put, List.setIfInBounds_toArray, List.set_cons_zero, List.set_cons_succ]
        refine wpFl_qL (v := ?_) rfl (Or.inl ⟨by rfl, ?_⟩) ?_
        rotate_left
        focus (intro w' hSw; (try dsimp only [OldKept] at hSw); obtain ⟨⟨c0, c1, c2, c3, c4⟩, d0, d1, d2, d3, d4⟩ := HL.out w' hSw; go_simp; (try with_reducible rfl); done)
        simp only [Act.put, List.setIfInBounds_toArray, List.set_cons_zero, List.set_cons_succ]
        refine wpFl_qL (v := ?_) rfl (Or.inl ⟨by rfl, ?_⟩) ?_
        rotate_left
        focus (intro w' hSw; (try dsimp only [OldKept] at hSw); obtain ⟨⟨c0, c1, c2, c3, c4⟩, d0, d1, d2, d3, d4⟩ := HL.out w' hSw; go_simp; (try with_reducible rfl); done)
        simp only [Act.put, List.setIfInBounds_toArray, List.set_cons_zero, List.set_cons_succ]
        refine wpFl_qL (v := ?_) rfl (Or.inl ⟨by rfl, ?_⟩) ?_
        rotate_left
        focus (intro w' hSw; (try dsimp only [OldKept] at hSw); obtain ⟨⟨c0, c1, c2, c3, c4⟩, d0, d1, d2, d3, d4⟩ := HL.out w' hSw; go_simp; (try with_reducible rfl); done)
        simp only [Act.put, List.setIfInBounds_toArray, List.set_cons_zero, List.set_cons_succ]
        refine wpFl_qL (v := ?_) rfl (Or.inl ⟨by rfl, ?_⟩) ?_
        rotate_left
        focus (intro w' hSw; (try dsimp only [OldKept] at hSw); obtain ⟨⟨c0, c1, c2, c3, c4⟩, d0, d1, d2, d3, d4⟩ := HL.out w' hSw; go_simp; (try with_reducible rfl); done)
        simp only [Act.put, List.setIfInBounds_toArray, List.set_cons_zero, List.set_cons_succ]
        refine wpFl_qL (v := ?_) rfl (Or.inl ⟨by rfl, ?_⟩) ?_
        rotate_left
        focus (intro w' hSw; (try dsimp only [OldKept] at hSw); obtain ⟨⟨c0, c1, c2, c3, c4⟩, d0, d1, d2, d3, d4⟩ := HL.out w' hSw; go_simp; (try with_reducible rfl); done)
        simp only [Act.put, List.setIfInBounds_toArray, List.set_cons_zero, List.set_cons_succ]
        refine wpFl_qL (v := ?_) rfl (Or.inl ⟨by rfl, ?_⟩) ?_
        rotate_left
        focus (intro w' hSw; (try dsimp only [OldKept] at hSw); obtain ⟨⟨c0, c1, c2, c3, c4⟩, d0, d1, d2, d3, d4⟩ := HL.out w' hSw; go_simp; (try with_reducible rfl); done)
        simp only [Act.put, List.setIfInBounds_toArray, List.set_cons_zero, List.set_cons_succ]
        refine wpFl_bL rfl (fun w20 hnw20 hsw20 K hK => ?_)
        go_simp
        go_at_call 37
        (with_reducible refine (HCn.out _).mono ?_)
        rintro e w21 ⟨rfl, hbw21⟩
        refine hK.out _ _ (below_next hsw20 hbw21) (Keeps.below hbw21) ?_
        clear hK K hnw20 hsw20 hbw21
        refine wpFl_qL (v := ?_) rfl (Or.inl ⟨by rfl, ?_⟩) ?_
        rotate_left
        focus (intro w' hSw; (try dsimp only [OldKept] at hSw); go_simp; (try with_reducible rfl); done)
        simp only [Act.put, List.setIfInBounds_toArray, List.set_cons_zero, List.set_cons_succ]
        refine wpFl_bL rfl (fun w22 hnw22 hsw22 K hK => ?_)
        go_simp
        go_at_call 37
        (with_reducible refine (HCn.out _).mono ?_)
        rintro e w23 ⟨rfl, hbw23⟩
        refine hK.out _ _ (below_next hsw22 hbw23) (Keeps.below hbw23) ?_
        clear hK K hnw22 hsw22 hbw23
        refine wpFl_bL rfl (fun w24 hnw24 hsw24 K hK => ?_)
        go_simp
        go_at_call 38
        (with_reducible refine (HLf.out _).mono ?_)
        rintro e w25 ⟨rfl, hbw25⟩
        refine hK.out _ _ (below_next hsw24 hbw25) (Keeps.below hbw25) ?_
        clear hK K hnw24 hsw24 hbw25
        refine wpFl_qL (v := ?_) rfl (Or.inl ⟨by rfl, ?_⟩) ?_
        rotate_left
        focus (intro w' hSw; (try dsimp only [OldKept] at hSw); go_simp; (try with_reducible rfl); done)
        simp only [Act.put, List.setIfInBounds_toArray, List.set_cons_zero, List.set_cons_succ]
        refine wpFl_anL rfl (.cells #[.string ((⟨#[0]⟩ : ByteArray) ++ C1), .string (((⟨#[1]⟩ : ByteArray) ++ key) ++ L1)] 9 (0, 0)) (fun n => .slice (some ⟨n, 0, none⟩) 2 2) ⟨by rfl, fun w' => ?_⟩ ?_
        focus (go_simp; done)
        refine wpFl_bL rfl (fun w26 hnw26 hsw26 K hK => ?_)
        go_simp
        go_at_call 37
        (with_reducible refine (HCz.out _).mono ?_)
        rintro e w27 ⟨rfl, hbw27⟩
        refine hK.out _ _ (below_next hsw26 hbw27) (Keeps.below hbw27) ?_
        clear hK K hnw26 hsw26 hbw27
        refine wpFl_qL (v := ?_) rfl (Or.inl ⟨by rfl, ?_⟩) ?_
        rotate_left
        focus (intro w' hSw; (try dsimp only [OldKept] at hSw); go_simp; (try with_reducible rfl); done)
        simp only [Act.put, List.setIfInBounds_toArray, List.set_cons_zero, List.set_cons_succ]
        refine wpFl_bL rfl (fun w28 hnw28 hsw28 K hK => ?_)
        go_simp
        go_at_call 37
        (with_reducible refine (HCz.out _).mono ?_)
        rintro e w29 ⟨rfl, hbw29⟩
        refine hK.out _ _ (below_next hsw28 hbw29) (Keeps.below hbw29) ?_
        clear hK K hnw28 hsw28 hbw29
        refine wpFl_bL rfl (fun w30 hnw30 hsw30 K hK => ?_)
        go_simp
        go_at_call 38
        (with_reducible refine (HLz.out _).mono ?_)
        rintro e w31 ⟨rfl, hbw31⟩
        refine hK.out _ _ (below_next hsw30 hbw31) (Keeps.below hbw31) ?_
        clear hK K hnw30 hsw30 hbw31
        refine wpFl_qL (v := ?_) rfl (Or.inl ⟨by rfl, ?_⟩) ?_
        rotate_left
        focus (intro w' hSw; (try dsimp only [OldKept] at hSw); go_simp; (try with_reducible rfl); done)
        simp only [Act.put, List.setIfInBounds_toArray, List.set_cons_zero, List.set_cons_succ]
        refine wpFl_anL rfl (.cells #[.string ((⟨#[0]⟩ : ByteArray) ++ C2), .string (((⟨#[1]⟩ : ByteArray) ++ key) ++ L2)] 9 (0, 0)) (fun n => .slice (some ⟨n, 0, none⟩) 2 2) ⟨by rfl, fun w' => ?_⟩ ?_
        focus (go_simp; done)
        refine wpFl_coL rfl (.cells #[.string ((⟨#[0]⟩ : ByteArray) ++ C1), .string (((⟨#[1]⟩ : ByteArray) ++ key) ++ L1)] 9 (0, 0)) (fun n => .slice (some ⟨n, 0, none⟩) 2 2) (by rfl) (N' := [(23, .cells #[.string ((⟨#[0]⟩ : ByteArray) ++ C2), .string (((⟨#[1]⟩ : ByteArray) ++ key) ++ L2)] 9 (0, 0), fun n => .slice (some ⟨n, 0, none⟩) 2 2)]) (by rfl) (fun ba w32 hn_w32 hs_w32 hb_ba hz_ba => ?_)
        simp only [Act.put, List.setIfInBounds_toArray, List.set_cons_zero, List.set_cons_succ]
        have HSA := Lib.hid (SS.lit [(⟨#[0]⟩ : ByteArray) ++ C1, ((⟨#[1]⟩ : ByteArray) ++ key) ++ L1] hz_ba (n := 2) rfl (by simp))
        clear hz_ba hn_w32 hs_w32 hb_ba
        refine wpFl_coL rfl (.cells #[.string ((⟨#[0]⟩ : ByteArray) ++ C2), .string (((⟨#[1]⟩ : ByteArray) ++ key) ++ L2)] 9 (0, 0)) (fun n => .slice (some ⟨n, 0, none⟩) 2 2) (by rfl) (N' := []) (by rfl) (fun bb2 w33 hn_w33 hs_w33 hb_bb2 hz_bb2 => ?_)
        simp only [Act.put, List.setIfInBounds_toArray, List.set_cons_zero, List.set_cons_succ]
        have HSA1 := Lib.hid (SS.below HSA.out hn_w33)
        have HSB := Lib.hid (SS.lit [(⟨#[0]⟩ : ByteArray) ++ C2, ((⟨#[1]⟩ : ByteArray) ++ key) ++ L2] hz_bb2 (n := 2) rfl (by simp))
        clear hz_bb2 hn_w33 hs_w33 hb_bb2 HSA
        refine wpFl_bL rfl (fun w34 hn34 hs34 K hK => ?_)
        go_simp
        go_at_call 31
        have hcd := collided_any (SS.below HSA1.out hn34) (SS.below HSB.out hn34) (by simp) (by simp) (by
          intro x hx
          simp only [List.mem_cons, List.not_mem_nil, or_false] at hx
          rcases hx with rfl | rfl <;> omega) (by
          intro x hx
          simp only [List.mem_cons, List.not_mem_nil, or_false] at hx
          rcases hx with rfl | rfl <;> omega)
        rw [show collS [(⟨#[0]⟩ : ByteArray) ++ C1, ((⟨#[1]⟩ : ByteArray) ++ key) ++ L1] [(⟨#[0]⟩ : ByteArray) ++ C2, ((⟨#[1]⟩ : ByteArray) ++ key) ++ L2] = true from by
          rw [ByteArray.append_assoc, ByteArray.append_assoc]; exact HCO.out] at hcd
        refine hcd.mono ?_
        rintro e w35 ⟨rfl, hb35⟩
        have HF := Lib.hid (K14.out.step (below_next hs34 hb35)).below
        refine hK.out _ _ (below_next hs34 hb35) (Keeps.below hb35) ?_
        clear hK K hn34 hs34 hb35 hcd
        refine wpFl_qL (v := ?_) rfl (Or.inl ⟨by rfl, ?_⟩) ?_
        rotate_left
        focus (intro w' hSw; (try dsimp only [OldKept] at hSw); go_simp; (try with_reducible rfl); done)
        simp only [Act.put, List.setIfInBounds_toArray, List.set_cons_zero, List.set_cons_succ]
        refine wpFl_nil ?_
        refine NoPanic.normal ?_
        go_wp2
        go_ret
        exact ⟨rfl, HF.out⟩
end Go.Proofs.YtinfpbkbnhcifaaGreatDoor
