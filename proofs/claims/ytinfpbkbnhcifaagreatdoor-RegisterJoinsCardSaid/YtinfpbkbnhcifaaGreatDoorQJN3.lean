/- The walk of RegisterJoins. The conditions: what the slices read as, ranges, the table of constants. -/
import Derived.Test.YtinfpbkbnhcifaaGreatDoorQJN2
import Derived.Deep.DeepCutAuto
namespace Go.Proofs.YtinfpbkbnhcifaaGreatDoor
open Go.RowKit Go.BigFrame

set_option maxHeartbeats 12000000 in
set_option maxRecDepth 100000 in
theorem joins_law {w : World} (carrier turn : Int) {vx vs vb : Value} {x ss bs : List Int} (hx : IL w vx x) (hs : IL w vs ss) (hb : IL w vb bs) (ic : I64 carrier) (ix : ∀ n ∈ x, I64 n) (is : ∀ n ∈ ss, I64 n) (ib : ∀ n ∈ bs, I64 n) (it : I64 turn) (he : Env w) (hg : 0 < w.heap.size) :
    Calls Tryz.prog 9 #[.int .i64 carrier, vx, vs, vb, .int .i64 turn] w fun e w' => e = .returned (.bool true) ∧ Below w.heap.size w w' := by
  have hpk := pickI_range carrier (n := 8) (by omega)
  obtain ⟨cn, hcn⟩ := Int.eq_ofNat_of_zero_le hpk.1
  have hc7 : cn ≤ 7 := by omega
  have HV : Hid (validB ⟨(cn : Int), madeL x⟩ = true) := Lib.hid (by rw [← hcn]; exact made_valid carrier x)
  obtain ⟨ad1, cs, rfl, s1, s2, s3⟩ := hs.opened
  obtain ⟨ad2, cb, rfl, b1, b2, b3⟩ := hb.opened
  unfold maxLen at s2 b2
  have HS3 := Lib.hid s3
  have HB3 := Lib.hid b3
  have HIS := Lib.hid is
  have HIB := Lib.hid ib
  have HIX := Lib.hid ix
  have HX := Lib.hid hx
  have HIC := Lib.hid ic
  have HIT := Lib.hid it
  have K0 := Lib.hid (Know.start he hg)
  clear hpk s3 b3 is ib ix hx ic it he hg hs hb
  obtain ⟨xs, hxs⟩ : ∃ xs, xs = madeL x := ⟨_, rfl⟩
  have hm12 : xs.length ≤ 12 := by rw [hxs]; exact madeL_len x
  rw [← hxs] at HV
  have HXS := Lib.hid hxs
  clear hxs
  obtain ⟨ns, hns⟩ : ∃ n, n = ss.length := ⟨_, rfl⟩
  obtain ⟨nb, hnb⟩ : ∃ n, n = bs.length := ⟨_, rfl⟩
  rw [← hns] at s1 ⊢
  rw [← hnb] at b1 ⊢
  have HNS := Lib.hid hns
  have HNB := Lib.hid hnb
  clear hns hnb
  obtain ⟨M, hM⟩ : ∃ M, M = min (min ns nb) 5 := ⟨_, rfl⟩
  have HMM : Hid (∀ k : Nat, k ≤ M → (k < M ↔ (k < ns ∧ k < nb ∧ k < 5))) := Lib.hid (fun k hk => by omega)
  have hM5 : M ≤ 5 := by omega
  clear hM
  go_enter Tryz.func9, Tryz.ntmps9
  go_wp2_with fail
  refine (sane_at K0.out).mono ?_
  rintro e w1 ⟨rfl, k1⟩
  have K1 := Lib.hid k1
  clear k1 K0
  go_wp2_with fail
  refine (made_at K1.out (HX.out.below K1.out.below) HIX.out carrier HIC.out).mono ?_
  rintro e w2 ⟨vr, rfl, k2⟩
  rw [← HXS.out] at k2
  rw [hcn]
  obtain ⟨ar, cr, rfl⟩ := (k2.all 0 _ rfl : SS w2 vr xs).form2
  have K2 := Lib.hid k2
  clear k2 K1 HX HIX HIC hcn HXS
  go_upto_region 5 with fail
  have k3 := K2.out.box #[.int .i64 cn, .slice ar xs.length cr] 26
  obtain ⟨w3, hw3⟩ : ∃ W, W = w2.alloc (.cells #[.int .i64 cn, .slice ar xs.length cr] 26) := ⟨_, rfl⟩
  rw [← hw3] at k3 ⊢
  clear hw3
  generalize w2.heap.size = rb at k3 ⊢
  simp only [List.nil_append, List.cons_append] at k3
  obtain ⟨rc0, rc1⟩ := k3.duo (i := 1) rfl
  have K3 := Lib.hid k3
  clear k3 K2
  go_wp2_with fail
  clear rc0 rc1
  refine (key_at K3.out cn (by omega)).mono ?_
  rintro e w4 ⟨rfl, k4⟩
  have K4 := Lib.hid k4
  have HK32 := Lib.hid (keyS_size (cn : Int))
  generalize keyS (cn : Int) = key at *
  clear k4 K3
  go_wp2_with (refine wpList_allocA 75 (boolsS (seenS [])) zeroSeen rfl rfl ?_)
  have HJ0 := Lib.hid (JAt.start w4)
  generalize w4.alloc (.cells (boolsS (seenS [])) 75) = W0 at *
  have HQ0 : Hid (QOk xs.length []) := Lib.hid (QOk.nil _)
  have HX60 := Lib.hid (valid_parts HV.out).2.2.1
  obtain ⟨m, hm⟩ : ∃ m, m = xs.length := ⟨_, rfl⟩
  rw [← hm] at hm12 K4 ⊢
  have HM := Lib.hid hm
  clear hm
  go_loopw [14, 16, 17] (fun v many i wr => ∃ (k : Nat) (q : List (Nat × List Nat)) (zs : List (PartP × Value)), k ≤ M ∧ many = .int .i64 ((cntS (seenS q) : Nat) : Int) ∧ i = .int .i64 k ∧ Hid (q.length = k) ∧ Hid (QOk xs.length q) ∧ Hid (zs.map (·.1) = partsS key cn xs q) ∧ Hid (JAt w4 wr (seenS q) v zs)) (fun _ _ i _ => M - (intOf i).toNat)
  case atStart => exact ⟨0, [], [], by omega, by rw [seen_nil, cnt_none]; rfl, rfl, Lib.hid rfl, HQ0, Lib.hid rfl, HJ0⟩
  case round =>
    clear HJ0 HQ0
    obtain ⟨k, q, zs, hk, rfl, rfl, hql, hQ, hZ, hJ⟩ := hrel
    have HKM := Lib.hid (HMM.out k hk)
    have HKr := Lib.hid (K4.out.step hJ.out.1)
    go_upto_region 10 with fail
    go_cut [65] from 52 to 169 (fun t wx => t = .bool (decide (k < M)) ∧ wx = wr)
    case first =>
      have u0 : (0 : Int) ≤ (k : Int) := by omega
      by_cases h1 : k < ns
      · have u1 : (k : Int) < (ns : Int) := by omega
        by_cases h2 : k < nb
        · have u2 : (k : Int) < (nb : Int) := by omega
          by_cases h3 : k < 5
          · have u3 : (k : Int) < 5 := by omega
            have HD : Hid (decide (k < M) = true) := Lib.hid (decide_eq_true (HKM.out.2 ⟨h1, h2, h3⟩))
            go_wp2
            go_meet
            case rel => exact ⟨by rw [HD.out], rfl⟩
          · have u3 : ¬ (k : Int) < 5 := by omega
            have HD : Hid (decide (k < M) = false) := Lib.hid (decide_eq_false (fun h => h3 (HKM.out.1 h).2.2))
            go_wp2
            go_meet
            case rel => exact ⟨by rw [HD.out], rfl⟩
        · have u2 : ¬ (k : Int) < (nb : Int) := by omega
          have HD : Hid (decide (k < M) = false) := Lib.hid (decide_eq_false (fun h => h2 (HKM.out.1 h).2.1))
          go_wp2
          go_meet
          case rel => exact ⟨by rw [HD.out], rfl⟩
      · have u1 : ¬ (k : Int) < (ns : Int) := by omega
        have HD : Hid (decide (k < M) = false) := Lib.hid (decide_eq_false (fun h => h1 (HKM.out.1 h).1))
        go_wp2
        go_meet
        case rel => exact ⟨by rw [HD.out], rfl⟩
    case rest =>
    obtain ⟨ht65, hwc⟩ := hcut
    subst ht65 hwc
    obtain ⟨wr, hwr⟩ : ∃ wr, wr = wc := ⟨_, rfl⟩
    subst hwr
    by_cases hlt : k < M
    · obtain ⟨hk1, hk2, hk5⟩ := HKM.out.1 hlt
      obtain ⟨s, es⟩ : ∃ s, ss[k]? = some s := ⟨_, List.getElem?_eq_getElem (by rw [← HNS.out]; exact hk1)⟩
      obtain ⟨bt, et⟩ : ∃ s, bs[k]? = some s := ⟨_, List.getElem?_eq_getElem (by rw [← HNB.out]; exact hk2)⟩
      obtain ⟨gs, os, rfl, hgs, c0⟩ := HS3.out k s es
      obtain ⟨gb, ob, rfl, hgb, c1⟩ := HB3.out k bt et
      have d0 := cell_keepB HKr.out.below hgs c0
      have HD1 := Lib.hid (cell_keepB HKr.out.below hgb c1)
      have HBT := Lib.hid (HIB.out bt (List.mem_of_getElem? et))
      obtain ⟨rc0, rc1⟩ := HKr.out.duo (i := 1) rfl
      have HPK := Lib.hid (fun W => lpick_any s ((m : Int) + 1) W (HIS.out s (List.mem_of_getElem? es)) (by omega) (by omega))
      obtain ⟨p0, p1⟩ := pickI_range s (n := (m : Int) + 1) (by omega)
      obtain ⟨n, hn⟩ := Int.eq_ofNat_of_zero_le p0
      rw [hn] at HPK p1
      have hnm : n ≤ m := by omega
      have HC1 := Lib.hid c1
      clear c0 c1 es et hn p0 p1
      have u1 : (k : Int) < (ns : Int) := by omega
      have u2 : (k : Int) < (nb : Int) := by omega
      have u3 : (k : Int) < 5 := by omega
      have u0 : (0 : Int) ≤ (k : Int) := by omega
      have f1 : IntKind.i64.wrap ((m : Int) + 1) = (m : Int) + 1 := IntWalk.i64_in _ (by omega)
      go_upto_region 12 with fail
      go_quiet ((go_at_call 16; exact Calls.quiet_of_same (HPK.out _)))
      clear d0 HPK f1 u0
      have hzl : zs.length = k := by
        have := congrArg List.length hZ.out
        unfold partsS at this
        rw [List.length_map, List.length_map, hql.out] at this
        exact this
      obtain ⟨va, vc, hv⟩ := OwnE.form hJ.out.2.2.1
      rw [ptcells_len, hzl] at hv
      subst hv
      have hJ : Hid (JAt w4 (wr.drewN nq) (seenS q) (.slice va k vc) zs) := Lib.hid (hJ.out.far (below_drewN (Below.refl _ _) nq))
      have HKq : Hid (Know w (wr.drewN nq) _) := Lib.hid (K4.out.step hJ.out.1)
      have HD1 : Hid ((wr.drewN nq).cell? ⟨gb, ob + k, none⟩ = some (.int .i64 bt)) := HD1
      clear HKr rc0 rc1
      generalize wr.drewN nq = wq at *
      obtain ⟨P, hP⟩ : ∃ P, P = partS key cn xs n (idxS bt n) := ⟨_, rfl⟩
      have HI := Lib.hid (fun W => indices_any bt HBT.out n (by omega) W)
      have hidl : (idxS bt n).length ≤ 60 := by have := idxI_len bt n; unfold idxI at this; rw [List.length_map] at this; omega
      have HSh : Hid (∀ W vl, Below wq.heap.size wq W → IL W vl (idxI bt n) → Calls Tryz.prog 18 #[.string key, .agg #[.int .i64 cn, .slice ar m cr], .int .i64 n, vl] W fun e w' => ∃ iv, e = .returned (.tuple #[.agg (pbox P iv), .int .i64 0]) ∧ IT w' iv P.items ∧ Below W.heap.size W w') := Lib.hid (fun W vl hW hl => by
        rw [hP]
        exact show_ix (HKq.out.step hW) 0 rfl (idxS bt n) hl key cn n HK32.out HV.out (by rw [← HM.out]; exact hnm) (idxS_asc _ _) (idxS_lt _ _) (by omega))
      have HPq := Lib.hid hP
      have HL12 : Hid ((idxS bt n).length ≤ 60) := Lib.hid hidl
      clear hP hidl
      obtain ⟨⟨hc, hs, hr, hsl⟩, its⟩ := P
      unfold pbox at HSh
      simp only at HSh
      have HKP : Hid (∀ W, Below wq.heap.size wq W → W.cell? ⟨rb, 0, none⟩ = some (.int .i64 cn) ∧ W.cell? ⟨rb, 1, none⟩ = some (.slice ar m cr) ∧ W.cell? ⟨gb, ob + k, none⟩ = some (.int .i64 bt)) := Lib.hid (fun W hW => by
        obtain ⟨a, b⟩ := (HKq.out.step hW).duo (i := 1) rfl
        exact ⟨a, b, cell_keepB (HKq.out.step hW).below hgb HC1.out⟩)
      have u2 : (k : Int) < (nb : Int) := by omega
      have u0 : (0 : Int) ≤ (k : Int) := by omega
      clear HD1
      go_upto_region 13 with fail
      go_cut [19, 20] from 52 to 169 (fun p e wx => ∃ (pb : Nat) (iv : Value), p = .pointer (some ⟨pb, 0, none⟩) ∧ e = .int .i64 0 ∧ Hid (JAt w4 wx (seenS q) (.slice va k vc) zs) ∧ Hid (wq.heap.size ≤ pb) ∧ Hid (wx.heap[pb]? = some (.cells #[.int .i64 hc, .int .i64 hs, .string hr, .string hsl, iv] 38 (0, 0))) ∧ Hid (IT wx iv its))
      case first =>
        have HB0 : Hid (Below wq.heap.size wq wq) := Lib.hid (Below.refl _ _)
        go_region_held3 (fun w' => w'.cell? ⟨rb, 0, none⟩ = some (.int .i64 cn) ∧ w'.cell? ⟨rb, 1, none⟩ = some (.slice ar m cr) ∧ w'.cell? ⟨gb, ob + k, none⟩ = some (.int .i64 bt))
          ((refine HKP.out _ ?_; repeat (first | exact HB6.out | exact HB5.out | exact HB0.out | apply Below.stepD | apply Below.stepA | exact five_below HB6.out (by first | exact HB5.out.size | exact Nat.le_refl _) _ _ _ _ _)))
          ((first | (go_at_call 17; (with_reducible refine (HI.out _).mono ?_); rintro e w5 ⟨vl, rfl, hl5, hb5⟩; have HIL5 := Lib.hid hl5; have HB5 : Hid (Below wq.heap.size wq w5) := Lib.hid (Below.next (by repeat (first | exact HB0.out | apply Below.stepD | apply Below.stepA)) hb5); (first | (have HPZ5 : Hid (w5.heap[_]? = some zpart) := Lib.hid ((hb5.block _ (by simp)).trans (heap_alloc_new _ zpart))) | skip); clear hl5 hb5) | (go_at_call 18; refine (HSh.out _ vl (by repeat (first | exact HB5.out | apply Below.stepD | apply Below.stepA)) (by repeat (first | exact HIL5.out | apply IL.stepD | apply IL.stepA))).mono ?_; rintro e w6 ⟨iv, rfl, hi6, hb6⟩; obtain ⟨ia, ic, rfl⟩ := IT.form2 hi6; have HIT6 := Lib.hid hi6; have HB6 : Hid (Below wq.heap.size wq w6) := Lib.hid (Below.next (by repeat (first | exact HB5.out | apply Below.stepD | apply Below.stepA)) hb6); (first | (have HPZ6 := Lib.hid ((hb6.block _ (Array.getElem?_eq_some_iff.1 HPZ5.out).1).trans HPZ5.out); obtain ⟨z0, z1, z2, z3, z4, zf⟩ := zpart_cells HPZ6.out) | (have HPZ6 : Hid (w6.heap[_]? = some zpart) := Lib.hid ((hb6.block _ (by simp)).trans (heap_alloc_new _ zpart)); obtain ⟨z0, z1, z2, z3, z4, zf⟩ := zpart_cells HPZ6.out) | skip); clear hi6 hb6)))
        all_goals
          go_wp2
          go_meet
          case rel =>
            first
              | exact ⟨_, _, rfl, rfl, Lib.hid (hJ.out.far (Below.stepA HB6.out _)), Lib.hid HB6.out.size, Lib.hid (heap_alloc_new w6 _), Lib.hid (HIT6.out.below ((Below.refl _ _).alloc (Nat.le_refl _) _))⟩
              | exact ⟨_, _, rfl, rfl, Lib.hid (hJ.out.far (five_below HB6.out (by first | exact HB5.out.size | exact Nat.le_refl _) _ _ _ _ _)), Lib.hid (by first | exact HB5.out.size | exact Nat.le_refl _), Lib.hid (five_heap HPZ6.out _ _ _ _ _), Lib.hid (IT.grownT HIT6.out HPZ6.out (by decide) (by decide) (five_grown _ _ _ _ _ _ _))⟩
      case rest =>
        obtain ⟨pb, iv, rfl, rfl, hJx, hpb, hPx, hIx⟩ := hcut
        obtain ⟨ia, ic, hiv⟩ := IT.form2 hIx.out
        subst hiv
        have HKx := Lib.hid (K4.out.step hJx.out.1)
        have HLN : Hid (its.length = (idxS bt n).length) := Lib.hid (by
          have := congrArg (fun p : PartP => p.items.length) HPq.out
          simp only [partS, List.length_map] at this
          exact this)
        have HJn1 := Lib.hid (join_ps HKx.out hJx.out.ps hZ.out HK32.out HV.out hQ.out (by rw [hql.out]; omega))
        have HOL := Lib.hid (fun g (h : (Value.slice va k vc).ownBlock = some g) => (World.ownsRow.lt hJ.out.2.2.1 g h).2)
        clear hJ HKq HKP HSh HI u2 u0
        go_wp2_with fail
        refine HJn1.out.mono ?_
        rintro e w8 ⟨r8, rfl, hi8, hb8⟩
        obtain ⟨a8, c8, hr8⟩ := IT.form2 hi8
        rw [joinedS_len] at hr8
        subst hr8
        have hJ8 := Lib.hid (hJx.out.far hb8)
        have hP8 : Hid (w8.heap[pb]? = some (.cells #[.int .i64 hc, .int .i64 hs, .string hr, .string hsl, .slice ia its.length ic] 38 (0, 0))) := Lib.hid ((hb8.block _ (Array.getElem?_eq_some_iff.1 hPx.out).1).trans hPx.out)
        have hI8 := Lib.hid (hIx.out.below hb8)
        clear hi8 hb8 hJx hPx hIx HKx HJn1
        have p0 := cell_of_row w8 pb 0 _ _ _ hP8.out
        have p1 := cell_of_row w8 pb 1 _ _ _ hP8.out
        have p2 := cell_of_row w8 pb 2 _ _ _ hP8.out
        have p3 := cell_of_row w8 pb 3 _ _ _ hP8.out
        have p4 := cell_of_row w8 pb 4 _ _ _ hP8.out
        have hs8 := hJ8.out.1.size
        have hJA := Lib.hid (hJ8.out.far ((Below.refl _ _).alloc (Nat.le_refl _) (.cells #[.int .i64 hc, .int .i64 hs, .string hr, .string hsl, .slice ia its.length ic] 38)))
        have hIA := Lib.hid (hI8.out.below ((Below.refl _ _).alloc (Nat.le_refl _) (.cells #[.int .i64 hc, .int .i64 hs, .string hr, .string hsl, .slice ia its.length ic] 38)))
        have hNA := Lib.hid (heap_alloc_new w8 (.cells #[.int .i64 hc, .int .i64 hs, .string hr, .string hsl, .slice ia its.length ic] 38))
        have hPA := Lib.hid (alloc_at (o' := .cells #[.int .i64 hc, .int .i64 hs, .string hr, .string hsl, .slice ia its.length ic] 38) hP8.out)
        go_wp2_with (at_builtin; refine wpList_append_part _ _ w4.heap.size _ zs w8.heap.size (⟨⟨hc, hs, hr, hsl⟩, its⟩, .slice ia its.length ic) (0, 0) hJA.out.2.2.1 (by omega) hJA.out.1.size rfl hNA.out rfl rfl rfl rfl ?_; intro v9 w9 hown9 hgr9; have HO9 := Lib.hid hown9; have HG9 := Lib.hid hgr9; clear hown9 hgr9)
        have HJ9 := Lib.hid (hJA.out.append (⟨⟨hc, hs, hr, hsl⟩, its⟩, .slice ia its.length ic) hIA.out HO9.out HG9.out)
        have HP9 : Hid (w9.heap[pb]? = some (.cells #[.int .i64 hc, .int .i64 hs, .string hr, .string hsl, .slice ia its.length ic] 38 (0, 0))) := Lib.hid ((HG9.out.block _ (Array.getElem?_eq_some_iff.1 hPA.out).1 (fun e => by have h1 := HOL.out pb e.symm; have h2 := hpb.out; omega)).trans hPA.out)
        have HQ9 := Lib.hid (hQ.out.snoc n (by rw [← HM.out]; exact hnm) HX60.out bt)
        have HZ9 : Hid ((zs ++ [((⟨⟨hc, hs, hr, hsl⟩, its⟩ : PartP), Value.slice ia its.length ic)]).map (·.1) = partsS key cn xs (q ++ [(n, idxS bt n)])) := Lib.hid (by
          rw [List.map_append, partsS_snoc, hZ.out]
          show _ ++ [(⟨⟨hc, hs, hr, hsl⟩, its⟩ : PartP)] = _
          rw [HPq.out])
        have HSQ : Hid (seenS (q ++ [(n, idxS bt n)]) = addS (seenS q) (idxS bt n)) := Lib.hid (seen_snoc q (n, idxS bt n))
        have hgrow := seen_grows q (n, idxS bt n)
        have HQL : Hid ((q ++ [(n, idxS bt n)]).length = k + 1) := Lib.hid (by rw [List.length_append, hql.out]; rfl)
        have HMz : Hid (((⟨⟨hc, hs, hr, hsl⟩, its⟩ : PartP), Value.slice ia its.length ic) ∈ zs ++ [((⟨⟨hc, hs, hr, hsl⟩, its⟩ : PartP), Value.slice ia its.length ic)]) := Lib.hid (by simp)
        generalize zs ++ [((⟨⟨hc, hs, hr, hsl⟩, its⟩ : PartP), Value.slice ia its.length ic)] = zs9 at *
        clear hJA hIA hNA hPA hJ8 hP8 hI8 HO9 HG9 hQ hZ HOL hpb p0 p1 p2 p3 p4 hs8
        obtain ⟨q9, hq9⟩ : ∃ q9, q9 = q ++ [(n, idxS bt n)] := ⟨_, rfl⟩
        rw [← hq9] at HQ9 HZ9 HSQ hgrow HQL
        clear hq9
        have HKy := Lib.hid (K4.out.step HJ9.out.1)
        have HJn2 := Lib.hid (join_ps HKy.out HJ9.out.ps HZ9.out HK32.out HV.out HQ9.out (by rw [HQL.out]; omega))
        refine HJn2.out.mono ?_
        rintro e w10 ⟨r10, rfl, hi10, hb10⟩
        obtain ⟨a10, c10, hr10⟩ := IT.form2 hi10
        rw [joinedS_len] at hr10
        subst hr10
        have HJ10 := Lib.hid (HJ9.out.far hb10)
        have HP10 : Hid (w10.heap[pb]? = some (.cells #[.int .i64 hc, .int .i64 hs, .string hr, .string hsl, .slice ia its.length ic] 38 (0, 0))) := Lib.hid ((hb10.block _ (Array.getElem?_eq_some_iff.1 HP9.out).1).trans HP9.out)
        clear hi10 hb10 HJ9 HP9 HKy HJn2
        have tg : ¬ ((cntS (seenS q9) : Nat) : Int) < ((cntS (seenS q) : Nat) : Int) := by omega
        obtain ⟨S0, hS0⟩ : ∃ S0, S0 = seenS q := ⟨_, rfl⟩
        obtain ⟨is, his⟩ : ∃ is, is = idxS bt n := ⟨_, rfl⟩
        rw [← hS0, ← his] at HSQ
        rw [← hS0] at HJ10 tg hgrow ⊢
        have HIS2 : Hid (its = is.map (idxItem xs n)) := Lib.hid (by
          have := congrArg (fun p : PartP => p.items) HPq.out
          rw [his]
          exact this)
        have HIL : Hid (∀ i ∈ is, i < n) := Lib.hid (by rw [his]; exact idxS_lt _ _)
        obtain ⟨L, hL⟩ : ∃ L, L = its.length := ⟨_, rfl⟩
        have HLis : Hid (is.length = L) := Lib.hid (by rw [hL, HIS2.out, List.length_map])
        rw [← hL] at HP10 HMz ⊢
        have HLL := Lib.hid hL
        have hL60 : L ≤ 60 := by rw [← HLis.out, his]; exact HL12.out
        clear hL hS0 his HLN HPq
        go_wp2
        clear tg hgrow
        go_loopw [16, 29, 30] (fun many i _ wr => ∃ j : Nat, j ≤ L ∧ many = .int .i64 ((cntS (addS S0 (is.take j)) : Nat) : Int) ∧ i = .int .i64 j ∧ Hid (JAt w4 wr (addS S0 (is.take j)) v9 zs9) ∧ Hid (wr.heap[pb]? = some (.cells #[.int .i64 hc, .int .i64 hs, .string hr, .string hsl, .slice ia L ic] 38 (0, 0)))) (fun _ i _ _ => L - (intOf i).toNat)
        case atStart => exact ⟨0, by omega, rfl, rfl, HJ10, HP10⟩
        case round =>
          clear HJ10 HP10
          obtain ⟨j, hj, rfl, rfl, hJ, hP⟩ := hrel
          have p4 := cell_of_row wr pb 4 _ _ _ hP.out
          by_cases hlj : j < L
          · obtain ⟨t, et⟩ : ∃ t, is[j]? = some t := ⟨_, List.getElem?_eq_getElem (by rw [HLis.out]; exact hlj)⟩
            have hit : IT wr (.slice ia L ic) its := hJ.out.2.2.2 _ HMz.out
            obtain ⟨a', cap', e', _, _, hcx⟩ := IT.opened hit
            have e1 : ia = a' := by injection e'
            rw [← e1] at hcx
            obtain ⟨b1, o1, pv, ea, hb1, x0', _, _, _⟩ := hcx j (idxItem xs n t) (by rw [HIS2.out, List.getElem?_map, et]; rfl)
            have x0 : wr.cell? ⟨b1, o1 + j * 3, none⟩ = some (.int .i64 (t : Nat)) := x0'
            clear x0' e1 e'
            have htn : t < n := HIL.out t (List.mem_of_getElem? et)
            have HTK : Hid (addS S0 (is.take (j + 1)) = setS (addS S0 (is.take j)) t) := Lib.hid (by rw [List.take_add_one, et]; exact addS_snoc _ _ _)
            obtain ⟨S1, hS1⟩ : ∃ S1, S1 = addS S0 (is.take j) := ⟨_, rfl⟩
            rw [← hS1] at hJ HTK ⊢
            have sc : wr.cell? ⟨w4.heap.size, t, none⟩ = some (.bool (S1 t)) := by rw [cell_of_row wr _ t _ _ _ hJ.out.2.1, bools_at S1 (by omega)]
            have sf : wr.frozen? ⟨w4.heap.size, t, none⟩ = false := by unfold World.frozen?; rw [hJ.out.2.1]; simp
            have tj : (j : Int) < (L : Int) := by omega
            have tj0 : (0 : Int) ≤ (j : Int) := by omega
            have tt0 : (0 : Int) ≤ (t : Int) := by omega
            have tt1 : (t : Int) < 12 := by omega
            have ht60 : t < 60 := by omega
            have hc60 := cnt_le S1
            clear hS1 hit hcx et
            subst ea
            cases hst : S1 t with
            | false =>
              rw [hst] at sc
              have HJn := Lib.hid (hJ.out.see (j := t) (by omega))
              have HCn := Lib.hid (cnt_set hst ht60)
              have HPn : Hid ((wr.setCell ⟨w4.heap.size, t, none⟩ (.bool true)).heap[pb]? = some (.cells #[.int .i64 hc, .int .i64 hs, .string hr, .string hsl, .slice (some ⟨b1, o1, none⟩) L ic] 38 (0, 0))) := Lib.hid ((Below.heap_setCell _ _ _ _ (by
                intro e
                have h1 := hJ.out.2.1
                have h2 : pb = w4.heap.size := e
                rw [← h2, hP.out] at h1
                cases h1)).trans hP.out)
              clear hst hJ hP
              go_wp2
              go_roundw
              case rel =>
                refine ⟨j + 1, by omega, ?_, by go_num, ?_, HPn⟩
                · rw [HTK.out, HCn.out]; go_num
                · rw [HTK.out]; exact HJn
              case measure => simp [intOf]; omega
            | true =>
              rw [hst] at sc
              have HSs := Lib.hid (set_same hst)
              clear hst
              go_wp2
              go_roundw
              case rel =>
                refine ⟨j + 1, by omega, ?_, by go_num, ?_, hP⟩
                · rw [HTK.out, HSs.out]
                · rw [HTK.out, HSs.out]; exact hJ
              case measure => simp [intOf]; omega
          · have ej : j = L := by omega
            have tj : ¬ (j : Int) < (L : Int) := by omega
            have HE : Hid (addS S0 (is.take j) = seenS q9) := Lib.hid (by rw [ej, ← HLis.out, List.take_length, ← HSQ.out])
            rw [HE.out] at hJ ⊢
            clear hP
            go_wp2
            go_roundw
            case rel => exact ⟨k + 1, q9, zs9, by omega, rfl, by go_num, HQL, HQ9, HZ9, hJ⟩
            case measure => simp [intOf]; omega
    · have ek : k = M := by omega
      obtain ⟨wz, hwz⟩ : ∃ wz, wz = wr := ⟨_, rfl⟩
      subst hwz
      have hd : decide (k < M) = false := decide_eq_false hlt
      rw [hd]
      have hk5 : k ≤ 5 := by omega
      clear hd HKM hlt hk ek
      have hzl : zs.length = k := by
        have := congrArg List.length hZ.out
        unfold partsS at this
        rw [List.length_map, List.length_map, hql.out] at this
        exact this
      have HPS := Lib.hid hJ.out.ps
      obtain ⟨va, vc, hv, hvc1, hvc2, hpc⟩ := HPS.out.opened
      rw [hzl] at hv hvc1
      subst hv
      have HPC := Lib.hid hpc
      have HZL := Lib.hid hzl
      unfold maxLen at hvc2
      clear hpc hzl
      obtain ⟨c, hc⟩ : ∃ c : Nat, 0 < k → pickI turn k = (c : Int) ∧ c < k := by
        by_cases h0 : 0 < k
        · obtain ⟨p0, p1⟩ := pickI_range turn (n := (k : Int)) (by omega)
          obtain ⟨c, hc⟩ := Int.eq_ofNat_of_zero_le p0
          exact ⟨c, fun _ => ⟨hc, by omega⟩⟩
        · exact ⟨0, fun h => absurd h h0⟩
      have HTP : Hid (0 < k → c < k ∧ ∀ W, Calls Tryz.prog 16 #[.int .i64 turn, .int .i64 k] W fun e w' => e = .returned (.int .i64 (c : Nat)) ∧ w' = W) := Lib.hid (fun h => ⟨(hc h).2, fun W => by
        rw [← (hc h).1]
        exact lpick_any turn k W HIT.out (by omega) (by omega)⟩)
      clear hc
      have hwz := hJ.out.1.size
      go_wp2
      have HB0 : Hid (Below wz.heap.size wz wz) := Lib.hid (Below.refl _ _)
      have HN0 : Hid (OwnE wz wz.heap.size 38 5 (.slice none 0 0) (ptcells [])) := Lib.hid (OwnE.nil _ _ _ _)
      go_loopw [31, 32] (fun v2 i wr => ∃ (p : Nat) (zs2 : List (PartP × Value)), p ≤ k ∧ i = .int .i64 p ∧ Hid (zs2.length = p) ∧ Hid (zs2.map (·.1) = partsS key cn xs (turnL q c p)) ∧ Hid (OwnE wr wz.heap.size 38 5 v2 (ptcells zs2)) ∧ Hid (∀ z ∈ zs2, IT wz z.2 z.1.items) ∧ Hid (Below wz.heap.size wz wr)) (fun _ i _ => k - (intOf i).toNat)
      case atStart => exact ⟨0, [], by omega, rfl, Lib.hid rfl, Lib.hid rfl, HN0, Lib.hid (fun z h => absurd h List.not_mem_nil), HB0⟩
      case round =>
        clear HB0 HN0
        obtain ⟨p, zs2, hp, rfl, h2l, h2z, hO, hIT2, hB⟩ := hrel
        obtain ⟨va2, vc2, hv2⟩ := OwnE.form hO.out
        rw [ptcells_len, h2l.out] at hv2
        subst hv2
        by_cases hlp : p < k
        · have hk0 : 0 < k := by omega
          obtain ⟨hck, hT⟩ := HTP.out hk0
          have HT := Lib.hid hT
          clear hT
          obtain ⟨e, he⟩ : ∃ e, e = (p + c) % k := ⟨_, rfl⟩
          have hek : e < k := by rw [he]; exact Nat.mod_lt _ hk0
          obtain ⟨z, ez⟩ : ∃ z, zs[e]? = some z := ⟨_, List.getElem?_eq_getElem (by rw [HZL.out]; exact hek)⟩
          obtain ⟨y, ey⟩ : ∃ y, q[e]? = some y := ⟨_, List.getElem?_eq_getElem (by rw [hql.out]; exact hek)⟩
          have hzI : IT wz z.2 z.1.items := HPS.out.2 z (List.mem_of_getElem? ez)
          obtain ⟨b1, o1, ea, hb1, hat⟩ := HPC.out e z ez
          have hzy : z.1 = partS key cn xs y.1 y.2 := by
            have h1 : (zs.map (·.1))[e]? = some z.1 := by rw [List.getElem?_map, ez]; rfl
            rw [hZ.out] at h1
            unfold partsS at h1
            rw [List.getElem?_map, ey] at h1
            exact (Option.some.inj h1).symm
          have HTS : Hid (partsS key cn xs (turnL q c (p + 1)) = partsS key cn xs (turnL q c p) ++ [z.1]) := Lib.hid (by
            rw [turn_succ q c p (y := y) (by rw [hql.out, ← he]; exact ey), partsS_snoc, hzy])
          obtain ⟨⟨⟨c1, s1', r1', l1'⟩, i1⟩, iv⟩ := z
          obtain ⟨ia, ic, hiv⟩ := IT.form2 hzI
          simp only at hiv
          subst hiv ea
          obtain ⟨a0, a1, a2, a3, a4⟩ := PAt.keep hat hB.out hb1
          have HzI := Lib.hid hzI
          clear hzy hat hzI ey ez
          have tp : (p : Int) < (k : Int) := by omega
          have tp0 : (0 : Int) ≤ (p : Int) := by omega
          have f1 : IntKind.i64.wrap ((p : Int) + (c : Int)) = (p : Int) + (c : Int) := IntWalk.i64_in _ (by omega)
          have he' : ((p : Int) + (c : Int)) % (k : Int) = (e : Int) := by rw [he, Int.natCast_emod, Int.natCast_add]
          clear he
          have te0 : (0 : Int) ≤ (e : Int) := by omega
          have te : (e : Int) < (k : Int) := by omega
          have hws := hB.out.size
          have hJA := Lib.hid (OwnE.alloc hO.out (.cells #[.int .i64 c1, .int .i64 s1', .string r1', .string l1', .slice ia i1.length ic] 38))
          have hNA := Lib.hid (heap_alloc_new wr (.cells #[.int .i64 c1, .int .i64 s1', .string r1', .string l1', .slice ia i1.length ic] 38))
          have hBA := Lib.hid (hB.out.alloc hws (.cells #[.int .i64 c1, .int .i64 s1', .string r1', .string l1', .slice ia i1.length ic] 38))
          have h2l5 : zs2.length ≤ 100000 := by rw [h2l.out]; omega
          go_wp2_with (first | (go_at_call 16; refine (HT.out _).mono ?_; rintro e' w' ⟨rfl, hw'⟩; replace hw' := hw'.symm; subst hw') | (at_builtin; refine wpList_append_part _ _ wz.heap.size _ zs2 wr.heap.size (⟨⟨c1, s1', r1', l1'⟩, i1⟩, .slice ia i1.length ic) (0, 0) hJA.out h2l5 hBA.out.size rfl hNA.out rfl rfl rfl rfl ?_; intro v9 w9 hown9 hgr9; have HO9 := Lib.hid hown9; have HB9 := Lib.hid (hBA.out.grown hgr9 hBA.out.size (fun j e => OwnE.ge hJA.out j e)); clear hown9 hgr9))
          go_roundw
          case rel =>
            refine ⟨p + 1, zs2 ++ [(⟨⟨c1, s1', r1', l1'⟩, i1⟩, .slice ia i1.length ic)], by omega, by go_num, Lib.hid (by rw [List.length_append, h2l.out]; rfl), Lib.hid (by rw [List.map_append, h2z.out, HTS.out]; rfl), HO9, Lib.hid (fun z hz => ?_), HB9⟩
            rcases List.mem_append.1 hz with hz | hz
            · exact hIT2.out z hz
            · rw [List.mem_singleton.1 hz]; exact HzI.out
          case measure => simp [intOf]; omega
        · obtain rfl : p = k := by omega
          have tpk : ¬ (p : Int) < (p : Int) := by omega
          have hPS2 : PS wr (.slice va2 p vc2) zs2 := ⟨OwnE.slice hO.out (ptcells_five zs2), fun z hz => (hIT2.out z hz).below hB.out⟩
          have HPS2 := Lib.hid hPS2
          clear hPS2
          go_upto_if 193 with fail
          go_cut [31] from 191 to 203 (fun v2 wx => ∃ (zs3 : List (PartP × Value)) (q3 : List (Nat × List Nat)), Hid (PS wx v2 zs3) ∧ Hid (zs3.map (·.1) = partsS key cn xs q3) ∧ Hid (QOk xs.length q3) ∧ Hid (q3.length ≤ 100) ∧ Hid (seenS q3 = seenS q) ∧ Hid (Below wz.heap.size wz wx))
          case first =>
            by_cases hk0 : 0 < p
            · have t0 : (0 : Int) < (p : Int) := by omega
              obtain ⟨hck, hT⟩ := HTP.out hk0
              have HT := Lib.hid hT
              clear hT
              obtain ⟨z, ez⟩ : ∃ z, zs[c]? = some z := ⟨_, List.getElem?_eq_getElem (by rw [HZL.out]; exact hck)⟩
              obtain ⟨y, ey⟩ : ∃ y, q[c]? = some y := ⟨_, List.getElem?_eq_getElem (by rw [hql.out]; exact hck)⟩
              have hzI : IT wz z.2 z.1.items := HPS.out.2 z (List.mem_of_getElem? ez)
              obtain ⟨b1, o1, ea, hb1, hat⟩ := HPC.out c z ez
              have hzy : z.1 = partS key cn xs y.1 y.2 := by
                have h1 : (zs.map (·.1))[c]? = some z.1 := by rw [List.getElem?_map, ez]; rfl
                rw [hZ.out] at h1
                unfold partsS at h1
                rw [List.getElem?_map, ey] at h1
                exact (Option.some.inj h1).symm
              have hym := List.mem_of_getElem? ey
              have HTS : Hid (partsS key cn xs (turnL q c p ++ [y]) = partsS key cn xs (turnL q c p) ++ [z.1]) := Lib.hid (by rw [partsS_snoc, hzy])
              have HQ3 := Lib.hid (hQ.out.app hym (hQ.out.turn c p))
              have HS3 : Hid (seenS (turnL q c p ++ [y]) = seenS q) := Lib.hid (by
                have := turned_seen q c hym
                rw [hql.out] at this
                exact this)
              have HL3 : Hid ((turnL q c p ++ [y]).length ≤ 100) := Lib.hid (by rw [List.length_append, turn_len q c p (by rw [hql.out]; exact Nat.le_refl _)]; simp; omega)
              obtain ⟨⟨⟨c1, s1', r1', l1'⟩, i1⟩, iv⟩ := z
              obtain ⟨ia, ic, hiv⟩ := IT.form2 hzI
              simp only at hiv
              subst hiv ea
              obtain ⟨a0, a1, a2, a3, a4⟩ := PAt.keep hat hB.out hb1
              have HzI := Lib.hid hzI
              clear hzy hat hzI ey ez hym
              have te0 : (0 : Int) ≤ (c : Int) := by omega
              have te : (c : Int) < (p : Int) := by omega
              have hws := hB.out.size
              have hJA := Lib.hid (OwnE.alloc hO.out (.cells #[.int .i64 c1, .int .i64 s1', .string r1', .string l1', .slice ia i1.length ic] 38))
              have hNA := Lib.hid (heap_alloc_new wr (.cells #[.int .i64 c1, .int .i64 s1', .string r1', .string l1', .slice ia i1.length ic] 38))
              have hBA := Lib.hid (hB.out.alloc hws (.cells #[.int .i64 c1, .int .i64 s1', .string r1', .string l1', .slice ia i1.length ic] 38))
              have h2l5 : zs2.length ≤ 100000 := by rw [h2l.out]; omega
              go_wp2_with (first | (go_at_call 16; refine (HT.out _).mono ?_; rintro e' w' ⟨rfl, hw'⟩; replace hw' := hw'.symm; subst hw') | (at_builtin; refine wpList_append_part _ _ wz.heap.size _ zs2 wr.heap.size (⟨⟨c1, s1', r1', l1'⟩, i1⟩, .slice ia i1.length ic) (0, 0) hJA.out h2l5 hBA.out.size rfl hNA.out rfl rfl rfl rfl ?_; intro v9 w9 hown9 hgr9; have HO9 := Lib.hid hown9; have HB9 := Lib.hid (hBA.out.grown hgr9 hBA.out.size (fun j e => OwnE.ge hJA.out j e)); clear hown9 hgr9))
              go_meet
              case rel =>
                refine ⟨zs2 ++ [(⟨⟨c1, s1', r1', l1'⟩, i1⟩, .slice ia i1.length ic)], turnL q c p ++ [y], Lib.hid ⟨OwnE.slice HO9.out (ptcells_five _), fun z hz => ?_⟩, Lib.hid (by rw [List.map_append, h2z.out, HTS.out]; rfl), HQ3, HL3, HS3, HB9⟩
                rcases List.mem_append.1 hz with hz | hz
                · exact (hIT2.out z hz).below HB9.out
                · rw [List.mem_singleton.1 hz]; exact HzI.out.below HB9.out
            · obtain rfl : p = 0 := by omega
              have HQe : Hid (q = []) := Lib.hid (List.eq_nil_of_length_eq_zero hql.out)
              go_wp2
              go_meet
              case rel => exact ⟨zs2, turnL q c 0, HPS2, h2z, Lib.hid (hQ.out.turn c 0), Lib.hid (by rw [turn_len q c 0 (Nat.zero_le _)]; omega), Lib.hid (by rw [HQe.out]; rfl), hB⟩
          case rest =>
            obtain ⟨zs3, q3, hP3, hZ3, hQ3, hL3, hS3, hB3⟩ := hcut
            have HKz := Lib.hid (K4.out.step (hJ.out.1.trans (hB3.out.mono hwz)))
            have HJa := Lib.hid (join_ps HKz.out (HPS.out.below hB3.out) hZ.out HK32.out HV.out hQ.out (by rw [hql.out]; omega))
            go_wp2_with fail
            refine HJa.out.mono ?_
            rintro e w5 ⟨ra, rfl, hi5, hb5⟩
            obtain ⟨a5, c5, hr5⟩ := IT.form2 hi5
            rw [joinedS_len] at hr5
            subst hr5
            have HIa := Lib.hid hi5
            have HB5 := Lib.hid (hB3.out.trans (hb5.mono hB3.out.size))
            have HJb := Lib.hid (join_ps (HKz.out.step hb5) (hP3.out.below hb5) hZ3.out HK32.out HV.out hQ3.out hL3.out)
            clear hi5 hb5 HJa
            go_wp2_with fail
            refine HJb.out.mono ?_
            rintro e w6 ⟨rb', rfl, hi6, hb6⟩
            rw [hS3.out] at hi6
            obtain ⟨a6, c6, hr6⟩ := IT.form2 hi6
            rw [joinedS_len] at hr6
            subst hr6
            have HIb := Lib.hid hi6
            have HIa := Lib.hid (HIa.out.below hb6)
            have HB6 := Lib.hid (HB5.out.trans (hb6.mono HB5.out.size))
            clear hi6 hb6 HJb
            have HSI : Hid (Calls Tryz.prog 28 #[.slice a5 (cntS (seenS q)) c5, .slice a6 (cntS (seenS q)) c6] w6 fun e w' => e = .returned (.bool true) ∧ Below w6.heap.size w6 w') := Lib.hid (by
              have := sameItems_any HIa.out HIb.out
              rw [decide_eq_true rfl] at this
              exact this)
            go_wp2_with (go_at_call 28; refine HSI.out.mono ?_; rintro e w7 ⟨rfl, hb7⟩; have HB7 := Lib.hid (HB6.out.trans (hb7.mono HB6.out.size)); have HIa := Lib.hid (HIa.out.below hb7); clear hb7)
            have HK7 := Lib.hid (K4.out.step (hJ.out.1.trans (HB7.out.mono hwz)))
            have HBL : Hid (w7.heap[w4.heap.size]? = some (.cells (boolsS (seenS q)) 75 (0, 0))) := Lib.hid ((HB7.out.block _ (Array.getElem?_eq_some_iff.1 hJ.out.2.1).1).trans hJ.out.2.1)
            have HFin := Lib.hid HK7.out.below
            obtain ⟨rc0, rc1⟩ := HK7.out.duo (i := 1) rfl
            have HRC1 := Lib.hid rc1
            obtain ⟨ax, cx, ex, x1, x2, x3⟩ := (HK7.out.all 0 _ rfl : SS w7 (.slice ar m cr) xs).opened
            have ea : ar = ax := by injection ex
            rw [← ea] at x3
            have HX3 := Lib.hid x3
            obtain ⟨ai, ci, ey, i1, i2, i3⟩ := IT.opened HIa.out
            have eb : a5 = ai := by injection ey
            rw [← eb] at i3
            have HI3 := Lib.hid i3
            have HQL := Lib.hid (fun i (h : seenS q i = true) => hQ.out.lt h)
            have HJS := Lib.hid (joinedS_sel xs (seenS q))
            have HSE : Hid ((selS (seenS q)).length = cntS (seenS q)) := Lib.hid rfl
            have HST := Lib.hid (fun i k => sel_true (S := seenS q) (i := i) (k := k))
            have HSL := Lib.hid (fun i k m => sel_lt (S := seenS q) (i := i) (k := k) (m := m))
            have hN60 := cnt_le (seenS q)
            clear rc0 rc1 x3 ex ea ey eb i3 x1 x2 i1 i2 HIa HIb HSI HB6 HB5 HB7 HK7 HKz hP3 hZ3 hQ3 hL3 hS3 hB3 HPS HPS2 hO hB hIT2 h2z h2l HPC hJ hZ hQ
            go_loopw [41, 42] (fun i _ wr => ∃ j : Nat, j ≤ cntS (seenS q) ∧ i = .int .i64 j ∧ ∃ n, wr = w7.drewN n) (fun i _ _ => cntS (seenS q) - (intOf i).toNat)
            case atStart => exact ⟨0, by omega, rfl, 0, rfl⟩
            case round =>
              obtain ⟨j, hj, rfl, nw, hwr⟩ := hrel
              have HWR := Lib.hid hwr
              clear hwr
              by_cases hlj : j < cntS (seenS q)
              · obtain ⟨t, et⟩ : ∃ t, (selS (seenS q))[j]? = some t := ⟨_, List.getElem?_eq_getElem (by rw [HSE.out]; exact hlj)⟩
                have hst := HST.out j t et
                have htm := HQL.out t hst
                obtain ⟨b1, o1, pv, ea, hb1, y0, y1, y2, hpv⟩ := HI3.out j _ (by rw [HJS.out, List.getElem?_map, et]; rfl)
                obtain ⟨s, es⟩ : ∃ s, xs[t]? = some s := ⟨_, List.getElem?_eq_getElem htm⟩
                have hgd : xs.getD t ⟨#[]⟩ = s := by rw [List.getD_eq_getElem?_getD, es]; rfl
                obtain ⟨b2, o2, eb, hb2, y3⟩ := HX3.out t s es
                obtain ⟨pa, pc, hpf⟩ := SS.form2 hpv
                simp only [List.length_nil] at hpf
                subst hpf ea eb
                have z0 : wr.cell? ⟨b1, o1 + j * 3, none⟩ = some (.int .i64 (t : Nat)) := by rw [HWR.out]; exact y0
                have z1 : wr.cell? ⟨b1, o1 + j * 3 + 1, none⟩ = some (.string s) := by rw [← hgd, HWR.out]; exact y1
                have z2 : wr.cell? ⟨b1, o1 + j * 3 + 2, none⟩ = some (.slice pa 0 pc) := by rw [HWR.out]; exact y2
                have z3 : wr.cell? ⟨b2, o2 + t, none⟩ = some (.string s) := by rw [HWR.out]; exact y3
                have z4 : wr.cell? ⟨w4.heap.size, t, none⟩ = some (.bool true) := by
                  have : w7.cell? ⟨w4.heap.size, t, none⟩ = some (.bool (seenS q t)) := by rw [cell_of_row w7 _ t _ _ _ HBL.out, bools_at _ (by have := HM.out; omega)]
                  rw [hst] at this
                  rw [HWR.out]
                  exact this
                have z5 : wr.cell? ⟨rb, 1, none⟩ = some (.slice (some ⟨b2, o2, none⟩) m cr) := by rw [HWR.out]; exact HRC1.out
                have tj : (j : Int) < ((cntS (seenS q) : Nat) : Int) := by omega
                have tj0 : (0 : Int) ≤ (j : Int) := by omega
                have tt0 : (0 : Int) ≤ (t : Int) := by omega
                have ttn : ¬ (t : Int) < 0 := by omega
                have tt1 : (t : Int) < (m : Int) := by have := HM.out; omega
                have tt2 : ¬ (m : Int) ≤ (t : Int) := by omega
                have tt3 : (t : Int) < 12 := by omega
                have HET := Lib.hid et
                clear y0 y1 y2 y3 hgd es hpv hst et
                by_cases hj0 : j = 0
                · subst hj0
                  simp only [Nat.zero_mul, Nat.add_zero] at z0 z1 z2
                  have tjz : ¬ (0 : Int) < ((0 : Nat) : Int) := by omega
                  go_upto_region 43 with fail
                  go_quiet (fail)
                  have HWN : Hid (∃ n, wr.drewN nq = w7.drewN n) := Lib.hid ⟨nw + nq, by rw [HWR.out, World.drewN_drewN]⟩
                  go_wp2
                  go_roundw
                  case rel => exact ⟨1, by omega, by go_num, HWN.out⟩
                  case measure => simp [intOf]; omega
                · have bz : decide (0 < j) = true := decide_eq_true (by omega)
                  obtain ⟨j1, hj1⟩ : ∃ j1, j = j1 + 1 := ⟨j - 1, by omega⟩
                  obtain ⟨t', et'⟩ : ∃ t', (selS (seenS q))[j1]? = some t' := ⟨_, List.getElem?_eq_getElem (by rw [HSE.out]; omega)⟩
                  obtain ⟨b3, o3, pv3, ea3, _, y6, _, _, _⟩ := HI3.out j1 _ (by rw [HJS.out, List.getElem?_map, et']; rfl)
                  cases ea3
                  have hlt' := HSL.out j1 t' t et' (by rw [← hj1]; exact HET.out)
                  have z6 : wr.cell? ⟨b1, o1 + (j - 1) * 3, none⟩ = some (.int .i64 (t' : Nat)) := by
                    rw [HWR.out, show j - 1 = j1 by omega]; exact y6
                  have f1 : IntKind.i64.wrap ((j : Int) - 1) = (j : Int) - 1 := IntWalk.i64_in _ (by omega)
                  have bj1 : (0 : Int) ≤ (j : Int) - 1 := by omega
                  have bj2 : (j : Int) - 1 < ((cntS (seenS q) : Nat) : Int) := by omega
                  have tlt : ¬ (t : Int) ≤ (t' : Int) := by omega
                  clear y6 et' hj1 hlt'
                  go_upto_region 43 with fail
                  go_quiet (fail)
                  have HWN : Hid (∃ n, wr.drewN nq = w7.drewN n) := Lib.hid ⟨nw + nq, by rw [HWR.out, World.drewN_drewN]⟩
                  go_wp2
                  go_roundw
                  case rel => exact ⟨j + 1, by omega, by go_num, HWN.out⟩
                  case measure => simp [intOf]; omega
              · have tj : ¬ (j : Int) < ((cntS (seenS q) : Nat) : Int) := by omega
                have HF : Hid (Below w.heap.size w wr) := Lib.hid (by rw [HWR.out]; exact below_drewN HFin.out nw)
                go_wp2
                go_ret
                exact ⟨rfl, HF.out⟩
end Go.Proofs.YtinfpbkbnhcifaaGreatDoor
