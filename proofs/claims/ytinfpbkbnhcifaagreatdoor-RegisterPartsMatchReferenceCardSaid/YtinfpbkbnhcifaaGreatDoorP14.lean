/- The walk of RegisterPartsMatchReference. The conditions: what the slices read as, ranges, the table of constants. -/
import Derived.Test.YtinfpbkbnhcifaaGreatDoorP13
namespace Go.Proofs.YtinfpbkbnhcifaaGreatDoor
open Go.RowKit Go.BigFrame

theorem IL.cut {w : World} {a : Option Addr} {n cap : Nat} {xs : List Int} (h : IL w (.slice a n cap) xs) (k : Nat) (hk : k ≤ n) : IL w (.slice a k cap) (xs.take k) := by
  have := SliceAt.cut h k hk
  unfold IL icells at *
  rw [List.map_take]
  exact this
theorem QAt.two {W1 W : World} {v : Value} {zs : List (PartP × Value)} (h : QAt W1 W v zs) {b : Nat} {c0 c1 : Value} (hz : W.heap[b]? = some (.cells #[c0, c1] 26 (0, 0))) (hb : W1.heap.size ≤ b) (x y : Value) : QAt W1 ((W.setCell ⟨b, 0, none⟩ x).setCell ⟨b, 1, none⟩ y) v zs :=
  ⟨two_below h.1 hb x y, OwnE.grownT h.2.1 hz (fun c e => by cases e) (two_grown W b x y), fun z hz' => IT.grownT (h.2.2 z hz') hz (by decide) (by decide) (two_grown W b x y)⟩
theorem lists_at (a1 : Option Addr) (n1 c1 : Nat) (a2 : Option Addr) (n2 c2 : Nat) {B : World} {xs ys : List Int} (hx : ∀ W, Below B.heap.size B W → IL W (.slice a1 n1 c1) xs) (hy : ∀ W, Below B.heap.size B W → IL W (.slice a2 n2 c2) ys) (hxl : xs.length ≤ 1000) (hyl : ys.length ≤ 1000) (kb : Nat) : ∀ j : Nat, j < 2 → ∃ (a : Option Addr) (n c : Nat) (zs : List Int), zs.length ≤ 1000 ∧ (∀ W, Below B.heap.size B W → IL W (.slice a n c) zs) ∧ ∀ W : World, W.heap[kb]? = some (.cells #[.slice a1 n1 c1, .slice a2 n2 c2] 22 (0, 0)) → W.cell? ⟨kb, j, none⟩ = some (.slice a n c) := fun j hj => by
  rcases (by omega : j = 0 ∨ j = 1) with rfl | rfl
  · exact ⟨a1, n1, c1, xs, hxl, hx, fun W hW => cell_of_row W kb 0 _ _ _ hW⟩
  · exact ⟨a2, n2, c2, ys, hyl, hy, fun W hW => cell_of_row W kb 1 _ _ _ hW⟩
theorem sizes_at (a b : Int) (kb : Nat) : ∀ j : Nat, j < 2 → ∃ s : Int, ∀ W : World, W.heap[kb]? = some (.cells #[.int .i64 a, .int .i64 b] 3 (0, 0)) → W.cell? ⟨kb, j, none⟩ = some (.int .i64 s) := fun j hj => by
  rcases (by omega : j = 0 ∨ j = 1) with rfl | rfl
  · exact ⟨a, fun W hW => cell_of_row W kb 0 _ _ _ hW⟩
  · exact ⟨b, fun W hW => cell_of_row W kb 1 _ _ _ hW⟩

theorem wp_of_eq {P : Program} {c L : Code} {Q : Exit → Act → World → Prop} {a : Act} {w : World} (h : c.wp P Q a w) (e : c = L) : L.wp P Q a w := e ▸ h
def rt12 (c : Code) : Code := rt (rt (rt (rt (rt (rt (rt (rt (rt (rt (rt (rt c)))))))))))
theorem tail_eq2 {c L : Code} (h : ∃ a0 a1 a2 a3 a4 a5 a6 a7 a8 a9 a10 a11 : Code, Tryz.f3.body = some (a0.seq (a1.seq (a2.seq (a3.seq (a4.seq (a5.seq (a6.seq (a7.seq (a8.seq (a9.seq (a10.seq (a11.seq (c)))))))))))))) (hL : Tryz.f3.body.map rt12 = some L := by rfl) : c = L := by
  obtain ⟨a0, a1, a2, a3, a4, a5, a6, a7, a8, a9, a10, a11, e⟩ := h
  rw [e] at hL
  exact Option.some.inj hL
set_option maxHeartbeats 16000000 in
set_option maxRecDepth 100000 in
theorem parts_walk {w : World} (carrier at' how nn : Int) (sg : ByteArray) {vx vy vs vb vl : Value} {x ys szs bts lst : List Int} (hx : IL w vx x) (hy : IL w vy ys) (hs : IL w vs szs) (hb : IL w vb bts) (hl : IL w vl lst) (ic : I64 carrier) (ix : ∀ n ∈ x, I64 n) (ia : I64 at') (iy : ∀ n ∈ ys, I64 n) (iss : ∀ n ∈ szs, I64 n) (ibs : ∀ n ∈ bts, I64 n) (_ils : ∀ n ∈ lst, I64 n) (ih : I64 how) (inn : I64 nn) (_isg : sg.size ≤ maxLen) (he : Env w) (hg : 0 < w.heap.size) :
    Calls Tryz.prog 3 #[.int .i64 carrier, vx, .int .i64 at', vy, vs, vb, vl, .int .i64 how, .int .i64 nn, .string sg] w fun e w' => e = .returned (.bool true) ∧ Below w.heap.size w w' := by
  have hpk := pickI_range carrier (n := 8) (by omega)
  obtain ⟨cn, hcn⟩ := Int.eq_ofNat_of_zero_le hpk.1
  have hc7 : cn ≤ 7 := by omega
  have HIX := Lib.hid ix
  have HIY := Lib.hid iy
  have HIS := Lib.hid iss
  have HIB := Lib.hid ibs
  have HIA := Lib.hid ia
  have HIC := Lib.hid ic
  have HIH := Lib.hid ih
  have HIN := Lib.hid inn
  have hz12 := (other_valid (car := (cn : Int)) (xs := madeL x) at' ys (by omega) (madeL_len x) (madeL_small x)).2.1
  have HX := Lib.hid hx
  have HY := Lib.hid hy
  obtain ⟨sa, sc, rfl, s1, s2, s3⟩ := hs.opened
  obtain ⟨ba, bc, rfl, b1, b2, b3⟩ := hb.opened
  obtain ⟨la, lc, rfl, l1, l2, _⟩ := hl.opened
  unfold maxLen at s2 b2 l2
  have HS3 := Lib.hid s3
  have HB3 := Lib.hid b3
  have HL := Lib.hid hl
  have K0 := Lib.hid (Know.start he hg)
  clear hpk ix iy iss ibs ia ic ih inn hx hy hs hb hl he hg s3 b3
  obtain ⟨xs, hxs⟩ : ∃ xs, xs = madeL x := ⟨_, rfl⟩
  have hm12 : xs.length ≤ 12 := by rw [hxs]; exact madeL_len x
  rw [← hxs] at hz12
  obtain ⟨zs, hzs⟩ : ∃ zs, zs = otherL xs at' ys := ⟨_, rfl⟩
  rw [← hzs] at hz12
  have HXS := Lib.hid hxs
  have HZS := Lib.hid hzs
  clear hzs hxs
  obtain ⟨ns, hns⟩ : ∃ n, n = szs.length := ⟨_, rfl⟩
  obtain ⟨nb, hnb⟩ : ∃ n, n = bts.length := ⟨_, rfl⟩
  obtain ⟨nl, hnl⟩ : ∃ n, n = lst.length := ⟨_, rfl⟩
  rw [← hns] at s1 ⊢
  rw [← hnb] at b1 ⊢
  rw [← hnl] at l1 HL ⊢
  have HNS := Lib.hid hns
  have HNB := Lib.hid hnb
  clear hns hnb hnl
  go_enter Tryz.func3, Tryz.ntmps3
  go_wp2_with fail
  refine (sane_at K0.out).mono ?_
  rintro e w1 ⟨rfl, kw1⟩
  have K1 := Lib.hid kw1
  clear kw1 K0
  go_wp2_with fail
  refine (made_at K1.out (HX.out.below K1.out.below) HIX.out carrier HIC.out).mono ?_
  rintro e w2 ⟨vr, rfl, k2⟩
  rw [← HXS.out] at k2
  rw [hcn]
  obtain ⟨ar, cr, rfl⟩ := (k2.all 0 _ rfl : SS w2 vr xs).form2
  simp only [List.nil_append] at k2
  have K2 := Lib.hid k2
  clear k2 K1 HX HIX HIC hcn HXS
  obtain ⟨m, hm⟩ : ∃ m, m = xs.length := ⟨_, rfl⟩
  rw [← hm] at hm12 K2 ⊢
  have HM := Lib.hid hm
  clear hm
  go_upto_region 5 with fail
  have kw3 := K2.out.box #[.int .i64 cn, .slice ar m cr] 26
  obtain ⟨w3, hww3⟩ : ∃ W, W = w2.alloc (.cells #[.int .i64 cn, .slice ar m cr] 26) := ⟨_, rfl⟩
  rw [← hww3] at kw3 ⊢
  clear hww3
  generalize w2.heap.size = rb at kw3 ⊢
  simp only [List.nil_append, List.cons_append] at kw3
  have K3 := Lib.hid kw3
  clear kw3 K2
  obtain ⟨rc0, rc1⟩ := K3.out.duo (i := 1) rfl
  go_wp2_with fail
  refine (other_at K3.out 0 rfl (by rw [← HM.out]; exact hm12) (HY.out.below K3.out.below) HIY.out at' HIA.out cn).mono ?_
  rintro e w4 ⟨vz, rfl, k4⟩
  rw [← HZS.out] at k4
  obtain ⟨az, cz, rfl⟩ := (k4.all 2 _ rfl : SS w4 vz zs).form2
  simp only [List.nil_append, List.cons_append] at k4
  have K4 := Lib.hid k4
  clear k4 K3 HY HIY HZS rc0 rc1
  obtain ⟨mz, hmz⟩ : ∃ m, m = zs.length := ⟨_, rfl⟩
  rw [← hmz] at hz12 K4 ⊢
  have HMZ := Lib.hid hmz
  clear hmz
  go_upto_region 6 with fail
  have kw5 := K4.out.box #[.int .i64 cn, .slice az mz cz] 26
  obtain ⟨w5, hww5⟩ : ∃ W, W = w4.alloc (.cells #[.int .i64 cn, .slice az mz cz] 26) := ⟨_, rfl⟩
  rw [← hww5] at kw5 ⊢
  clear hww5
  generalize w4.heap.size = ob at kw5 ⊢
  simp only [List.nil_append, List.cons_append] at kw5
  have K5 := Lib.hid kw5
  clear kw5 K4
  obtain ⟨q, hq⟩ : ∃ q : Nat, min (sg.size : Int) 33 = (q : Int) := ⟨min sg.size 33, by omega⟩
  have q1 : (q : Int) ≤ (sg.size : Int) := by omega
  have q0 : (0 : Int) ≤ (q : Int) := by omega
  go_upto_region 7 with fail
  have hS33 : (sg.extract 0 q).size ≤ 33 := by rw [ByteArray.size_extract]; omega
  generalize sg.extract 0 q = S at *
  clear hq q0 q1 _isg
  obtain ⟨rc0, rc1⟩ := K5.out.duo (i := 1) rfl
  go_wp2_with fail
  clear rc0 rc1
  refine (key_at K5.out cn (by omega)).mono ?_
  rintro e w9 ⟨rfl, kw9⟩
  have K9 := Lib.hid kw9
  clear kw9 K5
  have HK32 := Lib.hid (keyS_size (cn : Int))
  obtain ⟨key, hkey⟩ : ∃ k, k = keyS (cn : Int) := ⟨_, rfl⟩
  rw [← hkey] at HK32 ⊢
  clear hkey
  obtain ⟨q, hq⟩ : ∃ q : Nat, min (nl : Int) 5 = (q : Int) := ⟨min nl 5, by omega⟩
  have q1 : (q : Int) ≤ (nl : Int) := by omega
  have q0 : (0 : Int) ≤ (q : Int) := by omega
  have q2 : q ≤ lc := by omega
  go_upto_region 9 with fail
  have HL5 : Hid (∀ W, Below w.heap.size w W → IL W (.slice la q lc) (lst.take q)) := Lib.hid (fun W hW => (HL.out.below hW).cut q (by omega))
  have hl5 : (lst.take q).length ≤ 1000 := by rw [List.length_take]; omega
  generalize lst.take q = lq at *
  clear hq q0 q1 q2 HL
  go_upto_block 0 with fail
  have HQ0 : Hid (QAt w9 (w9.alloc (.cells #[] 38)) (.slice (some ⟨w9.heap.size, 0, none⟩) 0 0) []) := Lib.hid ⟨(Below.refl _ _).alloc (Nat.le_refl _) _, OwnE.zeroPart (heap_alloc_new w9 _) (Nat.le_refl _), fun z hz => absurd hz List.not_mem_nil⟩
  obtain ⟨w10, hw10⟩ : ∃ W, W = w9.alloc (.cells #[] 38) := ⟨_, rfl⟩
  rw [← hw10] at HQ0 ⊢
  obtain ⟨b9, hb9⟩ : ∃ b, b = w9.heap.size := ⟨_, rfl⟩
  rw [← hb9] at HQ0 ⊢
  clear hw10 hb9
  obtain ⟨M, hM⟩ : ∃ M, M = min (min ns 4) nb := ⟨_, rfl⟩
  have hM4 : M ≤ 4 := by omega
  have HMM := Lib.hid hM
  clear hM
  go_wp2
  go_loopw [25, 26] (fun v i wr => ∃ (k : Nat) (a : Option Addr) (c : Nat) (ps : List (PartP × Value)), k ≤ M ∧ i = .int .i64 k ∧ v = .slice a k c ∧ ps.length = k ∧ Hid (∀ z ∈ ps, FitB z.1) ∧ Hid (QAt w9 wr v ps)) (fun _ i _ => M - (intOf i).toNat)
  case atStart => exact ⟨0, some ⟨b9, 0, none⟩, 0, [], by omega, rfl, rfl, rfl, Lib.hid (fun z hz => absurd hz List.not_mem_nil), HQ0⟩
  case round =>
    clear HQ0
    obtain ⟨k, pa, pc, ps, hk, rfl, rfl, hpl, hF, hQ⟩ := hrel
    go_upto_region 11 with fail
    go_cut [96] from 83 to 194 (fun t wx => t = .bool (decide (k < M)) ∧ wx = wr)
    case first =>
      have hMM := HMM.out
      by_cases t1 : k < ns
      · have u1 : (k : Int) < (ns : Int) := by omega
        by_cases t2 : k < 4
        · have u2 : (k : Int) < 4 := by omega
          by_cases t3 : k < nb
          · have u3 : (k : Int) < (nb : Int) := by omega
            have hd : decide (k < M) = true := decide_eq_true (by omega)
            clear hMM
            go_wp2
            go_meet
            case rel => exact ⟨by rw [hd], rfl⟩
          · have u3 : ¬ (k : Int) < (nb : Int) := by omega
            have hd : decide (k < M) = false := decide_eq_false (by omega)
            clear hMM
            go_wp2
            go_meet
            case rel => exact ⟨by rw [hd], rfl⟩
        · have u2 : ¬ (k : Int) < 4 := by omega
          have hd : decide (k < M) = false := decide_eq_false (by omega)
          clear hMM
          go_wp2
          go_meet
          case rel => exact ⟨by rw [hd], rfl⟩
      · have u1 : ¬ (k : Int) < (ns : Int) := by omega
        have hd : decide (k < M) = false := decide_eq_false (by omega)
        clear hMM
        go_wp2
        go_meet
        case rel => exact ⟨by rw [hd], rfl⟩
    case rest =>
    obtain ⟨ht, hw⟩ := hcut
    subst ht
    replace hw := hw.symm
    subst hw
    by_cases hlk : k < M
    · rw [decide_eq_true hlk]
      have hMM := HMM.out
      obtain ⟨sz, esz⟩ : ∃ u, szs[k]? = some u := ⟨_, List.getElem?_eq_getElem (by rw [← HNS.out]; omega)⟩
      obtain ⟨bt, ebt⟩ : ∃ u, bts[k]? = some u := ⟨_, List.getElem?_eq_getElem (by rw [← HNB.out]; omega)⟩
      have isz := HIS.out sz (List.mem_of_getElem? esz)
      have ibt := HIB.out bt (List.mem_of_getElem? ebt)
      obtain ⟨sb, so, rfl, hsb, sc0⟩ := HS3.out k sz esz
      obtain ⟨bb, bo, rfl, hbb, bc0⟩ := HB3.out k bt ebt
      have HCI := Lib.hid (fun W (hW : Below w.heap.size w W) => And.intro (cell_keepB hW hsb sc0) (cell_keepB hW hbb bc0))
      have HSZ := Lib.hid isz
      have HBT := Lib.hid ibt
      have u1 : (k : Int) < (ns : Int) := by omega
      have u3 : (k : Int) < (nb : Int) := by omega
      have u0 : (0 : Int) ≤ (k : Int) := by omega
      clear hMM esz ebt isz ibt hsb hbb sc0 bc0
      have Kr := Lib.hid (K9.out.step hQ.out.1)
      obtain ⟨rc0, rc1⟩ := Kr.out.duo (i := 1) rfl
      go_upto_region 13 with fail
      go_cut [27] from 99 to 99 (fun t wx => t = .pointer (some ⟨wr.heap.size, 0, none⟩) ∧ wx = wr.alloc (.cells #[.int .i64 cn, .slice ar m cr] 26))
      case first =>
        go_wp2
        go_meet
        case rel => exact ⟨rfl, rfl⟩
      case rest =>
      rename_i hKK
      obtain ⟨ht, hw⟩ := hcut
      subst ht hw
      clear rc0 rc1
      refine hKK _ _ ?_
      clear hKK
      have HZB := Lib.hid hQ.out.1.size
      have Hw14b : Hid ((wr.alloc (.cells #[.int .i64 cn, .slice ar m cr] 26)).heap[wr.heap.size]? = some (.cells #[.int .i64 cn, .slice ar m cr] 26 (0, 0))) := Lib.hid (heap_alloc_new wr _)
      have Hw14f : Hid (Below wr.heap.size wr (wr.alloc (.cells #[.int .i64 cn, .slice ar m cr] 26))) := Lib.hid ((Below.refl _ _).alloc (Nat.le_refl _) _)
      have HQ14 := Lib.hid (hQ.out.far Hw14f.out)
      have K14 := Lib.hid (Kr.out.step Hw14f.out)
      obtain ⟨w14, hww14⟩ : ∃ W, W = wr.alloc (.cells #[.int .i64 cn, .slice ar m cr] 26) := ⟨_, rfl⟩
      clear Hw14f
      rw [← hww14] at Hw14b HQ14 K14 ⊢
      generalize wr.heap.size = zb at *
      clear hww14
      clear hQ Kr
      have hzb := HZB.out
      have HP4 := Lib.hid (fun W => lpick_any bt 4 W HBT.out (by omega) (by omega))
      obtain ⟨P, hP⟩ : ∃ P, P = pickI bt 4 := ⟨_, rfl⟩
      rw [← hP] at HP4
      clear hP
      have HUX : Hid (∀ W, Below w9.heap.size w9 W → SS W (.slice ar m cr) xs) := Lib.hid (fun W hW => (K9.out.step hW).all 0 _ rfl)
      have HUZ : Hid (∀ W, Below w9.heap.size w9 W → SS W (.slice az mz cz) zs) := Lib.hid (fun W hW => (K9.out.step hW).all 2 _ rfl)
      obtain ⟨ci0, ci1⟩ := HCI.out w14 K14.out.below
      go_step
      go_cut [105] from 100 to 106 (fun _ wx => ∃ (a : Option Addr) (n c : Nat) (us : List ByteArray), n = us.length ∧ n ≤ 12 ∧ Hid (wx.heap[zb]? = some (.cells #[.int .i64 cn, .slice a n c] 26 (0, 0))) ∧ Hid (∀ W, Below w9.heap.size w9 W → SS W (.slice a n c) us) ∧ Hid (QAt w9 wx (.slice pa k pc) ps))
      case first =>
        by_cases h3 : P = 3
        · have hd : decide (P = 3) = true := decide_eq_true h3
          subst h3
          obtain ⟨oc0, oc1⟩ := K14.out.duo (i := 3) rfl
          obtain ⟨zc0, zc1, zf⟩ := two_cells Hw14b.out
          have HQ15 := Lib.hid (HQ14.out.two Hw14b.out hzb (.int .i64 cn) (.slice az mz cz))
          have HH15 := Lib.hid (two_heap Hw14b.out (.int .i64 cn) (.slice az mz cz))
          go_wp2_with (go_at_call 16; (with_reducible refine (HP4.out _).mono ?_); rintro e w' ⟨rfl, hw'⟩; replace hw' := hw'.symm; subst hw')
          go_meet
          case rel => exact ⟨az, mz, cz, zs, HMZ.out, hz12, HH15, HUZ, HQ15⟩
        · have hd : decide (P = 3) = false := decide_eq_false h3
          go_wp2_with (go_at_call 16; (with_reducible refine (HP4.out _).mono ?_); rintro e w' ⟨rfl, hw'⟩; replace hw' := hw'.symm; subst hw')
          go_meet
          case rel => exact ⟨ar, m, cr, xs, HM.out, by omega, Hw14b, HUX, HQ14⟩
      case rest =>
      obtain ⟨ua, n, uc, us, hnu, hn12, hzc, hus, hQ⟩ := hcut
      have HNU := Lib.hid hnu
      clear HQ14 K14 Hw14b HP4 HUX HUZ ci0 ci1 HZB hnu
      obtain ⟨w15, hw15⟩ : ∃ W, W = wc := ⟨_, rfl⟩
      rw [← hw15] at hzc hQ ⊢
      clear hw15 wc
      have HPS := Lib.hid (fun W => lpick_any sz ((n : Int) + 1) W HSZ.out (by omega) (by omega))
      obtain ⟨p0, p1⟩ := pickI_range sz (n := (n : Int) + 1) (by omega)
      obtain ⟨sn, hsn⟩ := Int.eq_ofNat_of_zero_le p0
      rw [hsn] at HPS p1
      have hsnn : sn ≤ n := by omega
      clear hsn p0 p1
      have f1 : IntKind.i64.wrap ((n : Int) + 1) = (n : Int) + 1 := IntWalk.i64_in _ (by omega)
      have HL16 : Hid (∀ W, Below w15.heap.size w15 W → W.cell? ⟨sb, so + k, none⟩ = some (.int .i64 sz) ∧ W.cell? ⟨zb, 1, none⟩ = some (.slice ua n uc)) := Lib.hid (fun W hW => ⟨(HCI.out W ((K9.out.step hQ.out.1).step hW).below).1, (two_cells (kept_block hzc.out hW)).2.1⟩)
      go_upto_region 16 with fail
      refine wp_region_noPanic ?_
      refine wp_region_lexB [.q 0, .q 1, .q 2, .q 3, .q 4, .q 5, .q 6, .q 7, .b 8, .q 9] (by as_aux_lemma => kernel_rfl) (by as_aux_lemma => kernel_rfl) (fun _ _ _ _ h => h) ?_
      iterate 8 (refine wpFl_qL (v := ?_) rfl (Or.inl ⟨by rfl, ?_⟩) ?_; rotate_left; (focus (intro w' hSw; (try dsimp only [OldKept] at hSw); obtain ⟨e0, e1⟩ := HL16.out w' hSw; go_simp; (try with_reducible rfl); done)); simp only [Act.put, List.setIfInBounds_toArray, List.set_cons_zero, List.set_cons_succ])
      refine wpFl_bL rfl (fun w16 hn16 hs16 K hK => ?_)
      go_simp
      go_at_call 16
      (with_reducible refine (HPS.out _).mono ?_)
      rintro e w' ⟨rfl, hw'⟩
      replace hw' := hw'.symm
      subst hw'
      have HQ16 := Lib.hid (hQ.out.far hs16)
      have HZ16 := Lib.hid (kept_block hzc.out hs16)
      refine hK.out _ _ hs16 (Keeps.below (Below.refl _ _)) ?_
      clear hK K hn16 hs16 hQ hzc HPS HL16 f1
      refine wpFl_qL (v := ?_) rfl (Or.inl ⟨by rfl, ?_⟩) ?_
      rotate_left
      focus (intro w' hSw; (try dsimp only [OldKept] at hSw); go_simp; (try with_reducible rfl); done)
      simp only [Act.put, List.setIfInBounds_toArray, List.set_cons_zero, List.set_cons_succ]
      refine wpFl_nil ?_
      refine NoPanic.normal ?_
      go_upto_block 2 with fail
      have Hw17b : Hid ((w16.alloc (.cells #[.string S, .string key] 9)).heap[w16.heap.size]? = some (.cells #[.string S, .string key] 9 (0, 0))) := Lib.hid (heap_alloc_new w16 _)
      have Hw17f : Hid (Below w16.heap.size w16 (w16.alloc (.cells #[.string S, .string key] 9))) := Lib.hid ((Below.refl _ _).alloc (Nat.le_refl _) _)
      have HQ17 := Lib.hid (HQ16.out.far Hw17f.out)
      have HZ17 := Lib.hid (kept_block HZ16.out Hw17f.out)
      obtain ⟨w17, hww17⟩ : ∃ W, W = w16.alloc (.cells #[.string S, .string key] 9) := ⟨_, rfl⟩
      clear Hw17f
      rw [← hww17] at Hw17b HQ17 HZ17 ⊢
      generalize w16.heap.size = kb at *
      clear hww17
      clear HQ16 HZ16
      have K17 := Lib.hid (K9.out.step HQ17.out.1)
      have HKC := Lib.hid (keys_at S key hS33 (by rw [HK32.out]; omega) kb)
      have HU17 : Hid (∀ W, Below w17.heap.size w17 W → SS W (.slice ua n uc) us) := Lib.hid (fun W hW => hus.out W (below_next HQ17.out.1 hW))
      have HC17 : Hid (∀ W, Below w17.heap.size w17 W → (W.cell? ⟨zb, 0, none⟩ = some (.int .i64 cn) ∧ W.cell? ⟨zb, 1, none⟩ = some (.slice ua n uc)) ∧ W.cell? ⟨sb, so + k, none⟩ = some (.int .i64 sz) ∧ W.cell? ⟨bb, bo + k, none⟩ = some (.int .i64 bt)) := Lib.hid (fun W hW => by
        obtain ⟨x1, x2, _⟩ := two_cells (kept_block HZ17.out hW)
        exact ⟨⟨x1, x2⟩, HCI.out W ((K17.out.step hW).below)⟩)
      have HL17 : Hid (∀ W, Below w17.heap.size w17 W → IL W (.slice la q lc) lq) := Lib.hid (fun W hW => HL5.out W ((K17.out.step hW).below))
      obtain ⟨b4, hb4⟩ : ∃ b4, b4 = bt.tdiv 4 := ⟨_, rfl⟩
      have hq4 : I64 b4 := by
        obtain ⟨a1, a2⟩ := HBT.out
        have h3 : (bt.tdiv 4).natAbs = bt.natAbs / 4 := by rw [Int.natAbs_tdiv]; rfl
        rw [hb4]
        constructor <;> omega
      have fq : IntKind.i64.wrap (bt.tdiv 4) = b4 := by rw [← hb4]; exact IntWalk.i64_in _ (by obtain ⟨a, b⟩ := hq4; omega)
      have HIX := Lib.hid (fun W => indices_any b4 hq4 sn (by omega) W)
      have hil : (idxI b4 sn).length ≤ 1000 := by
        have := idxI_len b4 sn
        omega
      obtain ⟨il, hile⟩ : ∃ il, il = idxI b4 sn := ⟨_, rfl⟩
      rw [← hile] at HIX hil
      clear hile hb4 hq4 HZ17
      have HB0 : Hid (Below w17.heap.size w17 w17) := Lib.hid (Below.refl _ _)
      go_wp2
      go_loopw [120] (fun i wr => ∃ j : Nat, j ≤ 2 ∧ i = .int .i64 j ∧ Hid (Below w17.heap.size w17 wr)) (fun i _ => 2 - (intOf i).toNat)
      case atStart => exact ⟨0, by omega, rfl, HB0⟩
      case round =>
        clear HB0
        obtain ⟨j, hj, rfl, hB⟩ := hrel
        by_cases hlj : j < 2
        · obtain ⟨kk, hkk, hkc⟩ := HKC.out j hlj
          have kc := hkc wr (kept_block Hw17b.out hB.out)
          obtain ⟨_, _, bc0⟩ := HC17.out wr hB.out
          have tj : (j : Int) < 2 := by omega
          have tj0 : (0 : Int) ≤ (j : Int) := by omega
          clear hkc
          go_wp2_with fail
          refine (HIX.out wr).mono ?_
          rintro e w20 ⟨vi, rfl, hil20, hb20⟩
          obtain ⟨ai, ci, rfl⟩ := hil20.form2
          have HB20 := Lib.hid (below_next hB.out hb20)
          have HI20 := Lib.hid hil20
          obtain ⟨ni, hni⟩ : ∃ ni, ni = il.length := ⟨_, rfl⟩
          rw [← hni] at HI20 ⊢
          clear hni hb20 hil20 kc bc0 hB
          go_upto_block 4 with fail
          have Hw21b : Hid ((w20.alloc (.cells #[.slice la q lc, .slice ai ni ci] 22)).heap[w20.heap.size]? = some (.cells #[.slice la q lc, .slice ai ni ci] 22 (0, 0))) := Lib.hid (heap_alloc_new w20 _)
          have Hw21f : Hid (Below w20.heap.size w20 (w20.alloc (.cells #[.slice la q lc, .slice ai ni ci] 22))) := Lib.hid ((Below.refl _ _).alloc (Nat.le_refl _) _)
          have HB21 := Lib.hid (below_next HB20.out Hw21f.out)
          have HI21 := Lib.hid (IL.below HI20.out Hw21f.out)
          obtain ⟨w21, hww21⟩ : ∃ W, W = w20.alloc (.cells #[.slice la q lc, .slice ai ni ci] 22) := ⟨_, rfl⟩
          clear Hw21f
          rw [← hww21] at Hw21b HB21 HI21 ⊢
          generalize w20.heap.size = lb at *
          clear hww21
          clear HB20 HI20
          have K21 := Lib.hid (K17.out.step HB21.out)
          have HLI := Lib.hid (lists_at la q lc ai ni ci (B := w21) (fun W hW => HL17.out W (below_next HB21.out hW)) (fun W hW => IL.below HI21.out hW) hl5 hil lb)
          have HB0 : Hid (Below w21.heap.size w21 w21) := Lib.hid (Below.refl _ _)
          go_wp2
          go_loopw [134] (fun i wr => ∃ t : Nat, t ≤ 2 ∧ i = .int .i64 t ∧ Hid (Below w21.heap.size w21 wr)) (fun i _ => 2 - (intOf i).toNat)
          case atStart => exact ⟨0, by omega, rfl, HB0⟩
          case round =>
            clear HB0
            obtain ⟨t, ht, rfl, hB⟩ := hrel
            by_cases hlt : t < 2
            · obtain ⟨ta, tn, tc, tl, htl, hti, htc⟩ := HLI.out t hlt
              have kc := htc wr (kept_block Hw21b.out hB.out)
              obtain ⟨_, sc0, _⟩ := HC17.out wr (below_next HB21.out hB.out)
              have HTI := Lib.hid hti
              have tt : (t : Int) < 2 := by omega
              have tt0 : (0 : Int) ≤ (t : Int) := by omega
              clear hti htc
              go_upto_block 6 with fail
              clear kc sc0
              have Hw23b : Hid ((wr.alloc (.cells #[.int .i64 sz, .int .i64 sn] 3)).heap[wr.heap.size]? = some (.cells #[.int .i64 sz, .int .i64 sn] 3 (0, 0))) := Lib.hid (heap_alloc_new wr _)
              have Hw23f : Hid (Below wr.heap.size wr (wr.alloc (.cells #[.int .i64 sz, .int .i64 sn] 3))) := Lib.hid ((Below.refl _ _).alloc (Nat.le_refl _) _)
              have HB23 := Lib.hid (below_next hB.out Hw23f.out)
              obtain ⟨w23, hww23⟩ : ∃ W, W = wr.alloc (.cells #[.int .i64 sz, .int .i64 sn] 3) := ⟨_, rfl⟩
              clear Hw23f
              rw [← hww23] at Hw23b HB23 ⊢
              generalize wr.heap.size = mb at *
              clear hww23
              clear hB
              have HMI := Lib.hid (sizes_at sz sn mb)
              have HB0 : Hid (Below w23.heap.size w23 w23) := Lib.hid (Below.refl _ _)
              go_wp2
              go_loopw [145] (fun i wr => ∃ u : Nat, u ≤ 2 ∧ i = .int .i64 u ∧ Hid (Below w23.heap.size w23 wr)) (fun i _ => 2 - (intOf i).toNat)
              case atStart => exact ⟨0, by omega, rfl, HB0⟩
              case round =>
                clear HB0
                obtain ⟨u, hu, rfl, hB⟩ := hrel
                by_cases hlu : u < 2
                · obtain ⟨mi, hmi⟩ := HMI.out u hlu
                  have kc := hmi wr (kept_block Hw23b.out hB.out)
                  obtain ⟨⟨⟨p1, p2, p3, p4⟩, pits⟩, per, _, hsh, hrs⟩ := shw_both K21.out kk cn mi (fun W hW => HU17.out W (below_next HB21.out hW)) HTI.out htl
                  unfold ShowIs at hsh hrs
                  simp only at hsh hrs
                  obtain ⟨pn, hpn⟩ : ∃ pn, pn = pits.length := ⟨_, rfl⟩
                  rw [← hpn] at hsh hrs
                  have HSH := Lib.hid hsh
                  have HRS := Lib.hid hrs
                  have HWr := Lib.hid (below_next HB23.out hB.out)
                  obtain ⟨⟨zc0, zc1⟩, _, _⟩ := HC17.out wr (below_next HB21.out HWr.out)
                  have tu : (u : Int) < 2 := by omega
                  have tu0 : (0 : Int) ≤ (u : Int) := by omega
                  clear hsh hrs hmi hpn
                  go_wp2_with fail
                  refine (HSH.out wr HWr.out).mono ?_
                  rintro e w26 ⟨xa, xc, rfl, hx26, hb26⟩
                  have HX26 := Lib.hid hx26
                  have HB26 := Lib.hid hb26
                  clear hx26 hb26 kc zc0 zc1 HSH
                  go_upto_region 27 with fail
                  have Hw27b : Hid ((w26.alloc (.cells #[.int .i64 p1, .int .i64 p2, .string p3, .string p4, .slice xa pn xc] 38)).heap[w26.heap.size]? = some (.cells #[.int .i64 p1, .int .i64 p2, .string p3, .string p4, .slice xa pn xc] 38 (0, 0))) := Lib.hid (heap_alloc_new w26 _)
                  have Hw27f : Hid (Below w26.heap.size w26 (w26.alloc (.cells #[.int .i64 p1, .int .i64 p2, .string p3, .string p4, .slice xa pn xc] 38))) := Lib.hid ((Below.refl _ _).alloc (Nat.le_refl _) _)
                  have HX27 := Lib.hid (IT.below HX26.out Hw27f.out)
                  have HB27 := Lib.hid (below_next HB26.out Hw27f.out)
                  obtain ⟨w27, hww27⟩ : ∃ W, W = w26.alloc (.cells #[.int .i64 p1, .int .i64 p2, .string p3, .string p4, .slice xa pn xc] 38) := ⟨_, rfl⟩
                  clear Hw27f
                  rw [← hww27] at Hw27b HX27 HB27 ⊢
                  generalize w26.heap.size = xb at *
                  clear hww27
                  clear HX26 HB26
                  obtain ⟨⟨zc0, zc1⟩, _, _⟩ := HC17.out w27 (below_next HB21.out (below_next HWr.out HB27.out))
                  go_wp2_with fail
                  refine (HRS.out w27 (below_next HWr.out HB27.out)).mono ?_
                  rintro e w28 ⟨ya, yc, rfl, hy28, hb28⟩
                  have HY28 := Lib.hid hy28
                  have HX28 := Lib.hid (IT.below HX27.out hb28)
                  have HB28 := Lib.hid (below_next HB27.out hb28)
                  have HXB28 := Lib.hid (kept_block Hw27b.out hb28)
                  clear hy28 hb28 zc0 zc1 HRS HX27 HB27 Hw27b
                  go_upto_region 28 with fail
                  have Hw29b : Hid ((w28.alloc (.cells #[.int .i64 p1, .int .i64 p2, .string p3, .string p4, .slice ya pn yc] 38)).heap[w28.heap.size]? = some (.cells #[.int .i64 p1, .int .i64 p2, .string p3, .string p4, .slice ya pn yc] 38 (0, 0))) := Lib.hid (heap_alloc_new w28 _)
                  have Hw29f : Hid (Below w28.heap.size w28 (w28.alloc (.cells #[.int .i64 p1, .int .i64 p2, .string p3, .string p4, .slice ya pn yc] 38))) := Lib.hid ((Below.refl _ _).alloc (Nat.le_refl _) _)
                  have HX29 := Lib.hid (IT.below HX28.out Hw29f.out)
                  have HY29 := Lib.hid (IT.below HY28.out Hw29f.out)
                  have HB29 := Lib.hid (below_next HB28.out Hw29f.out)
                  have HXB29 := Lib.hid (kept_block HXB28.out Hw29f.out)
                  obtain ⟨w29, hww29⟩ : ∃ W, W = w28.alloc (.cells #[.int .i64 p1, .int .i64 p2, .string p3, .string p4, .slice ya pn yc] 38) := ⟨_, rfl⟩
                  clear Hw29f
                  rw [← hww29] at Hw29b HX29 HY29 HB29 HXB29 ⊢
                  generalize w28.heap.size = yb at *
                  clear hww29
                  clear HX28 HY28 HB28 HXB28
                  obtain ⟨x0, x1, x2, x3, x4⟩ := pfive HXB29.out
                  obtain ⟨y0, y1, y2, y3, y4⟩ := pfive Hw29b.out
                  go_wp2_with fail
                  refine (samePart_self p1 p2 p3 p4 HX29.out HY29.out).mono ?_
                  rintro e w30 ⟨rfl, hb30⟩
                  have HB30 := Lib.hid (below_next hB.out (below_next HB29.out hb30))
                  clear hb30 x0 x1 x2 x3 x4 y0 y1 y2 y3 y4
                  go_wp2
                  go_roundw
                  case rel => exact ⟨u + 1, by omega, by go_num, HB30⟩
                  case measure => simp [intOf]; omega
                · have tu : ¬ (u : Int) < 2 := by omega
                  have HBN := Lib.hid (below_next HB23.out hB.out)
                  go_wp2
                  go_roundw
                  case rel => exact ⟨t + 1, by omega, by go_num, HBN⟩
                  case measure => simp [intOf]; omega
            · have tt : ¬ (t : Int) < 2 := by omega
              have HBN := Lib.hid (below_next HB21.out hB.out)
              go_wp2
              go_roundw
              case rel => exact ⟨j + 1, by omega, by go_num, HBN⟩
              case measure => simp [intOf]; omega
        · have tj : ¬ (j : Int) < 2 := by omega
          obtain rfl : j = 2 := by omega
          have HQ33 := Lib.hid (HQ17.out.far hB.out)
          have HC33 := Lib.hid (fun W (hW : Below wr.heap.size wr W) => HC17.out W (below_next hB.out hW))
          obtain ⟨⟨⟨p1, p2, p3, p4⟩, pits⟩, hpp⟩ : ∃ p : PartP, p = showZ (showB key ⟨cn, us⟩ sn il) := ⟨_, rfl⟩
          obtain ⟨per, hper⟩ : ∃ per, per = showE (showB key ⟨cn, us⟩ sn il) := ⟨_, rfl⟩
          have HFB : Hid (FitB ⟨⟨p1, p2, p3, p4⟩, pits⟩) := Lib.hid (by rw [hpp]; exact show_fit _ _ _ _ _ hil)
          obtain ⟨pn, hpn⟩ : ∃ pn, pn = pits.length := ⟨_, rfl⟩
          have HRS : Hid (∀ W vl, Below wr.heap.size wr W → IL W vl il → Calls Tryz.prog 19 #[.string key, .agg #[.int .i64 cn, .slice ua n uc], .int .i64 sn, vl] W fun e w' => ∃ (a : Option Addr) (c : Nat), e = .returned (.tuple #[.agg #[.int .i64 p1, .int .i64 p2, .string p3, .string p4, .slice a pn c], .int .i64 per]) ∧ IT w' (.slice a pn c) pits ∧ Below W.heap.size W w') := Lib.hid (fun W vl hW hl => by
            have h := rshow_any key cn sn (HU17.out W (below_next hB.out hW)) hl (by omega)
            rw [← hpp, ← hper] at h
            unfold ShowIs at h
            simp only at h
            rw [← hpn] at h
            exact h)
          clear hpp hper hpn hB
          go_upto_region 33 with fail
          refine wp_region_noPanic ?_
          refine wp_region_lexB [.q 0, .q 1, .q 2, .q 3, .q 4, .q 5, .q 6, .q 7, .q 8, .an 14, .b 9, .b 10, .q 11, .q 12, .q 13, .co 14, .b 15, .q 16] (by as_aux_lemma => kernel_rfl) (by as_aux_lemma => kernel_rfl) (fun _ _ _ _ h => h) ?_
          iterate 9 (refine wpFl_qL (v := ?_) rfl (Or.inl ⟨by rfl, ?_⟩) ?_; rotate_left; (focus (intro w' hSw; (try dsimp only [OldKept] at hSw); obtain ⟨⟨e0, e1⟩, e2, e3⟩ := HC33.out w' hSw; go_simp; (try with_reducible rfl); done)); simp only [Act.put, List.setIfInBounds_toArray, List.set_cons_zero, List.set_cons_succ])
          refine wpFl_anL rfl (.cells #[.int .i64 0, .int .i64 0, .string ⟨#[]⟩, .string ⟨#[]⟩, .slice none 0 0] 38 (0, 0)) (fun n => .pointer (some ⟨n, 0, none⟩)) ⟨by rfl, fun w' => ?_⟩ ?_
          focus (go_simp; done)
          refine wpFl_bL rfl (fun w34 hn34 hs34 K hK => ?_)
          go_simp
          go_at_call 17
          (with_reducible refine (HIX.out _).mono ?_)
          rintro e w35 ⟨vi, rfl, hil35, hb35⟩
          have HI35 := Lib.hid hil35
          refine hK.out _ _ (below_next hs34 hb35) (Keeps.below hb35) ?_
          clear hK K hn34 hs34 hb35 hil35
          refine wpFl_bL rfl (fun w36 hn36 hs36 K hK => ?_)
          go_simp
          go_at_call 19
          refine (HRS.out _ _ hs36 (IL.below HI35.out hn36)).mono ?_
          rintro e w37 ⟨xa, xc, rfl, hx37, hb37⟩
          have HX37 := Lib.hid hx37
          refine hK.out _ _ (below_next hs36 hb37) (Keeps.below hb37) ?_
          clear hK K hn36 hs36 hb37 hx37 HI35 HRS
          iterate 3 (refine wpFl_qL (v := ?_) rfl (Or.inl ⟨by rfl, ?_⟩) ?_; rotate_left; (focus (intro w' hSw; (try dsimp only [OldKept] at hSw); go_simp; (try with_reducible rfl); done)); simp only [Act.put, List.setIfInBounds_toArray, List.set_cons_zero, List.set_cons_succ])
          refine wpFl_coL rfl (.cells #[.int .i64 0, .int .i64 0, .string ⟨#[]⟩, .string ⟨#[]⟩, .slice none 0 0] 38 (0, 0)) (fun n => .pointer (some ⟨n, 0, none⟩)) (by rfl) (N' := []) (by rfl) (fun xb w38 hn_w38 hs_w38 hb_xb hz_xb => ?_)
          simp only [Act.put, List.setIfInBounds_toArray, List.set_cons_zero, List.set_cons_succ]
          refine wpFl_bL rfl (fun w39 hn39 hs39 K hK => ?_)
          have HZ := Lib.hid (kept_block hz_xb hn39)
          have HIT2 := Lib.hid (IT.below (IT.below HX37.out hn_w38) hn39)
          obtain ⟨z0', z1', z2', z3', z4'⟩ := pfive HZ.out
          have zf : ∀ j, w39.frozen? ⟨xb, j, none⟩ = false := fun j => by unfold World.frozen?; rw [HZ.out]; simp
          go_simp
          refine hK.out _ _ (five_below hs39 hb_xb _ _ _ _ _) Keeps.nil ?_
          clear hK K
          have HQ40 := Lib.hid (HQ33.out.far (five_below hs39 hb_xb (.int .i64 p1) (.int .i64 p2) (.string p3) (.string p4) (.slice xa pn xc)))
          have HX40 := Lib.hid (IT.grownT HIT2.out HZ.out (by decide) (by decide) (five_grown w39 xb (.int .i64 p1) (.int .i64 p2) (.string p3) (.string p4) (.slice xa pn xc)))
          have HH40 := Lib.hid (five_heap HZ.out (.int .i64 p1) (.int .i64 p2) (.string p3) (.string p4) (.slice xa pn xc))
          generalize (((((w39.setCell ⟨xb, 0, none⟩ (.int .i64 p1)).setCell ⟨xb, 1, none⟩ (.int .i64 p2)).setCell ⟨xb, 2, none⟩ (.string p3)).setCell ⟨xb, 3, none⟩ (.string p4)).setCell ⟨xb, 4, none⟩ (.slice xa pn xc)) = w40 at *
          clear z0' z1' z2' z3' z4' zf HZ HIT2 hn39 hs39 hb_xb hz_xb hn_w38 hs_w38 HX37 HC33 HQ33
          refine wpFl_qL (v := ?_) rfl (Or.inl ⟨by rfl, ?_⟩) ?_
          rotate_left
          focus (intro w' hSw; (try dsimp only [OldKept] at hSw); go_simp; (try with_reducible rfl); done)
          simp only [Act.put, List.setIfInBounds_toArray, List.set_cons_zero, List.set_cons_succ]
          refine wpFl_nil ?_
          refine NoPanic.normal ?_
          obtain ⟨x0, x1, x2, x3, x4⟩ := pfive HH40.out
          have HNA : Hid ((w40.alloc (.cells #[.int .i64 p1, .int .i64 p2, .string p3, .string p4, .slice xa pn xc] 38)).heap[w40.heap.size]? = some (.cells #[.int .i64 p1, .int .i64 p2, .string p3, .string p4, .slice xa pn xc] 38 (0, 0))) := Lib.hid (heap_alloc_new w40 _)
          have HQA := Lib.hid (HQ40.out.far ((Below.refl _ _).alloc (Nat.le_refl _) (.cells #[.int .i64 p1, .int .i64 p2, .string p3, .string p4, .slice xa pn xc] 38)))
          have HXA := Lib.hid (IT.below HX40.out ((Below.refl _ _).alloc (Nat.le_refl _) (.cells #[.int .i64 p1, .int .i64 p2, .string p3, .string p4, .slice xa pn xc] 38)))
          have hlen : ps.length ≤ 100000 := by omega
          go_wp2_with (at_builtin; refine wpList_append_part _ _ w9.heap.size _ ps w40.heap.size (⟨⟨p1, p2, p3, p4⟩, pits⟩, .slice xa pn xc) (0, 0) HQA.out.2.1 hlen HQA.out.1.size rfl HNA.out rfl rfl rfl rfl ?_; intro v9 w41 hown9 hgr9; have HO9 := Lib.hid hown9; have HG9 := Lib.hid hgr9; clear hown9 hgr9)
          have HQ41 := Lib.hid (HQA.out.append (⟨⟨p1, p2, p3, p4⟩, pits⟩, .slice xa pn xc) HXA.out HO9.out HG9.out)
          obtain ⟨a9, c9, hv9⟩ := OwnE.form HO9.out
          replace hv9 : v9 = .slice a9 (k + 1) c9 := by
            rw [hv9, ptcells_len, List.length_append, hpl]
            rfl
          subst hv9
          clear x0 x1 x2 x3 x4 HNA HQA HXA HO9 HG9 HQ40 HX40 HH40
          go_roundw
          case rel => exact ⟨k + 1, a9, c9, _, by omega, by go_num, rfl, by rw [List.length_append, hpl]; rfl, Lib.hid (fun z hz => by
            rcases List.mem_append.1 hz with hz | hz
            · exact hF.out z hz
            · rw [List.mem_singleton.1 hz]
              exact HFB.out), HQ41⟩
          case measure => simp [intOf]; omega
    · rw [decide_eq_false hlk]
      have HPSr := Lib.hid (fun W (hW : Below wr.heap.size wr W) => hQ.out.ps.below hW)
      have HITr := Lib.hid (fun W (hW : Below wr.heap.size wr W) z (hz : z ∈ ps) => IT.below (hQ.out.2.2 z hz) hW)
      have HFPS : Hid (FitP ps) := Lib.hid ⟨by omega, fun z hz => (hF.out z hz).1⟩
      have HKr := Lib.hid (fun W (hW : Below wr.heap.size wr W) => (K9.out.step hQ.out.1).step hW)
      go_upto_region 35 with fail
      go_cut [41] from 195 to 196 (fun t wx => t = .slice (some ⟨wr.heap.size, 0, none⟩) 2 2 ∧ wx = wr.alloc (.cells #[.slice pa k pc, .slice none 0 0] 30))
      case first =>
        go_wp2
        go_meet
        case rel => exact ⟨rfl, rfl⟩
      case rest =>
      rename_i hKK
      obtain ⟨ht, hw⟩ := hcut
      subst ht hw
      refine hKK _ _ ?_
      clear hKK
      have Hw35b : Hid ((wr.alloc (.cells #[.slice pa k pc, .slice none 0 0] 30)).heap[wr.heap.size]? = some (.cells #[.slice pa k pc, .slice none 0 0] 30 (0, 0))) := Lib.hid (heap_alloc_new wr _)
      have Hw35f : Hid (Below wr.heap.size wr (wr.alloc (.cells #[.slice pa k pc, .slice none 0 0] 30))) := Lib.hid ((Below.refl _ _).alloc (Nat.le_refl _) _)
      have HB35 := Lib.hid (Hw35f.out)
      obtain ⟨w35, hww35⟩ : ∃ W, W = wr.alloc (.cells #[.slice pa k pc, .slice none 0 0] 30) := ⟨_, rfl⟩
      clear Hw35f
      rw [← hww35] at Hw35b HB35 ⊢
      generalize wr.heap.size = lb at *
      clear hww35
      have HLst := Lib.hid (OwnE.two Hw35b.out (Nat.le_refl lb))
      go_step
      go_cut [41, 42, 43, 44] from 197 to 229 (fun v _ _ _ wx => ∃ (b off n c : Nat), v = .slice (some ⟨b, off, none⟩) n c ∧ n ≤ 5 ∧ Hid (Below lb wr wx) ∧ Hid (LsAt wx b off n))
      case first =>
        by_cases hk0 : k = 0
        · have tk : ¬ (0 : Int) < (k : Int) := by omega
          have hd : decide ((0 : Int) < (k : Int)) = false := decide_eq_false tk
          have HLS0 := Lib.hid (lists_two Hw35b.out (OneList.mk (HPSr.out w35 HB35.out) HFPS.out))
          clear hk0
          go_wp2
          go_meet
          case rel => exact ⟨lb, 0, 2, 2, rfl, by omega, HB35, HLS0⟩
        · have tk : (0 : Int) < (k : Int) := by omega
          have tkn : 0 < k := by omega
          have hd : decide ((0 : Int) < (k : Int)) = true := decide_eq_true tk
          have HPK := Lib.hid (fun W => lpick_any at' (k : Int) W HIA.out (by omega) (by omega))
          obtain ⟨p0, p1⟩ := pickI_range at' (n := (k : Int)) (by omega)
          obtain ⟨kk, hkk⟩ := Int.eq_ofNat_of_zero_le p0
          rw [hkk] at HPK p1
          have hkkk : kk < k := by omega
          clear hkk p0 p1
          obtain ⟨z, ez⟩ : ∃ z, ps[kk]? = some z := ⟨_, List.getElem?_eq_getElem (by omega)⟩
          obtain ⟨pa', pc', ev, l1, l2, l3⟩ := (HPSr.out w35 HB35.out).opened
          obtain rfl : pa = pa' := by injection ev
          obtain rfl : pc = pc' := by injection ev
          unfold maxLen at l2
          obtain ⟨pb, po, rfl, hpb, hat⟩ := l3 kk z ez
          have hkpc : k ≤ pc := by omega
          have HFZ := Lib.hid (hF.out z (List.mem_of_getElem? ez))
          have HIZ := Lib.hid (HITr.out w35 HB35.out z (List.mem_of_getElem? ez))
          obtain ⟨za, zl, zc, hzv⟩ := HIZ.out.form
          obtain ⟨⟨⟨z1, z2, z3, z4⟩, zits⟩, zv⟩ := z
          simp only at hzv HIZ
          subst hzv
          obtain ⟨⟨⟨q1, q2, q3, q4⟩, qits⟩, hqq⟩ : ∃ q : PartP, q = bentP ⟨⟨z1, z2, z3, z4⟩, zits⟩ how nn at' := ⟨_, rfl⟩
          obtain ⟨C, hC⟩ : ∃ C, C = decide (bentP ⟨⟨z1, z2, z3, z4⟩, zits⟩ how nn at' ≠ ⟨⟨z1, z2, z3, z4⟩, zits⟩) := ⟨_, rfl⟩
          have HFQ : Hid (FitOne ⟨⟨q1, q2, q3, q4⟩, qits⟩) := Lib.hid (by rw [hqq]; exact bent_fit _ how nn at' HFZ.out.1)
          obtain ⟨qn, hqn⟩ : ∃ qn, qn = qits.length := ⟨_, rfl⟩
          have HBN : Hid (Calls Tryz.prog 21 #[.agg #[.int .i64 z1, .int .i64 z2, .string z3, .string z4, .slice za zl zc], .int .i64 how, .int .i64 nn, .int .i64 at'] w35 fun e w' => ∃ (a : Option Addr) (c : Nat), e = .returned (.tuple #[.agg #[.int .i64 q1, .int .i64 q2, .string q3, .string q4, .slice a qn c], .bool C]) ∧ IT w' (.slice a qn c) qits ∧ Below w35.heap.size w35 w') := Lib.hid (by
            refine (bent_any ⟨⟨z1, z2, z3, z4⟩, zits⟩ how nn at' HIZ.out HIH.out HIN.out HIA.out HFZ.out.2.1 HFZ.out.1.1 HFZ.out.2.2).mono ?_
            rintro e w' ⟨iv', g1, g2, g3⟩
            rw [← hC, ← hqq] at g1
            rw [← hqq] at g2
            obtain ⟨a, c, rfl⟩ := g2.form2
            refine ⟨a, c, ?_, ?_, g3⟩
            · rw [g1, hqn]
              rfl
            · rw [hqn]
              exact g2)
          clear ez ev l1 l2 l3 hqq hC hqn hk0
          unfold PAt at hat
          obtain ⟨a0, a1, a2, a3, a4⟩ := hat
          have tkk : (kk : Int) < (k : Int) := by omega
          have tkk0 : (0 : Int) ≤ (kk : Int) := by omega
          go_upto_region 38 with (go_at_call 16; (with_reducible refine (HPK.out _).mono ?_); rintro e w' ⟨rfl, hw'⟩; replace hw' := hw'.symm; subst hw')
          go_wp2_with fail
          refine HBN.out.mono ?_
          rintro e w38 ⟨qa, qc, rfl, hq38, hb38⟩
          have HI38 := Lib.hid hq38
          have HB38 := Lib.hid hb38
          clear a0 a1 a2 a3 a4 hq38 hb38 HBN HPK
          go_upto_region 39 with fail
          have HZL := Lib.hid (Nat.le_trans (Nat.le_of_lt (Array.getElem?_eq_some_iff.1 Hw35b.out).1) HB38.out.size)
          have Hw39b : Hid ((w38.alloc (.cells #[.int .i64 q1, .int .i64 q2, .string q3, .string q4, .slice qa qn qc] 38)).heap[w38.heap.size]? = some (.cells #[.int .i64 q1, .int .i64 q2, .string q3, .string q4, .slice qa qn qc] 38 (0, 0))) := Lib.hid (heap_alloc_new w38 _)
          have Hw39f : Hid (Below w38.heap.size w38 (w38.alloc (.cells #[.int .i64 q1, .int .i64 q2, .string q3, .string q4, .slice qa qn qc] 38))) := Lib.hid ((Below.refl _ _).alloc (Nat.le_refl _) _)
          have HI39 := Lib.hid (IT.below HI38.out Hw39f.out)
          have HB39 := Lib.hid (below_next HB38.out Hw39f.out)
          obtain ⟨w39, hww39⟩ : ∃ W, W = w38.alloc (.cells #[.int .i64 q1, .int .i64 q2, .string q3, .string q4, .slice qa qn qc] 38) := ⟨_, rfl⟩
          clear Hw39f
          rw [← hww39] at Hw39b HI39 HB39 ⊢
          generalize w38.heap.size = zb at *
          clear hww39
          have hlz := HZL.out
          have hz39 : zb < w39.heap.size := (Array.getElem?_eq_some_iff.1 Hw39b.out).1
          have HL39 := Lib.hid (OwnE.far HLst.out HB39.out (Nat.le_refl _))
          have HBB : Hid (Below lb wr w39) := Lib.hid (HB35.out.trans (HB39.out.mono (Nat.le_of_lt (Array.getElem?_eq_some_iff.1 Hw35b.out).1)))
          obtain ⟨OB, hOB⟩ : ∃ OB : Obj, OB = .cells #[.int .i64 q1, .int .i64 q2, .string q3, .string q4, .slice qa qn qc] 38 (0, 0) := ⟨_, rfl⟩
          have HOB := Lib.hid hOB
          clear hOB HI38 HB38 HZL
          have HS0 : Hid (BoxKept w39 lb zb OB w39.drew) := Lib.hid ⟨by omega, Below.drew (Below.refl _ _), by rw [HOB.out]; exact Hw39b.out⟩
          have HLS : Hid (∀ W, BoxKept w39 lb zb OB W → W.cell? ⟨zb, 0, none⟩ = some (.int .i64 q1) ∧ W.cell? ⟨zb, 1, none⟩ = some (.int .i64 q2) ∧ W.cell? ⟨zb, 2, none⟩ = some (.string q3) ∧ W.cell? ⟨zb, 3, none⟩ = some (.string q4) ∧ W.cell? ⟨zb, 4, none⟩ = some (.slice qa qn qc)) := Lib.hid (fun W hW => by
            have h := hW.2.2
            rw [HOB.out] at h
            exact pfive h)
          have HFW : Hid (FitP (ps ++ [((⟨⟨q1, q2, q3, q4⟩, qits⟩ : PartP), Value.slice qa qn qc)])) := Lib.hid ⟨by simp; omega, fun z hz => by
            rcases List.mem_append.1 hz with hz | hz
            · exact (hF.out z hz).1
            · rw [List.mem_singleton.1 hz]
              exact HFQ.out⟩
          have u1 : (kk : Int) ≤ (k : Int) := by omega
          have u2 : kk ≤ pc := by omega
          have u3 : kk ≤ k := by omega
          have u4 : ¬ pc = kk := by omega
          refine wp_region_noPanic ?_
          refine wp_region_lexF [.q 0, .q 2, .q 4, .q 7, .q 8, .q 9, .q 10, .q 11, .q 12, .an 1, .an 5, .co 1, .b 3, .co 5, .b 6, .an 13, .co 13, .b 14, .q 15] (BoxKept w39 lb zb OB) (by as_aux_lemma => kernel_rfl) (by as_aux_lemma => kernel_rfl) (fun _ _ _ _ h => h) BoxKept.more HS0.out ?_
          iterate 2 (refine wpFl_qL (v := ?_) rfl (Or.inl ⟨by rfl, ?_⟩) ?_; rotate_left; (focus (intro w' hSw; (try dsimp only [OldKept] at hSw); go_simp; (try with_reducible rfl); done)); simp only [Act.put, List.setIfInBounds_toArray, List.set_cons_zero, List.set_cons_succ])
          refine wpFl_qL (v := ?_) rfl (Or.inl ⟨by rfl, ?_⟩) ?_
          rotate_left
          focus (intro w' hSw; (try dsimp only [OldKept] at hSw); obtain ⟨e0, e1, e2, e3, e4⟩ := HLS.out w' hSw; go_simp; (try with_reducible rfl); done)
          simp only [Act.put, List.setIfInBounds_toArray, List.set_cons_zero, List.set_cons_succ]
          iterate 3 (refine wpFl_qL (v := ?_) rfl (Or.inl ⟨by rfl, ?_⟩) ?_; rotate_left; (focus (intro w' hSw; (try dsimp only [OldKept] at hSw); go_simp; (try with_reducible rfl); done)); simp only [Act.put, List.setIfInBounds_toArray, List.set_cons_zero, List.set_cons_succ])
          iterate 2 (refine wpFl_qL (v := ?_) rfl (Or.inl ⟨by rfl, ?_⟩) ?_; rotate_left; (focus (intro w' hSw; (try dsimp only [OldKept] at hSw); go_simp; (try with_reducible rfl); done)); simp only [Act.put, List.setIfInBounds_toArray, List.set_cons_zero, List.set_cons_succ])
          refine wpFl_qL (v := .slice (some ⟨pb, po + kk * 5, none⟩) (k - kk) (pc - kk)) rfl (Or.inl ⟨by rfl, ?_⟩) ?_
          focus (intro w' hSw; go_simp; done)
          simp only [Act.put, List.setIfInBounds_toArray, List.set_cons_zero, List.set_cons_succ]
          refine wpFl_anL rfl (.cells #[] 38 (0, 0)) (fun n => .slice (some ⟨n, 0, none⟩) 0 0) ⟨by rfl, fun w' => ?_⟩ ?_
          focus (go_simp; done)
          refine wpFl_anL rfl (.cells #[.int .i64 q1, .int .i64 q2, .string q3, .string q4, .slice qa qn qc] 38 (0, 0)) (fun n => .slice (some ⟨n, 0, none⟩) 1 1) ⟨by rfl, fun w' => ?_⟩ ?_
          focus (go_simp; done)
          refine wpFl_coL rfl (.cells #[] 38 (0, 0)) (fun n => .slice (some ⟨n, 0, none⟩) 0 0) (by rfl) (N' := [(5, .cells #[.int .i64 q1, .int .i64 q2, .string q3, .string q4, .slice qa qn qc] 38 (0, 0), fun n => .slice (some ⟨n, 0, none⟩) 1 1)]) (by rfl) (fun b1 w40 hn_w40 hs_w40 hb_b1 hz_b1 => ?_)
          simp only [Act.put, List.setIfInBounds_toArray, List.set_cons_zero, List.set_cons_succ]
          have HZ40 := Lib.hid hz_b1
          have HO40 := Lib.hid (OwnE.zeroPart hz_b1 hb_b1)
          have HW40 := Lib.hid (undrew hn_w40)
          have hb1 := hb_b1
          clear hz_b1 hb_b1 hs_w40 hn_w40
          refine wpFl_bS rfl (fun w41 hn41 hs41 K hK => ?_)
          have HO41 := Lib.hid (OwnE.far HO40.out hn41 (Nat.le_refl _))
          have HZ41 := Lib.hid (kept_block HZ40.out hn41)
          have HW41 := Lib.hid (below_next HW40.out hn41)
          have HPS41 := Lib.hid (HPSr.out w41 (HBB.out.trans hs41.2.1))
          have HL41 := Lib.hid (OwnE.far HL39.out HW41.out (Nat.le_refl _))
          have HI41 := Lib.hid (IT.below HI39.out HW41.out)
          refine step_append_parts rfl _ _ w39.heap.size (.slice (some ⟨b1, 0, none⟩) 0 0) [] ps (.slice (some ⟨pb, po, none⟩) k pc) HO41.out HPS41.out (by simp; omega) hs41.size rfl rfl rfl ?_
          intro v42 w42 hown42 hgr42
          rw [List.nil_append] at hown42
          have HK42 : Hid (BoxKept w39 lb zb OB w42) := Lib.hid ⟨hs41.1, Below.grown hs41.2.1 hgr42 (Nat.le_trans hs41.1 hs41.size) (fun j e => Nat.le_trans (by omega) (OwnE.ge HO41.out j e)), (hgr42.block zb (Nat.lt_of_lt_of_le hz39 hs41.size) (fun e => by
            have e' : some zb = some b1 := e
            injection e' with e'
            omega)).trans hs41.2.2⟩
          have HL42 := Lib.hid (OwnE.other HO41.out HL41.out (by decide) hgr42)
          have HI42 := Lib.hid (IT.own HI41.out HO41.out hgr42)
          refine hK.out _ _ HK42.out (Nat.le_trans hs41.size hgr42.size) (Keeps.zero HZ41.out hgr42 (by intro x hx e; rw [List.mem_singleton.1 hx] at e; simp at e)) ?_
          obtain ⟨a42, c42, hv42⟩ := OwnE.form hown42
          rw [ptcells_len, hpl] at hv42
          subst hv42
          have HO42 := Lib.hid hown42
          clear hK K HO40 HO41 HZ40 HZ41 HW40 HW41 HPS41 HL41 HI41 hn41 hs41 hown42 hgr42
          simp only [Act.put, List.setIfInBounds_toArray, List.set_cons_zero, List.set_cons_succ]
          refine wpFl_coL rfl (.cells #[.int .i64 q1, .int .i64 q2, .string q3, .string q4, .slice qa qn qc] 38 (0, 0)) (fun n => .slice (some ⟨n, 0, none⟩) 1 1) (by rfl) (N' := []) (by rfl) (fun b5 w43 hn_w43 hs_w43 hb_b5 hz_b5 => ?_)
          simp only [Act.put, List.setIfInBounds_toArray, List.set_cons_zero, List.set_cons_succ]
          have HS43 := Lib.hid (PS.one (z := ((⟨⟨q1, q2, q3, q4⟩, qits⟩ : PartP), Value.slice qa qn qc)) hz_b5 (IT.below HI42.out hn_w43))
          have HO43 := Lib.hid (OwnE.far HO42.out hn_w43 (Nat.le_refl _))
          have HL43 := Lib.hid (OwnE.far HL42.out hn_w43 (Nat.le_refl _))
          have HI43 := Lib.hid (IT.below HI42.out hn_w43)
          clear hz_b5 hb_b5 hs_w43 hn_w43 HK42 HO42 HL42 HI42
          refine wpFl_bS rfl (fun w44 hn44 hs44 K hK => ?_)
          have HS44 := Lib.hid (HS43.out.below hn44)
          have HO44 := Lib.hid (OwnE.far HO43.out hn44 (Nat.le_refl _))
          have HL44 := Lib.hid (OwnE.far HL43.out hn44 (Nat.le_refl _))
          have HI44 := Lib.hid (IT.below HI43.out hn44)
          refine step_append_parts rfl _ _ w39.heap.size (.slice a42 k c42) ps [((⟨⟨q1, q2, q3, q4⟩, qits⟩ : PartP), Value.slice qa qn qc)] (.slice (some ⟨b5, 0, none⟩) 1 1) HO44.out HS44.out (by simp; omega) hs44.size rfl rfl rfl ?_
          intro v45 w45 hown45 hgr45
          have HK45 : Hid (BoxKept w39 lb zb OB w45) := Lib.hid ⟨hs44.1, Below.grown hs44.2.1 hgr45 (Nat.le_trans hs44.1 hs44.size) (fun j e => Nat.le_trans (by omega) (OwnE.ge HO44.out j e)), (hgr45.block zb (Nat.lt_of_lt_of_le hz39 hs44.size) (fun e => by
            have := OwnE.ge HO44.out zb e.symm
            omega)).trans hs44.2.2⟩
          have HL45 := Lib.hid (OwnE.other HO44.out HL44.out (by decide) hgr45)
          have HI45 := Lib.hid (IT.own HI44.out HO44.out hgr45)
          refine hK.out _ _ HK45.out (Nat.le_trans hs44.size hgr45.size) Keeps.nil ?_
          obtain ⟨a45, c45, hv45⟩ := OwnE.form hown45
          rw [ptcells_len, List.length_append, hpl] at hv45
          replace hv45 : v45 = .slice a45 (k + 1) c45 := hv45
          subst hv45
          have HO45 := Lib.hid hown45
          clear hK K HO43 HO44 HS43 HS44 HL43 HL44 HI43 HI44 hn44 hs44 hown45 hgr45
          simp only [Act.put, List.setIfInBounds_toArray, List.set_cons_zero, List.set_cons_succ]
          refine wpFl_anL rfl (.cells #[.slice a45 (k + 1) c45, .slice (some ⟨pb, po, none⟩) kk pc, .slice (some ⟨pb, po + kk * 5, none⟩) (k - kk) (pc - kk)] 30 (0, 0)) (fun n => .slice (some ⟨n, 0, none⟩) 3 3) ⟨by rfl, fun w' => ?_⟩ ?_
          focus (go_simp; done)
          refine wpFl_coL rfl (.cells #[.slice a45 (k + 1) c45, .slice (some ⟨pb, po, none⟩) kk pc, .slice (some ⟨pb, po + kk * 5, none⟩) (k - kk) (pc - kk)] 30 (0, 0)) (fun n => .slice (some ⟨n, 0, none⟩) 3 3) (by rfl) (N' := []) (by rfl) (fun b13 w46 hn_w46 hs_w46 hb_b13 hz_b13 => ?_)
          simp only [Act.put, List.setIfInBounds_toArray, List.set_cons_zero, List.set_cons_succ]
          have HS46 := Lib.hid (lit3 hz_b13)
          have HO46 := Lib.hid (OwnE.far HO45.out hn_w46 (Nat.le_refl _))
          have HL46 := Lib.hid (OwnE.far HL45.out hn_w46 (Nat.le_refl _))
          have HI46 := Lib.hid (IT.below HI45.out hn_w46)
          clear hz_b13 hb_b13 hs_w46 hn_w46 HK45 HO45 HL45 HI45
          refine wpFl_bS rfl (fun w47 hn47 hs47 K hK => ?_)
          have HS47 := Lib.hid (SliceAt.below HS46.out hn47)
          have HO47 := Lib.hid (OwnE.far HO46.out hn47 (Nat.le_refl _))
          have HL47 := Lib.hid (OwnE.far HL46.out hn47 (Nat.le_refl _))
          have HI47 := Lib.hid (IT.below HI46.out hn47)
          refine step_append_rows 43 30 1 24 _ (by kernel_rfl) infoParts3 rfl (by decide) (by decide) rfl _ _ lb (.slice (some ⟨lb, 0, none⟩) 2 2) [[.slice (some ⟨pb, po, none⟩) k pc], [.slice none 0 0]] [[.slice a45 (k + 1) c45], [.slice (some ⟨pb, po, none⟩) kk pc], [.slice (some ⟨pb, po + kk * 5, none⟩) (k - kk) (pc - kk)]] (.slice (some ⟨b13, 0, none⟩) 3 3) HL47.out HS47.out (fun c hc => by simp at hc; rcases hc with rfl | rfl | rfl <;> exact ⟨rfl, fun u hu => by rw [List.mem_singleton.1 hu]; rfl⟩) (by simp) (Nat.le_trans hs47.1 hs47.size) rfl rfl rfl ?_
          intro v48 w48 hown48 hgr48
          have HK48 : Hid (BoxKept w39 lb zb OB w48) := Lib.hid ⟨hs47.1, Below.grown hs47.2.1 hgr48 (Nat.le_trans hs47.1 hs47.size) (fun j e => OwnE.ge HL47.out j e), (hgr48.block zb (Nat.lt_of_lt_of_le hz39 hs47.size) (own_ne HL47.out hs47.2.2 (fun c e => by rw [HOB.out] at e; cases e))).trans hs47.2.2⟩
          refine hK.out _ _ HK48.out (Nat.le_trans hs47.size hgr48.size) Keeps.nil ?_
          have HB48 := Lib.hid (HBB.out.trans HK48.out.2.1)
          have HO48 := Lib.hid (OwnE.other HL47.out HO47.out (by decide) hgr48)
          have HI48 := Lib.hid (IT.ownL HI47.out HL47.out hgr48)
          have HP48 := Lib.hid (HPSr.out w48 HB48.out)
          have HW48 : Hid (PS w48 (.slice a45 (k + 1) c45) (ps ++ [((⟨⟨q1, q2, q3, q4⟩, qits⟩ : PartP), Value.slice qa qn qc)])) := Lib.hid ⟨OwnE.slice HO48.out (ptcells_five _), fun z hz => by
            rcases List.mem_append.1 hz with hz | hz
            · exact HITr.out w48 HB48.out z hz
            · rw [List.mem_singleton.1 hz]
              exact HI48.out⟩
          have h5 := lists_five hown48 (OneList.mk HP48.out HFPS.out) (OneList.mk (PS.nil w48) ⟨by simp, fun z hz => absurd hz List.not_mem_nil⟩) (OneList.mk HW48.out HFW.out) (OneList.mk (HP48.out.take kk u3) (HFPS.out.take kk)) (OneList.mk (HP48.out.drop kk u3) (HFPS.out.drop kk))
          obtain ⟨b, off, c, hv48, hls⟩ := h5
          subst hv48
          have HLF := Lib.hid hls
          clear hK K HO46 HO47 HS46 HS47 HL46 HL47 HI46 HI47 hn47 hs47 hown48 hgr48 hls HO48 HI48 HP48 HW48 HK48
          simp only [Act.put, List.setIfInBounds_toArray, List.set_cons_zero, List.set_cons_succ]
          refine wpFl_qL (v := ?_) rfl (Or.inl ⟨by rfl, ?_⟩) ?_
          rotate_left
          focus (intro w' hSw; (try dsimp only [OldKept] at hSw); go_simp; (try with_reducible rfl); done)
          simp only [Act.put, List.setIfInBounds_toArray, List.set_cons_zero, List.set_cons_succ]
          refine wpFl_nil ?_
          refine NoPanic.normal ?_
          go_wp2
          go_meet
          case rel => exact ⟨b, off, 5, c, rfl, by omega, HB48, HLF⟩
      case rest =>
      rename_i hKK
      obtain ⟨tb, toff, tn, tc, ht, hn5, HB, HLs⟩ := hcut
      subst ht
      have K40 := Lib.hid (HKr.out wc HB.out)
      have HLS := HLs
      refine hKK _ _ (wp_of_eq (parts_tail key S _ _ _ _ _ _ _ _ _ _ _ _ _ _ _ _ _ _ _ _ _ _ _ _ _ _ _ _ _ _ _ _ _ _ _ _ _ _ _ _ _ _ _ _ _ _ _ _ _ _ _ _ _ _ _ _ _ _ _ _ _ _ _ _ _ _ _ _ _ _ _ _ _ _ _ _ _ _ _ _ _ _ _ _ _ _ _ _ _ _ _ _ _ _ _ _ _ _ _ _ _ _ _ _ _ _ _ _ _ _ _ _ _ _ _ _ _ _ _ _ _ _ _ _ _ _ _ _ _ _ _ _ _ _ _ _ _ _ _ _ _ _ _ _ _ _ _ _ _ _ _ _ _ _ _ _ _ _ _ _ _ _ _ _ _ _ _ _ _ _ _ _ _ _ _ _ _ _ _ _ _ _ _ _ _ _ _ _ _ _ _ _ _ _ _ _ _ _ _ _ _ _ _ _ _ _ _ _ _ _ _ _ _ _ _ _ _ _ _ _ _ _ _ _ _ _ _ _ _ _ _ _ _ _ _ _ _ _ _ _ _ _ _ _ _ _ _ _ _ _ _ _ _ _ _ _ _ _ _ _ _ _ _ _ _ _ _ _ _ _ _ _ _ _ _ _ _ _ _ _ _ _ _ _ _ _ _ _ _ _ _ _ _ _ _ _ _ _ _ _ _ _ _ _ _ _ _ _ _ _ _ _ _ _ _ _ _ _ _ _ _ _ _ _ _ _ _ _ _ _ _ _ _ _ _ _ _ _ _ HK32 hS33 K40 hn5 HLS).choose_spec.2 ?_)
      exact tail_eq2 (parts_tail key S _ _ _ _ _ _ _ _ _ _ _ _ _ _ _ _ _ _ _ _ _ _ _ _ _ _ _ _ _ _ _ _ _ _ _ _ _ _ _ _ _ _ _ _ _ _ _ _ _ _ _ _ _ _ _ _ _ _ _ _ _ _ _ _ _ _ _ _ _ _ _ _ _ _ _ _ _ _ _ _ _ _ _ _ _ _ _ _ _ _ _ _ _ _ _ _ _ _ _ _ _ _ _ _ _ _ _ _ _ _ _ _ _ _ _ _ _ _ _ _ _ _ _ _ _ _ _ _ _ _ _ _ _ _ _ _ _ _ _ _ _ _ _ _ _ _ _ _ _ _ _ _ _ _ _ _ _ _ _ _ _ _ _ _ _ _ _ _ _ _ _ _ _ _ _ _ _ _ _ _ _ _ _ _ _ _ _ _ _ _ _ _ _ _ _ _ _ _ _ _ _ _ _ _ _ _ _ _ _ _ _ _ _ _ _ _ _ _ _ _ _ _ _ _ _ _ _ _ _ _ _ _ _ _ _ _ _ _ _ _ _ _ _ _ _ _ _ _ _ _ _ _ _ _ _ _ _ _ _ _ _ _ _ _ _ _ _ _ _ _ _ _ _ _ _ _ _ _ _ _ _ _ _ _ _ _ _ _ _ _ _ _ _ _ _ _ _ _ _ _ _ _ _ _ _ _ _ _ _ _ _ _ _ _ _ _ _ _ _ _ _ _ _ _ _ _ _ _ _ _ _ _ _ _ _ _ _ _ _ HK32 hS33 K40 hn5 HLS).choose_spec.1
end Go.Proofs.YtinfpbkbnhcifaaGreatDoor
