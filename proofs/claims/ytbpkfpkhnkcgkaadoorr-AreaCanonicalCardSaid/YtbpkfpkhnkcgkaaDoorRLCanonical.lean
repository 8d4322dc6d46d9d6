/- AreaCanonical: the walk of the law. The conditions: what the slice reads as, the table of bits.TrailingZeros64. -/
import Derived.Test.YtbpkfpkhnkcgkaaDoorRWSane
import Derived.Test.YtbpkfpkhnkcgkaaDoorRWB1
import Derived.Test.YtbpkfpkhnkcgkaaDoorRPA6
import Derived.Test.YtbpkfpkhnkcgkaaDoorRBoxes
namespace Go.Proofs.YtbpkfpkhnkcgkaaDoorR
open Go.RowKit Go.BigFrame

theorem RS.at {w : World} {a : Option Addr} {n cap : Nat} {xs : List R4} (h : RS w (.slice a n cap) xs) : ∀ k x, xs[k]? = some x → ∃ b off, a = some ⟨b, off, none⟩ ∧ b < w.heap.size ∧ RAt w b (off + k * 4) x := by
  obtain ⟨a', cap', hv, _, _, h3⟩ := h.opened
  cases hv
  exact h3
theorem tdiv_i64 (a k : Int) (h : I64 a) (hk : 0 < k) : I64 (a.tdiv k) := by
  obtain ⟨h1, h2⟩ := h
  have h3 : (a.tdiv k).natAbs ≤ a.natAbs := by rw [Int.natAbs_tdiv]; exact Nat.div_le_self _ _
  by_cases hp : 0 ≤ a
  · have : 0 ≤ a.tdiv k := Int.tdiv_nonneg hp (by omega)
    constructor <;> omega
  · have : 0 ≤ (-a).tdiv k := Int.tdiv_nonneg (by omega) (by omega)
    rw [Int.neg_tdiv] at this
    constructor <;> omega

theorem alloc_new_at (X Y : World) (o : Obj) (h : X.heap.size = Y.heap.size) : (X.alloc o).heap[Y.heap.size]? = some o := by rw [← h]; exact heap_alloc_new X o
theorem pick_to (c n v : Int) (w : World) (hc : I64 c) (hn : 0 < n) (hn' : n ≤ 9223372036854775807) (hv : pickS c n = v) :
    Calls Tryd.prog 11 #[.int .i64 c, .int .i64 n] w fun e w' => e = .returned (.int .i64 v) ∧ w' = w :=
  (pick_any c n w hc hn hn').mono fun _ _ ⟨h1, h2⟩ => ⟨by rw [h1, hv], h2.symm⟩

set_option maxHeartbeats 8000000 in
set_option maxRecDepth 100000 in
theorem canonical_law {w : World} {vx : Value} {xs : List R4} (which cut again : Int) (hx : RS w vx xs) (ix : ∀ q ∈ xs, Int4 q) (iw : I64 which) (ic : I64 cut) (ia : I64 again) (he : Env w) :
    Calls Tryd.prog 4 #[vx, .int .i64 which, .int .i64 cut, .int .i64 again] w fun e w' => e = .returned (.bool true) ∧ Below w.heap.size w w' := by
  obtain ⟨ax, cx, rfl, lx, mx, _⟩ := hx.opened
  unfold maxLen at mx
  obtain ⟨nx, hnx⟩ : ∃ n, n = xs.length := ⟨_, rfl⟩
  rw [← hnx] at lx hx ⊢
  obtain ⟨tx, tx1, tx2, tx3⟩ : ∃ t : Nat, t ≤ nx ∧ t ≤ 6 ∧ (if (6 : Int) < (nx : Int) then 6 else (nx : Int)) = (t : Int) := cut_min nx 6
  have Rx := hx.cut tx tx1
  have Ix := Lib.hid (fun q (hq : q ∈ xs.take tx) => ix q (List.mem_of_mem_take hq))
  have Lx := Lib.hid (show (xs.take tx).length ≤ 6 from by rw [List.length_take]; omega)
  generalize xs.take tx = Tx at *
  clear hx ix hnx
  have k0 := (Know.start he).put Rx
  simp only [List.nil_append] at k0
  have K0 := Lib.hid k0
  clear k0
  clear Rx he
  obtain ⟨L, eL⟩ : ∃ X, listS Tx = X := ⟨_, rfl⟩
  have hLv : ∀ q ∈ L, vrect q = true := by
    intro q hq
    rw [← eL] at hq
    unfold listS at hq
    obtain ⟨z, _, rfl⟩ := List.mem_map.1 hq
    exact oneS_valid _ _ _ _
  have hLl : L.length ≤ 6 := by
    rw [← eL]
    unfold listS
    rw [List.length_map, List.length_take]
    have := Lx.out
    omega
  obtain ⟨A, eA, oA, eA2, aA⟩ := canon_facts L hLv hLl
  have EL := Lib.hid eL
  have EA := Lib.hid eA
  have OA := Lib.hid oA
  have EA2 := Lib.hid eA2
  have HV := Lib.hid hLv
  have HA := Lib.hid aA
  have IW := Lib.hid iw
  have IC := Lib.hid ic
  have IA := Lib.hid ia
  clear eL eA oA eA2 hLv aA iw ic ia Lx
  go_enter Tryd.func4, Tryd.ntmps4
  go_wp2_with fail
  refine (sane_at K0.out).mono ?_
  rintro e w1 ⟨rfl, k1⟩
  have K1 := Lib.hid k1
  clear k1
  clear K0
  go_wp2_with fail
  refine (list_at K1.out (K1.out.all 0 _ _ rfl) Ix.out EL.out).mono ?_
  rintro e w2 ⟨r2, rfl, k2⟩
  simp only [List.nil_append, List.cons_append] at k2
  have K2 := Lib.hid k2
  clear k2
  clear K1
  go_wp2_with fail
  refine (of_at K2.out 1 0 EA.out rfl).mono ?_
  rintro e w3 ⟨r3, rfl, k3⟩
  simp only [List.nil_append, List.cons_append] at k3
  have K3 := Lib.hid k3
  clear k3
  clear K2
  go_wp2_with fail
  refine (valid_at K3.out 2 true OA.out rfl).mono ?_
  rintro e w4 ⟨rfl, k4⟩
  have K4 := Lib.hid k4
  clear k4
  clear K3
  go_wp2_with fail
  refine (of_at K4.out 2 0 EA2.out rfl).mono ?_
  rintro e w5 ⟨r5, rfl, k5⟩
  simp only [List.nil_append, List.cons_append] at k5
  have K5 := Lib.hid k5
  clear k5
  clear K4
  obtain ⟨sL, cL, vL, lL, mL, _⟩ := (K5.out.all 1 _ _ rfl).opened
  subst vL
  obtain ⟨n, hn⟩ : ∃ n, n = L.length := ⟨_, rfl⟩
  rw [← hn] at K5 lL hLl ⊢
  have HN := Lib.hid hn
  clear hn
  unfold maxLen at mL
  rcases n with _ | n'
  · clear lL mL
    go_wp2_with fail
    refine (same_at K5.out 3 2 true (by simp) rfl rfl).mono ?_
    rintro e w6 ⟨rfl, k6⟩
    have K6 := Lib.hid k6
    clear k6
    clear K5
    go_wp2_with fail
    refine (same_at K6.out 3 2 true (by simp) rfl rfl).mono ?_
    rintro e w7 ⟨rfl, k7⟩
    have K7 := Lib.hid k7
    clear k7
    clear K6
    go_wp2
    go_ret
    exact ⟨ret_bool (by simp), K7.out.below⟩
  · have hz0 : (((n' + 1 : Nat) : Int) == 0) = false := by simp; omega
    go_wp2_with fail
    refine (same_at K5.out 3 2 true (by simp) rfl rfl).mono ?_
    rintro e w6 ⟨rfl, k6⟩
    have K6 := Lib.hid k6
    clear k6
    clear K5
    obtain ⟨n, hnn⟩ : ∃ n, n = n' + 1 := ⟨_, rfl⟩
    rw [← hnn] at K6 lL hLl HN ⊢
    have hn1 : 1 ≤ n := by omega
    clear hnn hz0
    have hz0 : ((n : Int) == 0) = false := by simp; omega
    have HR := Lib.hid (RS.at (K6.out.all 1 _ _ rfl))
    have fm : IntKind.i64.wrap ((n : Int) - 1) = (n : Int) - 1 := IntWalk.i64_in _ (by omega)
    go_wp2_with fail
    go_loopw [15, 16] (fun m i wr => ∃ j : Nat, j ≤ n ∧ i = .int .i64 ((j : Int) - 1) ∧ Hid (OwnR wr w6.heap.size m (L.reverse.take (n - j))) ∧ Below w6.heap.size w6 wr) (fun m i wr => (intOf i + 1).toNat)
    case atStart => exact ⟨n, by omega, rfl, Lib.hid (by rw [Nat.sub_self]; exact OwnR.nil _ _), Below.refl _ _⟩
    case round =>
      obtain ⟨j, hj, rfl, hown, hB⟩ := hrel
      rcases j with _ | j
      · have hgo : decide ((((0 : Nat) : Int) - 1) ≥ 0) = false := by decide
        have hO := hown.out
        rw [Nat.sub_zero, List.take_of_length_le (by rw [List.length_reverse, HN.out]; exact Nat.le_refl _)] at hO
        have HO := Lib.hid hO
        clear hown hO
        obtain ⟨a, ha⟩ := Int.eq_ofNat_of_zero_le (pickS_rng again n (by omega)).1
        have ha2 := (pickS_rng again n (by omega)).2
        have HPA := Lib.hid ha
        rw [ha] at ha2
        have ha3 : a < n := by omega
        obtain ⟨q, eq⟩ : ∃ q, L[a]? = some q := ⟨_, List.getElem?_eq_getElem (by rw [← HN.out]; exact ha3)⟩
        obtain ⟨bL, off, rfl, hbL, c1, c2, c3, c4⟩ := HR.out a q eq
        have EQ := Lib.hid eq
        clear eq ha
        have d1 := cell_keepB hB hbL c1
        have d2 := cell_keepB hB hbL c2
        have d3 := cell_keepB hB hbL c3
        have d4 := cell_keepB hB hbL c4
        clear c1 c2 c3 c4
        go_wp2_with fail
        refine (pick_any again n _ IA.out (by omega) (by omega)).mono ?_
        rintro e wp ⟨rfl, rfl⟩
        rw [HPA.out]
        go_wp2_with (at_builtin; refine wpList_append_rect (.tmp 85) (.tmp 93) w6.heap.size _ L.reverse wr.heap.size q (OwnE.alloc HO.out _) (by rw [List.length_reverse, ← HN.out]; omega) (by have := hB.size; simp; omega) (heap_alloc_new _ _) rfl rfl rfl rfl ?_)
        intro v' w2 hown2 hg2
        have hB2 := below_own (hB.alloc hB.size _) (OwnE.alloc HO.out _) hg2 (Nat.le_refl _)
        obtain ⟨gb, cap, rfl, hgb, hgs, hcap, hcm, ⟨cur, hcur⟩, hcells⟩ := OwnR.form hown2 (by simp)
        have hlen : (L.reverse ++ [q]).length = n + 1 := by simp [HN.out]
        obtain ⟨M, hM⟩ : ∃ M, M = L.reverse ++ [q] := ⟨_, rfl⟩
        rw [← hM] at hown2 hcells hlen hcap
        rw [← hM, hlen]
        have HM := Lib.hid hM
        clear hM d1 d2 d3 d4 hg2
        obtain ⟨k, hk⟩ := Int.eq_ofNat_of_zero_le (pickS_rng which ((n + 1 : Nat) : Int) (by omega)).1
        have hk2 := (pickS_rng which ((n + 1 : Nat) : Int) (by omega)).2
        have HPK := Lib.hid hk
        rw [hk] at hk2
        have hk3 : k < n + 1 := by omega
        obtain ⟨r, er⟩ : ∃ r, M[k]? = some r := ⟨_, List.getElem?_eq_getElem (by rw [hlen]; exact hk3)⟩
        obtain ⟨c1, c2, c3, c4⟩ := hcells k r er
        have ER := Lib.hid er
        clear er hk hcells
        have HLEN := Lib.hid hlen
        clear hlen hcur
        rw [HLEN.out] at hcap
        have HO2 := Lib.hid (show OwnR w2 w6.heap.size (.slice (some ⟨gb, 0, none⟩) (n + 1) cap) M from by rw [HLEN.out] at hown2; exact hown2)
        clear hown2
        have hvr : vrect r = true := by
          have h1 := ER.out
          rw [HM.out] at h1
          rcases List.mem_append.1 (List.mem_of_getElem? h1) with h2 | h2
          · exact HV.out r (List.mem_reverse.1 h2)
          · rw [List.mem_singleton] at h2
            subst h2
            exact HV.out _ (List.mem_of_getElem? EQ.out)
        have HVR := Lib.hid hvr
        obtain ⟨q1, q2, q3, q4, q5, q6⟩ := (vrect_iff r).1 hvr
        clear hvr
        have HB2 := Lib.hid hB2
        clear hB2 hB
        go_wp2_with fail
        refine (pick_any which ((n + 1 : Nat) : Int) _ IW.out (by omega) (by omega)).mono ?_
        rintro e wp ⟨rfl, rfl⟩
        rw [HPK.out]
        go_wp2_with fail
        have hbx : Hid (Boxes w6 (((w2.alloc (.cells #[.int .i64 r.l, .int .i64 r.r, .int .i64 r.lo, .int .i64 r.hi] 36)).alloc (.cells #[.int .i64 r.l, .int .i64 r.r, .int .i64 r.lo, .int .i64 r.hi] 36)).alloc (.cells #[.int .i64 r.l, .int .i64 r.r, .int .i64 r.lo, .int .i64 r.hi] 36)) w2.heap.size gb (n + 1) cap M r r r) := Lib.hid (Boxes.start (w0 := w6) (w := w2) r HO2.out hgs HB2.out)
        generalize (((w2.alloc (.cells #[.int .i64 r.l, .int .i64 r.r, .int .i64 r.lo, .int .i64 r.hi] 36)).alloc (.cells #[.int .i64 r.l, .int .i64 r.r, .int .i64 r.lo, .int .i64 r.hi] 36)).alloc (.cells #[.int .i64 r.l, .int .i64 r.r, .int .i64 r.lo, .int .i64 r.hi] 36)) = WX at *
        have HB3 := Lib.hid hbx.out.below
        clear c1 c2 c3 c4 HO2 HB2
        generalize w2.heap.size = bb at *
        refine (pick_any cut 2 _ IC.out (by omega) (by omega)).mono ?_
        rintro e wp ⟨rfl, rfl⟩
        generalize pickS cut 2 = pc at *
        by_cases hpc : pc = 0
        · subst hpc
          obtain ⟨u, hu⟩ : ∃ u, pickS (cut.tdiv 2) (r.r - r.l) = u := ⟨_, rfl⟩
          have hu2 := pickS_rng (cut.tdiv 2) (r.r - r.l) (by omega)
          rw [hu] at hu2
          obtain ⟨u1, u2⟩ := hu2
          have HU := Lib.hid hu
          obtain ⟨v, hv⟩ : ∃ v, pickS (cut.tdiv 4) (r.l + 1 + u - r.l) = v := ⟨_, rfl⟩
          have hv2 := pickS_rng (cut.tdiv 4) (r.l + 1 + u - r.l) (by omega)
          rw [hv] at hv2
          obtain ⟨v1, v2⟩ := hv2
          have HV2 := Lib.hid hv
          clear hu hv
          have HC1 := Lib.hid (cut_hor r u v HVR.out ⟨u1, u2⟩ ⟨v1, v2⟩)
          obtain ⟨c0, c1, c2, c3, _⟩ := box_cells hbx.out.r
          obtain ⟨_, _, _, _, cf⟩ := box_cells hbx.out.one
          have cf := cf 1
          have I2 := Lib.hid (tdiv_i64 cut 2 IC.out (by omega))
          have I4 := Lib.hid (tdiv_i64 cut 4 IC.out (by omega))
          have f1 : IntKind.i64.wrap (r.l + 1) = r.l + 1 := IntWalk.i64_in _ (by omega)
          have f2 : IntKind.i64.wrap (cut.tdiv 2) = cut.tdiv 2 := IntWalk.i64_in _ ⟨I2.out.1, I2.out.2⟩
          have f3 : IntKind.i64.wrap (r.r - r.l) = r.r - r.l := IntWalk.i64_in _ (by omega)
          have f4 : IntKind.i64.wrap (r.l + 1 + u) = r.l + 1 + u := IntWalk.i64_in _ (by omega)
          have g2 : IntKind.i64.wrap (cut.tdiv 4) = cut.tdiv 4 := IntWalk.i64_in _ ⟨I4.out.1, I4.out.2⟩
          have g3 : IntKind.i64.wrap (r.l + 1 + u - r.l) = r.l + 1 + u - r.l := IntWalk.i64_in _ (by omega)
          have g4 : IntKind.i64.wrap (r.l + v) = r.l + v := IntWalk.i64_in _ (by omega)
          go_wp2_with fail
          refine wp_region_quiet_tail 13 (fun w' => ∃ n, w' = WX.drewN n) (by kernel_rfl) (by kernel_rfl) ⟨1, rfl⟩ ?_
          simp only [List.take_succ_cons, List.take_zero, List.drop_succ_cons, List.drop_zero]
          repeat (go_big_quiet_step ((go_at_call 11; exact Calls.quiet_of_same (pick_to _ _ u _ I2.out (by omega) (by omega) HU.out))))
          refine wpQuiet_nil ?_
          rintro _ ⟨nq, rfl⟩
          go_wp2_with fail
          have hby : Hid (Boxes w6 ((WX.drewN nq).setCell ⟨bb + 1, 1, none⟩ (.int .i64 (r.l + 1 + u))) bb gb (n + 1) cap M r ⟨r.l, r.l + 1 + u, r.lo, r.hi⟩ r) := Lib.hid ((hbx.out.drewN nq).setOne 1 (r.l + 1 + u) ⟨r.l, r.l + 1 + u, r.lo, r.hi⟩ rfl)
          generalize ((WX.drewN nq).setCell ⟨bb + 1, 1, none⟩ (.int .i64 (r.l + 1 + u))) = WY at *
          clear hbx c0 c1 c2 c3 cf f1 f2 f3 f4 HU I2
          obtain ⟨c0, c1, c2, c3, _⟩ := box_cells hby.out.r
          obtain ⟨d0, d1, d2, d3, _⟩ := box_cells hby.out.one
          obtain ⟨_, _, _, _, cf⟩ := box_cells hby.out.two
          have cf := cf 0
          refine wp_region_quiet_tail 12 (fun w' => ∃ n, w' = WY.drewN n) (by kernel_rfl) (by kernel_rfl) ⟨1, rfl⟩ ?_
          simp only [List.take_succ_cons, List.take_zero, List.drop_succ_cons, List.drop_zero]
          repeat (go_big_quiet_step ((go_at_call 11; exact Calls.quiet_of_same (pick_to _ _ v _ I4.out (by omega) (by omega) HV2.out))))
          refine wpQuiet_nil ?_
          rintro _ ⟨nr, rfl⟩
          obtain ⟨p0, p1, p2, p3⟩ := own_cells hby.out.own ER.out
          have z0 := own_frozen hby.out.own (k * 4)
          have z1 := own_frozen hby.out.own (k * 4 + 1)
          have z2 := own_frozen hby.out.own (k * 4 + 2)
          have z3 := own_frozen hby.out.own (k * 4 + 3)
          obtain ⟨e0, e1, e2, e3, _⟩ := box_cells hby.out.two
          have hbz : Hid (Boxes w6 ((WY.drewN nr).setCell ⟨bb + 1 + 1, 0, none⟩ (.int .i64 (r.l + v))) bb gb (n + 1) cap M r ⟨r.l, r.l + 1 + u, r.lo, r.hi⟩ ⟨r.l + v, r.r, r.lo, r.hi⟩) := Lib.hid ((hby.out.drewN nr).setTwo 0 (r.l + v) ⟨r.l + v, r.r, r.lo, r.hi⟩ rfl)
          clear hby c0 c1 c2 c3
          have hlk : k < M.length := by rw [HLEN.out]; exact hk3
          obtain ⟨X, hX⟩ : ∃ X, X = ((((((WY.drewN nr).setCell ⟨bb + 1 + 1, 0, none⟩ (.int .i64 (r.l + v))).setCell ⟨gb, k * 4, none⟩ (.int .i64 (r.l))).setCell ⟨gb, k * 4 + 1, none⟩ (.int .i64 (r.l + 1 + u))).setCell ⟨gb, k * 4 + 2, none⟩ (.int .i64 (r.lo))).setCell ⟨gb, k * 4 + 3, none⟩ (.int .i64 (r.hi))) := ⟨_, rfl⟩
          have hXs : X.heap.size = WY.heap.size := by rw [hX]; simp [World.setCell]
          have hbw : Hid (Boxes w6 X bb gb (n + 1) cap (M.set k ⟨r.l, r.l + 1 + u, r.lo, r.hi⟩) r ⟨r.l, r.l + 1 + u, r.lo, r.hi⟩ ⟨r.l + v, r.r, r.lo, r.hi⟩) := Lib.hid (by rw [hX]; exact hbz.out.put k hlk ⟨r.l, r.l + 1 + u, r.lo, r.hi⟩)
          have HXs := Lib.hid hXs
          have HX := Lib.hid hX
          clear hbz hlk hX hXs
          have HZ : Hid (ofS (M.set k ⟨r.l, r.l + 1 + u, r.lo, r.hi⟩ ++ [⟨r.l + v, r.r, r.lo, r.hi⟩]) = (A, 0) ∧ minusS A A = ([], 0)) := Lib.hid (by
            rw [HM.out]
            exact canon_end L A HV.out (by rw [← HN.out]; exact hLl) HA.out a k q r ⟨r.l, r.l + 1 + u, r.lo, r.hi⟩ ⟨r.l + v, r.r, r.lo, r.hi⟩ EQ.out (by rw [← HM.out]; exact ER.out) HC1.out.1 HC1.out.2.1 HC1.out.2.2)
          go_wp2_with (at_builtin; rw [← HX.out]; refine wpList_append_rect (.tmp 162) (.tmp 164) w6.heap.size _ (M.set k ⟨r.l, r.l + 1 + u, r.lo, r.hi⟩) WY.heap.size ⟨r.l + v, r.r, r.lo, r.hi⟩ (OwnE.alloc hbw.out.own _) (by rw [List.length_set, HLEN.out]; omega) (by have := hbw.out.below.size; simp only [World.size_alloc]; omega) (alloc_new_at _ _ _ HXs.out) rfl rfl rfl rfl ?_)
          intro v' w7 hown7 hg7
          have hB7 := below_own (hbw.out.below.alloc hbw.out.below.size _) (OwnE.alloc hbw.out.own _) hg7 (Nat.le_refl _)
          have k8 := (K6.out.step hB7).put (OwnR.rs hown7)
          simp only [List.nil_append, List.cons_append] at k8
          generalize M.set k ⟨r.l, r.l + 1 + u, r.lo, r.hi⟩ ++ [⟨r.l + v, r.r, r.lo, r.hi⟩] = Z at *
          have K8 := Lib.hid k8
          clear k8 hown7 hg7 hbw hB7 d0 d1 d2 d3 p0 p1 p2 p3 z0 z1 z2 z3 e0 e1 e2 e3 cf g2 g3 g4 HC1
          go_wp2_with fail
          refine (of_at K8.out 4 0 HZ.out.1 rfl).mono ?_
          rintro e w9 ⟨r9, rfl, k9⟩
          simp only [List.nil_append, List.cons_append] at k9
          have K9 := Lib.hid k9
          clear k9
          clear K8
          go_wp2_with fail
          refine (minus_at K9.out 2 5 0 HZ.out.2 rfl rfl).mono ?_
          rintro e w10 ⟨r10, rfl, k10⟩
          simp only [List.nil_append, List.cons_append] at k10
          have K10 := Lib.hid k10
          clear k10
          clear K9
          obtain ⟨sM, cM, vM, _, _, _⟩ := (K10.out.all 6 _ _ rfl).opened
          subst vM
          go_wp2_with fail
          refine (same_at K10.out 2 5 true (by simp) rfl rfl).mono ?_
          rintro e w11 ⟨rfl, k11⟩
          have K11 := Lib.hid k11
          clear k11
          clear K10
          go_wp2
          go_ret
          exact ⟨ret_bool (by simp), K11.out.below⟩
        · have hpc2 : (pc == 0) = false := by simpa using hpc
          obtain ⟨u, hu⟩ : ∃ u, pickS (cut.tdiv 2) (r.hi - r.lo) = u := ⟨_, rfl⟩
          have hu2 := pickS_rng (cut.tdiv 2) (r.hi - r.lo) (by omega)
          rw [hu] at hu2
          obtain ⟨u1, u2⟩ := hu2
          have HU := Lib.hid hu
          obtain ⟨v, hv⟩ : ∃ v, pickS (cut.tdiv 4) (r.lo + 1 + u - r.lo) = v := ⟨_, rfl⟩
          have hv2 := pickS_rng (cut.tdiv 4) (r.lo + 1 + u - r.lo) (by omega)
          rw [hv] at hv2
          obtain ⟨v1, v2⟩ := hv2
          have HV2 := Lib.hid hv
          clear hu hv
          have HC1 := Lib.hid (cut_ver r u v HVR.out ⟨u1, u2⟩ ⟨v1, v2⟩)
          obtain ⟨c0, c1, c2, c3, _⟩ := box_cells hbx.out.r
          obtain ⟨_, _, _, _, cf⟩ := box_cells hbx.out.one
          have cf := cf 3
          have I2 := Lib.hid (tdiv_i64 cut 2 IC.out (by omega))
          have I4 := Lib.hid (tdiv_i64 cut 4 IC.out (by omega))
          have f1 : IntKind.i64.wrap (r.lo + 1) = r.lo + 1 := IntWalk.i64_in _ (by omega)
          have f2 : IntKind.i64.wrap (cut.tdiv 2) = cut.tdiv 2 := IntWalk.i64_in _ ⟨I2.out.1, I2.out.2⟩
          have f3 : IntKind.i64.wrap (r.hi - r.lo) = r.hi - r.lo := IntWalk.i64_in _ (by omega)
          have f4 : IntKind.i64.wrap (r.lo + 1 + u) = r.lo + 1 + u := IntWalk.i64_in _ (by omega)
          have g2 : IntKind.i64.wrap (cut.tdiv 4) = cut.tdiv 4 := IntWalk.i64_in _ ⟨I4.out.1, I4.out.2⟩
          have g3 : IntKind.i64.wrap (r.lo + 1 + u - r.lo) = r.lo + 1 + u - r.lo := IntWalk.i64_in _ (by omega)
          have g4 : IntKind.i64.wrap (r.lo + v) = r.lo + v := IntWalk.i64_in _ (by omega)
          go_wp2_with fail
          refine wp_region_quiet_tail 13 (fun w' => ∃ n, w' = WX.drewN n) (by kernel_rfl) (by kernel_rfl) ⟨1, rfl⟩ ?_
          simp only [List.take_succ_cons, List.take_zero, List.drop_succ_cons, List.drop_zero]
          repeat (go_big_quiet_step ((go_at_call 11; exact Calls.quiet_of_same (pick_to _ _ u _ I2.out (by omega) (by omega) HU.out))))
          refine wpQuiet_nil ?_
          rintro _ ⟨nq, rfl⟩
          go_wp2_with fail
          have hby : Hid (Boxes w6 ((WX.drewN nq).setCell ⟨bb + 1, 3, none⟩ (.int .i64 (r.lo + 1 + u))) bb gb (n + 1) cap M r ⟨r.l, r.r, r.lo, r.lo + 1 + u⟩ r) := Lib.hid ((hbx.out.drewN nq).setOne 3 (r.lo + 1 + u) ⟨r.l, r.r, r.lo, r.lo + 1 + u⟩ rfl)
          generalize ((WX.drewN nq).setCell ⟨bb + 1, 3, none⟩ (.int .i64 (r.lo + 1 + u))) = WY at *
          clear hbx c0 c1 c2 c3 cf f1 f2 f3 f4 HU I2
          obtain ⟨c0, c1, c2, c3, _⟩ := box_cells hby.out.r
          obtain ⟨d0, d1, d2, d3, _⟩ := box_cells hby.out.one
          obtain ⟨_, _, _, _, cf⟩ := box_cells hby.out.two
          have cf := cf 2
          refine wp_region_quiet_tail 12 (fun w' => ∃ n, w' = WY.drewN n) (by kernel_rfl) (by kernel_rfl) ⟨1, rfl⟩ ?_
          simp only [List.take_succ_cons, List.take_zero, List.drop_succ_cons, List.drop_zero]
          repeat (go_big_quiet_step ((go_at_call 11; exact Calls.quiet_of_same (pick_to _ _ v _ I4.out (by omega) (by omega) HV2.out))))
          refine wpQuiet_nil ?_
          rintro _ ⟨nr, rfl⟩
          obtain ⟨p0, p1, p2, p3⟩ := own_cells hby.out.own ER.out
          have z0 := own_frozen hby.out.own (k * 4)
          have z1 := own_frozen hby.out.own (k * 4 + 1)
          have z2 := own_frozen hby.out.own (k * 4 + 2)
          have z3 := own_frozen hby.out.own (k * 4 + 3)
          obtain ⟨e0, e1, e2, e3, _⟩ := box_cells hby.out.two
          have hbz : Hid (Boxes w6 ((WY.drewN nr).setCell ⟨bb + 1 + 1, 2, none⟩ (.int .i64 (r.lo + v))) bb gb (n + 1) cap M r ⟨r.l, r.r, r.lo, r.lo + 1 + u⟩ ⟨r.l, r.r, r.lo + v, r.hi⟩) := Lib.hid ((hby.out.drewN nr).setTwo 2 (r.lo + v) ⟨r.l, r.r, r.lo + v, r.hi⟩ rfl)
          clear hby c0 c1 c2 c3
          have hlk : k < M.length := by rw [HLEN.out]; exact hk3
          obtain ⟨X, hX⟩ : ∃ X, X = ((((((WY.drewN nr).setCell ⟨bb + 1 + 1, 2, none⟩ (.int .i64 (r.lo + v))).setCell ⟨gb, k * 4, none⟩ (.int .i64 (r.l))).setCell ⟨gb, k * 4 + 1, none⟩ (.int .i64 (r.r))).setCell ⟨gb, k * 4 + 2, none⟩ (.int .i64 (r.lo))).setCell ⟨gb, k * 4 + 3, none⟩ (.int .i64 (r.lo + 1 + u))) := ⟨_, rfl⟩
          have hXs : X.heap.size = WY.heap.size := by rw [hX]; simp [World.setCell]
          have hbw : Hid (Boxes w6 X bb gb (n + 1) cap (M.set k ⟨r.l, r.r, r.lo, r.lo + 1 + u⟩) r ⟨r.l, r.r, r.lo, r.lo + 1 + u⟩ ⟨r.l, r.r, r.lo + v, r.hi⟩) := Lib.hid (by rw [hX]; exact hbz.out.put k hlk ⟨r.l, r.r, r.lo, r.lo + 1 + u⟩)
          have HXs := Lib.hid hXs
          have HX := Lib.hid hX
          clear hbz hlk hX hXs
          have HZ : Hid (ofS (M.set k ⟨r.l, r.r, r.lo, r.lo + 1 + u⟩ ++ [⟨r.l, r.r, r.lo + v, r.hi⟩]) = (A, 0) ∧ minusS A A = ([], 0)) := Lib.hid (by
            rw [HM.out]
            exact canon_end L A HV.out (by rw [← HN.out]; exact hLl) HA.out a k q r ⟨r.l, r.r, r.lo, r.lo + 1 + u⟩ ⟨r.l, r.r, r.lo + v, r.hi⟩ EQ.out (by rw [← HM.out]; exact ER.out) HC1.out.1 HC1.out.2.1 HC1.out.2.2)
          go_wp2_with (at_builtin; rw [← HX.out]; refine wpList_append_rect (.tmp 162) (.tmp 164) w6.heap.size _ (M.set k ⟨r.l, r.r, r.lo, r.lo + 1 + u⟩) WY.heap.size ⟨r.l, r.r, r.lo + v, r.hi⟩ (OwnE.alloc hbw.out.own _) (by rw [List.length_set, HLEN.out]; omega) (by have := hbw.out.below.size; simp only [World.size_alloc]; omega) (alloc_new_at _ _ _ HXs.out) rfl rfl rfl rfl ?_)
          intro v' w7 hown7 hg7
          have hB7 := below_own (hbw.out.below.alloc hbw.out.below.size _) (OwnE.alloc hbw.out.own _) hg7 (Nat.le_refl _)
          have k8 := (K6.out.step hB7).put (OwnR.rs hown7)
          simp only [List.nil_append, List.cons_append] at k8
          generalize M.set k ⟨r.l, r.r, r.lo, r.lo + 1 + u⟩ ++ [⟨r.l, r.r, r.lo + v, r.hi⟩] = Z at *
          have K8 := Lib.hid k8
          clear k8 hown7 hg7 hbw hB7 d0 d1 d2 d3 p0 p1 p2 p3 z0 z1 z2 z3 e0 e1 e2 e3 cf g2 g3 g4 HC1
          go_wp2_with fail
          refine (of_at K8.out 4 0 HZ.out.1 rfl).mono ?_
          rintro e w9 ⟨r9, rfl, k9⟩
          simp only [List.nil_append, List.cons_append] at k9
          have K9 := Lib.hid k9
          clear k9
          clear K8
          go_wp2_with fail
          refine (minus_at K9.out 2 5 0 HZ.out.2 rfl rfl).mono ?_
          rintro e w10 ⟨r10, rfl, k10⟩
          simp only [List.nil_append, List.cons_append] at k10
          have K10 := Lib.hid k10
          clear k10
          clear K9
          obtain ⟨sM, cM, vM, _, _, _⟩ := (K10.out.all 6 _ _ rfl).opened
          subst vM
          go_wp2_with fail
          refine (same_at K10.out 2 5 true (by simp) rfl rfl).mono ?_
          rintro e w11 ⟨rfl, k11⟩
          have K11 := Lib.hid k11
          clear k11
          clear K10
          go_wp2
          go_ret
          exact ⟨ret_bool (by simp), K11.out.below⟩
      · obtain ⟨q, eq⟩ : ∃ q, L[j]? = some q := ⟨_, List.getElem?_eq_getElem (by rw [← HN.out]; omega)⟩
        have ej : (((j + 1 : Nat) : Int) - 1) = (j : Int) := by omega
        rw [ej]
        have hgo : decide ((j : Int) ≥ 0) = true := by simp
        obtain ⟨bL, off, rfl, hbL, c1, c2, c3, c4⟩ := HR.out j q eq
        have EQ := Lib.hid eq
        clear eq ej
        have d1 := cell_keepB hB hbL c1
        have d2 := cell_keepB hB hbL c2
        have d3 := cell_keepB hB hbL c3
        have d4 := cell_keepB hB hbL c4
        clear c1 c2 c3 c4
        go_wp2_with (at_builtin; refine wpList_append_rect (.tmp 78) (.tmp 83) w6.heap.size _ (L.reverse.take (n - (j + 1))) wr.heap.size q (OwnE.alloc hown.out _) (by rw [List.length_take]; omega) (by have := hB.size; simp; omega) (heap_alloc_new _ _) rfl rfl rfl rfl ?_)
        intro v' w2 hown2 hg2
        have HB2 := Lib.hid (below_own (hB.alloc hB.size _) (OwnE.alloc hown.out _) hg2 (Nat.le_refl _))
        have HO2 := Lib.hid hown2
        clear hown2 hg2
        go_wp2
        go_roundw
        case rel => exact ⟨j, by omega, rfl, Lib.hid (by rw [rev_take L n j q HN.out EQ.out]; exact HO2.out), HB2.out⟩
        case measure => simp [intOf]
end Go.Proofs.YtbpkfpkhnkcgkaaDoorR
