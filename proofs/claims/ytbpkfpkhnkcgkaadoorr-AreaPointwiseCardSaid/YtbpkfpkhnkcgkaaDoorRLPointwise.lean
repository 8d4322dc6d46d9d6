/- AreaPointwise: the walk of the law. The conditions: what the slices read as, the table of bits.TrailingZeros64. -/
import Derived.Test.YtbpkfpkhnkcgkaaDoorRWSane
import Derived.Test.YtbpkfpkhnkcgkaaDoorRPA7
import Derived.Test.YtbpkfpkhnkcgkaaDoorRPts
import Derived.Test.YtbpkfpkhnkcgkaaDoorRLate
import Derived.Test.YtbpkfpkhnkcgkaaDoorRLex
namespace Go.Proofs.YtbpkfpkhnkcgkaaDoorR
open Go.RowKit Go.BigFrame

theorem RS.at {w : World} {a : Option Addr} {n cap : Nat} {xs : List R4} (h : RS w (.slice a n cap) xs) : ∀ k x, xs[k]? = some x → ∃ b off, a = some ⟨b, off, none⟩ ∧ b < w.heap.size ∧ RAt w b (off + k * 4) x := by
  obtain ⟨a', cap', hv, _, _, h3⟩ := h.opened
  cases hv
  exact h3
theorem pick_at (c n v : Int) (w : World) (hc : I64 c) (hn : 0 < n) (hn' : n ≤ 9223372036854775807) (hv : pickS c n = v) :
    Calls Tryd.prog 11 #[.int .i64 c, .int .i64 n] w fun e w' => e = .returned (.int .i64 v) ∧ w = w' :=
  (pick_any c n w hc hn hn').mono fun _ _ ⟨h1, h2⟩ => ⟨by rw [h1, hv], h2⟩
theorem pick_to (c n v : Int) (w : World) (hc : I64 c) (hn : 0 < n) (hn' : n ≤ 9223372036854775807) (hv : pickS c n = v) :
    Calls Tryd.prog 11 #[.int .i64 c, .int .i64 n] w fun e w' => e = .returned (.int .i64 v) ∧ w' = w :=
  (pick_any c n w hc hn hn').mono fun _ _ ⟨h1, h2⟩ => ⟨by rw [h1, hv], h2.symm⟩
theorem pick_ex (c n : Int) (hn : 0 < n) : ∃ v, pickS c n = v ∧ 0 ≤ v ∧ v < n := ⟨_, rfl, (pickS_rng c n hn).1, (pickS_rng c n hn).2⟩
theorem near_at {w0 w : World} {ls : List (Value × List R4)} {v : Value} {xs : List R4} (k : Know w0 w ls) (i : Nat) (x y d : Int) (hd : 0 ≤ d ∧ d ≤ 64) (hv : ∀ q ∈ xs, vrect q = true) (hi : ls[i]? = some (v, xs)) :
    Calls Tryd.prog 19 #[v, .int .i64 x, .int .i64 y, .int .i64 d] w (Says w0 ls (.bool (xs.any (nearR x y d)))) :=
  (near_any x y d (k.all i _ _ hi) hv hd).mono fun _ _ ⟨he, hb⟩ => ⟨he, k.step hb⟩
theorem Know.rebase {w0 w : World} {ls : List (Value × List R4)} (k : Know w0 w ls) : Know w w ls := ⟨Below.refl _ _, k.env, k.all⟩

set_option maxHeartbeats 12000000 in
set_option maxRecDepth 100000 in
theorem pointwise_law {w : World} {vx vy : Value} {xs ys : List R4} (px py d : Int) (hx : RS w vx xs) (hy : RS w vy ys) (ix : ∀ q ∈ xs, Int4 q) (iy : ∀ q ∈ ys, Int4 q) (ipx : I64 px) (ipy : I64 py) (id : I64 d) (he : Env w) :
    Calls Tryd.prog 3 #[vx, vy, .int .i64 px, .int .i64 py, .int .i64 d] w fun e w' => e = .returned (.bool true) ∧ Below w.heap.size w w' := by
  obtain ⟨ax, cx, rfl, lx, mx, _⟩ := hx.opened
  unfold maxLen at mx
  obtain ⟨nx, hnx⟩ : ∃ n, n = xs.length := ⟨_, rfl⟩
  rw [← hnx] at lx hx ⊢
  obtain ⟨tx, tx1, tx2, tx3⟩ : ∃ t : Nat, t ≤ nx ∧ t ≤ 3 ∧ (if (3 : Int) < (nx : Int) then 3 else (nx : Int)) = (t : Int) := cut_min nx 3
  have Rx := hx.cut tx tx1
  have Ix := Lib.hid (fun q (hq : q ∈ xs.take tx) => ix q (List.mem_of_mem_take hq))
  have Lx := Lib.hid (show (xs.take tx).length ≤ 3 from by rw [List.length_take]; omega)
  generalize xs.take tx = Tx at *
  clear hx ix hnx
  obtain ⟨ay, cy, rfl, ly, my, _⟩ := hy.opened
  unfold maxLen at my
  obtain ⟨ny, hny⟩ : ∃ n, n = ys.length := ⟨_, rfl⟩
  rw [← hny] at ly hy ⊢
  obtain ⟨ty, ty1, ty2, ty3⟩ : ∃ t : Nat, t ≤ ny ∧ t ≤ 3 ∧ (if (3 : Int) < (ny : Int) then 3 else (ny : Int)) = (t : Int) := cut_min ny 3
  have Ry := hy.cut ty ty1
  have Iy := Lib.hid (fun q (hq : q ∈ ys.take ty) => iy q (List.mem_of_mem_take hq))
  have Ly := Lib.hid (show (ys.take ty).length ≤ 3 from by rw [List.length_take]; omega)
  generalize ys.take ty = Ty at *
  clear hy iy hny
  have k0 := ((Know.start he).put Rx).put Ry
  simp only [List.nil_append, List.cons_append] at k0
  have K0 := Lib.hid k0
  clear k0
  clear Rx Ry he
  obtain ⟨A, eA⟩ : ∃ X, madeS Tx = X := ⟨_, rfl⟩
  have aA := made_ar Tx 3 Lx.out (by omega)
  rw [eA] at aA
  generalize madeP Tx = pA at *
  have EA := Lib.hid eA
  clear eA
  obtain ⟨B, eB⟩ : ∃ X, madeS Ty = X := ⟨_, rfl⟩
  have aB := made_ar Ty 3 Ly.out (by omega)
  rw [eB] at aB
  generalize madeP Ty = pB at *
  have EB := Lib.hid eB
  clear eB
  obtain ⟨dd, hdd, dd1, dd2⟩ := pick_ex d 6 (by omega)
  obtain ⟨dn, rfl⟩ := Int.eq_ofNat_of_zero_le dd1
  obtain ⟨U, I, M, W, f1, f2, f3, f4, f5, f6, f7, f8, f9, f10, f11, f12, f13⟩ := point_all aA aB dn (by omega)
  have Hdd := Lib.hid hdd
  have IPX := Lib.hid ipx
  have IPY := Lib.hid ipy
  have ID := Lib.hid id
  have Hf1 := Lib.hid f1
  have Hf2 := Lib.hid f2
  have Hf3 := Lib.hid f3
  have Hf4 := Lib.hid f4
  have Hf5 := Lib.hid f5
  have Hf6 := Lib.hid f6
  have Hf7 := Lib.hid f7
  have Hf8 := Lib.hid f8
  have Hf9 := Lib.hid f9
  have Hf10 := Lib.hid f10
  have Hf11 := Lib.hid f11
  have Hf12 := Lib.hid f12
  have Hf13 := Lib.hid f13
  clear aA aB hdd ipx ipy id dd1 f1 f2 f3 f4 f5 f6 f7 f8 f9 f10 f11 f12 f13
  go_enter Tryd.func3, Tryd.ntmps3
  go_wp2_with fail
  refine (sane_at K0.out).mono ?_
  rintro e w1 ⟨rfl, k1⟩
  have K1 := Lib.hid k1
  clear k1
  clear K0
  go_wp2_with fail
  refine (made_at K1.out (K1.out.all 0 _ _ rfl) Ix.out EA.out).mono ?_
  rintro e w2 ⟨r2, rfl, k2⟩
  simp only [List.nil_append, List.cons_append] at k2
  have K2 := Lib.hid k2
  clear k2
  clear K1
  go_wp2_with fail
  refine (made_at K2.out (K2.out.all 1 _ _ rfl) Iy.out EB.out).mono ?_
  rintro e w3 ⟨r3, rfl, k3⟩
  simp only [List.nil_append, List.cons_append] at k3
  have K3 := Lib.hid k3
  clear k3
  clear K2
  go_wp2_with fail
  refine (pick_at d 6 dn _ ID.out (by omega) (by omega) Hdd.out).mono ?_
  rintro e wp ⟨rfl, rfl⟩
  go_wp2_with fail
  refine (union_at K3.out 2 3 0 Hf1.out rfl rfl).mono ?_
  rintro e w4 ⟨r4, rfl, k4⟩
  simp only [List.nil_append, List.cons_append] at k4
  have K4 := Lib.hid k4
  clear k4
  clear K3
  go_wp2_with fail
  refine (common_at K4.out 2 3 0 Hf2.out rfl rfl).mono ?_
  rintro e w5 ⟨r5, rfl, k5⟩
  simp only [List.nil_append, List.cons_append] at k5
  have K5 := Lib.hid k5
  clear k5
  clear K4
  go_wp2_with fail
  refine (minus_at K5.out 2 3 0 Hf3.out rfl rfl).mono ?_
  rintro e w6 ⟨r6, rfl, k6⟩
  simp only [List.nil_append, List.cons_append] at k6
  have K6 := Lib.hid k6
  clear k6
  clear K5
  go_wp2_with fail
  refine (grow_at K6.out 2 dn 0 ⟨by omega, by omega⟩ Hf4.out rfl).mono ?_
  rintro e w7 ⟨r7, rfl, k7⟩
  simp only [List.nil_append, List.cons_append] at k7
  have K7 := Lib.hid k7
  clear k7
  clear K6
  go_wp2_with fail
  refine (valid_at K7.out 4 true Hf5.out rfl).mono ?_
  rintro e w8 ⟨rfl, k8⟩
  have K8 := Lib.hid k8
  clear k8
  clear K7
  go_wp2_with fail
  refine (valid_at K8.out 5 true Hf6.out rfl).mono ?_
  rintro e w9 ⟨rfl, k9⟩
  have K9 := Lib.hid k9
  clear k9
  clear K8
  go_wp2_with fail
  refine (valid_at K9.out 6 true Hf7.out rfl).mono ?_
  rintro e w10 ⟨rfl, k10⟩
  have K10 := Lib.hid k10
  clear k10
  clear K9
  go_wp2_with fail
  refine (valid_at K10.out 7 true Hf8.out rfl).mono ?_
  rintro e w11 ⟨rfl, k11⟩
  have K11 := Lib.hid k11
  clear k11
  clear K10
  obtain ⟨sA, cA, vA, lA, mA, _⟩ := (K11.out.all 2 _ _ rfl).opened
  subst vA
  obtain ⟨nA, hA⟩ : ∃ n, n = A.length := ⟨_, rfl⟩
  rw [← hA] at K11 lA ⊢
  have HNA := Lib.hid hA
  clear hA
  unfold maxLen at mA
  obtain ⟨sB, cB, vB, lB, mB, _⟩ := (K11.out.all 3 _ _ rfl).opened
  subst vB
  obtain ⟨nB, hB⟩ : ∃ n, n = B.length := ⟨_, rfl⟩
  rw [← hB] at K11 lB ⊢
  have HNB := Lib.hid hB
  clear hB
  unfold maxLen at mB
  obtain ⟨a1, ha1, a1l, a1u⟩ := pick_ex px 18 (by omega)
  have Ha1 := Lib.hid ha1
  clear ha1
  obtain ⟨a2, ha2, a2l, a2u⟩ := pick_ex py 18 (by omega)
  have Ha2 := Lib.hid ha2
  clear ha2
  obtain ⟨a3, ha3, a3l, a3u⟩ := pick_ex px 66 (by omega)
  have Ha3 := Lib.hid ha3
  clear ha3
  obtain ⟨a4, ha4, a4l, a4u⟩ := pick_ex py 66 (by omega)
  have Ha4 := Lib.hid ha4
  clear ha4
  go_wp2_with fail
  refine (pick_at px 18 a1 _ IPX.out (by omega) (by omega) Ha1.out).mono ?_
  rintro e wp ⟨rfl, rfl⟩
  go_wp2_with fail
  refine (pick_at py 18 a2 _ IPY.out (by omega) (by omega) Ha2.out).mono ?_
  rintro e wp ⟨rfl, rfl⟩
  go_wp2_with fail
  refine (pick_at px 66 a3 _ IPX.out (by omega) (by omega) Ha3.out).mono ?_
  rintro e wp ⟨rfl, rfl⟩
  go_wp2_with fail
  refine (pick_at py 66 a4 _ IPY.out (by omega) (by omega) Ha4.out).mono ?_
  rintro e wp ⟨rfl, rfl⟩
  have g1 : IntKind.i64.wrap (a1 - 1) = a1 - 1 := IntWalk.i64_in _ (by omega)
  have g2 : IntKind.i64.wrap (a2 - 1) = a2 - 1 := IntWalk.i64_in _ (by omega)
  have g3 : IntKind.i64.wrap (a3 - 1) = a3 - 1 := IntWalk.i64_in _ (by omega)
  have g4 : IntKind.i64.wrap (a4 - 1) = a4 - 1 := IntWalk.i64_in _ (by omega)
  go_wp2_with fail
  have HO : Hid (OwnP ((w11.alloc (.cells #[.int .i64 (a1 - 1), .int .i64 (a2 - 1), .int .i64 (a3 - 1), .int .i64 (a4 - 1)] 32)).alloc (.cells #[.slice sA nA cA, .slice sB nB cB] 24)) w11.heap.size (.slice (some ⟨w11.heap.size, 0, none⟩) 2 2) [(a1 - 1, a2 - 1), (a3 - 1, a4 - 1)]) := Lib.hid (OwnE.alloc (OwnP.lit (heap_alloc_new _ _) (Nat.le_refl _)) _)
  have HX : Hid (((w11.alloc (.cells #[.int .i64 (a1 - 1), .int .i64 (a2 - 1), .int .i64 (a3 - 1), .int .i64 (a4 - 1)] 32)).alloc (.cells #[.slice sA nA cA, .slice sB nB cB] 24)).heap[w11.heap.size + 1]? = some (.cells #[.slice sA nA cA, .slice sB nB cB] 24)) := Lib.hid (by have h := heap_alloc_new (w11.alloc (.cells #[.int .i64 (a1 - 1), .int .i64 (a2 - 1), .int .i64 (a3 - 1), .int .i64 (a4 - 1)] 32)) (.cells #[.slice sA nA cA, .slice sB nB cB] 24); simpa using h)
  have HB : Hid (Below w11.heap.size w11 ((w11.alloc (.cells #[.int .i64 (a1 - 1), .int .i64 (a2 - 1), .int .i64 (a3 - 1), .int .i64 (a4 - 1)] 32)).alloc (.cells #[.slice sA nA cA, .slice sB nB cB] 24))) := Lib.hid (((Below.refl _ _).alloc (Nat.le_refl _) _).alloc (by simp) _)
  generalize ((w11.alloc (.cells #[.int .i64 (a1 - 1), .int .i64 (a2 - 1), .int .i64 (a3 - 1), .int .i64 (a4 - 1)] 32)).alloc (.cells #[.slice sA nA cA, .slice sB nB cB] 24)) = W1 at *
  clear g1 g2 g3 g4
  go_loopw [22, 124] (fun v i wr => ∃ (j : Nat) (ps : List (Int × Int)), j ≤ 2 ∧ i = .int .i64 j ∧ Hid (OwnP wr w11.heap.size v ps) ∧ ps.length ≤ 2 + 3 * j ∧ Hid (wr.heap[w11.heap.size + 1]? = some (.cells #[.slice sA nA cA, .slice sB nB cB] 24)) ∧ Below w11.heap.size w11 wr) (fun v i wr => 2 - (intOf i).toNat)
  case atStart => exact ⟨0, _, by omega, rfl, HO, by simp, HX, HB.out⟩
  case round =>
    obtain ⟨wo, rfl⟩ : ∃ x : World, x = wr := ⟨_, rfl⟩
    obtain ⟨j, ps, hj, rfl, hO, hps, hX, hB⟩ := hrel
    clear HO HX HB
    by_cases hlt : j < 2
    · have hd5 : decide ((j : Int) < 2) = true := by simp; omega
      obtain ⟨s, n, cap, xs, hcell, hrs, hv, hln, hn, hcn⟩ : ∃ s n cap xs, wo.cell? ⟨w11.heap.size + 1, j, none⟩ = some (.slice s n cap) ∧ RS wo (.slice s n cap) xs ∧ (∀ q ∈ xs, vrect q = true) ∧ xs.length ≤ 100 ∧ n = xs.length ∧ n ≤ cap := by
        have h0 := cell_of_row wo (w11.heap.size + 1) j _ _ _ hX.out
        rcases j with _ | _ | j
        · exact ⟨sA, nA, cA, A, h0, (K11.out.all 2 _ _ rfl).below hB, Hf10.out, Hf12.out, HNA.out, lA⟩
        · exact ⟨sB, nB, cB, B, h0, (K11.out.all 3 _ _ rfl).below hB, Hf11.out, Hf13.out, HNB.out, lB⟩
        · omega
      rw [← hn] at hln
      have HRS := Lib.hid hrs
      have HV := Lib.hid hv
      have HN := Lib.hid hn
      clear hrs hv hn
      rcases n with _ | n'
      · go_wp2
        go_roundw
        case rel => exact ⟨j + 1, ps, by omega, by go_num, hO, by omega, hX, hB⟩
        case measure => simp [intOf]; omega
      · obtain ⟨n, hnn⟩ : ∃ n, n = n' + 1 := ⟨_, rfl⟩
        rw [← hnn] at hcell hln hcn HRS HN
        have hn1 : 1 ≤ n := by omega
        clear hnn
        have hgt : decide ((n : Int) > 0) = true := by simp; omega
        obtain ⟨a, ha, a1', a2'⟩ := pick_ex px n (by omega)
        obtain ⟨a, rfl⟩ := Int.eq_ofNat_of_zero_le a1'
        have HA := Lib.hid ha
        have ha3 : a < n := by omega
        obtain ⟨q, eq⟩ : ∃ q, xs[a]? = some q := ⟨_, List.getElem?_eq_getElem (by rw [← HN.out]; exact ha3)⟩
        obtain ⟨bL, off, rfl, hbL, c1, c2, c3, c4⟩ := RS.at HRS.out a q eq
        obtain ⟨q1, q2, q3, q4, q5, q6⟩ := (vrect_iff q).1 (HV.out q (List.mem_of_getElem? eq))
        clear eq ha a1'
        go_wp2_with fail
        refine (pick_at px n a _ IPX.out (by omega) (by omega) HA.out).mono ?_
        rintro e wp ⟨rfl, rfl⟩
        go_wp2_with fail
        have hszX : w11.heap.size + 1 < wo.heap.size := (Array.getElem?_eq_some_iff.1 hX.out).1
        have HO2 : Hid (OwnP (wo.alloc (.cells #[.int .i64 q.l, .int .i64 q.r, .int .i64 q.lo, .int .i64 q.hi] 36)) w11.heap.size u22 ps) := Lib.hid (OwnE.alloc hO.out _)
        have HX2 : Hid ((wo.alloc (.cells #[.int .i64 q.l, .int .i64 q.r, .int .i64 q.lo, .int .i64 q.hi] 36)).heap[w11.heap.size + 1]? = some (.cells #[.slice sA nA cA, .slice sB nB cB] 24)) := Lib.hid (by rw [Below.heap_alloc _ _ _ hszX]; exact hX.out)
        have HB2 : Hid (Below w11.heap.size w11 (wo.alloc (.cells #[.int .i64 q.l, .int .i64 q.r, .int .i64 q.lo, .int .i64 q.hi] 36))) := Lib.hid (hB.alloc hB.size _)
        have hnew := heap_alloc_new wo (.cells #[.int .i64 q.l, .int .i64 q.r, .int .i64 q.lo, .int .i64 q.hi] 36)
        have e0 := cell_of_row _ wo.heap.size 0 _ _ _ hnew
        have e1 := cell_of_row _ wo.heap.size 1 _ _ _ hnew
        have e2 := cell_of_row _ wo.heap.size 2 _ _ _ hnew
        have e3 := cell_of_row _ wo.heap.size 3 _ _ _ hnew
        simp only [List.getElem?_toArray, List.getElem?_cons_zero, List.getElem?_cons_succ] at e0 e1 e2 e3
        clear hnew c1 c2 c3 c4 hO hX hB hcell HRS
        generalize (wo.alloc (.cells #[.int .i64 q.l, .int .i64 q.r, .int .i64 q.lo, .int .i64 q.hi] 36)) = WB at *
        generalize wo.heap.size = bx at *
        obtain ⟨e, he', el, eu⟩ := pick_ex px 2 (by omega)
        obtain ⟨f, hf', fl, fu⟩ := pick_ex py 2 (by omega)
        have HE := Lib.hid he'
        have HF := Lib.hid hf'
        clear he' hf'
        have b1 : IntKind.i64.wrap (q.l - 1) = q.l - 1 := IntWalk.i64_in _ (by omega)
        have b2 : IntKind.i64.wrap (q.l - 1 + e) = q.l - 1 + e := IntWalk.i64_in _ (by omega)
        have b3 : IntKind.i64.wrap (q.hi - 1) = q.hi - 1 := IntWalk.i64_in _ (by omega)
        have b4 : IntKind.i64.wrap (q.hi - 1 + f) = q.hi - 1 + f := IntWalk.i64_in _ (by omega)
        have b5 : IntKind.i64.wrap (q.r - 1) = q.r - 1 := IntWalk.i64_in _ (by omega)
        have b6 : IntKind.i64.wrap (q.r - 1 + e) = q.r - 1 + e := IntWalk.i64_in _ (by omega)
        have b7 : IntKind.i64.wrap (q.lo - 1) = q.lo - 1 := IntWalk.i64_in _ (by omega)
        have b8 : IntKind.i64.wrap (q.lo - 1 + f) = q.lo - 1 + f := IntWalk.i64_in _ (by omega)
        have b9 : IntKind.i64.wrap (q.l - (dn : Int)) = q.l - (dn : Int) := IntWalk.i64_in _ (by omega)
        have b10 : IntKind.i64.wrap (q.l - (dn : Int) + e) = q.l - (dn : Int) + e := IntWalk.i64_in _ (by omega)
        have b11 : IntKind.i64.wrap (q.l - (dn : Int) + e - 1) = q.l - (dn : Int) + e - 1 := IntWalk.i64_in _ (by omega)
        have b12 : IntKind.i64.wrap (q.lo - (dn : Int)) = q.lo - (dn : Int) := IntWalk.i64_in _ (by omega)
        have b13 : IntKind.i64.wrap (q.lo - (dn : Int) + f) = q.lo - (dn : Int) + f := IntWalk.i64_in _ (by omega)
        have b14 : IntKind.i64.wrap (q.lo - (dn : Int) + f - 1) = q.lo - (dn : Int) + f - 1 := IntWalk.i64_in _ (by omega)
        refine wp_region_late 44 1 [0] (fun w' => ∃ n, w' = WB.drewN n) (fun _ => True) (by kernel_rfl) (by kernel_rfl) ⟨1, rfl⟩ ?_
        simp only [List.take_succ_cons, List.take_zero, List.drop_succ_cons, List.drop_zero]
        go_big_quiet_step ((go_at_call 11; exact Calls.quiet_of_same (pick_to px 2 e _ IPX.out (by omega) (by omega) HE.out)))
        go_big_quiet_step ((go_at_call 11; exact Calls.quiet_of_same (pick_to px 2 e _ IPX.out (by omega) (by omega) HE.out)))
        go_big_quiet_step ((go_at_call 11; exact Calls.quiet_of_same (pick_to px 2 e _ IPX.out (by omega) (by omega) HE.out)))
        go_big_quiet_step ((go_at_call 11; exact Calls.quiet_of_same (pick_to px 2 e _ IPX.out (by omega) (by omega) HE.out)))
        go_big_quiet_step ((go_at_call 11; exact Calls.quiet_of_same (pick_to px 2 e _ IPX.out (by omega) (by omega) HE.out)))
        go_big_quiet_step ((go_at_call 11; exact Calls.quiet_of_same (pick_to px 2 e _ IPX.out (by omega) (by omega) HE.out)))
        go_big_quiet_step ((go_at_call 11; exact Calls.quiet_of_same (pick_to py 2 f _ IPY.out (by omega) (by omega) HF.out)))
        go_big_quiet_step ((go_at_call 11; exact Calls.quiet_of_same (pick_to py 2 f _ IPY.out (by omega) (by omega) HF.out)))
        go_big_quiet_step ((go_at_call 11; exact Calls.quiet_of_same (pick_to py 2 f _ IPY.out (by omega) (by omega) HF.out)))
        go_big_quiet_step ((go_at_call 11; exact Calls.quiet_of_same (pick_to py 2 f _ IPY.out (by omega) (by omega) HF.out)))
        go_big_quiet_step ((go_at_call 11; exact Calls.quiet_of_same (pick_to py 2 f _ IPY.out (by omega) (by omega) HF.out)))
        go_big_quiet_step ((go_at_call 11; exact Calls.quiet_of_same (pick_to py 2 f _ IPY.out (by omega) (by omega) HF.out)))
        go_big_quiet_step ((go_at_call 11; exact Calls.quiet_of_same (pick_to px 2 e _ IPX.out (by omega) (by omega) HE.out)))
        go_big_quiet_step ((go_at_call 11; exact Calls.quiet_of_same (pick_to px 2 e _ IPX.out (by omega) (by omega) HE.out)))
        go_big_quiet_step ((go_at_call 11; exact Calls.quiet_of_same (pick_to px 2 e _ IPX.out (by omega) (by omega) HE.out)))
        go_big_quiet_step ((go_at_call 11; exact Calls.quiet_of_same (pick_to px 2 e _ IPX.out (by omega) (by omega) HE.out)))
        go_big_quiet_step ((go_at_call 11; exact Calls.quiet_of_same (pick_to px 2 e _ IPX.out (by omega) (by omega) HE.out)))
        go_big_quiet_step ((go_at_call 11; exact Calls.quiet_of_same (pick_to px 2 e _ IPX.out (by omega) (by omega) HE.out)))
        go_big_quiet_step ((go_at_call 11; exact Calls.quiet_of_same (pick_to px 2 e _ IPX.out (by omega) (by omega) HE.out)))
        go_big_quiet_step ((go_at_call 11; exact Calls.quiet_of_same (pick_to py 2 f _ IPY.out (by omega) (by omega) HF.out)))
        go_big_quiet_step ((go_at_call 11; exact Calls.quiet_of_same (pick_to py 2 f _ IPY.out (by omega) (by omega) HF.out)))
        go_big_quiet_step ((go_at_call 11; exact Calls.quiet_of_same (pick_to py 2 f _ IPY.out (by omega) (by omega) HF.out)))
        go_big_quiet_step ((go_at_call 11; exact Calls.quiet_of_same (pick_to py 2 f _ IPY.out (by omega) (by omega) HF.out)))
        go_big_quiet_step ((go_at_call 11; exact Calls.quiet_of_same (pick_to py 2 f _ IPY.out (by omega) (by omega) HF.out)))
        go_big_quiet_step ((go_at_call 11; exact Calls.quiet_of_same (pick_to py 2 f _ IPY.out (by omega) (by omega) HF.out)))
        go_big_quiet_step ((go_at_call 11; exact Calls.quiet_of_same (pick_to px 2 e _ IPX.out (by omega) (by omega) HE.out)))
        go_big_quiet_step ((go_at_call 11; exact Calls.quiet_of_same (pick_to px 2 e _ IPX.out (by omega) (by omega) HE.out)))
        go_big_quiet_step ((go_at_call 11; exact Calls.quiet_of_same (pick_to px 2 e _ IPX.out (by omega) (by omega) HE.out)))
        go_big_quiet_step ((go_at_call 11; exact Calls.quiet_of_same (pick_to px 2 e _ IPX.out (by omega) (by omega) HE.out)))
        go_big_quiet_step ((go_at_call 11; exact Calls.quiet_of_same (pick_to px 2 e _ IPX.out (by omega) (by omega) HE.out)))
        go_big_quiet_step ((go_at_call 11; exact Calls.quiet_of_same (pick_to px 2 e _ IPX.out (by omega) (by omega) HE.out)))
        go_big_quiet_step ((go_at_call 11; exact Calls.quiet_of_same (pick_to px 2 e _ IPX.out (by omega) (by omega) HE.out)))
        go_big_quiet_step ((go_at_call 11; exact Calls.quiet_of_same (pick_to px 2 e _ IPX.out (by omega) (by omega) HE.out)))
        go_big_quiet_step ((go_at_call 11; exact Calls.quiet_of_same (pick_to py 2 f _ IPY.out (by omega) (by omega) HF.out)))
        go_big_quiet_step ((go_at_call 11; exact Calls.quiet_of_same (pick_to py 2 f _ IPY.out (by omega) (by omega) HF.out)))
        go_big_quiet_step ((go_at_call 11; exact Calls.quiet_of_same (pick_to py 2 f _ IPY.out (by omega) (by omega) HF.out)))
        go_big_quiet_step ((go_at_call 11; exact Calls.quiet_of_same (pick_to py 2 f _ IPY.out (by omega) (by omega) HF.out)))
        go_big_quiet_step ((go_at_call 11; exact Calls.quiet_of_same (pick_to py 2 f _ IPY.out (by omega) (by omega) HF.out)))
        go_big_quiet_step ((go_at_call 11; exact Calls.quiet_of_same (pick_to py 2 f _ IPY.out (by omega) (by omega) HF.out)))
        go_big_quiet_step ((go_at_call 11; exact Calls.quiet_of_same (pick_to py 2 f _ IPY.out (by omega) (by omega) HF.out)))
        go_big_quiet_step ((go_at_call 11; exact Calls.quiet_of_same (pick_to py 2 f _ IPY.out (by omega) (by omega) HF.out)))
        go_big_quiet_step ((go_at_call 11; exact Calls.quiet_of_same (pick_to py 2 f _ IPY.out (by omega) (by omega) HF.out)))
        go_big_quiet_step ((go_at_call 11; exact Calls.quiet_of_same (pick_to py 2 f _ IPY.out (by omega) (by omega) HF.out)))
        go_big_quiet_step ((go_at_call 11; exact Calls.quiet_of_same (pick_to py 2 f _ IPY.out (by omega) (by omega) HF.out)))
        refine wpQuiet_nil ?_
        refine ⟨fun w' hw' i o hi ho => ?late, ?_⟩
        case late =>
          have hi0 : i = 0 := by simpa using hi
          subst hi0
          simp only [List.getElem?_toArray, List.getElem?_cons_zero, Option.some.injEq] at ho
          subst ho
          refine ⟨u22, ?_, fun d hd => by simp at hd; subst hd; rfl⟩
          simp [execOp, go_sem]
        rintro _ ⟨nq, rfl⟩
        refine ⟨trivial, ?_⟩
        refine wpTail_step rfl ?_
        go_wp2
        refine ⟨rfl, trivial, ?_⟩
        unfold wpTail
        have hO3 : OwnP ((WB.drewN nq).alloc (.cells #[.int .i64 (q.l - 1 + e), .int .i64 (q.hi - 1 + f), .int .i64 (q.r - 1 + e), .int .i64 (q.lo - 1 + f), .int .i64 (q.l - (dn : Int) + e - 1), .int .i64 (q.lo - (dn : Int) + f - 1)] 32)) w11.heap.size u22 ps := OwnE.alloc (OwnE.drewN HO2.out nq) _
        have hX3 : ((WB.drewN nq).alloc (.cells #[.int .i64 (q.l - 1 + e), .int .i64 (q.hi - 1 + f), .int .i64 (q.r - 1 + e), .int .i64 (q.lo - 1 + f), .int .i64 (q.l - (dn : Int) + e - 1), .int .i64 (q.lo - (dn : Int) + f - 1)] 32)).heap[w11.heap.size + 1]? = some (.cells #[.slice sA nA cA, .slice sB nB cB] 24) := by
          have h := HX2.out
          exact (Below.heap_alloc (WB.drewN nq) _ _ (Array.getElem?_eq_some_iff.1 h).1).trans h
        have hB3 : Below w11.heap.size w11 ((WB.drewN nq).alloc (.cells #[.int .i64 (q.l - 1 + e), .int .i64 (q.hi - 1 + f), .int .i64 (q.r - 1 + e), .int .i64 (q.lo - 1 + f), .int .i64 (q.l - (dn : Int) + e - 1), .int .i64 (q.lo - (dn : Int) + f - 1)] 32)) := (below_drewN HB2.out nq).alloc HB2.out.size _
        refine wpList_append_pts (.tmp 138) (.tmp 182) w11.heap.size u22 ps WB.heap.size (q.l - 1 + e) (q.hi - 1 + f) (q.r - 1 + e) (q.lo - 1 + f) (q.l - (dn : Int) + e - 1) (q.lo - (dn : Int) + f - 1) hO3 (by omega) hB3.size (heap_alloc_new _ _) rfl rfl rfl rfl ?_
        intro v' w7 h7 g7
        have HO7 := Lib.hid h7
        have HX7 : Hid (w7.heap[w11.heap.size + 1]? = some (.cells #[.slice sA nA cA, .slice sB nB cB] 24)) := Lib.hid ((g7.block _ (Array.getElem?_eq_some_iff.1 hX3).1 (own_ne hO3 hX3 (fun c => by simp))).trans hX3)
        have HB7 := Lib.hid (below_own hB3 hO3 g7 (Nat.le_refl _))
        clear hO3 hX3 hB3 h7 g7 HO2 HX2 HB2
        go_wp2
        refine ⟨rfl, ?_⟩
        go_wp2
        go_roundw
        case rel => exact ⟨j + 1, _, by omega, by go_num, HO7, by simp; omega, HX7, HB7.out⟩
        case measure => simp [intOf]; omega
    · have hd5 : decide ((j : Int) < 2) = false := by simp; omega
      obtain ⟨ap, capp, hvp, lp1, lp2, hcp⟩ := hO.out.opened
      subst hvp
      obtain ⟨np, hnp⟩ : ∃ np, np = ps.length := ⟨_, rfl⟩
      rw [← hnp] at hO hps lp2 ⊢
      have HNP := Lib.hid hnp
      have HCP := Lib.hid hcp
      have KP := Lib.hid (K11.out.step hB)
      unfold maxLen at lp1
      clear hnp hcp hO hX hB
      go_wp2_with fail
      go_loopw [187] (fun i wq => ∃ k : Nat, k ≤ np ∧ i = .int .i64 k ∧ Below wo.heap.size wo wq) (fun i wq => np - (intOf i).toNat)
      case atStart => exact ⟨0, by omega, rfl, Below.refl _ _⟩
      case round =>
        obtain ⟨wz, rfl⟩ : ∃ x : World, x = wr := ⟨_, rfl⟩
        obtain ⟨k, hk, rfl, hBq⟩ := hrel
        by_cases hlt : k < np
        · have hdk : decide ((k : Int) < (np : Int)) = true := by simp; omega
          obtain ⟨p, ep⟩ : ∃ p, ps[k]? = some p := ⟨_, List.getElem?_eq_getElem (by rw [← HNP.out]; exact hlt)⟩
          obtain ⟨b, off, rfl, hb, c0, c1⟩ := HCP.out k p ep
          obtain ⟨x, y⟩ := p
          have d0 := cell_keepB hBq hb c0
          have d1 := cell_keepB hBq hb c1
          simp only [] at d0 d1
          clear c0 c1 ep
          go_wp2_with fail
          have HQ : Hid (Below wo.heap.size wo (wz.alloc (.cells #[.int .i64 x, .int .i64 y] 32))) := Lib.hid (hBq.alloc hBq.size _)
          obtain ⟨LS, KQ, i2, i3, i4, i5, i6, i7⟩ : ∃ LS, Hid (Know (wz.alloc (.cells #[.int .i64 x, .int .i64 y] 32)) (wz.alloc (.cells #[.int .i64 x, .int .i64 y] 32)) LS) ∧ Hid (LS[2]? = some (.slice sA nA cA, A)) ∧ Hid (LS[3]? = some (.slice sB nB cB, B)) ∧ Hid (LS[4]? = some (r4, U)) ∧ Hid (LS[5]? = some (r5, I)) ∧ Hid (LS[6]? = some (r6, M)) ∧ Hid (LS[7]? = some (r7, W)) :=
            ⟨_, Lib.hid ((KP.out.step HQ.out).rebase), Lib.hid rfl, Lib.hid rfl, Lib.hid rfl, Lib.hid rfl, Lib.hid rfl, Lib.hid rfl⟩
          have hnew := heap_alloc_new wz (.cells #[.int .i64 x, .int .i64 y] 32)
          have hbx : wz.heap.size < (wz.alloc (.cells #[.int .i64 x, .int .i64 y] 32)).heap.size := (Array.getElem?_eq_some_iff.1 hnew).1
          have k0 := cell_of_row _ wz.heap.size 0 _ _ _ hnew
          have k1 := cell_of_row _ wz.heap.size 1 _ _ _ hnew
          simp only [List.getElem?_toArray, List.getElem?_cons_zero, List.getElem?_cons_succ] at k0 k1
          clear hnew d0 d1 hBq
          generalize (wz.alloc (.cells #[.int .i64 x, .int .i64 y] 32)) = WQ at *
          generalize wz.heap.size = bx at *
          have C0 := Lib.hid k0
          have C1 := Lib.hid k1
          have HU := Lib.hid (Hf9.out.u x y)
          have HI := Lib.hid (Hf9.out.i x y)
          have HM := Lib.hid (Hf9.out.m x y)
          have HW := Lib.hid (Hf9.out.w x y)
          have HA0 := Lib.hid (Hf9.out.a x y)
          obtain ⟨nd, hnd⟩ : ∃ b, A.any (nearR x y (dn : Int)) = b := ⟨_, rfl⟩
          obtain ⟨n0, hn0⟩ : ∃ b, A.any (nearR x y 0) = b := ⟨_, rfl⟩
          obtain ⟨one, h1⟩ : ∃ b, hasA A x y = b := ⟨_, rfl⟩
          obtain ⟨two, h2⟩ : ∃ b, hasA B x y = b := ⟨_, rfl⟩
          have HND := Lib.hid hnd
          have HN0 := Lib.hid hn0
          have H1 := Lib.hid h1
          have H2 := Lib.hid h2
          clear hnd hn0 h1 h2
          cases one
          · go_wp2_with fail
            refine (has_at KQ.out 2 x y false H1.out i2.out).mono ?_
            rintro e w101 ⟨rfl, k101⟩
            have K101 := Lib.hid k101
            clear k0 k1
            have k0 := cell_keepB k101.below hbx C0.out
            have k1 := cell_keepB k101.below hbx C1.out
            clear k101
            go_wp2_with fail
            refine (has_at K101.out 3 x y two H2.out i3.out).mono ?_
            rintro e w102 ⟨rfl, k102⟩
            have K102 := Lib.hid k102
            clear k0 k1
            have k0 := cell_keepB k102.below hbx C0.out
            have k1 := cell_keepB k102.below hbx C1.out
            clear k102 K101
            have FU : Hid (∀ w', Know WQ w' LS → Calls Tryd.prog 18 #[r4, .int .i64 x, .int .i64 y, .bool two] w' (Says WQ LS (.bool true))) := Lib.hid (fun w' k => sees_at k 4 x y two (by rw [HU.out, H1.out, H2.out]; rfl) i4.out)
            have FI : Hid (∀ w', Know WQ w' LS → Calls Tryd.prog 18 #[r5, .int .i64 x, .int .i64 y, .bool false] w' (Says WQ LS (.bool true))) := Lib.hid (fun w' k => sees_at k 5 x y false (by rw [HI.out, H1.out, H2.out]; rfl) i5.out)
            have FM : Hid (∀ w', Know WQ w' LS → Calls Tryd.prog 18 #[r6, .int .i64 x, .int .i64 y, .bool false] w' (Says WQ LS (.bool true))) := Lib.hid (fun w' k => sees_at k 6 x y false (by rw [HM.out, H1.out, H2.out]; rfl) i6.out)
            have FW : Hid (∀ w', Know WQ w' LS → Calls Tryd.prog 18 #[r7, .int .i64 x, .int .i64 y, .bool nd] w' (Says WQ LS (.bool true))) := Lib.hid (fun w' k => sees_at k 7 x y nd (by rw [HW.out, HND.out]) i7.out)
            have FA : Hid (∀ w', Know WQ w' LS → Calls Tryd.prog 18 #[.slice sA nA cA, .int .i64 x, .int .i64 y, .bool n0] w' (Says WQ LS (.bool true))) := Lib.hid (fun w' k => sees_at k 2 x y n0 (by rw [HA0.out, HN0.out]) i2.out)
            have FD : Hid (∀ w', Know WQ w' LS → Calls Tryd.prog 19 #[.slice sA nA cA, .int .i64 x, .int .i64 y, .int .i64 dn] w' (Says WQ LS (.bool nd))) := Lib.hid (fun w' k => by have h := near_at k 2 x y dn ⟨by omega, by omega⟩ Hf10.out i2.out; rw [HND.out] at h; exact h)
            have FZ : Hid (∀ w', Know WQ w' LS → Calls Tryd.prog 19 #[.slice sA nA cA, .int .i64 x, .int .i64 y, .int .i64 0] w' (Says WQ LS (.bool n0))) := Lib.hid (fun w' k => by have h := near_at k 2 x y 0 ⟨by omega, by omega⟩ Hf10.out i2.out; rw [HN0.out] at h; exact h)
            clear HU HI HM HW HA0 HND HN0 H1 H2 Hf10
            go_wp2_with fail
            simp only [List.append_eq, List.cons_append, List.nil_append]
            have KC := Lib.hid K102.out.drew
            clear K102
            clear tx1 tx2 tx3 ty1 ty2 ty3 mx lx my ly Ix Lx Iy Ly EA EB dd2 Hdd IPX IPY ID Hf1 Hf2 Hf3 Hf4 Hf5 Hf6 Hf7 Hf8 Hf9 Hf11 Hf12 Hf13 mA lA HNA mB lB HNB a1l a1u Ha1 a2l a2u Ha2 a3l a3u Ha3 a4l a4u Ha4 hd5 hps HNP hdk HCP hb i2 i3 i4 i5 i6 i7 KQ
            refine wp_region_noPanic ?_
            refine wp_region_lex [9, 21, 35, 50, 51, 65, 66] (fun w' => w'.cell? ⟨bx, 0, none⟩ = some (.int .i64 x) ∧ w'.cell? ⟨bx, 1, none⟩ = some (.int .i64 y)) (by kernel_rfl) (by kernel_rfl) (fun _ _ _ _ _ h => h) ⟨k0, k1⟩ ?_
            refine wpLex_take (v := ?_) (by rfl) (Or.inl ⟨by rfl, ?_⟩) ?_
            rotate_left
            · intro w hSw; (try dsimp only at hSw); go_simp; try with_reducible rfl
            simp only [Act.put, List.setIfInBounds_toArray, List.set_cons_zero, List.set_cons_succ]
            refine wpLex_take (v := ?_) (by rfl) (Or.inl ⟨by rfl, ?_⟩) ?_
            rotate_left
            · intro w hSw; (try dsimp only at hSw); go_simp; try with_reducible rfl
            simp only [Act.put, List.setIfInBounds_toArray, List.set_cons_zero, List.set_cons_succ]
            refine wpLex_take (v := ?_) (by rfl) (Or.inl ⟨by rfl, ?_⟩) ?_
            rotate_left
            · intro w hSw; (try dsimp only at hSw); go_simp; try with_reducible rfl
            simp only [Act.put, List.setIfInBounds_toArray, List.set_cons_zero, List.set_cons_succ]
            refine wpLex_take (v := ?_) (by rfl) (Or.inl ⟨by rfl, ?_⟩) ?_
            rotate_left
            · intro w hSw; (try dsimp only at hSw); go_simp; try with_reducible rfl
            simp only [Act.put, List.setIfInBounds_toArray, List.set_cons_zero, List.set_cons_succ]
            refine wpLex_take (v := ?_) (by rfl) (Or.inl ⟨by rfl, ?_⟩) ?_
            rotate_left
            · intro w hSw; (try dsimp only at hSw); go_simp; try with_reducible rfl
            simp only [Act.put, List.setIfInBounds_toArray, List.set_cons_zero, List.set_cons_succ]
            refine wpLex_take (v := ?_) (by rfl) (Or.inl ⟨by rfl, ?_⟩) ?_
            rotate_left
            · intro w hSw; (try dsimp only at hSw); go_simp; try with_reducible rfl
            simp only [Act.put, List.setIfInBounds_toArray, List.set_cons_zero, List.set_cons_succ]
            refine wpLex_take (v := ?_) (by rfl) (Or.inl ⟨by rfl, ?_⟩) ?_
            rotate_left
            · intro w hSw; (try dsimp only at hSw); go_simp; try with_reducible rfl
            simp only [Act.put, List.setIfInBounds_toArray, List.set_cons_zero, List.set_cons_succ]
            refine wpLex_take (v := ?_) (by rfl) (Or.inl ⟨by rfl, ?_⟩) ?_
            rotate_left
            · intro w hSw; (try dsimp only at hSw); go_simp; try with_reducible rfl
            simp only [Act.put, List.setIfInBounds_toArray, List.set_cons_zero, List.set_cons_succ]
            refine wpLex_take (v := ?_) (by rfl) (Or.inl ⟨by rfl, ?_⟩) ?_
            rotate_left
            · intro w hSw; (try dsimp only at hSw); go_simp; try with_reducible rfl
            simp only [Act.put, List.setIfInBounds_toArray, List.set_cons_zero, List.set_cons_succ]
            refine wpLex_big (by rfl) rfl (fun K hK => ?_)
            go_simp
            go_at_call 18
            with_reducible refine (FU.out _ KC.out).mono ?_
            rintro e wn ⟨rfl, kn⟩
            clear KC
            have KC := Lib.hid kn
            have k0 := cell_keepB kn.below hbx C0.out
            have k1 := cell_keepB kn.below hbx C1.out
            clear kn
            refine hK.out _ _ ⟨k0, k1⟩ (fun _ => ?_)
            clear hK K
            refine wpLex_take (v := ?_) (by rfl) (Or.inl ⟨by rfl, ?_⟩) ?_
            rotate_left
            · intro w hSw; (try dsimp only at hSw); go_simp; try with_reducible rfl
            simp only [Act.put, List.setIfInBounds_toArray, List.set_cons_zero, List.set_cons_succ]
            refine wpLex_take (v := ?_) (by rfl) (Or.inl ⟨by rfl, ?_⟩) ?_
            rotate_left
            · intro w hSw; (try dsimp only at hSw); go_simp; try with_reducible rfl
            simp only [Act.put, List.setIfInBounds_toArray, List.set_cons_zero, List.set_cons_succ]
            refine wpLex_take (v := ?_) (by rfl) (Or.inl ⟨by rfl, ?_⟩) ?_
            rotate_left
            · intro w hSw; (try dsimp only at hSw); go_simp; try with_reducible rfl
            simp only [Act.put, List.setIfInBounds_toArray, List.set_cons_zero, List.set_cons_succ]
            refine wpLex_take (v := ?_) (by rfl) (Or.inl ⟨by rfl, ?_⟩) ?_
            rotate_left
            · intro w hSw; (try dsimp only at hSw); go_simp; try with_reducible rfl
            simp only [Act.put, List.setIfInBounds_toArray, List.set_cons_zero, List.set_cons_succ]
            refine wpLex_take (v := ?_) (by rfl) (Or.inl ⟨by rfl, ?_⟩) ?_
            rotate_left
            · intro w hSw; (try dsimp only at hSw); go_simp; try with_reducible rfl
            simp only [Act.put, List.setIfInBounds_toArray, List.set_cons_zero, List.set_cons_succ]
            refine wpLex_take (v := ?_) (by rfl) (Or.inl ⟨by rfl, ?_⟩) ?_
            rotate_left
            · intro w hSw; (try dsimp only at hSw); go_simp; try with_reducible rfl
            simp only [Act.put, List.setIfInBounds_toArray, List.set_cons_zero, List.set_cons_succ]
            refine wpLex_take (v := ?_) (by rfl) (Or.inl ⟨by rfl, ?_⟩) ?_
            rotate_left
            · intro w hSw; (try dsimp only at hSw); go_simp; try with_reducible rfl
            simp only [Act.put, List.setIfInBounds_toArray, List.set_cons_zero, List.set_cons_succ]
            refine wpLex_take (v := ?_) (by rfl) (Or.inl ⟨by rfl, ?_⟩) ?_
            rotate_left
            · intro w hSw; (try dsimp only at hSw); go_simp; try with_reducible rfl
            simp only [Act.put, List.setIfInBounds_toArray, List.set_cons_zero, List.set_cons_succ]
            refine wpLex_take (v := ?_) (by rfl) (Or.inl ⟨by rfl, ?_⟩) ?_
            rotate_left
            · intro w hSw; (try dsimp only at hSw); go_simp; try with_reducible rfl
            simp only [Act.put, List.setIfInBounds_toArray, List.set_cons_zero, List.set_cons_succ]
            refine wpLex_take (v := undef) (by rfl) (Or.inr ⟨by rfl, rfl⟩) ?_
            simp only [Act.put, List.setIfInBounds_toArray, List.set_cons_zero, List.set_cons_succ]
            refine wpLex_take (v := ?_) (by rfl) (Or.inl ⟨by rfl, ?_⟩) ?_
            rotate_left
            · intro w hSw; (try dsimp only at hSw); go_simp; try with_reducible rfl
            simp only [Act.put, List.setIfInBounds_toArray, List.set_cons_zero, List.set_cons_succ]
            refine wpLex_big (by rfl) rfl (fun K hK => ?_)
            go_simp
            go_at_call 18
            with_reducible refine (FI.out _ KC.out).mono ?_
            rintro e wn ⟨rfl, kn⟩
            clear KC
            have KC := Lib.hid kn
            have k0 := cell_keepB kn.below hbx C0.out
            have k1 := cell_keepB kn.below hbx C1.out
            clear kn
            refine hK.out _ _ ⟨k0, k1⟩ (fun _ => ?_)
            clear hK K
            refine wpLex_take (v := ?_) (by rfl) (Or.inl ⟨by rfl, ?_⟩) ?_
            rotate_left
            · intro w hSw; (try dsimp only at hSw); go_simp; try with_reducible rfl
            simp only [Act.put, List.setIfInBounds_toArray, List.set_cons_zero, List.set_cons_succ]
            refine wpLex_take (v := ?_) (by rfl) (Or.inl ⟨by rfl, ?_⟩) ?_
            rotate_left
            · intro w hSw; (try dsimp only at hSw); go_simp; try with_reducible rfl
            simp only [Act.put, List.setIfInBounds_toArray, List.set_cons_zero, List.set_cons_succ]
            refine wpLex_take (v := ?_) (by rfl) (Or.inl ⟨by rfl, ?_⟩) ?_
            rotate_left
            · intro w hSw; (try dsimp only at hSw); go_simp; try with_reducible rfl
            simp only [Act.put, List.setIfInBounds_toArray, List.set_cons_zero, List.set_cons_succ]
            refine wpLex_take (v := ?_) (by rfl) (Or.inl ⟨by rfl, ?_⟩) ?_
            rotate_left
            · intro w hSw; (try dsimp only at hSw); go_simp; try with_reducible rfl
            simp only [Act.put, List.setIfInBounds_toArray, List.set_cons_zero, List.set_cons_succ]
            refine wpLex_take (v := ?_) (by rfl) (Or.inl ⟨by rfl, ?_⟩) ?_
            rotate_left
            · intro w hSw; (try dsimp only at hSw); go_simp; try with_reducible rfl
            simp only [Act.put, List.setIfInBounds_toArray, List.set_cons_zero, List.set_cons_succ]
            refine wpLex_take (v := ?_) (by rfl) (Or.inl ⟨by rfl, ?_⟩) ?_
            rotate_left
            · intro w hSw; (try dsimp only at hSw); go_simp; try with_reducible rfl
            simp only [Act.put, List.setIfInBounds_toArray, List.set_cons_zero, List.set_cons_succ]
            refine wpLex_take (v := ?_) (by rfl) (Or.inl ⟨by rfl, ?_⟩) ?_
            rotate_left
            · intro w hSw; (try dsimp only at hSw); go_simp; try with_reducible rfl
            simp only [Act.put, List.setIfInBounds_toArray, List.set_cons_zero, List.set_cons_succ]
            refine wpLex_take (v := ?_) (by rfl) (Or.inl ⟨by rfl, ?_⟩) ?_
            rotate_left
            · intro w hSw; (try dsimp only at hSw); go_simp; try with_reducible rfl
            simp only [Act.put, List.setIfInBounds_toArray, List.set_cons_zero, List.set_cons_succ]
            refine wpLex_take (v := ?_) (by rfl) (Or.inl ⟨by rfl, ?_⟩) ?_
            rotate_left
            · intro w hSw; (try dsimp only at hSw); go_simp; try with_reducible rfl
            simp only [Act.put, List.setIfInBounds_toArray, List.set_cons_zero, List.set_cons_succ]
            refine wpLex_take (v := ?_) (by rfl) (Or.inl ⟨by rfl, ?_⟩) ?_
            rotate_left
            · intro w hSw; (try dsimp only at hSw); go_simp; try with_reducible rfl
            simp only [Act.put, List.setIfInBounds_toArray, List.set_cons_zero, List.set_cons_succ]
            refine wpLex_take (v := undef) (by rfl) (Or.inr ⟨by rfl, rfl⟩) ?_
            simp only [Act.put, List.setIfInBounds_toArray, List.set_cons_zero, List.set_cons_succ]
            refine wpLex_take (v := undef) (by rfl) (Or.inr ⟨by rfl, rfl⟩) ?_
            simp only [Act.put, List.setIfInBounds_toArray, List.set_cons_zero, List.set_cons_succ]
            refine wpLex_take (v := ?_) (by rfl) (Or.inl ⟨by rfl, ?_⟩) ?_
            rotate_left
            · intro w hSw; (try dsimp only at hSw); go_simp; try with_reducible rfl
            simp only [Act.put, List.setIfInBounds_toArray, List.set_cons_zero, List.set_cons_succ]
            refine wpLex_big (by rfl) rfl (fun K hK => ?_)
            go_simp
            go_at_call 18
            with_reducible refine (FM.out _ KC.out).mono ?_
            rintro e wn ⟨rfl, kn⟩
            clear KC
            have KC := Lib.hid kn
            have k0 := cell_keepB kn.below hbx C0.out
            have k1 := cell_keepB kn.below hbx C1.out
            clear kn
            refine hK.out _ _ ⟨k0, k1⟩ (fun _ => ?_)
            clear hK K
            refine wpLex_take (v := ?_) (by rfl) (Or.inl ⟨by rfl, ?_⟩) ?_
            rotate_left
            · intro w hSw; (try dsimp only at hSw); go_simp; try with_reducible rfl
            simp only [Act.put, List.setIfInBounds_toArray, List.set_cons_zero, List.set_cons_succ]
            refine wpLex_take (v := ?_) (by rfl) (Or.inl ⟨by rfl, ?_⟩) ?_
            rotate_left
            · intro w hSw; (try dsimp only at hSw); go_simp; try with_reducible rfl
            simp only [Act.put, List.setIfInBounds_toArray, List.set_cons_zero, List.set_cons_succ]
            refine wpLex_take (v := ?_) (by rfl) (Or.inl ⟨by rfl, ?_⟩) ?_
            rotate_left
            · intro w hSw; (try dsimp only at hSw); go_simp; try with_reducible rfl
            simp only [Act.put, List.setIfInBounds_toArray, List.set_cons_zero, List.set_cons_succ]
            refine wpLex_take (v := ?_) (by rfl) (Or.inl ⟨by rfl, ?_⟩) ?_
            rotate_left
            · intro w hSw; (try dsimp only at hSw); go_simp; try with_reducible rfl
            simp only [Act.put, List.setIfInBounds_toArray, List.set_cons_zero, List.set_cons_succ]
            refine wpLex_take (v := ?_) (by rfl) (Or.inl ⟨by rfl, ?_⟩) ?_
            rotate_left
            · intro w hSw; (try dsimp only at hSw); go_simp; try with_reducible rfl
            simp only [Act.put, List.setIfInBounds_toArray, List.set_cons_zero, List.set_cons_succ]
            refine wpLex_take (v := ?_) (by rfl) (Or.inl ⟨by rfl, ?_⟩) ?_
            rotate_left
            · intro w hSw; (try dsimp only at hSw); go_simp; try with_reducible rfl
            simp only [Act.put, List.setIfInBounds_toArray, List.set_cons_zero, List.set_cons_succ]
            refine wpLex_take (v := ?_) (by rfl) (Or.inl ⟨by rfl, ?_⟩) ?_
            rotate_left
            · intro w hSw; (try dsimp only at hSw); go_simp; try with_reducible rfl
            simp only [Act.put, List.setIfInBounds_toArray, List.set_cons_zero, List.set_cons_succ]
            refine wpLex_take (v := ?_) (by rfl) (Or.inl ⟨by rfl, ?_⟩) ?_
            rotate_left
            · intro w hSw; (try dsimp only at hSw); go_simp; try with_reducible rfl
            simp only [Act.put, List.setIfInBounds_toArray, List.set_cons_zero, List.set_cons_succ]
            refine wpLex_take (v := ?_) (by rfl) (Or.inl ⟨by rfl, ?_⟩) ?_
            rotate_left
            · intro w hSw; (try dsimp only at hSw); go_simp; try with_reducible rfl
            simp only [Act.put, List.setIfInBounds_toArray, List.set_cons_zero, List.set_cons_succ]
            refine wpLex_take (v := ?_) (by rfl) (Or.inl ⟨by rfl, ?_⟩) ?_
            rotate_left
            · intro w hSw; (try dsimp only at hSw); go_simp; try with_reducible rfl
            simp only [Act.put, List.setIfInBounds_toArray, List.set_cons_zero, List.set_cons_succ]
            refine wpLex_take (v := ?_) (by rfl) (Or.inl ⟨by rfl, ?_⟩) ?_
            rotate_left
            · intro w hSw; (try dsimp only at hSw); go_simp; try with_reducible rfl
            simp only [Act.put, List.setIfInBounds_toArray, List.set_cons_zero, List.set_cons_succ]
            refine wpLex_take (v := ?_) (by rfl) (Or.inl ⟨by rfl, ?_⟩) ?_
            rotate_left
            · intro w hSw; (try dsimp only at hSw); go_simp; try with_reducible rfl
            simp only [Act.put, List.setIfInBounds_toArray, List.set_cons_zero, List.set_cons_succ]
            refine wpLex_take (v := ?_) (by rfl) (Or.inl ⟨by rfl, ?_⟩) ?_
            rotate_left
            · intro w hSw; (try dsimp only at hSw); go_simp; try with_reducible rfl
            simp only [Act.put, List.setIfInBounds_toArray, List.set_cons_zero, List.set_cons_succ]
            refine wpLex_take (v := ?_) (by rfl) (Or.inl ⟨by rfl, ?_⟩) ?_
            rotate_left
            · intro w hSw; (try dsimp only at hSw); go_simp; try with_reducible rfl
            simp only [Act.put, List.setIfInBounds_toArray, List.set_cons_zero, List.set_cons_succ]
            refine wpLex_big (by rfl) rfl (fun K hK => ?_)
            go_simp
            go_at_call 19
            with_reducible refine (FD.out _ KC.out).mono ?_
            rintro e wn ⟨rfl, kn⟩
            clear KC
            have KC := Lib.hid kn
            have k0 := cell_keepB kn.below hbx C0.out
            have k1 := cell_keepB kn.below hbx C1.out
            clear kn
            refine hK.out _ _ ⟨k0, k1⟩ (fun _ => ?_)
            clear hK K
            refine wpLex_big (by rfl) rfl (fun K hK => ?_)
            go_simp
            go_at_call 18
            with_reducible refine (FW.out _ KC.out).mono ?_
            rintro e wn ⟨rfl, kn⟩
            clear KC
            have KC := Lib.hid kn
            have k0 := cell_keepB kn.below hbx C0.out
            have k1 := cell_keepB kn.below hbx C1.out
            clear kn
            refine hK.out _ _ ⟨k0, k1⟩ (fun _ => ?_)
            clear hK K
            refine wpLex_take (v := ?_) (by rfl) (Or.inl ⟨by rfl, ?_⟩) ?_
            rotate_left
            · intro w hSw; (try dsimp only at hSw); go_simp; try with_reducible rfl
            simp only [Act.put, List.setIfInBounds_toArray, List.set_cons_zero, List.set_cons_succ]
            refine wpLex_take (v := ?_) (by rfl) (Or.inl ⟨by rfl, ?_⟩) ?_
            rotate_left
            · intro w hSw; (try dsimp only at hSw); go_simp; try with_reducible rfl
            simp only [Act.put, List.setIfInBounds_toArray, List.set_cons_zero, List.set_cons_succ]
            refine wpLex_take (v := ?_) (by rfl) (Or.inl ⟨by rfl, ?_⟩) ?_
            rotate_left
            · intro w hSw; (try dsimp only at hSw); go_simp; try with_reducible rfl
            simp only [Act.put, List.setIfInBounds_toArray, List.set_cons_zero, List.set_cons_succ]
            refine wpLex_take (v := ?_) (by rfl) (Or.inl ⟨by rfl, ?_⟩) ?_
            rotate_left
            · intro w hSw; (try dsimp only at hSw); go_simp; try with_reducible rfl
            simp only [Act.put, List.setIfInBounds_toArray, List.set_cons_zero, List.set_cons_succ]
            refine wpLex_take (v := ?_) (by rfl) (Or.inl ⟨by rfl, ?_⟩) ?_
            rotate_left
            · intro w hSw; (try dsimp only at hSw); go_simp; try with_reducible rfl
            simp only [Act.put, List.setIfInBounds_toArray, List.set_cons_zero, List.set_cons_succ]
            refine wpLex_take (v := ?_) (by rfl) (Or.inl ⟨by rfl, ?_⟩) ?_
            rotate_left
            · intro w hSw; (try dsimp only at hSw); go_simp; try with_reducible rfl
            simp only [Act.put, List.setIfInBounds_toArray, List.set_cons_zero, List.set_cons_succ]
            refine wpLex_take (v := ?_) (by rfl) (Or.inl ⟨by rfl, ?_⟩) ?_
            rotate_left
            · intro w hSw; (try dsimp only at hSw); go_simp; try with_reducible rfl
            simp only [Act.put, List.setIfInBounds_toArray, List.set_cons_zero, List.set_cons_succ]
            refine wpLex_take (v := ?_) (by rfl) (Or.inl ⟨by rfl, ?_⟩) ?_
            rotate_left
            · intro w hSw; (try dsimp only at hSw); go_simp; try with_reducible rfl
            simp only [Act.put, List.setIfInBounds_toArray, List.set_cons_zero, List.set_cons_succ]
            refine wpLex_take (v := ?_) (by rfl) (Or.inl ⟨by rfl, ?_⟩) ?_
            rotate_left
            · intro w hSw; (try dsimp only at hSw); go_simp; try with_reducible rfl
            simp only [Act.put, List.setIfInBounds_toArray, List.set_cons_zero, List.set_cons_succ]
            refine wpLex_take (v := ?_) (by rfl) (Or.inl ⟨by rfl, ?_⟩) ?_
            rotate_left
            · intro w hSw; (try dsimp only at hSw); go_simp; try with_reducible rfl
            simp only [Act.put, List.setIfInBounds_toArray, List.set_cons_zero, List.set_cons_succ]
            refine wpLex_take (v := ?_) (by rfl) (Or.inl ⟨by rfl, ?_⟩) ?_
            rotate_left
            · intro w hSw; (try dsimp only at hSw); go_simp; try with_reducible rfl
            simp only [Act.put, List.setIfInBounds_toArray, List.set_cons_zero, List.set_cons_succ]
            refine wpLex_take (v := ?_) (by rfl) (Or.inl ⟨by rfl, ?_⟩) ?_
            rotate_left
            · intro w hSw; (try dsimp only at hSw); go_simp; try with_reducible rfl
            simp only [Act.put, List.setIfInBounds_toArray, List.set_cons_zero, List.set_cons_succ]
            refine wpLex_take (v := ?_) (by rfl) (Or.inl ⟨by rfl, ?_⟩) ?_
            rotate_left
            · intro w hSw; (try dsimp only at hSw); go_simp; try with_reducible rfl
            simp only [Act.put, List.setIfInBounds_toArray, List.set_cons_zero, List.set_cons_succ]
            refine wpLex_big (by rfl) rfl (fun K hK => ?_)
            go_simp
            go_at_call 19
            with_reducible refine (FZ.out _ KC.out).mono ?_
            rintro e wn ⟨rfl, kn⟩
            clear KC
            have KC := Lib.hid kn
            have k0 := cell_keepB kn.below hbx C0.out
            have k1 := cell_keepB kn.below hbx C1.out
            clear kn
            refine hK.out _ _ ⟨k0, k1⟩ (fun _ => ?_)
            clear hK K
            refine wpLex_big (by rfl) rfl (fun K hK => ?_)
            go_simp
            go_at_call 18
            with_reducible refine (FA.out _ KC.out).mono ?_
            rintro e wn ⟨rfl, kn⟩
            clear KC
            have KC := Lib.hid kn
            have k0 := cell_keepB kn.below hbx C0.out
            have k1 := cell_keepB kn.below hbx C1.out
            clear kn
            refine hK.out _ _ ⟨k0, k1⟩ (fun _ => ?_)
            clear hK K
            refine wpLex_take (v := ?_) (by rfl) (Or.inl ⟨by rfl, ?_⟩) ?_
            rotate_left
            · intro w hSw; (try dsimp only at hSw); go_simp; try with_reducible rfl
            simp only [Act.put, List.setIfInBounds_toArray, List.set_cons_zero, List.set_cons_succ]
            refine wpLex_take (v := ?_) (by rfl) (Or.inl ⟨by rfl, ?_⟩) ?_
            rotate_left
            · intro w hSw; (try dsimp only at hSw); go_simp; try with_reducible rfl
            simp only [Act.put, List.setIfInBounds_toArray, List.set_cons_zero, List.set_cons_succ]
            refine wpLex_nil ?_
            refine NoPanic.normal ?_
            go_wp2
            go_roundw
            case rel => exact ⟨k + 1, by omega, by go_num, HQ.out.trans (KC.out.below.mono HQ.out.size)⟩
            case measure => simp [intOf]; omega
          · go_wp2_with fail
            refine (has_at KQ.out 2 x y true H1.out i2.out).mono ?_
            rintro e w101 ⟨rfl, k101⟩
            have K101 := Lib.hid k101
            clear k0 k1
            have k0 := cell_keepB k101.below hbx C0.out
            have k1 := cell_keepB k101.below hbx C1.out
            clear k101
            go_wp2_with fail
            refine (has_at K101.out 3 x y two H2.out i3.out).mono ?_
            rintro e w102 ⟨rfl, k102⟩
            have K102 := Lib.hid k102
            clear k0 k1
            have k0 := cell_keepB k102.below hbx C0.out
            have k1 := cell_keepB k102.below hbx C1.out
            clear k102 K101
            have FU : Hid (∀ w', Know WQ w' LS → Calls Tryd.prog 18 #[r4, .int .i64 x, .int .i64 y, .bool true] w' (Says WQ LS (.bool true))) := Lib.hid (fun w' k => sees_at k 4 x y true (by rw [HU.out, H1.out, H2.out]; rfl) i4.out)
            have FI : Hid (∀ w', Know WQ w' LS → Calls Tryd.prog 18 #[r5, .int .i64 x, .int .i64 y, .bool two] w' (Says WQ LS (.bool true))) := Lib.hid (fun w' k => sees_at k 5 x y two (by rw [HI.out, H1.out, H2.out]; rfl) i5.out)
            have FM : Hid (∀ w', Know WQ w' LS → Calls Tryd.prog 18 #[r6, .int .i64 x, .int .i64 y, .bool (!two)] w' (Says WQ LS (.bool true))) := Lib.hid (fun w' k => sees_at k 6 x y (!two) (by rw [HM.out, H1.out, H2.out]; rfl) i6.out)
            have FW : Hid (∀ w', Know WQ w' LS → Calls Tryd.prog 18 #[r7, .int .i64 x, .int .i64 y, .bool nd] w' (Says WQ LS (.bool true))) := Lib.hid (fun w' k => sees_at k 7 x y nd (by rw [HW.out, HND.out]) i7.out)
            have FA : Hid (∀ w', Know WQ w' LS → Calls Tryd.prog 18 #[.slice sA nA cA, .int .i64 x, .int .i64 y, .bool n0] w' (Says WQ LS (.bool true))) := Lib.hid (fun w' k => sees_at k 2 x y n0 (by rw [HA0.out, HN0.out]) i2.out)
            have FD : Hid (∀ w', Know WQ w' LS → Calls Tryd.prog 19 #[.slice sA nA cA, .int .i64 x, .int .i64 y, .int .i64 dn] w' (Says WQ LS (.bool nd))) := Lib.hid (fun w' k => by have h := near_at k 2 x y dn ⟨by omega, by omega⟩ Hf10.out i2.out; rw [HND.out] at h; exact h)
            have FZ : Hid (∀ w', Know WQ w' LS → Calls Tryd.prog 19 #[.slice sA nA cA, .int .i64 x, .int .i64 y, .int .i64 0] w' (Says WQ LS (.bool n0))) := Lib.hid (fun w' k => by have h := near_at k 2 x y 0 ⟨by omega, by omega⟩ Hf10.out i2.out; rw [HN0.out] at h; exact h)
            clear HU HI HM HW HA0 HND HN0 H1 H2 Hf10
            go_wp2_with fail
            simp only [List.append_eq, List.cons_append, List.nil_append]
            have KC := Lib.hid K102.out.drew
            clear K102
            clear tx1 tx2 tx3 ty1 ty2 ty3 mx lx my ly Ix Lx Iy Ly EA EB dd2 Hdd IPX IPY ID Hf1 Hf2 Hf3 Hf4 Hf5 Hf6 Hf7 Hf8 Hf9 Hf11 Hf12 Hf13 mA lA HNA mB lB HNB a1l a1u Ha1 a2l a2u Ha2 a3l a3u Ha3 a4l a4u Ha4 hd5 hps HNP hdk HCP hb i2 i3 i4 i5 i6 i7 KQ
            refine wp_region_noPanic ?_
            refine wp_region_lex [9, 21, 35, 50, 51, 65, 66] (fun w' => w'.cell? ⟨bx, 0, none⟩ = some (.int .i64 x) ∧ w'.cell? ⟨bx, 1, none⟩ = some (.int .i64 y)) (by kernel_rfl) (by kernel_rfl) (fun _ _ _ _ _ h => h) ⟨k0, k1⟩ ?_
            refine wpLex_take (v := ?_) (by rfl) (Or.inl ⟨by rfl, ?_⟩) ?_
            rotate_left
            · intro w hSw; (try dsimp only at hSw); go_simp; try with_reducible rfl
            simp only [Act.put, List.setIfInBounds_toArray, List.set_cons_zero, List.set_cons_succ]
            refine wpLex_take (v := ?_) (by rfl) (Or.inl ⟨by rfl, ?_⟩) ?_
            rotate_left
            · intro w hSw; (try dsimp only at hSw); go_simp; try with_reducible rfl
            simp only [Act.put, List.setIfInBounds_toArray, List.set_cons_zero, List.set_cons_succ]
            refine wpLex_take (v := ?_) (by rfl) (Or.inl ⟨by rfl, ?_⟩) ?_
            rotate_left
            · intro w hSw; (try dsimp only at hSw); go_simp; try with_reducible rfl
            simp only [Act.put, List.setIfInBounds_toArray, List.set_cons_zero, List.set_cons_succ]
            refine wpLex_take (v := ?_) (by rfl) (Or.inl ⟨by rfl, ?_⟩) ?_
            rotate_left
            · intro w hSw; (try dsimp only at hSw); go_simp; try with_reducible rfl
            simp only [Act.put, List.setIfInBounds_toArray, List.set_cons_zero, List.set_cons_succ]
            refine wpLex_take (v := ?_) (by rfl) (Or.inl ⟨by rfl, ?_⟩) ?_
            rotate_left
            · intro w hSw; (try dsimp only at hSw); go_simp; try with_reducible rfl
            simp only [Act.put, List.setIfInBounds_toArray, List.set_cons_zero, List.set_cons_succ]
            refine wpLex_take (v := ?_) (by rfl) (Or.inl ⟨by rfl, ?_⟩) ?_
            rotate_left
            · intro w hSw; (try dsimp only at hSw); go_simp; try with_reducible rfl
            simp only [Act.put, List.setIfInBounds_toArray, List.set_cons_zero, List.set_cons_succ]
            refine wpLex_take (v := ?_) (by rfl) (Or.inl ⟨by rfl, ?_⟩) ?_
            rotate_left
            · intro w hSw; (try dsimp only at hSw); go_simp; try with_reducible rfl
            simp only [Act.put, List.setIfInBounds_toArray, List.set_cons_zero, List.set_cons_succ]
            refine wpLex_take (v := undef) (by rfl) (Or.inr ⟨by rfl, rfl⟩) ?_
            simp only [Act.put, List.setIfInBounds_toArray, List.set_cons_zero, List.set_cons_succ]
            refine wpLex_take (v := ?_) (by rfl) (Or.inl ⟨by rfl, ?_⟩) ?_
            rotate_left
            · intro w hSw; (try dsimp only at hSw); go_simp; try with_reducible rfl
            simp only [Act.put, List.setIfInBounds_toArray, List.set_cons_zero, List.set_cons_succ]
            refine wpLex_big (by rfl) rfl (fun K hK => ?_)
            go_simp
            go_at_call 18
            with_reducible refine (FU.out _ KC.out).mono ?_
            rintro e wn ⟨rfl, kn⟩
            clear KC
            have KC := Lib.hid kn
            have k0 := cell_keepB kn.below hbx C0.out
            have k1 := cell_keepB kn.below hbx C1.out
            clear kn
            refine hK.out _ _ ⟨k0, k1⟩ (fun _ => ?_)
            clear hK K
            refine wpLex_take (v := ?_) (by rfl) (Or.inl ⟨by rfl, ?_⟩) ?_
            rotate_left
            · intro w hSw; (try dsimp only at hSw); go_simp; try with_reducible rfl
            simp only [Act.put, List.setIfInBounds_toArray, List.set_cons_zero, List.set_cons_succ]
            refine wpLex_take (v := ?_) (by rfl) (Or.inl ⟨by rfl, ?_⟩) ?_
            rotate_left
            · intro w hSw; (try dsimp only at hSw); go_simp; try with_reducible rfl
            simp only [Act.put, List.setIfInBounds_toArray, List.set_cons_zero, List.set_cons_succ]
            refine wpLex_take (v := ?_) (by rfl) (Or.inl ⟨by rfl, ?_⟩) ?_
            rotate_left
            · intro w hSw; (try dsimp only at hSw); go_simp; try with_reducible rfl
            simp only [Act.put, List.setIfInBounds_toArray, List.set_cons_zero, List.set_cons_succ]
            refine wpLex_take (v := ?_) (by rfl) (Or.inl ⟨by rfl, ?_⟩) ?_
            rotate_left
            · intro w hSw; (try dsimp only at hSw); go_simp; try with_reducible rfl
            simp only [Act.put, List.setIfInBounds_toArray, List.set_cons_zero, List.set_cons_succ]
            refine wpLex_take (v := ?_) (by rfl) (Or.inl ⟨by rfl, ?_⟩) ?_
            rotate_left
            · intro w hSw; (try dsimp only at hSw); go_simp; try with_reducible rfl
            simp only [Act.put, List.setIfInBounds_toArray, List.set_cons_zero, List.set_cons_succ]
            refine wpLex_take (v := ?_) (by rfl) (Or.inl ⟨by rfl, ?_⟩) ?_
            rotate_left
            · intro w hSw; (try dsimp only at hSw); go_simp; try with_reducible rfl
            simp only [Act.put, List.setIfInBounds_toArray, List.set_cons_zero, List.set_cons_succ]
            refine wpLex_take (v := ?_) (by rfl) (Or.inl ⟨by rfl, ?_⟩) ?_
            rotate_left
            · intro w hSw; (try dsimp only at hSw); go_simp; try with_reducible rfl
            simp only [Act.put, List.setIfInBounds_toArray, List.set_cons_zero, List.set_cons_succ]
            refine wpLex_take (v := ?_) (by rfl) (Or.inl ⟨by rfl, ?_⟩) ?_
            rotate_left
            · intro w hSw; (try dsimp only at hSw); go_simp; try with_reducible rfl
            simp only [Act.put, List.setIfInBounds_toArray, List.set_cons_zero, List.set_cons_succ]
            refine wpLex_take (v := ?_) (by rfl) (Or.inl ⟨by rfl, ?_⟩) ?_
            rotate_left
            · intro w hSw; (try dsimp only at hSw); go_simp; try with_reducible rfl
            simp only [Act.put, List.setIfInBounds_toArray, List.set_cons_zero, List.set_cons_succ]
            refine wpLex_take (v := ?_) (by rfl) (Or.inl ⟨by rfl, ?_⟩) ?_
            rotate_left
            · intro w hSw; (try dsimp only at hSw); go_simp; try with_reducible rfl
            simp only [Act.put, List.setIfInBounds_toArray, List.set_cons_zero, List.set_cons_succ]
            refine wpLex_take (v := ?_) (by rfl) (Or.inl ⟨by rfl, ?_⟩) ?_
            rotate_left
            · intro w hSw; (try dsimp only at hSw); go_simp; try with_reducible rfl
            simp only [Act.put, List.setIfInBounds_toArray, List.set_cons_zero, List.set_cons_succ]
            refine wpLex_big (by rfl) rfl (fun K hK => ?_)
            go_simp
            go_at_call 18
            with_reducible refine (FI.out _ KC.out).mono ?_
            rintro e wn ⟨rfl, kn⟩
            clear KC
            have KC := Lib.hid kn
            have k0 := cell_keepB kn.below hbx C0.out
            have k1 := cell_keepB kn.below hbx C1.out
            clear kn
            refine hK.out _ _ ⟨k0, k1⟩ (fun _ => ?_)
            clear hK K
            refine wpLex_take (v := ?_) (by rfl) (Or.inl ⟨by rfl, ?_⟩) ?_
            rotate_left
            · intro w hSw; (try dsimp only at hSw); go_simp; try with_reducible rfl
            simp only [Act.put, List.setIfInBounds_toArray, List.set_cons_zero, List.set_cons_succ]
            refine wpLex_take (v := ?_) (by rfl) (Or.inl ⟨by rfl, ?_⟩) ?_
            rotate_left
            · intro w hSw; (try dsimp only at hSw); go_simp; try with_reducible rfl
            simp only [Act.put, List.setIfInBounds_toArray, List.set_cons_zero, List.set_cons_succ]
            refine wpLex_take (v := ?_) (by rfl) (Or.inl ⟨by rfl, ?_⟩) ?_
            rotate_left
            · intro w hSw; (try dsimp only at hSw); go_simp; try with_reducible rfl
            simp only [Act.put, List.setIfInBounds_toArray, List.set_cons_zero, List.set_cons_succ]
            refine wpLex_take (v := ?_) (by rfl) (Or.inl ⟨by rfl, ?_⟩) ?_
            rotate_left
            · intro w hSw; (try dsimp only at hSw); go_simp; try with_reducible rfl
            simp only [Act.put, List.setIfInBounds_toArray, List.set_cons_zero, List.set_cons_succ]
            refine wpLex_take (v := ?_) (by rfl) (Or.inl ⟨by rfl, ?_⟩) ?_
            rotate_left
            · intro w hSw; (try dsimp only at hSw); go_simp; try with_reducible rfl
            simp only [Act.put, List.setIfInBounds_toArray, List.set_cons_zero, List.set_cons_succ]
            refine wpLex_take (v := ?_) (by rfl) (Or.inl ⟨by rfl, ?_⟩) ?_
            rotate_left
            · intro w hSw; (try dsimp only at hSw); go_simp; try with_reducible rfl
            simp only [Act.put, List.setIfInBounds_toArray, List.set_cons_zero, List.set_cons_succ]
            refine wpLex_take (v := ?_) (by rfl) (Or.inl ⟨by rfl, ?_⟩) ?_
            rotate_left
            · intro w hSw; (try dsimp only at hSw); go_simp; try with_reducible rfl
            simp only [Act.put, List.setIfInBounds_toArray, List.set_cons_zero, List.set_cons_succ]
            refine wpLex_take (v := ?_) (by rfl) (Or.inl ⟨by rfl, ?_⟩) ?_
            rotate_left
            · intro w hSw; (try dsimp only at hSw); go_simp; try with_reducible rfl
            simp only [Act.put, List.setIfInBounds_toArray, List.set_cons_zero, List.set_cons_succ]
            refine wpLex_take (v := ?_) (by rfl) (Or.inl ⟨by rfl, ?_⟩) ?_
            rotate_left
            · intro w hSw; (try dsimp only at hSw); go_simp; try with_reducible rfl
            simp only [Act.put, List.setIfInBounds_toArray, List.set_cons_zero, List.set_cons_succ]
            refine wpLex_take (v := ?_) (by rfl) (Or.inl ⟨by rfl, ?_⟩) ?_
            rotate_left
            · intro w hSw; (try dsimp only at hSw); go_simp; try with_reducible rfl
            simp only [Act.put, List.setIfInBounds_toArray, List.set_cons_zero, List.set_cons_succ]
            refine wpLex_take (v := ?_) (by rfl) (Or.inl ⟨by rfl, ?_⟩) ?_
            rotate_left
            · intro w hSw; (try dsimp only at hSw); go_simp; try with_reducible rfl
            simp only [Act.put, List.setIfInBounds_toArray, List.set_cons_zero, List.set_cons_succ]
            refine wpLex_take (v := ?_) (by rfl) (Or.inl ⟨by rfl, ?_⟩) ?_
            rotate_left
            · intro w hSw; (try dsimp only at hSw); go_simp; try with_reducible rfl
            simp only [Act.put, List.setIfInBounds_toArray, List.set_cons_zero, List.set_cons_succ]
            refine wpLex_take (v := ?_) (by rfl) (Or.inl ⟨by rfl, ?_⟩) ?_
            rotate_left
            · intro w hSw; (try dsimp only at hSw); go_simp; try with_reducible rfl
            simp only [Act.put, List.setIfInBounds_toArray, List.set_cons_zero, List.set_cons_succ]
            refine wpLex_big (by rfl) rfl (fun K hK => ?_)
            go_simp
            go_at_call 18
            with_reducible refine (FM.out _ KC.out).mono ?_
            rintro e wn ⟨rfl, kn⟩
            clear KC
            have KC := Lib.hid kn
            have k0 := cell_keepB kn.below hbx C0.out
            have k1 := cell_keepB kn.below hbx C1.out
            clear kn
            refine hK.out _ _ ⟨k0, k1⟩ (fun _ => ?_)
            clear hK K
            refine wpLex_take (v := ?_) (by rfl) (Or.inl ⟨by rfl, ?_⟩) ?_
            rotate_left
            · intro w hSw; (try dsimp only at hSw); go_simp; try with_reducible rfl
            simp only [Act.put, List.setIfInBounds_toArray, List.set_cons_zero, List.set_cons_succ]
            refine wpLex_take (v := ?_) (by rfl) (Or.inl ⟨by rfl, ?_⟩) ?_
            rotate_left
            · intro w hSw; (try dsimp only at hSw); go_simp; try with_reducible rfl
            simp only [Act.put, List.setIfInBounds_toArray, List.set_cons_zero, List.set_cons_succ]
            refine wpLex_take (v := ?_) (by rfl) (Or.inl ⟨by rfl, ?_⟩) ?_
            rotate_left
            · intro w hSw; (try dsimp only at hSw); go_simp; try with_reducible rfl
            simp only [Act.put, List.setIfInBounds_toArray, List.set_cons_zero, List.set_cons_succ]
            refine wpLex_take (v := ?_) (by rfl) (Or.inl ⟨by rfl, ?_⟩) ?_
            rotate_left
            · intro w hSw; (try dsimp only at hSw); go_simp; try with_reducible rfl
            simp only [Act.put, List.setIfInBounds_toArray, List.set_cons_zero, List.set_cons_succ]
            refine wpLex_take (v := ?_) (by rfl) (Or.inl ⟨by rfl, ?_⟩) ?_
            rotate_left
            · intro w hSw; (try dsimp only at hSw); go_simp; try with_reducible rfl
            simp only [Act.put, List.setIfInBounds_toArray, List.set_cons_zero, List.set_cons_succ]
            refine wpLex_take (v := ?_) (by rfl) (Or.inl ⟨by rfl, ?_⟩) ?_
            rotate_left
            · intro w hSw; (try dsimp only at hSw); go_simp; try with_reducible rfl
            simp only [Act.put, List.setIfInBounds_toArray, List.set_cons_zero, List.set_cons_succ]
            refine wpLex_take (v := ?_) (by rfl) (Or.inl ⟨by rfl, ?_⟩) ?_
            rotate_left
            · intro w hSw; (try dsimp only at hSw); go_simp; try with_reducible rfl
            simp only [Act.put, List.setIfInBounds_toArray, List.set_cons_zero, List.set_cons_succ]
            refine wpLex_take (v := ?_) (by rfl) (Or.inl ⟨by rfl, ?_⟩) ?_
            rotate_left
            · intro w hSw; (try dsimp only at hSw); go_simp; try with_reducible rfl
            simp only [Act.put, List.setIfInBounds_toArray, List.set_cons_zero, List.set_cons_succ]
            refine wpLex_take (v := ?_) (by rfl) (Or.inl ⟨by rfl, ?_⟩) ?_
            rotate_left
            · intro w hSw; (try dsimp only at hSw); go_simp; try with_reducible rfl
            simp only [Act.put, List.setIfInBounds_toArray, List.set_cons_zero, List.set_cons_succ]
            refine wpLex_take (v := ?_) (by rfl) (Or.inl ⟨by rfl, ?_⟩) ?_
            rotate_left
            · intro w hSw; (try dsimp only at hSw); go_simp; try with_reducible rfl
            simp only [Act.put, List.setIfInBounds_toArray, List.set_cons_zero, List.set_cons_succ]
            refine wpLex_take (v := ?_) (by rfl) (Or.inl ⟨by rfl, ?_⟩) ?_
            rotate_left
            · intro w hSw; (try dsimp only at hSw); go_simp; try with_reducible rfl
            simp only [Act.put, List.setIfInBounds_toArray, List.set_cons_zero, List.set_cons_succ]
            refine wpLex_take (v := ?_) (by rfl) (Or.inl ⟨by rfl, ?_⟩) ?_
            rotate_left
            · intro w hSw; (try dsimp only at hSw); go_simp; try with_reducible rfl
            simp only [Act.put, List.setIfInBounds_toArray, List.set_cons_zero, List.set_cons_succ]
            refine wpLex_take (v := ?_) (by rfl) (Or.inl ⟨by rfl, ?_⟩) ?_
            rotate_left
            · intro w hSw; (try dsimp only at hSw); go_simp; try with_reducible rfl
            simp only [Act.put, List.setIfInBounds_toArray, List.set_cons_zero, List.set_cons_succ]
            refine wpLex_take (v := ?_) (by rfl) (Or.inl ⟨by rfl, ?_⟩) ?_
            rotate_left
            · intro w hSw; (try dsimp only at hSw); go_simp; try with_reducible rfl
            simp only [Act.put, List.setIfInBounds_toArray, List.set_cons_zero, List.set_cons_succ]
            refine wpLex_big (by rfl) rfl (fun K hK => ?_)
            go_simp
            go_at_call 19
            with_reducible refine (FD.out _ KC.out).mono ?_
            rintro e wn ⟨rfl, kn⟩
            clear KC
            have KC := Lib.hid kn
            have k0 := cell_keepB kn.below hbx C0.out
            have k1 := cell_keepB kn.below hbx C1.out
            clear kn
            refine hK.out _ _ ⟨k0, k1⟩ (fun _ => ?_)
            clear hK K
            refine wpLex_big (by rfl) rfl (fun K hK => ?_)
            go_simp
            go_at_call 18
            with_reducible refine (FW.out _ KC.out).mono ?_
            rintro e wn ⟨rfl, kn⟩
            clear KC
            have KC := Lib.hid kn
            have k0 := cell_keepB kn.below hbx C0.out
            have k1 := cell_keepB kn.below hbx C1.out
            clear kn
            refine hK.out _ _ ⟨k0, k1⟩ (fun _ => ?_)
            clear hK K
            refine wpLex_take (v := ?_) (by rfl) (Or.inl ⟨by rfl, ?_⟩) ?_
            rotate_left
            · intro w hSw; (try dsimp only at hSw); go_simp; try with_reducible rfl
            simp only [Act.put, List.setIfInBounds_toArray, List.set_cons_zero, List.set_cons_succ]
            refine wpLex_take (v := ?_) (by rfl) (Or.inl ⟨by rfl, ?_⟩) ?_
            rotate_left
            · intro w hSw; (try dsimp only at hSw); go_simp; try with_reducible rfl
            simp only [Act.put, List.setIfInBounds_toArray, List.set_cons_zero, List.set_cons_succ]
            refine wpLex_take (v := ?_) (by rfl) (Or.inl ⟨by rfl, ?_⟩) ?_
            rotate_left
            · intro w hSw; (try dsimp only at hSw); go_simp; try with_reducible rfl
            simp only [Act.put, List.setIfInBounds_toArray, List.set_cons_zero, List.set_cons_succ]
            refine wpLex_take (v := ?_) (by rfl) (Or.inl ⟨by rfl, ?_⟩) ?_
            rotate_left
            · intro w hSw; (try dsimp only at hSw); go_simp; try with_reducible rfl
            simp only [Act.put, List.setIfInBounds_toArray, List.set_cons_zero, List.set_cons_succ]
            refine wpLex_take (v := ?_) (by rfl) (Or.inl ⟨by rfl, ?_⟩) ?_
            rotate_left
            · intro w hSw; (try dsimp only at hSw); go_simp; try with_reducible rfl
            simp only [Act.put, List.setIfInBounds_toArray, List.set_cons_zero, List.set_cons_succ]
            refine wpLex_take (v := ?_) (by rfl) (Or.inl ⟨by rfl, ?_⟩) ?_
            rotate_left
            · intro w hSw; (try dsimp only at hSw); go_simp; try with_reducible rfl
            simp only [Act.put, List.setIfInBounds_toArray, List.set_cons_zero, List.set_cons_succ]
            refine wpLex_take (v := ?_) (by rfl) (Or.inl ⟨by rfl, ?_⟩) ?_
            rotate_left
            · intro w hSw; (try dsimp only at hSw); go_simp; try with_reducible rfl
            simp only [Act.put, List.setIfInBounds_toArray, List.set_cons_zero, List.set_cons_succ]
            refine wpLex_take (v := ?_) (by rfl) (Or.inl ⟨by rfl, ?_⟩) ?_
            rotate_left
            · intro w hSw; (try dsimp only at hSw); go_simp; try with_reducible rfl
            simp only [Act.put, List.setIfInBounds_toArray, List.set_cons_zero, List.set_cons_succ]
            refine wpLex_take (v := ?_) (by rfl) (Or.inl ⟨by rfl, ?_⟩) ?_
            rotate_left
            · intro w hSw; (try dsimp only at hSw); go_simp; try with_reducible rfl
            simp only [Act.put, List.setIfInBounds_toArray, List.set_cons_zero, List.set_cons_succ]
            refine wpLex_take (v := ?_) (by rfl) (Or.inl ⟨by rfl, ?_⟩) ?_
            rotate_left
            · intro w hSw; (try dsimp only at hSw); go_simp; try with_reducible rfl
            simp only [Act.put, List.setIfInBounds_toArray, List.set_cons_zero, List.set_cons_succ]
            refine wpLex_take (v := ?_) (by rfl) (Or.inl ⟨by rfl, ?_⟩) ?_
            rotate_left
            · intro w hSw; (try dsimp only at hSw); go_simp; try with_reducible rfl
            simp only [Act.put, List.setIfInBounds_toArray, List.set_cons_zero, List.set_cons_succ]
            refine wpLex_take (v := ?_) (by rfl) (Or.inl ⟨by rfl, ?_⟩) ?_
            rotate_left
            · intro w hSw; (try dsimp only at hSw); go_simp; try with_reducible rfl
            simp only [Act.put, List.setIfInBounds_toArray, List.set_cons_zero, List.set_cons_succ]
            refine wpLex_take (v := ?_) (by rfl) (Or.inl ⟨by rfl, ?_⟩) ?_
            rotate_left
            · intro w hSw; (try dsimp only at hSw); go_simp; try with_reducible rfl
            simp only [Act.put, List.setIfInBounds_toArray, List.set_cons_zero, List.set_cons_succ]
            refine wpLex_big (by rfl) rfl (fun K hK => ?_)
            go_simp
            go_at_call 19
            with_reducible refine (FZ.out _ KC.out).mono ?_
            rintro e wn ⟨rfl, kn⟩
            clear KC
            have KC := Lib.hid kn
            have k0 := cell_keepB kn.below hbx C0.out
            have k1 := cell_keepB kn.below hbx C1.out
            clear kn
            refine hK.out _ _ ⟨k0, k1⟩ (fun _ => ?_)
            clear hK K
            refine wpLex_big (by rfl) rfl (fun K hK => ?_)
            go_simp
            go_at_call 18
            with_reducible refine (FA.out _ KC.out).mono ?_
            rintro e wn ⟨rfl, kn⟩
            clear KC
            have KC := Lib.hid kn
            have k0 := cell_keepB kn.below hbx C0.out
            have k1 := cell_keepB kn.below hbx C1.out
            clear kn
            refine hK.out _ _ ⟨k0, k1⟩ (fun _ => ?_)
            clear hK K
            refine wpLex_take (v := ?_) (by rfl) (Or.inl ⟨by rfl, ?_⟩) ?_
            rotate_left
            · intro w hSw; (try dsimp only at hSw); go_simp; try with_reducible rfl
            simp only [Act.put, List.setIfInBounds_toArray, List.set_cons_zero, List.set_cons_succ]
            refine wpLex_take (v := ?_) (by rfl) (Or.inl ⟨by rfl, ?_⟩) ?_
            rotate_left
            · intro w hSw; (try dsimp only at hSw); go_simp; try with_reducible rfl
            simp only [Act.put, List.setIfInBounds_toArray, List.set_cons_zero, List.set_cons_succ]
            refine wpLex_nil ?_
            refine NoPanic.normal ?_
            go_wp2
            go_roundw
            case rel => exact ⟨k + 1, by omega, by go_num, HQ.out.trans (KC.out.below.mono HQ.out.size)⟩
            case measure => simp [intOf]; omega
        · have hdk : decide ((k : Int) < (np : Int)) = false := by simp; omega
          have KE := Lib.hid (KP.out.step hBq)
          go_wp2
          go_ret
          exact ⟨rfl, KE.out.below⟩
end Go.Proofs.YtbpkfpkhnkcgkaaDoorR
