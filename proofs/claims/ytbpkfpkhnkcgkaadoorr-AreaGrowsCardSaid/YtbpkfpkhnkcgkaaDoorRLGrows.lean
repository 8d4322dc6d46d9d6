/- AreaGrows: the walk of the law. The conditions: what the slices read as, ranges, the table of bits.TrailingZeros64. -/
import Derived.Test.YtbpkfpkhnkcgkaaDoorRWSane
import Derived.Test.YtbpkfpkhnkcgkaaDoorRWB1
import Derived.Test.YtbpkfpkhnkcgkaaDoorRPA4
namespace Go.Proofs.YtbpkfpkhnkcgkaaDoorR
open Go.RowKit Go.BigFrame

/-- What is said of growing. -/
theorem grows_facts {A B : List R4} {p q : Nat → Nat → Bool} (aA : Ar A p 2) (aB : Ar B q 2) (d e : Nat) (hd : d < 33) (he : e < 32) : ∃ one two none whole U V W,
    growS A (d : Nat) = (one, 0) ∧ growS one (e : Nat) = (two, 0) ∧ growS A (((d : Nat) : Int) + ((e : Nat) : Int)) = (two, 0) ∧ growS A 0 = (none, 0) ∧ growS A 63 = (whole, 0) ∧ decide (two = two) = true ∧ decide (none = A) = true ∧ withinS one two = true ∧ withinS A one = true ∧
      (A ≠ [] → decide (whole = wholeS) = true) ∧ (A = [] → whole = []) ∧ unionS A B = (U, 0) ∧ growS U (d : Nat) = (V, 0) ∧ growS B (d : Nat) = (W, 0) ∧ unionS one W = (V, 0) ∧ decide (V = V) = true := by
  obtain ⟨one, e1, i1⟩ := grow_is aA.is d (by omega) (fun _ _ _ _ => rfl) (aA.few.dil100 (by omega) d)
  have h2 : (rectsS (dil (d + e) p)).length ≤ 100 := aA.few.dil100 (by omega) _
  obtain ⟨two, e2, i2⟩ := grow_is i1 e (by omega) (dil_dil d e p) h2
  obtain ⟨all, e3, i3⟩ := grow_is aA.is (d + e) (by omega) (fun _ _ _ _ => rfl) h2
  obtain rfl : all = two := (area_eq i3 i2).2 (fun _ _ _ _ => rfl)
  obtain ⟨none, e4, i4⟩ := grow_is aA.is 0 (by omega) (dil_zero p) (aA.few.count100 (by omega))
  obtain ⟨whole, e5, i5⟩ := grow_is aA.is 63 (by omega) (fun _ _ _ _ => rfl) (aA.few.dil100 (by omega) 63)
  obtain ⟨U, e6, aU⟩ := aA.union aB (by omega)
  obtain ⟨V, e7, i7⟩ := grow_is aU.is d (by omega) (fun _ _ _ _ => rfl) (aU.few.dil100 (by omega) d)
  obtain ⟨W, e8, i8⟩ := grow_is aB.is d (by omega) (fun _ _ _ _ => rfl) (aB.few.dil100 (by omega) d)
  have hdo : (fun y x => dil d p y x || dil d q y x) = dil d (fun y x => p y x || q y x) := by funext y x; exact (dil_or d p q y x).symm
  obtain ⟨z1, z2⟩ := combine_ok (o := fun a b => a || b) orF_bit i1 i8 (by rw [hdo]; exact aU.few.dil100 (by omega) d)
  rw [hdo] at z2
  have z3 : (unionS one W).1 = V := (area_eq z2 i7).2 (fun _ _ _ _ => rfl)
  refine ⟨one, all, none, whole, U, V, W, e1, e2, by rw [← Int.natCast_add]; exact e3, e4, e5, by simp, same_true i4 aA.is (fun _ _ _ _ => rfl), within_true i1 i2 ?_, within_true aA.is i1 ?_, fun hne => same_true i5 whole_is.is ?_, fun h0 => ?_, e6, e7, e8, Prod.ext z3 z1, by simp⟩
  · intro y x hy hx h
    rw [← dil_dil d e p y x hy hx]
    exact dil_mono e _ y x hy hx h
  · exact fun y x hy hx h => dil_mono d p y x hy hx h
  · intro y x hy hx
    rw [dil_whole p y x hy hx]
    apply Classical.byContradiction
    intro hn
    apply hne
    rw [area_nil_iff aA.is]
    intro v u hv hu
    cases h : p v u
    · rfl
    · exact absurd ⟨v, u, hv, hu, h⟩ hn
  · rw [area_nil_iff i5]
    have h1 := (area_nil_iff aA.is).1 h0
    intro y x hy hx
    cases h : dil 63 p y x
    · rfl
    · obtain ⟨v, u, hv, hu, h2⟩ := (dil_whole p y x hy hx).1 h
      rw [h1 v u hv hu] at h2; cases h2

set_option maxHeartbeats 12000000 in
set_option maxRecDepth 100000 in
theorem grows_law {w : World} {vx vy : Value} {xs ys : List R4} (d more : Int) (hx : RS w vx xs) (hy : RS w vy ys) (ix : ∀ q ∈ xs, Int4 q) (iy : ∀ q ∈ ys, Int4 q) (id : I64 d) (im : I64 more) (he : Env w) :
    Calls Tryd.prog 7 #[vx, vy, .int .i64 d, .int .i64 more] w fun e w' => e = .returned (.bool true) ∧ Below w.heap.size w w' := by
  obtain ⟨ax, cx, rfl, lx, mx, _⟩ := hx.opened
  unfold maxLen at mx
  obtain ⟨nx, hnx⟩ : ∃ n, n = xs.length := ⟨_, rfl⟩
  rw [← hnx] at lx hx ⊢
  obtain ⟨tx, tx1, tx2, tx3⟩ : ∃ t : Nat, t ≤ nx ∧ t ≤ 2 ∧ (if (2 : Int) < (nx : Int) then 2 else (nx : Int)) = (t : Int) := cut_min nx 2
  have Rx := hx.cut tx tx1
  have Ix := Lib.hid (fun q (hq : q ∈ xs.take tx) => ix q (List.mem_of_mem_take hq))
  have Lx := Lib.hid (show (xs.take tx).length ≤ 2 from by rw [List.length_take]; omega)
  generalize xs.take tx = Tx at *
  clear hx ix hnx
  obtain ⟨ay, cy, rfl, ly, my, _⟩ := hy.opened
  unfold maxLen at my
  obtain ⟨ny, hny⟩ : ∃ n, n = ys.length := ⟨_, rfl⟩
  rw [← hny] at ly hy ⊢
  obtain ⟨ty, ty1, ty2, ty3⟩ : ∃ t : Nat, t ≤ ny ∧ t ≤ 2 ∧ (if (2 : Int) < (ny : Int) then 2 else (ny : Int)) = (t : Int) := cut_min ny 2
  have Ry := hy.cut ty ty1
  have Iy := Lib.hid (fun q (hq : q ∈ ys.take ty) => iy q (List.mem_of_mem_take hq))
  have Ly := Lib.hid (show (ys.take ty).length ≤ 2 from by rw [List.length_take]; omega)
  generalize ys.take ty = Ty at *
  clear hy iy hny
  have K0 := Lib.hid (((Know.start he).put Rx).put Ry)
  clear Rx Ry he
  obtain ⟨A, eA⟩ : ∃ X, madeS Tx = X := ⟨_, rfl⟩
  have aA := made_ar Tx 2 Lx.out (by omega)
  rw [eA] at aA
  generalize madeP Tx = pA at *
  have EA := Lib.hid eA
  clear eA
  obtain ⟨B, eB⟩ : ∃ X, madeS Ty = X := ⟨_, rfl⟩
  have aB := made_ar Ty 2 Ly.out (by omega)
  rw [eB] at aB
  generalize madeP Ty = pB at *
  have EB := Lib.hid eB
  clear eB
  obtain ⟨d1, d2⟩ := pickS_rng d 33 (by omega)
  obtain ⟨m1, m2⟩ := pickS_rng more 32 (by omega)
  obtain ⟨dd, hdd⟩ := Int.eq_ofNat_of_zero_le d1
  obtain ⟨mm, hmm⟩ := Int.eq_ofNat_of_zero_le m1
  rw [hdd] at d2; rw [hmm] at m2
  clear d1 m1
  obtain ⟨one, two, none, whole, U, V, W, f1, f2, f3, f4, f5, f6, f7, f8, f9, f10, f11, f12, f13, f14, f15, f16⟩ := grows_facts aA aB dd mm (by omega) (by omega)
  clear aA aB
  have Hf1 := Lib.hid f1
  have Hf2 := Lib.hid f2
  have Hf3 := Lib.hid f3
  have Hf4 := Lib.hid f4
  have Hf5 := Lib.hid f5
  have Hf6 := Lib.hid f6
  have Hf7 := Lib.hid f7
  have Hf8 := Lib.hid f8
  have Hf9 := Lib.hid f9
  have Hf10 := Lib.hid f10
  have Hf11 := Lib.hid f11
  have Hf12 := Lib.hid f12
  have Hf13 := Lib.hid f13
  have Hf14 := Lib.hid f14
  have Hf15 := Lib.hid f15
  have Hf16 := Lib.hid f16
  have Hhdd := Lib.hid hdd
  have Hhmm := Lib.hid hmm
  have Hid := Lib.hid id
  have Him := Lib.hid im
  clear f1 f2 f3 f4 f5 f6 f7 f8 f9 f10 f11 f12 f13 f14 f15 f16 hdd hmm id im
  go_enter Tryd.func7, Tryd.ntmps7
  go_wp2_with fail
  refine (sane_at K0.out).mono ?_
  rintro e w1 ⟨rfl, k1⟩
  have K1 := Lib.hid k1
  clear k1
  clear K0
  go_wp2_with fail
  refine (made_at K1.out (K1.out.all 0 _ _ rfl) Ix.out EA.out).mono ?_
  rintro e w2 ⟨r2, rfl, k2⟩
  have K2 := Lib.hid k2
  clear k2
  clear K1
  go_wp2_with fail
  refine (made_at K2.out (K2.out.all 1 _ _ rfl) Iy.out EB.out).mono ?_
  rintro e w3 ⟨r3, rfl, k3⟩
  have K3 := Lib.hid k3
  clear k3
  clear K2
  go_wp2_with fail
  refine (pick_any d 33 _ Hid.out (by omega) (by omega)).mono ?_
  rintro e wp ⟨rfl, rfl⟩
  rw [Hhdd.out]
  go_wp2_with fail
  refine (pick_any more 32 _ Him.out (by omega) (by omega)).mono ?_
  rintro e wp ⟨rfl, rfl⟩
  rw [Hhmm.out]
  go_wp2_with fail
  refine (grow_at K3.out 2 _ 0 (by unfold I64; omega) Hf1.out rfl).mono ?_
  rintro e w4 ⟨r4, rfl, k4⟩
  have K4 := Lib.hid k4
  clear k4
  clear K3
  go_wp2_with fail
  refine (grow_at K4.out 4 _ 0 (by unfold I64; omega) Hf2.out rfl).mono ?_
  rintro e w5 ⟨r5, rfl, k5⟩
  have K5 := Lib.hid k5
  clear k5
  clear K4
  go_wp2_with fail
  refine (grow_at K5.out 2 _ 0 (by unfold I64; omega) Hf3.out rfl).mono ?_
  rintro e w6 ⟨r6, rfl, k6⟩
  have K6 := Lib.hid k6
  clear k6
  clear K5
  go_wp2_with fail
  refine (grow_at K6.out 2 0 0 (by unfold I64; omega) Hf4.out rfl).mono ?_
  rintro e w7 ⟨r7, rfl, k7⟩
  have K7 := Lib.hid k7
  clear k7
  clear K6
  go_wp2_with fail
  refine (grow_at K7.out 2 63 0 (by unfold I64; omega) Hf5.out rfl).mono ?_
  rintro e w8 ⟨r8, rfl, k8⟩
  have K8 := Lib.hid k8
  clear k8
  clear K7
  go_wp2_with fail
  refine (same_at K8.out 5 6 true (by simp) rfl rfl).mono ?_
  rintro e w9 ⟨rfl, k9⟩
  have K9 := Lib.hid k9
  clear k9
  clear K8
  go_wp2_with fail
  refine (same_at K9.out 7 2 true Hf7.out rfl rfl).mono ?_
  rintro e w10 ⟨rfl, k10⟩
  have K10 := Lib.hid k10
  clear k10
  clear K9
  go_wp2_with fail
  refine (within_at K10.out 4 5 true Hf8.out rfl rfl).mono ?_
  rintro e w11 ⟨rfl, k11⟩
  have K11 := Lib.hid k11
  clear k11
  clear K10
  go_wp2_with fail
  refine (within_at K11.out 2 4 true Hf9.out rfl rfl).mono ?_
  rintro e w12 ⟨rfl, k12⟩
  have K12 := Lib.hid k12
  clear k12
  clear K11
  obtain ⟨aM, cM, hvM, _, _, _⟩ := (K12.out.all 2 _ _ rfl).opened
  subst hvM
  obtain ⟨nM, hnM⟩ : ∃ n, n = A.length := ⟨_, rfl⟩
  rw [← hnM] at K12 ⊢
  have HnM := Lib.hid hnM
  clear hnM
  by_cases hz : nM = 0
  · subst hz
    have hA0 : A = [] := List.eq_nil_of_length_eq_zero HnM.out.symm
    have hw0 := Hf11.out hA0
    obtain ⟨aN, cN, hvN, _, _, _⟩ := (K12.out.all 8 _ _ rfl).opened
    rw [hw0] at hvN
    simp only [List.length_nil] at hvN
    subst hvN
    have HA0 := Lib.hid hA0
    have HW0 := Lib.hid hw0
    clear hA0 hw0
    go_wp2_with fail
    refine (union_at K12.out 2 3 0 Hf12.out rfl rfl).mono ?_
    rintro e w13 ⟨r13, rfl, k13⟩
    have K13 := Lib.hid k13
    clear k13
    clear K12
    go_wp2_with fail
    refine (grow_at K13.out 9 _ 0 (by unfold I64; omega) Hf13.out rfl).mono ?_
    rintro e w14 ⟨r14, rfl, k14⟩
    have K14 := Lib.hid k14
    clear k14
    clear K13
    go_wp2_with fail
    refine (grow_at K14.out 3 _ 0 (by unfold I64; omega) Hf14.out rfl).mono ?_
    rintro e w15 ⟨r15, rfl, k15⟩
    have K15 := Lib.hid k15
    clear k15
    clear K14
    go_wp2_with fail
    refine (union_at K15.out 4 11 0 Hf15.out rfl rfl).mono ?_
    rintro e w16 ⟨r16, rfl, k16⟩
    have K16 := Lib.hid k16
    clear k16
    clear K15
    go_wp2_with fail
    refine (same_at K16.out 10 12 true (by simp) rfl rfl).mono ?_
    rintro e w17 ⟨rfl, k17⟩
    have K17 := Lib.hid k17
    clear k17
    clear K16
    go_wp2
    go_ret
    exact ⟨rfl, K17.out.below⟩
  · have hpos : 0 < nM := by omega
    have hz0 : decide ((0 : Int) < (nM : Int)) = true := by simp; omega
    have hz1 : ((nM : Int) == 0) = false := by simp; omega
    go_wp2_with fail
    refine (whole_at K12.out rfl).mono ?_
    rintro e w13 ⟨r13, rfl, k13⟩
    have K13 := Lib.hid k13
    clear k13
    clear K12
    go_wp2_with fail
    refine (same_at K13.out 8 9 true (Hf10.out (by intro e; rw [e] at HnM; exact absurd HnM.out hz)) rfl rfl).mono ?_
    rintro e w14 ⟨rfl, k14⟩
    have K14 := Lib.hid k14
    clear k14
    clear K13
    go_wp2_with fail
    refine (union_at K14.out 2 3 0 Hf12.out rfl rfl).mono ?_
    rintro e w15 ⟨r15, rfl, k15⟩
    have K15 := Lib.hid k15
    clear k15
    clear K14
    go_wp2_with fail
    refine (grow_at K15.out 10 _ 0 (by unfold I64; omega) Hf13.out rfl).mono ?_
    rintro e w16 ⟨r16, rfl, k16⟩
    have K16 := Lib.hid k16
    clear k16
    clear K15
    go_wp2_with fail
    refine (grow_at K16.out 3 _ 0 (by unfold I64; omega) Hf14.out rfl).mono ?_
    rintro e w17 ⟨r17, rfl, k17⟩
    have K17 := Lib.hid k17
    clear k17
    clear K16
    go_wp2_with fail
    refine (union_at K17.out 4 12 0 Hf15.out rfl rfl).mono ?_
    rintro e w18 ⟨r18, rfl, k18⟩
    have K18 := Lib.hid k18
    clear k18
    clear K17
    go_wp2_with fail
    refine (same_at K18.out 11 13 true (by simp) rfl rfl).mono ?_
    rintro e w19 ⟨rfl, k19⟩
    have K19 := Lib.hid k19
    clear k19
    clear K18
    go_wp2
    go_ret
    exact ⟨rfl, K19.out.below⟩
end Go.Proofs.YtbpkfpkhnkcgkaaDoorR
