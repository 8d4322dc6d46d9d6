/- AreaWithin: the walk of the law. The conditions: what the slices read as, the table of bits.TrailingZeros64. -/
import Derived.Test.YtbpkfpkhnkcgkaaDoorRWSane
import Derived.Test.YtbpkfpkhnkcgkaaDoorRWB1
import Derived.Test.YtbpkfpkhnkcgkaaDoorRPA4
namespace Go.Proofs.YtbpkfpkhnkcgkaaDoorR
open Go.RowKit Go.BigFrame

set_option maxHeartbeats 8000000 in
set_option maxRecDepth 100000 in
theorem within_law {w : World} {vx vy vz : Value} {xs ys zs : List R4} (hx : RS w vx xs) (hy : RS w vy ys) (hz : RS w vz zs) (ix : ∀ q ∈ xs, Int4 q) (iy : ∀ q ∈ ys, Int4 q) (iz : ∀ q ∈ zs, Int4 q) (he : Env w) :
    Calls Tryd.prog 8 #[vx, vy, vz] w fun e w' => e = .returned (.bool true) ∧ Below w.heap.size w w' := by
  obtain ⟨ax, cx, rfl, lx, mx, _⟩ := hx.opened
  unfold maxLen at mx
  obtain ⟨nx, hnx⟩ : ∃ n, n = xs.length := ⟨_, rfl⟩
  rw [← hnx] at lx hx ⊢
  obtain ⟨tx, tx1, tx2, tx3⟩ : ∃ t : Nat, t ≤ nx ∧ t ≤ 2 ∧ (if (2 : Int) < (nx : Int) then 2 else (nx : Int)) = (t : Int) := cut_min nx 2
  have Rx := hx.cut tx tx1
  have Ix := Lib.hid (fun q (hq : q ∈ xs.take tx) => ix q (List.mem_of_mem_take hq))
  have Lx := Lib.hid (show (xs.take tx).length ≤ 2 from by rw [List.length_take]; omega)
  generalize xs.take tx = Tx at *
  clear hx ix hnx
  obtain ⟨ay, cy, rfl, ly, my, _⟩ := hy.opened
  unfold maxLen at my
  obtain ⟨ny, hny⟩ : ∃ n, n = ys.length := ⟨_, rfl⟩
  rw [← hny] at ly hy ⊢
  obtain ⟨ty, ty1, ty2, ty3⟩ : ∃ t : Nat, t ≤ ny ∧ t ≤ 2 ∧ (if (2 : Int) < (ny : Int) then 2 else (ny : Int)) = (t : Int) := cut_min ny 2
  have Ry := hy.cut ty ty1
  have Iy := Lib.hid (fun q (hq : q ∈ ys.take ty) => iy q (List.mem_of_mem_take hq))
  have Ly := Lib.hid (show (ys.take ty).length ≤ 2 from by rw [List.length_take]; omega)
  generalize ys.take ty = Ty at *
  clear hy iy hny
  obtain ⟨az, cz, rfl, lz, mz, _⟩ := hz.opened
  unfold maxLen at mz
  obtain ⟨nz, hnz⟩ : ∃ n, n = zs.length := ⟨_, rfl⟩
  rw [← hnz] at lz hz ⊢
  obtain ⟨tz, tz1, tz2, tz3⟩ : ∃ t : Nat, t ≤ nz ∧ t ≤ 2 ∧ (if (2 : Int) < (nz : Int) then 2 else (nz : Int)) = (t : Int) := cut_min nz 2
  have Rz := hz.cut tz tz1
  have Iz := Lib.hid (fun q (hq : q ∈ zs.take tz) => iz q (List.mem_of_mem_take hq))
  have Lz := Lib.hid (show (zs.take tz).length ≤ 2 from by rw [List.length_take]; omega)
  generalize zs.take tz = Tz at *
  clear hz iz hnz
  have K0 := Lib.hid ((((Know.start he).put Rx).put Ry).put Rz)
  clear Rx Ry Rz he
  obtain ⟨A, eA⟩ : ∃ X, madeS Tx = X := ⟨_, rfl⟩
  have aA := made_ar Tx 2 Lx.out (by omega)
  rw [eA] at aA
  generalize madeP Tx = pA at *
  have EA := Lib.hid eA
  clear eA
  obtain ⟨B, eB⟩ : ∃ X, madeS Ty = X := ⟨_, rfl⟩
  have aB := made_ar Ty 2 Ly.out (by omega)
  rw [eB] at aB
  generalize madeP Ty = pB at *
  have EB := Lib.hid eB
  clear eB
  obtain ⟨C, eC⟩ : ∃ X, madeS Tz = X := ⟨_, rfl⟩
  have aC := made_ar Tz 2 Lz.out (by omega)
  rw [eC] at aC
  generalize madeP Tz = pC at *
  have EC := Lib.hid eC
  clear eC
  obtain ⟨M, eM, aM⟩ := aA.minus aB (by omega)
  obtain ⟨U, eU, aU⟩ := aA.union aB (by omega)
  obtain ⟨I, eI, aI⟩ := aA.common aB (by omega)
  obtain ⟨W, eW, aW⟩ := aU.union aC (by omega)
  obtain ⟨X, eX, aX⟩ := aU.common aC (by omega)
  obtain ⟨is, ba, bc, ac, f1, f2, f3, f4, f5, f6, f7, f8, f9, f10, f11, f12, f13, f14, f15, f16⟩ := within_facts aA.is aB.is aC.is aM.is aU.is aI.is aW.is
  clear aA aB aC aM aU aI aW aX
  have HeM := Lib.hid eM
  have HeU := Lib.hid eU
  have HeI := Lib.hid eI
  have HeW := Lib.hid eW
  have HeX := Lib.hid eX
  have Hf1 := Lib.hid f1
  have Hf2 := Lib.hid f2
  have Hf3 := Lib.hid f3
  have Hf4 := Lib.hid f4
  have Hf5 := Lib.hid f5
  have Hf6 := Lib.hid f6
  have Hf7 := Lib.hid f7
  have Hf8 := Lib.hid f8
  have Hf9 := Lib.hid f9
  have Hf10 := Lib.hid f10
  have Hf11 := Lib.hid f11
  have Hf12 := Lib.hid f12
  have Hf13 := Lib.hid f13
  have Hf14 := Lib.hid f14
  have Hf15 := Lib.hid f15
  have Hf16 := Lib.hid f16
  clear eM eU eI eW eX f1 f2 f3 f4 f5 f6 f7 f8 f9 f10 f11 f12 f13 f14 f15 f16
  go_enter Tryd.func8, Tryd.ntmps8
  go_wp2_with fail
  refine (sane_at K0.out).mono ?_
  rintro e w1 ⟨rfl, k1⟩
  have K1 := Lib.hid k1
  clear k1
  clear K0
  go_wp2_with fail
  refine (made_at K1.out (K1.out.all 0 _ _ rfl) Ix.out EA.out).mono ?_
  rintro e w2 ⟨r2, rfl, k2⟩
  have K2 := Lib.hid k2
  clear k2
  clear K1
  go_wp2_with fail
  refine (made_at K2.out (K2.out.all 1 _ _ rfl) Iy.out EB.out).mono ?_
  rintro e w3 ⟨r3, rfl, k3⟩
  have K3 := Lib.hid k3
  clear k3
  clear K2
  go_wp2_with fail
  refine (made_at K3.out (K3.out.all 2 _ _ rfl) Iz.out EC.out).mono ?_
  rintro e w4 ⟨r4, rfl, k4⟩
  have K4 := Lib.hid k4
  clear k4
  clear K3
  go_wp2_with fail
  refine (minus_at K4.out 3 4 0 HeM.out rfl rfl).mono ?_
  rintro e w5 ⟨r5, rfl, k5⟩
  have K5 := Lib.hid k5
  clear k5
  clear K4
  go_wp2_with fail
  refine (both_at K5.out 3 4 HeU.out HeI.out rfl rfl).mono ?_
  rintro e w6 ⟨r6, q6, rfl, k6⟩
  have K6 := Lib.hid k6
  clear k6
  clear K5
  go_wp2_with fail
  refine (both_at K6.out 7 5 HeW.out HeX.out rfl rfl).mono ?_
  rintro e w7 ⟨r7, q7, rfl, k7⟩
  have K7 := Lib.hid k7
  clear k7
  clear K6
  go_wp2_with fail
  refine (within_at K7.out 3 4 is Hf1.out rfl rfl).mono ?_
  rintro e w8 ⟨rfl, k8⟩
  have K8 := Lib.hid k8
  clear k8
  clear K7
  obtain ⟨aM, cM, hvM, _, _, _⟩ := (K8.out.all 6 _ _ rfl).opened
  subst hvM
  obtain ⟨nM, hnM⟩ : ∃ n, n = M.length := ⟨_, rfl⟩
  rw [← hnM] at K8 ⊢
  have HnM := Lib.hid hnM
  clear hnM
  cases is
  · have hpos : 0 < nM := by
      rcases Nat.eq_zero_or_pos nM with h | h
      · have h0 : M = [] := List.eq_nil_of_length_eq_zero (by rw [← HnM.out]; exact h)
        have := Hf5.out.2 h0
        cases this
      · exact h
    have hz0 : ((nM : Int) == 0) = false := by simp; omega
    go_wp2_with fail
    refine (same_at K8.out 7 4 false Hf6.out rfl rfl).mono ?_
    rintro e w9 ⟨rfl, k9⟩
    have K9 := Lib.hid k9
    clear k9
    clear K8
    go_wp2_with fail
    refine (same_at K9.out 8 3 false Hf7.out rfl rfl).mono ?_
    rintro e w10 ⟨rfl, k10⟩
    have K10 := Lib.hid k10
    clear k10
    clear K9
    go_wp2_with fail
    refine (within_at K10.out 8 3 true Hf10.out rfl rfl).mono ?_
    rintro e w11 ⟨rfl, k11⟩
    have K11 := Lib.hid k11
    clear k11
    clear K10
    go_wp2_with fail
    refine (within_at K11.out 8 4 true Hf11.out rfl rfl).mono ?_
    rintro e w12 ⟨rfl, k12⟩
    have K12 := Lib.hid k12
    clear k12
    clear K11
    go_wp2_with fail
    refine (within_at K12.out 3 7 true Hf12.out rfl rfl).mono ?_
    rintro e w13 ⟨rfl, k13⟩
    have K13 := Lib.hid k13
    clear k13
    clear K12
    go_wp2_with fail
    refine (within_at K13.out 7 9 true Hf13.out rfl rfl).mono ?_
    rintro e w14 ⟨rfl, k14⟩
    have K14 := Lib.hid k14
    clear k14
    clear K13
    go_wp2_with fail
    refine (within_at K14.out 8 9 true Hf14.out rfl rfl).mono ?_
    rintro e w15 ⟨rfl, k15⟩
    have K15 := Lib.hid k15
    clear k15
    clear K14
    go_wp2_with fail
    refine (whole_at K15.out rfl).mono ?_
    rintro e w16 ⟨r16, rfl, k16⟩
    have K16 := Lib.hid k16
    clear k16
    clear K15
    go_wp2_with fail
    refine (within_at K16.out 9 11 true Hf15.out rfl rfl).mono ?_
    rintro e w17 ⟨rfl, k17⟩
    have K17 := Lib.hid k17
    clear k17
    clear K16
    have K18 := Lib.hid (K17.out.put (RS.nil _))
    clear K17
    go_wp2_with fail
    refine (within_at K18.out 12 3 true Hf16.out rfl rfl).mono ?_
    rintro e w19 ⟨rfl, k19⟩
    have K19 := Lib.hid k19
    clear k19
    clear K18
    go_wp2_with fail
    refine (same_at K19.out 3 4 false (by rw [Hf8.out]; rfl) rfl rfl).mono ?_
    rintro e w20 ⟨rfl, k20⟩
    have K20 := Lib.hid k20
    clear k20
    clear K19
    go_wp2
    go_ret
    exact ⟨ret_bool (by simp), K20.out.below⟩
  · have hz0 : nM = 0 := by rw [HnM.out, Hf5.out.1 rfl]; rfl
    subst hz0
    go_wp2_with fail
    refine (same_at K8.out 7 4 true Hf6.out rfl rfl).mono ?_
    rintro e w9 ⟨rfl, k9⟩
    have K9 := Lib.hid k9
    clear k9
    clear K8
    go_wp2_with fail
    refine (same_at K9.out 8 3 true Hf7.out rfl rfl).mono ?_
    rintro e w10 ⟨rfl, k10⟩
    have K10 := Lib.hid k10
    clear k10
    clear K9
    go_wp2_with fail
    refine (within_at K10.out 8 3 true Hf10.out rfl rfl).mono ?_
    rintro e w11 ⟨rfl, k11⟩
    have K11 := Lib.hid k11
    clear k11
    clear K10
    go_wp2_with fail
    refine (within_at K11.out 8 4 true Hf11.out rfl rfl).mono ?_
    rintro e w12 ⟨rfl, k12⟩
    have K12 := Lib.hid k12
    clear k12
    clear K11
    go_wp2_with fail
    refine (within_at K12.out 3 7 true Hf12.out rfl rfl).mono ?_
    rintro e w13 ⟨rfl, k13⟩
    have K13 := Lib.hid k13
    clear k13
    clear K12
    go_wp2_with fail
    refine (within_at K13.out 7 9 true Hf13.out rfl rfl).mono ?_
    rintro e w14 ⟨rfl, k14⟩
    have K14 := Lib.hid k14
    clear k14
    clear K13
    go_wp2_with fail
    refine (within_at K14.out 8 9 true Hf14.out rfl rfl).mono ?_
    rintro e w15 ⟨rfl, k15⟩
    have K15 := Lib.hid k15
    clear k15
    clear K14
    go_wp2_with fail
    refine (whole_at K15.out rfl).mono ?_
    rintro e w16 ⟨r16, rfl, k16⟩
    have K16 := Lib.hid k16
    clear k16
    clear K15
    go_wp2_with fail
    refine (within_at K16.out 9 11 true Hf15.out rfl rfl).mono ?_
    rintro e w17 ⟨rfl, k17⟩
    have K17 := Lib.hid k17
    clear k17
    clear K16
    have K18 := Lib.hid (K17.out.put (RS.nil _))
    clear K17
    go_wp2_with fail
    refine (within_at K18.out 12 3 true Hf16.out rfl rfl).mono ?_
    rintro e w19 ⟨rfl, k19⟩
    have K19 := Lib.hid k19
    clear k19
    clear K18
    go_wp2_with fail
    refine (within_at K19.out 4 3 ba Hf2.out rfl rfl).mono ?_
    rintro e w20 ⟨rfl, k20⟩
    have K20 := Lib.hid k20
    clear k20
    clear K19
    go_wp2_with fail
    refine (same_at K20.out 3 4 ba (by rw [Hf8.out]; rfl) rfl rfl).mono ?_
    rintro e w21 ⟨rfl, k21⟩
    have K21 := Lib.hid k21
    clear k21
    clear K20
    cases bc
    · go_wp2_with fail
      refine (within_at K21.out 4 5 false Hf3.out rfl rfl).mono ?_
      rintro e w22 ⟨rfl, k22⟩
      have K22 := Lib.hid k22
      clear k22
      clear K21
      go_wp2
      go_ret
      exact ⟨ret_bool (by simp), K22.out.below⟩
    · go_wp2_with fail
      refine (within_at K21.out 4 5 true Hf3.out rfl rfl).mono ?_
      rintro e w22 ⟨rfl, k22⟩
      have K22 := Lib.hid k22
      clear k22
      clear K21
      go_wp2_with fail
      refine (within_at K22.out 3 5 true (by rw [Hf4.out]; have := Hf9.out; simpa using this) rfl rfl).mono ?_
      rintro e w23 ⟨rfl, k23⟩
      have K23 := Lib.hid k23
      clear k23
      clear K22
      go_wp2
      go_ret
      exact ⟨ret_bool (by simp), K23.out.below⟩
end Go.Proofs.YtbpkfpkhnkcgkaaDoorR
