/- AreaSets: the walk of the law. The conditions: what the slices read as, the table of bits.TrailingZeros64. -/
import Derived.Test.YtbpkfpkhnkcgkaaDoorRWSane
import Derived.Test.YtbpkfpkhnkcgkaaDoorRWB1
import Derived.Test.YtbpkfpkhnkcgkaaDoorRPA4
namespace Go.Proofs.YtbpkfpkhnkcgkaaDoorR
open Go.RowKit Go.BigFrame

set_option maxHeartbeats 12000000 in
set_option maxRecDepth 100000 in
theorem sets_law {w : World} {vx vy vz : Value} {xs ys zs : List R4} (hx : RS w vx xs) (hy : RS w vy ys) (hz : RS w vz zs) (ix : ∀ q ∈ xs, Int4 q) (iy : ∀ q ∈ ys, Int4 q) (iz : ∀ q ∈ zs, Int4 q) (he : Env w) :
    Calls Tryd.prog 6 #[vx, vy, vz] w fun e w' => e = .returned (.bool true) ∧ Below w.heap.size w w' := by
  obtain ⟨ax, cx, rfl, lx, mx, _⟩ := hx.opened
  unfold maxLen at mx
  obtain ⟨nx, hnx⟩ : ∃ n, n = xs.length := ⟨_, rfl⟩
  rw [← hnx] at lx hx ⊢
  obtain ⟨tx, tx1, tx2, tx3⟩ : ∃ t : Nat, t ≤ nx ∧ t ≤ 2 ∧ (if (2 : Int) < (nx : Int) then 2 else (nx : Int)) = (t : Int) := cut_min nx 2
  have Rx := hx.cut tx tx1
  have Ix := Lib.hid (fun q (hq : q ∈ xs.take tx) => ix q (List.mem_of_mem_take hq))
  have Lx := Lib.hid (show (xs.take tx).length ≤ 2 from by rw [List.length_take]; omega)
  generalize xs.take tx = Tx at *
  clear hx ix hnx
  obtain ⟨ay, cy, rfl, ly, my, _⟩ := hy.opened
  unfold maxLen at my
  obtain ⟨ny, hny⟩ : ∃ n, n = ys.length := ⟨_, rfl⟩
  rw [← hny] at ly hy ⊢
  obtain ⟨ty, ty1, ty2, ty3⟩ : ∃ t : Nat, t ≤ ny ∧ t ≤ 2 ∧ (if (2 : Int) < (ny : Int) then 2 else (ny : Int)) = (t : Int) := cut_min ny 2
  have Ry := hy.cut ty ty1
  have Iy := Lib.hid (fun q (hq : q ∈ ys.take ty) => iy q (List.mem_of_mem_take hq))
  have Ly := Lib.hid (show (ys.take ty).length ≤ 2 from by rw [List.length_take]; omega)
  generalize ys.take ty = Ty at *
  clear hy iy hny
  obtain ⟨az, cz, rfl, lz, mz, _⟩ := hz.opened
  unfold maxLen at mz
  obtain ⟨nz, hnz⟩ : ∃ n, n = zs.length := ⟨_, rfl⟩
  rw [← hnz] at lz hz ⊢
  obtain ⟨tz, tz1, tz2, tz3⟩ : ∃ t : Nat, t ≤ nz ∧ t ≤ 2 ∧ (if (2 : Int) < (nz : Int) then 2 else (nz : Int)) = (t : Int) := cut_min nz 2
  have Rz := hz.cut tz tz1
  have Iz := Lib.hid (fun q (hq : q ∈ zs.take tz) => iz q (List.mem_of_mem_take hq))
  have Lz := Lib.hid (show (zs.take tz).length ≤ 2 from by rw [List.length_take]; omega)
  generalize zs.take tz = Tz at *
  clear hz iz hnz
  have k0 := (((Know.start he).put Rx).put Ry).put Rz
  simp only [List.nil_append, List.cons_append] at k0
  have K0 := Lib.hid k0
  clear k0
  clear Rx Ry Rz he
  obtain ⟨A, eA⟩ : ∃ X, madeS Tx = X := ⟨_, rfl⟩
  have aA := made_ar Tx 2 Lx.out (by omega)
  rw [eA] at aA
  generalize madeP Tx = pA at *
  have EA := Lib.hid eA
  clear eA
  obtain ⟨B, eB⟩ : ∃ X, madeS Ty = X := ⟨_, rfl⟩
  have aB := made_ar Ty 2 Ly.out (by omega)
  rw [eB] at aB
  generalize madeP Ty = pB at *
  have EB := Lib.hid eB
  clear eB
  obtain ⟨C, eC⟩ : ∃ X, madeS Tz = X := ⟨_, rfl⟩
  have aC := made_ar Tz 2 Lz.out (by omega)
  rw [eC] at aC
  generalize madeP Tz = pC at *
  have EC := Lib.hid eC
  clear eC
  obtain ⟨ab, eab, aab⟩ := aA.union aB (by omega)
  obtain ⟨iab, eiab, aiab⟩ := aA.common aB (by omega)
  obtain ⟨ba, eba, aba⟩ := aB.union aA (by omega)
  obtain ⟨iba, eiba, aiba⟩ := aB.common aA (by omega)
  obtain ⟨bc, ebc, abc⟩ := aB.union aC (by omega)
  obtain ⟨ibc, eibc, aibc⟩ := aB.common aC (by omega)
  obtain ⟨ac, eac, aac⟩ := aA.union aC (by omega)
  obtain ⟨iac, eiac, aiac⟩ := aA.common aC (by omega)
  obtain ⟨al, eal, aal⟩ := aab.union aC (by omega)
  obtain ⟨x1, ex1, ax1⟩ := aab.common aC (by omega)
  obtain ⟨ot, eot, aot⟩ := aA.union abc (by omega)
  obtain ⟨x2, ex2, ax2⟩ := aA.common abc (by omega)
  obtain ⟨x3, ex3, ax3⟩ := aiab.union aC (by omega)
  obtain ⟨co, eco, aco⟩ := aiab.common aC (by omega)
  obtain ⟨he2, ehe2, ahe2⟩ := aA.union aibc (by omega)
  obtain ⟨re, ere, are⟩ := aA.common aibc (by omega)
  obtain ⟨o, eo, ao⟩ := aiab.unionC aiac (r := fun y x => pA y x && (pB y x || pC y x)) (Few.op (o := fun a b => a && b) rfl aA.few abc.few) (by omega) (fun y x => by cases pA y x <;> cases pB y x <;> cases pC y x <;> rfl)
  obtain ⟨x5, ex5, ax5⟩ := aiab.commonC aiac (r := fun y x => (pA y x && pB y x) && pC y x) (Few.op (o := fun a b => a && b) rfl aiab.few aC.few) (by omega) (fun y x => by cases pA y x <;> cases pB y x <;> cases pC y x <;> rfl)
  obtain ⟨x6, ex6, ax6⟩ := aab.unionC aac (r := fun y x => (pA y x || pB y x) || pC y x) (Few.op (o := fun a b => a || b) rfl aab.few aC.few) (by omega) (fun y x => by cases pA y x <;> cases pB y x <;> cases pC y x <;> rfl)
  obtain ⟨q, eq, aq⟩ := aab.commonC aac (r := fun y x => pA y x || (pB y x && pC y x)) (Few.op (o := fun a b => a || b) rfl aA.few aibc.few) (by omega) (fun y x => by cases pA y x <;> cases pB y x <;> cases pC y x <;> rfl)
  obtain ⟨sf, esf, asf⟩ := aA.union aA (by omega)
  obtain ⟨ow, eow, aow⟩ := aA.common aA (by omega)
  obtain ⟨out, eout, aout⟩ := whole_is.minus aA (by omega)
  obtain ⟨back, eback, aback⟩ := whole_is.minus aout (by omega)
  obtain ⟨one, eone, aone⟩ := aA.minus aB (by omega)
  obtain ⟨two, etwo, atwo⟩ := aone.minus aC (by omega)
  obtain ⟨bo, ebo, abo⟩ := aA.minus abc (by omega)
  have s0 := same_true aab.is aba.is (fun y x _ _ => by cases pA y x <;> cases pB y x <;> cases pC y x <;> rfl)
  have s1 := same_true aiab.is aiba.is (fun y x _ _ => by cases pA y x <;> cases pB y x <;> cases pC y x <;> rfl)
  have s2 := same_true aal.is aot.is (fun y x _ _ => by cases pA y x <;> cases pB y x <;> cases pC y x <;> rfl)
  have s3 := same_true aco.is are.is (fun y x _ _ => by cases pA y x <;> cases pB y x <;> cases pC y x <;> rfl)
  have s4 := same_true ax2.is ao.is (fun y x _ _ => by cases pA y x <;> cases pB y x <;> cases pC y x <;> rfl)
  have s5 := same_true ahe2.is aq.is (fun y x _ _ => by cases pA y x <;> cases pB y x <;> cases pC y x <;> rfl)
  have s6 := same_true asf.is aA.is (fun y x _ _ => by cases pA y x <;> cases pB y x <;> cases pC y x <;> rfl)
  have s7 := same_true aow.is aA.is (fun y x _ _ => by cases pA y x <;> cases pB y x <;> cases pC y x <;> rfl)
  have s8 := same_true aback.is aA.is (fun y x _ _ => by cases pA y x <;> cases pB y x <;> cases pC y x <;> rfl)
  have s9 := same_true atwo.is abo.is (fun y x _ _ => by cases pA y x <;> cases pB y x <;> cases pC y x <;> rfl)
  clear aA aB aC aab aiab aba aiba abc aibc aac aiac aal ax1 aot ax2 ax3 aco ahe2 are ao ax5 ax6 aq asf aow aout aback aone atwo abo
  have Heab := Lib.hid eab
  have Heiab := Lib.hid eiab
  have Heba := Lib.hid eba
  have Heiba := Lib.hid eiba
  have Hebc := Lib.hid ebc
  have Heibc := Lib.hid eibc
  have Heac := Lib.hid eac
  have Heiac := Lib.hid eiac
  have Heal := Lib.hid eal
  have Hex1 := Lib.hid ex1
  have Heot := Lib.hid eot
  have Hex2 := Lib.hid ex2
  have Hex3 := Lib.hid ex3
  have Heco := Lib.hid eco
  have Hehe2 := Lib.hid ehe2
  have Here := Lib.hid ere
  have Heo := Lib.hid eo
  have Hex5 := Lib.hid ex5
  have Hex6 := Lib.hid ex6
  have Heq := Lib.hid eq
  have Hesf := Lib.hid esf
  have Heow := Lib.hid eow
  have Heout := Lib.hid eout
  have Heback := Lib.hid eback
  have Heone := Lib.hid eone
  have Hetwo := Lib.hid etwo
  have Hebo := Lib.hid ebo
  have Hs0 := Lib.hid s0
  have Hs1 := Lib.hid s1
  have Hs2 := Lib.hid s2
  have Hs3 := Lib.hid s3
  have Hs4 := Lib.hid s4
  have Hs5 := Lib.hid s5
  have Hs6 := Lib.hid s6
  have Hs7 := Lib.hid s7
  have Hs8 := Lib.hid s8
  have Hs9 := Lib.hid s9
  clear eab eiab eba eiba ebc eibc eac eiac eal ex1 eot ex2 ex3 eco ehe2 ere eo ex5 ex6 eq esf eow eout eback eone etwo ebo s0 s1 s2 s3 s4 s5 s6 s7 s8 s9
  go_enter Tryd.func6, Tryd.ntmps6
  go_wp2_with fail
  refine (sane_at K0.out).mono ?_
  rintro e w1 ⟨rfl, k1⟩
  have K1 := Lib.hid k1
  clear k1
  clear K0
  go_wp2_with fail
  refine (made_at K1.out (K1.out.all 0 _ _ rfl) Ix.out EA.out).mono ?_
  rintro e w2 ⟨r2, rfl, k2⟩
  simp only [List.nil_append, List.cons_append] at k2
  have K2 := Lib.hid k2
  clear k2
  clear K1
  go_wp2_with fail
  refine (made_at K2.out (K2.out.all 1 _ _ rfl) Iy.out EB.out).mono ?_
  rintro e w3 ⟨r3, rfl, k3⟩
  simp only [List.nil_append, List.cons_append] at k3
  have K3 := Lib.hid k3
  clear k3
  clear K2
  go_wp2_with fail
  refine (made_at K3.out (K3.out.all 2 _ _ rfl) Iz.out EC.out).mono ?_
  rintro e w4 ⟨r4, rfl, k4⟩
  simp only [List.nil_append, List.cons_append] at k4
  have K4 := Lib.hid k4
  clear k4
  clear K3
  go_wp2_with fail
  refine (both_at K4.out 3 4 Heab.out Heiab.out rfl rfl).mono ?_
  rintro e w5 ⟨r5, q5, rfl, k5⟩
  simp only [List.nil_append, List.cons_append] at k5
  have K5 := Lib.hid k5
  clear k5
  clear K4
  go_wp2_with fail
  refine (both_at K5.out 4 3 Heba.out Heiba.out rfl rfl).mono ?_
  rintro e w6 ⟨r6, q6, rfl, k6⟩
  simp only [List.nil_append, List.cons_append] at k6
  have K6 := Lib.hid k6
  clear k6
  clear K5
  go_wp2_with fail
  refine (both_at K6.out 4 5 Hebc.out Heibc.out rfl rfl).mono ?_
  rintro e w7 ⟨r7, q7, rfl, k7⟩
  simp only [List.nil_append, List.cons_append] at k7
  have K7 := Lib.hid k7
  clear k7
  clear K6
  go_wp2_with fail
  refine (both_at K7.out 3 5 Heac.out Heiac.out rfl rfl).mono ?_
  rintro e w8 ⟨r8, q8, rfl, k8⟩
  simp only [List.nil_append, List.cons_append] at k8
  have K8 := Lib.hid k8
  clear k8
  clear K7
  go_wp2_with fail
  refine (same_at K8.out 6 8 true Hs0.out rfl rfl).mono ?_
  rintro e w9 ⟨rfl, k9⟩
  have K9 := Lib.hid k9
  clear k9
  clear K8
  go_wp2_with fail
  refine (same_at K9.out 7 9 true Hs1.out rfl rfl).mono ?_
  rintro e w10 ⟨rfl, k10⟩
  have K10 := Lib.hid k10
  clear k10
  clear K9
  go_wp2_with fail
  refine (both_at K10.out 6 5 Heal.out Hex1.out rfl rfl).mono ?_
  rintro e w11 ⟨r11, q11, rfl, k11⟩
  simp only [List.nil_append, List.cons_append] at k11
  have K11 := Lib.hid k11
  clear k11
  clear K10
  go_wp2_with fail
  refine (both_at K11.out 3 10 Heot.out Hex2.out rfl rfl).mono ?_
  rintro e w12 ⟨r12, q12, rfl, k12⟩
  simp only [List.nil_append, List.cons_append] at k12
  have K12 := Lib.hid k12
  clear k12
  clear K11
  go_wp2_with fail
  refine (both_at K12.out 7 5 Hex3.out Heco.out rfl rfl).mono ?_
  rintro e w13 ⟨r13, q13, rfl, k13⟩
  simp only [List.nil_append, List.cons_append] at k13
  have K13 := Lib.hid k13
  clear k13
  clear K12
  go_wp2_with fail
  refine (both_at K13.out 3 11 Hehe2.out Here.out rfl rfl).mono ?_
  rintro e w14 ⟨r14, q14, rfl, k14⟩
  simp only [List.nil_append, List.cons_append] at k14
  have K14 := Lib.hid k14
  clear k14
  clear K13
  go_wp2_with fail
  refine (both_at K14.out 3 10 Heot.out Hex2.out rfl rfl).mono ?_
  rintro e w15 ⟨r15, q15, rfl, k15⟩
  simp only [List.nil_append, List.cons_append] at k15
  have K15 := Lib.hid k15
  clear k15
  clear K14
  go_wp2_with fail
  refine (both_at K15.out 7 13 Heo.out Hex5.out rfl rfl).mono ?_
  rintro e w16 ⟨r16, q16, rfl, k16⟩
  simp only [List.nil_append, List.cons_append] at k16
  have K16 := Lib.hid k16
  clear k16
  clear K15
  go_wp2_with fail
  refine (both_at K16.out 6 12 Hex6.out Heq.out rfl rfl).mono ?_
  rintro e w17 ⟨r17, q17, rfl, k17⟩
  simp only [List.nil_append, List.cons_append] at k17
  have K17 := Lib.hid k17
  clear k17
  clear K16
  go_wp2_with fail
  refine (both_at K17.out 3 3 Hesf.out Heow.out rfl rfl).mono ?_
  rintro e w18 ⟨r18, q18, rfl, k18⟩
  simp only [List.nil_append, List.cons_append] at k18
  have K18 := Lib.hid k18
  clear k18
  clear K17
  go_wp2_with fail
  refine (same_at K18.out 14 16 true Hs2.out rfl rfl).mono ?_
  rintro e w19 ⟨rfl, k19⟩
  have K19 := Lib.hid k19
  clear k19
  clear K18
  go_wp2_with fail
  refine (same_at K19.out 19 21 true Hs3.out rfl rfl).mono ?_
  rintro e w20 ⟨rfl, k20⟩
  have K20 := Lib.hid k20
  clear k20
  clear K19
  go_wp2_with fail
  refine (same_at K20.out 23 24 true Hs4.out rfl rfl).mono ?_
  rintro e w21 ⟨rfl, k21⟩
  have K21 := Lib.hid k21
  clear k21
  clear K20
  go_wp2_with fail
  refine (same_at K21.out 20 27 true Hs5.out rfl rfl).mono ?_
  rintro e w22 ⟨rfl, k22⟩
  have K22 := Lib.hid k22
  clear k22
  clear K21
  go_wp2_with fail
  refine (same_at K22.out 28 3 true Hs6.out rfl rfl).mono ?_
  rintro e w23 ⟨rfl, k23⟩
  have K23 := Lib.hid k23
  clear k23
  clear K22
  go_wp2_with fail
  refine (same_at K23.out 29 3 true Hs7.out rfl rfl).mono ?_
  rintro e w24 ⟨rfl, k24⟩
  have K24 := Lib.hid k24
  clear k24
  clear K23
  go_wp2_with fail
  refine (whole_at K24.out rfl).mono ?_
  rintro e w25 ⟨r25, rfl, k25⟩
  simp only [List.nil_append, List.cons_append] at k25
  have K25 := Lib.hid k25
  clear k25
  clear K24
  go_wp2_with fail
  refine (minus_at K25.out 30 3 0 Heout.out rfl rfl).mono ?_
  rintro e w26 ⟨r26, rfl, k26⟩
  simp only [List.nil_append, List.cons_append] at k26
  have K26 := Lib.hid k26
  clear k26
  clear K25
  go_wp2_with fail
  refine (whole_at K26.out rfl).mono ?_
  rintro e w27 ⟨r27, rfl, k27⟩
  simp only [List.nil_append, List.cons_append] at k27
  have K27 := Lib.hid k27
  clear k27
  clear K26
  go_wp2_with fail
  refine (minus_at K27.out 32 31 0 Heback.out rfl rfl).mono ?_
  rintro e w28 ⟨r28, rfl, k28⟩
  simp only [List.nil_append, List.cons_append] at k28
  have K28 := Lib.hid k28
  clear k28
  clear K27
  go_wp2_with fail
  refine (minus_at K28.out 3 4 0 Heone.out rfl rfl).mono ?_
  rintro e w29 ⟨r29, rfl, k29⟩
  simp only [List.nil_append, List.cons_append] at k29
  have K29 := Lib.hid k29
  clear k29
  clear K28
  go_wp2_with fail
  refine (minus_at K29.out 34 5 0 Hetwo.out rfl rfl).mono ?_
  rintro e w30 ⟨r30, rfl, k30⟩
  simp only [List.nil_append, List.cons_append] at k30
  have K30 := Lib.hid k30
  clear k30
  clear K29
  go_wp2_with fail
  refine (minus_at K30.out 3 10 0 Hebo.out rfl rfl).mono ?_
  rintro e w31 ⟨r31, rfl, k31⟩
  simp only [List.nil_append, List.cons_append] at k31
  have K31 := Lib.hid k31
  clear k31
  clear K30
  go_wp2_with fail
  refine (same_at K31.out 33 3 true Hs8.out rfl rfl).mono ?_
  rintro e w32 ⟨rfl, k32⟩
  have K32 := Lib.hid k32
  clear k32
  clear K31
  go_wp2_with fail
  refine (same_at K32.out 35 36 true Hs9.out rfl rfl).mono ?_
  rintro e w33 ⟨rfl, k33⟩
  have K33 := Lib.hid k33
  clear k33
  clear K32
  go_wp2
  go_ret
  exact ⟨rfl, K33.out.below⟩
end Go.Proofs.YtbpkfpkhnkcgkaaDoorR
