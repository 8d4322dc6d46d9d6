/- The walk of the examples with which each statement of the area layer begins. The condition: the table of bits.TrailingZeros64. -/
import Derived.Test.YtbpkfpkhnkcgkaaDoorRLK
import Derived.Test.YtbpkfpkhnkcgkaaDoorRSaneSpec
import Derived.Deep.RegionHeld3
namespace Go.Proofs.YtbpkfpkhnkcgkaaDoorR
open Go.RowKit Go.BigFrame

theorem cellsA {w0 w : World} {ls : List (Value × List R4)} (k : Know w0 w ls) {i b : Nat} (hi : ls[i]? = some (.slice (some ⟨b, 0, none⟩) 1 1, sA)) :
    w.cell? ⟨b, 0, none⟩ = some (.int .i64 0) ∧ w.cell? ⟨b, 1, none⟩ = some (.int .i64 4) ∧ w.cell? ⟨b, 2, none⟩ = some (.int .i64 0) ∧ w.cell? ⟨b, 3, none⟩ = some (.int .i64 4) := by
  obtain ⟨a, cap, hv, _, _, h⟩ := (k.all i _ _ hi).opened
  obtain ⟨b', off, ha, _, h1⟩ := h 0 _ rfl
  cases hv
  cases ha
  simpa [RAt] using h1

set_option maxHeartbeats 12000000 in
set_option maxRecDepth 100000 in
theorem sane_any {w : World} (he : Env w) : Calls Tryd.prog 9 #[] w fun e w' => e = .returned (.bool true) ∧ Below w.heap.size w w' := by
  have K0 := Lib.hid (Know.start he)
  clear he
  go_enter Tryd.func9, Tryd.ntmps9
  go_wp2_with fail
  refine (rect_at K0.out 0 4 0 4).mono ?_
  rintro e w1 ⟨rfl, k1⟩
  have K1 := Lib.hid k1
  clear k1 K0
  have k2 := K1.out.one sA 0 4 0 4 rfl
  simp only [List.nil_append] at k2
  have K2 := Lib.hid k2
  clear k2
  clear K1
  go_wp2_with fail
  refine (rect_at K2.out 2 6 2 4).mono ?_
  rintro e w3 ⟨rfl, k3⟩
  have K3 := Lib.hid k3
  clear k3 K2
  have k4 := K3.out.one sB 2 6 2 4 rfl
  simp only [List.nil_append, List.cons_append] at k4
  have K4 := Lib.hid k4
  clear k4
  clear K3
  go_wp2_with fail
  refine (union_at K4.out 0 1 0 s_union rfl rfl).mono ?_
  rintro e w5 ⟨r5, rfl, k5⟩
  simp only [List.nil_append, List.cons_append] at k5
  have K5 := Lib.hid k5
  clear k5 K4
  go_wp2_with fail
  refine (common_at K5.out 0 1 0 s_common rfl rfl).mono ?_
  rintro e w6 ⟨r6, rfl, k6⟩
  simp only [List.nil_append, List.cons_append] at k6
  have K6 := Lib.hid k6
  clear k6 K5
  go_wp2_with fail
  refine (minus_at K6.out 0 1 0 s_minus rfl rfl).mono ?_
  rintro e w7 ⟨r7, rfl, k7⟩
  simp only [List.nil_append, List.cons_append] at k7
  have K7 := Lib.hid k7
  clear k7 K6
  go_wp2_with fail
  have ca := cellsA (i := 0) K7.out rfl
  obtain ⟨ca0, ca1, ca2, ca3⟩ := ca
  go_region_held3 (fun w' => w'.cell? ⟨w1.heap.size, 0, none⟩ = some (.int .i64 0) ∧ w'.cell? ⟨w1.heap.size, 1, none⟩ = some (.int .i64 4) ∧ w'.cell? ⟨w1.heap.size, 2, none⟩ = some (.int .i64 0) ∧ w'.cell? ⟨w1.heap.size, 3, none⟩ = some (.int .i64 4)) (first | go_keep) ((first | (go_at_call 28; refine (rect_at K7.out.drew 4 8 0 4).mono ?_; rintro e w9 ⟨rfl, k9⟩; have K9 := Lib.hid k9; clear k9; have ca := cellsA (i := 0) K9.out rfl; obtain ⟨ca0, ca1, ca2, ca3⟩ := ca) | (go_at_call 21; refine (of_at (K9.out.two [⟨4, 8, 0, 4⟩, ⟨0, 4, 0, 4⟩] 4 8 0 4 0 4 0 4 rfl) 5 0 s_of rfl).mono ?_; rintro e w10 ⟨r10, rfl, k10⟩; simp only [List.nil_append, List.cons_append] at k10; have K10 := Lib.hid k10; clear k10; have ca := cellsA (i := 0) K10.out rfl; obtain ⟨ca0, ca1, ca2, ca3⟩ := ca)))
  clear ca0 ca1 ca2 ca3 K7 K9
  go_wp2_with fail
  refine (grow_at K10.out 1 1 0 (by unfold I64; omega) s_grow rfl).mono ?_
  rintro e w11 ⟨r11, rfl, k11⟩
  simp only [List.nil_append, List.cons_append] at k11
  have K11 := Lib.hid k11
  clear k11 K10
  go_wp2_with fail
  refine (rect_at K11.out 4 4 0 4).mono ?_
  rintro e w12 ⟨rfl, k12⟩
  have K12 := Lib.hid k12
  clear k12 K11
  have k13 := K12.out.one [⟨4, 4, 0, 4⟩] 4 4 0 4 rfl
  simp only [List.nil_append, List.cons_append] at k13
  have K13 := Lib.hid k13
  clear k13
  clear K12
  go_wp2_with fail
  refine (of_at K13.out 8 290 s_bad rfl).mono ?_
  rintro e w14 ⟨r14, rfl, k14⟩
  simp only [List.nil_append, List.cons_append] at k14
  have K14 := Lib.hid k14
  clear k14 K13
  go_wp2_with fail
  refine (grow_at K14.out 1 65 290 (by unfold I64; omega) s_far rfl).mono ?_
  rintro e w15 ⟨r15, rfl, k15⟩
  simp only [List.nil_append, List.cons_append] at k15
  have K15 := Lib.hid k15
  clear k15 K14
  go_wp2_with fail
  refine (rect_at K15.out 0 4 0 2).mono ?_
  rintro e w16 ⟨rfl, k16⟩
  have K16 := Lib.hid k16
  clear k16 K15
  go_wp2_with fail
  refine (rect_at K16.out 0 6 2 4).mono ?_
  rintro e w17 ⟨rfl, k17⟩
  have K17 := Lib.hid k17
  clear k17 K16
  have k18 := K17.out.two sU 0 4 0 2 0 6 2 4 rfl
  simp only [List.nil_append, List.cons_append] at k18
  have K18 := Lib.hid k18
  clear k18
  clear K17
  go_wp2_with fail
  refine (same_at K18.out 2 11 true (by decide) rfl rfl).mono ?_
  rintro e w19 ⟨rfl, k19⟩
  have K19 := Lib.hid k19
  clear k19 K18
  go_wp2_with fail
  refine (rect_at K19.out 2 4 2 4).mono ?_
  rintro e w20 ⟨rfl, k20⟩
  have K20 := Lib.hid k20
  clear k20 K19
  have k21 := K20.out.one sC 2 4 2 4 rfl
  simp only [List.nil_append, List.cons_append] at k21
  have K21 := Lib.hid k21
  clear k21
  clear K20
  go_wp2_with fail
  refine (same_at K21.out 3 12 true (by decide) rfl rfl).mono ?_
  rintro e w22 ⟨rfl, k22⟩
  have K22 := Lib.hid k22
  clear k22 K21
  go_wp2_with fail
  refine (rect_at K22.out 0 4 0 2).mono ?_
  rintro e w23 ⟨rfl, k23⟩
  have K23 := Lib.hid k23
  clear k23 K22
  go_wp2_with fail
  refine (rect_at K23.out 0 2 2 4).mono ?_
  rintro e w24 ⟨rfl, k24⟩
  have K24 := Lib.hid k24
  clear k24 K23
  have k25 := K24.out.two sM 0 4 0 2 0 2 2 4 rfl
  simp only [List.nil_append, List.cons_append] at k25
  have K25 := Lib.hid k25
  clear k25
  clear K24
  go_wp2_with fail
  refine (same_at K25.out 4 13 true (by decide) rfl rfl).mono ?_
  rintro e w26 ⟨rfl, k26⟩
  have K26 := Lib.hid k26
  clear k26 K25
  go_wp2_with fail
  refine (rect_at K26.out 0 8 0 4).mono ?_
  rintro e w27 ⟨rfl, k27⟩
  have K27 := Lib.hid k27
  clear k27 K26
  have k28 := K27.out.one sO 0 8 0 4 rfl
  simp only [List.nil_append, List.cons_append] at k28
  have K28 := Lib.hid k28
  clear k28
  clear K27
  go_wp2_with fail
  refine (same_at K28.out 6 14 true (by decide) rfl rfl).mono ?_
  rintro e w29 ⟨rfl, k29⟩
  have K29 := Lib.hid k29
  clear k29 K28
  go_wp2_with fail
  refine (rect_at K29.out 1 7 1 5).mono ?_
  rintro e w30 ⟨rfl, k30⟩
  have K30 := Lib.hid k30
  clear k30 K29
  have k31 := K30.out.one sW 1 7 1 5 rfl
  simp only [List.nil_append, List.cons_append] at k31
  have K31 := Lib.hid k31
  clear k31
  clear K30
  go_wp2_with fail
  refine (same_at K31.out 7 15 true (by decide) rfl rfl).mono ?_
  rintro e w32 ⟨rfl, k32⟩
  have K32 := Lib.hid k32
  clear k32 K31
  go_wp2_with fail
  refine (size_at K32.out 0 16 (by rw [s_sizeA]; rfl) rfl).mono ?_
  rintro e w33 ⟨rfl, k33⟩
  have K33 := Lib.hid k33
  clear k33 K32
  go_wp2_with fail
  refine (size_at K33.out 1 8 (by rw [s_sizeB]; rfl) rfl).mono ?_
  rintro e w34 ⟨rfl, k34⟩
  have K34 := Lib.hid k34
  clear k34 K33
  go_wp2_with fail
  refine (size_at K34.out 2 20 (by rw [s_sizeU]; rfl) rfl).mono ?_
  rintro e w35 ⟨rfl, k35⟩
  have K35 := Lib.hid k35
  clear k35 K34
  go_wp2_with fail
  refine (has_at K35.out 0 3 3 true s_has1 rfl).mono ?_
  rintro e w36 ⟨rfl, k36⟩
  have K36 := Lib.hid k36
  clear k36 K35
  go_wp2_with fail
  refine (has_at K36.out 0 4 3 false s_has2 rfl).mono ?_
  rintro e w37 ⟨rfl, k37⟩
  have K37 := Lib.hid k37
  clear k37 K36
  go_wp2_with fail
  refine (within_at K37.out 3 0 true s_in1 rfl rfl).mono ?_
  rintro e w38 ⟨rfl, k38⟩
  have K38 := Lib.hid k38
  clear k38 K37
  go_wp2_with fail
  refine (within_at K38.out 0 3 false s_in2 rfl rfl).mono ?_
  rintro e w39 ⟨rfl, k39⟩
  have K39 := Lib.hid k39
  clear k39 K38
  go_wp2_with fail
  refine (valid_at K39.out 0 true s_valid1 rfl).mono ?_
  rintro e w40 ⟨rfl, k40⟩
  have K40 := Lib.hid k40
  clear k40 K39
  go_wp2_with fail
  refine (rect_at K40.out 0 4 0 2).mono ?_
  rintro e w41 ⟨rfl, k41⟩
  have K41 := Lib.hid k41
  clear k41 K40
  go_wp2_with fail
  refine (rect_at K41.out 0 4 2 4).mono ?_
  rintro e w42 ⟨rfl, k42⟩
  have K42 := Lib.hid k42
  clear k42 K41
  have k43 := K42.out.two [⟨0, 4, 0, 2⟩, ⟨0, 4, 2, 4⟩] 0 4 0 2 0 4 2 4 rfl
  simp only [List.nil_append, List.cons_append] at k43
  have K43 := Lib.hid k43
  clear k43
  clear K42
  go_wp2_with fail
  refine (valid_at K43.out 16 false s_valid2 rfl).mono ?_
  rintro e w44 ⟨rfl, k44⟩
  have K44 := Lib.hid k44
  clear k44 K43
  go_wp2_with fail
  refine (whole_at K44.out rfl).mono ?_
  rintro e w45 ⟨r45, rfl, k45⟩
  simp only [List.nil_append, List.cons_append] at k45
  have K45 := Lib.hid k45
  clear k45 K44
  go_wp2_with fail
  refine (rect_at K45.out 0 64 0 64).mono ?_
  rintro e w46 ⟨rfl, k46⟩
  have K46 := Lib.hid k46
  clear k46 K45
  have k47 := K46.out.one wholeS 0 64 0 64 rfl
  simp only [List.nil_append, List.cons_append] at k47
  have K47 := Lib.hid k47
  clear k47
  clear K46
  go_wp2_with fail
  refine (same_at K47.out 17 18 true (by decide) rfl rfl).mono ?_
  rintro e w48 ⟨rfl, k48⟩
  have K48 := Lib.hid k48
  clear k48 K47
  go_wp2
  go_ret
  exact ⟨rfl, K48.out.below⟩
theorem sane_at {w0 w : World} {ls : List (Value × List R4)} (k : Know w0 w ls) : Calls Tryd.prog 9 #[] w (Says w0 ls (.bool true)) :=
  (sane_any k.env).mono fun _ _ ⟨he, hb⟩ => ⟨he, k.step hb⟩
end Go.Proofs.YtbpkfpkhnkcgkaaDoorR
