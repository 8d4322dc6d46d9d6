/- The walks of the reference's One and List. The conditions: ranges, what the slice reads as. -/
import Derived.Test.YtbpkfpkhnkcgkaaDoorRWA1
import Derived.Test.YtbpkfpkhnkcgkaaDoorRReg
import Derived.OwnWalk
import Derived.Deep.RegionHeld3
namespace Go.Proofs.YtbpkfpkhnkcgkaaDoorR
open Go.RowKit Go.BigFrame

def oneA (a b c d : Int) : R4 := ⟨pickS a 15, pickS a 15 + 1 + pickS c (16 - pickS a 15), pickS b 15, pickS b 15 + 1 + pickS d (16 - pickS b 15)⟩
def four (x : R4) : R4 := ⟨4 * x.l, 4 * x.r, 4 * x.lo, 4 * x.hi⟩
/-- A valid rectangle that integers determine. -/
def oneS (a b c d : Int) : R4 := if pickS (a.tdiv 16) 8 = 7 then four (oneA a b c d) else oneA a b c d
theorem oneA_rng (a b c d : Int) : 0 ≤ (oneA a b c d).l ∧ (oneA a b c d).l < (oneA a b c d).r ∧ (oneA a b c d).r ≤ 16 ∧ 0 ≤ (oneA a b c d).lo ∧ (oneA a b c d).lo < (oneA a b c d).hi ∧ (oneA a b c d).hi ≤ 16 := by
  have h1 := pickS_rng a 15 (by omega)
  have h2 := pickS_rng b 15 (by omega)
  have h3 := pickS_rng c (16 - pickS a 15) (by omega)
  have h4 := pickS_rng d (16 - pickS b 15) (by omega)
  simp only [oneA]
  omega
theorem oneS_valid (a b c d : Int) : vrect (oneS a b c d) = true := by
  have h := oneA_rng a b c d
  rw [vrect_iff]
  unfold oneS
  split
  · simp only [four]; omega
  · omega

theorem tdiv16 (a : Int) (h : I64 a) : I64 (a.tdiv 16) := by
  obtain ⟨g1, g2⟩ := h
  by_cases h0 : 0 ≤ a
  · rw [Int.tdiv_eq_ediv_of_nonneg h0]
    constructor <;> omega
  · have e : a.tdiv 16 = -((-a).tdiv 16) := by rw [Int.neg_tdiv, Int.neg_neg]
    rw [e, Int.tdiv_eq_ediv_of_nonneg (by omega)]
    constructor <;> omega

set_option maxHeartbeats 1000000 in
theorem one_any (a b c d : Int) (w : World) (ha : I64 a) (hb : I64 b) (hc : I64 c) (hd : I64 d) :
    Calls Tryd.prog 29 #[.agg #[.int .i64 a, .int .i64 b, .int .i64 c, .int .i64 d]] w fun e w' => e = .returned (.agg #[.int .i64 (oneS a b c d).l, .int .i64 (oneS a b c d).r, .int .i64 (oneS a b c d).lo, .int .i64 (oneS a b c d).hi]) ∧ Below w.heap.size w w' := by
  obtain ⟨h1, h2⟩ := pickS_rng a 15 (by omega)
  obtain ⟨h3, h4⟩ := pickS_rng b 15 (by omega)
  obtain ⟨h5, h6⟩ := pickS_rng c (16 - pickS a 15) (by omega)
  obtain ⟨h7, h8⟩ := pickS_rng d (16 - pickS b 15) (by omega)
  obtain ⟨h9, h10⟩ := pickS_rng (a.tdiv 16) 8 (by omega)
  have HA := Lib.hid ha
  have HB := Lib.hid hb
  have HC := Lib.hid hc
  have HD := Lib.hid hd
  have hA16 := tdiv16 a ha
  have HA16 := Lib.hid hA16
  have ew : IntKind.i64.wrap (a.tdiv 16) = a.tdiv 16 := IntWalk.i64_in _ ⟨hA16.1, hA16.2⟩
  have HO : Hid (oneS a b c d = if pickS (a.tdiv 16) 8 = 7 then four ⟨pickS a 15, pickS a 15 + 1 + pickS c (16 - pickS a 15), pickS b 15, pickS b 15 + 1 + pickS d (16 - pickS b 15)⟩ else ⟨pickS a 15, pickS a 15 + 1 + pickS c (16 - pickS a 15), pickS b 15, pickS b 15 + 1 + pickS d (16 - pickS b 15)⟩) := rfl
  clear ha hb hc hd hA16
  go_enter Tryd.func29, Tryd.ntmps29
  go_wp2_with fail
  refine (rpick_any a 15 _ HA.out (by omega) (by omega)).mono ?_
  rintro e w' ⟨rfl, rfl⟩
  go_wp2_with fail
  refine (rpick_any b 15 _ HB.out (by omega) (by omega)).mono ?_
  rintro e w' ⟨rfl, rfl⟩
  generalize pickS a 15 = p at *
  generalize pickS b 15 = q at *
  go_wp2_with fail
  have b1 : 0 < 16 - p := by omega
  have b2 : 16 - p ≤ 9223372036854775807 := by omega
  have b3 : 0 < 16 - q := by omega
  have b4 : 16 - q ≤ 9223372036854775807 := by omega
  have f1 : IntKind.i64.wrap (p + 1) = p + 1 := IntWalk.i64_in _ (by omega)
  have f2 : IntKind.i64.wrap (16 - p) = 16 - p := IntWalk.i64_in _ (by omega)
  have f3 : IntKind.i64.wrap (p + 1 + pickS c (16 - p)) = p + 1 + pickS c (16 - p) := IntWalk.i64_in _ (by omega)
  have f4 : IntKind.i64.wrap (q + 1) = q + 1 := IntWalk.i64_in _ (by omega)
  have f5 : IntKind.i64.wrap (16 - q) = 16 - q := IntWalk.i64_in _ (by omega)
  have f6 : IntKind.i64.wrap (q + 1 + pickS d (16 - q)) = q + 1 + pickS d (16 - q) := IntWalk.i64_in _ (by omega)
  go_region_held3 (fun w' => w'.cell? ⟨w.heap.size, 2, none⟩ = some (.int .i64 c) ∧ w'.cell? ⟨w.heap.size, 3, none⟩ = some (.int .i64 d))
    (first | go_keep) ((first | (go_at_call 42; refine (rpick_any _ _ _ (by first | exact HC.out | exact HD.out) (by first | exact b1 | exact b3) (by first | exact b2 | exact b4)).mono ?_; rintro e w' ⟨rfl, rfl⟩)))
  all_goals
    clear f1 f2 f3 f4 f5 f6
    go_wp2_with fail
    refine (rpick_any (a.tdiv 16) 8 _ HA16.out (by omega) (by omega)).mono ?_
    rintro e w' ⟨rfl, rfl⟩
    go_wp2
  all_goals
    go_returns
    refine ⟨?_, ?_⟩
    · rw [HO.out]
      by_cases h : pickS (a.tdiv 16) 8 = 7
      · first | (rw [if_pos h]; rfl) | (exfalso; have hh : (pickS (a.tdiv 16) 8 == 7) = false := by assumption
                                        rw [h] at hh; cases hh)
      · first | (exfalso; have hh : (pickS (a.tdiv 16) 8 == 7) = true := by assumption
                 exact h (by simpa using hh)) | rw [if_neg h]
    · exact below_drewN ((((Below.refl _ _).alloc (Nat.le_refl _) _).alloc (by simp) _).alloc (by simp; omega) _) 1
end Go.Proofs.YtbpkfpkhnkcgkaaDoorR
