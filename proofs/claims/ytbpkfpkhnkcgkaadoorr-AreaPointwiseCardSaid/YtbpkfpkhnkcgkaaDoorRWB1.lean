/- The walks of the law's both, sees and sum. The conditions: what the slices read as, what is known of the results. -/
import Derived.Test.YtbpkfpkhnkcgkaaDoorRLK
namespace Go.Proofs.YtbpkfpkhnkcgkaaDoorR
open Go.RowKit Go.BigFrame

section
variable {w0 w : World} {ls : List (Value × List R4)} {v v' : Value} {xs ys us cs : List R4}

def Gives2 (w0 : World) (ls : List (Value × List R4)) (us cs : List R4) (b : Bool) (e : Ending) (w' : World) : Prop := ∃ r r', e = .returned (.tuple #[r, r', .bool b]) ∧ Know w0 w' (ls ++ [(r, us)] ++ [(r', cs)])

theorem get_app {α : Type} {ls ms : List α} {i : Nat} {x : α} (h : ls[i]? = some x) : (ls ++ ms)[i]? = some x := by
  have hi : i < ls.length := by
    rcases Nat.lt_or_ge i ls.length with h' | h'
    · exact h'
    · rw [List.getElem?_eq_none h'] at h; cases h
  rw [List.getElem?_append_left hi]; exact h

set_option maxHeartbeats 1000000 in
theorem both_at (k : Know w0 w ls) (i j : Nat) (h1 : unionS xs ys = (us, 0)) (h2 : commonS xs ys = (cs, 0)) (hi : ls[i]? = some (v, xs)) (hj : ls[j]? = some (v', ys)) :
    Calls Tryd.prog 26 #[v, v'] w (Gives2 w0 ls us cs true) := by
  have K := Lib.hid k
  have H1 := Lib.hid h1
  have H2 := Lib.hid h2
  have HI := Lib.hid hi
  have HJ := Lib.hid hj
  clear k h1 h2 hi hj
  go_enter Tryd.func26, Tryd.ntmps26
  go_wp2_with fail
  refine (union_at K.out i j 0 H1.out HI.out HJ.out).mono ?_
  rintro e w1 ⟨r, rfl, k1⟩
  have K1 := Lib.hid k1
  clear k1
  go_wp2_with fail
  refine (common_at K1.out i j 0 H2.out (get_app HI.out) (get_app HJ.out)).mono ?_
  rintro e w2 ⟨r', rfl, k2⟩
  have K2 := Lib.hid k2
  clear k2
  go_wp2
  go_ret3
  exact ⟨r, r', rfl, K2.out⟩

theorem cut_min (n c : Nat) : ∃ t : Nat, t ≤ n ∧ t ≤ c ∧ (if (c : Int) < (n : Int) then (c : Int) else (n : Int)) = (t : Int) := by
  by_cases h : c < n
  · exact ⟨c, by omega, by omega, by rw [if_pos (by omega)]⟩
  · exact ⟨n, by omega, by omega, by rw [if_neg (by omega)]⟩
/-- Whether a place is one of the map. -/
def onMap (x y : Int) : Bool := decide (0 ≤ x ∧ x < 64 ∧ 0 ≤ y ∧ y < 64)

set_option maxHeartbeats 2000000 in
theorem sees_at (k : Know w0 w ls) (i : Nat) (x y : Int) (want : Bool) (h : hasA xs x y = (want && onMap x y)) (hi : ls[i]? = some (v, xs)) :
    Calls Tryd.prog 18 #[v, .int .i64 x, .int .i64 y, .bool want] w (Says w0 ls (.bool true)) := by
  have K := Lib.hid k
  have HI := Lib.hid hi
  clear k hi
  cases want
  · rw [Bool.false_and] at h
    have H := Lib.hid h
    clear h
    go_enter Tryd.func18, Tryd.ntmps18
    go_wp2_with fail
    refine (has_at K.out i x y false H.out HI.out).mono ?_
    rintro e w1 ⟨rfl, k1⟩
    have K1 := Lib.hid k1
    clear k1
    go_wp2
    go_ret
    exact ⟨rfl, K1.out⟩
  · rw [Bool.true_and] at h
    have HM : ∀ b, onMap x y = b → Hid (hasA xs x y = b) := fun b hb => Lib.hid (by rw [h, hb])
    clear h
    by_cases c1 : 0 ≤ x
    · by_cases c2 : x < 64
      · by_cases c3 : 0 ≤ y
        · by_cases c4 : y < 64
          · have H := HM true (by unfold onMap; rw [decide_eq_true_eq]; omega)
            clear HM
            go_enter Tryd.func18, Tryd.ntmps18
            go_wp2_with fail
            refine (has_at K.out i x y true H.out HI.out).mono ?_
            rintro e w1 ⟨rfl, k1⟩
            have K1 := Lib.hid k1
            clear k1
            go_wp2
            go_ret
            exact ⟨ret_bool (by simp), K1.out⟩
          · have H := HM false (by unfold onMap; rw [decide_eq_false_iff_not]; omega)
            clear HM
            go_enter Tryd.func18, Tryd.ntmps18
            go_wp2_with fail
            refine (has_at K.out i x y false H.out HI.out).mono ?_
            rintro e w1 ⟨rfl, k1⟩
            have K1 := Lib.hid k1
            clear k1
            go_wp2
            go_ret
            exact ⟨ret_bool (by simp; try omega), K1.out⟩
        · have H := HM false (by unfold onMap; rw [decide_eq_false_iff_not]; omega)
          clear HM
          go_enter Tryd.func18, Tryd.ntmps18
          go_wp2_with fail
          refine (has_at K.out i x y false H.out HI.out).mono ?_
          rintro e w1 ⟨rfl, k1⟩
          have K1 := Lib.hid k1
          clear k1
          go_wp2
          go_ret
          exact ⟨ret_bool (by simp; try omega), K1.out⟩
      · have H := HM false (by unfold onMap; rw [decide_eq_false_iff_not]; omega)
        clear HM
        go_enter Tryd.func18, Tryd.ntmps18
        go_wp2_with fail
        refine (has_at K.out i x y false H.out HI.out).mono ?_
        rintro e w1 ⟨rfl, k1⟩
        have K1 := Lib.hid k1
        clear k1
        go_wp2
        go_ret
        exact ⟨ret_bool (by simp; try omega), K1.out⟩
    · have H := HM false (by unfold onMap; rw [decide_eq_false_iff_not]; omega)
      clear HM
      go_enter Tryd.func18, Tryd.ntmps18
      go_wp2_with fail
      refine (has_at K.out i x y false H.out HI.out).mono ?_
      rintro e w1 ⟨rfl, k1⟩
      have K1 := Lib.hid k1
      clear k1
      go_wp2
      go_ret
      exact ⟨ret_bool (by simp; try omega), K1.out⟩
end

theorem areaSum_take (xs : List R4) (k : Nat) (q : R4) (h : xs[k]? = some q) : areaSum (xs.take (k + 1)) = areaSum (xs.take k) + areaOf q := by
  induction xs generalizing k with
  | nil => simp at h
  | cons x xs ih =>
    cases k with
    | zero => simp at h; subst h; simp [areaSum]
    | succ k =>
      simp at h
      rw [List.take_succ_cons, List.take_succ_cons, areaSum, areaSum, ih k h]
      omega
theorem areaOf_le (q : R4) (hq : vrect q = true) : areaOf q ≤ 4096 := by
  obtain ⟨q1, q2, q3, q4, q5, q6⟩ := (vrect_iff q).1 hq
  unfold areaOf
  have : (q.r.toNat - q.l.toNat) * (q.hi.toNat - q.lo.toNat) ≤ 64 * 64 := Nat.mul_le_mul (by omega) (by omega)
  omega
theorem areaOf_cast (q : R4) (hq : vrect q = true) : ((areaOf q : Nat) : Int) = (q.r - q.l) * (q.hi - q.lo) := by
  obtain ⟨q1, q2, q3, q4, q5, q6⟩ := (vrect_iff q).1 hq
  unfold areaOf
  rw [Int.natCast_mul]
  congr 1 <;> omega
theorem areaSum_le (xs : List R4) (hv : ∀ q ∈ xs, vrect q = true) : areaSum xs ≤ 4096 * xs.length := by
  induction xs with
  | nil => simp [areaSum]
  | cons x xs ih =>
    have h1 := areaOf_le x (hv x (by simp))
    have h2 := ih (fun q hq => hv q (by simp [hq]))
    rw [areaSum, List.length_cons]
    omega

set_option maxHeartbeats 2000000 in
theorem sum_any {w : World} {v : Value} {xs : List R4} (hr : RS w v xs) (hv : ∀ q ∈ xs, vrect q = true) (hl : xs.length ≤ 1000) :
    Calls Tryd.prog 24 #[v] w fun e w' => e = .returned (.int .i64 (areaSum xs : Nat)) ∧ ∃ n, w' = w.drewN n := by
  obtain ⟨a, cap, rfl, l1, l2, l3⟩ := hr.opened
  have H3 := Lib.hid l3
  have HV := Lib.hid hv
  clear l3 hr hv
  unfold maxLen at l2
  obtain ⟨n, hn⟩ : ∃ n, n = xs.length := ⟨_, rfl⟩
  rw [← hn] at l1 hl ⊢
  have HN := Lib.hid hn
  clear hn
  go_enter Tryd.func24, Tryd.ntmps24
  go_wp2
  go_loopw [3, 4] (fun s i wr => ∃ k t : Nat, k ≤ n ∧ t ≤ 4096 * k ∧ i = .int .i64 k ∧ s = .int .i64 t ∧ Hid (t = areaSum (xs.take k)) ∧ ∃ q, wr = w.drewN q) (fun s i wr => n - (intOf i).toNat)
  case atStart => exact ⟨0, 0, by omega, by omega, rfl, rfl, (by rfl), 0, rfl⟩
  case round =>
    obtain ⟨k, t, hk, ht, rfl, rfl, hsum, q, rfl⟩ := hrel
    by_cases hlt : k < n
    · obtain ⟨x, ex⟩ : ∃ x, xs[k]? = some x := ⟨_, List.getElem?_eq_getElem (by rw [← HN.out]; exact hlt)⟩
      obtain ⟨b, off, rfl, hb, c1, c2, c3, c4⟩ := H3.out k x ex
      have hvx := HV.out x (List.mem_of_getElem? ex)
      have EX := Lib.hid (areaSum_take xs k x ex)
      have EC := Lib.hid (areaOf_cast x hvx)
      have hle := areaOf_le x hvx
      obtain ⟨q1, q2, q3, q4, q5, q6⟩ := (vrect_iff x).1 hvx
      clear ex hvx
      generalize ha : areaOf x = A at *
      have HA := Lib.hid ha
      clear ha
      have f1 : IntKind.i64.wrap (x.r - x.l) = x.r - x.l := IntWalk.i64_in _ (by omega)
      have f2 : IntKind.i64.wrap (x.hi - x.lo) = x.hi - x.lo := IntWalk.i64_in _ (by omega)
      have f3 : IntKind.i64.wrap ((x.r - x.l) * (x.hi - x.lo)) = (A : Int) := by rw [EC.out.symm]; exact IntWalk.i64_in _ (by omega)
      have f4 : IntKind.i64.wrap ((t : Int) + (A : Int)) = (t : Int) + (A : Int) := IntWalk.i64_in _ (by omega)
      go_wp2
      go_quiet (fail)
      clear f1 f2 f3 f4
      go_wp2
      go_roundw
      case rel => exact ⟨k + 1, t + A, by omega, by omega, by go_num, by go_num, (by rw [EX.out, hsum.out]; exact Lib.hid rfl), _, rfl⟩
      case measure => simp [intOf]; omega
    · have HF : Hid (t = areaSum xs) := Lib.hid (by rw [hsum.out, List.take_of_length_le (by rw [← HN.out]; omega)])
      go_wp2
      go_ret
      exact ⟨ret_int (by rw [HF.out]), _, rfl⟩
end Go.Proofs.YtbpkfpkhnkcgkaaDoorR
