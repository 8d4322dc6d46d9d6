/- The walks of Same and slices.Equal over slices of rectangles. The conditions: what the slices read as. -/
import Derived.Test.YtbpkfpkhnkcgkaaDoorRWA1
namespace Go.Proofs.YtbpkfpkhnkcgkaaDoorR
open Go.RowKit

theorem eq_of_get {α : Type} {xs ys : List α} {n : Nat} (h1 : xs.length = n) (h2 : ys.length = n) (h : ∀ j, j < n → xs[j]? = ys[j]?) : xs = ys := by
  apply List.ext_getElem?
  intro j
  by_cases hj : j < n
  · exact h j hj
  · rw [List.getElem?_eq_none (by omega), List.getElem?_eq_none (by omega)]

set_option maxHeartbeats 400000 in
theorem same_len (a b : Option Addr) (n m cap cap' : Nat) (w : World) (hne : n ≠ m) :
    Calls Tryd.prog 22 #[.slice a n cap, .slice b m cap'] w fun e w' => e = .returned (.bool false) ∧ w = w' := by
  have h : ((n : Int) == (m : Int)) = false := by simp; omega
  have h' : ((n : Int) != (m : Int)) = true := by simp; omega
  go_enter Tryd.func22, Tryd.ntmps22
  go_wp2
  go_ret
  exact ⟨rfl, rfl⟩

set_option maxHeartbeats 1000000 in
theorem same_eqlen (a a' : Option Addr) (n cap cap' : Nat) (xs ys : List R4) (w : World) (hx : ∀ k x, xs[k]? = some x → ∃ b off, a = some ⟨b, off, none⟩ ∧ b < w.heap.size ∧ RAt w b (off + k * 4) x)
    (hy : ∀ k x, ys[k]? = some x → ∃ b off, a' = some ⟨b, off, none⟩ ∧ b < w.heap.size ∧ RAt w b (off + k * 4) x) (hm : n ≤ 9223372036854775807) (hn1 : xs.length = n) (hn2 : ys.length = n) :
    Calls Tryd.prog 22 #[.slice a n cap, .slice a' n cap'] w fun e w' => e = .returned (.bool (decide (xs = ys))) ∧ ∃ n, w' = w.drewN n := by
  have H1 := Lib.hid hn1
  have H2 := Lib.hid hn2
  have HX := Lib.hid hx
  have HY := Lib.hid hy
  clear hn1 hn2 hx hy
  go_enter Tryd.func22, Tryd.ntmps22
  go_wp2
  go_loopw [5] (fun i wr => ∃ k : Nat, k ≤ n ∧ i = .int .i64 k ∧ (∀ j, j < k → xs[j]? = ys[j]?) ∧ ∃ q, wr = w.drewN q) (fun i wr => n - (intOf i).toNat)
  case atStart => exact ⟨0, by omega, rfl, by intro j hj; omega, 0, rfl⟩
  case round =>
    obtain ⟨k, hk, rfl, hall, q, rfl⟩ := hrel
    have HA := Lib.hid hall
    clear hall
    by_cases hlt : k < n
    · have l1 : k < xs.length := by rw [H1.out]; exact hlt
      have l2 : k < ys.length := by rw [H2.out]; exact hlt
      obtain ⟨x, ex⟩ : ∃ x, xs[k]? = some x := ⟨_, List.getElem?_eq_getElem l1⟩
      obtain ⟨y, ey⟩ : ∃ y, ys[k]? = some y := ⟨_, List.getElem?_eq_getElem l2⟩
      obtain ⟨b, off, rfl, _, c1, c2, c3, c4⟩ := HX.out k x ex
      obtain ⟨b', off', rfl, _, d1, d2, d3, d4⟩ := HY.out k y ey
      have EX := Lib.hid ex
      have EY := Lib.hid ey
      clear ex ey l1 l2
      have hn := neqR x y
      by_cases hxy : x = y
      · subst hxy
        simp only [decide_true, Bool.not_true] at hn
        go_wp2
        go_quiet (fail)
        go_wp2
        go_roundw
        case rel =>
          refine ⟨k + 1, by omega, by go_num, ?_, _, rfl⟩
          intro j hj
          by_cases hjk : j = k
          · subst hjk; rw [EX.out, EY.out]
          · exact HA.out j (by omega)
        case measure => simp [intOf]; omega
      · have hd : decide (x = y) = false := by simp [hxy]
        rw [hd] at hn
        clear hd
        have HXY := Lib.hid hxy
        clear hxy
        simp only [Bool.not_false] at hn
        go_wp2
        go_quiet (fail)
        go_wp2
        go_ret
        refine ⟨ret_bool ?_, _, by rw [World.drewN_drewN]⟩
        symm
        rw [decide_eq_false_iff_not]
        intro he
        apply HXY.out
        have := EX.out
        rw [he, EY.out] at this
        exact (Option.some.inj this).symm
    · go_wp2
      go_ret
      refine ⟨ret_bool ?_, _, rfl⟩
      symm
      rw [decide_eq_true_eq]
      exact eq_of_get H1.out H2.out (fun j hj => HA.out j (by omega))

theorem same_any {w : World} {v v' : Value} {xs ys : List R4} (hx : RS w v xs) (hy : RS w v' ys) :
    Calls Tryd.prog 22 #[v, v'] w fun e w' => e = .returned (.bool (decide (xs = ys))) ∧ ∃ n, w' = w.drewN n := by
  obtain ⟨a, cap, rfl, h1, h2, h3⟩ := hx.opened
  obtain ⟨a', cap', rfl, h1', h2', h3'⟩ := hy.opened
  by_cases he : xs.length = ys.length
  · rw [← he]
    exact same_eqlen a a' xs.length cap cap' xs ys w h3 h3' (by unfold maxLen at h2; omega) rfl he.symm
  · refine (same_len a a' _ _ cap cap' w he).mono ?_
    rintro e w' ⟨rfl, rfl⟩
    refine ⟨ret_bool ?_, 0, rfl⟩
    symm
    rw [decide_eq_false_iff_not]
    intro e; exact he (by rw [e])
set_option maxHeartbeats 400000 in
theorem equal_len (a b : Option Addr) (n m cap cap' : Nat) (w : World) (hne : n ≠ m) :
    Calls Tryd.prog 47 #[.slice a n cap, .slice b m cap'] w fun e w' => e = .returned (.bool false) ∧ w = w' := by
  have h : ((n : Int) == (m : Int)) = false := by simp; omega
  have h' : ((n : Int) != (m : Int)) = true := by simp; omega
  go_enter Tryd.func47, Tryd.ntmps47
  go_wp2
  go_ret
  exact ⟨rfl, rfl⟩

set_option maxHeartbeats 1000000 in
theorem equal_eqlen (a a' : Option Addr) (n cap cap' : Nat) (xs ys : List R4) (w : World) (hx : ∀ k x, xs[k]? = some x → ∃ b off, a = some ⟨b, off, none⟩ ∧ b < w.heap.size ∧ RAt w b (off + k * 4) x)
    (hy : ∀ k x, ys[k]? = some x → ∃ b off, a' = some ⟨b, off, none⟩ ∧ b < w.heap.size ∧ RAt w b (off + k * 4) x) (hm : n ≤ 9223372036854775807) (hn1 : xs.length = n) (hn2 : ys.length = n) :
    Calls Tryd.prog 47 #[.slice a n cap, .slice a' n cap'] w fun e w' => e = .returned (.bool (decide (xs = ys))) ∧ ∃ n, w' = w.drewN n := by
  have H1 := Lib.hid hn1
  have H2 := Lib.hid hn2
  have HX := Lib.hid hx
  have HY := Lib.hid hy
  clear hn1 hn2 hx hy
  go_enter Tryd.func47, Tryd.ntmps47
  go_wp2
  go_loopw [13] (fun i wr => ∃ k : Nat, k ≤ n ∧ i = .int .i64 k ∧ (∀ j, j < k → xs[j]? = ys[j]?) ∧ ∃ q, wr = w.drewN q) (fun i wr => n - (intOf i).toNat)
  case atStart => exact ⟨0, by omega, rfl, by intro j hj; omega, 0, rfl⟩
  case round =>
    obtain ⟨k, hk, rfl, hall, q, rfl⟩ := hrel
    have HA := Lib.hid hall
    clear hall
    by_cases hlt : k < n
    · have l1 : k < xs.length := by rw [H1.out]; exact hlt
      have l2 : k < ys.length := by rw [H2.out]; exact hlt
      obtain ⟨x, ex⟩ : ∃ x, xs[k]? = some x := ⟨_, List.getElem?_eq_getElem l1⟩
      obtain ⟨y, ey⟩ : ∃ y, ys[k]? = some y := ⟨_, List.getElem?_eq_getElem l2⟩
      obtain ⟨b, off, rfl, _, c1, c2, c3, c4⟩ := HX.out k x ex
      obtain ⟨b', off', rfl, _, d1, d2, d3, d4⟩ := HY.out k y ey
      have EX := Lib.hid ex
      have EY := Lib.hid ey
      clear ex ey l1 l2
      have hn := neqR x y
      by_cases hxy : x = y
      · subst hxy
        simp only [decide_true, Bool.not_true] at hn
        go_wp2
        go_quiet (fail)
        go_wp2
        go_roundw
        case rel =>
          refine ⟨k + 1, by omega, by go_num, ?_, _, rfl⟩
          intro j hj
          by_cases hjk : j = k
          · subst hjk; rw [EX.out, EY.out]
          · exact HA.out j (by omega)
        case measure => simp [intOf]; omega
      · have hd : decide (x = y) = false := by simp [hxy]
        rw [hd] at hn
        clear hd
        have HXY := Lib.hid hxy
        clear hxy
        simp only [Bool.not_false] at hn
        go_wp2
        go_quiet (fail)
        go_wp2
        go_ret
        refine ⟨ret_bool ?_, _, by rw [World.drewN_drewN]⟩
        symm
        rw [decide_eq_false_iff_not]
        intro he
        apply HXY.out
        have := EX.out
        rw [he, EY.out] at this
        exact (Option.some.inj this).symm
    · go_wp2
      go_ret
      refine ⟨ret_bool ?_, _, rfl⟩
      symm
      rw [decide_eq_true_eq]
      exact eq_of_get H1.out H2.out (fun j hj => HA.out j (by omega))

theorem equal_any {w : World} {v v' : Value} {xs ys : List R4} (hx : RS w v xs) (hy : RS w v' ys) :
    Calls Tryd.prog 47 #[v, v'] w fun e w' => e = .returned (.bool (decide (xs = ys))) ∧ ∃ n, w' = w.drewN n := by
  obtain ⟨a, cap, rfl, h1, h2, h3⟩ := hx.opened
  obtain ⟨a', cap', rfl, h1', h2', h3'⟩ := hy.opened
  by_cases he : xs.length = ys.length
  · rw [← he]
    exact equal_eqlen a a' xs.length cap cap' xs ys w h3 h3' (by unfold maxLen at h2; omega) rfl he.symm
  · refine (equal_len a a' _ _ cap cap' w he).mono ?_
    rintro e w' ⟨rfl, rfl⟩
    refine ⟨ret_bool ?_, 0, rfl⟩
    symm
    rw [decide_eq_false_iff_not]
    intro e; exact he (by rw [e])
end Go.Proofs.YtbpkfpkhnkcgkaaDoorR
