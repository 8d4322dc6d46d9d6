/- The walks of Has's closure, slices.IndexFunc and ContainsFunc at it, near, sum. The conditions: what the slices and the captured variables read as. -/
import Derived.Test.YtbpkfpkhnkcgkaaDoorRWA2
namespace Go.Proofs.YtbpkfpkhnkcgkaaDoorR
open Go.RowKit

def inR (x y : Int) (q : R4) : Bool := decide (q.l ≤ x) && decide (x < q.r) && decide (q.lo ≤ y) && decide (y < q.hi)

set_option maxHeartbeats 400000 in
theorem has1_any (q : R4) (x y : Int) (bx bz : Nat) (w : World) (hx : w.cell? ⟨bx, 0, none⟩ = some (.int .i64 x)) (hy : w.cell? ⟨bz, 0, none⟩ = some (.int .i64 y)) (h1 : bx < w.heap.size) (h2 : bz < w.heap.size) :
    Calls Tryd.prog 38 #[.agg #[.int .i64 q.l, .int .i64 q.r, .int .i64 q.lo, .int .i64 q.hi], .pointer (some ⟨bx, 0, none⟩), .pointer (some ⟨bz, 0, none⟩)] w fun e w' => e = .returned (.bool (inR x y q)) ∧ Below w.heap.size w w' := by
  obtain ⟨a, b, c, d⟩ := q
  go_enter Tryd.func38, Tryd.ntmps38
  go_wp2
  all_goals
    go_ret
    refine ⟨ret_bool ?_, (Below.refl _ _).alloc (Nat.le_refl _) _⟩
    simp only [inR]
    simp [*]
    try omega

/-- How far the first element lies for which a test holds. -/
def firstIdx (p : R4 → Bool) : List R4 → Int → Int
  | [], _ => -1
  | q :: qs, i => if p q then i else firstIdx p qs (i + 1)
theorem firstIdx_neg (p : R4 → Bool) (qs : List R4) (i : Int) (hi : 0 ≤ i) : decide (0 ≤ firstIdx p qs i) = qs.any p := by
  induction qs generalizing i with
  | nil => simp [firstIdx]
  | cons q qs ih =>
    simp only [firstIdx, List.any_cons]
    by_cases h : p q = true
    · simp [h, hi]
    · simp [h, ih (i + 1) (by omega)]
theorem firstIdx_drop (p : R4 → Bool) (qs : List R4) (k : Nat) (i : Int) (h : ∀ j q, j < k → qs[j]? = some q → p q = false) : k ≤ qs.length → firstIdx p qs i = firstIdx p (qs.drop k) (i + k) := by
  induction k generalizing qs i with
  | zero => simp
  | succ k ih =>
    intro hk
    cases qs with
    | nil => simp at hk
    | cons q qs =>
      have h0 := h 0 q (by omega) rfl
      simp only [firstIdx, h0, List.drop_succ_cons]
      rw [if_neg (by simp), ih qs (i + 1) (fun j q hj hq => h (j + 1) q (by omega) (by simpa using hq)) (by simpa using hk)]
      congr 1; omega

theorem drop_get {α : Type} {xs : List α} {k : Nat} {q : α} (h : xs[k]? = some q) : xs.drop k = q :: xs.drop (k + 1) := by
  have hk : k < xs.length := by
    rcases Nat.lt_or_ge k xs.length with h' | h'
    · exact h'
    · rw [List.getElem?_eq_none h'] at h; cases h
  rw [List.drop_eq_getElem_cons hk]
  rw [List.getElem?_eq_getElem hk] at h
  cases h; rfl

set_option maxHeartbeats 1000000 in
theorem indexFunc_any (x y : Int) (bx bz : Nat) {w : World} {v : Value} {xs : List R4} (hr : RS w v xs) (hx : w.cell? ⟨bx, 0, none⟩ = some (.int .i64 x)) (hy : w.cell? ⟨bz, 0, none⟩ = some (.int .i64 y)) (h1 : bx < w.heap.size) (h2 : bz < w.heap.size) :
    Calls Tryd.prog 48 #[v, .func (.func 38) #[] #[.pointer (some ⟨bx, 0, none⟩), .pointer (some ⟨bz, 0, none⟩)]] w fun e w' => e = .returned (.int .i64 (firstIdx (inR x y) xs 0)) ∧ Below w.heap.size w w' := by
  obtain ⟨a, cap, rfl, l1, l2, l3⟩ := hr.opened
  have H3 := Lib.hid l3
  clear l3 hr
  unfold maxLen at l2
  obtain ⟨n, hn⟩ : ∃ n, n = xs.length := ⟨_, rfl⟩
  rw [← hn] at l1 ⊢
  have HN := Lib.hid hn
  clear hn
  go_enter Tryd.func48, Tryd.ntmps48
  go_wp2
  go_loopw [8] (fun i wr => ∃ k : Nat, k ≤ n ∧ i = .int .i64 k ∧ Hid (∀ j q, j < k → xs[j]? = some q → inR x y q = false) ∧ Below w.heap.size w wr) (fun i wr => n - (intOf i).toNat)
  case atStart => exact ⟨0, by omega, rfl, (by intro j q hj; omega), Below.refl _ _⟩
  case round =>
    obtain ⟨k, hk, rfl, hall, hB⟩ := hrel
    by_cases hlt : k < n
    · obtain ⟨q, eq⟩ : ∃ q, xs[k]? = some q := ⟨_, List.getElem?_eq_getElem (by rw [← HN.out]; exact hlt)⟩
      obtain ⟨b, off, rfl, hb, c1, c2, c3, c4⟩ := H3.out k q eq
      have EQ := Lib.hid eq
      clear eq
      have d1 := (hB.cell (p := ⟨b, off + k * 4, none⟩) hb).trans c1
      have d2 := (hB.cell (p := ⟨b, off + k * 4 + 1, none⟩) hb).trans c2
      have d3 := (hB.cell (p := ⟨b, off + k * 4 + 2, none⟩) hb).trans c3
      have d4 := (hB.cell (p := ⟨b, off + k * 4 + 3, none⟩) hb).trans c4
      have e1 := (hB.cell (p := ⟨bx, 0, none⟩) h1).trans hx
      have e2 := (hB.cell (p := ⟨bz, 0, none⟩) h2).trans hy
      have s1 := hB.size
      clear c1 c2 c3 c4 hx hy
      by_cases hp : inR x y q = true
      · have HP := Lib.hid hp
        clear hp
        go_wp2_with (go_at_call 38; refine (has1_any q x y bx bz _ e1 e2 (by omega) (by omega)).mono ?_; rintro e w1 ⟨rfl, hb1⟩; rw [HP.out])
        go_ret
        refine ⟨ret_int ?_, hB.trans (hb1.mono s1)⟩
        rw [firstIdx_drop (inR x y) xs k 0 hall.out (by rw [← HN.out]; omega)]
        rw [drop_get EQ.out, firstIdx, if_pos HP.out]; omega
      · have HP : Hid (inR x y q = false) := Lib.hid (by simpa using hp)
        clear hp
        go_wp2_with (go_at_call 38; refine (has1_any q x y bx bz _ e1 e2 (by omega) (by omega)).mono ?_; rintro e w1 ⟨rfl, hb1⟩; rw [HP.out])
        go_roundw
        case rel =>
          refine ⟨k + 1, by omega, by go_num, ?_, hB.trans (hb1.mono s1)⟩
          intro j q' hj hq
          by_cases hjk : j = k
          · subst hjk; rw [EQ.out] at hq; cases hq; exact HP.out
          · exact hall.out j q' (by omega) hq
        case measure => simp [intOf]; omega
    · go_wp2
      go_ret
      refine ⟨ret_int ?_, hB⟩
      rw [firstIdx_drop (inR x y) xs k 0 hall.out (by rw [← HN.out]; omega), List.drop_eq_nil_of_le (by rw [← HN.out]; omega), firstIdx]

set_option maxHeartbeats 400000 in
theorem containsFunc_any (x y : Int) (bx bz : Nat) {w : World} {v : Value} {xs : List R4} (hr : RS w v xs) (hx : w.cell? ⟨bx, 0, none⟩ = some (.int .i64 x)) (hy : w.cell? ⟨bz, 0, none⟩ = some (.int .i64 y)) (h1 : bx < w.heap.size) (h2 : bz < w.heap.size) :
    Calls Tryd.prog 39 #[v, .func (.func 38) #[] #[.pointer (some ⟨bx, 0, none⟩), .pointer (some ⟨bz, 0, none⟩)]] w fun e w' => e = .returned (.bool (xs.any (inR x y))) ∧ Below w.heap.size w w' := by
  have hf := firstIdx_neg (inR x y) xs 0 (by omega)
  have HF := Lib.hid hf
  clear hf
  generalize hi : firstIdx (inR x y) xs 0 = i at *
  have hc := indexFunc_any x y bx bz hr hx hy h1 h2
  rw [hi] at hc
  clear hi
  have HC := Lib.hid hc
  clear hc
  go_enter Tryd.func39, Tryd.ntmps39
  go_wp2_with (go_at_call 48; refine HC.out.mono ?_; rintro e w1 ⟨rfl, hb1⟩)
  go_ret
  exact ⟨ret_bool HF.out, hb1⟩

/-! ### near, sum -/
def nearR (x y d : Int) (q : R4) : Bool := decide (q.l - d ≤ x) && decide (x < q.r + d) && decide (q.lo - d ≤ y) && decide (y < q.hi + d)

theorem any_false_of {α : Type} {p : α → Bool} {xs : List α} {n : Nat} (hn : xs.length = n) (h : ∀ j q, j < n → xs[j]? = some q → p q = false) : xs.any p = false := by
  rw [List.any_eq_false]
  intro q hq
  obtain ⟨j, hj, rfl⟩ := List.getElem_of_mem hq
  simp [h j _ (by omega) (List.getElem?_eq_getElem hj)]
theorem any_true_of {α : Type} {p : α → Bool} {xs : List α} {k : Nat} {q : α} (h : xs[k]? = some q) (hp : p q = true) : xs.any p = true :=
  List.any_eq_true.2 ⟨q, List.mem_of_getElem? h, hp⟩

set_option maxHeartbeats 2000000 in
theorem near_any (x y d : Int) {w : World} {v : Value} {xs : List R4} (hr : RS w v xs) (hv : ∀ q ∈ xs, vrect q = true) (hd : 0 ≤ d ∧ d ≤ 64) :
    Calls Tryd.prog 19 #[v, .int .i64 x, .int .i64 y, .int .i64 d] w fun e w' => e = .returned (.bool (xs.any (nearR x y d))) ∧ Below w.heap.size w w' := by
  obtain ⟨a, cap, rfl, l1, l2, l3⟩ := hr.opened
  have H3 := Lib.hid l3
  clear l3 hr
  unfold maxLen at l2
  obtain ⟨n, hn⟩ : ∃ n, n = xs.length := ⟨_, rfl⟩
  rw [← hn] at l1 ⊢
  have HN := Lib.hid hn
  have HV := Lib.hid hv
  clear hn hv
  obtain ⟨hd1, hd2⟩ := hd
  go_enter Tryd.func19, Tryd.ntmps19
  go_wp2
  go_loopw [9, 10] (fun i u wr => ∃ k : Nat, k ≤ n ∧ i = .int .i64 k ∧ Hid (∀ j q, j < k → xs[j]? = some q → nearR x y d q = false) ∧ Below w.heap.size w wr) (fun i u wr => n - (intOf i).toNat)
  case atStart => exact ⟨0, by omega, rfl, (by intro j q hj; omega), Below.refl _ _⟩
  case round =>
    obtain ⟨k, hk, rfl, hall, hB⟩ := hrel
    by_cases hlt : k < n
    · obtain ⟨q, eq⟩ : ∃ q, xs[k]? = some q := ⟨_, List.getElem?_eq_getElem (by rw [← HN.out]; exact hlt)⟩
      obtain ⟨b, off, rfl, hb, c1, c2, c3, c4⟩ := H3.out k q eq
      have hq := (vrect_iff q).1 (HV.out q (List.mem_of_getElem? eq))
      obtain ⟨q1, q2, q3, q4, q5, q6⟩ := hq
      have EQ := Lib.hid eq
      clear eq
      have d1 := (hB.cell (p := ⟨b, off + k * 4, none⟩) hb).trans c1
      have d2 := (hB.cell (p := ⟨b, off + k * 4 + 1, none⟩) hb).trans c2
      have d3 := (hB.cell (p := ⟨b, off + k * 4 + 2, none⟩) hb).trans c3
      have d4 := (hB.cell (p := ⟨b, off + k * 4 + 3, none⟩) hb).trans c4
      have s1 := hB.size
      clear c1 c2 c3 c4
      have HP : ∀ v, nearR x y d q = v → Hid (nearR x y d q = v) := fun v h => h
      by_cases t1 : q.l - d ≤ x <;> by_cases t2 : x < q.r + d <;> by_cases t3 : q.lo - d ≤ y <;> by_cases t4 : y < q.hi + d
      all_goals try (exfalso; omega)
      all_goals
        have hp := HP _ (by simp only [nearR, t1, t2, t3, t4]; rfl)
        clear HP
        go_wp2
        first
          | (go_ret
             refine ⟨ret_bool ?_, hB.alloc s1 _⟩
             rw [any_true_of EQ.out hp.out]; done)
          | (go_roundw
             case rel =>
               refine ⟨k + 1, by omega, by go_num, ?_, hB.alloc s1 _⟩
               intro j q' hj hq
               by_cases hjk : j = k
               · subst hjk; rw [EQ.out] at hq; cases hq; exact hp.out
               · exact hall.out j q' (by omega) hq
             case measure => simp [intOf]; omega)
    · go_wp2
      go_ret
      refine ⟨ret_bool ?_, hB⟩
      rw [any_false_of HN.out.symm (fun j q hj => hall.out j q (by omega))]
end Go.Proofs.YtbpkfpkhnkcgkaaDoorR
