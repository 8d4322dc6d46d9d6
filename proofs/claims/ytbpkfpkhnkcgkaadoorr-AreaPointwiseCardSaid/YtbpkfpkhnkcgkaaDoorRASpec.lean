/- The plain functions of the area layer: the intervals of a row, the rectangles of a grid; and what the words' arithmetic of an iterator over a row's intervals comes to. No program; no condition but ranges. -/
namespace Go.Proofs.YtbpkfpkhnkcgkaaDoorR

theorem testBit_mask (l r x : Nat) (h : l ≤ r) : (2 ^ r - 2 ^ l).testBit x = (decide (l ≤ x) && decide (x < r)) := by
  obtain ⟨k, rfl⟩ := Nat.exists_eq_add_of_le h
  have e : 2 ^ (l + k) - 2 ^ l = 2 ^ l * (2 ^ k - 1) := by rw [Nat.mul_sub, Nat.pow_add]; simp
  rw [e, Nat.testBit_two_pow_mul, Nat.testBit_two_pow_sub_one]
  by_cases h1 : l ≤ x
  · simp [h1]; omega
  · simp [h1]

/-! ### Intervals of a row -/
/-- Where the places from x on end. -/
def endOf (row : Nat → Bool) : Nat → Nat → Nat
  | 0, x => x
  | f + 1, x => if x < 64 ∧ row x = true then endOf row f (x + 1) else x
/-- An interval begins here. -/
def starts (row : Nat → Bool) (l : Nat) : Bool := row l && (l == 0 || !row (l - 1))
def startAt (row : Nat → Bool) (l : Nat) : Option (Nat × Nat) := if starts row l then some (l, endOf row 64 l) else none
/-- The intervals that begin before c. -/
def ivsUpto (row : Nat → Bool) (c : Nat) : List (Nat × Nat) := (List.range c).filterMap (startAt row)
def ivs (row : Nat → Bool) : List (Nat × Nat) := ivsUpto row 64

theorem endOf_eq (row : Nat → Bool) (r : Nat) (hr : r ≤ 64) (he : r = 64 ∨ row r = false) : ∀ (f x : Nat), x ≤ r → r - x ≤ f → (∀ y, x ≤ y → y < r → row y = true) → endOf row f x = r
  | 0, x, h1, h2, _ => by unfold endOf; omega
  | f + 1, x, h1, h2, h3 => by
    unfold endOf
    by_cases hx : x < r
    · rw [if_pos ⟨by omega, h3 x (Nat.le_refl _) hx⟩]
      exact endOf_eq row r hr he f (x + 1) (by omega) (by omega) (fun y hy hy' => h3 y (by omega) hy')
    · have : x = r := by omega
      subst this
      rw [if_neg]
      rintro ⟨h4, h5⟩
      rcases he with he | he
      · omega
      · rw [he] at h5; cases h5

theorem endOf_spec (row : Nat → Bool) : ∀ (f x : Nat), x ≤ 64 → 64 - x ≤ f → x ≤ endOf row f x ∧ endOf row f x ≤ 64 ∧ (∀ y, x ≤ y → y < endOf row f x → row y = true) ∧ (endOf row f x = 64 ∨ row (endOf row f x) = false)
  | 0, x, h1, h2 => by unfold endOf; exact ⟨Nat.le_refl _, h1, fun y h h' => by omega, .inl (by omega)⟩
  | f + 1, x, h1, h2 => by
    unfold endOf
    split
    · rename_i h
      obtain ⟨g1, g2, g3, g4⟩ := endOf_spec row f (x + 1) (by omega) (by omega)
      refine ⟨by omega, g2, fun y hy hy' => ?_, g4⟩
      by_cases e : y = x
      · subst e; exact h.2
      · exact g3 y (by omega) hy'
    · rename_i h
      refine ⟨Nat.le_refl _, h1, fun y hy hy' => by omega, ?_⟩
      by_cases e : x = 64
      · exact .inl e
      · right
        cases hr : row x with
        | false => rfl
        | true => exact absurd ⟨by omega, hr⟩ h

theorem range_split (c r : Nat) (h : c ≤ r) : List.range r = List.range c ++ (List.range (r - c)).map (c + ·) := by
  obtain ⟨k, rfl⟩ := Nat.exists_eq_add_of_le h
  rw [List.range_add]
  simp

/-- No interval begins where none of these places does. -/
theorem ivsUpto_skip (row : Nat → Bool) (c d : Nat) (h : c ≤ d) (hs : ∀ x, c ≤ x → x < d → starts row x = false) : ivsUpto row d = ivsUpto row c := by
  unfold ivsUpto
  rw [range_split c d h, List.filterMap_append]
  suffices hn : List.filterMap (startAt row) ((List.range (d - c)).map (c + ·)) = [] by rw [hn, List.append_nil]
  rw [List.filterMap_eq_nil_iff]
  intro x hx
  simp at hx
  obtain ⟨y, hy, rfl⟩ := hx
  unfold startAt
  rw [hs _ (by omega) (by omega)]
  rfl
theorem ivsUpto_succ (row : Nat → Bool) (l : Nat) (hs : starts row l = true) : ivsUpto row (l + 1) = ivsUpto row l ++ [(l, endOf row 64 l)] := by
  unfold ivsUpto
  rw [List.range_succ, List.filterMap_append]
  simp [startAt, hs]

/-- The next interval, seen from a place before which nothing begins that has not been told. -/
theorem ivsUpto_next (row : Nat → Bool) (c l r : Nat) (hc : c = 0 ∨ row (c - 1) = false ∨ row c = false) (h1 : c ≤ l) (h2 : l < r) (h3 : r ≤ 64) (hz : ∀ x, c ≤ x → x < l → row x = false) (hone : ∀ x, l ≤ x → x < r → row x = true) (he : r = 64 ∨ row r = false) :
    ivsUpto row r = ivsUpto row c ++ [(l, r)] := by
  have hl : row l = true := hone l (Nat.le_refl _) h2
  have hst : starts row l = true := by
    unfold starts
    rw [hl, Bool.true_and]
    by_cases e0 : l = 0
    · subst e0; rfl
    · have : row (l - 1) = false := by
        by_cases e : c ≤ l - 1
        · exact hz _ e (by omega)
        · have : c = l := by omega
          subst this
          rcases hc with hc | hc | hc
          · omega
          · exact hc
          · rw [hc] at hl; cases hl
      rw [this]; simp
  have e1 : ivsUpto row l = ivsUpto row c := ivsUpto_skip row c l h1 (fun x hx hx' => by unfold starts; rw [hz x hx hx']; rfl)
  have e2 : ivsUpto row r = ivsUpto row (l + 1) := ivsUpto_skip row (l + 1) r (by omega) (fun x hx hx' => by
    unfold starts
    rw [hone x (by omega) hx', hone (x - 1) (by omega) (by omega)]
    simp; omega)
  rw [e2, ivsUpto_succ row l hst, e1, endOf_eq row r h3 he 64 l (by omega) (by omega) hone]

theorem ivsUpto_len (row : Nat → Bool) (c : Nat) : (ivsUpto row c).length ≤ c := by
  have := List.length_filterMap_le (startAt row) (List.range c)
  simpa [ivsUpto] using this

/-! ### Words -/
/-- The places of a word from c on. -/
def above (n c : Nat) : Nat := n / 2 ^ c * 2 ^ c
theorem above_zero (n : Nat) : above n 0 = n := by simp [above]
theorem testBit_above (n c x : Nat) : (above n c).testBit x = (decide (c ≤ x) && n.testBit x) := by
  unfold above
  rw [Nat.mul_comm, Nat.testBit_two_pow_mul, Nat.testBit_div_two_pow]
  by_cases h : c ≤ x
  · simp [h]
  · simp [h]
theorem above_le (n c : Nat) : above n c ≤ n := Nat.div_mul_le_self n (2 ^ c)
theorem testBit_big (n x : Nat) (hn : n < 18446744073709551616) (hx : 64 ≤ x) : n.testBit x = false :=
  Nat.testBit_lt_two_pow (by have := Nat.pow_le_pow_right (n := 2) (by decide) hx; omega)

/-- Where the lowest interval of what is left lies. -/
theorem lowest (n c : Nat) (hn : n < 18446744073709551616) (h0 : above n c ≠ 0) : ∃ l r, c ≤ l ∧ l < r ∧ r ≤ 64 ∧ (∀ x, c ≤ x → x < l → n.testBit x = false) ∧ (∀ x, l ≤ x → x < r → n.testBit x = true) ∧ (r = 64 ∨ n.testBit r = false) := by
  obtain ⟨y, hy⟩ := Nat.exists_testBit_of_ne_zero h0
  rw [testBit_above] at hy
  simp only [Bool.and_eq_true, decide_eq_true_eq] at hy
  obtain ⟨l, hl1, hl2, hl3⟩ : ∃ l, c ≤ l ∧ n.testBit l = true ∧ ∀ x, c ≤ x → x < l → n.testBit x = false := by
    obtain ⟨hy1, hy2⟩ := hy
    induction y using Nat.strongRecOn with
    | _ y ih =>
      by_cases h : ∀ x, c ≤ x → x < y → n.testBit x = false
      · exact ⟨y, hy1, hy2, h⟩
      · have : ∃ x, c ≤ x ∧ x < y ∧ n.testBit x = true := by
          apply Classical.byContradiction
          intro hne
          apply h
          intro x hx hx'
          cases hb : n.testBit x with
          | false => rfl
          | true => exact absurd ⟨x, hx, hx', hb⟩ hne
        obtain ⟨x, hx, hx', hb⟩ := this
        exact ih x hx' hx hb
  have hl64 : l < 64 := by
    rcases Nat.lt_or_ge l 64 with h | h
    · exact h
    · rw [testBit_big n l hn h] at hl2; cases hl2
  obtain ⟨g1, g2, g3, g4⟩ := endOf_spec (fun x => n.testBit x) 64 l (by omega) (by omega)
  refine ⟨l, endOf (fun x => n.testBit x) 64 l, hl1, ?_, g2, hl3, g3, g4⟩
  have : endOf (fun x => n.testBit x) 64 l ≠ l := by
    intro e
    rcases g4 with h | h
    · omega
    · rw [e] at h; rw [hl2] at h; cases h
  omega

theorem lowbit (q j : Nat) (h : 2 * q + 1 < 2 ^ (j + 1)) : (2 * q + 1) &&& (2 ^ (j + 1) - (2 * q + 1)) = 1 := by
  have hq : q < 2 ^ j := by rw [Nat.pow_succ] at h; omega
  have e : 2 ^ (j + 1) - (2 * q + 1) = 2 * (2 ^ j - (q + 1)) + 1 := by rw [Nat.pow_succ]; omega
  rw [e]
  apply Nat.eq_of_testBit_eq
  intro i
  cases i with
  | zero => simp [Nat.testBit_zero]
  | succ i =>
    rw [Nat.testBit_and]
    have t1 : (2 * q + 1).testBit (i + 1) = q.testBit i := by rw [Nat.testBit_succ]; congr 1; omega
    have t2 : (2 * (2 ^ j - (q + 1)) + 1).testBit (i + 1) = (2 ^ j - (q + 1)).testBit i := by rw [Nat.testBit_succ]; congr 1; omega
    rw [t1, t2, Nat.testBit_two_pow_sub_succ hq]
    have t3 : (1 : Nat).testBit (i + 1) = false := by rw [Nat.testBit_succ]; simp
    rw [t3]
    cases q.testBit i <;> simp

/-- A word whose lowest interval is l..r-1, as a sum. -/
theorem word_split (m l r : Nat) (h : l < r) (hz : ∀ x, x < l → m.testBit x = false) (hone : ∀ x, l ≤ x → x < r → m.testBit x = true) (he : m.testBit r = false) :
    m = (2 ^ r - 2 ^ l) + 2 ^ (r + 1) * (m / 2 ^ (r + 1)) := by
  have e : m % 2 ^ (r + 1) = 2 ^ r - 2 ^ l := by
    apply Nat.eq_of_testBit_eq
    intro x
    rw [Nat.testBit_mod_two_pow, testBit_mask l r x (by omega)]
    by_cases h1 : x < l
    · rw [hz x h1]; simp; omega
    · by_cases h2 : x < r
      · have h4 : x < r + 1 := by omega
        have h5 : l ≤ x := by omega
        rw [hone x (by omega) h2]; simp [h4, h5, h2]
      · by_cases h3 : x = r
        · subst h3; rw [he]; simp
        · have : ¬ x < r + 1 := by omega
          simp [this, h2]
  have := Nat.mod_add_div m (2 ^ (r + 1))
  rw [e] at this
  exact this.symm

theorem neg_and (m l : Nat) (hm : m < 18446744073709551616) (hz : ∀ x, x < l → m.testBit x = false) (hl : m.testBit l = true) (hl64 : l < 64) : m &&& (18446744073709551616 - m) = 2 ^ l := by
  have e0 : m % 2 ^ (l + 1) = 2 ^ l := by
    apply Nat.eq_of_testBit_eq
    intro x
    rw [Nat.testBit_mod_two_pow, Nat.testBit_two_pow]
    by_cases h1 : x < l
    · rw [hz x h1]; simp; omega
    · by_cases h2 : x = l
      · subst h2; simp [hl]
      · have : ¬ x < l + 1 := by omega
        simp [this]; omega
  have e1 : m = 2 ^ l * (2 * (m / 2 ^ (l + 1)) + 1) := by
    have := Nat.mod_add_div m (2 ^ (l + 1))
    rw [e0] at this
    conv => lhs; rw [← this]
    rw [Nat.mul_add, Nat.mul_one, Nat.pow_succ, Nat.mul_assoc]
    omega
  obtain ⟨q, hq⟩ : ∃ q, q = m / 2 ^ (l + 1) := ⟨_, rfl⟩
  rw [← hq] at e1
  obtain ⟨j, hj⟩ := Nat.exists_eq_add_of_lt hl64
  have e2 : (18446744073709551616 : Nat) = 2 ^ l * 2 ^ (j + 1) := by rw [← Nat.pow_add, show l + (j + 1) = 64 by omega]
  have hlt : 2 * q + 1 < 2 ^ (j + 1) := by
    rw [e1, e2] at hm
    exact Nat.lt_of_mul_lt_mul_left hm
  rw [e1, e2, ← Nat.mul_sub]
  have : 2 ^ l * (2 * q + 1) &&& 2 ^ l * (2 ^ (j + 1) - (2 * q + 1)) = 2 ^ l * ((2 * q + 1) &&& (2 ^ (j + 1) - (2 * q + 1))) := by
    apply Nat.eq_of_testBit_eq
    intro x
    simp only [Nat.testBit_and, Nat.testBit_two_pow_mul]
    by_cases h : l ≤ x <;> simp [h]
  rw [this, lowbit q j hlt, Nat.mul_one]

/-- places &^ (places + places&-places): the lowest interval. -/
theorem one_eq (m l r : Nat) (hm : m < 18446744073709551616) (h : l < r) (h64 : r ≤ 64) (hz : ∀ x, x < l → m.testBit x = false) (hone : ∀ x, l ≤ x → x < r → m.testBit x = true) (he : r = 64 ∨ m.testBit r = false) :
    m &&& (18446744073709551615 - (m + (m &&& (18446744073709551616 - m))) % 18446744073709551616) = 2 ^ r - 2 ^ l := by
  rw [neg_and m l hm hz (hone l (Nat.le_refl _) h) (by omega)]
  have her : m.testBit r = false := by
    rcases he with he | he
    · subst he; exact testBit_big m 64 hm (Nat.le_refl _)
    · exact he
  have hsp := word_split m l r h hz hone her
  obtain ⟨t, ht⟩ : ∃ t, t = m / 2 ^ (r + 1) := ⟨_, rfl⟩
  rw [← ht] at hsp
  have hlr : 2 ^ l < 2 ^ r := Nat.pow_lt_pow_right (by omega) h
  have esum : m + 2 ^ l = 2 ^ r * (2 * t + 1) := by
    rw [hsp, Nat.mul_add, Nat.mul_one, Nat.pow_succ, Nat.mul_assoc]; omega
  obtain ⟨s, hs⟩ : ∃ s, s = (m + 2 ^ l) % 18446744073709551616 := ⟨_, rfl⟩
  have hslt : s < 18446744073709551616 := by omega
  rw [← hs]
  -- the bits of the sum
  have hbit : ∀ x, s.testBit x = (decide (x < 64) && (decide (r ≤ x) && (2 * t + 1).testBit (x - r))) := by
    intro x
    rw [hs, show (18446744073709551616 : Nat) = 2 ^ 64 from rfl, Nat.testBit_mod_two_pow, esum, Nat.testBit_two_pow_mul]
  apply Nat.eq_of_testBit_eq
  intro x
  rw [Nat.testBit_and, show (18446744073709551615 : Nat) - s = 2 ^ 64 - (s + 1) by omega, Nat.testBit_two_pow_sub_succ (by simpa using hslt), testBit_mask l r x (by omega), hbit x]
  by_cases hx64 : x < 64
  · by_cases hxl : x < l
    · rw [hz x hxl]; simp; omega
    · by_cases hxr : x < r
      · rw [hone x (by omega) hxr]
        have : ¬ r ≤ x := by omega
        simp [hx64, this, hxr]; omega
      · by_cases hxe : x = r
        · subst hxe; rw [her]; simp
        · -- above r the sum has what the word has
          have hmx : m.testBit x = (2 * t + 1).testBit (x - r) := by
            have e : x = (x - (r + 1)) + (r + 1) := by omega
            have e2 : x - r = (x - (r + 1)) + 1 := by omega
            rw [e2, Nat.testBit_succ, show (2 * t + 1) / 2 = t by omega, ht, Nat.testBit_div_two_pow, ← e]
          have h1 : r ≤ x := by omega
          rw [hmx]
          simp [hx64, h1, hxr]
  · rw [testBit_big m x hm (by omega)]
    simp; omega

/-- What is left behind it. -/
theorem rest_eq (n c l r : Nat) (hn : n < 18446744073709551616) (h1 : c ≤ l) (h : l < r) (h64 : r ≤ 64) (hz : ∀ x, c ≤ x → x < l → n.testBit x = false) :
    above n c &&& (18446744073709551615 - (2 ^ r - 2 ^ l)) = above n r := by
  have hlt : 2 ^ r - 2 ^ l < 18446744073709551616 := by
    have : 2 ^ r ≤ 2 ^ 64 := Nat.pow_le_pow_right (by omega) h64
    have := Nat.two_pow_pos l
    omega
  apply Nat.eq_of_testBit_eq
  intro x
  rw [Nat.testBit_and, show (18446744073709551615 : Nat) - (2 ^ r - 2 ^ l) = 2 ^ 64 - ((2 ^ r - 2 ^ l) + 1) by omega, Nat.testBit_two_pow_sub_succ (by simpa using hlt), testBit_mask l r x (by omega), testBit_above, testBit_above]
  by_cases hx64 : x < 64
  · by_cases hcx : c ≤ x
    · by_cases hxl : x < l
      · rw [hz x hcx hxl]; simp
      · by_cases hxr : x < r
        · have : ¬ r ≤ x := by omega
          have h2 : l ≤ x := by omega
          simp [this, hxr, h2]
        · have : r ≤ x := by omega
          simp [hx64, hcx, hxr, this]
    · have : ¬ r ≤ x := by omega
      simp [hcx, this]
  · rw [testBit_big n x hn (by omega)]; simp

theorem above_lt (n c r : Nat) (hcr : c ≤ r) (hd : ∃ x, c ≤ x ∧ x < r ∧ n.testBit x = true) : above n r < above n c := by
  have hle : above n r ≤ above n c := by
    have e : above n r = above (above n c) r := by
      apply Nat.eq_of_testBit_eq
      intro x
      simp only [testBit_above]
      by_cases h1 : r ≤ x
      · have : c ≤ x := Nat.le_trans hcr h1
        simp [h1, this]
      · simp [h1]
    rw [e]; exact above_le _ _
  rcases Nat.lt_or_ge (above n r) (above n c) with h1 | h1
  · exact h1
  · exfalso
    obtain ⟨x, hx1, hx2, hx3⟩ := hd
    have e : above n r = above n c := Nat.le_antisymm hle h1
    have := congrArg (Nat.testBit · x) e
    simp only [testBit_above, hx3] at this
    have h4 : ¬ r ≤ x := by omega
    simp [hx1, h4] at this
end Go.Proofs.YtbpkfpkhnkcgkaaDoorR
