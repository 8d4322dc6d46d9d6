/- The plain theory of areas: how many rectangles a set has at most; growing. No program, no condition. -/
import Derived.Test.YtbpkfpkhnkcgkaaDoorRPA2
namespace Go.Proofs.YtbpkfpkhnkcgkaaDoorR

theorem length_le_of_sub : ∀ {l X : List Nat}, l.Nodup → (∀ a ∈ l, a ∈ X) → l.length ≤ X.length
  | [], X, _, _ => Nat.zero_le _
  | a :: l, X, hn, hs => by
    have hn := List.nodup_cons.1 hn
    have h1 := length_le_of_sub (X := X.erase a) hn.2 (fun b hb => by
      have hne : b ≠ a := fun e => hn.1 (e ▸ hb)
      exact (List.mem_erase_of_ne hne).2 (hs b (by simp [hb])))
    have h2 := List.length_erase_of_mem (hs a (by simp))
    have h3 := List.length_pos_of_mem (hs a (by simp))
    rw [List.length_cons]
    omega

/-! ### Changes along a row -/
def cur (row : Nat → Bool) (i : Nat) : Bool := decide (i < 64) && row i
def prv (row : Nat → Bool) (i : Nat) : Bool := decide (0 < i) && row (i - 1)
def chg (row : Nat → Bool) (i : Nat) : Bool := cur row i != prv row i
def chgUpto (row : Nat → Bool) (c : Nat) : List Nat := (List.range c).filter (chg row)

theorem chgUpto_succ (row : Nat → Bool) (c : Nat) : (chgUpto row (c + 1)).length = (chgUpto row c).length + (if chg row c = true then 1 else 0) := by
  unfold chgUpto
  rw [List.range_succ, List.filter_append, List.length_append]
  congr 1
  by_cases hc : chg row c = true
  · simp [List.filter, hc]
  · simp [List.filter, hc]

theorem starts_inv (row : Nat → Bool) : ∀ c, c ≤ 64 → 2 * (ivsUpto row c).length = (chgUpto row c).length + (if prv row c = true then 1 else 0)
  | 0, _ => by simp [ivsUpto, chgUpto, prv]
  | c + 1, h => by
    have ih := starts_inv row c (by omega)
    have e1 := chgUpto_succ row c
    have e2 : (ivsUpto row (c + 1)).length = (ivsUpto row c).length + (if starts row c = true then 1 else 0) := by
      by_cases hc : starts row c = true
      · rw [ivsUpto_succ row c hc, if_pos hc]; simp
      · rw [ivsUpto_skip row c (c + 1) (by omega) (fun x h1 h2 => by have e := (show x = c by omega); rw [e]; simpa using hc), if_neg hc]; simp
    have hc64 : c < 64 := by omega
    have e3 : prv row (c + 1) = row c := by simp [prv]
    have e4 : cur row c = row c := by simp [cur, hc64]
    have e5 : starts row c = (row c && !prv row c) := by
      unfold starts prv
      by_cases h0 : c = 0
      · subst h0; simp
      · have h1 : 0 < c := by omega
        have h2 : (c == 0) = false := by simp [h0]
        simp [h1, h2]
    rw [e1, e2, e3, e5]
    have e6 : chg row c = (row c != prv row c) := by unfold chg; rw [e4]
    rw [e6]
    cases h1 : row c <;> cases h2 : prv row c <;> simp [h2] at ih ⊢ <;> omega

theorem ivs_len (row : Nat → Bool) : 2 * (ivs row).length = (chgUpto row 65).length := by
  have h := starts_inv row 64 (Nat.le_refl _)
  unfold ivs
  have e : chg row 64 = prv row 64 := by simp [chg, cur]
  rw [h, chgUpto_succ row 64, e]

theorem ivs_le (row : Nat → Bool) (X : List Nat) (h : ∀ i, i ≤ 64 → chg row i = true → i ∈ X) : (ivs row).length ≤ X.length / 2 := by
  have h1 := ivs_len row
  have h2 : (chgUpto row 65).length ≤ X.length := length_le_of_sub (List.nodup_range.filter _) (fun i hi => by
    unfold chgUpto at hi
    rw [List.mem_filter, List.mem_range] at hi
    exact h i (by omega) hi.2)
  omega

/-! ### Changes of a set -/
def above1 (p : Nat → Nat → Bool) (y x : Nat) : Bool := decide (0 < y) && p (y - 1) x
def ColsIn (p : Nat → Nat → Bool) (X : List Nat) : Prop := ∀ y i, y < 64 → i ≤ 64 → chg (p y) i = true → i ∈ X
def RowsIn (p : Nat → Nat → Bool) (Y : List Nat) : Prop := ∀ y x, y < 64 → x < 64 → p y x ≠ above1 p y x → y ∈ Y

theorem rowRects_le (p : Nat → Nat → Bool) (y K : Nat) (hK : (ivs (p y)).length ≤ K) : (rowRects p y).length ≤ K := by
  unfold rowRects
  exact Nat.le_trans (List.length_filterMap_le _ _) hK
theorem rowRects_none (p : Nat → Nat → Bool) (y : Nat) (h : ∀ x, x < 64 → p y x = above1 p y x) : rowRects p y = [] := by
  unfold rowRects
  rw [List.filterMap_eq_nil_iff]
  rintro ⟨l, r⟩ hx
  obtain ⟨h1, h2, h3⟩ := (mem_ivs _ _ _).1 hx
  unfold rectOf
  by_cases h0 : 0 < y
  · rw [if_pos]
    refine ⟨h0, ?_⟩
    rw [← isIv_congr (row := p y) (row' := p (y - 1)) (fun x hx => by rw [h x hx]; simp [above1, h0])]
    exact h3
  · exfalso
    have := ((isIv_iff _ _ _ h1 h2).1 h3).1 l (Nat.le_refl _) h1
    rw [h l (by omega)] at this
    simp [above1, h0] at this

def rowChg (p : Nat → Nat → Bool) (y : Nat) : Bool := (List.range 64).any fun x => p y x != above1 p y x
theorem rects_count (p : Nat → Nat → Bool) (K : Nat) (Y : List Nat) (hK : ∀ y, y < 64 → (ivs (p y)).length ≤ K) (hY : RowsIn p Y) : (rectsS p).length ≤ Y.length * K := by
  have h1 : ∀ c, c ≤ 64 → (rectsUpto p c).length ≤ ((List.range c).filter (rowChg p)).length * K := by
    intro c
    induction c with
    | zero => intro _; simp [rectsUpto]
    | succ c ih =>
      intro hc
      have ih := ih (by omega)
      rw [rectsUpto_succ, List.length_append, List.range_succ, List.filter_append, List.length_append, Nat.add_mul]
      refine Nat.add_le_add ih ?_
      by_cases hr : rowChg p c = true
      · have := rowRects_le p c K (hK c (by omega))
        simp [List.filter, hr]
        exact this
      · have := rowRects_none p c (fun x hx => by
          unfold rowChg at hr
          rw [Bool.not_eq_true, List.any_eq_false] at hr
          have := hr x (List.mem_range.2 hx)
          simpa using this)
        simp [List.filter, hr, this]
  refine Nat.le_trans (h1 64 (Nat.le_refl _)) (Nat.mul_le_mul_right _ ?_)
  refine length_le_of_sub (List.nodup_range.filter _) fun y hy => ?_
  rw [List.mem_filter, List.mem_range] at hy
  obtain ⟨hy1, hy2⟩ := hy
  unfold rowChg at hy2
  rw [List.any_eq_true] at hy2
  obtain ⟨x, hx, hne⟩ := hy2
  exact hY y x hy1 (List.mem_range.1 hx) (by simpa using hne)

theorem rects_count2 (p : Nat → Nat → Bool) (X Y : List Nat) (hX : ColsIn p X) (hY : RowsIn p Y) : (rectsS p).length ≤ Y.length * (X.length / 2) :=
  rects_count p _ Y (fun y hy => ivs_le (p y) X (fun i hi hc => hX y i hy hi hc)) hY

/-- What is made place by place of two sets. -/
theorem cols_op {o : Bool → Bool → Bool} (ho : o false false = false) {p q : Nat → Nat → Bool} {X Z : List Nat} (hp : ColsIn p X) (hq : ColsIn q Z) : ColsIn (fun y x => o (p y x) (q y x)) (X ++ Z) := by
  intro y i hy hi hc
  rw [List.mem_append]
  by_cases h1 : chg (p y) i = true
  · exact .inl (hp y i hy hi h1)
  · by_cases h2 : chg (q y) i = true
    · exact .inr (hq y i hy hi h2)
    · exfalso
      unfold chg at h1 h2 hc
      simp only [bne_iff_ne, ne_eq, Decidable.not_not] at h1 h2 hc
      apply hc
      have e1 : cur (fun x => o (p y x) (q y x)) i = o (cur (p y) i) (cur (q y) i) := by
        unfold cur
        by_cases h : i < 64 <;> simp [h, ho]
      have e2 : prv (fun x => o (p y x) (q y x)) i = o (prv (p y) i) (prv (q y) i) := by
        unfold prv
        by_cases h : 0 < i <;> simp [h, ho]
      rw [e1, e2, h1, h2]
theorem rows_op {o : Bool → Bool → Bool} (ho : o false false = false) {p q : Nat → Nat → Bool} {Y Z : List Nat} (hp : RowsIn p Y) (hq : RowsIn q Z) : RowsIn (fun y x => o (p y x) (q y x)) (Y ++ Z) := by
  intro y x hy hx hc
  rw [List.mem_append]
  by_cases h1 : p y x = above1 p y x
  · by_cases h2 : q y x = above1 q y x
    · exfalso
      apply hc
      dsimp only
      rw [h1, h2]
      unfold above1
      by_cases h : 0 < y <;> simp [h, ho]
    · exact .inr (hq y x hy hx h2)
  · exact .inl (hp y x hy hx h1)

theorem cols_rect (q : R4) (hq : vrect q = true) : ColsIn (fun y x => inR x y q) [q.l.toNat, q.r.toNat] := by
  obtain ⟨q1, q2, q3, q4, q5, q6⟩ := (vrect_iff q).1 hq
  intro y i hy hi hc
  unfold chg at hc
  rw [bne_iff_ne] at hc
  by_cases h1 : i = q.l.toNat
  · simp [h1]
  · by_cases h2 : i = q.r.toNat
    · simp [h2]
    · exfalso
      apply hc
      unfold cur prv
      rw [Bool.eq_iff_iff]
      simp only [Bool.and_eq_true, decide_eq_true_eq, inR_iff]
      omega
theorem rows_rect (q : R4) (hq : vrect q = true) : RowsIn (fun y x => inR x y q) [q.lo.toNat, q.hi.toNat] := by
  obtain ⟨q1, q2, q3, q4, q5, q6⟩ := (vrect_iff q).1 hq
  intro y x hy hx hc
  by_cases h1 : y = q.lo.toNat
  · simp [h1]
  · by_cases h2 : y = q.hi.toNat
    · simp [h2]
    · exfalso
      apply hc
      unfold above1
      rw [Bool.eq_iff_iff]
      simp only [Bool.and_eq_true, decide_eq_true_eq, inR_iff]
      omega
theorem cols_empty : ColsIn (fun _ _ => false) [] := by
  intro y i _ _ hc
  simp [chg, cur, prv] at hc
theorem rows_empty : RowsIn (fun _ _ => false) [] := by
  intro y i _ _ hc
  simp [above1] at hc

/-- A set whose bounds are few: so many columns and rows at most where something changes. -/
def Few (p : Nat → Nat → Bool) (n : Nat) : Prop := ∃ X Y, ColsIn p X ∧ RowsIn p Y ∧ X.length ≤ 2 * n ∧ Y.length ≤ 2 * n
theorem Few.op {o : Bool → Bool → Bool} (ho : o false false = false) {p q : Nat → Nat → Bool} {n m : Nat} (hp : Few p n) (hq : Few q m) : Few (fun y x => o (p y x) (q y x)) (n + m) := by
  obtain ⟨X, Y, h1, h2, h3, h4⟩ := hp
  obtain ⟨X', Y', g1, g2, g3, g4⟩ := hq
  exact ⟨X ++ X', Y ++ Y', cols_op ho h1 g1, rows_op ho h2 g2, by rw [List.length_append]; omega, by rw [List.length_append]; omega⟩
theorem few_rect (q : R4) (hq : vrect q = true) : Few (fun y x => inR x y q) 1 := ⟨_, _, cols_rect q hq, rows_rect q hq, by simp, by simp⟩
theorem few_empty : Few (fun _ _ => false) 0 := ⟨_, _, cols_empty, rows_empty, by simp, by simp⟩
theorem Few.le {p : Nat → Nat → Bool} {n m : Nat} (h : Few p n) (hm : n ≤ m) : Few p m := by
  obtain ⟨X, Y, h1, h2, h3, h4⟩ := h
  exact ⟨X, Y, h1, h2, by omega, by omega⟩
theorem Few.congr {p q : Nat → Nat → Bool} {n : Nat} (h : Few p n) (e : SameP p q) : Few q n := by
  obtain ⟨X, Y, h1, h2, h3, h4⟩ := h
  refine ⟨X, Y, fun y i hy hi hc => h1 y i hy hi ?_, fun y x hy hx hc => h2 y x hy hx ?_, h3, h4⟩
  · rw [← hc]
    unfold chg cur prv
    by_cases h5 : i < 64 <;> by_cases h6 : 0 < i
    · simp [h5, h6, e y i hy h5, e y (i - 1) hy (by omega)]
    · simp [h5, h6, e y i hy h5]
    · simp [h5, h6, e y (i - 1) hy (by omega)]
    · omega
  · intro e2
    apply hc
    rw [← e y x hy hx, e2]
    unfold above1
    by_cases h6 : 0 < y
    · simp [h6, e (y - 1) x (by omega) hx]
    · simp [h6]
theorem few_pl (xs : List R4) (hx : ∀ q ∈ xs, vrect q = true) : Few (pl xs) xs.length := by
  induction xs with
  | nil => exact few_empty
  | cons q xs ih =>
    have h := Few.op (o := fun a b => a || b) rfl (few_rect q (hx q (by simp))) (ih (fun r hr => hx r (by simp [hr])))
    have e : pl (q :: xs) = fun (y x : Nat) => inR x y q || pl xs y x := by
      funext y x; simp [pl]
    rw [e, List.length_cons, Nat.add_comm]
    exact h
theorem Few.count {p : Nat → Nat → Bool} {n : Nat} (h : Few p n) : (rectsS p).length ≤ 2 * n * n := by
  obtain ⟨X, Y, h1, h2, h3, h4⟩ := h
  refine Nat.le_trans (rects_count2 p X Y h1 h2) ?_
  exact Nat.mul_le_mul h4 (by omega)
theorem Few.count100 {p : Nat → Nat → Bool} {n : Nat} (h : Few p n) (hn : n ≤ 7) : (rectsS p).length ≤ 100 :=
  Nat.le_trans h.count (by
    have : 2 * n * n ≤ 2 * 7 * 7 := Nat.mul_le_mul (by omega) hn
    omega)

/-! ### Growing -/
def dil (d : Nat) (p : Nat → Nat → Bool) (y x : Nat) : Bool := (List.range 64).any fun v => (List.range 64).any fun u => decide (v ≤ y + d ∧ y ≤ v + d ∧ u ≤ x + d ∧ x ≤ u + d) && p v u
theorem dil_iff (d : Nat) (p : Nat → Nat → Bool) (y x : Nat) : dil d p y x = true ↔ ∃ v u, v < 64 ∧ u < 64 ∧ v ≤ y + d ∧ y ≤ v + d ∧ u ≤ x + d ∧ x ≤ u + d ∧ p v u = true := by
  unfold dil
  rw [List.any_eq_true]
  constructor
  · rintro ⟨v, hv, h⟩
    rw [List.any_eq_true] at h
    obtain ⟨u, hu, h⟩ := h
    rw [Bool.and_eq_true, decide_eq_true_eq] at h
    obtain ⟨⟨h1, h2, h3, h4⟩, h5⟩ := h
    exact ⟨v, u, List.mem_range.1 hv, List.mem_range.1 hu, h1, h2, h3, h4, h5⟩
  · rintro ⟨v, u, hv, hu, h1, h2, h3, h4, h5⟩
    refine ⟨v, List.mem_range.2 hv, ?_⟩
    rw [List.any_eq_true]
    refine ⟨u, List.mem_range.2 hu, ?_⟩
    rw [Bool.and_eq_true, decide_eq_true_eq]
    exact ⟨⟨h1, h2, h3, h4⟩, h5⟩

theorem dil_congr {d : Nat} {p q : Nat → Nat → Bool} (h : SameP p q) (y x : Nat) : dil d p y x = dil d q y x := by
  rw [Bool.eq_iff_iff, dil_iff, dil_iff]
  constructor
  · rintro ⟨v, u, hv, hu, h1, h2, h3, h4, h5⟩
    exact ⟨v, u, hv, hu, h1, h2, h3, h4, by rw [← h v u hv hu]; exact h5⟩
  · rintro ⟨v, u, hv, hu, h1, h2, h3, h4, h5⟩
    exact ⟨v, u, hv, hu, h1, h2, h3, h4, by rw [h v u hv hu]; exact h5⟩
theorem dil_zero (p : Nat → Nat → Bool) : SameP (dil 0 p) p := by
  intro y x hy hx
  rw [Bool.eq_iff_iff, dil_iff]
  constructor
  · rintro ⟨v, u, hv, hu, h1, h2, h3, h4, h5⟩
    obtain rfl : v = y := by omega
    obtain rfl : u = x := by omega
    exact h5
  · intro h
    exact ⟨y, x, hy, hx, by omega, by omega, by omega, by omega, h⟩
theorem dil_mono (d : Nat) (p : Nat → Nat → Bool) (y x : Nat) (hy : y < 64) (hx : x < 64) (h : p y x = true) : dil d p y x = true :=
  (dil_iff _ _ _ _).2 ⟨y, x, hy, hx, by omega, by omega, by omega, by omega, h⟩
theorem dil_or (d : Nat) (p q : Nat → Nat → Bool) (y x : Nat) : dil d (fun y x => p y x || q y x) y x = (dil d p y x || dil d q y x) := by
  rw [Bool.eq_iff_iff, Bool.or_eq_true, dil_iff, dil_iff, dil_iff]
  constructor
  · rintro ⟨v, u, hv, hu, h1, h2, h3, h4, h5⟩
    rw [Bool.or_eq_true] at h5
    rcases h5 with h5 | h5
    · exact .inl ⟨v, u, hv, hu, h1, h2, h3, h4, h5⟩
    · exact .inr ⟨v, u, hv, hu, h1, h2, h3, h4, h5⟩
  · rintro (⟨v, u, hv, hu, h1, h2, h3, h4, h5⟩ | ⟨v, u, hv, hu, h1, h2, h3, h4, h5⟩)
    · exact ⟨v, u, hv, hu, h1, h2, h3, h4, by simp [h5]⟩
    · exact ⟨v, u, hv, hu, h1, h2, h3, h4, by simp [h5]⟩
/-- A place between two others. -/
theorem between (a b d e : Nat) (ha : a < 64) (hb : b < 64) (h1 : a ≤ b + (d + e)) (h2 : b ≤ a + (d + e)) : ∃ c, c < 64 ∧ a ≤ c + d ∧ c ≤ a + d ∧ c ≤ b + e ∧ b ≤ c + e := by
  by_cases h : a ≤ b
  · by_cases h3 : b ≤ a + d
    · exact ⟨b, hb, by omega, by omega, by omega, by omega⟩
    · exact ⟨a + d, by omega, by omega, by omega, by omega, by omega⟩
  · by_cases h3 : a ≤ b + d
    · exact ⟨b, hb, by omega, by omega, by omega, by omega⟩
    · exact ⟨a - d, by omega, by omega, by omega, by omega, by omega⟩
theorem dil_dil (d e : Nat) (p : Nat → Nat → Bool) : SameP (dil e (dil d p)) (dil (d + e) p) := by
  intro y x hy hx
  rw [Bool.eq_iff_iff, dil_iff, dil_iff]
  constructor
  · rintro ⟨v, u, hv, hu, h1, h2, h3, h4, h5⟩
    obtain ⟨v', u', hv', hu', g1, g2, g3, g4, g5⟩ := (dil_iff _ _ _ _).1 h5
    exact ⟨v', u', hv', hu', by omega, by omega, by omega, by omega, g5⟩
  · rintro ⟨v, u, hv, hu, h1, h2, h3, h4, h5⟩
    obtain ⟨v', a1, a2, a3, a4, a5⟩ := between v y d e hv hy (by omega) (by omega)
    obtain ⟨u', b1, b2, b3, b4, b5⟩ := between u x d e hu hx (by omega) (by omega)
    exact ⟨v', u', a1, b1, by omega, by omega, by omega, by omega, (dil_iff _ _ _ _).2 ⟨v, u, hv, hu, by omega, by omega, by omega, by omega, h5⟩⟩
theorem dil_whole (p : Nat → Nat → Bool) (y x : Nat) (hy : y < 64) (hx : x < 64) : dil 63 p y x = true ↔ ∃ v u, v < 64 ∧ u < 64 ∧ p v u = true := by
  rw [dil_iff]
  constructor
  · rintro ⟨v, u, hv, hu, h1, h2, h3, h4, h5⟩
    exact ⟨v, u, hv, hu, h5⟩
  · rintro ⟨v, u, hv, hu, h5⟩
    exact ⟨v, u, hv, hu, by omega, by omega, by omega, by omega, h5⟩

/-- The rows of a grown set. -/
def uni (d : Nat) (p : Nat → Nat → Bool) (y u : Nat) : Bool := (List.range 64).any fun v => decide (v ≤ y + d ∧ y ≤ v + d) && p v u
theorem uni_iff (d : Nat) (p : Nat → Nat → Bool) (y u : Nat) : uni d p y u = true ↔ ∃ v, v < 64 ∧ v ≤ y + d ∧ y ≤ v + d ∧ p v u = true := by
  unfold uni
  rw [List.any_eq_true]
  constructor
  · rintro ⟨v, hv, h⟩
    rw [Bool.and_eq_true, decide_eq_true_eq] at h
    exact ⟨v, List.mem_range.1 hv, h.1.1, h.1.2, h.2⟩
  · rintro ⟨v, hv, h1, h2, h3⟩
    exact ⟨v, List.mem_range.2 hv, by rw [Bool.and_eq_true, decide_eq_true_eq]; exact ⟨⟨h1, h2⟩, h3⟩⟩
theorem dil_uni (d : Nat) (p : Nat → Nat → Bool) (y x : Nat) : dil d p y x = true ↔ ∃ u, u < 64 ∧ u ≤ x + d ∧ x ≤ u + d ∧ uni d p y u = true := by
  rw [dil_iff]
  constructor
  · rintro ⟨v, u, hv, hu, h1, h2, h3, h4, h5⟩
    exact ⟨u, hu, h3, h4, (uni_iff _ _ _ _).2 ⟨v, hv, h1, h2, h5⟩⟩
  · rintro ⟨u, hu, h3, h4, h5⟩
    obtain ⟨v, hv, h1, h2, h6⟩ := (uni_iff _ _ _ _).1 h5
    exact ⟨v, u, hv, hu, h1, h2, h3, h4, h6⟩
theorem uni_cols {d : Nat} {p : Nat → Nat → Bool} {X : List Nat} (h : ColsIn p X) (y i : Nat) (hi : i ≤ 64) (hc : chg (uni d p y) i = true) : i ∈ X := by
  apply Classical.byContradiction
  intro hn
  have hall : ∀ v, v < 64 → cur (p v) i = prv (p v) i := fun v hv => by
    apply Classical.byContradiction
    intro hne
    exact hn (h v i hv hi (by unfold chg; rw [bne_iff_ne]; exact hne))
  unfold chg at hc
  rw [bne_iff_ne] at hc
  apply hc
  rw [Bool.eq_iff_iff]
  unfold cur prv
  simp only [Bool.and_eq_true, decide_eq_true_eq, uni_iff]
  constructor
  · rintro ⟨h1, v, hv, h2, h3, h4⟩
    have e := hall v hv
    unfold cur prv at e
    rw [decide_eq_true h1, h4] at e
    have e := e.symm
    simp only [Bool.and_eq_true, decide_eq_true_eq, Bool.and_self] at e
    exact ⟨e.1, v, hv, h2, h3, e.2⟩
  · rintro ⟨h1, v, hv, h2, h3, h4⟩
    have e := hall v hv
    unfold cur prv at e
    rw [decide_eq_true h1, h4] at e
    simp only [Bool.and_eq_true, decide_eq_true_eq, Bool.and_self] at e
    exact ⟨e.1, v, hv, h2, h3, e.2⟩

theorem ivs_starts (row : Nat → Bool) : ∀ c, (ivsUpto row c).length = ((List.range c).filter (starts row)).length
  | 0 => rfl
  | c + 1 => by
    rw [List.range_succ, List.filter_append, List.length_append, ← ivs_starts row c]
    by_cases hc : starts row c = true
    · rw [ivsUpto_succ row c hc]; simp [List.filter, hc]
    · rw [ivsUpto_skip row c (c + 1) (by omega) (fun x h1 h2 => by have e := (show x = c by omega); rw [e]; simpa using hc)]
      simp [List.filter, hc]
theorem start_of (row : Nat → Bool) (x : Nat) (hx : x < 64) (h : row x = true) : ∃ l, l ≤ x ∧ starts row l = true := by
  obtain ⟨l, r, h1, h2, h3, h4⟩ := iv_of row x hx h
  obtain ⟨a1, a2, a3⟩ := (isIv_iff row l r (by omega) h3).1 h4
  refine ⟨l, h1, ?_⟩
  unfold starts
  rw [a1 l (Nat.le_refl _) (by omega)]
  simpa using a3
theorem starts_iff (row : Nat → Bool) (l : Nat) : starts row l = true ↔ row l = true ∧ (l = 0 ∨ row (l - 1) = false) := by
  unfold starts
  simp

/-- Growing makes no more intervals. -/
theorem ivs_dil (d : Nat) (U W : Nat → Bool) (hW : ∀ x, x < 64 → (W x = true ↔ ∃ u, u < 64 ∧ u ≤ x + d ∧ x ≤ u + d ∧ U u = true)) : (ivs W).length ≤ (ivs U).length := by
  unfold ivs
  rw [ivs_starts, ivs_starts]
  obtain ⟨s0, hs0⟩ : ∃ s0, W 0 = true → s0 ≤ d ∧ starts U s0 = true ∧ s0 < 64 := by
    by_cases h0 : W 0 = true
    · obtain ⟨u, hu, h1, h2, h3⟩ := (hW 0 (by omega)).1 h0
      obtain ⟨l, h4, h5⟩ := start_of U u hu h3
      exact ⟨l, fun _ => ⟨by omega, h5, by omega⟩⟩
    · exact ⟨0, fun h => absurd h h0⟩
  have key : ∀ l, 0 < l → l < 64 → starts W l = true → l + d < 64 ∧ starts U (l + d) = true := by
    intro l hl hl64 hst
    obtain ⟨h1, h2⟩ := (starts_iff W l).1 hst
    obtain ⟨u, hu, g1, g2, g3⟩ := (hW l hl64).1 h1
    have hno : ∀ u, u < 64 → u ≤ l - 1 + d → l - 1 ≤ u + d → U u = false := by
      intro u hu a b
      rcases h2 with h2 | h2
      · omega
      · cases hh : U u
        · rfl
        · have := (hW (l - 1) (by omega)).2 ⟨u, hu, a, b, hh⟩
          rw [h2] at this; cases this
    have hul : u = l + d := by
      rcases Nat.lt_or_ge (l - 1 + d) u with h | h
      · omega
      · rw [hno u hu h (by omega)] at g3; cases g3
    subst hul
    exact ⟨hu, (starts_iff U _).2 ⟨g3, .inr (hno (l + d - 1) (by omega) (by omega) (by omega))⟩⟩
  have h1 : (((List.range 64).filter (starts W)).map fun l => if l = 0 then s0 else l + d).length ≤ ((List.range 64).filter (starts U)).length := by
    apply length_le_of_sub
    · unfold List.Nodup
      rw [List.pairwise_map]
      have hp : ((List.range 64).filter (starts W)).Pairwise (· < ·) := (List.pairwise_lt_range).filter _
      refine List.Pairwise.imp_of_mem ?_ hp
      intro a b ha hb hab
      rw [List.mem_filter] at ha hb
      have hb0 : b ≠ 0 := by omega
      rw [if_neg hb0]
      by_cases ha0 : a = 0
      · subst ha0
        rw [if_pos rfl]
        have := (hs0 ((starts_iff W 0).1 ha.2).1).1
        omega
      · rw [if_neg ha0]; omega
    · intro x hx
      rw [List.mem_map] at hx
      obtain ⟨l, hl, rfl⟩ := hx
      rw [List.mem_filter, List.mem_range] at hl
      rw [List.mem_filter, List.mem_range]
      by_cases h0 : l = 0
      · subst h0
        rw [if_pos rfl]
        obtain ⟨_, a, b⟩ := hs0 ((starts_iff W 0).1 hl.2).1
        exact ⟨b, a⟩
      · rw [if_neg h0]
        exact key l (by omega) hl.1 hl.2
  rwa [List.length_map] at h1

theorem dil_rows {d : Nat} {p : Nat → Nat → Bool} {Y : List Nat} (h : RowsIn p Y) : RowsIn (dil d p) (Y.map (· - d) ++ Y.map (· + d)) := by
  intro y x hy hx hc
  rw [List.mem_append, List.mem_map, List.mem_map]
  cases h1 : dil d p y x
  · -- it ends here
    rw [h1] at hc
    have h2 : above1 (dil d p) y x = true := by
      cases hh : above1 (dil d p) y x
      · exact absurd hh.symm hc
      · rfl
    unfold above1 at h2
    rw [Bool.and_eq_true, decide_eq_true_eq] at h2
    obtain ⟨h0, h2⟩ := h2
    obtain ⟨v, u, hv, hu, g1, g2, g3, g4, g5⟩ := (dil_iff _ _ _ _).1 h2
    have hno : ∀ v', v' < 64 → v' ≤ y + d → y ≤ v' + d → p v' u = false := by
      intro v' a b c
      cases hh : p v' u
      · rfl
      · rw [(dil_iff _ _ _ _).2 ⟨v', u, a, hu, b, c, g3, g4, hh⟩] at h1; cases h1
    have hvy : v + 1 + d = y := by
      rcases Nat.lt_or_ge (v + d) y with h' | h'
      · omega
      · rw [hno v hv (by omega) h'] at g5; cases g5
    refine .inr ⟨v + 1, h (v + 1) u (by omega) hu ?_, hvy⟩
    rw [hno (v + 1) (by omega) (by omega) (by omega)]
    simp [above1, g5]
  · rw [h1] at hc
    obtain ⟨v, u, hv, hu, g1, g2, g3, g4, g5⟩ := (dil_iff _ _ _ _).1 h1
    have h2 : above1 (dil d p) y x = false := by
      cases hh : above1 (dil d p) y x
      · rfl
      · exact absurd hh.symm hc
    by_cases h0 : 0 < y
    · have hno : ∀ v', v' < 64 → v' ≤ y - 1 + d → y - 1 ≤ v' + d → p v' u = false := by
        intro v' a b c
        cases hh : p v' u
        · rfl
        · unfold above1 at h2
          rw [(dil_iff _ _ _ _).2 ⟨v', u, a, hu, b, c, g3, g4, hh⟩] at h2
          simp [h0] at h2
      have hvy : v = y + d := by
        rcases Nat.lt_or_ge (y - 1 + d) v with h' | h'
        · omega
        · rw [hno v hv h' (by omega)] at g5; cases g5
      refine .inl ⟨v, h v u hv hu ?_, by omega⟩
      rw [g5]
      have : 0 < v := by omega
      simp [above1, this, hno (v - 1) (by omega) (by omega) (by omega)]
    · -- the first row
      obtain rfl : y = 0 := by omega
      have hcol : ∃ s, s ≤ v ∧ p s u = true ∧ (s = 0 ∨ p (s - 1) u = false) := by
        obtain ⟨l, h5, h6⟩ := start_of (fun b => p b u) v hv g5
        obtain ⟨h7, h8⟩ := (starts_iff _ _).1 h6
        exact ⟨l, h5, h7, h8⟩
      obtain ⟨s, h5, h6, h7⟩ := hcol
      refine .inl ⟨s, h s u (by omega) hu ?_, by omega⟩
      rw [h6]
      rcases h7 with h7 | h7
      · subst h7; simp [above1]
      · simp [above1, h7]

theorem Few.dil {p : Nat → Nat → Bool} {n : Nat} (h : Few p n) (d : Nat) : (rectsS (dil d p)).length ≤ 4 * n * n := by
  obtain ⟨X, Y, h1, h2, h3, h4⟩ := h
  refine Nat.le_trans (rects_count _ (X.length / 2) _ (fun y hy => ?_) (dil_rows h2)) ?_
  · refine Nat.le_trans (ivs_dil d (uni d p y) _ (fun x _ => dil_uni d p y x)) ?_
    exact ivs_le _ X (fun i hi hc => uni_cols h1 y i hi hc)
  · rw [List.length_append, List.length_map, List.length_map]
    exact Nat.mul_le_mul (by omega) (by omega)
theorem Few.dil100 {p : Nat → Nat → Bool} {n : Nat} (h : Few p n) (hn : n ≤ 5) (d : Nat) : (rectsS (Go.Proofs.YtbpkfpkhnkcgkaaDoorR.dil d p)).length ≤ 100 :=
  Nat.le_trans (h.dil d) (by
    have : 4 * n * n ≤ 4 * 5 * 5 := Nat.mul_le_mul (by omega) hn
    omega)

/-- A rectangle, grown. -/
def growR (d : Int) (q : R4) : R4 := ⟨max (q.l - d) 0, min (q.r + d) 64, max (q.lo - d) 0, min (q.hi + d) 64⟩
theorem growR_valid (d : Int) (hd : 0 ≤ d) (q : R4) (hq : vrect q = true) : vrect (growR d q) = true := by
  obtain ⟨q1, q2, q3, q4, q5, q6⟩ := (vrect_iff q).1 hq
  rw [vrect_iff]
  simp only [growR]
  omega
theorem nearR_iff (x y d : Int) (q : R4) : nearR x y d q = true ↔ q.l - d ≤ x ∧ x < q.r + d ∧ q.lo - d ≤ y ∧ y < q.hi + d := by
  simp [nearR, and_assoc]
theorem inR_grow (d : Int) (q : R4) (x y : Nat) (hx : x < 64) (hy : y < 64) : inR x y (growR d q) = nearR x y d q := by
  rw [Bool.eq_iff_iff, inR_iff, nearR_iff]
  simp only [growR]
  omega
theorem near_dil (xs : List R4) (hv : ∀ q ∈ xs, vrect q = true) (d : Nat) (x y : Nat) (hx : x < 64) (hy : y < 64) : xs.any (nearR x y d) = dil d (pl xs) y x := by
  rw [Bool.eq_iff_iff, List.any_eq_true, dil_iff]
  constructor
  · rintro ⟨q, hq, hn⟩
    obtain ⟨q1, q2, q3, q4, q5, q6⟩ := (vrect_iff q).1 (hv q hq)
    obtain ⟨n1, n2, n3, n4⟩ := (nearR_iff _ _ _ _).1 hn
    have hu : ∃ u : Nat, u < 64 ∧ q.l ≤ u ∧ (u : Int) < q.r ∧ u ≤ x + d ∧ x ≤ u + d := by
      by_cases h1 : (x : Int) < q.l
      · exact ⟨q.l.toNat, by omega, by omega, by omega, by omega, by omega⟩
      · by_cases h2 : (x : Int) < q.r
        · exact ⟨x, by omega, by omega, by omega, by omega, by omega⟩
        · exact ⟨(q.r - 1).toNat, by omega, by omega, by omega, by omega, by omega⟩
    have hu' : ∃ u : Nat, u < 64 ∧ q.lo ≤ u ∧ (u : Int) < q.hi ∧ u ≤ y + d ∧ y ≤ u + d := by
      by_cases h1 : (y : Int) < q.lo
      · exact ⟨q.lo.toNat, by omega, by omega, by omega, by omega, by omega⟩
      · by_cases h2 : (y : Int) < q.hi
        · exact ⟨y, by omega, by omega, by omega, by omega, by omega⟩
        · exact ⟨(q.hi - 1).toNat, by omega, by omega, by omega, by omega, by omega⟩
    obtain ⟨u, a1, a2, a3, a4, a5⟩ := hu
    obtain ⟨v, b1, b2, b3, b4, b5⟩ := hu'
    exact ⟨v, u, b1, a1, b4, b5, a4, a5, List.any_eq_true.2 ⟨q, hq, (inR_iff _ _ _).2 ⟨a2, a3, b2, b3⟩⟩⟩
  · rintro ⟨v, u, hv', hu, h1, h2, h3, h4, h5⟩
    obtain ⟨q, hq, hin⟩ := List.any_eq_true.1 h5
    obtain ⟨n1, n2, n3, n4⟩ := (inR_iff _ _ _).1 hin
    exact ⟨q, hq, (nearR_iff _ _ _ _).2 (by omega)⟩

/-- The area of all places that are near to one. -/
def growS (xs : List R4) (d : Int) : List R4 × Int :=
  if (openS xs).2 = true ∧ 0 ≤ d ∧ d ≤ 64 then gareaS ((xs.map (growR d)).foldl fillG zeroG) else ([], 290)
theorem grow_ok {xs : List R4} {p : Nat → Nat → Bool} (h : IsArea xs p) (d : Nat) (hd : d ≤ 64) (hl : (rectsS (dil d p)).length ≤ 100) : (growS xs d).2 = 0 ∧ IsArea (growS xs d).1 (dil d p) := by
  unfold growS
  rw [if_pos ⟨(area_open h).1, by omega, by omega⟩]
  refine garea_ok (fun y x hy hx => ?_) hl
  have hall : (xs.map (growR d)).all vrect = true := by
    rw [List.all_eq_true]
    intro q hq
    rw [List.mem_map] at hq
    obtain ⟨r, hr, rfl⟩ := hq
    exact growR_valid _ (by omega) r (h.valid r hr)
  unfold bitsOf
  rw [foldl_bits _ hall, zeroG_bits, Bool.false_or]
  have e : pl (xs.map (growR d)) y x = xs.any (nearR x y d) := by
    unfold pl
    rw [List.any_map]
    congr 1
    funext q
    exact inR_grow d q x y hx hy
  rw [e, near_dil xs h.valid d x y hx hy]
  exact dil_congr (fun v u hv hu => h.pl v u hv hu) y x
end Go.Proofs.YtbpkfpkhnkcgkaaDoorR
