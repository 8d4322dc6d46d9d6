/- The plain theory of areas as sets of places: what is an area, what combining, taking and comparing come to. No program, no condition. -/
import Derived.Test.YtbpkfpkhnkcgkaaDoorRPA1
namespace Go.Proofs.YtbpkfpkhnkcgkaaDoorR

/-- The places of a list of rectangles. -/
def pl (xs : List R4) (y x : Nat) : Bool := xs.any (inR x y)
/-- A list is the area of a set. -/
def IsArea (xs : List R4) (p : Nat → Nat → Bool) : Prop := xs = rectsS p ∧ xs.length ≤ 100
/-- Two sets have the same places. -/
def SameP (p q : Nat → Nat → Bool) : Prop := ∀ y x, y < 64 → x < 64 → p y x = q y x

theorem fill_bits (g : Nat → Nat) (q : R4) (hq : vrect q = true) (y x : Nat) : (fillG g q y).testBit x = ((g y).testBit x || inR x y q) := by
  obtain ⟨q1, q2, q3, q4, q5, q6⟩ := (vrect_iff q).1 hq
  unfold fillG
  split
  · rename_i h
    rw [Nat.testBit_or]
    congr 1
    unfold rowS
    rw [testBit_mask _ _ _ (by omega), Bool.eq_iff_iff, inR_iff]
    simp only [Bool.and_eq_true, decide_eq_true_eq]
    omega
  · rename_i h
    have : inR x y q = false := by
      rw [Bool.eq_false_iff]
      intro e
      have := (inR_iff _ _ _).1 e
      exact h ⟨by omega, by omega⟩
    rw [this, Bool.or_false]

theorem foldl_bits (xs : List R4) (hx : xs.all vrect = true) (g : Nat → Nat) (y x : Nat) : (xs.foldl fillG g y).testBit x = ((g y).testBit x || pl xs y x) := by
  induction xs generalizing g with
  | nil => simp [pl]
  | cons q xs ih =>
    simp only [List.all_cons, Bool.and_eq_true] at hx
    rw [List.foldl_cons, ih hx.2, fill_bits g q hx.1, Bool.or_assoc]
    simp [pl]

theorem zeroG_bits (y x : Nat) : (zeroG y).testBit x = false := by simp [zeroG]

theorem set_bits (xs : List R4) (hx : xs.all vrect = true) : (setS xs).2 = true ∧ ∀ y x, bitsOf (setS xs).1 y x = pl xs y x := by
  unfold setS
  rw [if_pos hx]
  refine ⟨rfl, fun y x => ?_⟩
  unfold bitsOf
  dsimp only
  rw [foldl_bits xs hx, zeroG_bits, Bool.false_or]

theorem set_no (xs : List R4) (hx : xs.all vrect = false) : setS xs = (zeroG, false) := by
  unfold setS
  rw [if_neg (by rw [hx]; exact Bool.false_ne_true)]

theorem area_open {xs : List R4} {p : Nat → Nat → Bool} (h : IsArea xs p) : (openS xs).2 = true ∧ (∀ y x, y < 64 → x < 64 → bitsOf (openS xs).1 y x = p y x) := by
  obtain ⟨rfl, hl⟩ := h
  obtain ⟨h1, h2⟩ := set_bits (rectsS p) (rects_all p)
  have h3 : ∀ y x, y < 64 → x < 64 → bitsOf (setS (rectsS p)).1 y x = p y x := fun y x hy hx => by rw [h2]; exact rects_cover p x y hx hy
  unfold openS
  rw [if_pos ⟨hl, h1, rects_congr h3⟩]
  exact ⟨rfl, h3⟩

theorem open_area {xs : List R4} (h : (openS xs).2 = true) : IsArea xs (pl xs) ∧ xs.all vrect = true := by
  unfold openS at h
  split at h
  · rename_i c
    obtain ⟨c1, c2, c3⟩ := c
    cases hv : xs.all vrect
    · rw [set_no xs hv] at c2; cases c2
    · refine ⟨⟨?_, c1⟩, rfl⟩
      rw [← rects_congr (fun y x _ _ => (set_bits xs hv).2 y x)]
      exact c3.symm
  · cases h

theorem IsArea.congr {xs : List R4} {p q : Nat → Nat → Bool} (h : IsArea xs p) (e : SameP p q) : IsArea xs q := ⟨h.1.trans (rects_congr e), h.2⟩
theorem IsArea.pl {xs : List R4} {p : Nat → Nat → Bool} (h : IsArea xs p) (y x : Nat) (hy : y < 64) (hx : x < 64) : pl xs y x = p y x := by
  obtain ⟨rfl, _⟩ := h
  exact rects_cover p x y hx hy
theorem IsArea.valid {xs : List R4} {p : Nat → Nat → Bool} (h : IsArea xs p) : ∀ q ∈ xs, vrect q = true := by
  obtain ⟨rfl, _⟩ := h
  exact rects_valid p
/-- Two areas with the same places are equal, and only such. -/
theorem area_eq {xs ys : List R4} {p q : Nat → Nat → Bool} (h : IsArea xs p) (h' : IsArea ys q) : xs = ys ↔ SameP p q := by
  constructor
  · intro e y x hy hx
    rw [← h.pl y x hy hx, e, h'.pl y x hy hx]
  · intro e
    rw [h.1, h'.1]
    exact rects_congr e

theorem rects_empty {p : Nat → Nat → Bool} (h : SameP p (fun _ _ => false)) : rectsS p = [] := by
  apply List.eq_nil_iff_forall_not_mem.2
  intro q hq
  have hv := (vrect_iff q).1 (rects_valid p q hq)
  have hc := rects_cover p q.l.toNat q.lo.toNat (by omega) (by omega)
  rw [h _ _ (by omega) (by omega)] at hc
  rw [List.any_eq_false] at hc
  exact hc q hq ((inR_iff _ _ _).2 (by omega))
theorem area_nil : IsArea [] (fun _ _ => false) := ⟨(rects_empty (fun _ _ _ _ => rfl)).symm, by simp⟩
theorem area_nil_iff {xs : List R4} {p : Nat → Nat → Bool} (h : IsArea xs p) : xs = [] ↔ SameP p (fun _ _ => false) := area_eq h area_nil

/-! ### What the functions give -/
theorem garea_ok {g : Nat → Nat} {p : Nat → Nat → Bool} (h : SameP (bitsOf g) p) (hl : (rectsS p).length ≤ 100) : (gareaS g).2 = 0 ∧ IsArea (gareaS g).1 p := by
  unfold gareaS
  rw [rects_congr h, if_pos hl]
  exact ⟨rfl, rfl, hl⟩

theorem of_ok {xs : List R4} (hv : xs.all vrect = true) (hn : xs.length ≤ 400) (hl : (rectsS (pl xs)).length ≤ 100) : (ofS xs).2 = 0 ∧ IsArea (ofS xs).1 (pl xs) := by
  unfold ofS
  rw [if_pos ⟨hn, (set_bits xs hv).1⟩]
  exact garea_ok (fun y x _ _ => (set_bits xs hv).2 y x) hl

theorem of_no {xs : List R4} (hv : xs.all vrect = false) : ofS xs = ([], 290) := by
  unfold ofS
  rw [if_neg]
  rintro ⟨_, h⟩
  rw [set_no xs hv] at h
  cases h

/-- The area of what a function makes of the rows of two areas. -/
def combineS (f : Nat → Nat → Nat) (xs ys : List R4) : List R4 × Int :=
  if (openS xs).2 = true ∧ (openS ys).2 = true then gareaS (fun y => f ((openS xs).1 y) ((openS ys).1 y)) else ([], 290)

theorem combine_ok {f : Nat → Nat → Nat} {o : Bool → Bool → Bool} (hf : ∀ a b x, a < 18446744073709551616 → b < 18446744073709551616 → x < 64 → (f a b).testBit x = o (a.testBit x) (b.testBit x))
    {xs ys : List R4} {p q : Nat → Nat → Bool} (hx : IsArea xs p) (hy : IsArea ys q) (hl : (rectsS fun y x => o (p y x) (q y x)).length ≤ 100) :
    (combineS f xs ys).2 = 0 ∧ IsArea (combineS f xs ys).1 fun y x => o (p y x) (q y x) := by
  obtain ⟨a1, a2⟩ := area_open hx
  obtain ⟨b1, b2⟩ := area_open hy
  unfold combineS
  rw [if_pos ⟨a1, b1⟩]
  refine garea_ok (fun y x h1 h2 => ?_) hl
  show (f _ _).testBit x = _
  rw [hf _ _ x (openS_words xs y) (openS_words ys y) h2]
  rw [← a2 y x h1 h2, ← b2 y x h1 h2]
  rfl

def orF (x y : Nat) : Nat := x ||| y
def andF (x y : Nat) : Nat := x &&& y
def minF (x y : Nat) : Nat := x &&& (18446744073709551615 - y)
theorem orF_bit (a b x : Nat) (_ : a < 18446744073709551616) (_ : b < 18446744073709551616) (_ : x < 64) : (orF a b).testBit x = (a.testBit x || b.testBit x) := Nat.testBit_or ..
theorem andF_bit (a b x : Nat) (_ : a < 18446744073709551616) (_ : b < 18446744073709551616) (_ : x < 64) : (andF a b).testBit x = (a.testBit x && b.testBit x) := Nat.testBit_and ..
theorem minF_bit (a b x : Nat) (_ : a < 18446744073709551616) (hb : b < 18446744073709551616) (hx : x < 64) : (minF a b).testBit x = (a.testBit x && !b.testBit x) := by
  unfold minF
  rw [Nat.testBit_and, show (18446744073709551615 : Nat) - b = 2 ^ 64 - (b + 1) by omega, Nat.testBit_two_pow_sub_succ (by simpa using hb)]
  simp [hx]
def unionS := combineS orF
def commonS := combineS andF
def minusS := combineS minF

theorem bits_zero {n : Nat} (hn : n < 18446744073709551616) : n = 0 ↔ ∀ x, x < 64 → n.testBit x = false := by
  constructor
  · rintro rfl x _; simp
  · intro h
    apply Nat.eq_of_testBit_eq
    intro x
    rw [Nat.zero_testBit]
    by_cases hx : x < 64
    · exact h x hx
    · exact testBit_big n x hn (by omega)

/-- Whether an area is a part of another one. -/
def withinS (xs ys : List R4) : Bool := ((List.range 64).all fun y => minF ((openS xs).1 y) ((openS ys).1 y) == 0) && ((openS xs).2 && (openS ys).2)
theorem minF_lt (a b : Nat) (ha : a < 18446744073709551616) : minF a b < 18446744073709551616 := by
  have : minF a b ≤ a := Nat.and_le_left
  omega
theorem within_ok {xs ys : List R4} {p q : Nat → Nat → Bool} (hx : IsArea xs p) (hy : IsArea ys q) : withinS xs ys = true ↔ ∀ y x, y < 64 → x < 64 → p y x = true → q y x = true := by
  obtain ⟨a1, a2⟩ := area_open hx
  obtain ⟨b1, b2⟩ := area_open hy
  unfold withinS
  rw [a1, b1, Bool.and_self, Bool.and_true, List.all_eq_true]
  constructor
  · intro h y x hy' hx' hp
    have h1 := h y (List.mem_range.2 hy')
    rw [beq_iff_eq] at h1
    have h2 := (bits_zero (minF_lt _ _ (openS_words xs y))).1 h1 x hx'
    rw [minF_bit _ _ _ (openS_words xs y) (openS_words ys y) hx'] at h2
    rw [← a2 y x hy' hx'] at hp
    rw [← b2 y x hy' hx']
    unfold bitsOf at hp ⊢
    rw [hp] at h2
    simpa using h2
  · intro h y hy'
    have hy' := List.mem_range.1 hy'
    rw [beq_iff_eq]
    refine (bits_zero (minF_lt _ _ (openS_words xs y))).2 fun x hx' => ?_
    rw [minF_bit _ _ _ (openS_words xs y) (openS_words ys y) hx']
    have h1 := h y x hy' hx'
    rw [← a2 y x hy' hx', ← b2 y x hy' hx'] at h1
    unfold bitsOf at h1
    cases hc : ((openS xs).1 y).testBit x
    · rfl
    · simp [h1 hc]

theorem has_ok {xs : List R4} {p : Nat → Nat → Bool} (h : IsArea xs p) (x y : Int) : hasA xs x y = (decide (0 ≤ x ∧ x < 64 ∧ 0 ≤ y ∧ y < 64) && p y.toNat x.toNat) := by
  unfold hasA
  rw [(area_open h).1, Bool.and_true]
  by_cases c : 0 ≤ x ∧ x < 64 ∧ 0 ≤ y ∧ y < 64
  · rw [decide_eq_true c, Bool.true_and, ← h.pl y.toNat x.toNat (by omega) (by omega)]
    unfold Go.Proofs.YtbpkfpkhnkcgkaaDoorR.pl
    congr 1
    rw [Int.toNat_of_nonneg c.1, Int.toNat_of_nonneg c.2.2.1]
  · rw [decide_eq_false c, Bool.false_and, List.any_eq_false]
    intro q hq e
    have hv := (vrect_iff q).1 (h.valid q hq)
    have := (inR_iff _ _ _).1 e
    exact c (by omega)

/-! ### Sizes -/
def sumN : Nat → (Nat → Nat) → Nat
  | 0, _ => 0
  | k + 1, f => sumN k f + f k
theorem sumN_congr {f g : Nat → Nat} : ∀ (k : Nat), (∀ i, i < k → f i = g i) → sumN k f = sumN k g
  | 0, _ => rfl
  | k + 1, h => by rw [sumN, sumN, sumN_congr k (fun i hi => h i (by omega)), h k (by omega)]
theorem sumN_add (f g : Nat → Nat) : ∀ k, sumN k (fun i => f i + g i) = sumN k f + sumN k g
  | 0 => rfl
  | k + 1 => by simp only [sumN]; rw [sumN_add f g k]; omega
theorem sumN_zero : ∀ k, sumN k (fun _ => 0) = 0
  | 0 => rfl
  | k + 1 => by simp only [sumN]; rw [sumN_zero k]
theorem sumN_const (c : Nat) : ∀ k, sumN k (fun _ => c) = k * c
  | 0 => by simp [sumN]
  | k + 1 => by simp only [sumN]; rw [sumN_const c k, Nat.succ_mul]
def bit (b : Bool) : Nat := if b = true then 1 else 0
/-- The number of places. -/
def cnt (p : Nat → Nat → Bool) : Nat := sumN 64 fun y => sumN 64 fun x => bit (p y x)
theorem cnt_congr {p q : Nat → Nat → Bool} (h : SameP p q) : cnt p = cnt q := sumN_congr 64 fun y hy => sumN_congr 64 fun x hx => by rw [h y x hy hx]
theorem cnt_add {p q r s : Nat → Nat → Bool} (h : ∀ y x, y < 64 → x < 64 → bit (p y x) + bit (q y x) = bit (r y x) + bit (s y x)) : cnt p + cnt q = cnt r + cnt s := by
  unfold cnt
  rw [← sumN_add, ← sumN_add]
  refine sumN_congr 64 fun y hy => ?_
  rw [← sumN_add, ← sumN_add]
  exact sumN_congr 64 fun x hx => h y x hy hx
theorem bitsum_sumN (n : Nat) : ∀ k, bitsum k n = sumN k fun x => bit (n.testBit x)
  | 0 => rfl
  | k + 1 => by rw [bitsum_snoc, sumN, bitsum_sumN n k]; rfl

/-- How many places a rectangle has in a row's first ones. -/
theorem sum_seg (l r : Nat) (h : l ≤ r) : ∀ k, sumN k (fun x => bit (decide (l ≤ x ∧ x < r))) = min k r - min k l
  | 0 => by simp [sumN]
  | k + 1 => by
    rw [sumN, sum_seg l r h k]
    unfold bit
    by_cases c : l ≤ k ∧ k < r
    · rw [decide_eq_true c]; simp; omega
    · rw [decide_eq_false c]; simp; omega
def areaOf (q : R4) : Nat := (q.r.toNat - q.l.toNat) * (q.hi.toNat - q.lo.toNat)
theorem cnt_rect (q : R4) (hq : vrect q = true) : cnt (fun y x => inR x y q) = areaOf q := by
  obtain ⟨q1, q2, q3, q4, q5, q6⟩ := (vrect_iff q).1 hq
  unfold cnt areaOf
  have e1 : ∀ y : Nat, sumN 64 (fun x => bit (inR x y q)) = bit (decide (q.lo.toNat ≤ y ∧ y < q.hi.toNat)) * (q.r.toNat - q.l.toNat) := by
    intro y
    by_cases c : q.lo.toNat ≤ y ∧ y < q.hi.toNat
    · rw [decide_eq_true c]
      rw [sumN_congr (g := fun x => bit (decide (q.l.toNat ≤ x ∧ x < q.r.toNat))) 64 (fun x hx => by
        congr 1
        rw [Bool.eq_iff_iff, inR_iff, decide_eq_true_eq]
        omega)]
      rw [sum_seg _ _ (by omega)]
      simp [bit]
      omega
    · rw [decide_eq_false c]
      rw [sumN_congr (g := fun _ => 0) 64 (fun x hx => by
        have : inR x y q = false := by
          rw [Bool.eq_false_iff]
          intro e
          have := (inR_iff _ _ _).1 e
          exact c (by omega)
        rw [this]; rfl)]
      rw [sumN_zero]
      simp [bit]
  rw [sumN_congr 64 (fun y _ => e1 y)]
  have e2 : ∀ (c : Nat) (f : Nat → Nat) k, sumN k (fun y => f y * c) = sumN k f * c := by
    intro c f k
    induction k with
    | zero => simp [sumN]
    | succ k ih => simp only [sumN]; rw [ih, Nat.add_mul]
  rw [e2, sum_seg _ _ (by omega)]
  rw [Nat.mul_comm]
  congr 1
  omega

/-- Rectangles without a place in common: the sizes add up. -/
def Apart (q r : R4) : Prop := ∀ x y : Nat, inR x y q = true → inR x y r = true → False
def areaSum : List R4 → Nat
  | [] => 0
  | q :: xs => areaOf q + areaSum xs
theorem cnt_sum : ∀ (xs : List R4), (∀ q ∈ xs, vrect q = true) → xs.Pairwise Apart → cnt (pl xs) = areaSum xs
  | [], _, _ => by
    have h : ∀ y, y < 64 → (sumN 64 fun x => bit (pl [] y x)) = 0 := fun y _ => (sumN_congr (g := fun _ => 0) 64 (fun x _ => rfl)).trans (sumN_zero 64)
    exact (sumN_congr (g := fun _ => 0) 64 h).trans (sumN_zero 64)
  | q :: xs, hv, hp => by
    rw [List.pairwise_cons] at hp
    rw [areaSum, ← cnt_sum xs (fun r hr => hv r (by simp [hr])) hp.2, ← cnt_rect q (hv q (by simp))]
    unfold cnt
    rw [← sumN_add]
    refine sumN_congr 64 fun y _ => ?_
    rw [← sumN_add]
    refine sumN_congr 64 fun x _ => ?_
    unfold pl
    rw [List.any_cons]
    dsimp only
    cases h1 : inR x y q
    · simp [bit]
    · have : xs.any (inR x y) = false := by
        rw [List.any_eq_false]
        intro r hr e
        exact hp.1 r hr x y h1 e
      rw [this]; rfl
theorem rects_apart (p : Nat → Nat → Bool) : (rectsS p).Pairwise Apart := by
  have h := nodup_rects p
  unfold List.Nodup at h
  refine List.Pairwise.imp_of_mem ?_ h
  intro a b ha hb hab x y h1 h2
  exact hab (rects_one p a b ha hb x y h1 h2)
theorem areaSum_ok {xs : List R4} {p : Nat → Nat → Bool} (h : IsArea xs p) : areaSum xs = cnt p := by
  have h1 := cnt_sum xs h.valid (by rw [h.1]; exact rects_apart p)
  rw [← h1]
  exact cnt_congr fun y x hy hx => h.pl y x hy hx
end Go.Proofs.YtbpkfpkhnkcgkaaDoorR
