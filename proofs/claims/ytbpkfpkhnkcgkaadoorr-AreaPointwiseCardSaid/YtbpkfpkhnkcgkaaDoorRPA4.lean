/- The plain theory of areas that integers determine: each is an area, and what the functions give of such areas. No program, no condition. -/
import Derived.Test.YtbpkfpkhnkcgkaaDoorRPA3
import Derived.Test.YtbpkfpkhnkcgkaaDoorRWA20
import Derived.Test.YtbpkfpkhnkcgkaaDoorRWA14
namespace Go.Proofs.YtbpkfpkhnkcgkaaDoorR

/-- An area with few bounds. -/
structure Ar (xs : List R4) (p : Nat → Nat → Bool) (n : Nat) : Prop where
  is : IsArea xs p
  few : Few p n

theorem few_made (xs : List R4) : ∀ k, Few (madeUpto xs k) k
  | 0 => few_empty
  | k + 1 => by
    have ih := few_made xs k
    unfold madeUpto
    cases h : xs[k]? with
    | none => exact ih.le (by omega)
    | some q =>
      dsimp only
      have h1 := Few.op (o := fun a b => if b then (k % 3 != 2) else a) rfl ih (few_rect (oneR q) (oneS_valid _ _ _ _))
      exact h1
theorem made_ar (xs : List R4) (n : Nat) (h : xs.length ≤ n) (hn : n ≤ 6) : Ar (madeS xs) (madeP xs) n := by
  have h1 : Few (madeP xs) n := (few_made xs _).le (by omega)
  exact ⟨⟨rfl, h1.count100 (by omega)⟩, h1⟩

theorem Ar.union {xs ys : List R4} {p q : Nat → Nat → Bool} {n m : Nat} (h : Ar xs p n) (h' : Ar ys q m) (hn : n + m ≤ 7) : ∃ zs, unionS xs ys = (zs, 0) ∧ Ar zs (fun y x => p y x || q y x) (n + m) := by
  have hf := Few.op (o := fun a b => a || b) rfl h.few h'.few
  obtain ⟨h1, h2⟩ := combine_ok (o := fun a b => a || b) orF_bit h.is h'.is (hf.count100 hn)
  exact ⟨(unionS xs ys).1, Prod.ext rfl h1, ⟨h2, hf⟩⟩
theorem Ar.common {xs ys : List R4} {p q : Nat → Nat → Bool} {n m : Nat} (h : Ar xs p n) (h' : Ar ys q m) (hn : n + m ≤ 7) : ∃ zs, commonS xs ys = (zs, 0) ∧ Ar zs (fun y x => p y x && q y x) (n + m) := by
  have hf := Few.op (o := fun a b => a && b) rfl h.few h'.few
  obtain ⟨h1, h2⟩ := combine_ok (o := fun a b => a && b) andF_bit h.is h'.is (hf.count100 hn)
  exact ⟨(commonS xs ys).1, Prod.ext rfl h1, ⟨h2, hf⟩⟩
theorem Ar.minus {xs ys : List R4} {p q : Nat → Nat → Bool} {n m : Nat} (h : Ar xs p n) (h' : Ar ys q m) (hn : n + m ≤ 7) : ∃ zs, minusS xs ys = (zs, 0) ∧ Ar zs (fun y x => p y x && !q y x) (n + m) := by
  have hf := Few.op (o := fun a b => a && !b) rfl h.few h'.few
  obtain ⟨h1, h2⟩ := combine_ok (o := fun a b => a && !b) minF_bit h.is h'.is (hf.count100 hn)
  exact ⟨(minusS xs ys).1, Prod.ext rfl h1, ⟨h2, hf⟩⟩
theorem Ar.unionC {xs ys : List R4} {p q r : Nat → Nat → Bool} {n m k : Nat} (h : Ar xs p n) (h' : Ar ys q m) (hr : Few r k) (hk : k ≤ 7) (e : ∀ y x, (p y x || q y x) = r y x) : ∃ zs, unionS xs ys = (zs, 0) ∧ Ar zs r k := by
  have hs : (fun y x => p y x || q y x) = r := by funext y x; exact e y x
  obtain ⟨h1, h2⟩ := combine_ok (o := fun a b => a || b) orF_bit h.is h'.is (by rw [hs]; exact hr.count100 hk)
  exact ⟨(unionS xs ys).1, Prod.ext rfl h1, ⟨by rw [← hs]; exact h2, hr⟩⟩
theorem Ar.commonC {xs ys : List R4} {p q r : Nat → Nat → Bool} {n m k : Nat} (h : Ar xs p n) (h' : Ar ys q m) (hr : Few r k) (hk : k ≤ 7) (e : ∀ y x, (p y x && q y x) = r y x) : ∃ zs, commonS xs ys = (zs, 0) ∧ Ar zs r k := by
  have hs : (fun y x => p y x && q y x) = r := by funext y x; exact e y x
  obtain ⟨h1, h2⟩ := combine_ok (o := fun a b => a && b) andF_bit h.is h'.is (by rw [hs]; exact hr.count100 hk)
  exact ⟨(commonS xs ys).1, Prod.ext rfl h1, ⟨by rw [← hs]; exact h2, hr⟩⟩
theorem grow_is {xs : List R4} {p q : Nat → Nat → Bool} (h : IsArea xs p) (d : Nat) (hd : d ≤ 64) (e : SameP (dil d p) q) (hc : (rectsS q).length ≤ 100) : ∃ zs, growS xs (d : Nat) = (zs, 0) ∧ IsArea zs q := by
  obtain ⟨h1, h2⟩ := grow_ok h d hd (by rw [rects_congr e]; exact hc)
  exact ⟨(growS xs d).1, Prod.ext rfl h1, h2.congr e⟩

theorem whole_is : Ar wholeS (fun _ _ => true) 1 := by
  have hv : vrect ⟨0, 64, 0, 64⟩ = true := rfl
  have h1 := few_rect ⟨0, 64, 0, 64⟩ hv
  have h2 : SameP (fun y x => inR (x : Nat) (y : Nat) ⟨0, 64, 0, 64⟩) (fun _ _ => true) := fun y x hy hx => (inR_iff _ _ _).2 (by simp only []; omega)
  have h3 : Few (fun _ _ => true) 1 := h1.congr h2
  refine ⟨⟨?_, by decide⟩, h3⟩
  rw [← rects_congr h2]
  decide +kernel

/-- One set is a part of another one. -/
def Sub (p q : Nat → Nat → Bool) : Prop := ∀ y x, y < 64 → x < 64 → p y x = true → q y x = true
theorem within_dec {xs ys : List R4} {p q : Nat → Nat → Bool} (h : IsArea xs p) (h' : IsArea ys q) (b : Bool) (e : Sub p q ↔ b = true) : withinS xs ys = b := by
  rw [Bool.eq_iff_iff, within_ok h h']
  exact e
theorem same_dec {xs ys : List R4} {p q : Nat → Nat → Bool} (h : IsArea xs p) (h' : IsArea ys q) (b : Bool) (e : SameP p q ↔ b = true) : decide (xs = ys) = b := by
  rw [Bool.eq_iff_iff, decide_eq_true_eq, area_eq h h']
  exact e
theorem same_true {xs ys : List R4} {p q : Nat → Nat → Bool} (h : IsArea xs p) (h' : IsArea ys q) (e : SameP p q) : decide (xs = ys) = true := same_dec h h' true ⟨fun _ => rfl, fun _ => e⟩
theorem within_true {xs ys : List R4} {p q : Nat → Nat → Bool} (h : IsArea xs p) (h' : IsArea ys q) (e : Sub p q) : withinS xs ys = true := within_dec h h' true ⟨fun _ => rfl, fun _ => e⟩

/-- What is said of within. -/
theorem within_facts {A B C M U I ALL : List R4} {p q r : Nat → Nat → Bool} (hA : IsArea A p) (hB : IsArea B q) (hC : IsArea C r) (hM : IsArea M fun y x => p y x && !q y x) (hU : IsArea U fun y x => p y x || q y x) (hI : IsArea I fun y x => p y x && q y x) (hALL : IsArea ALL fun y x => (p y x || q y x) || r y x) :
    ∃ is ba bc ac : Bool, withinS A B = is ∧ withinS B A = ba ∧ withinS B C = bc ∧ withinS A C = ac ∧ (is = true ↔ M = []) ∧ decide (U = B) = is ∧ decide (I = A) = is ∧ decide (A = B) = (is && ba) ∧ (is = true → bc = true → ac = true) ∧
      withinS I A = true ∧ withinS I B = true ∧ withinS A U = true ∧ withinS U ALL = true ∧ withinS I ALL = true ∧ withinS ALL wholeS = true ∧ withinS [] A = true := by
  refine ⟨withinS A B, withinS B A, withinS B C, withinS A C, rfl, rfl, rfl, rfl, ?_, ?_, ?_, ?_, ?_, ?_, ?_, ?_, ?_, ?_, ?_, ?_⟩
  · rw [within_ok hA hB, area_nil_iff hM]
    constructor
    · intro h y x hy hx
      have := h y x hy hx
      cases hp : p y x <;> simp_all
    · intro h y x hy hx hp
      have := h y x hy hx
      simpa [hp] using this
  · refine same_dec hU hB _ ?_
    rw [within_ok hA hB]
    constructor
    · intro h y x hy hx hp
      have := h y x hy hx
      simpa [hp] using this.symm
    · intro h y x hy hx
      have := h y x hy hx
      cases hp : p y x <;> simp_all
  · refine same_dec hI hA _ ?_
    rw [within_ok hA hB]
    constructor
    · intro h y x hy hx hp
      have := h y x hy hx
      simpa [hp] using this
    · intro h y x hy hx
      have := h y x hy hx
      cases hp : p y x <;> simp_all
  · refine same_dec hA hB _ ?_
    rw [Bool.and_eq_true, within_ok hA hB, within_ok hB hA]
    constructor
    · intro h
      exact ⟨fun y x hy hx hp => by rw [← h y x hy hx]; exact hp, fun y x hy hx hp => by rw [h y x hy hx]; exact hp⟩
    · rintro ⟨h1, h2⟩ y x hy hx
      rw [Bool.eq_iff_iff]
      exact ⟨h1 y x hy hx, h2 y x hy hx⟩
  · rw [within_ok hA hB, within_ok hB hC, within_ok hA hC]
    exact fun h1 h2 y x hy hx hp => h2 y x hy hx (h1 y x hy hx hp)
  · exact within_true hI hA fun y x _ _ h => by simp at h; exact h.1
  · exact within_true hI hB fun y x _ _ h => by simp at h; exact h.2
  · exact within_true hA hU fun y x _ _ h => by simp [h]
  · exact within_true hU hALL fun y x _ _ h => by simp only [h, Bool.true_or]
  · exact within_true hI hALL fun y x _ _ h => by simp at h; simp [h.1]
  · exact within_true hALL whole_is.is fun _ _ _ _ _ => rfl
  · exact within_true area_nil hA fun _ _ _ _ h => by cases h
end Go.Proofs.YtbpkfpkhnkcgkaaDoorR
