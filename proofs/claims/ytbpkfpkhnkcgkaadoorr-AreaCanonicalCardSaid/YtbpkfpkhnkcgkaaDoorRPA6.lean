/- The plain theory for AreaCanonical: a list of rectangles in another order, one of them twice, and one of them in two parts, covers the same places. No program, no condition. -/
import Derived.Test.YtbpkfpkhnkcgkaaDoorRPA4
namespace Go.Proofs.YtbpkfpkhnkcgkaaDoorR

theorem any_set {α : Type} (f : α → Bool) : ∀ (l : List α) (k : Nat) (r a b : α), l[k]? = some r → (f a || f b) = f r → ((l.set k a).any f || f b) = l.any f
  | [], k, r, a, b, h, _ => by simp at h
  | x :: l, 0, r, a, b, h, e => by
    simp at h; subst h
    simp only [List.set_cons_zero, List.any_cons]
    rw [← e]
    cases f a <;> cases f b <;> simp
  | x :: l, k + 1, r, a, b, h, e => by
    simp at h
    simp only [List.set_cons_succ, List.any_cons]
    rw [Bool.or_assoc, any_set f l k r a b h e]

/-- A rectangle in two parts, which may overlap. -/
theorem cut_hor (r : R4) (u v : Int) (hr : vrect r = true) (hu : 0 ≤ u ∧ u < r.r - r.l) (hv : 0 ≤ v ∧ v < r.l + 1 + u - r.l) :
    vrect ⟨r.l, r.l + 1 + u, r.lo, r.hi⟩ = true ∧ vrect ⟨r.l + v, r.r, r.lo, r.hi⟩ = true ∧ ∀ x y : Int, (inR x y ⟨r.l, r.l + 1 + u, r.lo, r.hi⟩ || inR x y ⟨r.l + v, r.r, r.lo, r.hi⟩) = inR x y r := by
  obtain ⟨q1, q2, q3, q4, q5, q6⟩ := (vrect_iff r).1 hr
  refine ⟨(vrect_iff _).2 (by simp only []; omega), (vrect_iff _).2 (by simp only []; omega), fun x y => ?_⟩
  rw [Bool.eq_iff_iff, Bool.or_eq_true, inR_iff, inR_iff, inR_iff]
  simp only []
  omega
theorem cut_ver (r : R4) (u v : Int) (hr : vrect r = true) (hu : 0 ≤ u ∧ u < r.hi - r.lo) (hv : 0 ≤ v ∧ v < r.lo + 1 + u - r.lo) :
    vrect ⟨r.l, r.r, r.lo, r.lo + 1 + u⟩ = true ∧ vrect ⟨r.l, r.r, r.lo + v, r.hi⟩ = true ∧ ∀ x y : Int, (inR x y ⟨r.l, r.r, r.lo, r.lo + 1 + u⟩ || inR x y ⟨r.l, r.r, r.lo + v, r.hi⟩) = inR x y r := by
  obtain ⟨q1, q2, q3, q4, q5, q6⟩ := (vrect_iff r).1 hr
  refine ⟨(vrect_iff _).2 (by simp only []; omega), (vrect_iff _).2 (by simp only []; omega), fun x y => ?_⟩
  rw [Bool.eq_iff_iff, Bool.or_eq_true, inR_iff, inR_iff, inR_iff]
  simp only []
  omega

/-- What is said of one form. -/
theorem canon_facts (L : List R4) (hv : ∀ q ∈ L, vrect q = true) (hl : L.length ≤ 6) : ∃ A, ofS L = (A, 0) ∧ (openS A).2 = true ∧ ofS A = (A, 0) ∧ IsArea A (pl L) := by
  have hva : L.all vrect = true := List.all_eq_true.2 hv
  have hf := (few_pl L hv).le hl
  obtain ⟨h1, h2⟩ := of_ok hva (by omega) (hf.count100 (by omega))
  have hA := h2
  generalize hA' : (ofS L).1 = A at *
  have hs : SameP (pl A) (pl L) := fun y x hy hx => hA.pl y x hy hx
  have hvA : A.all vrect = true := List.all_eq_true.2 hA.valid
  obtain ⟨h3, h4⟩ := of_ok hvA (by have := hA.2; omega) (by rw [rects_congr hs]; exact hf.count100 (by omega))
  refine ⟨A, Prod.ext hA' h1, (area_open hA).1, Prod.ext ((area_eq h4 hA).2 hs) h3, hA⟩

theorem canon_more (L M : List R4) (A : List R4) (hv : ∀ q ∈ L, vrect q = true) (hl : L.length ≤ 6) (hA : IsArea A (pl L)) (hM : ∀ q ∈ M, vrect q = true) (hml : M.length ≤ 400) (hs : SameP (pl M) (pl L)) : ofS M = (A, 0) ∧ minusS A A = ([], 0) := by
  have hf := (few_pl L hv).le hl
  obtain ⟨h3, h4⟩ := of_ok (List.all_eq_true.2 hM) hml (by rw [rects_congr hs]; exact hf.count100 (by omega))
  refine ⟨Prod.ext ((area_eq h4 hA).2 hs) h3, ?_⟩
  have he : (fun y x => pl L y x && !pl L y x) = fun _ _ => false := by funext y x; cases pl L y x <;> rfl
  obtain ⟨z1, z2⟩ := combine_ok (o := fun a b => a && !b) minF_bit hA hA (by rw [he, rects_empty (fun _ _ _ _ => rfl)]; simp)
  rw [he] at z2
  exact Prod.ext ((area_eq z2 area_nil).2 (fun _ _ _ _ => rfl)) z1

/-- The list with something changed. -/
theorem canon_places (L : List R4) (a k : Nat) (q r one two : R4) (ha : L[a]? = some q) (hk : (L.reverse ++ [q])[k]? = some r) (he : ∀ x y : Int, (inR x y one || inR x y two) = inR x y r) : SameP (pl ((L.reverse ++ [q]).set k one ++ [two])) (pl L) := by
  intro y x _ _
  unfold pl
  rw [List.any_append, List.any_cons, List.any_nil, Bool.or_false, any_set _ _ k r one two hk (he x y), List.any_append, List.any_reverse, List.any_cons, List.any_nil, Bool.or_false]
  cases h : inR x y q
  · simp
  · have : L.any (inR x y) = true := List.any_eq_true.2 ⟨q, List.mem_of_getElem? ha, h⟩
    rw [this]; rfl

/-- What Of and Minus say of the list with something changed. -/
theorem canon_end (L A : List R4) (hv : ∀ q ∈ L, vrect q = true) (hl : L.length ≤ 6) (hA : IsArea A (pl L)) (a k : Nat) (q r one two : R4) (ha : L[a]? = some q) (hk : (L.reverse ++ [q])[k]? = some r)
    (h1 : vrect one = true) (h2 : vrect two = true) (he : ∀ x y : Int, (inR x y one || inR x y two) = inR x y r) : ofS ((L.reverse ++ [q]).set k one ++ [two]) = (A, 0) ∧ minusS A A = ([], 0) := by
  refine canon_more L _ A hv hl hA ?_ ?_ (canon_places L a k q r one two ha hk he)
  · intro z hz
    rcases List.mem_append.1 hz with hz | hz
    · rcases List.mem_or_eq_of_mem_set hz with hz | rfl
      · rcases List.mem_append.1 hz with hz | hz
        · exact hv z (List.mem_reverse.1 hz)
        · rw [List.mem_singleton] at hz
          subst hz
          exact hv _ (List.mem_of_getElem? ha)
      · exact h1
    · rw [List.mem_singleton] at hz
      subst hz
      exact h2
  · simp only [List.length_append, List.length_set, List.length_reverse, List.length_cons, List.length_nil]
    omega

theorem rev_take {α : Type} (L : List α) (n j : Nat) (q : α) (hn : n = L.length) (h : L[j]? = some q) : L.reverse.take (n - j) = L.reverse.take (n - (j + 1)) ++ [q] := by
  have hj : j < L.length := by
    rcases Nat.lt_or_ge j L.length with h' | h'
    · exact h'
    · rw [List.getElem?_eq_none h'] at h; cases h
  rw [show n - j = (n - (j + 1)) + 1 by omega, List.take_add_one, List.getElem?_reverse (by omega), show L.length - 1 - (n - (j + 1)) = j by omega, h]
  rfl
end Go.Proofs.YtbpkfpkhnkcgkaaDoorR
