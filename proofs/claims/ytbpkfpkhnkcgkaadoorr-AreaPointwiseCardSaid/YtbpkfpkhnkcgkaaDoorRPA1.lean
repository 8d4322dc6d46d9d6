/- The plain theory of the rectangles of a set of places: they are valid, cover just the set, and have no place in common. No program, no condition. -/
import Derived.Test.YtbpkfpkhnkcgkaaDoorRWA10
namespace Go.Proofs.YtbpkfpkhnkcgkaaDoorR

theorem mem_ivs (row : Nat → Bool) (l r : Nat) : (l, r) ∈ ivs row ↔ l < r ∧ r ≤ 64 ∧ isIv row l r = true := by
  unfold ivs ivsUpto
  rw [List.mem_filterMap]
  constructor
  · rintro ⟨k, hk, hs⟩
    rw [List.mem_range] at hk
    unfold startAt at hs
    split at hs
    · rename_i hst
      injection hs with hs
      injection hs with h1 h2
      subst h1
      obtain ⟨g1, g2, g3, g4⟩ := endOf_spec row 64 k (by omega) (by omega)
      rw [h2] at g1 g2 g3 g4
      unfold starts at hst
      rw [Bool.and_eq_true] at hst
      have hlr : k < r := by
        rcases Nat.lt_or_ge k r with h | h
        · exact h
        · have : k = r := by omega
          subst this
          rcases g4 with g4 | g4
          · omega
          · rw [g4] at hst; cases hst.1
      refine ⟨hlr, g2, (isIv_iff row k r hlr g2).2 ⟨g3, g4, ?_⟩⟩
      have := hst.2
      simpa using this
    · cases hs
  · rintro ⟨h1, h2, h3⟩
    obtain ⟨g1, g2, g3⟩ := (isIv_iff row l r h1 h2).1 h3
    refine ⟨l, List.mem_range.2 (by omega), ?_⟩
    have hst : starts row l = true := by
      unfold starts
      rw [Bool.and_eq_true]
      refine ⟨g1 l (Nat.le_refl _) h1, ?_⟩
      simpa using g3
    unfold startAt
    rw [if_pos hst, endOf_eq row r h2 g2 64 l (by omega) (by omega) g1]

theorem hiOf_spec (p : Nat → Nat → Bool) (l r y : Nat) (hy : y < 64) : y < hiOf p l r y ∧ hiOf p l r y ≤ 64 ∧ (∀ b, y < b → b < hiOf p l r y → isIv (p b) l r = true) ∧ (hiOf p l r y = 64 ∨ isIv (p (hiOf p l r y)) l r = false) := by
  obtain ⟨g1, g2, g3, g4⟩ := endOf_spec (fun b => isIv (p b) l r) 64 (y + 1) (by omega) (by omega)
  exact ⟨g1, g2, fun b h1 h2 => g3 b h1 h2, g4⟩

/-- An interval that begins in a row. -/
def Begins (p : Nat → Nat → Bool) (y l r : Nat) : Prop := y < 64 ∧ l < r ∧ r ≤ 64 ∧ isIv (p y) l r = true ∧ ¬ (0 < y ∧ isIv (p (y - 1)) l r = true)

theorem mem_rects (p : Nat → Nat → Bool) (q : R4) : q ∈ rectsS p ↔ ∃ y l r : Nat, Begins p y l r ∧ q = ⟨l, r, y, hiOf p l r y⟩ := by
  unfold rectsS rectsUpto
  rw [List.mem_flatMap]
  constructor
  · rintro ⟨y, hy, hq⟩
    rw [List.mem_range] at hy
    unfold rowRects at hq
    rw [List.mem_filterMap] at hq
    obtain ⟨⟨l, r⟩, hlr, ho⟩ := hq
    obtain ⟨h1, h2, h3⟩ := (mem_ivs _ _ _).1 hlr
    unfold rectOf at ho
    split at ho
    · cases ho
    · rename_i hn
      cases ho
      exact ⟨y, l, r, ⟨hy, h1, h2, h3, hn⟩, rfl⟩
  · rintro ⟨y, l, r, ⟨hy, h1, h2, h3, hn⟩, rfl⟩
    refine ⟨y, List.mem_range.2 hy, ?_⟩
    unfold rowRects
    rw [List.mem_filterMap]
    refine ⟨(l, r), (mem_ivs _ _ _).2 ⟨h1, h2, h3⟩, ?_⟩
    unfold rectOf
    rw [if_neg hn]

theorem rects_valid (p : Nat → Nat → Bool) : ∀ q ∈ rectsS p, vrect q = true := by
  intro q hq
  obtain ⟨y, l, r, ⟨hy, h1, h2, h3, hn⟩, rfl⟩ := (mem_rects p q).1 hq
  obtain ⟨g1, g2, _⟩ := hiOf_spec p l r y hy
  rw [vrect_iff]
  simp only []
  omega

theorem rects_all (p : Nat → Nat → Bool) : (rectsS p).all vrect = true := List.all_eq_true.2 (rects_valid p)

/-- In each row of a rectangle its interval stands. -/
theorem begins_iv {p : Nat → Nat → Bool} {y l r : Nat} (h : Begins p y l r) {b : Nat} (h1 : y ≤ b) (h2 : b < hiOf p l r y) : isIv (p b) l r = true := by
  obtain ⟨hy, _, _, h3, _⟩ := h
  obtain ⟨_, _, g3, _⟩ := hiOf_spec p l r y hy
  by_cases e : b = y
  · subst e; exact h3
  · exact g3 b (by omega) h2

/-- A place of a row lies in an interval. -/
theorem iv_of (row : Nat → Bool) (x : Nat) (hx : x < 64) (h : row x = true) : ∃ l r, l ≤ x ∧ x < r ∧ r ≤ 64 ∧ isIv row l r = true := by
  have hl : ∃ l, l ≤ x ∧ (∀ z, l ≤ z → z ≤ x → row z = true) ∧ (l = 0 ∨ row (l - 1) = false) := by
    clear hx
    induction x with
    | zero => exact ⟨0, Nat.le_refl _, fun z _ hz => (show z = 0 by omega) ▸ h, .inl rfl⟩
    | succ x ih =>
      cases hx' : row x with
      | false => exact ⟨x + 1, Nat.le_refl _, fun z h1 h2 => (show z = x + 1 by omega) ▸ h, .inr (by simpa using hx')⟩
      | true =>
        obtain ⟨l, h1, h2, h3⟩ := ih hx'
        refine ⟨l, by omega, fun z h4 h5 => ?_, h3⟩
        by_cases e : z = x + 1
        · subst e; exact h
        · exact h2 z h4 (by omega)
  obtain ⟨l, h1, h2, h3⟩ := hl
  obtain ⟨g1, g2, g3, g4⟩ := endOf_spec row 64 x (by omega) (by omega)
  have hr : x < endOf row 64 x := by
    rcases Nat.lt_or_ge x (endOf row 64 x) with h' | h'
    · exact h'
    · have e : endOf row 64 x = x := by omega
      rw [e] at g4
      rcases g4 with g4 | g4
      · omega
      · rw [g4] at h; cases h
  refine ⟨l, endOf row 64 x, h1, hr, g2, (isIv_iff _ _ _ (by omega) g2).2 ⟨fun z h4 h5 => ?_, g4, h3⟩⟩
  by_cases e : z ≤ x
  · exact h2 z h4 e
  · exact g3 z (by omega) h5

/-- Two intervals of a row with a place in common are one. -/
theorem iv_one (row : Nat → Bool) (l r l' r' x : Nat) (h1 : l ≤ x) (h2 : x < r) (h3 : r ≤ 64) (h1' : l' ≤ x) (h2' : x < r') (h3' : r' ≤ 64) (h : isIv row l r = true) (h' : isIv row l' r' = true) : l = l' ∧ r = r' := by
  obtain ⟨a1, a2, a3⟩ := (isIv_iff row l r (by omega) h3).1 h
  obtain ⟨b1, b2, b3⟩ := (isIv_iff row l' r' (by omega) h3').1 h'
  constructor
  · rcases Nat.lt_trichotomy l l' with e | e | e
    · have := a1 (l' - 1) (by omega) (by omega)
      rcases b3 with b3 | b3
      · omega
      · rw [this] at b3; cases b3
    · exact e
    · have := b1 (l - 1) (by omega) (by omega)
      rcases a3 with a3 | a3
      · omega
      · rw [this] at a3; cases a3
  · rcases Nat.lt_trichotomy r r' with e | e | e
    · have := b1 r (by omega) (by omega)
      rcases a2 with a2 | a2
      · omega
      · rw [this] at a2; cases a2
    · exact e
    · have := a1 r' (by omega) (by omega)
      rcases b2 with b2 | b2
      · omega
      · rw [this] at b2; cases b2

theorem inR_iff (x y : Int) (q : R4) : inR x y q = true ↔ q.l ≤ x ∧ x < q.r ∧ q.lo ≤ y ∧ y < q.hi := by
  simp [inR, and_assoc]

theorem inR_begins {p : Nat → Nat → Bool} {y l r : Nat} (h : Begins p y l r) {a b : Nat} (hin : inR a b ⟨l, r, y, hiOf p l r y⟩ = true) : isIv (p b) l r = true ∧ l ≤ a ∧ a < r ∧ y ≤ b ∧ b < hiOf p l r y := by
  obtain ⟨h1, h2, h3, h4⟩ := (inR_iff _ _ _).1 hin
  simp only [] at h1 h2 h3 h4
  exact ⟨begins_iv h (by omega) (by omega), by omega, by omega, by omega, by omega⟩

/-- The rectangles cover just the places. -/
theorem rects_cover (p : Nat → Nat → Bool) (x y : Nat) (hx : x < 64) (hy : y < 64) : (rectsS p).any (inR x y) = p y x := by
  rw [Bool.eq_iff_iff, List.any_eq_true]
  constructor
  · rintro ⟨q, hq, hin⟩
    obtain ⟨y0, l, r, hb, rfl⟩ := (mem_rects p q).1 hq
    obtain ⟨h1, h2, h3, _⟩ := inR_begins hb hin
    exact ((isIv_iff _ _ _ hb.2.1 hb.2.2.1).1 h1).1 x h2 h3
  · intro h
    obtain ⟨l, r, h1, h2, h3, h4⟩ := iv_of (p y) x hx h
    have hd : ∃ y0, y0 ≤ y ∧ (∀ b, y0 ≤ b → b ≤ y → isIv (p b) l r = true) ∧ ¬ (0 < y0 ∧ isIv (p (y0 - 1)) l r = true) := by
      clear h hy
      induction y with
      | zero => exact ⟨0, Nat.le_refl _, fun b _ hb => (show b = 0 by omega) ▸ h4, by omega⟩
      | succ y ih =>
        by_cases hh : isIv (p y) l r = true
        · obtain ⟨y0, g1, g2, g3⟩ := ih hh
          refine ⟨y0, by omega, fun b h5 h6 => ?_, g3⟩
          by_cases e : b = y + 1
          · subst e; exact h4
          · exact g2 b h5 (by omega)
        · exact ⟨y + 1, Nat.le_refl _, fun b h5 h6 => (show b = y + 1 by omega) ▸ h4, by simpa using hh⟩
    obtain ⟨y0, g1, g2, g3⟩ := hd
    have hb : Begins p y0 l r := ⟨by omega, by omega, h3, g2 y0 (Nat.le_refl _) g1, g3⟩
    refine ⟨_, (mem_rects p _).2 ⟨y0, l, r, hb, rfl⟩, (inR_iff _ _ _).2 ?_⟩
    obtain ⟨k1, k2, k3, k4⟩ := hiOf_spec p l r y0 (by omega)
    have : y < hiOf p l r y0 := by
      rcases Nat.lt_or_ge y (hiOf p l r y0) with h' | h'
      · exact h'
      · have := g2 (hiOf p l r y0) (by omega) h'
        rcases k4 with k4 | k4
        · omega
        · rw [this] at k4; cases k4
    simp only []
    omega

/-- Two rectangles with a place in common are one. -/
theorem rects_one (p : Nat → Nat → Bool) (q q' : R4) (hq : q ∈ rectsS p) (hq' : q' ∈ rectsS p) (x y : Nat) (h : inR x y q = true) (h' : inR x y q' = true) : q = q' := by
  obtain ⟨y0, l, r, hb, rfl⟩ := (mem_rects p q).1 hq
  obtain ⟨y1, l', r', hb', rfl⟩ := (mem_rects p q').1 hq'
  obtain ⟨a1, a2, a3, a4, a5⟩ := inR_begins hb h
  obtain ⟨b1, b2, b3, b4, b5⟩ := inR_begins hb' h'
  obtain ⟨rfl, rfl⟩ := iv_one (p y) l r l' r' x a2 a3 hb.2.2.1 b2 b3 hb'.2.2.1 a1 b1
  have : y0 = y1 := by
    rcases Nat.lt_trichotomy y0 y1 with e | e | e
    · exfalso
      apply hb'.2.2.2.2
      exact ⟨by omega, begins_iv hb (by omega) (by omega)⟩
    · exact e
    · exfalso
      apply hb.2.2.2.2
      exact ⟨by omega, begins_iv hb' (by omega) (by omega)⟩
  subst this
  rfl

/-- Which rectangles there are hangs on the places of the map alone. -/
theorem isIv_congr {row row' : Nat → Bool} (h : ∀ x, x < 64 → row x = row' x) (l r : Nat) : isIv row l r = isIv row' l r := by
  unfold isIv
  rw [Bool.eq_iff_iff, List.all_eq_true, List.all_eq_true]
  constructor
  · intro hh x hx
    rw [← h x (List.mem_range.1 hx)]; exact hh x hx
  · intro hh x hx
    rw [h x (List.mem_range.1 hx)]; exact hh x hx
theorem endOf_congr {row row' : Nat → Bool} (h : ∀ x, x < 64 → row x = row' x) : ∀ f x, endOf row f x = endOf row' f x
  | 0, x => rfl
  | f + 1, x => by
    unfold endOf
    by_cases hx : x < 64
    · rw [h x hx, endOf_congr h f (x + 1)]
    · rw [if_neg (fun e => hx e.1), if_neg (fun e => hx e.1)]
theorem filterMap_congr' {α β : Type} {f g : α → Option β} : ∀ {l : List α}, (∀ x ∈ l, f x = g x) → l.filterMap f = l.filterMap g
  | [], _ => rfl
  | a :: l, h => by
    rw [List.filterMap_cons, List.filterMap_cons, h a (by simp), filterMap_congr' (fun x hx => h x (by simp [hx]))]
theorem flatMap_congr' {α β : Type} {f g : α → List β} : ∀ {l : List α}, (∀ x ∈ l, f x = g x) → l.flatMap f = l.flatMap g
  | [], _ => rfl
  | a :: l, h => by
    rw [List.flatMap_cons, List.flatMap_cons, h a (by simp), flatMap_congr' (fun x hx => h x (by simp [hx]))]
theorem ivs_congr {row row' : Nat → Bool} (h : ∀ x, x < 64 → row x = row' x) : ivs row = ivs row' := by
  unfold ivs ivsUpto
  apply filterMap_congr'
  intro l hl
  have hl := List.mem_range.1 hl
  unfold startAt starts
  rw [h l hl, h (l - 1) (by omega), endOf_congr h]
theorem rects_congr {p p' : Nat → Nat → Bool} (h : ∀ y x, y < 64 → x < 64 → p y x = p' y x) : rectsS p = rectsS p' := by
  have hiv : ∀ y l r, y < 64 → isIv (p y) l r = isIv (p' y) l r := fun y l r hy => isIv_congr (fun x hx => h y x hy hx) l r
  unfold rectsS rectsUpto
  apply flatMap_congr'
  intro y hy
  have hy := List.mem_range.1 hy
  unfold rowRects
  rw [ivs_congr (fun x hx => h y x hy hx)]
  apply filterMap_congr'
  intro x _
  unfold rectOf
  have e1 : (0 < y ∧ isIv (p (y - 1)) x.1 x.2 = true) ↔ (0 < y ∧ isIv (p' (y - 1)) x.1 x.2 = true) := by rw [hiv (y - 1) _ _ (by omega)]
  have e2 : hiOf p x.1 x.2 y = hiOf p' x.1 x.2 y := endOf_congr (fun b hb => hiv b _ _ hb) _ _
  by_cases c : 0 < y ∧ isIv (p (y - 1)) x.1 x.2 = true
  · rw [if_pos c, if_pos (e1.1 c)]
  · rw [if_neg c, if_neg (fun k => c (e1.2 k)), e2]

/-- Two sets with the same rectangles have the same places. -/
theorem places_of_rects {p p' : Nat → Nat → Bool} (h : rectsS p = rectsS p') (y x : Nat) (hy : y < 64) (hx : x < 64) : p y x = p' y x := by
  rw [← rects_cover p x y hx hy, h, rects_cover p' x y hx hy]

/-- The rectangles are listed once each. -/
theorem nodup_ivs (row : Nat → Bool) : (ivs row).Nodup := by
  unfold ivs ivsUpto
  refine List.Pairwise.filterMap _ (R := fun a b : Nat => a < b) ?_ (List.pairwise_lt_range)
  intro a b hab x hx y hy e
  subst e
  unfold startAt at hx hy
  split at hx
  · split at hy
    · cases hx
      injection hy with hy
      injection hy with e1 e2
      omega
    · cases hy
  · cases hx
theorem nodup_rects (p : Nat → Nat → Bool) : (rectsS p).Nodup := by
  unfold rectsS rectsUpto
  rw [List.flatMap_def, List.Nodup, List.pairwise_flatten]
  constructor
  · intro l hl
    rw [List.mem_map] at hl
    obtain ⟨y, hy, rfl⟩ := hl
    unfold rowRects
    refine List.Pairwise.filterMap _ (R := fun a b : Nat × Nat => a ≠ b) ?_ (nodup_ivs _)
    intro a b hab u hu v hv e
    subst e
    unfold rectOf at hu hv
    split at hu
    · cases hu
    · split at hv
      · cases hv
      · apply hab
        cases hu
        injection hv with hv
        injection hv with e1 e2 e3 e4
        apply Prod.ext <;> omega
  · rw [List.pairwise_map]
    refine List.Pairwise.imp ?_ (List.pairwise_lt_range)
    intro a b hab u hu v hv e
    subst e
    unfold rowRects at hu hv
    rw [List.mem_filterMap] at hu hv
    obtain ⟨u1, _, h1⟩ := hu
    obtain ⟨u2, _, h2⟩ := hv
    unfold rectOf at h1 h2
    split at h1
    · cases h1
    · split at h2
      · cases h2
      · cases h1
        injection h2 with h2
        injection h2 with e1 e2 e3 e4
        omega
end Go.Proofs.YtbpkfpkhnkcgkaaDoorR
