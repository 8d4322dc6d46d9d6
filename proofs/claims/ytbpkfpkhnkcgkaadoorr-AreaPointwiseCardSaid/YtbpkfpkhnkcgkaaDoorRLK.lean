/- What a law's walk keeps: the slices that it has, each with the list that it reads as; and each function's contract at results that are known. The conditions: what the slices read as, the table of bits.TrailingZeros64. -/
import Derived.Test.YtbpkfpkhnkcgkaaDoorRWA14
import Derived.Test.YtbpkfpkhnkcgkaaDoorRWA20
namespace Go.Proofs.YtbpkfpkhnkcgkaaDoorR
open Go.RowKit Go.BigFrame

structure Know (w0 w : World) (ls : List (Value × List R4)) : Prop where
  below : Below w0.heap.size w0 w
  env : Env w
  all : ∀ (i : Nat) (v : Value) (xs : List R4), ls[i]? = some (v, xs) → RS w v xs

theorem Know.start {w : World} (he : Env w) : Know w w [] := ⟨Below.refl _ _, he, fun i v xs h => by simp at h⟩
theorem Know.step {w0 w w' : World} {ls : List (Value × List R4)} (k : Know w0 w ls) (hb : Below w.heap.size w w') : Know w0 w' ls :=
  ⟨k.below.trans (hb.mono k.below.size), k.env.below hb (Nat.le_refl _), fun i v xs h => (k.all i v xs h).below hb⟩
theorem Know.put {w0 w : World} {ls : List (Value × List R4)} (k : Know w0 w ls) {r : Value} {zs : List R4} (hr : RS w r zs) : Know w0 w (ls ++ [(r, zs)]) := by
  refine ⟨k.below, k.env, fun i v xs h => ?_⟩
  rcases Nat.lt_or_ge i ls.length with hi | hi
  · rw [List.getElem?_append_left hi] at h
    exact k.all i v xs h
  · rw [List.getElem?_append_right hi] at h
    rcases Nat.eq_zero_or_pos (i - ls.length) with h0 | h0
    · rw [h0] at h
      simp at h
      obtain ⟨rfl, rfl⟩ := h
      exact hr
    · rw [List.getElem?_eq_none (by simp; omega)] at h
      cases h
theorem Know.add {w0 w w' : World} {ls : List (Value × List R4)} (k : Know w0 w ls) {r : Value} {zs : List R4} (hr : RS w' r zs) (hb : Below w.heap.size w w') : Know w0 w' (ls ++ [(r, zs)]) := (k.step hb).put hr
theorem Know.alloc {w0 w : World} {ls : List (Value × List R4)} (k : Know w0 w ls) (o : Obj) : Know w0 (w.alloc o) ls := k.step ((Below.refl _ _).alloc (Nat.le_refl _) _)
theorem Know.drewN {w0 w : World} {ls : List (Value × List R4)} (k : Know w0 w ls) (n : Nat) : Know w0 (w.drewN n) ls := k.step (below_drewN (Below.refl _ _) n)
theorem Know.drew {w0 w : World} {ls : List (Value × List R4)} (k : Know w0 w ls) : Know w0 w.drew ls := k.drewN 1
/-- A new slice of one rectangle. -/
theorem Know.one {w0 w : World} {ls : List (Value × List R4)} (k : Know w0 w ls) (zs : List R4) (a b c d : Int) (h : zs = [⟨a, b, c, d⟩]) : Know w0 (w.alloc (.cells #[.int .i64 a, .int .i64 b, .int .i64 c, .int .i64 d] 36)) (ls ++ [(.slice (some ⟨w.heap.size, 0, none⟩) 1 1, zs)]) := by
  subst h
  exact (k.alloc _).put (RS.one (x := ⟨a, b, c, d⟩) (e := 36) (fz := (0, 0)) (heap_alloc_new w _) rfl)
theorem RS.two {w : World} {b n : Nat} {e : TypeId} {fz : Nat × Nat} {x y : R4} (h : w.heap[b]? = some (.cells (x.cells ++ y.cells).toArray e fz)) (hn : n = 2) : RS w (.slice (some ⟨b, 0, none⟩) n 2) [x, y] := by
  subst hn
  refine ⟨_, 2, rfl, Nat.le_refl _, by decide, .inr ⟨b, 0, rfl, (Array.getElem?_eq_some_iff.1 h).1, ?_⟩⟩
  intro i c hi j u hj
  have key : ∀ k, (x.cells ++ y.cells)[k]? = some u → w.cell? ⟨b, k, none⟩ = some u := fun k hk => by
    rw [cell_of_row w b _ _ e fz h, List.getElem?_toArray]; exact hk
  have hl : x.cells.length = 4 := rfl
  match i with
  | 0 =>
    simp at hi; subst hi
    have hj4 : j < 4 := by
      rcases Nat.lt_or_ge j 4 with h' | h'
      · exact h'
      · rw [List.getElem?_eq_none (by rw [hl]; exact h')] at hj; cases hj
    have := key j (by rw [List.getElem?_append_left (by rw [hl]; exact hj4)]; exact hj)
    simpa using this
  | 1 =>
    simp at hi; subst hi
    have := key (4 + j) (by rw [List.getElem?_append_right (by rw [hl]; omega), hl]; simpa using hj)
    simpa using this
  | i + 2 => simp at hi
theorem Know.two {w0 w : World} {ls : List (Value × List R4)} (k : Know w0 w ls) (zs : List R4) (a b c d a' b' c' d' : Int) (h : zs = [⟨a, b, c, d⟩, ⟨a', b', c', d'⟩]) :
    Know w0 (w.alloc (.cells #[.int .i64 a, .int .i64 b, .int .i64 c, .int .i64 d, .int .i64 a', .int .i64 b', .int .i64 c', .int .i64 d'] 36)) (ls ++ [(.slice (some ⟨w.heap.size, 0, none⟩) 2 2, zs)]) := by
  subst h
  exact (k.alloc _).put (RS.two (x := ⟨a, b, c, d⟩) (y := ⟨a', b', c', d'⟩) (e := 36) (fz := (0, 0)) (heap_alloc_new w _) rfl)

/-! ### The contracts at what is known -/
section
variable {w0 w : World} {ls : List (Value × List R4)} {v v' : Value} {xs ys zs : List R4}

/-- A call that gives one more slice, and an error. -/
def Gives (w0 : World) (ls : List (Value × List R4)) (zs : List R4) (err : Int) (e : Ending) (w' : World) : Prop := ∃ r, e = .returned (.tuple #[r, .int .i64 err]) ∧ Know w0 w' (ls ++ [(r, zs)])
theorem union_at (k : Know w0 w ls) (i j : Nat) (err : Int) (h : unionS xs ys = (zs, err)) (hi : ls[i]? = some (v, xs)) (hj : ls[j]? = some (v', ys)) :
    Calls Tryd.prog 12 #[v, v'] w (Gives w0 ls zs err) :=
  (union_any (k.all i _ _ hi) (k.all j _ _ hj) k.env).mono fun e w' ⟨r, he, h1, h2⟩ => ⟨r, by rw [he, h], k.add (by rw [h] at h1; exact h1) h2⟩
theorem common_at (k : Know w0 w ls) (i j : Nat) (err : Int) (h : commonS xs ys = (zs, err)) (hi : ls[i]? = some (v, xs)) (hj : ls[j]? = some (v', ys)) :
    Calls Tryd.prog 13 #[v, v'] w (Gives w0 ls zs err) :=
  (common_any (k.all i _ _ hi) (k.all j _ _ hj) k.env).mono fun e w' ⟨r, he, h1, h2⟩ => ⟨r, by rw [he, h], k.add (by rw [h] at h1; exact h1) h2⟩
theorem minus_at (k : Know w0 w ls) (i j : Nat) (err : Int) (h : minusS xs ys = (zs, err)) (hi : ls[i]? = some (v, xs)) (hj : ls[j]? = some (v', ys)) :
    Calls Tryd.prog 14 #[v, v'] w (Gives w0 ls zs err) :=
  (minus_any (k.all i _ _ hi) (k.all j _ _ hj) k.env).mono fun e w' ⟨r, he, h1, h2⟩ => ⟨r, by rw [he, h], k.add (by rw [h] at h1; exact h1) h2⟩
theorem of_at (k : Know w0 w ls) (i : Nat) (err : Int) (h : ofS xs = (zs, err)) (hi : ls[i]? = some (v, xs)) :
    Calls Tryd.prog 21 #[v] w (Gives w0 ls zs err) :=
  (of_any (k.all i _ _ hi) k.env).mono fun e w' ⟨r, he, h1, h2⟩ => ⟨r, by rw [he, h], k.add (by rw [h] at h1; exact h1) h2⟩
theorem grow_at (k : Know w0 w ls) (i : Nat) (d err : Int) (hd : I64 d) (h : growS xs d = (zs, err)) (hi : ls[i]? = some (v, xs)) :
    Calls Tryd.prog 15 #[v, .int .i64 d] w (Gives w0 ls zs err) :=
  (grow_any d (k.all i _ _ hi) k.env hd).mono fun e w' ⟨r, he, h1, h2⟩ => ⟨r, by rw [he, h], k.add (by rw [h] at h1; exact h1) h2⟩

/-- A call that gives a value, and no more slices. -/
def Says (w0 : World) (ls : List (Value × List R4)) (r : Value) (e : Ending) (w' : World) : Prop := e = .returned r ∧ Know w0 w' ls
theorem size_at (k : Know w0 w ls) (i : Nat) (n : Int) (h : (sizeS xs : Int) = n) (hi : ls[i]? = some (v, xs)) : Calls Tryd.prog 23 #[v] w (Says w0 ls (.int .i64 n)) :=
  (size_any (k.all i _ _ hi) k.env).mono fun e w' ⟨he, hb⟩ => ⟨by rw [he, ← h], k.step hb⟩
theorem has_at (k : Know w0 w ls) (i : Nat) (x y : Int) (b : Bool) (h : hasA xs x y = b) (hi : ls[i]? = some (v, xs)) : Calls Tryd.prog 17 #[v, .int .i64 x, .int .i64 y] w (Says w0 ls (.bool b)) :=
  (has_any x y (k.all i _ _ hi) k.env).mono fun e w' ⟨he, hb⟩ => ⟨by rw [he, ← h], k.step hb⟩
theorem within_at (k : Know w0 w ls) (i j : Nat) (b : Bool) (h : withinS xs ys = b) (hi : ls[i]? = some (v, xs)) (hj : ls[j]? = some (v', ys)) : Calls Tryd.prog 27 #[v, v'] w (Says w0 ls (.bool b)) :=
  (within_any (k.all i _ _ hi) (k.all j _ _ hj) k.env).mono fun e w' ⟨he, hb⟩ => ⟨by rw [he, ← h], k.step hb⟩
theorem valid_at (k : Know w0 w ls) (i : Nat) (b : Bool) (h : (openS xs).2 = b) (hi : ls[i]? = some (v, xs)) : Calls Tryd.prog 16 #[v] w (Says w0 ls (.bool b)) :=
  (valid_any (k.all i _ _ hi) k.env).mono fun e w' ⟨he, hb⟩ => ⟨by rw [he, ← h], k.step hb⟩
theorem same_at (k : Know w0 w ls) (i j : Nat) (b : Bool) (h : decide (xs = ys) = b) (hi : ls[i]? = some (v, xs)) (hj : ls[j]? = some (v', ys)) : Calls Tryd.prog 22 #[v, v'] w (Says w0 ls (.bool b)) :=
  (same_any (k.all i _ _ hi) (k.all j _ _ hj)).mono fun e w' ⟨he, n, hw⟩ => ⟨by rw [he, ← h], by rw [hw]; exact k.drewN n⟩
theorem rect_at (k : Know w0 w ls) (a b c d : Int) : Calls Tryd.prog 28 #[.int .i64 a, .int .i64 b, .int .i64 c, .int .i64 d] w (Says w0 ls (.agg #[.int .i64 a, .int .i64 b, .int .i64 c, .int .i64 d])) :=
  (rect_any a b c d w).mono fun _ _ ⟨he, hb⟩ => ⟨he, k.step hb⟩
/-- A call that gives one slice. -/
def Hands (w0 : World) (ls : List (Value × List R4)) (zs : List R4) (e : Ending) (w' : World) : Prop := ∃ r, e = .returned r ∧ Know w0 w' (ls ++ [(r, zs)])
theorem whole_at (k : Know w0 w ls) (h : wholeS = zs) : Calls Tryd.prog 25 #[] w (Hands w0 ls zs) :=
  (whole_any w).mono fun e w' ⟨r, he, h1, h2⟩ => ⟨r, he, k.add (by rw [← h]; exact h1) h2⟩
theorem made_at (k : Know w0 w ls) (hr : RS w v xs) (hi : ∀ q ∈ xs, Int4 q) (h : madeS xs = zs) : Calls Tryd.prog 10 #[v] w (Hands w0 ls zs) :=
  (made_any hr hi).mono fun e w' ⟨r, he, h1, h2⟩ => ⟨r, he, k.add (by rw [← h]; exact h1) h2⟩
theorem list_at (k : Know w0 w ls) (hr : RS w v xs) (hi : ∀ q ∈ xs, Int4 q) (h : listS xs = zs) : Calls Tryd.prog 20 #[v] w (Hands w0 ls zs) :=
  (list_any hr hi).mono fun e w' ⟨r, he, h1, h2⟩ => ⟨r, he, k.add (by rw [← h]; exact h1) h2⟩
end
end Go.Proofs.YtbpkfpkhnkcgkaaDoorR
