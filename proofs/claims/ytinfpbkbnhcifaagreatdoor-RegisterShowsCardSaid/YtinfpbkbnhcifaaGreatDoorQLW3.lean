/- More contracts of the laws' walks, for whatever world comes after one that is known. The conditions: what is known, lengths. -/
import Derived.Test.YtinfpbkbnhcifaaGreatDoorQLW1
import Derived.Test.YtinfpbkbnhcifaaGreatDoorQBT1
import Derived.Test.YtinfpbkbnhcifaaGreatDoorQRT2
namespace Go.Proofs.YtinfpbkbnhcifaaGreatDoor
open Go.RowKit Go.BigFrame
theorem idxS_len (b : Int) (n : Nat) : (idxS b n).length ≤ n := by
  have h1 := idxI_len b n
  have h2 : (idxI b n).length = (idxS b n).length := by unfold idxI; rw [List.length_map]
  omega
theorem part_ent (key : ByteArray) (car : Int) (xs : List ByteArray) (n : Nat) (is : List Nat) (h : ∀ s ∈ xs, s.size ≤ 100000) : ∀ x ∈ (partS key car xs n is).items, x.ent.size ≤ 100000 := by
  intro x hx
  unfold partS at hx
  obtain ⟨t, _, rfl⟩ := List.mem_map.1 hx
  show (xs.getD t ⟨#[]⟩).size ≤ 100000
  rw [List.getD_eq_getElem?_getD]
  cases e : xs[t]? with
  | none => exact Nat.zero_le _
  | some s => exact h s (List.mem_of_getElem? e)
theorem bent_fit (p : PartP) (how n at' : Int) (h : FitOne p) : FitOne (bentP p how n at') := by
  unfold bentP
  refine ⟨bentK_root p _ n at' h.1, by rw [bentK_len]; exact h.2.1, ?_⟩
  exact bentK_items (fun x => x.prf.length ≤ 1000) p _ n at' h.2.2 (fun x hx => hx) (fun x hx => hx) (fun x hx => hx)
section
variable {w0 w : World} {ls : List Dat}
theorem show_w (k : Know w0 w ls) (i : Nat) {v : Value} {xs : List ByteArray} (hi : ls[i]? = some (.S v xs)) (key : ByteArray) (car : Int) (n : Nat) (hk : key.size = 32) (hv : validB ⟨car, xs⟩ = true) (hn : n ≤ xs.length) (b : Int) (c1 c2 : Int) (c3 c4 : ByteArray) (its : List ItemP) (hp : (⟨⟨c1, c2, c3, c4⟩, its⟩ : PartP) = partS key car xs n (idxS b n)) :
    ∀ W vl, Below w.heap.size w W → IL W vl (idxI b n) → Calls Tryz.prog 18 #[.string key, .agg #[.int .i64 car, v], .int .i64 n, vl] W fun e w' => ∃ (a : Option Addr) (c : Nat), e = .returned (.tuple #[.agg #[.int .i64 c1, .int .i64 c2, .string c3, .string c4, .slice a its.length c], .int .i64 0]) ∧ IT w' (.slice a its.length c) its ∧ Below W.heap.size W w' := by
  intro W vl hW hl
  have h60 : xs.length ≤ 60 := (valid_parts hv).2.2.1
  have hi60 : (idxS b n).length ≤ 1000 := by
    have h1 := idxI_len b n
    have h2 : (idxI b n).length = (idxS b n).length := by unfold idxI; rw [List.length_map]
    omega
  refine (show_ix (k.step hW).here i hi (idxS b n) hl key car n hk hv hn (idxS_asc _ _) (idxS_lt _ _) hi60).mono ?_
  rintro e w' ⟨iv, rfl, h2, h3⟩
  rw [← hp] at h2 ⊢
  obtain ⟨a, c, rfl⟩ := h2.form2
  exact ⟨a, c, rfl, h2, h3⟩
theorem check_w (k : Know w0 w ls) (i : Nat) {a : Option Addr} {n c : Nat} (key : ByteArray) (c1 c2 : Int) (c3 c4 : ByteArray) (its : List ItemP) (hi : ls[i]? = some (.I (.slice a n c) its)) (hk : key.size ≤ 1000) (hf : FitOne ⟨⟨c1, c2, c3, c4⟩, its⟩) (b : Bool) (hb : checkB key ⟨⟨c1, c2, c3, c4⟩, its⟩ = b) :
    ∀ W, Below w.heap.size w W → Calls Tryz.prog 24 #[.string key, .agg #[.int .i64 c1, .int .i64 c2, .string c3, .string c4, .slice a n c]] W fun e w' => e = .returned (.bool b) ∧ Below W.heap.size W w' :=
  fun _ hW => (check_at (k.step hW).here i (p := ⟨⟨c1, c2, c3, c4⟩, its⟩) hi hk hf b hb).mono fun _ _ ⟨h1, h2⟩ => ⟨h1, h2.below⟩
theorem conv_w (k : Know w0 w ls) (i j : Nat) {v v' : Value} (key : ByteArray) (c1 c2 : Int) (c3 c4 : ByteArray) (its : List ItemP) (d1 d2 : Int) (d3 d4 : ByteArray) (jts : List ItemP) (hi : ls[i]? = some (.I v its)) (hj : ls[j]? = some (.I v' jts)) (hk : key.size ≤ 1000) (hf : FitOne ⟨⟨c1, c2, c3, c4⟩, its⟩) (hf' : FitOne ⟨⟨d1, d2, d3, d4⟩, jts⟩) (b : Bool) (hb : convictsB key ⟨⟨c1, c2, c3, c4⟩, its⟩ ⟨⟨d1, d2, d3, d4⟩, jts⟩ = b) :
    ∀ W, Below w.heap.size w W → Calls Tryz.prog 22 #[.string key, .agg #[.int .i64 c1, .int .i64 c2, .string c3, .string c4, v], .agg #[.int .i64 d1, .int .i64 d2, .string d3, .string d4, v']] W fun e w' => e = .returned (.bool b) ∧ Below W.heap.size W w' :=
  fun _ hW => (conv_at2 (k.step hW).here i j (p := ⟨⟨c1, c2, c3, c4⟩, its⟩) (q := ⟨⟨d1, d2, d3, d4⟩, jts⟩) hi hj hk hf hf' b hb).mono fun _ _ ⟨h1, h2⟩ => ⟨h1, h2.below⟩
/-- What the walk of a proof's strings is made of is short. -/
theorem walked_small (s : ByteArray) (hs : s.size ≤ 100000) (r : List ByteArray) : (∀ x ∈ r, x.size ≤ 1000) → ∀ n i, ∀ x ∈ (walkedS s r n i).1, x.size ≤ 200000 := by
  induction r with
  | nil =>
    intro _ n i x hx
    rw [walked_base s [] n i (.inr rfl)] at hx
    rw [List.mem_singleton.1 hx]
    have e : (markL s).size = 1 + s.size := by unfold markL; rw [ByteArray.size_append]; rfl
    omega
  | cons y r ih =>
    intro hr n i x hx
    have hr' : ∀ z ∈ r, z.size ≤ 1000 := fun z hz => hr z (by simp [hz])
    have hy := hr y (by simp)
    by_cases h1 : n ≤ 1
    · rw [walked_base s _ n i (.inl h1)] at hx
      rw [List.mem_singleton.1 hx]
      have e : (markL s).size = 1 + s.size := by unfold markL; rw [ByteArray.size_append]; rfl
      omega
    · by_cases h2 : i < leftN n
      · rw [walked_less s y r n i (by omega) h2] at hx
        rcases List.mem_append.1 hx with e | e
        · exact ih hr' _ _ x e
        · rw [List.mem_singleton.1 e, markN_size, walked_size]; omega
      · rw [walked_more s y r n i (by omega) h2] at hx
        rcases List.mem_append.1 hx with e | e
        · exact ih hr' _ _ x e
        · rw [List.mem_singleton.1 e, markN_size, walked_size]; omega
end
end Go.Proofs.YtinfpbkbnhcifaaGreatDoor
