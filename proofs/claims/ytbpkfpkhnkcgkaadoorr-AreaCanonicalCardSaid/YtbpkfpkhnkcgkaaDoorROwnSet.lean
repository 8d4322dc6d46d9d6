/- Storing one rectangle into a row of the call's own. No condition. -/
import Derived.Test.YtbpkfpkhnkcgkaaDoorRWA16
namespace Go.Proofs.YtbpkfpkhnkcgkaaDoorR
open Go.RowKit

theorem flat_set : ∀ (xs : List R4) (k : Nat) (a b c d : Int), k < xs.length →
    ((xs.set k ⟨a, b, c, d⟩).map R4.cells).flatten = (((((xs.map R4.cells).flatten.set (k * 4) (.int .i64 a)).set (k * 4 + 1) (.int .i64 b)).set (k * 4 + 2) (.int .i64 c)).set (k * 4 + 3) (.int .i64 d))
  | [], k, a, b, c, d, h => by simp at h
  | x :: xs, 0, a, b, c, d, _ => by
    simp [R4.cells]
  | x :: xs, k + 1, a, b, c, d, h => by
    have ih := flat_set xs k a b c d (by simpa using h)
    have hl : x.cells.length = 4 := rfl
    simp only [List.set_cons_succ, List.map_cons, List.flatten_cons]
    rw [ih]
    rw [List.set_append_right _ _ (by rw [hl]; omega), List.set_append_right _ _ (by rw [hl]; omega), List.set_append_right _ _ (by rw [hl]; omega), List.set_append_right _ _ (by rw [hl]; omega), hl]
    rw [show (k + 1) * 4 - 4 = k * 4 by omega, show (k + 1) * 4 + 1 - 4 = k * 4 + 1 by omega, show (k + 1) * 4 + 2 - 4 = k * 4 + 2 by omega, show (k + 1) * 4 + 3 - 4 = k * 4 + 3 by omega]

theorem OwnR.set {w : World} {base g n cap : Nat} {xs : List R4} (h : OwnR w base (.slice (some ⟨g, 0, none⟩) n cap) xs) (k : Nat) (hk : k < xs.length) (a b c d : Int) :
    OwnR ((((w.setCell ⟨g, k * 4, none⟩ (.int .i64 a)).setCell ⟨g, k * 4 + 1, none⟩ (.int .i64 b)).setCell ⟨g, k * 4 + 2, none⟩ (.int .i64 c)).setCell ⟨g, k * 4 + 3, none⟩ (.int .i64 d)) base (.slice (some ⟨g, 0, none⟩) n cap) (xs.set k ⟨a, b, c, d⟩) := by
  obtain ⟨h0, h1⟩ := h
  rcases h1 with ⟨h2, _⟩ | ⟨g', cap', cur, hv, hb, hg, hn, hm, hs, ht⟩
  · cases h2
  · cases hv
    refine ⟨?_, .inr ⟨g, cap, (((cur.setIfInBounds (k * 4) (.int .i64 a)).setIfInBounds (k * 4 + 1) (.int .i64 b)).setIfInBounds (k * 4 + 2) (.int .i64 c)).setIfInBounds (k * 4 + 3) (.int .i64 d), ?_, hb, ?_, ?_, hm, ?_, ?_⟩⟩
    · rw [flat_set xs k a b c d hk]
      simp only [List.length_set, List.length_map] at h0 ⊢
      exact h0
    · simp only [List.length_map, List.length_set]
    · exact heap_setCell_same _ (heap_setCell_same _ (heap_setCell_same _ (heap_setCell_same _ hg)))
    · simpa using hn
    · simpa using hs
    · rw [flat_set xs k a b c d hk]
      simp only [Array.toList_setIfInBounds, List.take_set, List.length_map, List.length_set]
      rw [List.length_map] at ht
      rw [ht]
end Go.Proofs.YtbpkfpkhnkcgkaaDoorR
