/- A row of places of the call's own: appending three of them; reading. The conditions: sizes. -/
import Derived.Test.YtbpkfpkhnkcgkaaDoorRWA16
namespace Go.Proofs.YtbpkfpkhnkcgkaaDoorR
open Go.RowKit Go.BigFrame

def ptCells (x : Int × Int) : List Value := [.int .i64 x.1, .int .i64 x.2]
def OwnP (w : World) (base : Nat) (v : Value) (ps : List (Int × Int)) : Prop := OwnE w base 32 2 v (ps.map ptCells)
theorem infoPt : (Tryd.prog.info? 32).map (fun i => (i.zero, i.size, i.bytes)) = some (some (.agg #[.int .i64 0, .int .i64 0]), 2, 16) := by kernel_rfl

theorem wpList_append_pts {ops : Array Oper} {rest : List Oper} {o : Oper} {a : Act} {w : World} {Q : Exit → Act → World → Prop} (s x : Operand) (base : Nat) (v : Value) (ps : List (Int × Int)) (b : Nat) (x1 y1 x2 y2 x3 y3 : Int) (hown : OwnP w base v ps) (hlen : ps.length ≤ 1000) (hbase : base ≤ w.heap.size)
    (hb : w.heap[b]? = some (.cells #[.int .i64 x1, .int .i64 y1, .int .i64 x2, .int .i64 y2, .int .i64 x3, .int .i64 y3] 32 (0, 0)))
    (hgd : o.guard = none) (ho : o.op = .call { callee := .builtin .append, args := #[s, x], argTypes := #[33, 33] }) (hs : a.eval s = v) (hx : a.eval x = .slice (some ⟨b, 0, none⟩) 3 3)
    (h : ∀ v' w', OwnP w' base v' (ps ++ [(x1, y1), (x2, y2), (x3, y3)]) → w.grownBy w' v.ownBlock → wpList Tryd.prog ops Q rest (a.put o.dst v') w') : wpList Tryd.prog ops Q (o :: rest) a w := by
  obtain ⟨i, i1, i2, i3, i4⟩ := info_parts infoPt
  have hown' := hown
  unfold OwnP OwnE at hown'
  refine wpList_append_own w hgd s x 33 ho base 32 i _ 2 16 (by kernel_rfl) i1 i2 i3 i4 rfl (by decide) v _ _ hs hown' ⟨b, 0, none⟩ 3 3 [.int .i64 x1, .int .i64 y1, .int .i64 x2, .int .i64 y2, .int .i64 x3, .int .i64 y3] hx rfl ?_ ?_ (by rw [List.length_map]; unfold maxLen; omega) (by rw [List.length_map]; omega) hbase ?_
  · intro j u hj
    have ea : (⟨b, 0, none⟩ : Addr).add j = ⟨b, 0 + j, none⟩ := by
      unfold Addr.add
      split
      · rename_i hj0; subst hj0; rfl
      · rfl
    rw [ea, cell_of_row w _ (0 + j) _ _ _ hb, Nat.zero_add, List.getElem?_toArray]
    exact hj
  · intro u hu
    simp only [List.mem_cons, List.not_mem_nil, or_false] at hu
    rcases hu with rfl | rfl | rfl | rfl | rfl | rfl <;> rfl
  · intro v' w' h1 h2 _
    refine h v' w' ?_ h2
    unfold OwnP OwnE
    rw [List.map_append, List.length_append, List.flatten_append]
    simpa [ptCells] using h1

theorem OwnP.lit {w : World} {b base : Nat} {x1 y1 x2 y2 : Int} (h : w.heap[b]? = some (.cells #[.int .i64 x1, .int .i64 y1, .int .i64 x2, .int .i64 y2] 32 (0, 0))) (hb : base ≤ b) : OwnP w base (.slice (some ⟨b, 0, none⟩) 2 2) [(x1, y1), (x2, y2)] :=
  ⟨rfl, .inr ⟨b, 2, _, rfl, hb, h, Nat.le_refl _, by decide, rfl, rfl⟩⟩

theorem OwnP.opened {w : World} {base : Nat} {v : Value} {ps : List (Int × Int)} (h : OwnP w base v ps) : ∃ a cap, v = .slice a ps.length cap ∧ cap ≤ maxLen ∧ ps.length ≤ cap ∧
    ∀ k p, ps[k]? = some p → ∃ b off, a = some ⟨b, off, none⟩ ∧ b < w.heap.size ∧ w.cell? ⟨b, off + k * 2, none⟩ = some (.int .i64 p.1) ∧ w.cell? ⟨b, off + k * 2 + 1, none⟩ = some (.int .i64 p.2) := by
  have hs : SliceAt w v 2 (ps.map ptCells) := by
    refine SliceAt.of_owns (base := base) (e := 32) h ?_
    intro c hc
    rw [List.mem_map] at hc
    obtain ⟨x, _, rfl⟩ := hc
    rfl
  obtain ⟨a, cap, hv, h1, h2, h3⟩ := hs
  rw [List.length_map] at hv h1
  refine ⟨a, cap, hv, h2, h1, fun k p hk => ?_⟩
  rcases h3 with h3 | ⟨b, off, ha, hb, hc⟩
  · simp at h3; subst h3; simp at hk
  · refine ⟨b, off, ha, hb, ?_⟩
    have hk' : (ps.map ptCells)[k]? = some (ptCells p) := by rw [List.getElem?_map, hk]; rfl
    exact ⟨hc k _ hk' 0 _ rfl, hc k _ hk' 1 _ rfl⟩
end Go.Proofs.YtbpkfpkhnkcgkaaDoorR
