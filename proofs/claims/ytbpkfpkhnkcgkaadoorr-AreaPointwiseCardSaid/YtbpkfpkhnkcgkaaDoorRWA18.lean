/- The walk of the reference's Rects. The condition: the grid is given cell by cell. -/
import Derived.Test.YtbpkfpkhnkcgkaaDoorRWA17
import Derived.Test.YtbpkfpkhnkcgkaaDoorRPA1
import Derived.Deep.MidRow
namespace Go.Proofs.YtbpkfpkhnkcgkaaDoorR
open Go.RowKit Go.BigFrame

/-- A reference grid, cell by cell. -/
def pcells (p : Nat → Nat → Bool) : Array Value := ((List.range 4096).map fun i => Value.bool (p (i / 64) (i % 64))).toArray
theorem pcells_size (p : Nat → Nat → Bool) : (pcells p).size = 4096 := by simp [pcells]
theorem pcells_get (p : Nat → Nat → Bool) (i : Nat) (h : i < 4096) : (pcells p)[i]? = some (.bool (p (i / 64) (i % 64))) := by simp [pcells, h]
theorem pcells_at (p : Nat → Nat → Bool) (y x : Nat) (hy : y < 64) (hx : x < 64) : (pcells p)[y * 64 + x]? = some (.bool (p y x)) := by
  rw [pcells_get p _ (by omega)]
  congr 3
  · omega
  · omega
theorem row_range {w : World} {b : Nat} {p : Nat → Nat → Bool} {t : TypeId} {fr : Nat × Nat} (h : w.heap[b]? = some (.cells (pcells p) t fr)) (y : Nat) (hy : y < 64) : w.rangeAt b (y * 64) (bcells (p y)).toList := by
  intro j v hj
  have hj64 : j < 64 := by
    rcases Nat.lt_or_ge j 64 with h' | h'
    · exact h'
    · rw [List.getElem?_eq_none (by rw [Array.length_toList, bcells_size]; exact h')] at hj; cases hj
  rw [Array.getElem?_toList, bcells_get _ _ hj64] at hj
  rw [cell_of_row w _ _ _ _ _ h, pcells_at p y j hy hj64]
  exact hj

theorem infoA2s : (Tryd.prog.info? 33).map (fun i => (i.zero, i.size, i.bytes)) = some (some (.slice none 0 0), 1, 24) := by kernel_rfl
def vl (vs : List Value) : List (List Value) := vs.map fun v => [v]

theorem wpList_append_row {ops : Array Oper} {rest : List Oper} {o : Oper} {a : Act} {w : World} {Q : Exit → Act → World → Prop} (s x : Operand) (base : Nat) (v : Value) (vs : List Value) (b : Nat) (u : Value) (hown : OwnE w base 33 1 v (vl vs)) (hlen : vs.length ≤ 100000) (hbase : base ≤ w.heap.size) (hu : u.oneCell' = true)
    (hb : w.heap[b]? = some (.cells #[u] 33 (0, 0)))
    (hgd : o.guard = none) (ho : o.op = .call { callee := .builtin .append, args := #[s, x], argTypes := #[70, 70] }) (hs : a.eval s = v) (hx : a.eval x = .slice (some ⟨b, 0, none⟩) 1 1)
    (h : ∀ v' w', OwnE w' base 33 1 v' (vl (vs ++ [u])) → w.grownBy w' v.ownBlock → wpList Tryd.prog ops Q rest (a.put o.dst v') w') : wpList Tryd.prog ops Q (o :: rest) a w :=
  wpList_append_el 70 33 1 24 _ (by kernel_rfl) infoA2s rfl (by decide) hgd s x ho base v (vl vs) hs hown b [u] rfl (by intro z hz; rw [List.mem_singleton] at hz; subst hz; exact hu) hx (0, 0) hb
    (by unfold vl; rw [List.length_map]; unfold maxLen; omega) (by unfold vl; rw [List.length_map]; omega) hbase fun v' w' h1 h2 => h v' w' (by unfold vl; rw [List.map_append]; exact h1) h2

theorem OwnE.weaken {w : World} {base base' : Nat} {e : TypeId} {size : Nat} {v : Value} {css : List (List Value)} (h : OwnE w base e size v css) (hb : base' ≤ base) : OwnE w base' e size v css := by
  obtain ⟨h1, h2⟩ := h
  refine ⟨h1, ?_⟩
  rcases h2 with h2 | ⟨g, cap, cur, k1, k2, k3⟩
  · exact .inl h2
  · exact .inr ⟨g, cap, cur, k1, by omega, k3⟩
theorem OwnE.apart {w w' : World} {base base' : Nat} {e e' : TypeId} {size size' : Nat} {v v' : Value} {css css' : List (List Value)} (h : OwnE w base e size v css) (ho : OwnE w base' e' size' v' css') (hne : e ≠ e') (hg : w.grownBy w' v'.ownBlock) : OwnE w' base e size v css := by
  refine h.kept hg ?_
  rcases h.2 with ⟨rfl, _⟩ | ⟨g, cap, cur, rfl, _, hgc, _⟩
  · exact .inl rfl
  · right
    intro eq
    rcases ho.2 with ⟨rfl, _⟩ | ⟨g', cap', cur', rfl, _, hgc', _⟩
    · simp [Value.ownBlock] at eq
    · have : g = g' := by simpa [Value.ownBlock] using eq
      subst this
      rw [hgc] at hgc'
      cases hgc'
      exact hne rfl
theorem slice_one {w : World} {base : Nat} {e : TypeId} {size : Nat} {v : Value} {css : List (List Value)} (h : OwnE w base e size v css) : v.oneCell' = true := by
  obtain ⟨a, k, c, rfl⟩ := owns_slice h
  rfl
theorem rows_open {w : World} {v : Value} {vs : List Value} (h : SliceAt w v 1 (vl vs)) : ∃ a cap, v = .slice a vs.length cap ∧ vs.length ≤ cap ∧ cap ≤ maxLen ∧
    ∀ k u, vs[k]? = some u → ∃ b off, a = some ⟨b, off, none⟩ ∧ b < w.heap.size ∧ w.cell? ⟨b, off + k, none⟩ = some u := by
  obtain ⟨a, cap, hv, h1, h2, h3⟩ := h
  unfold vl at hv h1 h3
  rw [List.length_map] at hv h1
  refine ⟨a, cap, hv, h1, h2, fun k u hu => ?_⟩
  rcases h3 with h3 | ⟨b, off, ha, hb, hc⟩
  · simp at h3; subst h3; simp at hu
  · refine ⟨b, off, ha, hb, ?_⟩
    have hk : (vs.map fun v => [v])[k]? = some [u] := by rw [List.getElem?_map, hu]; rfl
    have := hc k _ hk 0 _ rfl
    simpa using this
theorem rows_own {w : World} {base : Nat} {e : TypeId} {v : Value} {vs : List Value} (h : OwnE w base e 1 v (vl vs)) : SliceAt w v 1 (vl vs) := by
  refine SliceAt.of_owns (base := base) (e := e) h ?_
  intro c hc
  unfold vl at hc
  rw [List.mem_map] at hc
  obtain ⟨x, _, rfl⟩ := hc
  rfl

/-- The rows' lists so far. -/
def RowsAt (w : World) (base : Nat) (p : Nat → Nat → Bool) (vs : List Value) : Prop := ∀ y u, vs[y]? = some u → OwnE w base 32 2 u (ivl (ivs (p y)))

theorem hasL_iv (row : Nat → Bool) (l r : Nat) (h : l < r) (h2 : r ≤ 64) : hasL (ivs row) l r = isIv row l r := by
  rw [Bool.eq_iff_iff]
  unfold hasL
  rw [List.any_eq_true]
  constructor
  · rintro ⟨x, hx, he⟩
    rw [decide_eq_true_eq] at he
    subst he
    exact ((mem_ivs _ _ _).1 hx).2.2
  · intro hi
    exact ⟨(l, r), (mem_ivs _ _ _).2 ⟨h, h2, hi⟩, by simp⟩

/-- What the rows read as once all are there. -/
def Rows (w : World) (p : Nat → Nat → Bool) (vr : Value) : Prop := ∃ vs : List Value, vs.length = 64 ∧ SliceAt w vr 1 (vl vs) ∧ ∀ y u, vs[y]? = some u → SliceAt w u 2 (ivl (ivs (p y)))


theorem rectsUpto_len (p : Nat → Nat → Bool) : ∀ k, (rectsUpto p k).length ≤ k * 64
  | 0 => by simp [rectsUpto]
  | k + 1 => by
    rw [rectsUpto_succ, List.length_append]
    have h1 := rectsUpto_len p k
    have h2 : (rowRects p k).length ≤ 64 := Nat.le_trans (List.length_filterMap_le _ _) (ivsUpto_len _ 64)
    omega
theorem len_ok (p : Nat → Nat → Bool) (k j : Nat) (hk : k < 64) : (rectsUpto p k ++ ((ivs (p k)).take j).filterMap (rectOf p k)).length ≤ 100000 := by
  rw [List.length_append]
  have h1 := rectsUpto_len p k
  have h2 : (((ivs (p k)).take j).filterMap (rectOf p k)).length ≤ 64 := by
    refine Nat.le_trans (List.length_filterMap_le _ _) ?_
    rw [List.length_take]
    have := ivsUpto_len (p k) 64
    unfold ivs
    omega
  omega
end Go.Proofs.YtbpkfpkhnkcgkaaDoorR
