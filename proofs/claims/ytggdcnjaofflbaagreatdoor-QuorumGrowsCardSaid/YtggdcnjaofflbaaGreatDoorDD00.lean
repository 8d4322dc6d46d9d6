/- Append at votes: of one, where the row comes to lie; of a whole slice. The conditions: what the rows hold, lengths. -/
import Derived.Deep.AppendLies
import Derived.Deep.Upon
import Derived.Test.YtggdcnjaofflbaaGreatDoorC13
import Derived.Deep.DeepCutAuto
import Derived.Deep.CutBlock
import Derived.Test.YtggdcnjaofflbaaGreatDoorC20
import Derived.Test.YtggdcnjaofflbaaGreatDoorC21
import Derived.Test.YtggdcnjaofflbaaGreatDoorC19
namespace Go.Proofs.YtggdcnjaofflbaaGreatDoor
open Go.RowKit Go.BigFrame

theorem flat_get : ∀ (m : List VoteP) (j : Nat) (u : Value), (m.map vcells).flatten[j]? = some u → ∃ k i v, m[k]? = some v ∧ (vcells v)[i]? = some u ∧ j = k * 5 + i
  | [], j, u, h => by simp at h
  | v :: m, j, u, h => by
    rw [List.map_cons, List.flatten_cons] at h
    have h5 : (vcells v).length = 5 := rfl
    rcases Nat.lt_or_ge j 5 with hj | hj
    · rw [List.getElem?_append_left (by omega)] at h
      exact ⟨0, j, v, rfl, h, by omega⟩
    · rw [List.getElem?_append_right (by omega), h5] at h
      obtain ⟨k, i, v', h1, h2, h3⟩ := flat_get m (j - 5) u h
      exact ⟨k + 1, i, v', h1, h2, by rw [Nat.succ_mul]; omega⟩
theorem flat_len : ∀ m : List VoteP, (m.map vcells).flatten.length = m.length * 5
  | [] => rfl
  | v :: m => by
    rw [List.map_cons, List.flatten_cons, List.length_append, flat_len m, List.length_cons, Nat.succ_mul]
    have h5 : (vcells v).length = 5 := rfl
    omega
section
variable {ops : Array Oper} {rest : List Oper} {o : Oper} {a : Act} {w : World} {Q : Exit → Act → World → Prop}
theorem wpList_append_votes (s x : Operand) (base : Nat) (v : Value) (l m : List VoteP) (vy : Value) (hown : OwnV w base v l) (hy : VS w vy m) (hlen : l.length + m.length ≤ 1000000) (hbase : base ≤ w.heap.size)
    (hgd : o.guard = none) (ho : o.op = .call { callee := .builtin .append, args := #[s, x], argTypes := #[35, 35] }) (hs : a.eval s = v) (hx : a.eval x = vy)
    (h : ∀ v' w', OwnV w' base v' (l ++ m) → w.grownBy w' v.ownBlock → wpList Tryz.prog ops Q rest (a.put o.dst v') w') : wpList Tryz.prog ops Q (o :: rest) a w := by
  obtain ⟨i, i1, i2, i3, i4⟩ := info_parts infoVote3
  have hlv : (l.map vcells).length = l.length := List.length_map ..
  obtain ⟨ad, cap, rfl, _, _, hc⟩ := hy.opened
  rcases Nat.eq_zero_or_pos m.length with h0 | h0
  · have hm : m = [] := List.eq_nil_of_length_eq_zero h0
    subst hm
    obtain ⟨va, vc, hv, hle⟩ : ∃ va vc, v = .slice va l.length vc ∧ l.length ≤ vc := by
      rcases hown.2 with ⟨e1, e2⟩ | ⟨g, c, cur, e1, _, _, e4, _⟩
      · rw [hlv] at e2
        exact ⟨none, 0, by rw [e1, e2], by omega⟩
      · rw [hlv] at e1 e4
        exact ⟨_, _, e1, e4⟩
    subst hv
    have hsrc : Src Tryz.prog i.size 35 (.slice ad ([] : List VoteP).length cap) 0 [] w := by
      rw [List.length_nil]
      cases ad with
      | none => exact Src.ofNil w (e' := 27) (by kernel_rfl) cap
      | some ad => exact Src.ofSlice w (e' := 27) (by kernel_rfl) ad 0 cap [] (by simp) (by simp) (by simp)
    refine wpList_run hgd ?_ (h _ w (by rw [List.append_nil]; exact hown) (grown_refl _ _))
    have hr := run_append_nothing w 35 35 o.type 27 i (by kernel_rfl) i1 va l.length vc hle _ hsrc
    unfold execOp
    simp only [ho, resolve, invoke, builtin, Sem.run_bind, Sem.run_pure, Result.andThen_ok, List.map_toArray, List.map_cons, List.map_nil, hs, hx, hr]
  · obtain ⟨b, off, rfl, hb, _⟩ := hc 0 _ (List.getElem?_eq_getElem h0)
    refine wpList_append_own w hgd s x 35 ho base 27 i _ 5 56 (by kernel_rfl) i1 i2 i3 i4 rfl (by decide) v _ _ hs hown ⟨b, off, none⟩ m.length cap (m.map vcells).flatten hx ?_ ?_ ?_ (by rw [hlv]; unfold maxLen; omega) (by rw [hlv]; omega) hbase ?_
    · exact flat_len m
    · intro j u hj
      obtain ⟨k, i', y, hk, hi', rfl⟩ := flat_get m j u hj
      obtain ⟨b', o', e, _, c0, c1, c2, c3, c4⟩ := hc k y hk
      cases e
      rw [Addr.add_mid, ← Nat.add_assoc]
      match i', hi' with
      | 0, hi' => cases hi'; exact c0
      | 1, hi' => cases hi'; exact c1
      | 2, hi' => cases hi'; exact c2
      | 3, hi' => cases hi'; exact c3
      | 4, hi' => cases hi'; exact c4
    · intro u hu
      obtain ⟨c, hc1, hu⟩ := List.mem_flatten.1 hu
      obtain ⟨y, _, rfl⟩ := List.mem_map.1 hc1
      simp only [vcells, List.mem_cons, List.not_mem_nil, or_false] at hu
      rcases hu with rfl | rfl | rfl | rfl | rfl <;> rfl
    · intro v' w' h1 h2 _
      refine h v' w' ?_ h2
      unfold OwnV OwnE
      rw [List.map_append, List.length_append, List.flatten_append, hlv, List.length_map]
      rw [hlv] at h1
      exact h1
theorem wpList_append_votesK (s x : Operand) (base : Nat) (v : Value) (l m : List VoteP) (vy : Value) (hown : OwnV w base v l) (hy : VS w vy m) (hlen : l.length + m.length ≤ 1000000) (hbase : base ≤ w.heap.size)
    (hgd : o.guard = none) (ho : o.op = .call { callee := .builtin .append, args := #[s, x], argTypes := #[35, 35] }) (hs : a.eval s = v) (hx : a.eval x = vy)
    (h : ∀ v' w', OwnV w' base v' (l ++ m) → w.grownBy w' v.ownBlock → VS w' v l → wpList Tryz.prog ops Q rest (a.put o.dst v') w') : wpList Tryz.prog ops Q (o :: rest) a w := by
  obtain ⟨i, i1, i2, i3, i4⟩ := info_parts infoVote3
  have hlv : (l.map vcells).length = l.length := List.length_map ..
  rcases Nat.eq_zero_or_pos m.length with h0 | h0
  · have hm : m = [] := List.eq_nil_of_length_eq_zero h0
    subst hm
    obtain ⟨ad, cap, rfl, _, _, hc⟩ := hy.opened
    obtain ⟨va, vc, hv, hle⟩ : ∃ va vc, v = .slice va l.length vc ∧ l.length ≤ vc := by
      rcases hown.2 with ⟨e1, e2⟩ | ⟨g, c, cur, e1, _, _, e4, _⟩
      · rw [hlv] at e2
        exact ⟨none, 0, by rw [e1, e2], by omega⟩
      · rw [hlv] at e1 e4
        exact ⟨_, _, e1, e4⟩
    subst hv
    have hsrc : Src Tryz.prog i.size 35 (.slice ad ([] : List VoteP).length cap) 0 [] w := by
      rw [List.length_nil]
      cases ad with
      | none => exact Src.ofNil w (e' := 27) (by kernel_rfl) cap
      | some ad => exact Src.ofSlice w (e' := 27) (by kernel_rfl) ad 0 cap [] (by simp) (by simp) (by simp)
    refine wpList_run hgd ?_ (h _ w (by rw [List.append_nil]; exact hown) (grown_refl _ _) hown.vs)
    have hr := run_append_nothing w 35 35 o.type 27 i (by kernel_rfl) i1 va l.length vc hle _ hsrc
    unfold execOp
    simp only [ho, resolve, invoke, builtin, Sem.run_bind, Sem.run_pure, Result.andThen_ok, List.map_toArray, List.map_cons, List.map_nil, hs, hx, hr]
  · obtain ⟨ad, cap, rfl, _, _, hc⟩ := hy.opened
    obtain ⟨b, off, rfl, hb, _⟩ := hc 0 _ (List.getElem?_eq_getElem h0)
    have hnews : ∀ j u, (m.map vcells).flatten[j]? = some u → w.cell? ((⟨b, off, none⟩ : Addr).add j) = some u := by
      intro j u hj
      obtain ⟨k, i', y, hk, hi', rfl⟩ := flat_get m j u hj
      obtain ⟨b', o', e, _, c0, c1, c2, c3, c4⟩ := hc k y hk
      cases e
      rw [Addr.add_mid, ← Nat.add_assoc]
      match i', hi' with
      | 0, hi' => cases hi'; exact c0
      | 1, hi' => cases hi'; exact c1
      | 2, hi' => cases hi'; exact c2
      | 3, hi' => cases hi'; exact c3
      | 4, hi' => cases hi'; exact c4
    have hone : ∀ u ∈ (m.map vcells).flatten, u.oneCell' = true := by
      intro u hu
      obtain ⟨c, hc1, hu⟩ := List.mem_flatten.1 hu
      obtain ⟨y, _, rfl⟩ := List.mem_map.1 hc1
      simp only [vcells, List.mem_cons, List.not_mem_nil, or_false] at hu
      rcases hu with rfl | rfl | rfl | rfl | rfl <;> rfl
    obtain ⟨v', w', hr, h2, h3, _⟩ := run_append_own (P := Tryz.prog) w base 35 o.type 27 i _ 5 56 (by kernel_rfl) i1 i2 i3 i4 rfl (by decide) v _ _ hown ⟨b, off, none⟩ m.length cap (m.map vcells).flatten (flat_len m) hnews hone (by rw [hlv]; unfold maxLen; omega) (by rw [hlv]; omega) hbase
    refine wpList_run hgd ?_ (h v' w' ?_ h3 ?_)
    · unfold execOp
      simp only [ho, resolve, invoke, builtin, Sem.run_bind, Sem.run_pure, Result.andThen_ok, List.map_toArray, List.map_cons, List.map_nil, hs, hx, hr]
    · unfold OwnV OwnE
      rw [List.map_append, List.length_append, List.flatten_append, hlv, List.length_map]
      rw [hlv] at h2
      exact h2
    · -- what the row was
      have hvs := hown.vs
      rcases hown.2 with ⟨e1, e2⟩ | ⟨g, c, cur, e1, e2, e3, e4, e5, e6, e7⟩
      · rw [hlv] at e2
        have : l = [] := List.eq_nil_of_length_eq_zero e2
        subst this
        rw [e1]
        exact VS.nil _
      · rw [hlv] at e1 e4 e7
        subst e1
        have hcame : Came w 5 (some ⟨g, 0, none⟩) g 0 l.length c (l.map vcells).flatten := by
          refine ⟨e4, fun _ => rfl, fun _ => (Array.getElem?_eq_some_iff.1 e3).1, flat_len l, fun j u hj => ?_, fun j hj => ?_⟩
          · have h5 := World.ownsRow.cells (g := g) hown rfl j u hj
            rw [Addr.add_mid] at h5
            exact h5
          · have h6 := cell_of_row w g (0 + l.length * 5 + j) _ _ _ e3
            have hlt : 0 + l.length * 5 + j < cur.size := by
              rw [e6]
              have : (c - l.length) * 5 = c * 5 - l.length * 5 := Nat.sub_mul ..
              omega
            refine ⟨by rw [h6, Array.getElem?_eq_getElem hlt]; rfl, ?_⟩
            unfold World.frozen?
            rw [e3]
            simp
        obtain ⟨v2, w2, hr2, hu⟩ := run_append_upon (P := Tryz.prog) hcame 35 35 o.type i _ 56 (by kernel_rfl) i1 i2 i3 i4 rfl (Upon.start hcame) (.slice (some ⟨b, off, none⟩) m.length cap) m.length (m.map vcells).flatten (Src.ofSlice w (e' := 27) (by kernel_rfl) ⟨b, off, none⟩ m.length cap _ (flat_len m) hnews hone) (by unfold maxLen; omega) (by omega)
        rw [hr] at hr2
        injection hr2 with hr3 hr4
        subst hr3 hr4
        obtain ⟨a', c', he, hl1, hl2, hl3⟩ := hvs
        rw [List.length_map] at he hl1
        injection he with he1 _ he3
        subst he1 he3
        refine ⟨_, _, by rw [List.length_map], by rw [List.length_map]; exact hl1, hl2, ?_⟩
        rcases hl3 with hl3 | ⟨b2, o2, hb2, hb3, hcell⟩
        · exact .inl hl3
        · right
          cases hb2
          refine ⟨g, 0, rfl, Nat.lt_of_lt_of_le hb3 h3.size, fun k cs hk j u hj => ?_⟩
          have hkl : k < l.length := by
            have := (List.getElem?_eq_some_iff.1 hk).1
            rwa [List.length_map] at this
          have hj5 : j < 5 := by
            have h7 := vcells_len l cs (List.mem_of_getElem? hk)
            have := (List.getElem?_eq_some_iff.1 hj).1
            omega
          rw [hu.old hb3 (fun j' _ ⟨_, e'⟩ => by omega)]
          exact hcell k cs hk j u hj
end
end Go.Proofs.YtggdcnjaofflbaaGreatDoor

/- Walk of the law: QuorumSuffices. The conditions: what the row holds, the tables of constants. -/
namespace Go.Proofs.YtggdcnjaofflbaaGreatDoor
open Go.RowKit Go.BigFrame

def honA (H : List Nat) : Array Value := ((List.range 8).map fun j => Value.bool (decide (j ∈ H))).toArray
theorem honA_get (H : List Nat) {j : Nat} (h : j < 8) : (honA H)[j]? = some (.bool (decide (j ∈ H))) := by
  unfold honA
  rw [List.getElem?_toArray, List.getElem?_map, List.getElem?_range h]
  rfl
theorem honA_set (H : List Nat) (j : Nat) : (honA H).setIfInBounds j (.bool true) = honA (H ++ [j]) := by
  refine Array.ext_getElem? fun i => ?_
  rw [Array.getElem?_setIfInBounds]
  have hs : ∀ H, (honA H).size = 8 := fun H => by unfold honA; simp
  rcases Nat.lt_or_ge i 8 with hi | hi
  · rw [honA_get _ hi, honA_get _ hi]
    by_cases e : j = i
    · subst e
      rw [if_pos rfl, if_pos (by rw [hs]; exact hi)]
      simp
    · rw [if_neg e]
      have : i ≠ j := fun e' => e e'.symm
      simp [this]
  · rw [Array.getElem?_eq_none (by rw [hs]; exact hi), Array.getElem?_eq_none (by rw [hs]; exact hi)]
    split
    · rename_i e
      rw [if_neg (by rw [hs]; omega)]
    · rfl
def SuAt (w0 : World) (A : Array Value) (v : Value) (l : List VoteP) (W : World) : Prop := Below w0.heap.size w0 W ∧ W.heap[w0.heap.size]? = some (.cells A 4 (0, 0)) ∧ OwnV W (w0.heap.size + 1) v l
theorem SuAt.far {w0 : World} {A : Array Value} {v : Value} {l : List VoteP} {W W' : World} (h : SuAt w0 A v l W) (hb : Below W.heap.size W W') : SuAt w0 A v l W' :=
  ⟨q_next h.1 hb, (hb.block _ (Array.getElem?_eq_some_iff.1 h.2.1).1).trans h.2.1, OwnE.far h.2.2 hb (Nat.le_refl _)⟩
theorem SuAt.set {w0 : World} {H : List Nat} {v : Value} {l : List VoteP} {W : World} (h : SuAt w0 (honA H) v l W) (j : Nat) : SuAt w0 (honA (H ++ [j])) v l (W.setCell ⟨w0.heap.size, j, none⟩ (.bool true)) := by
  refine ⟨h.1.setCell (p := ⟨w0.heap.size, j, none⟩) (Nat.le_refl _) _, ?_, OwnE.grownT h.2.2 h.2.1 (fun c e => by cases e) (grown_setCell (grown_refl _ _) ⟨w0.heap.size, j, none⟩ (.inl rfl) _)⟩
  rw [← honA_set]
  exact heap_setCell_same (i := j) _ h.2.1
theorem SuAt.row {w0 : World} {A : Array Value} {v v' : Value} {l l' : List VoteP} {W W' : World} (h : SuAt w0 A v l W) {o : Obj} (hg : (W.alloc o).grownBy W' v.ownBlock) (ho : OwnV W' (w0.heap.size + 1) v' l') : SuAt w0 A v' l' W' := by
  have hs := (Array.getElem?_eq_some_iff.1 h.2.1).1
  refine ⟨(h.1.alloc h.1.size o).grown hg (by simp; omega) (fun j e => by have := OwnE.ge h.2.2 j e; omega), ?_, ho⟩
  refine (hg.block _ (by simp; omega) (fun e => ?_)).trans (alloc_at h.2.1)
  have := OwnE.ge h.2.2 _ e.symm
  omega
def KeepBut (g0 : Nat) (wq wr : World) : Prop := wq.heap.size ≤ wr.heap.size ∧ ∀ b, b < wq.heap.size → b ≠ g0 → wr.heap[b]? = wq.heap[b]?
theorem KeepBut.refl (g0 : Nat) (w : World) : KeepBut g0 w w := ⟨Nat.le_refl _, fun _ _ _ => rfl⟩
theorem KeepBut.far {g0 : Nat} {wq wr w' : World} (h : KeepBut g0 wq wr) (hb : Below wr.heap.size wr w') : KeepBut g0 wq w' :=
  ⟨Nat.le_trans h.1 hb.size, fun b h1 h2 => (hb.block b (Nat.lt_of_lt_of_le h1 h.1)).trans (h.2 b h1 h2)⟩
theorem KeepBut.row {g0 : Nat} {wq W W' : World} (h : KeepBut g0 wq W) {o : Obj} {g : Nat} (hg : (W.alloc o).grownBy W' (some g)) (hgg : g = g0 ∨ wq.heap.size ≤ g) : KeepBut g0 wq W' := by
  have hs := hg.size
  simp at hs
  refine ⟨by have := h.1; omega, fun b h1 h2 => ?_⟩
  have hb : b < W.heap.size := Nat.lt_of_lt_of_le h1 h.1
  exact (hg.block b (by simp; omega) (fun e => by have := Option.some.inj e; omega)).trans ((Below.heap_alloc _ _ _ hb).trans (h.2 b h1 h2))
end Go.Proofs.YtggdcnjaofflbaaGreatDoor
