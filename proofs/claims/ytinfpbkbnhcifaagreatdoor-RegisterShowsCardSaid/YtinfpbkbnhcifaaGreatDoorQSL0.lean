/- What RegisterShows keeps of a part whose items' proofs are exchanged. The conditions: what the blocks hold. -/
import Derived.Test.YtinfpbkbnhcifaaGreatDoorQLW3
namespace Go.Proofs.YtinfpbkbnhcifaaGreatDoor
open Go.RowKit Go.BigFrame

theorem three_cells {W : World} {b : Nat} {c0 c1 c2 : Value} {T : TypeId} (h : W.heap[b]? = some (.cells #[c0, c1, c2] T (0, 0))) : W.cell? ⟨b, 0, none⟩ = some c0 ∧ W.cell? ⟨b, 1, none⟩ = some c1 ∧ W.cell? ⟨b, 2, none⟩ = some c2 :=
  ⟨cell_of_row W _ 0 _ _ _ h, cell_of_row W _ 1 _ _ _ h, cell_of_row W _ 2 _ _ _ h⟩
theorem itflat_prf : ∀ (ys : List (ItemP × Value)) (k : Nat) (y z : ItemP × Value), ys[k]? = some y → z.1.idx = y.1.idx → z.1.ent = y.1.ent → (itcells (ys.set k z)).flatten = (itcells ys).flatten.set (k * 3 + 2) z.2
  | [], k, y, z, h, _, _ => by simp at h
  | x :: ys, 0, y, z, h, h1, h2 => by
    simp at h
    subst h
    simp [itcells, h1, h2]
  | x :: ys, k + 1, y, z, h, h1, h2 => by
    have ih := itflat_prf ys k y z (by simpa using h) h1 h2
    have e : ∀ l : List (ItemP × Value), (itcells (x :: l)).flatten = [.int .i64 x.1.idx, .string x.1.ent, x.2] ++ (itcells l).flatten := fun l => rfl
    simp only [List.set_cons_succ, e]
    rw [ih, List.set_append_right _ _ (by simp; omega)]
    congr 2
    show k * 3 + 2 = (k + 1) * 3 + 2 - 3
    omega
/-- A part in a box, its items in an own row. -/
def TurnAt (w : World) (B : Nat) (W : World) (b : Nat) (hd : HeadP) (v : Value) (ys : List (ItemP × Value)) : Prop :=
  Below w.heap.size w W ∧ W.heap[b]? = some (.cells #[.int .i64 hd.car, .int .i64 hd.siz, .string hd.root, .string hd.sl, v] 38 (0, 0)) ∧ OwnE W B 53 3 v (itcells ys) ∧ (∀ y ∈ ys, SS W y.2 y.1.prf ∧ RowTy W 9 y.2) ∧ w.heap.size ≤ b ∧ w.heap.size ≤ B
theorem TurnAt.far {w W W' : World} {B b : Nat} {hd : HeadP} {v : Value} {ys : List (ItemP × Value)} (h : TurnAt w B W b hd v ys) (hb : Below W.heap.size W W') : TurnAt w B W' b hd v ys := by
  obtain ⟨h1, h4, h5, h6, h7, h8⟩ := h
  exact ⟨below_next h1 hb, kept_block h4 hb, OwnE.far h5 hb (Nat.le_refl _), fun y hy => ⟨(h6 y hy).1.below hb, (h6 y hy).2.below hb⟩, h7, h8⟩
theorem TurnAt.is {w W : World} {B b : Nat} {hd : HeadP} {v : Value} {ys : List (ItemP × Value)} (h : TurnAt w B W b hd v ys) : ISt W v ys :=
  ⟨⟨h.2.2.1.slice (itcells_three ys), fun y hy => (h.2.2.2.1 y hy).1⟩, rowTy_own h.2.2.1, fun y hy => (h.2.2.2.1 y hy).2⟩
theorem TurnAt.prf {w W : World} {B b g n c : Nat} {hd : HeadP} {ys : List (ItemP × Value)} (h : TurnAt w B W b hd (.slice (some ⟨g, 0, none⟩) n c) ys) (k : Nat) (y : ItemP × Value) (hk : ys[k]? = some y) (x : Value) (zs : List ByteArray) (hz : SS W x zs) (hx : RowTy W 9 x) :
    TurnAt w B (W.setCell ⟨g, k * 3 + 2, none⟩ x) b hd (.slice (some ⟨g, 0, none⟩) n c) (ys.set k ({ y.1 with prf := zs }, x)) := by
  obtain ⟨h1, h4, h5, h6, h7, h8⟩ := h
  obtain ⟨hBg, cur, hgr⟩ := own_block h5
  have hn : (itcells ys).length = n := by
    rcases h5.2 with ⟨e, _⟩ | ⟨g', cap, cur, e, _⟩
    · cases e
    · injection e with _ e _; exact e.symm
  have h5' := h5
  unfold OwnE at h5'
  rw [hn] at h5'
  obtain ⟨o1, hg⟩ := World.ownsRow.stored h5' (k * 3 + 2) x
  have hbg : b ≠ g := fun e => by
    subst e
    rw [h4] at hgr
    cases hgr
  have hne : ∀ k', some g = some k' → ∀ cs fr, W.heap[k']? ≠ some (.cells cs 9 fr) := fun k' e cs fr e' => by
    cases e
    rw [hgr] at e'
    cases e'
  refine ⟨h1.setCell (p := ⟨g, k * 3 + 2, none⟩) (by show w.heap.size ≤ g; omega) x, (Below.heap_setCell _ _ _ _ hbg).trans h4, ?_, fun y' hy' => ?_, h7, h8⟩
  · unfold OwnE
    rw [itflat_prf ys k y ({ y.1 with prf := zs }, x) hk rfl rfl, itcells_len, List.length_set, ← itcells_len ys, hn]
    exact o1
  · rcases mem_set_of hy' with rfl | hy'
    · exact hz.grownT hx hg hne
    · exact (h6 y' hy').1.grownT (h6 y' hy').2 hg hne
theorem TurnAt.free {w W : World} {B b g n c : Nat} {hd : HeadP} {ys : List (ItemP × Value)} (h : TurnAt w B W b hd (.slice (some ⟨g, 0, none⟩) n c) ys) (i : Nat) : W.frozen? ⟨g, i, none⟩ = false := by
  obtain ⟨_, cur, hcur⟩ := own_block h.2.2.1
  unfold World.frozen?
  rw [hcur]
  simp
theorem TurnAt.cell {w W : World} {B b g n c : Nat} {hd : HeadP} {ys : List (ItemP × Value)} (h : TurnAt w B W b hd (.slice (some ⟨g, 0, none⟩) n c) ys) (j : Nat) (y : ItemP × Value) (hj : ys[j]? = some y) : W.cell? ⟨g, j * 3 + 2, none⟩ = some y.2 := by
  obtain ⟨x1, x2, ex, _, _, hcel⟩ := h.is.is.opened
  obtain ⟨b', off', e', hgW, g0, g1, g2⟩ := hcel j y hj
  injection ex with ex1 ex2 ex3
  subst ex1
  cases e'
  rw [Nat.zero_add] at g2
  exact g2
def TurnKept (w : World) (B b : Nat) (hd : HeadP) (v : Value) (W : World) : World → Prop := fun W' => W.heap.size ≤ W'.heap.size ∧ ∃ ys', TurnAt w B W' b hd v ys'
theorem TurnKept.more {w : World} {B b : Nat} {hd : HeadP} {v : Value} {W : World} (w1 w2 : World) (h : TurnKept w B b hd v W w1) (hb : Below w1.heap.size w1 w2) : TurnKept w B b hd v W w2 :=
  ⟨Nat.le_trans h.1 hb.size, let ⟨ys, h⟩ := h.2; ⟨ys, h.far hb⟩⟩
/-- A head and a slice are stored into a new box. -/
theorem TurnAt.store {w W : World} {B b : Nat} {v v' : Value} {ys : List (ItemP × Value)} (hb : Below w.heap.size w W) (hz : W.heap[b]? = some (.cells #[.int .i64 0, .int .i64 0, .string ⟨#[]⟩, .string ⟨#[]⟩, .slice none 0 0] 38 (0, 0))) (h5 : OwnE W B 53 3 v (itcells ys)) (h6 : ∀ y ∈ ys, SS W y.2 y.1.prf ∧ RowTy W 9 y.2) (h7 : w.heap.size ≤ b) (h8 : w.heap.size ≤ B) (hd : HeadP) (hv : v' = v) :
    TurnAt w B (((((W.setCell ⟨b, 0, none⟩ (.int .i64 hd.car)).setCell ⟨b, 1, none⟩ (.int .i64 hd.siz)).setCell ⟨b, 2, none⟩ (.string hd.root)).setCell ⟨b, 3, none⟩ (.string hd.sl)).setCell ⟨b, 4, none⟩ v') b hd v ys := by
  subst hv
  have hg := five_grown W b (.int .i64 hd.car) (.int .i64 hd.siz) (.string hd.root) (.string hd.sl) v'
  refine ⟨five_below hb h7 _ _ _ _ _, five_heap hz _ _ _ _ _, OwnE.grownT h5 hz (fun c e => by cases e) hg, fun y hy => (h6 y hy).1.grownT (h6 y hy).2 hg (fun k e cs fr e' => ?_), h7, h8⟩
  cases e
  rw [hz] at e'
  cases e'
/-- What the loop over the items keeps: those behind k still have their own proofs. -/
def TurnOk (w : World) (B : Nat) (b : Nat) (hd : HeadP) (v : Value) (L : Nat) (k : Nat) (W : World) : Prop :=
  ∃ ys, TurnAt w B W b hd v ys ∧ ys.length = L ∧ (∀ y ∈ ys, y.1.prf.length ≤ 13 ∧ ∀ s ∈ y.1.prf, s.size ≤ 1000) ∧ ∀ j y, k ≤ j → ys[j]? = some y → y.1.prf.length ≤ 12
theorem TurnOk.set {w W : World} {B b g n c : Nat} {hd : HeadP} {L k : Nat} {ys : List (ItemP × Value)} (h : TurnAt w B W b hd (.slice (some ⟨g, 0, none⟩) n c) ys) (hl : ys.length = L) (h1 : ∀ y ∈ ys, y.1.prf.length ≤ 13 ∧ ∀ s ∈ y.1.prf, s.size ≤ 1000) (h2 : ∀ j y, k ≤ j → ys[j]? = some y → y.1.prf.length ≤ 12) (y : ItemP × Value) (hk : ys[k]? = some y) (x : Value) (zs : List ByteArray) (hz : SS W x zs) (hx : RowTy W 9 x) (hzl : zs.length ≤ 13) (hzs : ∀ s ∈ zs, s.size ≤ 1000) :
    TurnOk w B b hd (.slice (some ⟨g, 0, none⟩) n c) L (k + 1) (W.setCell ⟨g, k * 3 + 2, none⟩ x) := by
  refine ⟨_, h.prf k y hk x zs hz hx, by rw [List.length_set]; exact hl, fun u hu => ?_, fun j u hj hu => ?_⟩
  · rcases mem_set_of hu with rfl | hu
    · exact ⟨hzl, hzs⟩
    · exact h1 u hu
  · rw [List.getElem?_set_ne (by omega)] at hu
    exact h2 j u (by omega) hu
theorem part_items {key : ByteArray} {car : Int} {xs : List ByteArray} {n : Nat} {b : Int} (hn : n ≤ xs.length) {x : ItemP} (hx : x ∈ (partS key car xs n (idxS b n)).items) : ∃ t : Nat, x.idx = (t : Int) ∧ t < n ∧ xs[t]? = some x.ent := by
  unfold partS at hx
  obtain ⟨t, ht, rfl⟩ := List.mem_map.1 hx
  have hlt := idxS_lt b n t ht
  refine ⟨t, rfl, hlt, ?_⟩
  show xs[t]? = some (xs.getD t ⟨#[]⟩)
  rw [List.getD_eq_getElem?_getD, List.getElem?_eq_getElem (by omega)]
  rfl
theorem part_prf {key : ByteArray} {car : Int} {xs : List ByteArray} {n : Nat} {b : Int} (hk : key.size = 32) (hv : validB ⟨car, xs⟩ = true) (hn : n ≤ xs.length) {x : ItemP} (hx : x ∈ (partS key car xs n (idxS b n)).items) : x.prf.length ≤ xs.length ∧ ∀ s ∈ x.prf, s.size ≤ 1000 := by
  have hc := part_check hk hv hn (idxS_asc b n) (idxS_lt b n)
  refine ⟨?_, fun s hs => ?_⟩
  · unfold partS at hx
    obtain ⟨t, ht, rfl⟩ := List.mem_map.1 hx
    show (proofB (xs.take n) t).length ≤ _
    have := proofB_len (xs.take n) t
    rw [List.length_take] at this
    omega
  · unfold checkB at hc
    rw [Bool.and_eq_true] at hc
    have h1 := itemsOk_verify hc.2 x hx
    unfold verifyB at h1
    split at h1
    · rename_i h2
      have := List.all_eq_true.1 h2.2.2 s hs
      unfold isDig at this
      have := of_decide_eq_true this
      omega
    · cases h1
end Go.Proofs.YtinfpbkbnhcifaaGreatDoor
