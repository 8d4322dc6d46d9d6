/- Join, plain: what the reference's Join comes to. No condition. -/
import Derived.Test.YtinfpbkbnhcifaaGreatDoorP08
import Derived.Test.YtinfpbkbnhcifaaGreatDoorP00
import Derived.Test.YtinfpbkbnhcifaaGreatDoorP03
namespace Go.Proofs.YtinfpbkbnhcifaaGreatDoor
open Go.RowKit

def firstB (l : List ItemP) (i : Int) : Option ByteArray := (l.find? fun x => decide (x.idx = i)).map (·.ent)
def allItems (l : List PartP) : List ItemP := l.flatMap fun p => p.items
def outQ (F : Int → Option ByteArray) (q : Nat) : List ItemP := (List.range q).filterMap fun i : Nat => (F i).map fun s => { idx := i, ent := s, prf := [] }
theorem outQ_succ (F : Int → Option ByteArray) (q : Nat) : outQ F (q + 1) = outQ F q ++ (match F q with | some s => [{ idx := (q : Int), ent := s, prf := [] }] | none => []) := by
  unfold outQ
  rw [List.range_succ, List.filterMap_append]
  congr 1
  cases h : F (q : Int) with
  | none => simp [h]
  | some s => simp [h]
theorem outQ_len (F : Int → Option ByteArray) (q : Nat) : (outQ F q).length ≤ q := by
  unfold outQ
  refine Nat.le_trans (List.length_filterMap_le _ _) ?_
  rw [List.length_range]
  exact Nat.le_refl _
theorem outQ_all (F : Int → Option ByteArray) : outQ F 60 = itemsK F := rfl
theorem firstB_hit {x : ItemP} {l : List ItemP} {i : Int} (h : x.idx = i) : firstB (x :: l) i = some x.ent := by
  unfold firstB
  rw [List.find?_cons_of_pos (by simpa using h)]
  rfl
theorem firstB_miss {x : ItemP} {l : List ItemP} {i : Int} (h : x.idx ≠ i) : firstB (x :: l) i = firstB l i := by
  unfold firstB
  rw [List.find?_cons_of_neg (by simpa using h)]
theorem firstB_some {l : List ItemP} {i : Int} {s : ByteArray} (h : firstB l i = some s) : ∃ x ∈ l, x.idx = i ∧ x.ent = s := by
  unfold firstB at h
  obtain ⟨x, hx, he⟩ := Option.map_eq_some_iff.1 h
  exact ⟨x, List.mem_of_find?_eq_some hx, by simpa using List.find?_some hx, he⟩
theorem firstB_none {l : List ItemP} {i : Int} (h : firstB l i = none) : ∀ x ∈ l, x.idx ≠ i := by
  unfold firstB at h
  rw [Option.map_eq_none_iff, List.find?_eq_none] at h
  intro x hx
  simpa using h x hx
theorem knownB_some : ∀ {l : List ItemP} {i : Int} {s : ByteArray}, knownB l i = some s → ∃ x ∈ l, x.idx = i ∧ x.ent = s := by
  intro l
  induction l with
  | nil => intro i s h; cases h
  | cons y l ih =>
    intro i s h
    rw [knownB] at h
    cases e : knownB l i with
    | some u =>
      rw [e] at h
      obtain ⟨x, hx, h1, h2⟩ := ih e
      injection h with h
      exact ⟨x, List.mem_cons_of_mem _ hx, h1, h2.trans h⟩
    | none =>
      rw [e] at h
      by_cases hy : y.idx = i
      · simp only [if_pos hy] at h
        injection h with h
        exact ⟨y, List.mem_cons_self .., hy, h⟩
      · simp only [if_neg hy] at h
        cases h
theorem knownB_none : ∀ {l : List ItemP} {i : Int}, knownB l i = none → ∀ x ∈ l, x.idx ≠ i := by
  intro l
  induction l with
  | nil => intro i _ x hx; exact absurd hx List.not_mem_nil
  | cons y l ih =>
    intro i h x hx
    rw [knownB] at h
    cases e : knownB l i with
    | some u => rw [e] at h; cases h
    | none =>
      rw [e] at h
      by_cases hy : y.idx = i
      · simp only [if_pos hy] at h; cases h
      · rcases List.mem_cons.1 hx with e' | e'
        · subst e'; exact hy
        · exact ih e x e'
def Agree (l : List ItemP) : Prop := ∀ x ∈ l, ∀ y ∈ l, x.idx = y.idx → x.ent = y.ent
theorem first_known {l : List ItemP} (h : Agree l) (i : Int) : firstB l i = knownB l i := by
  cases e : firstB l i with
  | none =>
    cases e' : knownB l i with
    | none => rfl
    | some s =>
      obtain ⟨x, hx, h1, _⟩ := knownB_some e'
      exact absurd h1 (firstB_none e x hx)
  | some s =>
    obtain ⟨x, hx, h1, h2⟩ := firstB_some e
    cases e' : knownB l i with
    | none => exact absurd h1 (knownB_none e' x hx)
    | some u =>
      obtain ⟨y, hy, h3, h4⟩ := knownB_some e'
      rw [← h2, ← h4, h x hx y hy (h1.trans h3.symm)]

/-! ### Pairs -/
theorem pairs_mem {n i k : Nat} (h1 : i < k) (h2 : k < n) : (i, k) ∈ pairsL n := by
  unfold pairsL pairsOf
  rw [List.mem_flatMap]
  refine ⟨i, List.mem_range.2 (by omega), List.mem_map.2 ⟨k, ?_, rfl⟩⟩
  rw [List.mem_range'_1]
  omega
theorem good_all {key : ByteArray} {l : List PartP} (h : joinBad key l = false) : ∀ p ∈ l, checkB key p = true ∧ p.head.car = firstCar l := by
  intro p hp
  unfold joinBad at h
  rw [Bool.or_eq_false_iff] at h
  have h2 := (List.any_eq_false.1 h.2) p hp
  unfold badP at h2
  simp only [Bool.or_eq_true, not_or, Bool.not_eq_true', Bool.not_eq_false, decide_eq_true_eq] at h2
  exact ⟨by simpa using h2.1, Classical.not_not.1 h2.2⟩
theorem check_asc {key : ByteArray} {p : PartP} (h : checkB key p = true) : p.items.Pairwise (fun x y => x.idx < y.idx) := by
  unfold checkB at h
  rw [Bool.and_eq_true] at h
  exact (itemsOk_asc h.2).1
theorem asc_one : ∀ {l : List ItemP}, l.Pairwise (fun x y => x.idx < y.idx) → Agree l := by
  intro l h x hx y hy e
  have h1 := (known_asc h x.idx x.ent).2 ⟨x, hx, rfl, rfl⟩
  have h2 := (known_asc h x.idx y.ent).2 ⟨y, hy, e.symm, rfl⟩
  rw [h1] at h2
  injection h2
theorem convR_false {a b : PartP} (hc : a.head.car = b.head.car) (h : convR a b = false) : ∀ x ∈ a.items, ∀ y ∈ b.items, x.idx = y.idx → x.ent = y.ent := by
  intro x hx y hy e
  unfold convR at h
  rw [decide_eq_true hc, Bool.true_and, Bool.or_eq_false_iff] at h
  have h1 := (List.any_eq_false.1 h.2) x hx
  refine Classical.byContradiction fun hne => h1 ?_
  rw [List.any_eq_true]
  exact ⟨y, hy, decide_eq_true ⟨e, hne⟩⟩
theorem agree_all {key : ByteArray} {l : List PartP} (hb : joinBad key l = false) (hn : (pairsL l.length).find? (pairAt l) = none) : Agree (allItems l) := by
  intro x hx y hy e
  unfold allItems at hx hy
  obtain ⟨p, hp, hxp⟩ := List.mem_flatMap.1 hx
  obtain ⟨q, hq, hyq⟩ := List.mem_flatMap.1 hy
  obtain ⟨i, hi⟩ := List.getElem?_of_mem hp
  obtain ⟨k, hk⟩ := List.getElem?_of_mem hq
  have li := (List.getElem?_eq_some_iff.1 hi).1
  have lk := (List.getElem?_eq_some_iff.1 hk).1
  have g1 := good_all hb p hp
  have g2 := good_all hb q hq
  have pr : ∀ (i k : Nat) (p q : PartP), l[i]? = some p → l[k]? = some q → i < k → k < l.length → convB p q = false := fun i k p q hi hk h1 h2 => by
    have h3 := (List.find?_eq_none.1 hn) (i, k) (pairs_mem h1 h2)
    unfold pairAt at h3
    rw [hi, hk] at h3
    simpa using h3
  rcases Nat.lt_trichotomy i k with h | h | h
  · have h3 := pr i k p q hi hk h lk
    rw [conv_asc (check_asc g1.1)] at h3
    exact convR_false (g1.2.trans g2.2.symm) h3 x hxp y hyq e
  · subst h
    rw [hi] at hk
    injection hk with hk
    subst hk
    exact asc_one (check_asc g1.1) x hxp y hyq e
  · have h3 := pr k i q p hk hi h li
    rw [conv_asc (check_asc g2.1)] at h3
    exact (convR_false (g2.2.trans g1.2.symm) h3 y hyq x hxp e.symm).symm
theorem join_items {key : ByteArray} {l : List PartP} (hb : joinBad key l = false) (hn : (pairsL l.length).find? (pairAt l) = none) : joinP2 l = (outQ (firstB (allItems l)) 60, -1, -1) := by
  unfold joinP2
  rw [hn, outQ_all]
  have : firstB (allItems l) = knownL l := by
    funext i
    rw [first_known (agree_all hb hn)]
    rfl
  rw [this]

def joinZ (o : Option (List ItemP × Int × Int)) : List ItemP × Int × Int := o.getD ([], -1, -1)
def joinE (o : Option (List ItemP × Int × Int)) : Int := if o.isSome = true then 0 else 180
def JoinIs (w : World) (z : List ItemP × Int × Int) (er : Int) (e : Ending) (w' : World) : Prop :=
  ∃ (a : Option Addr) (c : Nat), e = .returned (.tuple #[.slice a z.1.length c, .int .i64 z.2.1, .int .i64 z.2.2, .int .i64 er]) ∧ IT w' (.slice a z.1.length c) z.1 ∧ Below w.heap.size w w'
theorem join_all {key : ByteArray} {w : World} {v : Value} {zs : List (PartP × Value)} (hz : PS w v zs) (hf : FitP zs) (hk : key.size ≤ 1000) (he : Env w) (hg : 0 < w.heap.size) :
    Calls Tryz.prog 26 #[.string key, v] w (JoinIs w (joinZ (joinR key (zs.map (·.1)))) (joinE (joinR key (zs.map (·.1))))) := by
  refine (join_any hz hf hk he hg).mono ?_
  rintro e w' ⟨h1, h2⟩
  cases h : joinR key (zs.map (·.1)) with
  | none =>
    rw [h] at h1
    exact ⟨none, 0, h1, ⟨[], rfl, ISt.nil w'⟩, h2⟩
  | some z =>
    obtain ⟨its, i, k⟩ := z
    rw [h] at h1
    obtain ⟨v', h3, h4⟩ := h1
    obtain ⟨a, c, rfl⟩ := h4.form2
    exact ⟨a, c, h3, h4, h2⟩
end Go.Proofs.YtinfpbkbnhcifaaGreatDoor

/- What the walk of the reference's Join leans on: the first pair, an own row of items without proofs, Check and convicts at a part. The conditions: what the slices read as. -/
namespace Go.Proofs.YtinfpbkbnhcifaaGreatDoor
open Go.RowKit Go.BigFrame

theorem pairs_of_mem {n i k : Nat} (h : (i, k) ∈ pairsL n) : i < k ∧ k < n := by
  unfold pairsL pairsOf at h
  rw [List.mem_flatMap] at h
  obtain ⟨j, hj, h⟩ := h
  obtain ⟨m, hm, e⟩ := List.mem_map.1 h
  rw [List.mem_range'_1] at hm
  injection e with e1 e2
  subst e1 e2
  omega
theorem find_none {n : Nat} {f : Nat × Nat → Bool} (h : ∀ i k, i < k → k < n → f (i, k) = false) : (pairsL n).find? f = none := by
  rw [List.find?_eq_none]
  rintro ⟨i, k⟩ hx
  obtain ⟨h1, h2⟩ := pairs_of_mem hx
  rw [h i k h1 h2]
  simp
theorem find_pair {n : Nat} {f : Nat × Nat → Bool} {i k : Nat} (h1 : i < k) (h2 : k < n) (hf : f (i, k) = true) (hm : ∀ i' k', i' < k' → k' < n → (i' < i ∨ (i' = i ∧ k' < k)) → f (i', k') = false) : (pairsL n).find? f = some (i, k) := by
  have row : ∀ i' : Nat, (pairsOf n i').find? f = Option.map (fun k => (i', k)) ((List.range' (i' + 1) (n - (i' + 1))).find? (f ∘ fun k => (i', k))) := fun i' => by
    unfold pairsOf
    rw [List.find?_map]
  unfold pairsL
  rw [List.find?_flatMap, List.findSome?_eq_some_iff]
  refine ⟨List.range i, i, List.range' (i + 1) (n - (i + 1)), ?_, ?_, fun i' hi => ?_⟩
  · rw [List.range_eq_range', List.range_eq_range']
    have e1 := List.range'_append (s := 0) (m := i) (n := n - i) (step := 1)
    rw [show i + (n - i) = n by omega] at e1
    rw [← e1]
    congr 1
    rw [show 0 + 1 * i = i by omega, show n - i = (n - (i + 1)) + 1 by omega, List.range'_succ]
  · rw [row, (List.find?_range'_eq_some (i := k)).2 ⟨hf, by rw [List.mem_range'_1]; omega, fun j hj1 hj2 => ?_⟩]
    · rfl
    · show (!f (i, j)) = true
      rw [hm i j (by omega) (by omega) (.inr ⟨rfl, hj2⟩)]
      rfl
  · rw [List.mem_range] at hi
    rw [row, List.find?_range'_eq_none.2 (fun j hj1 hj2 => ?_)]
    · rfl
    · show (!f (i', j)) = true
      rw [hm i' j (by omega) (by omega) (.inl hi)]
      rfl

theorem rcheck_it (key : ByteArray) (p : PartP) {w : World} {v : Value} (h : IT w v p.items) (hf : FitOne p) (hk : key.size ≤ 1000) :
    Calls Tryz.prog 25 #[.string key, .agg #[.int .i64 p.head.car, .int .i64 p.head.siz, .string p.head.root, .string p.head.sl, v]] w fun e w' => e = .returned (.bool (checkB key p)) ∧ Below w.heap.size w w' := by
  obtain ⟨⟨c, s, r, sl⟩, its⟩ := p
  obtain ⟨ys, rfl, hys⟩ := h
  refine rcheck_any key c s r sl hys.is hk (by have := hf.2.1; simpa using this) (fun y hy => hf.2.2 y.1 (List.mem_map_of_mem hy))
theorem rconv_it (p q : PartP) {w : World} {v v' : Value} (h : IT w v p.items) (h' : IT w v' q.items) :
    Calls Tryz.prog 59 #[.agg #[.int .i64 p.head.car, .int .i64 p.head.siz, .string p.head.root, .string p.head.sl, v], .agg #[.int .i64 q.head.car, .int .i64 q.head.siz, .string q.head.root, .string q.head.sl, v']] w fun e w' => e = .returned (.bool (convR p q)) ∧ Below w.heap.size w w' := by
  obtain ⟨⟨c, s, r, sl⟩, its⟩ := p
  obtain ⟨⟨c', s', r', sl'⟩, its'⟩ := q
  obtain ⟨ys, rfl, hys⟩ := h
  obtain ⟨zs, rfl, hzs⟩ := h'
  exact rconv_any c s r sl c' s' r' sl' hys.is hzs.is

def OutAt (w W : World) (v : Value) (ys : List (ItemP × Value)) : Prop := Below w.heap.size w W ∧ OwnE W w.heap.size 53 3 v (itcells ys) ∧ ∀ y ∈ ys, y.2 = .slice none 0 0 ∧ y.1.prf = []
theorem OutAt.far {w W W' : World} {v : Value} {ys : List (ItemP × Value)} (h : OutAt w W v ys) (hb : Below W.heap.size W W') : OutAt w W' v ys := ⟨below_next h.1 hb, OwnE.far h.2.1 hb (Nat.le_refl _), h.2.2⟩
theorem OutAt.grow {w W W' : World} {v v' : Value} {ys : List (ItemP × Value)} (h : OutAt w W v ys) (i : Int) (s : ByteArray) (ho : OwnE W' w.heap.size 53 3 v' (itcells (ys ++ [(⟨i, s, []⟩, .slice none 0 0)]))) (hg : W.grownBy W' v.ownBlock) : OutAt w W' v' (ys ++ [(⟨i, s, []⟩, .slice none 0 0)]) := by
  refine ⟨h.1.grown hg h.1.size (fun j e => OwnE.ge h.2.1 j e), ho, fun y hy => ?_⟩
  rcases List.mem_append.1 hy with hy | hy
  · exact h.2.2 y hy
  · rw [List.mem_singleton.1 hy]
    exact ⟨rfl, rfl⟩
theorem OutAt.it {w W : World} {v : Value} {ys : List (ItemP × Value)} (h : OutAt w W v ys) : IT W v (ys.map (·.1)) :=
  ⟨ys, rfl, ⟨OwnE.slice h.2.1 (itcells_three ys), fun y hy => by rw [(h.2.2 y hy).1, (h.2.2 y hy).2]; exact SliceAt.nil _ _⟩, rowTy_own h.2.1, fun y hy => by rw [(h.2.2 y hy).1]; exact rowTy_nil _ _⟩
section
variable {ops : Array Oper} {rest : List Oper} {o : Oper} {a : Act} {w : World} {Q : Exit → Act → World → Prop}
theorem wpList_append_items (hgd : o.guard = none) (s x : Operand) (base : Nat) (v : Value) (xs ys : List (ItemP × Value)) (vy : Value) (hown : OwnE w base 53 3 v (itcells xs)) (hy : IS w vy ys) (hy0 : 0 < ys.length) (hlen : xs.length + ys.length ≤ 1000000) (hbase : base ≤ w.heap.size)
    (ho : o.op = .call { callee := .builtin .append, args := #[s, x], argTypes := #[36, 36] }) (hs : a.eval s = v) (hx : a.eval x = vy)
    (h : ∀ v' w', OwnE w' base 53 3 v' (itcells (xs ++ ys)) → w.grownBy w' v.ownBlock → wpList Tryz.prog ops Q rest (a.put o.dst v') w') : wpList Tryz.prog ops Q (o :: rest) a w :=
  wpList_plain hgd fun _ hK => wp_append_items s x base v xs ys vy hown hy hy0 hlen hbase ho hs hx fun v' w' h1 h2 => hK _ _ (h v' w' h1 h2)
end
end Go.Proofs.YtinfpbkbnhcifaaGreatDoor
