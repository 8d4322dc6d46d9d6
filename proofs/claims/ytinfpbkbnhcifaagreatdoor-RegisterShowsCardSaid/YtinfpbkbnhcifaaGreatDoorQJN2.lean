/- Which entries a list of parts shows: one more part, one more index, another order; how many they are. Plain theory, no condition. -/
import Derived.Test.YtinfpbkbnhcifaaGreatDoorQMSpec
import Derived.Test.YtinfpbkbnhcifaaGreatDoorQSN3
import Derived.Test.YtinfpbkbnhcifaaGreatDoorQMR4
namespace Go.Proofs.YtinfpbkbnhcifaaGreatDoor

def selS (S : Nat → Bool) : List Nat := (List.range 60).filter S
def cntS (S : Nat → Bool) : Nat := (selS S).length
def setS (S : Nat → Bool) (j : Nat) (i : Nat) : Bool := S i || decide (j = i)
def addS (S : Nat → Bool) (l : List Nat) : Nat → Bool := l.foldl setS S
theorem joinedS_sel (xs : List ByteArray) (S : Nat → Bool) : joinedS xs S = (selS S).map fun i : Nat => ({ idx := (i : Int), ent := xs.getD i ⟨#[]⟩, prf := [] } : ItemP) := by
  unfold joinedS selS
  generalize List.range 60 = l
  induction l with
  | nil => rfl
  | cons i l ih =>
    rw [List.filterMap_cons, List.filter_cons]
    cases h : S i
    · simp only [Bool.false_eq_true, if_false]
      exact ih
    · simp only [if_true, List.map_cons]
      rw [ih]
theorem joinedS_len (xs : List ByteArray) (S : Nat → Bool) : (joinedS xs S).length = cntS S := by
  rw [joinedS_sel, List.length_map]; rfl
theorem cnt_none : cntS (fun _ => false) = 0 := by
  unfold cntS selS
  rw [List.filter_eq_nil_iff.2 (fun _ _ => by simp)]
  rfl
theorem cnt_le (S : Nat → Bool) : cntS S ≤ 60 := by
  have := List.length_filter_le S (List.range 60)
  rw [List.length_range] at this
  exact this
theorem cnt_mono {S T : Nat → Bool} (h : ∀ i, S i = true → T i = true) : cntS S ≤ cntS T := by
  unfold cntS selS
  rw [← List.countP_eq_length_filter, ← List.countP_eq_length_filter]
  exact List.countP_mono_left (fun i _ hi => h i hi)
theorem cnt_set_aux {S : Nat → Bool} {j : Nat} (hj : S j = false) (n : Nat) : ((List.range n).filter (setS S j)).length = ((List.range n).filter S).length + if j < n then 1 else 0 := by
  induction n with
  | zero => rfl
  | succ n ih =>
    rw [List.range_succ, List.filter_append, List.filter_append, List.length_append, List.length_append, ih]
    by_cases h : j = n
    · subst h
      have e : setS S j j = true := by simp [setS]
      rw [List.filter_cons, List.filter_cons, e, hj]
      simp
    · have e : setS S j n = S n := by simp [setS, h]
      rw [List.filter_cons, List.filter_cons, e]
      simp only [List.filter_nil]
      by_cases h1 : j < n
      · have a1 : (if j < n then 1 else 0) = 1 := if_pos h1
        have a2 : (if j < n + 1 then 1 else 0) = 1 := if_pos (by omega)
        rw [a1, a2]; omega
      · have a1 : (if j < n then 1 else 0) = 0 := if_neg h1
        have a2 : (if j < n + 1 then 1 else 0) = 0 := if_neg (by omega)
        rw [a1, a2]; omega
theorem cnt_set {S : Nat → Bool} {j : Nat} (hj : S j = false) (h : j < 60) : cntS (setS S j) = cntS S + 1 := by
  have := cnt_set_aux hj 60
  rw [if_pos h] at this
  exact this
theorem set_same {S : Nat → Bool} {j : Nat} (hj : S j = true) : setS S j = S := by
  funext i
  unfold setS
  by_cases h : j = i
  · subst h; rw [hj]; rfl
  · simp [h]
theorem addS_at (l : List Nat) : ∀ (S : Nat → Bool) (i : Nat), addS S l i = (S i || l.any fun j => decide (j = i)) := by
  induction l with
  | nil => intro S i; simp [addS]
  | cons j l ih =>
    intro S i
    show addS (setS S j) l i = _
    rw [ih]
    unfold setS
    rw [List.any_cons, Bool.or_assoc]
theorem addS_snoc (S : Nat → Bool) (l : List Nat) (j : Nat) : addS S (l ++ [j]) = setS (addS S l) j := by
  unfold addS
  rw [List.foldl_append]
  rfl
theorem seen_nil : seenS [] = fun _ => false := rfl
theorem seen_snoc (q : List (Nat × List Nat)) (y : Nat × List Nat) : seenS (q ++ [y]) = addS (seenS q) y.2 := by
  funext i
  rw [addS_at]
  unfold seenS
  rw [List.any_append]
  simp
theorem seen_grows (q : List (Nat × List Nat)) (y : Nat × List Nat) : cntS (seenS q) ≤ cntS (seenS (q ++ [y])) := cnt_mono (fun i h => by
  rw [seen_snoc, addS_at, h]; rfl)
theorem seen_congr {q q' : List (Nat × List Nat)} (h : ∀ y, y ∈ q ↔ y ∈ q') : seenS q = seenS q' := by
  funext i
  unfold seenS
  rw [Bool.eq_iff_iff, List.any_eq_true, List.any_eq_true]
  constructor
  · rintro ⟨y, h1, h2⟩; exact ⟨y, (h y).1 h1, h2⟩
  · rintro ⟨y, h1, h2⟩; exact ⟨y, (h y).2 h1, h2⟩
theorem seen_lt {q : List (Nat × List Nat)} {m : Nat} (h : ∀ y ∈ q, ∀ i ∈ y.2, i < m) {i : Nat} (hi : seenS q i = true) : i < m := by
  unfold seenS at hi
  obtain ⟨y, hy, h1⟩ := List.any_eq_true.1 hi
  obtain ⟨j, hj, h2⟩ := List.any_eq_true.1 h1
  rw [← of_decide_eq_true h2]
  exact h y hy j hj
/-- A list, turned by c places, from the i-th on. -/
def turnL {α : Type} (q : List α) (c : Nat) (k : Nat) : List α := (List.range k).filterMap fun i => q[(i + c) % q.length]?
theorem turn_succ {α : Type} (q : List α) (c k : Nat) {y : α} (h : q[(k + c) % q.length]? = some y) : turnL q c (k + 1) = turnL q c k ++ [y] := by
  unfold turnL
  rw [List.range_succ, List.filterMap_append, List.filterMap_cons, h]
  rfl
theorem turn_len {α : Type} (q : List α) (c : Nat) : ∀ k, k ≤ q.length → (turnL q c k).length = k := by
  intro k
  induction k with
  | zero => intro _; rfl
  | succ k ih =>
    intro h
    have hlt : (k + c) % q.length < q.length := Nat.mod_lt _ (by omega)
    rw [turn_succ q c k (List.getElem?_eq_getElem hlt), List.length_append, ih (by omega)]
    rfl
theorem turn_mem {α : Type} (q : List α) (c : Nat) (y : α) : y ∈ turnL q c q.length ↔ y ∈ q := by
  unfold turnL
  rw [List.mem_filterMap]
  constructor
  · rintro ⟨i, _, h⟩
    exact List.mem_of_getElem? h
  · intro h
    obtain ⟨m, hm⟩ := List.getElem?_of_mem h
    have hlt := (List.getElem?_eq_some_iff.1 hm).1
    have hc : c % q.length < q.length := Nat.mod_lt _ (by omega)
    refine ⟨(m + (q.length - c % q.length)) % q.length, List.mem_range.2 (Nat.mod_lt _ (by omega)), ?_⟩
    have e : ((m + (q.length - c % q.length)) % q.length + c) % q.length = m := by
      rw [Nat.mod_add_mod]
      have e1 : (m + (q.length - c % q.length) + c) % q.length = (m + (q.length - c % q.length) + c % q.length) % q.length := by
        rw [Nat.add_mod, Nat.add_mod (m + (q.length - c % q.length)) (c % q.length), Nat.mod_mod]
      rw [e1, show m + (q.length - c % q.length) + c % q.length = m + q.length by omega, Nat.add_mod_right, Nat.mod_eq_of_lt hlt]
    rw [e, hm]
theorem turned_seen (q : List (Nat × List Nat)) (c : Nat) {y : Nat × List Nat} (hy : y ∈ q) : seenS (turnL q c q.length ++ [y]) = seenS q := by
  refine seen_congr (fun z => ?_)
  rw [List.mem_append, turn_mem]
  constructor
  · rintro (h | h)
    · exact h
    · rw [List.mem_singleton.1 h]; exact hy
  · exact fun h => .inl h
theorem sel_asc (S : Nat → Bool) : (selS S).Pairwise (· < ·) := List.Pairwise.filter _ List.pairwise_lt_range
theorem sel_true {S : Nat → Bool} {i k : Nat} (h : (selS S)[i]? = some k) : S k = true := by
  have := List.mem_of_getElem? h
  unfold selS at this
  exact (List.mem_filter.1 this).2
theorem sel_lt {S : Nat → Bool} {i k m : Nat} (h : (selS S)[i]? = some k) (h' : (selS S)[i + 1]? = some m) : k < m := by
  obtain ⟨h1, e1⟩ := List.getElem?_eq_some_iff.1 h
  obtain ⟨h2, e2⟩ := List.getElem?_eq_some_iff.1 h'
  have := List.pairwise_iff_getElem.1 (sel_asc S) i (i + 1) h1 h2 (by omega)
  rw [e1, e2] at this
  exact this
end Go.Proofs.YtinfpbkbnhcifaaGreatDoor

/- An own row of parts beside an array of twelve bools: what RegisterJoins' loop keeps. The conditions: what the rows hold. -/
namespace Go.Proofs.YtinfpbkbnhcifaaGreatDoor
open Go.RowKit Go.BigFrame

theorem infoPart3 : (Tryz.prog.info? 38).map (fun i => (i.zero, i.size, i.bytes)) = some (some partZ, 5, 72) := by kernel_rfl
theorem ptcells_five (zs : List (PartP × Value)) : ∀ c ∈ ptcells zs, c.length = 5 := by
  intro c hc
  unfold ptcells at hc
  obtain ⟨z, _, rfl⟩ := List.mem_map.1 hc
  rfl
theorem ptcells_len (zs : List (PartP × Value)) : (ptcells zs).length = zs.length := List.length_map ..
/-- The bools. -/
def boolsS (S : Nat → Bool) : Array Value := ((List.range 12).map fun i => Value.bool (S i)).toArray
theorem bools_size (S : Nat → Bool) : (boolsS S).size = 12 := by simp [boolsS]
theorem bools_at (S : Nat → Bool) {j : Nat} (h : j < 12) : (boolsS S)[j]? = some (.bool (S j)) := by
  unfold boolsS
  rw [List.getElem?_toArray, List.getElem?_map, List.getElem?_range h]
  rfl
theorem bools_set (S : Nat → Bool) {j : Nat} (h : j < 12) : (boolsS S).setIfInBounds j (.bool true) = boolsS (setS S j) := by
  apply Array.ext
  · simp [bools_size]
  · intro i h1 h2
    rw [bools_size] at h2
    have e1 : (boolsS (setS S j))[i]? = some (.bool (setS S j i)) := bools_at _ h2
    have e2 : ((boolsS S).setIfInBounds j (.bool true))[i]? = some (.bool (setS S j i)) := by
      rw [Array.getElem?_setIfInBounds]
      by_cases e : j = i
      · subst e
        rw [if_pos rfl, if_pos (by rw [bools_size]; exact h)]
        simp [setS]
      · rw [if_neg e, bools_at S h2]
        simp [setS, e]
    rw [Array.getElem?_eq_getElem h1] at e2
    rw [Array.getElem?_eq_getElem (by rw [bools_size]; exact h2)] at e1
    exact Option.some.inj (e2.trans e1.symm)

/-- What the loop keeps: nothing below is changed, the bools, the own row of parts, their items. -/
def JAt (W1 W : World) (S : Nat → Bool) (v : Value) (zs : List (PartP × Value)) : Prop :=
  Below W1.heap.size W1 W ∧ W.heap[W1.heap.size]? = some (.cells (boolsS S) 75 (0, 0)) ∧ OwnE W W1.heap.size 38 5 v (ptcells zs) ∧ ∀ z ∈ zs, IT W z.2 z.1.items
theorem JAt.far {W1 W W' : World} {S : Nat → Bool} {v : Value} {zs : List (PartP × Value)} (h : JAt W1 W S v zs) (hb : Below W.heap.size W W') : JAt W1 W' S v zs := by
  obtain ⟨h1, h2, h3, h4⟩ := h
  exact ⟨h1.trans (hb.mono h1.size), (hb.block _ (Array.getElem?_eq_some_iff.1 h2).1).trans h2, OwnE.far h3 hb (Nat.le_refl _), fun z hz => (h4 z hz).below hb⟩
theorem JAt.ps {W1 W : World} {S : Nat → Bool} {v : Value} {zs : List (PartP × Value)} (h : JAt W1 W S v zs) : PS W v zs := ⟨OwnE.slice h.2.2.1 (ptcells_five zs), h.2.2.2⟩
/-- Items are kept when an own row of parts grows. -/
theorem IT.own {W W' : World} {base : Nat} {v iv : Value} {css : List (List Value)} {its : List ItemP} (h : IT W iv its) (ho : OwnE W base 38 5 v css) (hg : W.grownBy W' v.ownBlock) : IT W' iv its := by
  rcases ho.2 with ⟨rfl, _⟩ | ⟨g, cap, cur, rfl, _, hgg, _⟩
  · exact h.below ⟨hg.os, hg.tape, hg.output, hg.size, fun i hi => hg.block i hi (by simp [Value.ownBlock])⟩
  · exact IT.grownT h hgg (by decide) (by decide) hg
theorem JAt.append {W1 W W' : World} {S : Nat → Bool} {v v' : Value} {zs : List (PartP × Value)} (h : JAt W1 W S v zs) (z : PartP × Value) (hz : IT W z.2 z.1.items) (ho : OwnE W' W1.heap.size 38 5 v' (ptcells (zs ++ [z]))) (hg : W.grownBy W' v.ownBlock) : JAt W1 W' S v' (zs ++ [z]) := by
  obtain ⟨h1, h2, h3, h4⟩ := h
  refine ⟨h1.grown hg h1.size (fun j e => OwnE.ge h3 j e), (hg.block _ (Array.getElem?_eq_some_iff.1 h2).1 (own_ne h3 h2 (fun c e => by cases e))).trans h2, ho, fun y hy => ?_⟩
  rcases List.mem_append.1 hy with hy | hy
  · exact IT.own (h4 y hy) h3 hg
  · rw [List.mem_singleton.1 hy]; exact IT.own hz h3 hg
theorem JAt.see {W1 W : World} {S : Nat → Bool} {v : Value} {zs : List (PartP × Value)} (h : JAt W1 W S v zs) {j : Nat} (hj : j < 12) : JAt W1 (W.setCell ⟨W1.heap.size, j, none⟩ (.bool true)) (setS S j) v zs := by
  obtain ⟨h1, h2, h3, h4⟩ := h
  have hg : W.grownBy (W.setCell ⟨W1.heap.size, j, none⟩ (.bool true)) (some W1.heap.size) := grown_setCell (grown_refl _ _) _ (.inl rfl) _
  exact ⟨h1.setCell (p := ⟨W1.heap.size, j, none⟩) (Nat.le_refl _) _, by rw [heap_setCell_same _ h2, bools_set S hj], OwnE.grownT h3 h2 (fun c e => by cases e) hg, fun z hz => IT.grownT (h4 z hz) h2 (by decide) (by decide) hg⟩

section
variable {ops : Array Oper} {rest : List Oper} {o : Oper} {a : Act} {w : World} {Q : Exit → Act → World → Prop}
theorem wpList_append_part (s x : Operand) (base : Nat) (v : Value) (zs : List (PartP × Value)) (b : Nat) (z : PartP × Value) (fr : Nat × Nat) (hown : OwnE w base 38 5 v (ptcells zs)) (hlen : zs.length ≤ 100000) (hbase : base ≤ w.heap.size) (hz1 : z.2.oneCell' = true)
    (hb : w.heap[b]? = some (.cells #[.int .i64 z.1.head.car, .int .i64 z.1.head.siz, .string z.1.head.root, .string z.1.head.sl, z.2] 38 fr)) (hgd : o.guard = none) (ho : o.op = .call { callee := .builtin .append, args := #[s, x], argTypes := #[30, 30] }) (hs : a.eval s = v) (hx : a.eval x = .slice (some ⟨b, 0, none⟩) 1 1)
    (h : ∀ v' w', OwnE w' base 38 5 v' (ptcells (zs ++ [z])) → w.grownBy w' v.ownBlock → wpList Tryz.prog ops Q rest (a.put o.dst v') w') : wpList Tryz.prog ops Q (o :: rest) a w :=
  wpList_append_el 30 38 5 72 _ (by kernel_rfl) infoPart3 rfl (by decide) hgd s x ho base v (ptcells zs) hs hown b [.int .i64 z.1.head.car, .int .i64 z.1.head.siz, .string z.1.head.root, .string z.1.head.sl, z.2] rfl (fun u hu => by simp at hu; rcases hu with rfl | rfl | rfl | rfl | rfl <;> first | rfl | exact hz1) hx fr hb
    (by rw [ptcells_len]; unfold maxLen; omega) (by rw [ptcells_len]; omega) hbase fun v' w' h1 h2 => h v' w' (by unfold ptcells; rw [List.map_append]; exact h1) h2
end
end Go.Proofs.YtinfpbkbnhcifaaGreatDoor

/- The walk of the reference's SameItems. The conditions: what the slices read as. -/
namespace Go.Proofs.YtinfpbkbnhcifaaGreatDoor
open Go.RowKit Go.BigFrame

set_option maxHeartbeats 4000000 in
set_option maxRecDepth 100000 in
theorem sameItems_any {w : World} {v v' : Value} {is js : List ItemP} (hx : IT w v is) (hy : IT w v' js) :
    Calls Tryz.prog 28 #[v, v'] w fun e w' => e = .returned (.bool (decide (is = js))) ∧ Below w.heap.size w w' := by
  obtain ⟨xs, rfl, hxs⟩ := hx
  obtain ⟨ys, rfl, hys⟩ := hy
  replace hxs := hxs.is
  replace hys := hys.is
  obtain ⟨a, cap, rfl, l1, l2, l3⟩ := hxs.opened
  obtain ⟨a', cap', rfl, k1, k2, k3⟩ := hys.opened
  have HX := Lib.hid l3
  have HY := Lib.hid k3
  have HXS := Lib.hid hxs
  have HYS := Lib.hid hys
  unfold maxLen at l2 k2
  obtain ⟨RR, hRR⟩ : ∃ RR, RR = decide (xs.map (·.1) = ys.map (·.1)) := ⟨_, rfl⟩
  rw [← hRR]
  have HRR := Lib.hid hRR
  obtain ⟨n, hn⟩ : ∃ n, n = xs.length := ⟨_, rfl⟩
  obtain ⟨m, hm⟩ : ∃ m, m = ys.length := ⟨_, rfl⟩
  rw [← hn] at l1 ⊢
  rw [← hm] at k1 ⊢
  have HN := Lib.hid hn
  have HM := Lib.hid hm
  clear l3 k3 hn hm hxs hys hRR
  by_cases he : n = m
  · subst he
    go_enter Tryz.func28, Tryz.ntmps28
    go_wp2
    go_loopw [5] (fun i wr => ∃ k : Nat, k ≤ n ∧ i = .int .i64 k ∧ Hid (∀ j, j < k → xs[j]?.map (·.1) = ys[j]?.map (·.1)) ∧ Hid (Below w.heap.size w wr)) (fun i _ => n - (intOf i).toNat)
    case atStart => exact ⟨0, by omega, rfl, by intro j hj; omega, Below.refl _ _⟩
    case round =>
      obtain ⟨k, hk, rfl, hall, hB⟩ := hrel
      by_cases hlt : k < n
      · obtain ⟨x, ex⟩ : ∃ x, xs[k]? = some x := ⟨_, List.getElem?_eq_getElem (by rw [← HN.out]; exact hlt)⟩
        obtain ⟨y, ey⟩ : ∃ y, ys[k]? = some y := ⟨_, List.getElem?_eq_getElem (by rw [← HM.out]; exact hlt)⟩
        obtain ⟨b, off, rfl, hb, c0, c1, c2⟩ := HX.out k x ex
        obtain ⟨b', off', rfl, hb', d0, d1, d2⟩ := HY.out k y ey
        have c0 := cell_keepB hB.out hb c0
        have c1 := cell_keepB hB.out hb c1
        have c2 := cell_keepB hB.out hb c2
        have d0 := cell_keepB hB.out hb' d0
        have d1 := cell_keepB hB.out hb' d1
        have d2 := cell_keepB hB.out hb' d2
        have EX := Lib.hid ex
        have EY := Lib.hid ey
        have hsx := HXS.out.2 x (List.mem_of_getElem? ex)
        have hsy := HYS.out.2 y (List.mem_of_getElem? ey)
        have HF : Hid (x.1 ≠ y.1 → RR = false) := Lib.hid (fun hne => by
          rw [HRR.out]
          apply decide_eq_false
          intro e
          have h1 := congrArg (fun l => l[k]?) e
          simp only [List.getElem?_map, EX.out, EY.out, Option.map_some] at h1
          exact hne (Option.some.inj h1))
        clear ex ey
        obtain ⟨⟨i1, e1, p1⟩, v1⟩ := x
        obtain ⟨⟨i2, e2, p2⟩, v2⟩ := y
        simp only at c0 c1 c2 d0 d1 d2 hsx hsy HF
        obtain ⟨pa, pn, pc, hv1⟩ : ∃ pa pn pc, v1 = .slice pa pn pc := by obtain ⟨pa, pc, h, _⟩ := hsx.opened; exact ⟨_, _, _, h⟩
        obtain ⟨qa, qn, qc, hv2⟩ : ∃ pa pn pc, v2 = .slice pa pn pc := by obtain ⟨pa, pc, h, _⟩ := hsy.opened; exact ⟨_, _, _, h⟩
        subst hv1 hv2
        have HSm := Lib.hid (fun q => same2_any (hsx.below (below_drewN hB.out q)) (hsy.below (below_drewN hB.out q)))
        clear hsx hsy
        have u1 : (0 : Int) ≤ (k : Int) := by omega
        have u2 : (k : Int) < (n : Int) := by omega
        by_cases hi : i1 = i2
        · have bi : (i1 != i2) = false := by simp [hi]
          by_cases hen : e1 = e2
          · have bs : (e1.toList == e2.toList) = true := by rw [same_str]; exact decide_eq_true hen
            by_cases hpr : p1 = p2
            · have HA : Hid (∀ j, j < k + 1 → xs[j]?.map (·.1) = ys[j]?.map (·.1)) := Lib.hid (fun j hj => by
                by_cases hjk : j = k
                · subst hjk
                  rw [EX.out, EY.out, Option.map_some, Option.map_some, hi, hen, hpr]
                · exact hall.out j (by omega))
              have HSm2 := Lib.hid (fun q => HSm.out q)
              rw [decide_eq_true hpr] at HSm2
              clear hi hen hpr HF HSm
              go_wp2
              refine wp_region_quiet_tail 35 (fun w' => ∃ n, w' = wr.drewN n) (by kernel_rfl) (by kernel_rfl) ⟨1, rfl⟩ ?_
              simp only [List.take_succ_cons, List.take_zero, List.drop_succ_cons, List.drop_zero]
              repeat (go_big_quiet_step (fail))
              refine wpQuiet_nil ?_
              rintro _ ⟨nq, rfl⟩
              have HS3 := Lib.hid (HSm2.out nq)
              go_wp2_with (go_at_call 39; refine HS3.out.mono ?_; rintro e w5 ⟨rfl, hb5⟩)
              go_roundw
              case rel => exact ⟨k + 1, by omega, by go_num, HA, (below_drewN hB.out nq).trans (hb5.mono (below_drewN hB.out nq).size)⟩
              case measure => simp [intOf]; omega
            · have HF2 : Hid (RR = false) := Lib.hid (HF.out (fun e => hpr (ItemP.mk.inj e).2.2))
              have HSm2 := Lib.hid (fun q => HSm.out q)
              rw [decide_eq_false hpr] at HSm2
              clear hi hen hpr HF HSm
              go_wp2
              refine wp_region_quiet_tail 35 (fun w' => ∃ n, w' = wr.drewN n) (by kernel_rfl) (by kernel_rfl) ⟨1, rfl⟩ ?_
              simp only [List.take_succ_cons, List.take_zero, List.drop_succ_cons, List.drop_zero]
              repeat (go_big_quiet_step (fail))
              refine wpQuiet_nil ?_
              rintro _ ⟨nq, rfl⟩
              have HS3 := Lib.hid (HSm2.out nq)
              go_wp2_with (go_at_call 39; refine HS3.out.mono ?_; rintro e w5 ⟨rfl, hb5⟩)
              go_ret
              exact ⟨ret_bool HF2.out.symm, (below_drewN hB.out nq).trans (hb5.mono (below_drewN hB.out nq).size)⟩
          · have bs : (e1.toList == e2.toList) = false := by rw [same_str]; exact decide_eq_false hen
            have HF2 : Hid (RR = false) := Lib.hid (HF.out (fun e => hen (ItemP.mk.inj e).2.1))
            clear hi hen HF HSm
            go_wp2
            go_quiet (fail)
            go_wp2
            go_ret
            exact ⟨ret_bool HF2.out.symm, below_drewN hB.out nq⟩
        · have bi : (i1 != i2) = true := by simp [hi]
          have HF2 : Hid (RR = false) := Lib.hid (HF.out (fun e => hi (ItemP.mk.inj e).1))
          clear hi HF HSm
          go_wp2
          go_quiet (fail)
          go_wp2
          go_ret
          exact ⟨ret_bool HF2.out.symm, below_drewN hB.out nq⟩
      · have HT : Hid (RR = true) := Lib.hid (by
          rw [HRR.out]
          refine decide_eq_true (List.ext_getElem? (fun j => ?_))
          rw [List.getElem?_map, List.getElem?_map]
          by_cases hj : j < k
          · exact hall.out j hj
          · rw [List.getElem?_eq_none (by rw [← HN.out]; omega), List.getElem?_eq_none (by rw [← HM.out]; omega)])
        go_wp2
        go_ret
        exact ⟨ret_bool HT.out.symm, hB.out⟩
  · have HF : Hid (RR = false) := Lib.hid (by
      rw [HRR.out]
      refine decide_eq_false (fun e => he ?_)
      have := congrArg List.length e
      rw [List.length_map, List.length_map] at this
      rw [HN.out, HM.out, this])
    have h' : ((n : Int) != (m : Int)) = true := by simp; omega
    go_enter Tryz.func28, Tryz.ntmps28
    go_wp2
    go_ret
    exact ⟨ret_bool HF.out.symm, Below.refl _ _⟩
end Go.Proofs.YtinfpbkbnhcifaaGreatDoor

/- Items opened; Join where parts of one register are known; lists that are turned. The conditions: lengths, bounds. -/
namespace Go.Proofs.YtinfpbkbnhcifaaGreatDoor
open Go.RowKit Go.BigFrame

theorem IT.opened {w : World} {v : Value} {its : List ItemP} (h : IT w v its) : ∃ a cap, v = .slice a its.length cap ∧ its.length ≤ cap ∧ cap ≤ maxLen ∧
    ∀ k x, its[k]? = some x → ∃ b off pv, a = some ⟨b, off, none⟩ ∧ b < w.heap.size ∧ w.cell? ⟨b, off + k * 3, none⟩ = some (.int .i64 x.idx) ∧ w.cell? ⟨b, off + k * 3 + 1, none⟩ = some (.string x.ent) ∧ w.cell? ⟨b, off + k * 3 + 2, none⟩ = some pv ∧ SS w pv x.prf := by
  obtain ⟨ys, rfl, h⟩ := h
  obtain ⟨a, cap, h1, h2, h3, h4⟩ := h.is.opened
  refine ⟨a, cap, by rw [h1, List.length_map], by rw [List.length_map]; exact h2, h3, fun k x hk => ?_⟩
  rw [List.getElem?_map] at hk
  obtain ⟨y, hy, rfl⟩ := Option.map_eq_some_iff.1 hk
  obtain ⟨b, off, e, hb, c0, c1, c2⟩ := h4 k y hy
  exact ⟨b, off, y.2, e, hb, c0, c1, c2, h.is.2 y (List.mem_of_getElem? hy)⟩
/-- Sizes and indices in bounds. -/
def QOk (m : Nat) (q : List (Nat × List Nat)) : Prop := ∀ y ∈ q, y.1 ≤ m ∧ y.2.Pairwise (· < ·) ∧ (∀ i ∈ y.2, i < y.1) ∧ y.2.length ≤ 60
theorem QOk.nil (m : Nat) : QOk m [] := fun _ h => absurd h List.not_mem_nil
theorem QOk.snoc {m : Nat} {q : List (Nat × List Nat)} (h : QOk m q) (n : Nat) (hn : n ≤ m) (hm : m ≤ 60) (bits : Int) : QOk m (q ++ [(n, idxS bits n)]) := by
  intro y hy
  rcases List.mem_append.1 hy with hy | hy
  · exact h y hy
  · rw [List.mem_singleton] at hy
    subst hy
    refine ⟨hn, idxS_asc _ _, idxS_lt _ _, ?_⟩
    have := idxI_len bits n
    unfold idxI at this
    rw [List.length_map] at this
    show (idxS bits n).length ≤ 60
    omega
theorem partsS_snoc (key : ByteArray) (car : Int) (xs : List ByteArray) (q : List (Nat × List Nat)) (y : Nat × List Nat) : partsS key car xs (q ++ [y]) = partsS key car xs q ++ [partS key car xs y.1 y.2] := by
  unfold partsS; rw [List.map_append]; rfl
theorem join_ps {w0 wr : World} {ls : List Dat} (k : Know w0 wr ls) {v : Value} {zs : List (PartP × Value)} (hp : PS wr v zs) {key : ByteArray} {car : Int} {xs : List ByteArray} {q : List (Nat × List Nat)} (hz : zs.map (·.1) = partsS key car xs q) (hk : key.size = 32) (hv : validB ⟨car, xs⟩ = true) (hq : QOk xs.length q) (hl : q.length ≤ 100) :
    Calls Tryz.prog 26 #[.string key, v] wr fun e w' => ∃ r, e = .returned (.tuple #[r, .int .i64 (-1), .int .i64 (-1), .int .i64 0]) ∧ IT w' r (joinedS xs (seenS q)) ∧ Below wr.heap.size wr w' := by
  have hx : xs.length ≤ 60 := (valid_parts hv).2.2.1
  have k' : Know wr wr ([] ++ [Dat.P v (partsS key car xs q)]) := (Know.start k.env k.tab).put (d := .P v (partsS key car xs q)) ⟨zs, hz, hp⟩
  refine (join_at k' 0 rfl key (by omega) (by unfold partsS; rw [List.length_map]; omega) (fun p hp => ?_) _ _ _ (joined_is hk hv (fun y hy => ⟨(hq y hy).1, (hq y hy).2.1, (hq y hy).2.2.1⟩))).mono ?_
  · unfold partsS at hp
    obtain ⟨y, hy, rfl⟩ := List.mem_map.1 hp
    exact fit_part key car xs y.1 y.2 (by have := (hq y hy).2.2.2; omega) (by omega)
  · rintro e w' ⟨r, rfl, k2⟩
    exact ⟨r, rfl, k2.all 1 _ rfl, k2.below⟩
theorem turn_map {α β : Type} (f : α → β) (q : List α) (c k : Nat) : (turnL q c k).map f = turnL (q.map f) c k := by
  unfold turnL
  rw [List.map_filterMap, List.length_map]
  congr 1
  funext i
  rw [List.getElem?_map]
theorem parts_turn (key : ByteArray) (car : Int) (xs : List ByteArray) (q : List (Nat × List Nat)) (c k : Nat) : partsS key car xs (turnL q c k) = turnL (partsS key car xs q) c k := turn_map _ q c k
theorem QOk.turn {m : Nat} {q : List (Nat × List Nat)} (h : QOk m q) (c k : Nat) : QOk m (turnL q c k) := by
  intro y hy
  unfold turnL at hy
  obtain ⟨i, _, e⟩ := List.mem_filterMap.1 hy
  exact h y (List.mem_of_getElem? e)
theorem QOk.app {m : Nat} {q : List (Nat × List Nat)} (h : QOk m q) {y : Nat × List Nat} (hy : y ∈ q) {q' : List (Nat × List Nat)} (h' : QOk m q') : QOk m (q' ++ [y]) := by
  intro z hz
  rcases List.mem_append.1 hz with hz | hz
  · exact h' z hz
  · rw [List.mem_singleton.1 hz]; exact h y hy
theorem JAt.start (W1 : World) : JAt W1 (W1.alloc (.cells (boolsS (seenS [])) 75)) (seenS []) (.slice none 0 0) [] :=
  ⟨(Below.refl _ _).alloc (Nat.le_refl _) _, heap_alloc_new _ _, OwnE.nil _ _ _ _, fun _ h => absurd h List.not_mem_nil⟩
theorem zeroSeen : ZeroIs Tryz.prog 75 (boolsS (seenS [])) := fun w => by kernel_rfl
theorem QOk.lt {m : Nat} {q : List (Nat × List Nat)} (h : QOk m q) {i : Nat} (hi : seenS q i = true) : i < m := seen_lt (fun y hy j hj => Nat.lt_of_lt_of_le ((h y hy).2.2.1 j hj) (h y hy).1) hi
/-- What a box of a part gives, whatever is made behind it. -/
theorem Know.reg {w0 w W : World} {ls : List Dat} (k : Know w0 w ls) (hb : Below w.heap.size w W) {i b : Nat} {c0 c1 : Value} {T : TypeId} (hi : ls[i]? = some (.B b #[c0, c1] T)) : W.cell? ⟨b, 0, none⟩ = some c0 ∧ W.cell? ⟨b, 1, none⟩ = some c1 := (k.step hb).duo hi
theorem show_ix {w0 w : World} {ls : List Dat} (k : Know w0 w ls) (i : Nat) {v vl : Value} {xs : List ByteArray} (hi : ls[i]? = some (.S v xs)) (is : List Nat) (hl : IL w vl (is.map fun i : Nat => (i : Int))) (key : ByteArray) (car : Int) (n : Nat) (hk : key.size = 32) (hv : validB ⟨car, xs⟩ = true) (hn : n ≤ xs.length) (hp : is.Pairwise (· < ·)) (hlt : ∀ i ∈ is, i < n) (hll : is.length ≤ 1000) :
    Calls Tryz.prog 18 #[.string key, .agg #[.int .i64 car, v], .int .i64 n, vl] w fun e w' => ∃ iv, e = .returned (.tuple #[.agg (pbox (partS key car xs n is) iv), .int .i64 0]) ∧ IT w' iv (partS key car xs n is).items ∧ Below w.heap.size w w' :=
  (show_at (k.here.put (d := .N vl _) hl) i ls.length (get_app hi) is get_new key car n hk hv hn hp hlt hll).mono fun _ _ ⟨iv, e, k'⟩ => ⟨iv, e, k'.all (ls.length + 1) (.I iv _) (by simp), k'.below⟩
theorem Below.stepA {w W : World} (h : Below w.heap.size w W) (o : Obj) : Below w.heap.size w (W.alloc o) := h.alloc h.size o
theorem Below.stepD {w W : World} (h : Below w.heap.size w W) : Below w.heap.size w W.drew := below_drewN h 1
theorem Below.next {w W W' : World} (h : Below w.heap.size w W) (h' : Below W.heap.size W W') : Below w.heap.size w W' := h.trans (h'.mono h.size)
theorem IL.stepA {W : World} {v : Value} {l : List Int} (h : IL W v l) (o : Obj) : IL (W.alloc o) v l := h.below ((Below.refl _ _).alloc (Nat.le_refl _) _)
theorem IL.stepD {W : World} {v : Value} {l : List Int} (h : IL W v l) : IL W.drew v l := h.below (below_drewN (Below.refl _ _) 1)
def zpart : Obj := .cells #[.int .i64 0, .int .i64 0, .string ⟨#[]⟩, .string ⟨#[]⟩, .slice none 0 0] 38 (0, 0)
theorem zpart_cells {W : World} {b : Nat} (h : W.heap[b]? = some zpart) : W.cell? ⟨b, 0, none⟩ = some (.int .i64 0) ∧ W.cell? ⟨b, 1, none⟩ = some (.int .i64 0) ∧ W.cell? ⟨b, 2, none⟩ = some (.string ⟨#[]⟩) ∧ W.cell? ⟨b, 3, none⟩ = some (.string ⟨#[]⟩) ∧ W.cell? ⟨b, 4, none⟩ = some (.slice none 0 0) ∧ ∀ j, W.frozen? ⟨b, j, none⟩ = false :=
  ⟨cell_of_row W _ 0 _ _ _ h, cell_of_row W _ 1 _ _ _ h, cell_of_row W _ 2 _ _ _ h, cell_of_row W _ 3 _ _ _ h, cell_of_row W _ 4 _ _ _ h, fun j => by unfold World.frozen?; rw [h]; simp [zpart]⟩
end Go.Proofs.YtinfpbkbnhcifaaGreatDoor
