/- A region that draws its order, in which calls wait for one another and all else only looks at cells that are kept: one walk in the text's order serves. The conditions are closed facts of the region. -/
import Derived.Deep.RegionHeld3
namespace Go.Proofs.YtinfpbkbnhcifaaGreatDoor

/-- Which operations have come up: the first k. -/
def firstK (s k : Nat) : Array Bool := ((List.range s).map fun j => decide (j < k)).toArray
theorem firstK_zero (s : Nat) : firstK s 0 = Array.replicate s false := by
  apply Array.ext
  · simp [firstK]
  · intro i h1 h2
    simp [firstK]
theorem firstK_succ (s k : Nat) : (firstK s k).setIfInBounds k true = firstK s (k + 1) := by
  apply Array.ext
  · simp [firstK]
  · intro i h1 h2
    rw [Array.getElem_setIfInBounds (by simpa using h1)]
    by_cases h : k = i
    · subst h; simp [firstK]
    · rw [if_neg h]
      simp only [firstK, List.getElem_toArray, List.getElem_map, List.getElem_range, decide_eq_decide]
      omega

theorem firstK_getD (s k j : Nat) (d : Bool) : (firstK s k).getD j d = if j < s then decide (j < k) else d := by
  unfold firstK Array.getD
  by_cases h : j < s
  · simp [h]
  · simp [h]

/-- What is asked of the region: closed facts. 'bigs': the calls. -/
def lexHB (md : Region.Mode) (ops : Array Oper) (bigs : List Nat) : Bool :=
  Region.noSelect ops && ((List.range ops.size).all fun k => match ops[k]? with
    | none => false
    | some ok => (ok.after.all fun e => !Region.binds md e || decide (e.on < k)) && ((List.range ops.size).all fun j => decide (j ≤ k) || match ops[j]? with
      | none => true
      | some oj => if bigs.contains k = true then oj.after.any (fun e => Region.binds md e && decide (k ≤ e.on)) else (oj.after.any (fun e => Region.binds md e && e.on == k) || ok.apart ops oj)))

section
variable {P : Program} {ops : Array Oper} {Q : Exit → Act → World → Prop} {md : Region.Mode} {S : World → Prop} {bigs : List Nat}

/-- The walk in the text's order. -/
def wpLex (P : Program) (ops : Array Oper) (bigs : List Nat) (S : World → Prop) (Q : Exit → Act → World → Prop) : Nat → List Oper → Act → World → Prop
  | _, [], a, w => Q .normal a w
  | k, o :: rest, a, w => if bigs.contains k = true then wpOp P ops Q k (fun a' w' => S w' ∧ wpLex P ops bigs S Q (k + 1) rest a' w') a w else ∃ v, YieldsIf P ops S o v a ∧ wpLex P ops bigs S Q (k + 1) rest (a.put o.dst v) w

theorem wpLex_take {k : Nat} {o : Oper} {rest : List Oper} {v : Value} {a : Act} {w : World} (hk : bigs.contains k = false) (hy : YieldsIf P ops S o v a) (h : wpLex P ops bigs S Q (k + 1) rest (a.put o.dst v) w) : wpLex P ops bigs S Q k (o :: rest) a w := by
  unfold wpLex
  rw [if_neg (by rw [hk]; simp)]
  exact ⟨v, hy, h⟩
theorem wpLex_big {k : Nat} {o : Oper} {rest : List Oper} {a : Act} {w : World} (hk : bigs.contains k = true) (ho : ops[k]? = some o)
    (h : ∀ K' : Act → World → Prop, Shut (∀ a w, S w → (S w → wpLex P ops bigs S Q (k + 1) rest a w) → K' a w) → if Region.wanted o (yielded ops a.tmps) = true then Oper.wp P o a w K' Q else K' (a.put o.dst undef) w) : wpLex P ops bigs S Q k (o :: rest) a w := by
  unfold wpLex
  rw [if_pos hk]
  exact wpOp_step ho (fun K' hK => h K' (fun a w hS hW => hK a w ⟨hS, hW hS⟩))

theorem wpLex_nil {k : Nat} {a : Act} {w : World} (h : Q .normal a w) : wpLex P ops bigs S Q k [] a w := by
  unfold wpLex
  exact h
theorem wpAnyH_of_lex (hB : lexHB md ops bigs = true) (hQ : ∀ (c : _) (a : Act) (d : Option Tmp) (v : Value) (w : World), Q (.panic c) (a.put d v) w → Q (.panic c) a w) : ∀ (l : List Oper) (k : Nat) (a : Act) (w : World), ops.toList.drop k = l → k ≤ ops.size → S w → wpLex P ops bigs S Q k l a w → wpAnyH P md ops Q S (ops.size - k) (firstK ops.size k) a w := by
  simp only [lexHB, Bool.and_eq_true] at hB
  obtain ⟨hs, hall⟩ := hB
  rw [List.all_eq_true] at hall
  intro l
  induction l with
  | nil =>
    intro k a w hl hk hS h
    have hk' : k = ops.size := by
      have := congrArg List.length hl
      simp at this
      omega
    subst hk'
    unfold wpLex at h
    rw [Nat.sub_self]
    refine ⟨?_, h⟩
    apply List.eq_nil_iff_forall_not_mem.2
    intro i hi
    obtain ⟨h1, o, ho, _⟩ := mem_ready.1 hi
    have hlt := (Array.getElem?_eq_some_iff.1 ho).1
    rw [firstK_getD, if_pos hlt] at h1
    simp at h1
    omega
  | cons o rest ih =>
    intro k a w hl hk hS h
    have hk' : k < ops.size := by
      have := congrArg List.length hl
      simp at this
      omega
    have ho : ops[k]? = some o := by
      have h1 : (ops.toList.drop k)[0]? = some o := by rw [hl]; rfl
      rw [List.getElem?_drop] at h1
      simpa using h1
    have hr : ops.toList.drop (k + 1) = rest := by
      have : (ops.toList.drop k).drop 1 = rest := by rw [hl]; rfl
      rwa [List.drop_drop] at this
    have hc := hall k (List.mem_range.2 hk')
    rw [ho] at hc
    simp only [Bool.and_eq_true] at hc
    obtain ⟨hc1, hc2⟩ := hc
    rw [List.all_eq_true] at hc2
    have hin : k ∈ Region.ready md ops (firstK ops.size k) := by
      refine mem_ready.2 ⟨by rw [firstK_getD, if_pos hk']; simp, o, ho, fun e he hb => ?_⟩
      have h2 := (Array.all_eq_true'.1 hc1) e he
      rw [hb] at h2
      simp only [Bool.not_true, Bool.false_or, decide_eq_true_eq] at h2
      rw [firstK_getD, if_pos (by omega)]
      simpa using h2
    rw [show ops.size - k = (ops.size - (k + 1)) + 1 by omega]
    unfold wpLex at h
    cases hb : bigs.contains k
    · rw [hb, if_neg (by simp)] at h
      obtain ⟨v, hy, h⟩ := h
      refine wpAnyH_first ho (Region.noSelect_spec hs) (fun c a w hq => hQ c a _ _ w hq) _ _ a w ?_ hin hy hS ?_
      · intro j oj hoj hne hun hno
        have hlt := (Array.getElem?_eq_some_iff.1 hoj).1
        rw [firstK_getD, if_pos hlt] at hun
        have hjk : ¬ j < k := by simpa using hun
        have h2 := hc2 j (List.mem_range.2 hlt)
        rw [hoj] at h2
        simp only [hb, Bool.false_eq_true, if_false, Bool.or_eq_true, decide_eq_true_eq] at h2
        rcases h2 with h2 | h2 | h2
        · omega
        · obtain ⟨e, he, hbe⟩ := Array.any_eq_true'.1 h2
          simp only [Bool.and_eq_true, beq_iff_eq] at hbe
          exact absurd hbe.2 (hno e he hbe.1)
        · exact h2
      · rw [firstK_succ]
        exact ih (k + 1) _ w hr (by omega) hS h
    · rw [hb, if_pos rfl] at h
      have hne : Region.ready md ops (firstK ops.size k) = [] → Q .normal a w := by
        intro h0
        rw [h0] at hin
        cases hin
      refine ⟨hne, fun i hi => ?_⟩
      have hik : i = k := by
        obtain ⟨h1, oi, hoi, h3⟩ := mem_ready.1 hi
        have hlt := (Array.getElem?_eq_some_iff.1 hoi).1
        rw [firstK_getD, if_pos hlt] at h1
        have hjk : ¬ i < k := by simpa using h1
        have h2 := hc2 i (List.mem_range.2 hlt)
        rw [hoi] at h2
        simp only [hb, if_true, Bool.or_eq_true, decide_eq_true_eq] at h2
        rcases h2 with h2 | h2
        · omega
        · obtain ⟨e, he, hbe⟩ := Array.any_eq_true'.1 h2
          simp only [Bool.and_eq_true, decide_eq_true_eq] at hbe
          have h4 := h3 e he hbe.1
          rw [firstK_getD] at h4
          split at h4
          · simp at h4; omega
          · cases h4
      subst hik
      refine wpOp_mono (fun a' w' hh => ⟨hh.1, ?_⟩) h
      rw [firstK_succ]
      exact ih (i + 1) a' w' hr (by omega) hh.1 hh.2

theorem wp_region_lex {id : Nat} {l : List Oper} {a : Act} {w : World} (bigs : List Nat) (S : World → Prop) (hm : P.follows .mixedOrders = true) (hB : lexHB .any l.toArray bigs = true) (hQ : ∀ (c : _) (a : Act) (d : Option Tmp) (v : Value) (w : World), Q (.panic c) (a.put d v) w → Q (.panic c) a w)
    (hS : S w.drew) (h : wpLex P l.toArray bigs S Q 0 l a w.drew) : (Code.region id l.toArray true).wp P Q a w := by
  refine wp_region_held_drew (S := S) hm hS (fun hS => ?_)
  have := wpAnyH_of_lex (P := P) hB hQ l 0 a w.drew (by simp) (by omega) hS h
  rw [firstK_zero] at this
  exact this
end
end Go.Proofs.YtinfpbkbnhcifaaGreatDoor

/- A region that draws its order, in which calls wait for one another and all else only looks at cells that are kept: one walk in a given order serves. The conditions are closed facts of the region. -/
namespace Go.Proofs.YtinfpbkbnhcifaaGreatDoor

/-- Which operations have come up. -/
def tookA (s : Nat) (t : List Nat) : Array Bool := ((List.range s).map fun j => t.contains j).toArray
theorem tookA_nil (s : Nat) : tookA s [] = Array.replicate s false := by
  apply Array.ext
  · simp [tookA]
  · intro i h1 h2
    simp [tookA]
theorem tookA_cons (s k : Nat) (t : List Nat) : (tookA s t).setIfInBounds k true = tookA s (k :: t) := by
  apply Array.ext
  · simp [tookA]
  · intro i h1 h2
    rw [Array.getElem_setIfInBounds (by simpa using h1)]
    by_cases h : k = i
    · subst h; simp [tookA]
    · rw [if_neg h]
      simp [tookA]
      exact fun e => absurd e.symm h
theorem tookA_getD (s j : Nat) (t : List Nat) (d : Bool) : (tookA s t).getD j d = if j < s then t.contains j else d := by
  unfold tookA Array.getD
  by_cases h : j < s
  · simp [h]
  · simp [h]

/-- What is asked of the region: closed facts. 'bigs': the calls. 'ord': the order. -/
def lexOC (md : Region.Mode) (ops : Array Oper) (bigs : List Nat) : List Nat → List Nat → Bool
  | t, [] => (List.range ops.size).all fun j => t.contains j
  | t, k :: rest => (match ops[k]? with
    | none => false
    | some ok => !t.contains k && (ok.after.all fun e => !Region.binds md e || (t.contains e.on && decide (e.on < ops.size))) && ((List.range ops.size).all fun j => t.contains j || j == k || match ops[j]? with
      | none => true
      | some oj => if bigs.contains k = true then oj.after.any (fun e => Region.binds md e && !t.contains e.on) else (oj.after.any (fun e => Region.binds md e && e.on == k) || ok.apart ops oj))) && lexOC md ops bigs (k :: t) rest
def lexOB (md : Region.Mode) (ops : Array Oper) (bigs ord : List Nat) : Bool := Region.noSelect ops && lexOC md ops bigs [] ord

section
variable {P : Program} {ops : Array Oper} {Q : Exit → Act → World → Prop} {md : Region.Mode} {S : World → Prop} {bigs : List Nat}

/-- The walk in the given order. -/
def wpLexO (P : Program) (ops : Array Oper) (bigs : List Nat) (S : World → Prop) (Q : Exit → Act → World → Prop) : List Nat → Act → World → Prop
  | [], a, w => Q .normal a w
  | k :: rest, a, w => ∃ o, ops[k]? = some o ∧ if bigs.contains k = true then wpOp P ops Q k (fun a' w' => S w' ∧ wpLexO P ops bigs S Q rest a' w') a w else ∃ v, YieldsIf P ops S o v a ∧ wpLexO P ops bigs S Q rest (a.put o.dst v) w

theorem wpLexO_take {k : Nat} {o : Oper} {rest : List Nat} {v : Value} {a : Act} {w : World} (ho : ops[k]? = some o) (hk : bigs.contains k = false) (hy : YieldsIf P ops S o v a) (h : wpLexO P ops bigs S Q rest (a.put o.dst v) w) : wpLexO P ops bigs S Q (k :: rest) a w := by
  unfold wpLexO
  refine ⟨o, ho, ?_⟩
  rw [if_neg (by rw [hk]; simp)]
  exact ⟨v, hy, h⟩
theorem wpLexO_big {k : Nat} {o : Oper} {rest : List Nat} {a : Act} {w : World} (ho : ops[k]? = some o) (hk : bigs.contains k = true)
    (h : ∀ K' : Act → World → Prop, Shut (∀ a w, S w → (S w → wpLexO P ops bigs S Q rest a w) → K' a w) → if Region.wanted o (yielded ops a.tmps) = true then Oper.wp P o a w K' Q else K' (a.put o.dst undef) w) : wpLexO P ops bigs S Q (k :: rest) a w := by
  unfold wpLexO
  refine ⟨o, ho, ?_⟩
  rw [if_pos hk]
  exact wpOp_step ho (fun K' hK => h K' (fun a w hS hW => hK a w ⟨hS, hW hS⟩))
/-- The same, the operations a list: so that 'rfl' finds the operation written out. -/
theorem wpLexO_takeL {l : List Oper} {k : Nat} {o : Oper} {rest : List Nat} {v : Value} {a : Act} {w : World} (ho : l[k]? = some o) (hk : bigs.contains k = false) (hy : YieldsIf P l.toArray S o v a) (h : wpLexO P l.toArray bigs S Q rest (a.put o.dst v) w) : wpLexO P l.toArray bigs S Q (k :: rest) a w :=
  wpLexO_take (by rw [List.getElem?_toArray]; exact ho) hk hy h
theorem wpLexO_bigL {l : List Oper} {k : Nat} {o : Oper} {rest : List Nat} {a : Act} {w : World} (ho : l[k]? = some o) (hk : bigs.contains k = true)
    (h : ∀ K' : Act → World → Prop, Shut (∀ a w, S w → (S w → wpLexO P l.toArray bigs S Q rest a w) → K' a w) → if Region.wanted o (yielded l.toArray a.tmps) = true then Oper.wp P o a w K' Q else K' (a.put o.dst undef) w) : wpLexO P l.toArray bigs S Q (k :: rest) a w :=
  wpLexO_big (by rw [List.getElem?_toArray]; exact ho) hk h
theorem wpLexO_nil {a : Act} {w : World} (h : Q .normal a w) : wpLexO P ops bigs S Q [] a w := by
  unfold wpLexO
  exact h
theorem wpAnyH_of_lexO (hs : Region.noSelect ops = true) (hQ : ∀ (c : _) (a : Act) (d : Option Tmp) (v : Value) (w : World), Q (.panic c) (a.put d v) w → Q (.panic c) a w) : ∀ (l t : List Nat) (a : Act) (w : World), lexOC md ops bigs t l = true → S w → wpLexO P ops bigs S Q l a w → wpAnyH P md ops Q S l.length (tookA ops.size t) a w := by
  intro l
  induction l with
  | nil =>
    intro t a w hc hS h
    unfold wpLexO at h
    unfold lexOC at hc
    rw [List.all_eq_true] at hc
    refine ⟨?_, h⟩
    apply List.eq_nil_iff_forall_not_mem.2
    intro i hi
    obtain ⟨h1, o, ho, _⟩ := mem_ready.1 hi
    have hlt := (Array.getElem?_eq_some_iff.1 ho).1
    rw [tookA_getD, if_pos hlt] at h1
    have h2 := hc i (List.mem_range.2 hlt)
    rw [h1] at h2
    cases h2
  | cons k rest ih =>
    intro t a w hc hS h
    unfold lexOC at hc
    unfold wpLexO at h
    obtain ⟨o, ho, h⟩ := h
    have hk' : k < ops.size := (Array.getElem?_eq_some_iff.1 ho).1
    rw [ho] at hc
    simp only [Bool.and_eq_true] at hc
    obtain ⟨⟨⟨hc0, hc1⟩, hc2⟩, hc3⟩ := hc
    rw [List.all_eq_true] at hc2
    have hin : k ∈ Region.ready md ops (tookA ops.size t) := by
      refine mem_ready.2 ⟨by rw [tookA_getD, if_pos hk']; simpa using hc0, o, ho, fun e he hb => ?_⟩
      have h2 := (Array.all_eq_true'.1 hc1) e he
      rw [hb] at h2
      simp only [Bool.not_true, Bool.false_or, Bool.and_eq_true, decide_eq_true_eq] at h2
      rw [tookA_getD, if_pos h2.2]
      exact h2.1
    show wpAnyH P md ops Q S (rest.length + 1) (tookA ops.size t) a w
    cases hb : bigs.contains k
    · rw [hb, if_neg (by simp)] at h
      obtain ⟨v, hy, h⟩ := h
      refine wpAnyH_first ho (Region.noSelect_spec hs) (fun c a w hq => hQ c a _ _ w hq) _ _ a w ?_ hin hy hS ?_
      · intro j oj hoj hne hun hno
        have hlt := (Array.getElem?_eq_some_iff.1 hoj).1
        rw [tookA_getD, if_pos hlt] at hun
        have h2 := hc2 j (List.mem_range.2 hlt)
        rw [hoj, hun] at h2
        simp only [hb, Bool.false_eq_true, if_false, Bool.or_eq_true, beq_iff_eq, false_or] at h2
        rcases h2 with h2 | h2 | h2
        · exact absurd h2 hne
        · obtain ⟨e, he, hbe⟩ := Array.any_eq_true'.1 h2
          simp only [Bool.and_eq_true, beq_iff_eq] at hbe
          exact absurd hbe.2 (hno e he hbe.1)
        · exact h2
      · rw [tookA_cons]
        exact ih (k :: t) _ w hc3 hS h
    · rw [hb, if_pos rfl] at h
      have hne : Region.ready md ops (tookA ops.size t) = [] → Q .normal a w := by
        intro h0
        rw [h0] at hin
        cases hin
      refine ⟨hne, fun i hi => ?_⟩
      have hik : i = k := by
        obtain ⟨h1, oi, hoi, h3⟩ := mem_ready.1 hi
        have hlt := (Array.getElem?_eq_some_iff.1 hoi).1
        rw [tookA_getD, if_pos hlt] at h1
        have h2 := hc2 i (List.mem_range.2 hlt)
        rw [hoi, h1] at h2
        simp only [hb, if_true, Bool.or_eq_true, beq_iff_eq, Bool.false_eq_true, false_or] at h2
        rcases h2 with h2 | h2
        · exact h2
        · obtain ⟨e, he, hbe⟩ := Array.any_eq_true'.1 h2
          simp only [Bool.and_eq_true] at hbe
          have h4 := h3 e he hbe.1
          rw [tookA_getD] at h4
          have h5 := hbe.2
          split at h4
          · rw [h4] at h5; cases h5
          · cases h4
      subst hik
      refine wpOp_mono (fun a' w' hh => ⟨hh.1, ?_⟩) h
      rw [tookA_cons]
      exact ih (i :: t) a' w' hc3 hh.1 hh.2

theorem wp_region_lexO {id : Nat} {l : List Oper} {a : Act} {w : World} (bigs ord : List Nat) (S : World → Prop) (hm : P.follows .mixedOrders = true) (hB : lexOB .any l.toArray bigs ord = true) (hl : ord.length = l.length) (hQ : ∀ (c : _) (a : Act) (d : Option Tmp) (v : Value) (w : World), Q (.panic c) (a.put d v) w → Q (.panic c) a w)
    (hS : S w.drew) (h : wpLexO P l.toArray bigs S Q ord a w.drew) : (Code.region id l.toArray true).wp P Q a w := by
  unfold lexOB at hB
  rw [Bool.and_eq_true] at hB
  refine wp_region_held_drew (S := S) hm hS (fun hS => ?_)
  have := wpAnyH_of_lexO (P := P) hB.1 hQ ord [] a w.drew hB.2 hS h
  rw [tookA_nil, hl] at this
  simpa using this
end
end Go.Proofs.YtinfpbkbnhcifaaGreatDoor
