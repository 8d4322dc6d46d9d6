/- A region that draws its order: first operations that only read or call functions that keep to a class of worlds, in whatever order, then a tail in one forced order. One walk of the text's order serves. The conditions are closed facts of the region. -/
import Derived.StillTail
import Derived.Deep.Quiet
namespace Go.Proofs.YtbpkfpkhnkcgkaaDoorR

section
variable {P : Program} {md : Region.Mode}

theorem wpAny_more {ops : Array Oper} {Q : Exit → Act → World → Prop} : ∀ (n : Nat) (listed : Array Bool) (a : Act) (w : World), wpAny P md ops Q n listed a w → wpAny P md ops Q (n + 1) listed a w
  | 0, _, _, _, h => ⟨fun _ => h.2, fun i hi => by rw [h.1] at hi; cases hi⟩
  | n + 1, _, _, _, h => ⟨h.1, fun i hi => wpOp_mono (fun a w => wpAny_more n _ a w) (h.2 i hi)⟩

theorem wpAny_add {ops : Array Oper} {Q : Exit → Act → World → Prop} {listed : Array Bool} {a : Act} {w : World} {g : Nat} (h : wpAny P md ops Q g listed a w) : ∀ k, wpAny P md ops Q (k + g) listed a w
  | 0 => by rw [Nat.zero_add]; exact h
  | k + 1 => by rw [show k + 1 + g = (k + g) + 1 by omega]; exact wpAny_more _ _ _ _ (wpAny_add h k)

/-- The first n operations look at each other alone. -/
def headB (ops : Array Oper) (n : Nat) : Bool :=
  (List.range n).all fun i => match ops[i]? with
    | some o => (o.after.all fun e => decide (e.on < i) || !Region.binds .any e) && (match o.guard with | some (j, _) => decide (j < i) | none => true)
    | none => false

theorem headB_spec {ops : Array Oper} {n i : Nat} (h : headB ops n = true) (hi : i < n) : ∃ o, ops[i]? = some o ∧ (∀ e ∈ o.after, Region.binds .any e = true → e.on < i) ∧ (∀ j b, o.guard = some (j, b) → j < i) := by
  have h1 := List.all_eq_true.1 h i (List.mem_range.2 hi)
  cases ho : ops[i]? with
  | none => simp [ho] at h1
  | some o =>
    simp only [ho, Bool.and_eq_true] at h1
    refine ⟨o, rfl, fun e he hb => ?_, fun j b hg => ?_⟩
    · have h2 := (Array.all_eq_true'.1 h1.1) e he
      simp only [Bool.or_eq_true, decide_eq_true_eq, Bool.not_eq_true'] at h2
      rcases h2 with h2 | h2
      · exact h2
      · rw [hb] at h2; cases h2
    · have h2 := h1.2
      rw [hg] at h2
      simpa using h2

def SameTo (n : Nat) (x y : Array Bool) : Prop := ∀ i, i < n → x.getD i true = y.getD i true ∧ x.getD i false = y.getD i false

theorem take_get {l : List Oper} {n i : Nat} (hi : i < n) : (l.take n).toArray[i]? = l.toArray[i]? := by
  simp [hi]

theorem ready_head {l : List Oper} {n i : Nat} {x y : Array Bool} (hB : headB l.toArray n = true) (h : SameTo n x y) (hi : i < n) :
    i ∈ Region.ready .any (l.take n).toArray y ↔ i ∈ Region.ready .any l.toArray x := by
  rw [mem_ready, mem_ready, (h i hi).1]
  obtain ⟨o, ho, he, _⟩ := headB_spec hB hi
  rw [take_get hi, ho]
  simp only [Option.some.injEq, exists_eq_left']
  constructor
  · rintro ⟨h1, h2⟩
    exact ⟨h1, fun e hm hb => by rw [(h e.on (by have := he e hm hb; omega)).2]; exact h2 e hm hb⟩
  · rintro ⟨h1, h2⟩
    exact ⟨h1, fun e hm hb => by rw [← (h e.on (by have := he e hm hb; omega)).2]; exact h2 e hm hb⟩

theorem wanted_head {l : List Oper} {n i : Nat} {o : Oper} {a : Act} (hB : headB l.toArray n = true) (hi : i < n) (ho : l.toArray[i]? = some o) :
    Region.wanted o (yielded (l.take n).toArray a.tmps) = Region.wanted o (yielded l.toArray a.tmps) := by
  obtain ⟨o', ho', _, hg⟩ := headB_spec hB hi
  rw [ho] at ho'; cases ho'
  unfold Region.wanted
  cases h : o.guard with
  | none => rfl
  | some p =>
    obtain ⟨j, b⟩ := p
    have := hg j b h
    simp only [yielded, take_get (l := l) (show j < n by omega)]

/-- A head that is not listed whole has an operation that may come up. -/
theorem head_ready {ops : Array Oper} {n : Nat} {x : Array Bool} (hB : headB ops n = true) (hx : ¬ ∀ i, i < n → x.getD i true = true) (hs : n ≤ x.size) : ∃ i, i < n ∧ i ∈ Region.ready .any ops x := by
  have h1 : ∃ i, i < n ∧ x.getD i true = false := by
    apply Classical.byContradiction
    intro hn
    apply hx
    intro i hi
    cases h : x.getD i true with
    | true => rfl
    | false => exact absurd ⟨i, hi, h⟩ hn
  obtain ⟨m, hm⟩ : ∃ m, m < n ∧ x.getD m true = false ∧ ∀ j, j < m → x.getD j true = true := by
    obtain ⟨i, hi, hf⟩ := h1
    induction i using Nat.strongRecOn with
    | _ i ih =>
      by_cases h : ∀ j, j < i → x.getD j true = true
      · exact ⟨i, hi, hf, h⟩
      · have : ∃ j, j < i ∧ x.getD j true = false := by
          apply Classical.byContradiction
          intro hn
          apply h
          intro j hj
          cases hh : x.getD j true with
          | true => rfl
          | false => exact absurd ⟨j, hj, hh⟩ hn
        obtain ⟨j, hj, hjf⟩ := this
        exact ih j hj (by omega) hjf
  obtain ⟨hmn, hmf, hmj⟩ := hm
  refine ⟨m, hmn, mem_ready.2 ⟨hmf, ?_⟩⟩
  obtain ⟨o, ho, he, _⟩ := headB_spec hB hmn
  refine ⟨o, ho, fun e hm' hb => ?_⟩
  have h2 := he e hm' hb
  have h3 := hmj e.on h2
  have h4 : e.on < x.size := by omega
  simpa [Array.getD, h4] using h3

theorem any_of_headQ {l : List Oper} {n g : Nat} {C : World → Prop} {Lq : Act → Prop} {Q : Exit → Act → World → Prop} (hB : headB l.toArray n = true) (hs : Region.sinkB .any l.toArray n = true) (hc : Region.chainB .any l.toArray n = true) (hn : n < l.toArray.size)
    (hfin : ∀ x a w, HeadInv .any l.toArray n x → (∀ i, i < n → x.getD i true = true) → C w → Lq a → wpAny P .any l.toArray Q g x a w) :
    ∀ (fuel : Nat) (x y : Array Bool) (a : Act) (w : World), HeadInv .any l.toArray n x → SameTo n x y → n ≤ y.size → C w → wpAnyQ P .any (l.take n).toArray C Lq fuel y a → wpAny P .any l.toArray Q (fuel + g) x a w := by
  intro fuel
  induction fuel with
  | zero =>
    intro x y a w inv hxy hy hC h
    obtain ⟨h1, h2⟩ := h
    rw [Nat.zero_add]
    refine hfin x a w inv ?_ hC h2
    apply Classical.byContradiction
    intro hx
    obtain ⟨i, hi, hr⟩ := head_ready hB hx (by rw [inv.size]; omega)
    have := (ready_head hB hxy hi).2 hr
    rw [h1] at this; cases this
  | succ fuel ih =>
    intro x y a w inv hxy hy hC h
    by_cases hx : ∀ i, i < n → x.getD i true = true
    · refine wpAny_add (hfin x a w inv hx hC (h.1 ?_)) _
      apply List.eq_nil_iff_forall_not_mem.2
      intro i hi
      have hin : i < n := by
        obtain ⟨_, o, ho, _⟩ := mem_ready.1 hi
        have := (Array.getElem?_eq_some_iff.1 ho).1
        simp at this; omega
      have := (mem_ready.1 ((ready_head hB hxy hin).1 hi)).1
      rw [hx i hin] at this; cases this
    · rw [show fuel + 1 + g = (fuel + g) + 1 by omega]
      obtain ⟨m, hm, hmr⟩ := head_ready hB hx (by rw [inv.size]; omega)
      have hmu := (mem_ready.1 hmr).1
      refine ⟨fun h0 => (by rw [h0] at hmr; cases hmr), fun i hi => ?_⟩
      have hin : i < n := by
        rcases Nat.lt_or_ge i n with h' | h'
        · exact h'
        · exact absurd hi (tail_waits hs hc hn inv _ m rfl hm hmu i h')
      have hq := h.2 i ((ready_head hB hxy hin).2 hi)
      have hq' : qOp P l.toArray C i (wpAnyQ P .any (l.take n).toArray C Lq fuel (y.setIfInBounds i true)) a := by
        unfold qOp at hq ⊢
        rw [take_get hin] at hq
        obtain ⟨o, ho, _, _⟩ := headB_spec hB hin
        rw [ho] at hq ⊢
        simp only [] at hq ⊢
        rw [wanted_head hB hin ho] at hq
        exact hq
      refine wpOp_of_qOp hC (fun a' w' hC' hK => ih (x.setIfInBounds i true) (y.setIfInBounds i true) a' w' (inv.set hi hin) ?_ (by simpa using hy) hC' hK) hq'
      intro j hj
      have hxs : n ≤ x.size := by rw [inv.size]; omega
      by_cases e : i = j
      · subst e
        have h1 : i < x.size := by omega
        have h2 : i < y.size := by omega
        simp [Array.getD, h1, h2]
      · rw [getD_set_ne true e, getD_set_ne false e, getD_set_ne true e, getD_set_ne false e]
        exact hxy j hj

/-- What is asked of the region: closed facts. -/
def tailB (l : List Oper) (n : Nat) : Bool :=
  Region.lexB .any (l.take n).toArray && headB l.toArray n && Region.sinkB .any l.toArray n && Region.chainB .any l.toArray n && decide (n < l.length) &&
    Region.seqB .any l.toArray (l.length - n) n ((List.replicate n true ++ List.replicate (l.length - n) false).toArray)

theorem wp_region_quiet_tail {id : Nat} {Q : Exit → Act → World → Prop} {a : Act} {w : World} {l : List Oper} (n : Nat) (C : World → Prop) (hm : P.follows .mixedOrders = true) (hB : tailB l n = true) (hC : C { w with drawn := w.drawn + 1 })
    (h : wpQuiet P (l.take n).toArray C (fun a' => ∀ w', C w' → wpList P l.toArray Q (l.drop n) a' w') (l.take n) a) : (Code.region id l.toArray true).wp P Q a w := by
  simp only [tailB, Bool.and_eq_true, decide_eq_true_eq] at hB
  obtain ⟨⟨⟨⟨⟨hlex, hhd⟩, hs⟩, hc⟩, hn⟩, hseq⟩ := hB
  have hn' : n < l.toArray.size := by simpa using hn
  simp only [Region.lexB, Bool.and_eq_true] at hlex
  have hq := wpAnyQ_lex (C := C) (md := .any) hlex.1 (l.take n) 0 (Array.replicate (l.take n).toArray.size false) a (by simp) (by simpa using hlex.2) h
  have htl : (l.take n).length = n := by simp; omega
  refine wp_region_any hm ?_
  have inv0 : HeadInv .any l.toArray n (Array.replicate l.toArray.size false) :=
    ⟨by simp, fun j oj _ hl => (by rw [getD_replicate_false] at hl; cases hl), fun t _ ht => getD_in (by simpa using ht) (getD_replicate_false _ _)⟩
  have key := any_of_headQ (g := l.length - n) (Q := Q) (Lq := fun a' => ∀ w', C w' → wpList P l.toArray Q (l.drop n) a' w') (C := C) hhd hs hc hn' (fun x a w inv hx hC hL => by
    have hxe : x = ((List.replicate n true ++ List.replicate (l.length - n) false).toArray) := by
      apply Array.ext_getElem?
      intro i
      by_cases hi : i < n
      · have h1 := hx i hi
        have h2 : i < x.size := by rw [inv.size]; omega
        simp only [Array.getD, h2, dif_pos] at h1
        rw [Array.getElem?_eq_getElem h2]
        simp only [Array.getInternal_eq_getElem] at h1
        rw [h1]
        simp [List.getElem?_append, hi]
      · by_cases hi2 : i < l.length
        · have h1 := inv.tail i (by omega) (by simpa using hi2)
          have h2 : i < x.size := by rw [inv.size]; simpa using hi2
          simp only [Array.getD, h2, dif_pos] at h1
          rw [Array.getElem?_eq_getElem h2]
          simp only [Array.getInternal_eq_getElem] at h1
          rw [h1]
          simp [List.getElem?_append, hi, List.getElem?_replicate]; omega
        · rw [Array.getElem?_eq_none (by rw [inv.size]; simp; omega)]
          simp [List.getElem?_append, hi, List.getElem?_replicate]; omega
    have h4 := wpAny_of_seq (md := .any) (Q' := Q) (l.drop n) n x a w (fun j => by simp [List.getElem?_drop]) (by rw [List.length_drop, hxe]; exact hseq) (hL w hC)
    rwa [List.length_drop] at h4) (l.take n).length (Array.replicate l.toArray.size false) (Array.replicate (l.take n).toArray.size false) a _ inv0 (fun i hi => by
      rw [getD_replicate_false, getD_replicate_false, getD_in (by simpa using by omega) (getD_replicate_false _ _), getD_in (by simpa using by omega) (getD_replicate_false _ _)]
      exact ⟨rfl, rfl⟩) (by simp; omega) hC hq
  rw [htl] at key
  have e : n + (l.length - n) = l.toArray.size := by simp; omega
  rw [e] at key
  exact key
end
end Go.Proofs.YtbpkfpkhnkcgkaaDoorR
