/- The region's law of the text Reg inside a round of a range over a function. The conditions are closed facts of the region; the fence is wide. -/
import Derived.Test.YtbpkfpkhnkcgkaaDoorRReg
import Derived.OrdersIn
import Derived.TacticsIn
namespace Go.Proofs.YtbpkfpkhnkcgkaaDoorR

section
variable {F : Fence} {n : Nat} {P : Program} {md : Region.Mode}

/-- The fence lets every function in, at any depth. -/
def Wide (F : Fence) : Prop := (∀ f, F.fn f) ∧ F.depth = none ∧ F.alive = false
theorem Wide.wide : Wide Fence.wide := ⟨fun _ => trivial, rfl, rfl⟩
theorem Wide.inRound {F : Fence} (h : Wide F) (l : Nat) : Wide (F.inRound l) := h

theorem fenced_of_wide {F : Fence} (hF : Wide F) (m : Machine) : m.fenced P F := by
  intro g _
  refine ⟨fun h => ?_, Or.inl (hF.1 _), fun _ _ => hF.1 _, fun _ h => ?_⟩
  · rw [hF.2.2] at h; cases h
  · rw [hF.2.1] at h; cases h

theorem stepsIn_of_wide {F : Fence} (hF : Wide F) {m m' : Machine} (h : Steps P m m') : StepsIn (Machine.fenced P F) P m m' := by
  obtain ⟨k, hk⟩ := h
  induction k generalizing m with
  | zero => simp [runN] at hk; exact hk ▸ .refl _
  | succ k ih =>
    simp only [runN] at hk
    cases hs : step P m with
    | next m₁ => rw [hs] at hk; exact .head (fenced_of_wide hF _) hs (ih hk)
    | ended o w => rw [hs] at hk; simp at hk

theorem callsIn_of_calls {F : Fence} (hF : Wide F) {f : FuncId} {args : Array Value} {w : World} {R : Ending → World → Prop} (h : Calls P f args w R) : CallsIn F n P f args w R :=
  ⟨hF.1 f, fun cs _ => by
    obtain ⟨e, w', fr, r, s, x⟩ := h cs
    refine ⟨e, w', fr, r, ?_, x⟩
    cases e with
    | returned v => exact stepsIn_of_wide hF s
    | panicked chain => exact stepsIn_of_wide hF s
    | outgrown => exact s⟩

theorem calls_of_callsIn {F : Fence} (hF : Wide F) {f : FuncId} {args : Array Value} {w : World} {R : Ending → World → Prop} (h : CallsIn F n P f args w R) : Calls P f args w R := fun cs => by
  obtain ⟨e, w', fr, r, s, x⟩ := h.2 cs (fun _ h => by rw [hF.2.1] at h; cases h)
  exact ⟨e, w', fr, r, s.comes, x⟩

theorem wpIn_of_quiet {C : World → Prop} {o : Oper} {a : Act} {K : Act → Prop} {K' : Act → World → Prop} {Q' : Exit → Act → World → Prop} {w : World} (hF : Wide F) (hw : C w) (h : ∀ a w', C w' → K a → K' a w') (hh : o.quiet P a C K) : o.wpIn F n P a w K' Q' := by
  obtain ⟨v, h1, h2⟩ := hh
  have h3 := h1 w hw
  refine ⟨fun f _ => hF.1 f, ?_⟩
  unfold Oper.quietAt at h3
  have hnd : ∀ c, o.op ≠ .defer c := by
    intro c hc
    unfold execOp at h3
    simp only [hc, Sem.run_bind] at h3
    generalize (resolve a.eval c o.type).run P w = r at h3
    cases r with
    | ok d w1 => simp [Result.andThen, Oper.quietUpon] at h3
    | halt x w1 => simp [Result.andThen, Oper.quietUpon] at h3
  rw [Oper.semAt_eq _ _ _ hnd]
  generalize (execOp a.eval o).run P w = r at *
  cases r with
  | ok m w' =>
    cases m <;> simp only [Oper.quietUpon] at h3 <;> simp only [Oper.uponIn]
    case value u =>
      obtain ⟨e1, e2⟩ := h3
      rw [e1, e2]
      exact h _ _ hw h2
    case skip =>
      obtain ⟨e1, e2⟩ := h3
      rw [e1, ← e2]
      exact h _ _ hw h2
    case enter f args =>
      obtain ⟨e1, hc⟩ := h3
      rw [e1]
      refine ⟨fun hd => (by rw [hF.2.1] at hd; cases hd), callsIn_of_calls hF (hc.mono ?_)⟩
      rintro e w'' ⟨he, hw''⟩
      subst he
      exact h _ _ hw'' h2
  | halt x w' => simp only [Oper.quietUpon] at h3

theorem wpOpIn_of_qOp {C : World → Prop} {ops : Array Oper} {i : Nat} {a : Act} {K : Act → Prop} {K' : Act → World → Prop} {Q' : Exit → Act → World → Prop} {w : World} (hF : Wide F) (hC : C w) (h : ∀ a w', C w' → K a → K' a w') (hh : qOp P ops C i K a) : wpOpIn F n P ops Q' i K' a w := by
  unfold qOp at hh
  unfold wpOpIn
  split
  · rename_i ho; simp only [ho] at hh; exact h _ _ hC hh
  · rename_i o ho
    simp only [ho] at hh
    split
    · rename_i hw; simp only [hw, if_true] at hh; exact wpIn_of_quiet hF hC h hh
    · rename_i hw; simp only [hw] at hh; exact ⟨fun f _ => hF.1 f, h _ _ hC hh⟩

theorem wpAnyIn_more {ops : Array Oper} {Q : Exit → Act → World → Prop} : ∀ (m : Nat) (listed : Array Bool) (a : Act) (w : World), wpAnyIn F n P md ops Q m listed a w → wpAnyIn F n P md ops Q (m + 1) listed a w
  | 0, _, _, _, h => ⟨fun _ => h.2, fun i hi => by rw [h.1] at hi; cases hi⟩
  | m + 1, _, _, _, h => ⟨h.1, fun i hi => wpOpIn_mono (fun a w => wpAnyIn_more m _ a w) (h.2 i hi)⟩

theorem wpAnyIn_add {ops : Array Oper} {Q : Exit → Act → World → Prop} {listed : Array Bool} {a : Act} {w : World} {g : Nat} (h : wpAnyIn F n P md ops Q g listed a w) : ∀ k, wpAnyIn F n P md ops Q (k + g) listed a w
  | 0 => by rw [Nat.zero_add]; exact h
  | k + 1 => by rw [show k + 1 + g = (k + g) + 1 by omega]; exact wpAnyIn_more _ _ _ _ (wpAnyIn_add h k)

theorem wpAnyIn_seq {ops : Array Oper} {Q' : Exit → Act → World → Prop} : ∀ (l : List Oper) (k : Nat) (listed : Array Bool) (a : Act) (w : World), (∀ j, l[j]? = ops[k + j]?) →
    Region.seqB md ops l.length k listed = true → wpListIn F n P ops Q' l a w → wpAnyIn F n P md ops Q' l.length listed a w
  | [], _, _, _, _, _, hB, h => ⟨by simpa [Region.seqB] using hB, h⟩
  | o :: l, k, listed, a, w, hl, hB, h => by
    have h0 : ops[k]? = some o := by simpa using (hl 0).symm
    simp only [List.length_cons, Region.seqB, Bool.and_eq_true, decide_eq_true_eq] at hB
    refine ⟨fun h1 => (by rw [hB.1] at h1; cases h1), fun i hi => ?_⟩
    rw [hB.1] at hi
    have hik : i = k := by simpa using hi
    subst hik
    have hw : wpOpIn F n P ops Q' i (wpListIn F n P ops Q' l) a w := by unfold wpOpIn; simp only [h0]; exact h
    exact wpOpIn_mono (fun a' w' h' => wpAnyIn_seq l (i + 1) _ a' w' (fun j => by have := hl (j + 1); simpa [Nat.add_assoc, Nat.add_comm 1 j] using this) hB.2 h') hw

theorem anyIn_of_headQ {l : List Oper} {m g : Nat} {C : World → Prop} {Lq : Act → Prop} {Q : Exit → Act → World → Prop} (hF : Wide F) (hB : headB l.toArray m = true) (hs : Region.sinkB .any l.toArray m = true) (hc : Region.chainB .any l.toArray m = true) (hn : m < l.toArray.size)
    (hfin : ∀ x a w, HeadInv .any l.toArray m x → (∀ i, i < m → x.getD i true = true) → C w → Lq a → wpAnyIn F n P .any l.toArray Q g x a w) :
    ∀ (fuel : Nat) (x y : Array Bool) (a : Act) (w : World), HeadInv .any l.toArray m x → SameTo m x y → m ≤ y.size → C w → wpAnyQ P .any (l.take m).toArray C Lq fuel y a → wpAnyIn F n P .any l.toArray Q (fuel + g) x a w := by
  intro fuel
  induction fuel with
  | zero =>
    intro x y a w inv hxy hy hC h
    obtain ⟨h1, h2⟩ := h
    rw [Nat.zero_add]
    refine hfin x a w inv ?_ hC h2
    apply Classical.byContradiction
    intro hx
    obtain ⟨i, hi, hr⟩ := head_ready hB hx (by rw [inv.size]; omega)
    have := (ready_head hB hxy hi).2 hr
    rw [h1] at this; cases this
  | succ fuel ih =>
    intro x y a w inv hxy hy hC h
    by_cases hx : ∀ i, i < m → x.getD i true = true
    · refine wpAnyIn_add (hfin x a w inv hx hC (h.1 ?_)) _
      apply List.eq_nil_iff_forall_not_mem.2
      intro i hi
      have hin : i < m := by
        obtain ⟨_, o, ho, _⟩ := mem_ready.1 hi
        have := (Array.getElem?_eq_some_iff.1 ho).1
        simp at this; omega
      have := (mem_ready.1 ((ready_head hB hxy hin).1 hi)).1
      rw [hx i hin] at this; cases this
    · rw [show fuel + 1 + g = (fuel + g) + 1 by omega]
      obtain ⟨m', hm, hmr⟩ := head_ready hB hx (by rw [inv.size]; omega)
      have hmu := (mem_ready.1 hmr).1
      refine ⟨fun h0 => (by rw [h0] at hmr; cases hmr), fun i hi => ?_⟩
      have hin : i < m := by
        rcases Nat.lt_or_ge i m with h' | h'
        · exact h'
        · exact absurd hi (tail_waits hs hc hn inv _ m' rfl hm hmu i h')
      have hq := h.2 i ((ready_head hB hxy hin).2 hi)
      have hq' : qOp P l.toArray C i (wpAnyQ P .any (l.take m).toArray C Lq fuel (y.setIfInBounds i true)) a := by
        unfold qOp at hq ⊢
        rw [take_get hin] at hq
        obtain ⟨o, ho, _, _⟩ := headB_spec hB hin
        rw [ho] at hq ⊢
        simp only [] at hq ⊢
        rw [wanted_head hB hin ho] at hq
        exact hq
      refine wpOpIn_of_qOp hF hC (fun a' w' hC' hK => ih (x.setIfInBounds i true) (y.setIfInBounds i true) a' w' (inv.set hi hin) ?_ (by simpa using hy) hC' hK) hq'
      intro j hj
      have hxs : m ≤ x.size := by rw [inv.size]; omega
      by_cases e : i = j
      · subst e
        have h1 : i < x.size := by omega
        have h2 : i < y.size := by omega
        simp [Array.getD, h1, h2]
      · rw [getD_set_ne true e, getD_set_ne false e, getD_set_ne true e, getD_set_ne false e]
        exact hxy j hj

theorem listed_eq {l : List Oper} {m : Nat} {x : Array Bool} (hn : m < l.length) (inv : HeadInv .any l.toArray m x) (hx : ∀ i, i < m → x.getD i true = true) :
    x = ((List.replicate m true ++ List.replicate (l.length - m) false).toArray) := by
  apply Array.ext_getElem?
  intro i
  by_cases hi : i < m
  · have h1 := hx i hi
    have h2 : i < x.size := by rw [inv.size]; simp; omega
    simp only [Array.getD, h2, dif_pos] at h1
    rw [Array.getElem?_eq_getElem h2]
    simp only [Array.getInternal_eq_getElem] at h1
    rw [h1]
    simp [List.getElem?_append, hi]
  · by_cases hi2 : i < l.length
    · have h1 := inv.tail i (by omega) (by simpa using hi2)
      have h2 : i < x.size := by rw [inv.size]; simpa using hi2
      simp only [Array.getD, h2, dif_pos] at h1
      rw [Array.getElem?_eq_getElem h2]
      simp only [Array.getInternal_eq_getElem] at h1
      rw [h1]
      simp [List.getElem?_append, hi, List.getElem?_replicate]; omega
    · rw [Array.getElem?_eq_none (by rw [inv.size]; simp; omega)]
      simp [List.getElem?_append, hi, List.getElem?_replicate]; omega

theorem wpIn_region_quiet_tail {id : Nat} {Q : Exit → Act → World → Prop} {a : Act} {w : World} {l : List Oper} (m : Nat) (C : World → Prop) (hF : Wide F) (hm : P.follows .mixedOrders = true) (hB : tailB l m = true) (hC : C { w with drawn := w.drawn + 1 })
    (h : wpQuiet P (l.take m).toArray C (fun a' => ∀ w', C w' → wpListIn F n P l.toArray Q (l.drop m) a' w') (l.take m) a) : (Code.region id l.toArray true).wpIn F n P Q a w := by
  simp only [tailB, Bool.and_eq_true, decide_eq_true_eq] at hB
  obtain ⟨⟨⟨⟨⟨hlex, hhd⟩, hs⟩, hc⟩, hn⟩, hseq⟩ := hB
  have hn' : m < l.toArray.size := by simpa using hn
  simp only [Region.lexB, Bool.and_eq_true] at hlex
  have hq := wpAnyQ_lex (C := C) (md := .any) hlex.1 (l.take m) 0 (Array.replicate (l.take m).toArray.size false) a (by simp) (by simpa using hlex.2) h
  have htl : (l.take m).length = m := by simp; omega
  refine wpIn_region_any hm ?_
  have inv0 : HeadInv .any l.toArray m (Array.replicate l.toArray.size false) :=
    ⟨by simp, fun j oj _ hl => (by rw [getD_replicate_false] at hl; cases hl), fun t _ ht => getD_in (by simpa using ht) (getD_replicate_false _ _)⟩
  have key := anyIn_of_headQ (F := F) (n := n) (g := l.length - m) (Q := Q) (Lq := fun a' => ∀ w', C w' → wpListIn F n P l.toArray Q (l.drop m) a' w') (C := C) hF hhd hs hc hn' (fun x a w inv hx hC hL => by
    have hxe := listed_eq hn inv hx
    have h4 := wpAnyIn_seq (F := F) (n := n) (md := .any) (Q' := Q) (l.drop m) m x a w (fun j => by simp [List.getElem?_drop]) (by rw [List.length_drop, hxe]; exact hseq) (hL w hC)
    rwa [List.length_drop] at h4) (l.take m).length (Array.replicate l.toArray.size false) (Array.replicate (l.take m).toArray.size false) a _ inv0 (fun i hi => by
      rw [getD_replicate_false, getD_replicate_false, getD_in (by simpa using by omega) (getD_replicate_false _ _), getD_in (by simpa using by omega) (getD_replicate_false _ _)]
      exact ⟨rfl, rfl⟩) (by simp; omega) hC hq
  rw [htl] at key
  have e : m + (l.length - m) = l.toArray.size := by simp; omega
  rw [e] at key
  exact key

/-- A region that draws its order and only reads, in a round. -/
theorem wpIn_region_quiet {id : Nat} {Q : Exit → Act → World → Prop} {a : Act} {w : World} {l : List Oper} (C : World → Prop) (hF : Wide F) (hm : P.follows .mixedOrders = true) (hB : Region.lexB .any l.toArray = true) (hC : C { w with drawn := w.drawn + 1 })
    (h : wpQuiet P l.toArray C (fun a' => ∀ w', C w' → Q .normal a' w') l a) : (Code.region id l.toArray true).wpIn F n P Q a w := by
  simp only [Region.lexB, Bool.and_eq_true] at hB
  refine wpIn_region_any hm ?_
  have hq := wpAnyQ_lex (C := C) (md := .any) hB.1 l 0 (Array.replicate l.toArray.size false) a (by simp) (by simpa using hB.2) h
  have key : ∀ (fuel : Nat) (y : Array Bool) (a : Act) (w : World), C w → wpAnyQ P .any l.toArray C (fun a' => ∀ w', C w' → Q .normal a' w') fuel y a → wpAnyIn F n P .any l.toArray Q fuel y a w := by
    intro fuel
    induction fuel with
    | zero => intro y a w hC h; exact ⟨h.1, h.2 w hC⟩
    | succ fuel ih =>
      intro y a w hC h
      exact ⟨fun h0 => h.1 h0 w hC, fun i hi => wpOpIn_of_qOp hF hC (fun a' w' hC' hK => ih _ a' w' hC' hK) (h.2 i hi)⟩
  have := key _ _ a _ hC hq
  simpa using this
end
end Go.Proofs.YtbpkfpkhnkcgkaaDoorR
