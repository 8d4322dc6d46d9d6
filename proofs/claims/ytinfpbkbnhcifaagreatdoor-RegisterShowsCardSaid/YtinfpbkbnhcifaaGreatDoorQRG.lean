/- The region's law of the text Reg inside a round of a range over a function. The conditions are closed facts of the region; the fence is wide. -/
import Derived.Test.YtinfpbkbnhcifaaGreatDoorQArr
import Derived.OrdersIn
import Derived.TacticsIn
import Derived.RangeFuncNested
namespace Go.Proofs.YtinfpbkbnhcifaaGreatDoor

section
variable {F : Fence} {n : Nat} {P : Program} {md : Region.Mode}

/-- The fence lets every function in, at any depth. -/
def Wide (F : Fence) : Prop := (∀ f, F.fn f) ∧ F.depth = none ∧ F.alive = false
theorem Wide.wide : Wide Fence.wide := ⟨fun _ => trivial, rfl, rfl⟩
theorem Wide.inRound {F : Fence} (h : Wide F) (l : Nat) : Wide (F.inRound l) := h

theorem fenced_of_wide {F : Fence} (hF : Wide F) (m : Machine) : m.fenced P F := by
  intro g _
  refine ⟨fun h => ?_, Or.inl (hF.1 _), fun _ _ => hF.1 _, fun _ h => ?_⟩
  · rw [hF.2.2] at h; cases h
  · rw [hF.2.1] at h; cases h

theorem stepsIn_of_wide {F : Fence} (hF : Wide F) {m m' : Machine} (h : Steps P m m') : StepsIn (Machine.fenced P F) P m m' := by
  obtain ⟨k, hk⟩ := h
  induction k generalizing m with
  | zero => simp [runN] at hk; exact hk ▸ .refl _
  | succ k ih =>
    simp only [runN] at hk
    cases hs : step P m with
    | next m₁ => rw [hs] at hk; exact .head (fenced_of_wide hF _) hs (ih hk)
    | ended o w => rw [hs] at hk; simp at hk

theorem callsIn_of_calls {F : Fence} (hF : Wide F) {f : FuncId} {args : Array Value} {w : World} {R : Ending → World → Prop} (h : Calls P f args w R) : CallsIn F n P f args w R :=
  ⟨hF.1 f, fun cs _ => by
    obtain ⟨e, w', fr, r, s, x⟩ := h cs
    refine ⟨e, w', fr, r, ?_, x⟩
    cases e with
    | returned v => exact stepsIn_of_wide hF s
    | panicked chain => exact stepsIn_of_wide hF s
    | outgrown => exact s⟩

theorem calls_of_callsIn {F : Fence} (hF : Wide F) {f : FuncId} {args : Array Value} {w : World} {R : Ending → World → Prop} (h : CallsIn F n P f args w R) : Calls P f args w R := fun cs => by
  obtain ⟨e, w', fr, r, s, x⟩ := h.2 cs (fun _ h => by rw [hF.2.1] at h; cases h)
  exact ⟨e, w', fr, r, s.comes, x⟩

theorem wpIn_of_quiet {C : World → Prop} {o : Oper} {a : Act} {K : Act → Prop} {K' : Act → World → Prop} {Q' : Exit → Act → World → Prop} {w : World} (hF : Wide F) (hw : C w) (h : ∀ a w', C w' → K a → K' a w') (hh : o.quiet P a C K) : o.wpIn F n P a w K' Q' := by
  obtain ⟨v, h1, h2⟩ := hh
  have h3 := h1 w hw
  refine ⟨fun f _ => hF.1 f, ?_⟩
  unfold Oper.quietAt at h3
  have hnd : ∀ c, o.op ≠ .defer c := by
    intro c hc
    unfold execOp at h3
    simp only [hc, Sem.run_bind] at h3
    generalize (resolve a.eval c o.type).run P w = r at h3
    cases r with
    | ok d w1 => simp [Result.andThen, Oper.quietUpon] at h3
    | halt x w1 => simp [Result.andThen, Oper.quietUpon] at h3
  rw [Oper.semAt_eq _ _ _ hnd]
  generalize (execOp a.eval o).run P w = r at *
  cases r with
  | ok m w' =>
    cases m <;> simp only [Oper.quietUpon] at h3 <;> simp only [Oper.uponIn]
    case value u =>
      obtain ⟨e1, e2⟩ := h3
      rw [e1, e2]
      exact h _ _ hw h2
    case skip =>
      obtain ⟨e1, e2⟩ := h3
      rw [e1, ← e2]
      exact h _ _ hw h2
    case enter f args =>
      obtain ⟨e1, hc⟩ := h3
      rw [e1]
      refine ⟨fun hd => (by rw [hF.2.1] at hd; cases hd), callsIn_of_calls hF (hc.mono ?_)⟩
      rintro e w'' ⟨he, hw''⟩
      subst he
      exact h _ _ hw'' h2
  | halt x w' => simp only [Oper.quietUpon] at h3

theorem wpOpIn_of_qOp {C : World → Prop} {ops : Array Oper} {i : Nat} {a : Act} {K : Act → Prop} {K' : Act → World → Prop} {Q' : Exit → Act → World → Prop} {w : World} (hF : Wide F) (hC : C w) (h : ∀ a w', C w' → K a → K' a w') (hh : qOp P ops C i K a) : wpOpIn F n P ops Q' i K' a w := by
  unfold qOp at hh
  unfold wpOpIn
  split
  · rename_i ho; simp only [ho] at hh; exact h _ _ hC hh
  · rename_i o ho
    simp only [ho] at hh
    split
    · rename_i hw; simp only [hw, if_true] at hh; exact wpIn_of_quiet hF hC h hh
    · rename_i hw; simp only [hw] at hh; exact ⟨fun f _ => hF.1 f, h _ _ hC hh⟩

theorem wpAnyIn_more {ops : Array Oper} {Q : Exit → Act → World → Prop} : ∀ (m : Nat) (listed : Array Bool) (a : Act) (w : World), wpAnyIn F n P md ops Q m listed a w → wpAnyIn F n P md ops Q (m + 1) listed a w
  | 0, _, _, _, h => ⟨fun _ => h.2, fun i hi => by rw [h.1] at hi; cases hi⟩
  | m + 1, _, _, _, h => ⟨h.1, fun i hi => wpOpIn_mono (fun a w => wpAnyIn_more m _ a w) (h.2 i hi)⟩

theorem wpAnyIn_add {ops : Array Oper} {Q : Exit → Act → World → Prop} {listed : Array Bool} {a : Act} {w : World} {g : Nat} (h : wpAnyIn F n P md ops Q g listed a w) : ∀ k, wpAnyIn F n P md ops Q (k + g) listed a w
  | 0 => by rw [Nat.zero_add]; exact h
  | k + 1 => by rw [show k + 1 + g = (k + g) + 1 by omega]; exact wpAnyIn_more _ _ _ _ (wpAnyIn_add h k)

theorem wpAnyIn_seq {ops : Array Oper} {Q' : Exit → Act → World → Prop} : ∀ (l : List Oper) (k : Nat) (listed : Array Bool) (a : Act) (w : World), (∀ j, l[j]? = ops[k + j]?) →
    Region.seqB md ops l.length k listed = true → wpListIn F n P ops Q' l a w → wpAnyIn F n P md ops Q' l.length listed a w
  | [], _, _, _, _, _, hB, h => ⟨by simpa [Region.seqB] using hB, h⟩
  | o :: l, k, listed, a, w, hl, hB, h => by
    have h0 : ops[k]? = some o := by simpa using (hl 0).symm
    simp only [List.length_cons, Region.seqB, Bool.and_eq_true, decide_eq_true_eq] at hB
    refine ⟨fun h1 => (by rw [hB.1] at h1; cases h1), fun i hi => ?_⟩
    rw [hB.1] at hi
    have hik : i = k := by simpa using hi
    subst hik
    have hw : wpOpIn F n P ops Q' i (wpListIn F n P ops Q' l) a w := by unfold wpOpIn; simp only [h0]; exact h
    exact wpOpIn_mono (fun a' w' h' => wpAnyIn_seq l (i + 1) _ a' w' (fun j => by have := hl (j + 1); simpa [Nat.add_assoc, Nat.add_comm 1 j] using this) hB.2 h') hw

theorem anyIn_of_headQ {l : List Oper} {m g : Nat} {C : World → Prop} {Lq : Act → Prop} {Q : Exit → Act → World → Prop} (hF : Wide F) (hB : headB l.toArray m = true) (hs : Region.sinkB .any l.toArray m = true) (hc : Region.chainB .any l.toArray m = true) (hn : m < l.toArray.size)
    (hfin : ∀ x a w, HeadInv .any l.toArray m x → (∀ i, i < m → x.getD i true = true) → C w → Lq a → wpAnyIn F n P .any l.toArray Q g x a w) :
    ∀ (fuel : Nat) (x y : Array Bool) (a : Act) (w : World), HeadInv .any l.toArray m x → SameTo m x y → m ≤ y.size → C w → wpAnyQ P .any (l.take m).toArray C Lq fuel y a → wpAnyIn F n P .any l.toArray Q (fuel + g) x a w := by
  intro fuel
  induction fuel with
  | zero =>
    intro x y a w inv hxy hy hC h
    obtain ⟨h1, h2⟩ := h
    rw [Nat.zero_add]
    refine hfin x a w inv ?_ hC h2
    apply Classical.byContradiction
    intro hx
    obtain ⟨i, hi, hr⟩ := head_ready hB hx (by rw [inv.size]; omega)
    have := (ready_head hB hxy hi).2 hr
    rw [h1] at this; cases this
  | succ fuel ih =>
    intro x y a w inv hxy hy hC h
    by_cases hx : ∀ i, i < m → x.getD i true = true
    · refine wpAnyIn_add (hfin x a w inv hx hC (h.1 ?_)) _
      apply List.eq_nil_iff_forall_not_mem.2
      intro i hi
      have hin : i < m := by
        obtain ⟨_, o, ho, _⟩ := mem_ready.1 hi
        have := (Array.getElem?_eq_some_iff.1 ho).1
        simp at this; omega
      have := (mem_ready.1 ((ready_head hB hxy hin).1 hi)).1
      rw [hx i hin] at this; cases this
    · rw [show fuel + 1 + g = (fuel + g) + 1 by omega]
      obtain ⟨m', hm, hmr⟩ := head_ready hB hx (by rw [inv.size]; omega)
      have hmu := (mem_ready.1 hmr).1
      refine ⟨fun h0 => (by rw [h0] at hmr; cases hmr), fun i hi => ?_⟩
      have hin : i < m := by
        rcases Nat.lt_or_ge i m with h' | h'
        · exact h'
        · exact absurd hi (tail_waits hs hc hn inv _ m' rfl hm hmu i h')
      have hq := h.2 i ((ready_head hB hxy hin).2 hi)
      have hq' : qOp P l.toArray C i (wpAnyQ P .any (l.take m).toArray C Lq fuel (y.setIfInBounds i true)) a := by
        unfold qOp at hq ⊢
        rw [take_get hin] at hq
        obtain ⟨o, ho, _, _⟩ := headB_spec hB hin
        rw [ho] at hq ⊢
        simp only [] at hq ⊢
        rw [wanted_head hB hin ho] at hq
        exact hq
      refine wpOpIn_of_qOp hF hC (fun a' w' hC' hK => ih (x.setIfInBounds i true) (y.setIfInBounds i true) a' w' (inv.set hi hin) ?_ (by simpa using hy) hC' hK) hq'
      intro j hj
      have hxs : m ≤ x.size := by rw [inv.size]; omega
      by_cases e : i = j
      · subst e
        have h1 : i < x.size := by omega
        have h2 : i < y.size := by omega
        simp [Array.getD, h1, h2]
      · rw [getD_set_ne true e, getD_set_ne false e, getD_set_ne true e, getD_set_ne false e]
        exact hxy j hj

theorem listed_eq {l : List Oper} {m : Nat} {x : Array Bool} (hn : m < l.length) (inv : HeadInv .any l.toArray m x) (hx : ∀ i, i < m → x.getD i true = true) :
    x = ((List.replicate m true ++ List.replicate (l.length - m) false).toArray) := by
  apply Array.ext_getElem?
  intro i
  by_cases hi : i < m
  · have h1 := hx i hi
    have h2 : i < x.size := by rw [inv.size]; simp; omega
    simp only [Array.getD, h2, dif_pos] at h1
    rw [Array.getElem?_eq_getElem h2]
    simp only [Array.getInternal_eq_getElem] at h1
    rw [h1]
    simp [List.getElem?_append, hi]
  · by_cases hi2 : i < l.length
    · have h1 := inv.tail i (by omega) (by simpa using hi2)
      have h2 : i < x.size := by rw [inv.size]; simpa using hi2
      simp only [Array.getD, h2, dif_pos] at h1
      rw [Array.getElem?_eq_getElem h2]
      simp only [Array.getInternal_eq_getElem] at h1
      rw [h1]
      simp [List.getElem?_append, hi, List.getElem?_replicate]; omega
    · rw [Array.getElem?_eq_none (by rw [inv.size]; simp; omega)]
      simp [List.getElem?_append, hi, List.getElem?_replicate]; omega

theorem wpIn_region_quiet_tail {id : Nat} {Q : Exit → Act → World → Prop} {a : Act} {w : World} {l : List Oper} (m : Nat) (C : World → Prop) (hF : Wide F) (hm : P.follows .mixedOrders = true) (hB : tailB l m = true) (hC : C { w with drawn := w.drawn + 1 })
    (h : wpQuiet P (l.take m).toArray C (fun a' => ∀ w', C w' → wpListIn F n P l.toArray Q (l.drop m) a' w') (l.take m) a) : (Code.region id l.toArray true).wpIn F n P Q a w := by
  simp only [tailB, Bool.and_eq_true, decide_eq_true_eq] at hB
  obtain ⟨⟨⟨⟨⟨hlex, hhd⟩, hs⟩, hc⟩, hn⟩, hseq⟩ := hB
  have hn' : m < l.toArray.size := by simpa using hn
  simp only [Region.lexB, Bool.and_eq_true] at hlex
  have hq := wpAnyQ_lex (C := C) (md := .any) hlex.1 (l.take m) 0 (Array.replicate (l.take m).toArray.size false) a (by simp) (by simpa using hlex.2) h
  have htl : (l.take m).length = m := by simp; omega
  refine wpIn_region_any hm ?_
  have inv0 : HeadInv .any l.toArray m (Array.replicate l.toArray.size false) :=
    ⟨by simp, fun j oj _ hl => (by rw [getD_replicate_false] at hl; cases hl), fun t _ ht => getD_in (by simpa using ht) (getD_replicate_false _ _)⟩
  have key := anyIn_of_headQ (F := F) (n := n) (g := l.length - m) (Q := Q) (Lq := fun a' => ∀ w', C w' → wpListIn F n P l.toArray Q (l.drop m) a' w') (C := C) hF hhd hs hc hn' (fun x a w inv hx hC hL => by
    have hxe := listed_eq hn inv hx
    have h4 := wpAnyIn_seq (F := F) (n := n) (md := .any) (Q' := Q) (l.drop m) m x a w (fun j => by simp [List.getElem?_drop]) (by rw [List.length_drop, hxe]; exact hseq) (hL w hC)
    rwa [List.length_drop] at h4) (l.take m).length (Array.replicate l.toArray.size false) (Array.replicate (l.take m).toArray.size false) a _ inv0 (fun i hi => by
      rw [getD_replicate_false, getD_replicate_false, getD_in (by simpa using by omega) (getD_replicate_false _ _), getD_in (by simpa using by omega) (getD_replicate_false _ _)]
      exact ⟨rfl, rfl⟩) (by simp; omega) hC hq
  rw [htl] at key
  have e : m + (l.length - m) = l.toArray.size := by simp; omega
  rw [e] at key
  exact key

/-- A region that draws its order and only reads, in a round. -/
theorem wpIn_region_quiet {id : Nat} {Q : Exit → Act → World → Prop} {a : Act} {w : World} {l : List Oper} (C : World → Prop) (hF : Wide F) (hm : P.follows .mixedOrders = true) (hB : Region.lexB .any l.toArray = true) (hC : C { w with drawn := w.drawn + 1 })
    (h : wpQuiet P l.toArray C (fun a' => ∀ w', C w' → Q .normal a' w') l a) : (Code.region id l.toArray true).wpIn F n P Q a w := by
  simp only [Region.lexB, Bool.and_eq_true] at hB
  refine wpIn_region_any hm ?_
  have hq := wpAnyQ_lex (C := C) (md := .any) hB.1 l 0 (Array.replicate l.toArray.size false) a (by simp) (by simpa using hB.2) h
  have key : ∀ (fuel : Nat) (y : Array Bool) (a : Act) (w : World), C w → wpAnyQ P .any l.toArray C (fun a' => ∀ w', C w' → Q .normal a' w') fuel y a → wpAnyIn F n P .any l.toArray Q fuel y a w := by
    intro fuel
    induction fuel with
    | zero => intro y a w hC h; exact ⟨h.1, h.2 w hC⟩
    | succ fuel ih =>
      intro y a w hC h
      exact ⟨fun h0 => h.1 h0 w hC, fun i hi => wpOpIn_of_qOp hF hC (fun a' w' hC' hK => ih _ a' w' hC' hK) (h.2 i hi)⟩
  have := key _ _ a _ hC hq
  simpa using this
end
end Go.Proofs.YtinfpbkbnhcifaaGreatDoor

/- A range over a function whose iterator may write one block of its own (a captured variable): the iterator's contract and the law of the statement. The fence is wide; the conditions are what the body keeps. -/
namespace Go.Proofs.YtinfpbkbnhcifaaGreatDoor
open Go.RowKit

section
variable {P : Program} {α : Type}

/-- A step of the iterator's: one block of its own may be written. -/
def IStep (row : Option Nat) (A C : World) : Prop := A.grownBy C row ∧ ∀ b, row = some b → ∃ c c' e fz, A.heap[b]? = some (.cells c e fz) ∧ C.heap[b]? = some (.cells c' e fz)
theorem IStep.grown {A C : World} {row : Option Nat} (h : IStep row A C) : A.grownBy C row := h.1
theorem IStep.write {A : World} {b i : Nat} {c : Array Value} {e : TypeId} {fz : Nat × Nat} (h : A.heap[b]? = some (.cells c e fz)) (v : Value) : IStep (some b) A (A.setCell ⟨b, i, none⟩ v) :=
  ⟨grown_setCell (grown_refl _ _) _ (.inl rfl) _, fun b' hb => by cases hb; exact ⟨_, _, _, _, h, heap_setCell_same _ h⟩⟩

/-- What an iterator value gives: all elements, or a part of them where a round has said 'no more'. Its own steps turn one block at most of those that were there; 'Kp' is what it wants kept by a round that goes on. -/
def Iter (P : Program) (gf : Nat) (lb : Array Value) (encs : α → Array Value) (Kp : World → World → Prop) (row : Option Nat) (S Sp : List α → Prop) (N : Nat) (w0 : World) : Prop :=
  ∀ (F : Fence) (n : Nat), Wide F → F.round = none → ∀ (l : Nat) (J Jx : List α → World → Prop) (W : World), Below w0.heap.size w0 W →
    (∀ pre A B, J pre A → IStep row A B → J pre B) → (∀ pre A B, Jx pre A → IStep row A B → Jx pre B) →
    (∀ pre x W1, J pre W1 → pre.length < N → YieldAt F (n - 1) P l (encs x) W1 fun e W' =>
      (e = .returned (.bool true) ∧ J (pre ++ [x]) W' ∧ Kp W1 W') ∨ (e = .returned (.bool false) ∧ Jx (pre ++ [x]) W')) →
    J [] W →
    CallsIn F n P gf (#[.func (.yield l) #[] #[]] ++ lb) W fun e W' => (∃ v, e = .returned v) ∧ ((∃ xs, S xs ∧ J xs W') ∨ (∃ pre, Sp pre ∧ Jx pre W'))

/-- What abides the iterator's steps and the loop's own book-keeping. -/
def Abide (row : Option Nat) (B : Nat) (I : List α → World → Prop) : Prop :=
  (∀ pre A C, I pre A → IStep row A C → I pre C) ∧
  ∀ pre A C r, I pre A → A.grownBy C r → (r = none ∨ ∃ k o, r = some k ∧ B ≤ k ∧ A.heap[k]? = some o ∧ o.isCells = false) → I pre C

theorem abide_false (row : Option Nat) (B : Nat) : Abide (α := α) row B (fun _ _ => False) := ⟨fun _ _ _ h _ => h, fun _ _ _ _ h _ _ => h⟩
theorem abide_pure (row : Option Nat) (B : Nat) (p : List α → Prop) : Abide row B (fun pre _ => p pre) := ⟨fun _ _ _ h _ => h, fun _ _ _ _ h _ _ => h⟩
theorem abide_and {row : Option Nat} {B : Nat} {I I' : List α → World → Prop} (h : Abide row B I) (h' : Abide row B I') : Abide row B (fun pre W => I pre W ∧ I' pre W) :=
  ⟨fun pre A C hi hs => ⟨h.1 pre A C hi.1 hs, h'.1 pre A C hi.2 hs⟩, fun pre A C r hi hg hr => ⟨h.2 pre A C r hi.1 hg hr, h'.2 pre A C r hi.2 hg hr⟩⟩
theorem abide_ex {row : Option Nat} {B : Nat} {β : Type} {I : β → List α → World → Prop} (h : ∀ v, Abide row B (I v)) : Abide row B (fun pre W => ∃ v, I v pre W) :=
  ⟨fun pre A C ⟨v, hi⟩ hs => ⟨v, (h v).1 pre A C hi hs⟩, fun pre A C r ⟨v, hi⟩ hg hr => ⟨v, (h v).2 pre A C r hi hg hr⟩⟩
/-- A row of cells that is not the iterator's. -/
theorem abide_cells {row : Option Nat} {B k : Nat} (f : List α → Obj) (hf : ∀ pre, (f pre).isCells = true) (hk : row ≠ some k) : Abide row B (fun pre W => W.heap[k]? = some (f pre)) :=
  ⟨fun pre A C h hs => (hs.1.block k (Array.getElem?_eq_some_iff.1 h).1 (fun e => hk e.symm)).trans h,
   fun pre A C r h hg hr => (hg.block k (Array.getElem?_eq_some_iff.1 h).1 (fun e => by
    rcases hr with hr | ⟨k', o, hr, _, ho, hc⟩
    · rw [hr] at e; cases e
    · rw [hr] at e; cases e; rw [h] at ho; cases ho; rw [hf] at hc; cases hc)).trans h⟩
/-- The iterator's own row keeps its type. -/
theorem abide_own {B k : Nat} {e : TypeId} {fz : Nat × Nat} : Abide (α := α) (some k) B (fun _ W => ∃ c, W.heap[k]? = some (.cells c e fz)) :=
  ⟨fun pre A C ⟨c, h⟩ hs => by
    obtain ⟨c1, c2, e1, f1, g1, g2⟩ := hs.2 k rfl
    rw [h] at g1; cases g1
    exact ⟨c2, g2⟩,
   fun pre A C r ⟨c, h⟩ hg hr => ⟨c, (hg.block k (Array.getElem?_eq_some_iff.1 h).1 (fun e' => by
    rcases hr with hr | ⟨k', o, hr, _, ho, hc⟩
    · rw [hr] at e'; cases e'
    · rw [hr] at e'; cases e'; rw [h] at ho; cases ho; cases hc)).trans h⟩⟩
/-- What lay ahead of the loop, of whatever kind. -/
theorem abide_old {row : Option Nat} {B k : Nat} (o : Obj) (hkB : k < B) (hk : row ≠ some k) : Abide (α := α) row B (fun _ W => W.heap[k]? = some o) :=
  ⟨fun pre A C h hs => (hs.1.block k (Array.getElem?_eq_some_iff.1 h).1 (fun e => hk e.symm)).trans h,
   fun pre A C r h hg hr => (hg.block k (Array.getElem?_eq_some_iff.1 h).1 (fun e => by
    rcases hr with hr | ⟨k', o, hr, h1, _, _⟩
    · rw [hr] at e; cases e
    · rw [hr] at e; cases e; omega)).trans h⟩
theorem abide_below {row : Option Nat} {B n₀ : Nat} {w0 : World} (hB : n₀ ≤ B) (hn : n₀ ≤ w0.heap.size) (hk : ∀ k, row = some k → n₀ ≤ k) : Abide (α := α) row B (fun _ W => Below n₀ w0 W) :=
  ⟨fun pre A C h hs => h.grown hs.1 (Nat.le_trans hn h.size) hk,
   fun pre A C r h hg hr => h.grown hg (Nat.le_trans hn h.size) (fun k e => by
    rcases hr with hr | ⟨k', o, hr, h1, _, _⟩
    · rw [hr] at e; cases e
    · rw [hr] at e; cases e; omega)⟩
/-- A row that the call owns, of another type than the iterator's. -/
theorem abide_owns {B base k : Nat} {e e' : TypeId} {fz : Nat × Nat} {size : Nat} (v : Value) (n : List α → Nat) (xs : List α → List Value) (hne : e ≠ e') :
    Abide (some k) B (fun pre W => W.ownsRow base e size v (n pre) (xs pre) ∧ ∃ c, W.heap[k]? = some (.cells c e' fz)) := by
  refine ⟨fun pre A C h hs => ⟨h.1.kept hs.1 ?_, (abide_own (α := α) (B := B)).1 pre A C h.2 hs⟩, fun pre A C r h hg hr => ⟨h.1.kept hg ?_, (abide_own (α := α) (B := B)).2 pre A C r h.2 hg hr⟩⟩
  · obtain ⟨ho, c, hc⟩ := h
    rcases ho.2 with ⟨rfl, _⟩ | ⟨g, cap, cur, rfl, _, hgg, _⟩
    · exact .inl rfl
    · refine .inr (fun eq => ?_)
      have : g = k := by simpa [Value.ownBlock] using eq
      subst this
      rw [hgg] at hc; cases hc; exact hne rfl
  · obtain ⟨ho, c, hc⟩ := h
    rcases ho.2 with ⟨rfl, _⟩ | ⟨g, cap, cur, rfl, _, hgg, _⟩
    · exact .inl rfl
    · refine .inr (fun eq => ?_)
      rcases hr with hr | ⟨k', o, hr, _, ho', hc'⟩
      · rw [hr] at eq; simp [Value.ownBlock] at eq
      · rw [hr] at eq
        have : g = k' := by simpa [Value.ownBlock] using eq
        subst this
        rw [hgg] at ho'; cases ho'; cases hc'

/-- The record of a loop, at a state. -/
def recOf (fn : Nat) (a : Act) (ps : Array Tmp) (assign body : Code) (D : Nat) (st : LoopState) (pe : Option Code) : Loop :=
  { state := st, pending := pe, fn, tmps := a.tmps, params := ps, assign, body, defers := D }

/-- The two blocks of the book-keeping. -/
def Book (w : World) (r : Loop) (W : World) : Prop := W.heap[w.heap.size + 1]? = some (.loop r) ∧ W.heap[w.heap.size]? = some (.deferred (some []))

theorem Book.grown {w A C : World} {r : Loop} {row : Option Nat} (h : Book w r A) (hg : A.grownBy C row) (hrow : ∀ k, row = some k → k < w.heap.size) : Book w r C :=
  ⟨(hg.block _ (Array.getElem?_eq_some_iff.1 h.1).1 (fun e => by have := hrow _ e.symm; omega)).trans h.1,
   (hg.block _ (Array.getElem?_eq_some_iff.1 h.2).1 (fun e => by have := hrow _ e.symm; omega)).trans h.2⟩
theorem Book.keeps {w A C : World} {r : Loop} (h : Book w r A) (hk : KeepsFrom w.heap.size A C) : Book w r C :=
  ⟨hk.same _ _ (by omega) h.1 rfl, hk.same _ _ (Nat.le_refl _) h.2 rfl⟩
theorem Book.put {w A : World} {r : Loop} (h : Book w r A) (r' : Loop) : Book w r' (A.putObj (w.heap.size + 1) (.loop r')) :=
  ⟨World.putObj_heap_same (Array.getElem?_eq_some_iff.1 h.1).1, (World.putObj_heap_other (by omega)).trans h.2⟩

/-- The marks that ended loops have left among the deferred calls. -/
def mark (D : Nat) : Deferred := { target := .collected D, args := #[] }
def Marks (B : Nat) (Ds : List Nat) (W : World) : Prop := Ds.Nodup ∧ ∀ D ∈ Ds, B ≤ D ∧ W.heap[D]? = some (.deferred (some []))

/-- What taking the marks up leaves. -/
structure Taken (B : Nat) (W W' : World) : Prop where
  os : W'.os = W.os
  tape : W'.tape = W.tape
  output : W'.output = W.output
  size : W'.heap.size = W.heap.size
  old : ∀ k, k < B → W'.heap[k]? = W.heap[k]?
  cells : ∀ (k : Nat) (o : Obj), W.heap[k]? = some o → o.isCells = true → W'.heap[k]? = some o
theorem Taken.refl (B : Nat) (W : World) : Taken B W W := ⟨rfl, rfl, rfl, rfl, fun _ _ => rfl, fun _ _ h _ => h⟩
theorem Taken.below {B : Nat} {W W' : World} (h : Taken B W W') : Below B W W' := ⟨h.os, h.tape, h.output, Nat.le_of_eq h.size.symm, h.old⟩

theorem leaves_marks {F : Fence} {q : Nat} {fn : Func} {tmps : Array Value} {R : Ending → World → Prop} {B : Nat} : ∀ (Ds : List Nat) (W : World), Marks B Ds W →
    (∀ W', Taken B W W' → ∃ v, (results fn tmps).run P W' = .ok v W' ∧ R (.returned v) W') → LeavesInM F q P fn tmps R (Ds.map mark) .returning W
  | [], W, _, h => by
    obtain ⟨v, h1, h2⟩ := h W (Taken.refl B W)
    exact ⟨v, h1, h2⟩
  | D :: Ds, W, hm, h => by
    obtain ⟨hnd, hall⟩ := hm
    have hD := hall D (by simp)
    have hlt : D < W.heap.size := (Array.getElem?_eq_some_iff.1 hD.2).1
    have hnot : D ∉ Ds := (List.nodup_cons.1 hnd).1
    refine ⟨by simp, .inl ⟨D, _, rfl, run_takeDeferred hD.2, leaves_marks (B := B) Ds (W.putObj D (.deferred none)) ⟨(List.nodup_cons.1 hnd).2, fun D' hD' => ?_⟩ (fun W' ht => h W' ?_)⟩⟩
    · have := hall D' (by simp [hD'])
      exact ⟨this.1, (World.putObj_heap_other (by intro e; subst e; exact hnot hD')).trans this.2⟩
    · have hp := grownBy_putObj' W D (.deferred none)
      refine ⟨ht.os.trans hp.os, ht.tape.trans hp.tape, ht.output.trans hp.output, ht.size.trans (by simp), fun k hk => (ht.old k hk).trans (World.putObj_heap_other (by omega)), fun k o hk ho => ht.cells k o ?_ ho⟩
      refine (World.putObj_heap_other (by intro e; rw [e, hD.2] at hk; cases hk; cases ho)).trans hk

theorem abide_marks {row : Option Nat} {B B0 : Nat} {Ds : List Nat} (h : ∀ D ∈ Ds, D < B ∧ row ≠ some D) : Abide (α := α) row B (fun _ W => Marks B0 Ds W) :=
  ⟨fun pre A C hm hs => ⟨hm.1, fun D hD => ⟨(hm.2 D hD).1, (abide_old (α := α) (.deferred (some [])) (h D hD).1 (h D hD).2).1 pre A C (hm.2 D hD).2 hs⟩⟩,
   fun pre A C r hm hg hr => ⟨hm.1, fun D hD => ⟨(hm.2 D hD).1, (abide_old (α := α) (.deferred (some [])) (h D hD).1 (h D hD).2).2 pre A C r (hm.2 D hD).2 hg hr⟩⟩⟩
theorem Marks.keep {B : Nat} {Ds : List Nat} {W W' : World} (h : Marks B Ds W) (hk : ∀ (k : Nat) (o : Obj), W.heap[k]? = some o → o.isCells = false → W'.heap[k]? = some o) : Marks B Ds W' :=
  ⟨h.1, fun D hD => ⟨(h.2 D hD).1, hk _ _ (h.2 D hD).2 rfl⟩⟩
theorem Marks.lt {B : Nat} {Ds : List Nat} {W : World} (h : Marks B Ds W) : ∀ D ∈ Ds, D < W.heap.size := fun D hD => (Array.getElem?_eq_some_iff.1 (h.2 D hD).2).1
theorem Marks.cons {B : Nat} {Ds : List Nat} {W : World} (h : Marks B Ds W) {D : Nat} (hD : W.heap[D]? = some (.deferred (some []))) (hB : B ≤ D) (hn : D ∉ Ds) : Marks B (D :: Ds) W :=
  ⟨List.nodup_cons.2 ⟨hn, h.1⟩, fun D' hD' => by
    rcases List.mem_cons.1 hD' with e | e
    · subst e; exact ⟨hB, hD⟩
    · exact h.2 D' e⟩
theorem Taken.owns {B base size n : Nat} {e : TypeId} {v : Value} {xs : List Value} {W W' : World} (h : Taken B W W') (ho : W.ownsRow base e size v n xs) : W'.ownsRow base e size v n xs := by
  obtain ⟨hl, h2⟩ := ho
  refine ⟨hl, ?_⟩
  rcases h2 with h2 | ⟨g, cap, cur, hv, hb, hg, hr⟩
  · exact .inl h2
  · exact .inr ⟨g, cap, cur, hv, hb, h.cells _ _ hg rfl, hr⟩

theorem wpIn_range {F : Fence} {n : Nat} {g : Operand} {ps : Array Tmp} {assign body : Code} {Q : Exit → Act → World → Prop} {a : Act} {w : World}
    (hF : Wide F) (hro : F.round = none) {gf : Nat} {lb : Array Value} (hg : a.eval g = .func (.func gf) #[] lb) (eg : ∀ args w, (callFunc gf args).run P w = .ok (.enter gf args) w)
    {encs : α → Array Value} {Kp : World → World → Prop} {row : Option Nat} {S Sp : List α → Prop} {N : Nat} {w0 : World} (hseq : Iter P gf lb encs Kp row S Sp N w0)
    (hb0 : Below w0.heap.size w0 w) (hps : ∀ x, (encs x).size = ps.size) (hrow : ∀ k, row = some k → k < w.heap.size)
    (hKt : ∀ {A B C : World}, Kp A B → Kp B C → Kp A C) (hKb : ∀ (W : World) (l : Nat) (o o' : Obj), w.heap.size ≤ l → W.heap[l]? = some o → o.isCells = false → o.isWalk = false → Kp W (W.putObj l o'))
    (I : List α → World → Prop) (Ix : Code → List α → World → Prop) (hI : Abide row w.heap.size I) (hIx : ∀ c, Abide row w.heap.size (Ix c)) (h0 : I [] w) (a₁ : α → Act)
    (hassign : ∀ (l : Nat) (x : α) (W : World) (K : Act → World → Prop), K (a₁ x) W →
      assign.wpIn (F.inRound l) (n - 1 - 1) P (Exit.then K (fun _ _ _ => False)) { tmps := (ps.zip (encs x)).foldl (fun t (p, v) => t.setIfInBounds p v) a.tmps, defers := [] } W)
    (hbody : ∀ (l : Nat) (pre : List α) (x : α) (W : World), I pre W → pre.length < N → body.wpIn (F.inRound l) (n - 1 - 1) P (ownPostG w.heap.size Kp I Ix (pre ++ [x]) W) (a₁ x) W)
    (hdone : ∀ (D : Nat) (xs : List α) (W : World), w.heap.size ≤ D → S xs → I xs W → W.heap[D]? = some (.deferred (some [])) → Q .normal { a with defers := { target := .collected D, args := #[] } :: a.defers } W)
    (hstop : ∀ (D : Nat) (c : Code) (pre : List α) (W : World), w.heap.size ≤ D → Sp pre → Ix c pre W → W.heap[D]? = some (.deferred (some [])) → c.wpIn F n P Q { a with defers := { target := .collected D, args := #[] } :: a.defers } W) :
    (Code.rangeFunc g ps assign body).wpIn F n P Q a w := by
  refine wpIn_rangeFunc ?_
  intro fn hfn
  rw [hro]
  obtain ⟨rec, hrec⟩ : ∃ rec : LoopState → Option Code → Loop, rec = recOf fn a ps assign body w.heap.size := ⟨_, rfl⟩
  have hparams : ∀ st pe, (rec st pe).params = ps := by intro st pe; rw [hrec]; rfl
  obtain ⟨W1, hW1⟩ : ∃ W1, (w.alloc (.deferred (some []))).alloc (.loop (rec .ready none)) = W1 := ⟨_, rfl⟩
  have hsz : W1.heap.size = w.heap.size + 2 := by rw [← hW1]; simp
  have hB1 : Book w (rec .ready none) W1 := by
    rw [← hW1]
    exact ⟨heap_alloc2_new w _ _, heap_alloc2_old w _ _⟩
  have hI1 : I [] W1 := by
    rw [← hW1]
    exact hI.2 _ _ _ none (hI.2 _ _ _ none h0 (World.grownBy_alloc w _ none) (.inl rfl)) (World.grownBy_alloc _ _ none) (.inl rfl)
  have hb1 : Below w0.heap.size w0 W1 := by
    rw [← hW1]; exact hb0.trans ((((Below.refl _ w).alloc (Nat.le_refl _) _).alloc (by simp) _).mono hb0.size)
  -- a turn of the record is borne by all
  have put : ∀ {Z : List α → World → Prop} (pre : List α) (W : World) (r r' : Loop), Abide row w.heap.size Z → Z pre W → Book w r W → Z pre (W.putObj (w.heap.size + 1) (.loop r')) :=
    fun pre W r r' hZ hz hb => hZ.2 pre W _ (some (w.heap.size + 1)) hz (grownBy_putObj' W _ _) (.inr ⟨_, _, rfl, by omega, hb.1, rfl⟩)
  refine ⟨w.heap.size + 1, [{ target := .collected w.heap.size, args := #[] }], W1, { target := .fn (.func gf) lb, args := #[.func (.yield (w.heap.size + 1)) #[] #[]] }, W1, gf,
    #[.func (.yield (w.heap.size + 1)) #[] #[]] ++ lb, W1, ?_, ?_, ?_, ?_, ?_, ?_⟩
  · rw [← hW1, hrec]; exact run_enterLoop_outer _ _ _ _ _
  · simp only [resolve, hg]
    simp [go_sem]
  · intro f' _; exact hF.1 f'
  · simp [invoke, go_sem, eg]
  · intro h; rw [hF.2.1] at h; cases h
  refine (hseq F (n - 1) hF hro (w.heap.size + 1) (fun pre W => I pre W ∧ Book w (rec .ready none) W) (fun pre W => ∃ c, Ix c pre W ∧ Book w (rec .done (some c)) W) W1 hb1
    (fun pre A B h hg' => ⟨hI.1 pre A B h.1 hg', h.2.grown hg'.1 hrow⟩)
    (fun pre A B h hg' => let ⟨c, hc, hk⟩ := h; ⟨c, (hIx c).1 pre A B hc hg', hk.grown hg'.1 hrow⟩) ?round ⟨hI1, hB1⟩).mono ?behind
  case round =>
    rintro pre x W ⟨hi, hk⟩ hlen
    have hy := run_yield (P := P) (args := encs x) hk.1 (by rw [hparams]; exact hps x)
    rw [hrec] at hy
    refine ⟨fn, _, assign, body, hy, roundIn_of_wpIn hfn (hassign _ x W _ ⟨_, run_beginRound hk.1 (by rw [hrec]; rfl), ?_⟩)⟩
    have hbusy := hk.put { rec .ready none with state := .busy }
    have hKp1 : Kp W (W.putObj (w.heap.size + 1) (.loop { rec .ready none with state := .busy })) := hKb _ _ _ _ (by omega) hk.1 rfl rfl
    refine wpIn_mono (hbody _ pre x _ (put pre W _ _ hI hi hk) hlen) ?_
    -- what the round's end leaves
    have fin : ∀ (jump : Option Code) (W3 : World), KeepsFrom w.heap.size (W.putObj (w.heap.size + 1) (.loop { rec .ready none with state := .busy })) W3 →
        (Instr.endRound (w.heap.size + 1) jump).run P W3 = .ok (.bool jump.isNone) (W3.putObj (w.heap.size + 1) (.loop (rec (if jump.isNone then .ready else .done) jump))) ∧ Book w { rec .ready none with state := .busy } W3 := fun jump W3 hk3 => by
      have hb3 := hbusy.keeps hk3
      refine ⟨?_, hb3⟩
      have := run_endRound (P := P) jump hb3.1
      rw [hrec] at this ⊢
      exact this
    have leave : ∀ (c : Code) (W3 : World), KeepsFrom w.heap.size (W.putObj (w.heap.size + 1) (.loop { rec .ready none with state := .busy })) W3 ∧ Ix c (pre ++ [x]) W3 →
        ∃ v w', (Instr.endRound (w.heap.size + 1) (some c)).run P W3 = .ok v w' ∧ ((Ending.returned v = .returned (.bool true) ∧ (I (pre ++ [x]) w' ∧ Book w (rec .ready none) w') ∧ Kp W w') ∨ (Ending.returned v = .returned (.bool false) ∧ ∃ c, Ix c (pre ++ [x]) w' ∧ Book w (rec .done (some c)) w')) := fun c W3 hp => by
      obtain ⟨hk3, hi3⟩ := hp
      obtain ⟨hr, hb3⟩ := fin (some c) W3 hk3
      exact ⟨_, _, hr, .inr ⟨rfl, c, put _ W3 _ _ (hIx c) hi3 hb3, hb3.put _⟩⟩
    rintro e a3 W3 hp
    cases e with
    | normal =>
      obtain ⟨hk3, hkp3, hi3⟩ := hp
      obtain ⟨hr, hb3⟩ := fin none W3 hk3
      exact ⟨_, _, hr, .inl ⟨rfl, ⟨put _ W3 _ _ hI hi3 hb3, hb3.put _⟩, hKt (hKt hKp1 hkp3) (hKb _ _ _ _ (by omega) hb3.1 rfl rfl)⟩⟩
    | ret => exact leave .ret W3 hp
    | exit id => exact leave (.exit id) W3 hp
    | goto t => exact leave (.goto t) W3 hp
    | panic ch => exact hp.elim
    | outgrown => exact hp.elim
  case behind =>
    rintro e W2 ⟨⟨v, rfl⟩, (⟨xs, hS, hi, hk⟩ | ⟨pre, hSp, c, hi, hk⟩)⟩
    · refine ⟨none, _, ?_, hdone _ xs _ (Nat.le_refl _) hS (put _ W2 _ { rec .ready none with state := .exhausted } hI hi hk) (hk.put _).2⟩
      have := run_endLoop (P := P) hk.1 (by rw [hrec]; simp [recOf])
      rw [hrec] at this ⊢
      exact this
    · refine ⟨some c, _, ?_, hstop _ c pre _ (Nat.le_refl _) hSp (put _ W2 _ { rec .done (some c) with state := .exhausted } (hIx c) hi hk) (hk.put _).2⟩
      have := run_endLoop (P := P) hk.1 (by rw [hrec]; simp [recOf])
      rw [hrec] at this ⊢
      exact this
end
end Go.Proofs.YtinfpbkbnhcifaaGreatDoor

/- A region that draws its order: operations that only read, then a tail in one order of which the first few may come up ahead of some reads. One walk of the text's order serves, plain or in a round. The conditions are closed facts of the region, and what the late reads read. -/
namespace Go.Proofs.YtinfpbkbnhcifaaGreatDoor

section
variable {F : Fence} {q : Nat} {P : Program}

/-- It ends as the text ends, in no other way. -/
def OnlyN (Q : Exit → Act → World → Prop) : Exit → Act → World → Prop := fun e a w => e = .normal ∧ Q .normal a w

/-- The tail: the first m operations keep D. -/
def wpTail (P : Program) (ops : Array Oper) (Q : Exit → Act → World → Prop) (D : World → Prop) : Nat → List Oper → Act → World → Prop
  | 0, l, a, w => wpList P ops (OnlyN Q) l a w
  | _ + 1, [], a, w => OnlyN Q .normal a w
  | m + 1, o :: rest, a, w => o.wp P a w (fun a' w' => D w' ∧ wpTail P ops Q D m rest a' w') (OnlyN Q)

theorem not_letsOut (Q : Exit → Act → World → Prop) : ¬ LetsOut (OnlyN Q) := fun ⟨_, _, h, _⟩ => by cases h

theorem rowsIn_of_rows (hF : Wide F) {row : String} {args : Array Value} {w : World} {R : Value → World → Prop} (h : Rows P row args w R) : RowsIn F q P row args w R := fun c cs _ => by
  obtain ⟨v, w', r, s⟩ := h c cs
  exact ⟨v, w', r, stepsIn_of_wide hF s⟩

/-- An operation that ends as it should, plain: so it does in a round. -/
theorem operIn_of_wp (hF : Wide F) {o : Oper} {a : Act} {w : World} {K : Act → World → Prop} {Q : Exit → Act → World → Prop} (hd : ∀ c, o.op ≠ .defer c) (h : o.wp P a w K (OnlyN Q)) : o.wpIn F q P a w K Q := by
  refine ⟨fun f _ => hF.1 f, ?_⟩
  rw [Oper.semAt_eq _ _ _ hd]
  unfold Oper.wp at h
  have hnd : F.depth.isSome = true → 1 ≤ q := fun e => by rw [hF.2.1] at e; cases e
  generalize (execOp a.eval o).run P w = r at *
  cases r with
  | ok m w' =>
    cases m <;> simp only [Oper.upon] at h <;> simp only [Oper.uponIn]
    case value v => exact h
    case skip => exact h
    case defer d => exact h
    case enter f args =>
      refine ⟨hnd, callsIn_of_calls hF (h.mono ?_)⟩
      intro e w'' he
      cases e with
      | returned v => exact he
      | panicked chain => exact absurd he.1 (by simp)
      | outgrown => exact absurd he (not_letsOut Q)
    case row row args => exact ⟨hnd, rowsIn_of_rows hF h⟩
  | halt x w' =>
    cases x <;> simp only [Oper.upon] at h
    exact absurd h.1 (by simp)

theorem listIn_of_list (hF : Wide F) {ops : Array Oper} {Q : Exit → Act → World → Prop} : ∀ (l : List Oper), (∀ o ∈ l, ∀ c, o.op ≠ .defer c) → ∀ (a : Act) (w : World), wpList P ops (OnlyN Q) l a w → wpListIn F q P ops Q l a w
  | [], _, _, _, h => h.2
  | o :: l, hd, a, w, h => by
    simp only [wpList] at h
    simp only [wpListIn]
    split
    · rename_i hw
      rw [if_pos hw] at h
      rcases h with h | h
      · exact Oper.wpIn_mono (fun a w h' => listIn_of_list hF l (fun o ho => hd o (by simp [ho])) a w h') (operIn_of_wp hF (hd o (by simp)) h)
      · exact absurd h.2 (not_letsOut Q)
    · rename_i hw
      rw [if_neg hw] at h
      exact ⟨fun f _ => hF.1 f, listIn_of_list hF l (fun o ho => hd o (by simp [ho])) _ w h⟩

/-- No 'defer' among them. -/
def noDefer (l : List Oper) : Bool := l.all fun o => match o.op with | .defer _ => false | _ => true
theorem noDefer_spec {l : List Oper} (h : noDefer l = true) : ∀ o ∈ l, ∀ c, o.op ≠ .defer c := by
  intro o ho c hc
  have := List.all_eq_true.1 h o ho
  simp [hc] at this

/-- A region in the text's order, walked plainly, serves in a round. -/
theorem wpIn_region_plain (hF : Wide F) {id : Nat} {Q : Exit → Act → World → Prop} {a : Act} {w : World} {l : List Oper} (hd : noDefer l = true) (h : wpList P l.toArray (OnlyN Q) l a w) : (Code.region id l.toArray false).wpIn F q P Q a w :=
  wpIn_region_lit (listIn_of_list hF l (noDefer_spec hd) a w h)

/-! ### What the text's order yields -/
/-- Each operation's temporaries are written by operations that it waits for, its own by none else. -/
def singleB (ops : Array Oper) (k : Nat) : Bool :=
  (List.range k).all fun i => (List.range k).all fun j => i == j || match ops[i]?, ops[j]? with
    | some oi, some oj => match oj.dst with
      | some d => (!(oi.looksAt ops).contains d || oi.after.any (fun e => Region.binds .any e && e.on == j)) && oi.dst != some d
      | none => true
    | _, _ => false
def selfB (ops : Array Oper) (k size : Nat) : Bool :=
  (List.range k).all fun i => match ops[i]? with
    | some o => match o.dst with
      | some d => !(o.looksAt ops).contains d && decide (d < size)
      | none => true
    | none => false

theorem singleB_spec {ops : Array Oper} {k i j : Nat} {oi oj : Oper} {d : Tmp} (h : singleB ops k = true) (hi : i < k) (hj : j < k) (hne : i ≠ j) (hoi : ops[i]? = some oi) (hoj : ops[j]? = some oj) (hd : oj.dst = some d) :
    (d ∈ oi.looksAt ops → ∃ e ∈ oi.after, Region.binds .any e = true ∧ e.on = j) ∧ oi.dst ≠ some d := by
  have h1 := List.all_eq_true.1 (List.all_eq_true.1 h i (List.mem_range.2 hi)) j (List.mem_range.2 hj)
  simp only [hoi, hoj, hd, Bool.or_eq_true, Bool.and_eq_true] at h1
  rcases h1 with h1 | ⟨h1, h2⟩
  · exact absurd (by simpa using h1) hne
  · refine ⟨fun hm => ?_, by simpa using h2⟩
    rcases h1 with h1 | h1
    · simp [hm] at h1
    · obtain ⟨e, he, hb⟩ := Array.any_eq_true'.1 h1
      simp only [Bool.and_eq_true, beq_iff_eq] at hb
      exact ⟨e, he, hb.1, hb.2⟩
theorem selfB_spec {ops : Array Oper} {k size i : Nat} {o : Oper} {d : Tmp} (h : selfB ops k size = true) (hi : i < k) (ho : ops[i]? = some o) (hd : o.dst = some d) : d ∉ o.looksAt ops ∧ d < size := by
  have h1 := List.all_eq_true.1 h i (List.mem_range.2 hi)
  simp only [ho, hd, Bool.and_eq_true] at h1
  exact ⟨by simpa using h1.1, by simpa using h1.2⟩

/-- Two frames agree on what an operation looks at. -/
theorem exec_same {ops : Array Oper} {o : Oper} {a b : Act} (hs : ∀ cs c, o.op ≠ .select cs c) (h : ∀ t ∈ o.looksAt ops, a.tmps[t]? = b.tmps[t]?) : execOp a.eval o = execOp b.eval o := by
  refine execOp_congr o hs (fun x hx => ?_)
  cases x with
  | tmp t =>
    have : t ∈ o.looksAt ops := List.mem_append_left _ (List.mem_filterMap.2 ⟨.tmp t, by simpa using hx, rfl⟩)
    have h1 := h t this
    simp only [Act.eval, Array.getD_eq_getD_getElem?, h1]
  | _ => rfl
theorem wanted_same {ops : Array Oper} {o : Oper} {a b : Act} (h : ∀ t ∈ o.looksAt ops, a.tmps[t]? = b.tmps[t]?) : Region.wanted o (yielded ops a.tmps) = Region.wanted o (yielded ops b.tmps) := by
  unfold Region.wanted
  cases hg : o.guard with
  | none => rfl
  | some p =>
    obtain ⟨j, c⟩ := p
    simp only [yielded]
    cases hd : (ops[j]?).bind (·.dst) with
    | none => rfl
    | some t =>
      have : t ∈ o.looksAt ops := List.mem_append_right _ (by rw [hg]; simp [hd])
      simp [h t this]

/-- The operation yields what its slot holds in the last frame. -/
def Good (P : Program) (ops : Array Oper) (C : World → Prop) (b : Act) (o : Oper) : Prop :=
  (Region.wanted o (yielded ops b.tmps) = true ∧ ∃ v, (∀ d, o.dst = some d → b.tmps[d]? = some v) ∧ ∀ w, C w → o.quietAt P b C w v) ∨
  (Region.wanted o (yielded ops b.tmps) = false ∧ ∀ d, o.dst = some d → b.tmps[d]? = some undef)

theorem put_other (a : Act) (dst : Option Tmp) (v : Value) (s : Nat) (h : dst ≠ some s) : (a.put dst v).tmps[s]? = a.tmps[s]? := by
  cases dst with
  | none => rfl
  | some d =>
    have : d ≠ s := fun e => h (by rw [e])
    simp [Act.put, Array.getElem?_setIfInBounds_ne this]
theorem put_self (a : Act) (d : Tmp) (v : Value) (h : d < a.tmps.size) : (a.put (some d) v).tmps[d]? = some v := by
  simp [Act.put, h]
theorem put_size (a : Act) (dst : Option Tmp) (v : Value) : (a.put dst v).tmps.size = a.tmps.size := by
  cases dst <;> simp [Act.put]
theorem put_defers (a : Act) (dst : Option Tmp) (v : Value) : (a.put dst v).defers = a.defers := by
  cases dst <;> rfl

theorem lex_spec {ops : Array Oper} {C : World → Prop} {Lq : Act → Prop} {k : Nat} (hsel : Region.noSelect ops = true) (hB : headB ops k = true) (h1 : singleB ops k = true) : ∀ (l : List Oper) (i : Nat) (a : Act), (∀ j, j < l.length → l[j]? = ops[i + j]?) → i + l.length ≤ k → selfB ops k a.tmps.size = true →
    wpQuiet P ops C Lq l a → ∃ b, Lq b ∧ (∀ j o, i ≤ j → j < i + l.length → ops[j]? = some o → Good P ops C b o) ∧ b.tmps.size = a.tmps.size ∧ b.defers = a.defers ∧
      (∀ s, (∀ j o, i ≤ j → j < i + l.length → ops[j]? = some o → o.dst ≠ some s) → b.tmps[s]? = a.tmps[s]?)
  | [], i, a, _, _, _, h => ⟨a, h, fun j o h1 h2 _ => by simp at h2; omega, rfl, rfl, fun _ _ => rfl⟩
  | o :: l, i, a, hl, hk, hz, h => by
    have h0 : ops[i]? = some o := by simpa using (hl 0 (by simp)).symm
    have hik : i < k := by simp at hk; omega
    have hl' : ∀ j, j < l.length → l[j]? = ops[i + 1 + j]? := fun j hj => by have := hl (j + 1) (by simp; omega); simpa [Nat.add_assoc, Nat.add_comm 1 j] using this
    -- what is put
    obtain ⟨v, hv, hr⟩ : ∃ v, ((Region.wanted o (yielded ops a.tmps) = true ∧ ∀ w, C w → o.quietAt P a C w v) ∨ (Region.wanted o (yielded ops a.tmps) = false ∧ v = undef)) ∧ wpQuiet P ops C Lq l (a.put o.dst v) := by
      simp only [wpQuiet] at h
      split at h
      · rename_i hw; obtain ⟨v, g1, g2⟩ := h; exact ⟨v, .inl ⟨hw, g1⟩, g2⟩
      · rename_i hw; exact ⟨undef, .inr ⟨by simpa using hw, rfl⟩, h⟩
    obtain ⟨b, b1, b2, b3, b4, b5⟩ := lex_spec hsel hB h1 l (i + 1) (a.put o.dst v) hl' (by simp at hk; omega) (by rw [put_size]; exact hz) hr
    have later : ∀ j o', i + 1 ≤ j → j < i + 1 + l.length → ops[j]? = some o' → ∀ d, o'.dst = some d → d ∉ o.looksAt ops ∧ o.dst ≠ some d := fun j o' g1 g2 g3 d hd => by
      have hs := singleB_spec h1 hik (by simp at hk; omega) (by omega) h0 g3 hd
      refine ⟨fun hm => ?_, hs.2⟩
      obtain ⟨e, he, hb, hon⟩ := hs.1 hm
      obtain ⟨o'', ho'', hlt, _⟩ := headB_spec hB hik
      rw [h0] at ho''; cases ho''
      have := hlt e he hb
      omega
    have same : ∀ t ∈ o.looksAt ops, b.tmps[t]? = a.tmps[t]? := fun t ht => by
      rw [b5 t (fun j o' g1 g2 g3 e => (later j o' g1 g2 g3 t e).1 ht)]
      exact put_other _ _ _ _ (fun e => (selfB_spec hz hik h0 e).1 ht)
    have slot : ∀ d, o.dst = some d → b.tmps[d]? = some v := fun d hd => by
      rw [b5 d (fun j o' g1 g2 g3 e => (later j o' g1 g2 g3 d e).2 hd), hd]
      exact put_self _ _ _ (selfB_spec hz hik h0 hd).2
    refine ⟨b, b1, ?_, by rw [b3, put_size], by rw [b4, put_defers], ?_⟩
    · intro j o' g1 g2 g3
      by_cases e : j = i
      · subst e
        rw [h0] at g3; cases g3
        rcases hv with ⟨w1, w2⟩ | ⟨w1, rfl⟩
        · refine .inl ⟨by rw [wanted_same same]; exact w1, v, slot, fun w hw => ?_⟩
          have := w2 w hw
          unfold Oper.quietAt at *
          rw [exec_same (fun cs c => Region.noSelect_spec hsel _ _ cs c h0) same]
          exact this
        · exact .inr ⟨by rw [wanted_same same]; exact w1, slot⟩
      · exact b2 j o' (by omega) (by simp at g2; omega) g3
    · intro s hs
      rw [b5 s (fun j o' g1 g2 g3 => hs j o' (by omega) (by simp; omega) g3)]
      exact put_other _ _ _ _ (hs i o (Nat.le_refl _) (by simp) h0)

/-! ### Whatever order is drawn -/
/-- How many are not listed yet. -/
def unl (x : Array Bool) (k : Nat) : Nat := ((List.range k).filter fun i => !x.getD i true).length
theorem unl_set (x : Array Bool) (i : Nat) (hs : i < x.size) (hu : x.getD i true = false) : ∀ k, (i < k → unl (x.setIfInBounds i true) k + 1 = unl x k) ∧ (k ≤ i → unl (x.setIfInBounds i true) k = unl x k)
  | 0 => ⟨fun h => by omega, fun _ => rfl⟩
  | k + 1 => by
    have ih := unl_set x i hs hu k
    have e : ∀ y : Array Bool, unl y (k + 1) = unl y k + (if y.getD k true = true then 0 else 1) := fun y => by
      unfold unl
      rw [List.range_succ, List.filter_append, List.length_append]
      have : (List.filter (fun i => !y.getD i true) [k]).length = if y.getD k true = true then 0 else 1 := by
        rw [List.filter_cons]
        cases y.getD k true <;> rfl
      rw [this]
    rw [e, e]
    by_cases hik : i = k
    · subst hik
      refine ⟨fun _ => ?_, fun h => by omega⟩
      have h1 : (x.setIfInBounds i true).getD i true = true := by simp [Array.getD, hs]
      rw [h1, hu, ih.2 (Nat.le_refl _)]
      simp
    · rw [getD_set_ne true hik]
      exact ⟨fun h => by rw [← ih.1 (by omega)]; omega, fun h => by rw [ih.2 (by omega)]⟩

/-- Each read that is not late comes ahead of operation n. -/
def lateB (ops : Array Oper) (n m : Nat) (late : List Nat) : Bool :=
  ((List.range n).all fun i => late.contains i || (List.range (n + 1)).any fun j => decide (i < j) && !late.contains j && Region.waitsFor .any ops j i) &&
  ((List.range m).all fun t => t == 0 || Region.waitsFor .any ops (n + t) (n + t - 1)) &&
  ((List.range (n + m)).all fun i => !(late.contains i || decide (n ≤ i)) || match ops[i]? with | some o => o.guard.isNone | none => false) && !late.contains n

theorem late_first {ops : Array Oper} {n m : Nat} {late : List Nat} (h : lateB ops n m late = true) {x : Array Bool} (hcl : ∀ j oj, ops[j]? = some oj → x.getD j false = true → ∀ e ∈ oj.after, Region.binds .any e = true → x.getD e.on false = true)
    (hn : x.getD n false = true) : ∀ d i, n - i = d → i < n → late.contains i = false → x.getD i false = true := by
  intro d
  induction d using Nat.strongRecOn with
  | _ d ih =>
    intro i hd hi hl
    simp only [lateB, Bool.and_eq_true] at h
    have h1 := List.all_eq_true.1 h.1.1.1 i (List.mem_range.2 hi)
    rw [hl, Bool.false_or] at h1
    obtain ⟨j, hj, hj2⟩ := List.any_eq_true.1 h1
    simp only [Bool.and_eq_true, decide_eq_true_eq, Bool.not_eq_true'] at hj2
    obtain ⟨⟨h2, h3⟩, h4⟩ := hj2
    obtain ⟨oj, hoj, e, he, hb, hon⟩ := Region.waitsFor_spec h4
    have hjn : j ≤ n := by have := List.mem_range.1 hj; omega
    have hjl : x.getD j false = true := by
      by_cases e : j = n
      · rw [e]; exact hn
      · exact ih (n - j) (by omega) j rfl (by omega) h3
    rw [← hon]
    exact hcl j oj hoj hjl e he hb

theorem wp_transfer {o : Oper} {a c : Act} {w : World} {K K' : Act → World → Prop} {Q : Exit → Act → World → Prop} (he : execOp a.eval o = execOp c.eval o) (hd : a.defers = c.defers)
    (hK : ∀ df v w', K ({ c with defers := df }.put o.dst v) w' → K' ({ a with defers := df }.put o.dst v) w') (h : o.wp P c w K (OnlyN Q)) : o.wp P a w K' (OnlyN Q) := by
  unfold Oper.wp at *
  rw [he]
  have hK0 : ∀ v w', K (c.put o.dst v) w' → K' (a.put o.dst v) w' := fun v w' hk => by
    have := hK c.defers v w' hk
    rw [← hd] at this
    exact this
  generalize (execOp c.eval o).run P w = r at *
  cases r with
  | ok m w' =>
    cases m <;> simp only [Oper.upon] at h ⊢
    case value v => exact hK0 _ _ h
    case skip => exact hK0 _ _ h
    case defer d => rw [hd]; exact hK _ _ _ h
    case enter f args =>
      refine h.mono ?_
      intro e w'' hh
      cases e with
      | returned v => exact hK0 _ _ hh
      | panicked chain => exact absurd hh.1 (by simp)
      | outgrown => exact absurd hh (not_letsOut Q)
    case row row args => exact Rows.mono h (fun _ _ hh => hK0 _ _ hh)
  | halt x w' =>
    cases x <;> simp only [Oper.upon] at h ⊢
    exact absurd h.1 (by simp)

/-- Some operation that comes up in a wide fence with a known value. -/
theorem opIn_value (hF : Wide F) {ops : Array Oper} {i : Nat} {o : Oper} {a : Act} {w w' : World} {v : Value} {K : Act → World → Prop} {Q : Exit → Act → World → Prop} (hd : ∀ c, o.op ≠ .defer c) (ho : ops[i]? = some o) (hw : Region.wanted o (yielded ops a.tmps) = true)
    (hr : (execOp a.eval o).run P w = .ok (.value v) w') (hK : K (a.put o.dst v) w') : wpOpIn F q P ops Q i K a w := by
  unfold wpOpIn
  simp only [ho]
  rw [if_pos hw]
  refine ⟨fun f _ => hF.1 f, ?_⟩
  rw [Oper.semAt_eq _ _ _ hd, hr]
  exact hK

/-- All that is kept on the way. -/
structure Way (ops : Array Oper) (n m j : Nat) (b a c : Act) (x : Array Bool) : Prop where
  inv : HeadInv .any ops (n + m) x
  tail : ∀ t, n ≤ t → t < n + m → (x.getD t true = true ↔ t < n + j)
  size : a.tmps.size = b.tmps.size
  defers : a.defers = c.defers
  csize : c.tmps.size = b.tmps.size
  done : ∀ i, i < n → x.getD i true = true → ∀ o d, ops[i]? = some o → o.dst = some d → a.tmps[d]? = b.tmps[d]?
  old : ∀ s, (∀ i o, i < n + j → ops[i]? = some o → o.dst ≠ some s) → a.tmps[s]? = b.tmps[s]?
  star1 : ∀ i o d, i < n → ops[i]? = some o → o.dst = some d → c.tmps[d]? = b.tmps[d]?
  star2 : ∀ s, (∀ i o, i < n → ops[i]? = some o → o.dst ≠ some s) → c.tmps[s]? = a.tmps[s]?

theorem anyIn_late (hF : Wide F) {l : List Oper} {n m g : Nat} {late : List Nat} {C D : World → Prop} {Q : Exit → Act → World → Prop} {b : Act}
    (hsel : Region.noSelect l.toArray = true) (hdef : noDefer l = true) (hB : headB l.toArray (n + m) = true) (h1 : singleB l.toArray (n + m) = true) (hself : selfB l.toArray (n + m) b.tmps.size = true) (hlate : lateB l.toArray n m late = true)
    (hs : Region.sinkB .any l.toArray (n + m) = true) (hc : Region.chainB .any l.toArray (n + m) = true) (hn : n + m < l.length) (hg : g = l.length - (n + m))
    (hseq : Region.seqB .any l.toArray (l.length - (n + m)) (n + m) ((List.replicate (n + m) true ++ List.replicate (l.length - (n + m)) false).toArray) = true)
    (hgood : ∀ i o, i < n → l.toArray[i]? = some o → Good P l.toArray C b o)
    (hD : ∀ w, D w → ∀ i o, late.contains i = true → l.toArray[i]? = some o → ∃ v, (execOp b.eval o).run P w = .ok (.value v) w ∧ ∀ d, o.dst = some d → b.tmps[d]? = some v) :
    ∀ (fuel j : Nat) (x : Array Bool) (a c : Act) (w : World), j ≤ m → unl x (n + m) ≤ fuel → Way l.toArray n m j b a c x → (j = 0 → C w ∧ c = b) → (0 < j → D w) → (j = 0 → ∀ w, C w → D w ∧ wpTail P l.toArray Q D m (l.drop n) b w) → (0 < j → wpTail P l.toArray Q D (m - j) (l.drop (n + j)) c w) →
      wpAnyIn F q P .any l.toArray Q (fuel + g) x a w := by
  have hdf : ∀ (i : Nat) (o : Oper), l.toArray[i]? = some o → ∀ c, o.op ≠ .defer c := fun i o ho => noDefer_spec hdef o (by
    have := Array.mem_of_getElem? ho
    simpa using this)
  have hsl : ∀ (i : Nat) (o : Oper), l.toArray[i]? = some o → ∀ cs c, o.op ≠ .select cs c := fun i o ho cs c => Region.noSelect_spec hsel i o cs c ho
  have hlast := hlate
  simp only [lateB, Bool.and_eq_true] at hlast
  obtain ⟨⟨⟨_, hchain⟩, hguard⟩, hnl⟩ := hlast
  have hn' : n + m < l.toArray.size := by simpa using hn
  -- all are listed: the rest goes in the text's order
  have finish : ∀ (j : Nat) (x : Array Bool) (a c : Act) (w : World), j ≤ m → (∀ i, i < n + m → x.getD i true = true) → Way l.toArray n m j b a c x → (j = 0 → C w ∧ c = b) → (j = 0 → ∀ w, C w → D w ∧ wpTail P l.toArray Q D m (l.drop n) b w) → (0 < j → wpTail P l.toArray Q D (m - j) (l.drop (n + j)) c w) →
      wpAnyIn F q P .any l.toArray Q g x a w := by
    intro j x a c w hj hx W h0 hC hT
    have hjm : j = m := by
      by_cases hm : m = 0
      · omega
      · have := (W.tail (n + m - 1) (by omega) (by omega)).1 (hx _ (by omega))
        omega
    subst hjm
    have hR : wpList P l.toArray (OnlyN Q) (l.drop (n + j)) c w := by
      by_cases hz : j = 0
      · subst hz
        obtain ⟨hCw, rfl⟩ := h0 rfl
        have := (hC rfl w hCw).2
        simpa [wpTail] using this
      · have := hT (by omega)
        rw [Nat.sub_self] at this
        exact this
    have hac : a = c := by
      have ht : a.tmps = c.tmps := by
        apply Array.ext_getElem?
        intro s
        by_cases hs : ∃ i o, i < n ∧ l.toArray[i]? = some o ∧ o.dst = some s
        · obtain ⟨i, o, hi, ho, hd⟩ := hs
          rw [W.done i hi (hx i (by omega)) o s ho hd, W.star1 i o s hi ho hd]
        · rw [W.star2 s (fun i o hi ho hd => hs ⟨i, o, hi, ho, hd⟩)]
      have hd := W.defers
      obtain ⟨t1, d1⟩ := a
      obtain ⟨t2, d2⟩ := c
      simp only at ht hd
      subst ht hd
      rfl
    subst hac
    have hxe := listed_eq hn W.inv hx
    have h4 := wpAnyIn_seq (F := F) (n := q) (md := .any) (Q' := Q) (l.drop (n + j)) (n + j) x a w (fun i => by simp [List.getElem?_drop]) (by rw [List.length_drop, hxe]; exact hseq)
      (listIn_of_list hF _ (fun o ho => noDefer_spec hdef o (List.mem_of_mem_drop ho)) a w hR)
    rw [List.length_drop] at h4
    rw [hg]; exact h4
  intro fuel
  induction fuel with
  | zero =>
    intro j x a c w hj hu W h0 hjD hC hT
    rw [Nat.zero_add]
    refine finish j x a c w hj ?_ W h0 hC hT
    intro i hi
    cases h : x.getD i true with
    | true => rfl
    | false =>
      have : i ∈ (List.range (n + m)).filter fun i => !x.getD i true := by
        rw [List.mem_filter]
        exact ⟨List.mem_range.2 hi, by rw [h]; rfl⟩
      have := List.length_pos_of_mem this
      unfold unl at hu
      omega
  | succ fuel ih =>
    intro j x a c w hj hu W h0 hjD hC hT
    by_cases hx : ∀ i, i < n + m → x.getD i true = true
    · exact wpAnyIn_add (finish j x a c w hj hx W h0 hC hT) _
    rw [show fuel + 1 + g = (fuel + g) + 1 by omega]
    have hxs : x.size = l.toArray.size := W.inv.size
    obtain ⟨m', hm', hmr⟩ := head_ready hB hx (by rw [hxs]; omega)
    have hmu := (mem_ready.1 hmr).1
    refine ⟨fun e => (by rw [e] at hmr; cases hmr), fun i hi => ?_⟩
    have hik : i < n + m := by
      rcases Nat.lt_or_ge i (n + m) with h' | h'
      · exact h'
      · exact absurd hi (tail_waits hs hc hn' W.inv _ m' rfl hm' hmu i h')
    obtain ⟨hun, o, ho, hall⟩ := mem_ready.1 hi
    have hix : i < x.size := by rw [hxs]; omega
    have hu' : unl (x.setIfInBounds i true) (n + m) ≤ fuel := by
      have := (unl_set x i hix hun (n + m)).1 hik
      omega
    have hinv' := W.inv.set hi hik
    obtain ⟨o', ho', hlt, _⟩ := headB_spec hB hik
    rw [ho] at ho'; cases ho'
    -- a slot that the operation looks at, written by an operation of the head: that one is listed
    have looked : ∀ t ∈ o.looksAt l.toArray, ∀ j' oj, j' < n + m → l.toArray[j']? = some oj → oj.dst = some t → j' < i ∧ x.getD j' true = true := fun t ht j' oj hj' hoj hd => by
      by_cases e : i = j'
      · subst e; rw [ho] at hoj; cases hoj; exact absurd ht (selfB_spec hself hik ho hd).1
      · obtain ⟨ed, hed, hb, hon⟩ := (singleB_spec h1 hik hj' e ho hoj hd).1 ht
        have h2 := hall ed hed hb
        have h3 := hlt ed hed hb
        rw [hon] at h2 h3
        refine ⟨h3, ?_⟩
        have : j' < x.size := by omega
        simpa [Array.getD, this] using h2
    by_cases hin : i < n
    · -- a read of the head
      have same : ∀ t ∈ o.looksAt l.toArray, a.tmps[t]? = b.tmps[t]? := fun t ht => by
        by_cases hs : ∃ j' oj, j' < n ∧ l.toArray[j']? = some oj ∧ oj.dst = some t
        · obtain ⟨j', oj, hj', hoj, hd⟩ := hs
          exact W.done j' hj' (looked t ht j' oj (by omega) hoj hd).2 oj t hoj hd
        · refine W.old t (fun j' oj hj' hoj hd => ?_)
          by_cases e : j' < n
          · exact hs ⟨j', oj, e, hoj, hd⟩
          · have := (looked t ht j' oj (by omega) hoj hd).1
            omega
      have hex : execOp a.eval o = execOp b.eval o := exec_same (hsl i o ho) same
      have hwa : Region.wanted o (yielded l.toArray a.tmps) = Region.wanted o (yielded l.toArray b.tmps) := wanted_same same
      -- behind it
      have next : ∀ (v : Value) (w' : World), (∀ d, o.dst = some d → b.tmps[d]? = some v) → (j = 0 → C w') → (0 < j → w' = w) → wpAnyIn F q P .any l.toArray Q (fuel + g) (x.setIfInBounds i true) (a.put o.dst v) w' := fun v w' hv hCw hww => by
        refine ih j _ _ c w' hj hu' ?_ (fun e => ⟨hCw e, (h0 e).2⟩) (fun e => by rw [hww e]; exact hjD e) hC (fun e => by rw [hww e]; exact hT e)
        refine ⟨hinv', ?_, by rw [put_size]; exact W.size, by rw [put_defers]; exact W.defers, W.csize, ?_, ?_, W.star1, ?_⟩
        · intro t h1' h2'
          rw [getD_set_ne true (by omega : i ≠ t)]
          exact W.tail t h1' h2'
        · intro i' hi' hl o' d ho'' hd
          by_cases e : i = i'
          · subst e
            rw [ho] at ho''; cases ho''
            rw [hd, put_self _ _ _ (by rw [W.size]; exact (selfB_spec hself hik ho hd).2), hv d hd]
          · rw [getD_set_ne true e] at hl
            rw [put_other _ _ _ _ (fun e' => (singleB_spec h1 hik (by omega) e ho ho'' hd).2 e')]
            exact W.done i' hi' hl o' d ho'' hd
        · intro s hs
          rw [put_other _ _ _ _ (hs i o (by omega) ho)]
          exact W.old s hs
        · intro s hs
          rw [put_other _ _ _ _ (hs i o hin ho)]
          exact W.star2 s hs
      rcases hgood i o hin ho with ⟨hw, v, hv, hq⟩ | ⟨hw, hv⟩
      · by_cases hj0 : j = 0
        · -- in the class C
          have hCw := (h0 hj0).1
          have h3 := hq w hCw
          unfold Oper.quietAt at h3
          rw [← hex] at h3
          unfold wpOpIn
          simp only [ho]
          rw [if_pos (by rw [hwa]; exact hw)]
          refine ⟨fun f _ => hF.1 f, ?_⟩
          rw [Oper.semAt_eq _ _ _ (hdf i o ho)]
          generalize (execOp a.eval o).run P w = r at h3
          cases r with
          | ok nx w' =>
            cases nx <;> simp only [Oper.quietUpon] at h3 <;> simp only [Oper.uponIn]
            case value u =>
              obtain ⟨e1, e2⟩ := h3
              rw [e2]
              exact next v w' hv (fun _ => by rw [e1]; exact hCw) (fun h => by omega)
            case skip =>
              obtain ⟨e1, e2⟩ := h3
              rw [← e2]
              exact next v w' hv (fun _ => by rw [e1]; exact hCw) (fun h => by omega)
            case enter f args =>
              obtain ⟨e1, hcall⟩ := h3
              rw [e1]
              refine ⟨fun hd => (by rw [hF.2.1] at hd; cases hd), callsIn_of_calls hF (hcall.mono ?_)⟩
              rintro e w'' ⟨he, hw''⟩
              subst he
              exact next v w'' hv (fun _ => hw'') (fun h => by omega)
          | halt z w' => simp only [Oper.quietUpon] at h3
        · -- late: a read
          have hnl' : x.getD n true = true := (W.tail n (Nat.le_refl _) (by omega)).2 (by omega)
          have hnf : x.getD n false = true := by
            have : n < x.size := by rw [hxs]; omega
            simpa [Array.getD, this] using hnl'
          have hlt' : late.contains i = true := by
            cases hc' : late.contains i with
            | true => rfl
            | false =>
              have := late_first hlate W.inv.closed hnf _ i rfl hin hc'
              have h5 : x.getD i true = true := by
                simpa [Array.getD, hix] using this
              rw [h5] at hun; cases hun
          obtain ⟨v', hr, hv'⟩ := hD w (hjD (by omega)) i o hlt' ho
          rw [← hex] at hr
          exact opIn_value hF (hdf i o ho) ho (by rw [hwa]; exact hw) hr (next v' w hv' (fun e => absurd e hj0) (fun _ => rfl))
      · unfold wpOpIn
        simp only [ho]
        rw [if_neg (by rw [hwa, hw]; simp)]
        exact ⟨fun f _ => hF.1 f, next undef w hv (fun e => (h0 e).1) (fun _ => rfl)⟩
    · -- an operation of the tail
      have hij : i = n + j := by
        have h2 : ¬ i < n + j := fun h => by
          have := (W.tail i (by omega) hik).2 h
          rw [hun] at this; cases this
        by_cases e : i = n + j
        · exact e
        · exfalso
          have h3 := List.all_eq_true.1 hchain (i - n) (List.mem_range.2 (by omega))
          have h4 : (i - n == 0) = false := by simp; omega
          rw [h4, Bool.false_or, show n + (i - n) = i by omega] at h3
          obtain ⟨oi, hoi, e', he', hb', hon'⟩ := Region.waitsFor_spec h3
          rw [ho] at hoi; cases hoi
          have h5 := hall e' he' hb'
          rw [hon'] at h5
          have h6 : x.getD (i - 1) true = true := by
            have : i - 1 < x.size := by omega
            simpa [Array.getD, this] using h5
          have := (W.tail (i - 1) (by omega) (by omega)).1 h6
          omega
      subst hij
      have hg' : o.guard = none := by
        have h3 := List.all_eq_true.1 hguard (n + j) (List.mem_range.2 hik)
        have h4 : (late.contains (n + j) || decide (n ≤ n + j)) = true := by simp
        rw [h4, ho] at h3
        simpa using h3
      have hw : Region.wanted o (yielded l.toArray a.tmps) = true := by simp [Region.wanted, hg']
      have same : ∀ t ∈ o.looksAt l.toArray, a.tmps[t]? = c.tmps[t]? := fun t ht => by
        by_cases hs : ∃ j' oj, j' < n ∧ l.toArray[j']? = some oj ∧ oj.dst = some t
        · obtain ⟨j', oj, hj', hoj, hd⟩ := hs
          rw [W.done j' hj' (looked t ht j' oj (by omega) hoj hd).2 oj t hoj hd, W.star1 j' oj t hj' hoj hd]
        · rw [W.star2 t (fun i o hi ho hd => hs ⟨i, o, hi, ho, hd⟩)]
      have hex : execOp a.eval o = execOp c.eval o := exec_same (hsl _ o ho) same
      have hdrop : l.drop (n + j) = o :: l.drop (n + j + 1) := by
        have : l[n + j]? = some o := by simpa using ho
        obtain ⟨hlt2, he2⟩ := List.getElem?_eq_some_iff.1 this
        rw [List.drop_eq_getElem_cons hlt2, he2]
      have hrest : wpTail P l.toArray Q D (m - j) (l.drop (n + j)) c w := by
        by_cases hz : j = 0
        · subst hz
          obtain ⟨hCw, rfl⟩ := h0 rfl
          simpa using (hC rfl w hCw).2
        · exact hT (by omega)
      rw [show m - j = (m - (j + 1)) + 1 by omega, hdrop] at hrest
      simp only [wpTail] at hrest
      unfold wpOpIn
      simp only [ho]
      rw [if_pos hw]
      refine operIn_of_wp hF (hdf _ o ho) (wp_transfer hex W.defers (fun df v w' hk => ?_) hrest)
      refine ih (j + 1) _ _ ({ c with defers := df }.put o.dst v) w' (by omega) hu' ?_ (fun e => by omega) (fun _ => hk.1) (fun e => by omega) (fun _ => by
        have := hk.2
        rw [show n + (j + 1) = n + j + 1 by omega]
        exact this)
      have hnoth : ∀ i' o' d, i' < n → l.toArray[i']? = some o' → o'.dst = some d → o.dst ≠ some d := fun i' o' d hi' ho' hd => (singleB_spec h1 hik (by omega) (by omega) ho ho' hd).2
      refine ⟨hinv', ?_, by rw [put_size]; exact W.size, by rw [put_defers, put_defers], by rw [put_size]; exact W.csize, ?_, ?_, ?_, ?_⟩
      · intro t h1' h2'
        by_cases e : n + j = t
        · subst e
          have : (x.setIfInBounds (n + j) true).getD (n + j) true = true := by simp [Array.getD, hix]
          rw [this]
          exact ⟨fun _ => by omega, fun _ => rfl⟩
        · rw [getD_set_ne true e, W.tail t h1' h2']
          omega
      · intro i' hi' hl o' d ho' hd
        rw [getD_set_ne true (by omega : n + j ≠ i')] at hl
        rw [put_other _ _ _ _ (hnoth i' o' d hi' ho' hd)]
        exact W.done i' hi' hl o' d ho' hd
      · intro s hs
        rw [put_other _ _ _ _ (hs (n + j) o (by omega) ho)]
        exact W.old s (fun i' o' hi' ho' => hs i' o' (by omega) ho')
      · intro i' o' d hi' ho' hd
        rw [put_other _ _ _ _ (hnoth i' o' d hi' ho' hd)]
        exact W.star1 i' o' d hi' ho' hd
      · intro s hs
        by_cases e : o.dst = some s
        · have hsz := (selfB_spec hself hik ho e).2
          rw [e, put_self _ _ _ (by show s < c.tmps.size; rw [W.csize]; exact hsz), put_self _ _ _ (by show s < a.tmps.size; rw [W.size]; exact hsz)]
        · rw [put_other _ _ _ _ e, put_other _ _ _ _ e]
          exact W.star2 s hs

/-- What is asked of the region: closed facts. -/
def lateAllB (l : List Oper) (n m size : Nat) (late : List Nat) : Bool :=
  Region.noSelect l.toArray && noDefer l && headB l.toArray (n + m) && singleB l.toArray (n + m) && selfB l.toArray (n + m) size && lateB l.toArray n m late &&
    Region.sinkB .any l.toArray (n + m) && Region.chainB .any l.toArray (n + m) && decide (n + m < l.length) &&
    Region.seqB .any l.toArray (l.length - (n + m)) (n + m) ((List.replicate (n + m) true ++ List.replicate (l.length - (n + m)) false).toArray)

theorem headB_mono {ops : Array Oper} {n k : Nat} (h : headB ops k = true) (hn : n ≤ k) : headB ops n = true := by
  unfold headB at *
  rw [List.all_eq_true] at *
  intro i hi
  exact h i (List.mem_range.2 (by have := List.mem_range.1 hi; omega))
theorem singleB_mono {ops : Array Oper} {n k : Nat} (h : singleB ops k = true) (hn : n ≤ k) : singleB ops n = true := by
  unfold singleB at *
  rw [List.all_eq_true] at *
  intro i hi
  have h1 := h i (List.mem_range.2 (by have := List.mem_range.1 hi; omega))
  rw [List.all_eq_true] at *
  intro j hj
  exact h1 j (List.mem_range.2 (by have := List.mem_range.1 hj; omega))
theorem selfB_mono {ops : Array Oper} {n k size : Nat} (h : selfB ops k size = true) (hn : n ≤ k) : selfB ops n size = true := by
  unfold selfB at *
  rw [List.all_eq_true] at *
  intro i hi
  exact h i (List.mem_range.2 (by have := List.mem_range.1 hi; omega))

theorem wpIn_region_late {id : Nat} {Q : Exit → Act → World → Prop} {a : Act} {w : World} {l : List Oper} (n m : Nat) (late : List Nat) (C D : World → Prop) (hF : Wide F) (hm : P.follows .mixedOrders = true) (hB : lateAllB l n m a.tmps.size late = true) (hC : C { w with drawn := w.drawn + 1 })
    (h : wpQuiet P l.toArray C (fun b => (∀ w, D w → ∀ i o, late.contains i = true → l.toArray[i]? = some o → ∃ v, (execOp b.eval o).run P w = .ok (.value v) w ∧ ∀ d, o.dst = some d → b.tmps[d]? = some v) ∧ (∀ w, C w → D w ∧ wpTail P l.toArray Q D m (l.drop n) b w)) (l.take n) a) : (Code.region id l.toArray true).wpIn F q P Q a w := by
  simp only [lateAllB, Bool.and_eq_true, decide_eq_true_eq] at hB
  obtain ⟨⟨⟨⟨⟨⟨⟨⟨⟨hsel, hdef⟩, hhd⟩, hsg⟩, hself⟩, hlate⟩, hs⟩, hc⟩, hn⟩, hseq⟩ := hB
  have htl : (l.take n).length = n := by simp; omega
  obtain ⟨b, ⟨hb1, hb2⟩, hgood, hsz, hdf, hold⟩ := lex_spec (k := n) hsel (headB_mono hhd (by omega)) (singleB_mono hsg (by omega)) (l.take n) 0 a (fun j hj => by
    have hj' : j < n := by rw [htl] at hj; exact hj
    simp [hj']) (by rw [htl]; omega) (selfB_mono hself (by omega)) h
  rw [htl] at hgood hold
  refine wpIn_region_any hm ?_
  have inv0 : HeadInv .any l.toArray (n + m) (Array.replicate l.toArray.size false) :=
    ⟨by simp, fun j oj _ hl => (by rw [getD_replicate_false] at hl; cases hl), fun t _ ht => getD_in (by simpa using ht) (getD_replicate_false _ _)⟩
  have way0 : Way l.toArray n m 0 b a b (Array.replicate l.toArray.size false) := by
    refine ⟨inv0, ?_, hsz.symm, hdf.symm, rfl, ?_, ?_, fun _ _ _ _ _ _ => rfl, fun s hs => hold s (fun j o _ h2 h3 => hs j o (by omega) h3)⟩
    · intro t h1 h2
      rw [getD_in (by simpa using by omega) (getD_replicate_false _ _)]
      constructor
      · intro e; cases e
      · intro e; omega
    · intro i hi hl
      rw [getD_in (by simpa using by omega) (getD_replicate_false _ _)] at hl
      cases hl
    · intro s hs
      exact (hold s (fun j o _ h2 h3 => hs j o (by omega) h3)).symm
  have key := anyIn_late (F := F) (q := q) (Q := Q) (g := l.length - (n + m)) hF hsel hdef hhd hsg (by rw [hsz]; exact hself) hlate hs hc hn rfl hseq (fun i o hi ho => hgood i o (by omega) (by omega) ho) hb1 (n + m) 0 (Array.replicate l.toArray.size false) a b _ (by omega) (by
      unfold unl
      refine Nat.le_trans (List.length_filter_le _ _) (by simp)) way0
    (fun _ => ⟨hC, rfl⟩) (fun e => by omega) (fun _ => hb2) (fun e => by omega)
  have e : n + m + (l.length - (n + m)) = l.toArray.size := by simp; omega
  rw [e] at key
  exact key

theorem wp_region_late {id : Nat} {Q : Exit → Act → World → Prop} {a : Act} {w : World} {l : List Oper} (n m : Nat) (late : List Nat) (C D : World → Prop) (hm : P.follows .mixedOrders = true) (hB : lateAllB l n m a.tmps.size late = true) (hC : C { w with drawn := w.drawn + 1 })
    (h : wpQuiet P l.toArray C (fun b => (∀ w, D w → ∀ i o, late.contains i = true → l.toArray[i]? = some o → ∃ v, (execOp b.eval o).run P w = .ok (.value v) w ∧ ∀ d, o.dst = some d → b.tmps[d]? = some v) ∧ (∀ w, C w → D w ∧ wpTail P l.toArray Q D m (l.drop n) b w)) (l.take n) a) : (Code.region id l.toArray true).wp P Q a w :=
  wpIn_wide.1 (wpIn_region_late (q := 0) n m late C D Wide.wide hm hB hC h)

/-- One operation of the tail by the plain walk. -/
theorem wpTail_step {ops : Array Oper} {Q : Exit → Act → World → Prop} {D : World → Prop} {m : Nat} {o : Oper} {rest : List Oper} {a : Act} {w : World} (hg : o.guard = none)
    (h : wpList P #[o] (OnlyN fun _ a' w' => D w' ∧ wpTail P ops Q D m rest a' w') [o] a w) : wpTail P ops Q D (m + 1) (o :: rest) a w := by
  unfold wpTail
  simp only [wpList, Region.wanted, hg, if_true] at h
  replace h := h.resolve_right (fun hh => absurd hh.2 (not_letsOut _))
  unfold Oper.wp at *
  generalize (execOp a.eval o).run P w = r at *
  cases r with
  | ok m w' =>
    cases m <;> simp only [Oper.upon] at h ⊢
    case value v => exact h.2
    case skip => exact h.2
    case defer d => exact h.2
    case enter f args =>
      refine h.mono ?_
      intro e w'' hh
      cases e with
      | returned v => exact hh.2
      | panicked chain => exact absurd hh.1 (by simp)
      | outgrown => exact absurd hh (not_letsOut _)
    case row row args => exact Rows.mono h (fun _ _ hh => hh.2)
  | halt x w' =>
    cases x <;> simp only [Oper.upon] at h ⊢
    exact absurd h.1 (by simp)
end
end Go.Proofs.YtinfpbkbnhcifaaGreatDoor

/- A range over a function whose round begins by making memory (a variable of the round's). -/
namespace Go.Proofs.YtinfpbkbnhcifaaGreatDoor
open Go.RowKit

section
variable {P : Program} {α : Type}

theorem wpIn_rangeA {F : Fence} {n : Nat} {g : Operand} {ps : Array Tmp} {assign body : Code} {Q : Exit → Act → World → Prop} {a : Act} {w : World}
    (hF : Wide F) (hro : F.round = none) {gf : Nat} {lb : Array Value} (hg : a.eval g = .func (.func gf) #[] lb) (eg : ∀ args w, (callFunc gf args).run P w = .ok (.enter gf args) w)
    {encs : α → Array Value} {Kp : World → World → Prop} {row : Option Nat} {S Sp : List α → Prop} {N : Nat} {w0 : World} (hseq : Iter P gf lb encs Kp row S Sp N w0)
    (hb0 : Below w0.heap.size w0 w) (hps : ∀ x, (encs x).size = ps.size) (hrow : ∀ k, row = some k → k < w.heap.size)
    (hKt : ∀ {A B C : World}, Kp A B → Kp B C → Kp A C) (hKb : ∀ (W : World) (l : Nat) (o o' : Obj), w.heap.size ≤ l → W.heap[l]? = some o → o.isCells = false → o.isWalk = false → Kp W (W.putObj l o'))
    (I : List α → World → Prop) (Ix : Code → List α → World → Prop) (hI : Abide row w.heap.size I) (hIx : ∀ c, Abide row w.heap.size (Ix c)) (h0 : I [] w) (A1 : Act → α → Act → World → Prop) (hA1 : ∀ x a' W l o o', A1 a x a' W → w.heap.size ≤ l → W.heap[l]? = some o → o.isCells = false → A1 a x a' (W.putObj l o'))
    (hKg : ∀ A C : World, w.heap.size ≤ A.heap.size → A.grownBy C none → Kp A C)
    (hassign : ∀ (l : Nat) (pre : List α) (x : α) (W : World) (K : Act → World → Prop), I pre W → (∀ a' W', A1 a x a' W' → W.grownBy W' none → K a' W') →
      assign.wpIn (F.inRound l) (n - 1 - 1) P (Exit.then K (fun _ _ _ => False)) { tmps := (ps.zip (encs x)).foldl (fun t (p, v) => t.setIfInBounds p v) a.tmps, defers := [] } W)
    (hbody : ∀ (l : Nat) (pre : List α) (x : α) (a' : Act) (W : World), I pre W → pre.length < N → A1 a x a' W → body.wpIn (F.inRound l) (n - 1 - 1) P (ownPostG w.heap.size Kp I Ix (pre ++ [x]) W) a' W)
    (hdone : ∀ (D : Nat) (xs : List α) (W : World), w.heap.size ≤ D → S xs → I xs W → W.heap[D]? = some (.deferred (some [])) → Q .normal { a with defers := { target := .collected D, args := #[] } :: a.defers } W)
    (hstop : ∀ (D : Nat) (c : Code) (pre : List α) (W : World), w.heap.size ≤ D → Sp pre → Ix c pre W → W.heap[D]? = some (.deferred (some [])) → c.wpIn F n P Q { a with defers := { target := .collected D, args := #[] } :: a.defers } W) :
    (Code.rangeFunc g ps assign body).wpIn F n P Q a w := by
  refine wpIn_rangeFunc ?_
  intro fn hfn
  rw [hro]
  obtain ⟨rec, hrec⟩ : ∃ rec : LoopState → Option Code → Loop, rec = recOf fn a ps assign body w.heap.size := ⟨_, rfl⟩
  have hparams : ∀ st pe, (rec st pe).params = ps := by intro st pe; rw [hrec]; rfl
  obtain ⟨W1, hW1⟩ : ∃ W1, (w.alloc (.deferred (some []))).alloc (.loop (rec .ready none)) = W1 := ⟨_, rfl⟩
  have hsz : W1.heap.size = w.heap.size + 2 := by rw [← hW1]; simp
  have hB1 : Book w (rec .ready none) W1 := by
    rw [← hW1]
    exact ⟨heap_alloc2_new w _ _, heap_alloc2_old w _ _⟩
  have hI1 : I [] W1 := by
    rw [← hW1]
    exact hI.2 _ _ _ none (hI.2 _ _ _ none h0 (World.grownBy_alloc w _ none) (.inl rfl)) (World.grownBy_alloc _ _ none) (.inl rfl)
  have hb1 : Below w0.heap.size w0 W1 := by
    rw [← hW1]; exact hb0.trans ((((Below.refl _ w).alloc (Nat.le_refl _) _).alloc (by simp) _).mono hb0.size)
  -- a turn of the record is borne by all
  have put : ∀ {Z : List α → World → Prop} (pre : List α) (W : World) (r r' : Loop), Abide row w.heap.size Z → Z pre W → Book w r W → Z pre (W.putObj (w.heap.size + 1) (.loop r')) :=
    fun pre W r r' hZ hz hb => hZ.2 pre W _ (some (w.heap.size + 1)) hz (grownBy_putObj' W _ _) (.inr ⟨_, _, rfl, by omega, hb.1, rfl⟩)
  refine ⟨w.heap.size + 1, [{ target := .collected w.heap.size, args := #[] }], W1, { target := .fn (.func gf) lb, args := #[.func (.yield (w.heap.size + 1)) #[] #[]] }, W1, gf,
    #[.func (.yield (w.heap.size + 1)) #[] #[]] ++ lb, W1, ?_, ?_, ?_, ?_, ?_, ?_⟩
  · rw [← hW1, hrec]; exact run_enterLoop_outer _ _ _ _ _
  · simp only [resolve, hg]
    simp [go_sem]
  · intro f' _; exact hF.1 f'
  · simp [invoke, go_sem, eg]
  · intro h; rw [hF.2.1] at h; cases h
  refine (hseq F (n - 1) hF hro (w.heap.size + 1) (fun pre W => I pre W ∧ Book w (rec .ready none) W) (fun pre W => ∃ c, Ix c pre W ∧ Book w (rec .done (some c)) W) W1 hb1
    (fun pre A B h hg' => ⟨hI.1 pre A B h.1 hg', h.2.grown hg'.1 hrow⟩)
    (fun pre A B h hg' => let ⟨c, hc, hk⟩ := h; ⟨c, (hIx c).1 pre A B hc hg', hk.grown hg'.1 hrow⟩) ?round ⟨hI1, hB1⟩).mono ?behind
  case round =>
    rintro pre x U ⟨hi, hk⟩ hlen
    have hy := run_yield (P := P) (args := encs x) hk.1 (by rw [hparams]; exact hps x)
    rw [hrec] at hy
    refine ⟨fn, _, assign, body, hy, roundIn_of_wpIn hfn (hassign _ pre x U _ hi (fun a₁ W hA hga => ?_))⟩
    have hgr : U.grownBy W row := ⟨hga.os, hga.tape, hga.output, hga.size, fun i hi' _ => hga.block i hi' (by simp)⟩
    have hKa : Kp U W := hKg U W (by have := (Array.getElem?_eq_some_iff.1 hk.1).1; omega) hga
    replace hi : I pre W := hI.2 pre U W none hi hga (.inl rfl)
    replace hk : Book w (rec .ready none) W := hk.grown hgr hrow
    refine ⟨_, run_beginRound hk.1 (by rw [hrec]; rfl), ?_⟩
    have hbusy := hk.put { rec .ready none with state := .busy }
    have hKp1 : Kp U (W.putObj (w.heap.size + 1) (.loop { rec .ready none with state := .busy })) := hKt hKa (hKb _ _ _ _ (by omega) hk.1 rfl rfl)
    refine wpIn_mono (hbody _ pre x _ _ (put pre W _ _ hI hi hk) hlen (hA1 _ _ _ _ _ _ hA (by omega) hk.1 rfl)) ?_
    -- what the round's end leaves
    have fin : ∀ (jump : Option Code) (W3 : World), KeepsFrom w.heap.size (W.putObj (w.heap.size + 1) (.loop { rec .ready none with state := .busy })) W3 →
        (Instr.endRound (w.heap.size + 1) jump).run P W3 = .ok (.bool jump.isNone) (W3.putObj (w.heap.size + 1) (.loop (rec (if jump.isNone then .ready else .done) jump))) ∧ Book w { rec .ready none with state := .busy } W3 := fun jump W3 hk3 => by
      have hb3 := hbusy.keeps hk3
      refine ⟨?_, hb3⟩
      have := run_endRound (P := P) jump hb3.1
      rw [hrec] at this ⊢
      exact this
    have leave : ∀ (c : Code) (W3 : World), KeepsFrom w.heap.size (W.putObj (w.heap.size + 1) (.loop { rec .ready none with state := .busy })) W3 ∧ Ix c (pre ++ [x]) W3 →
        ∃ v w', (Instr.endRound (w.heap.size + 1) (some c)).run P W3 = .ok v w' ∧ ((Ending.returned v = .returned (.bool true) ∧ (I (pre ++ [x]) w' ∧ Book w (rec .ready none) w') ∧ Kp U w') ∨ (Ending.returned v = .returned (.bool false) ∧ ∃ c, Ix c (pre ++ [x]) w' ∧ Book w (rec .done (some c)) w')) := fun c W3 hp => by
      obtain ⟨hk3, hi3⟩ := hp
      obtain ⟨hr, hb3⟩ := fin (some c) W3 hk3
      exact ⟨_, _, hr, .inr ⟨rfl, c, put _ W3 _ _ (hIx c) hi3 hb3, hb3.put _⟩⟩
    rintro e a3 W3 hp
    cases e with
    | normal =>
      obtain ⟨hk3, hkp3, hi3⟩ := hp
      obtain ⟨hr, hb3⟩ := fin none W3 hk3
      exact ⟨_, _, hr, .inl ⟨rfl, ⟨put _ W3 _ _ hI hi3 hb3, hb3.put _⟩, hKt (hKt hKp1 hkp3) (hKb _ _ _ _ (by omega) hb3.1 rfl rfl)⟩⟩
    | ret => exact leave .ret W3 hp
    | exit id => exact leave (.exit id) W3 hp
    | goto t => exact leave (.goto t) W3 hp
    | panic ch => exact hp.elim
    | outgrown => exact hp.elim
  case behind =>
    rintro e W2 ⟨⟨v, rfl⟩, (⟨xs, hS, hi, hk⟩ | ⟨pre, hSp, c, hi, hk⟩)⟩
    · refine ⟨none, _, ?_, hdone _ xs _ (Nat.le_refl _) hS (put _ W2 _ { rec .ready none with state := .exhausted } hI hi hk) (hk.put _).2⟩
      have := run_endLoop (P := P) hk.1 (by rw [hrec]; simp [recOf])
      rw [hrec] at this ⊢
      exact this
    · refine ⟨some c, _, ?_, hstop _ c pre _ (Nat.le_refl _) hSp (put _ W2 _ { rec .done (some c) with state := .exhausted } (hIx c) hi hk) (hk.put _).2⟩
      have := run_endLoop (P := P) hk.1 (by rw [hrec]; simp [recOf])
      rw [hrec] at this ⊢
      exact this
end
end Go.Proofs.YtinfpbkbnhcifaaGreatDoor
