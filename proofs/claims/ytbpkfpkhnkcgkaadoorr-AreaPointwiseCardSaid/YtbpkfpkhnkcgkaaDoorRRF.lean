/- A range over a function whose iterator may write one block of its own (a captured variable): the iterator's contract and the law of the statement. The fence is wide; the conditions are what the body keeps. -/
import Derived.Test.YtbpkfpkhnkcgkaaDoorRRegIn
import Derived.Test.YtbpkfpkhnkcgkaaDoorRMem
import Derived.RangeFuncNested
namespace Go.Proofs.YtbpkfpkhnkcgkaaDoorR
open Go.RowKit

section
variable {P : Program} {α : Type}

/-- A step of the iterator's: one block of its own may be written. -/
def IStep (row : Option Nat) (A C : World) : Prop := A.grownBy C row ∧ ∀ b, row = some b → ∃ c c' e fz, A.heap[b]? = some (.cells c e fz) ∧ C.heap[b]? = some (.cells c' e fz)
theorem IStep.grown {A C : World} {row : Option Nat} (h : IStep row A C) : A.grownBy C row := h.1
theorem IStep.write {A : World} {b i : Nat} {c : Array Value} {e : TypeId} {fz : Nat × Nat} (h : A.heap[b]? = some (.cells c e fz)) (v : Value) : IStep (some b) A (A.setCell ⟨b, i, none⟩ v) :=
  ⟨grown_setCell (grown_refl _ _) _ (.inl rfl) _, fun b' hb => by cases hb; exact ⟨_, _, _, _, h, heap_setCell_same _ h⟩⟩

/-- What an iterator value gives: all elements, or a part of them where a round has said 'no more'. Its own steps turn one block at most of those that were there; 'Kp' is what it wants kept by a round that goes on. -/
def Iter (P : Program) (gf : Nat) (lb : Array Value) (encs : α → Array Value) (Kp : World → World → Prop) (row : Option Nat) (S Sp : List α → Prop) (N : Nat) (w0 : World) : Prop :=
  ∀ (F : Fence) (n : Nat), Wide F → F.round = none → ∀ (l : Nat) (J Jx : List α → World → Prop) (W : World), Below w0.heap.size w0 W →
    (∀ pre A B, J pre A → IStep row A B → J pre B) → (∀ pre A B, Jx pre A → IStep row A B → Jx pre B) →
    (∀ pre x W1, J pre W1 → pre.length < N → YieldAt F (n - 1) P l (encs x) W1 fun e W' =>
      (e = .returned (.bool true) ∧ J (pre ++ [x]) W' ∧ Kp W1 W') ∨ (e = .returned (.bool false) ∧ Jx (pre ++ [x]) W')) →
    J [] W →
    CallsIn F n P gf (#[.func (.yield l) #[] #[]] ++ lb) W fun e W' => (∃ v, e = .returned v) ∧ ((∃ xs, S xs ∧ J xs W') ∨ (∃ pre, Sp pre ∧ Jx pre W'))

/-- What abides the iterator's steps and the loop's own book-keeping. -/
def Abide (row : Option Nat) (B : Nat) (I : List α → World → Prop) : Prop :=
  (∀ pre A C, I pre A → IStep row A C → I pre C) ∧
  ∀ pre A C r, I pre A → A.grownBy C r → (r = none ∨ ∃ k o, r = some k ∧ B ≤ k ∧ A.heap[k]? = some o ∧ o.isCells = false) → I pre C

theorem abide_false (row : Option Nat) (B : Nat) : Abide (α := α) row B (fun _ _ => False) := ⟨fun _ _ _ h _ => h, fun _ _ _ _ h _ _ => h⟩
theorem abide_pure (row : Option Nat) (B : Nat) (p : List α → Prop) : Abide row B (fun pre _ => p pre) := ⟨fun _ _ _ h _ => h, fun _ _ _ _ h _ _ => h⟩
theorem abide_and {row : Option Nat} {B : Nat} {I I' : List α → World → Prop} (h : Abide row B I) (h' : Abide row B I') : Abide row B (fun pre W => I pre W ∧ I' pre W) :=
  ⟨fun pre A C hi hs => ⟨h.1 pre A C hi.1 hs, h'.1 pre A C hi.2 hs⟩, fun pre A C r hi hg hr => ⟨h.2 pre A C r hi.1 hg hr, h'.2 pre A C r hi.2 hg hr⟩⟩
theorem abide_ex {row : Option Nat} {B : Nat} {β : Type} {I : β → List α → World → Prop} (h : ∀ v, Abide row B (I v)) : Abide row B (fun pre W => ∃ v, I v pre W) :=
  ⟨fun pre A C ⟨v, hi⟩ hs => ⟨v, (h v).1 pre A C hi hs⟩, fun pre A C r ⟨v, hi⟩ hg hr => ⟨v, (h v).2 pre A C r hi hg hr⟩⟩
/-- A row of cells that is not the iterator's. -/
theorem abide_cells {row : Option Nat} {B k : Nat} (f : List α → Obj) (hf : ∀ pre, (f pre).isCells = true) (hk : row ≠ some k) : Abide row B (fun pre W => W.heap[k]? = some (f pre)) :=
  ⟨fun pre A C h hs => (hs.1.block k (Array.getElem?_eq_some_iff.1 h).1 (fun e => hk e.symm)).trans h,
   fun pre A C r h hg hr => (hg.block k (Array.getElem?_eq_some_iff.1 h).1 (fun e => by
    rcases hr with hr | ⟨k', o, hr, _, ho, hc⟩
    · rw [hr] at e; cases e
    · rw [hr] at e; cases e; rw [h] at ho; cases ho; rw [hf] at hc; cases hc)).trans h⟩
/-- The iterator's own row keeps its type. -/
theorem abide_own {B k : Nat} {e : TypeId} {fz : Nat × Nat} : Abide (α := α) (some k) B (fun _ W => ∃ c, W.heap[k]? = some (.cells c e fz)) :=
  ⟨fun pre A C ⟨c, h⟩ hs => by
    obtain ⟨c1, c2, e1, f1, g1, g2⟩ := hs.2 k rfl
    rw [h] at g1; cases g1
    exact ⟨c2, g2⟩,
   fun pre A C r ⟨c, h⟩ hg hr => ⟨c, (hg.block k (Array.getElem?_eq_some_iff.1 h).1 (fun e' => by
    rcases hr with hr | ⟨k', o, hr, _, ho, hc⟩
    · rw [hr] at e'; cases e'
    · rw [hr] at e'; cases e'; rw [h] at ho; cases ho; cases hc)).trans h⟩⟩
/-- What lay ahead of the loop, of whatever kind. -/
theorem abide_old {row : Option Nat} {B k : Nat} (o : Obj) (hkB : k < B) (hk : row ≠ some k) : Abide (α := α) row B (fun _ W => W.heap[k]? = some o) :=
  ⟨fun pre A C h hs => (hs.1.block k (Array.getElem?_eq_some_iff.1 h).1 (fun e => hk e.symm)).trans h,
   fun pre A C r h hg hr => (hg.block k (Array.getElem?_eq_some_iff.1 h).1 (fun e => by
    rcases hr with hr | ⟨k', o, hr, h1, _, _⟩
    · rw [hr] at e; cases e
    · rw [hr] at e; cases e; omega)).trans h⟩
theorem abide_below {row : Option Nat} {B n₀ : Nat} {w0 : World} (hB : n₀ ≤ B) (hn : n₀ ≤ w0.heap.size) (hk : ∀ k, row = some k → n₀ ≤ k) : Abide (α := α) row B (fun _ W => Below n₀ w0 W) :=
  ⟨fun pre A C h hs => h.grown hs.1 (Nat.le_trans hn h.size) hk,
   fun pre A C r h hg hr => h.grown hg (Nat.le_trans hn h.size) (fun k e => by
    rcases hr with hr | ⟨k', o, hr, h1, _, _⟩
    · rw [hr] at e; cases e
    · rw [hr] at e; cases e; omega)⟩
/-- A row that the call owns, of another type than the iterator's. -/
theorem abide_owns {B base k : Nat} {e e' : TypeId} {fz : Nat × Nat} {size : Nat} (v : Value) (n : List α → Nat) (xs : List α → List Value) (hne : e ≠ e') :
    Abide (some k) B (fun pre W => W.ownsRow base e size v (n pre) (xs pre) ∧ ∃ c, W.heap[k]? = some (.cells c e' fz)) := by
  refine ⟨fun pre A C h hs => ⟨h.1.kept hs.1 ?_, (abide_own (α := α) (B := B)).1 pre A C h.2 hs⟩, fun pre A C r h hg hr => ⟨h.1.kept hg ?_, (abide_own (α := α) (B := B)).2 pre A C r h.2 hg hr⟩⟩
  · obtain ⟨ho, c, hc⟩ := h
    rcases ho.2 with ⟨rfl, _⟩ | ⟨g, cap, cur, rfl, _, hgg, _⟩
    · exact .inl rfl
    · refine .inr (fun eq => ?_)
      have : g = k := by simpa [Value.ownBlock] using eq
      subst this
      rw [hgg] at hc; cases hc; exact hne rfl
  · obtain ⟨ho, c, hc⟩ := h
    rcases ho.2 with ⟨rfl, _⟩ | ⟨g, cap, cur, rfl, _, hgg, _⟩
    · exact .inl rfl
    · refine .inr (fun eq => ?_)
      rcases hr with hr | ⟨k', o, hr, _, ho', hc'⟩
      · rw [hr] at eq; simp [Value.ownBlock] at eq
      · rw [hr] at eq
        have : g = k' := by simpa [Value.ownBlock] using eq
        subst this
        rw [hgg] at ho'; cases ho'; cases hc'

/-- The record of a loop, at a state. -/
def recOf (fn : Nat) (a : Act) (ps : Array Tmp) (assign body : Code) (D : Nat) (st : LoopState) (pe : Option Code) : Loop :=
  { state := st, pending := pe, fn, tmps := a.tmps, params := ps, assign, body, defers := D }

/-- The two blocks of the book-keeping. -/
def Book (w : World) (r : Loop) (W : World) : Prop := W.heap[w.heap.size + 1]? = some (.loop r) ∧ W.heap[w.heap.size]? = some (.deferred (some []))

theorem Book.grown {w A C : World} {r : Loop} {row : Option Nat} (h : Book w r A) (hg : A.grownBy C row) (hrow : ∀ k, row = some k → k < w.heap.size) : Book w r C :=
  ⟨(hg.block _ (Array.getElem?_eq_some_iff.1 h.1).1 (fun e => by have := hrow _ e.symm; omega)).trans h.1,
   (hg.block _ (Array.getElem?_eq_some_iff.1 h.2).1 (fun e => by have := hrow _ e.symm; omega)).trans h.2⟩
theorem Book.keeps {w A C : World} {r : Loop} (h : Book w r A) (hk : KeepsFrom w.heap.size A C) : Book w r C :=
  ⟨hk.same _ _ (by omega) h.1 rfl, hk.same _ _ (Nat.le_refl _) h.2 rfl⟩
theorem Book.put {w A : World} {r : Loop} (h : Book w r A) (r' : Loop) : Book w r' (A.putObj (w.heap.size + 1) (.loop r')) :=
  ⟨World.putObj_heap_same (Array.getElem?_eq_some_iff.1 h.1).1, (World.putObj_heap_other (by omega)).trans h.2⟩

/-- The marks that ended loops have left among the deferred calls. -/
def mark (D : Nat) : Deferred := { target := .collected D, args := #[] }
def Marks (B : Nat) (Ds : List Nat) (W : World) : Prop := Ds.Nodup ∧ ∀ D ∈ Ds, B ≤ D ∧ W.heap[D]? = some (.deferred (some []))

/-- What taking the marks up leaves. -/
structure Taken (B : Nat) (W W' : World) : Prop where
  os : W'.os = W.os
  tape : W'.tape = W.tape
  output : W'.output = W.output
  size : W'.heap.size = W.heap.size
  old : ∀ k, k < B → W'.heap[k]? = W.heap[k]?
  cells : ∀ (k : Nat) (o : Obj), W.heap[k]? = some o → o.isCells = true → W'.heap[k]? = some o
theorem Taken.refl (B : Nat) (W : World) : Taken B W W := ⟨rfl, rfl, rfl, rfl, fun _ _ => rfl, fun _ _ h _ => h⟩
theorem Taken.below {B : Nat} {W W' : World} (h : Taken B W W') : Below B W W' := ⟨h.os, h.tape, h.output, Nat.le_of_eq h.size.symm, h.old⟩

theorem leaves_marks {F : Fence} {q : Nat} {fn : Func} {tmps : Array Value} {R : Ending → World → Prop} {B : Nat} : ∀ (Ds : List Nat) (W : World), Marks B Ds W →
    (∀ W', Taken B W W' → ∃ v, (results fn tmps).run P W' = .ok v W' ∧ R (.returned v) W') → LeavesInM F q P fn tmps R (Ds.map mark) .returning W
  | [], W, _, h => by
    obtain ⟨v, h1, h2⟩ := h W (Taken.refl B W)
    exact ⟨v, h1, h2⟩
  | D :: Ds, W, hm, h => by
    obtain ⟨hnd, hall⟩ := hm
    have hD := hall D (by simp)
    have hlt : D < W.heap.size := (Array.getElem?_eq_some_iff.1 hD.2).1
    have hnot : D ∉ Ds := (List.nodup_cons.1 hnd).1
    refine ⟨by simp, .inl ⟨D, _, rfl, run_takeDeferred hD.2, leaves_marks (B := B) Ds (W.putObj D (.deferred none)) ⟨(List.nodup_cons.1 hnd).2, fun D' hD' => ?_⟩ (fun W' ht => h W' ?_)⟩⟩
    · have := hall D' (by simp [hD'])
      exact ⟨this.1, (World.putObj_heap_other (by intro e; subst e; exact hnot hD')).trans this.2⟩
    · have hp := grownBy_putObj' W D (.deferred none)
      refine ⟨ht.os.trans hp.os, ht.tape.trans hp.tape, ht.output.trans hp.output, ht.size.trans (by simp), fun k hk => (ht.old k hk).trans (World.putObj_heap_other (by omega)), fun k o hk ho => ht.cells k o ?_ ho⟩
      refine (World.putObj_heap_other (by intro e; rw [e, hD.2] at hk; cases hk; cases ho)).trans hk

theorem abide_marks {row : Option Nat} {B B0 : Nat} {Ds : List Nat} (h : ∀ D ∈ Ds, D < B ∧ row ≠ some D) : Abide (α := α) row B (fun _ W => Marks B0 Ds W) :=
  ⟨fun pre A C hm hs => ⟨hm.1, fun D hD => ⟨(hm.2 D hD).1, (abide_old (α := α) (.deferred (some [])) (h D hD).1 (h D hD).2).1 pre A C (hm.2 D hD).2 hs⟩⟩,
   fun pre A C r hm hg hr => ⟨hm.1, fun D hD => ⟨(hm.2 D hD).1, (abide_old (α := α) (.deferred (some [])) (h D hD).1 (h D hD).2).2 pre A C r (hm.2 D hD).2 hg hr⟩⟩⟩
theorem Marks.keep {B : Nat} {Ds : List Nat} {W W' : World} (h : Marks B Ds W) (hk : ∀ (k : Nat) (o : Obj), W.heap[k]? = some o → o.isCells = false → W'.heap[k]? = some o) : Marks B Ds W' :=
  ⟨h.1, fun D hD => ⟨(h.2 D hD).1, hk _ _ (h.2 D hD).2 rfl⟩⟩
theorem Marks.lt {B : Nat} {Ds : List Nat} {W : World} (h : Marks B Ds W) : ∀ D ∈ Ds, D < W.heap.size := fun D hD => (Array.getElem?_eq_some_iff.1 (h.2 D hD).2).1
theorem Marks.cons {B : Nat} {Ds : List Nat} {W : World} (h : Marks B Ds W) {D : Nat} (hD : W.heap[D]? = some (.deferred (some []))) (hB : B ≤ D) (hn : D ∉ Ds) : Marks B (D :: Ds) W :=
  ⟨List.nodup_cons.2 ⟨hn, h.1⟩, fun D' hD' => by
    rcases List.mem_cons.1 hD' with e | e
    · subst e; exact ⟨hB, hD⟩
    · exact h.2 D' e⟩
theorem Taken.owns {B base size n : Nat} {e : TypeId} {v : Value} {xs : List Value} {W W' : World} (h : Taken B W W') (ho : W.ownsRow base e size v n xs) : W'.ownsRow base e size v n xs := by
  obtain ⟨hl, h2⟩ := ho
  refine ⟨hl, ?_⟩
  rcases h2 with h2 | ⟨g, cap, cur, hv, hb, hg, hr⟩
  · exact .inl h2
  · exact .inr ⟨g, cap, cur, hv, hb, h.cells _ _ hg rfl, hr⟩

theorem wpIn_range {F : Fence} {n : Nat} {g : Operand} {ps : Array Tmp} {assign body : Code} {Q : Exit → Act → World → Prop} {a : Act} {w : World}
    (hF : Wide F) (hro : F.round = none) {gf : Nat} {lb : Array Value} (hg : a.eval g = .func (.func gf) #[] lb) (eg : ∀ args w, (callFunc gf args).run P w = .ok (.enter gf args) w)
    {encs : α → Array Value} {Kp : World → World → Prop} {row : Option Nat} {S Sp : List α → Prop} {N : Nat} {w0 : World} (hseq : Iter P gf lb encs Kp row S Sp N w0)
    (hb0 : Below w0.heap.size w0 w) (hps : ∀ x, (encs x).size = ps.size) (hrow : ∀ k, row = some k → k < w.heap.size)
    (hKt : ∀ {A B C : World}, Kp A B → Kp B C → Kp A C) (hKb : ∀ (W : World) (l : Nat) (o o' : Obj), w.heap.size ≤ l → W.heap[l]? = some o → o.isCells = false → o.isWalk = false → Kp W (W.putObj l o'))
    (I : List α → World → Prop) (Ix : Code → List α → World → Prop) (hI : Abide row w.heap.size I) (hIx : ∀ c, Abide row w.heap.size (Ix c)) (h0 : I [] w) (a₁ : α → Act)
    (hassign : ∀ (l : Nat) (x : α) (W : World) (K : Act → World → Prop), K (a₁ x) W →
      assign.wpIn (F.inRound l) (n - 1 - 1) P (Exit.then K (fun _ _ _ => False)) { tmps := (ps.zip (encs x)).foldl (fun t (p, v) => t.setIfInBounds p v) a.tmps, defers := [] } W)
    (hbody : ∀ (l : Nat) (pre : List α) (x : α) (W : World), I pre W → pre.length < N → body.wpIn (F.inRound l) (n - 1 - 1) P (ownPostG w.heap.size Kp I Ix (pre ++ [x]) W) (a₁ x) W)
    (hdone : ∀ (D : Nat) (xs : List α) (W : World), w.heap.size ≤ D → S xs → I xs W → W.heap[D]? = some (.deferred (some [])) → Q .normal { a with defers := { target := .collected D, args := #[] } :: a.defers } W)
    (hstop : ∀ (D : Nat) (c : Code) (pre : List α) (W : World), w.heap.size ≤ D → Sp pre → Ix c pre W → W.heap[D]? = some (.deferred (some [])) → c.wpIn F n P Q { a with defers := { target := .collected D, args := #[] } :: a.defers } W) :
    (Code.rangeFunc g ps assign body).wpIn F n P Q a w := by
  refine wpIn_rangeFunc ?_
  intro fn hfn
  rw [hro]
  obtain ⟨rec, hrec⟩ : ∃ rec : LoopState → Option Code → Loop, rec = recOf fn a ps assign body w.heap.size := ⟨_, rfl⟩
  have hparams : ∀ st pe, (rec st pe).params = ps := by intro st pe; rw [hrec]; rfl
  obtain ⟨W1, hW1⟩ : ∃ W1, (w.alloc (.deferred (some []))).alloc (.loop (rec .ready none)) = W1 := ⟨_, rfl⟩
  have hsz : W1.heap.size = w.heap.size + 2 := by rw [← hW1]; simp
  have hB1 : Book w (rec .ready none) W1 := by
    rw [← hW1]
    exact ⟨heap_alloc2_new w _ _, heap_alloc2_old w _ _⟩
  have hI1 : I [] W1 := by
    rw [← hW1]
    exact hI.2 _ _ _ none (hI.2 _ _ _ none h0 (World.grownBy_alloc w _ none) (.inl rfl)) (World.grownBy_alloc _ _ none) (.inl rfl)
  have hb1 : Below w0.heap.size w0 W1 := by
    rw [← hW1]; exact hb0.trans ((((Below.refl _ w).alloc (Nat.le_refl _) _).alloc (by simp) _).mono hb0.size)
  -- a turn of the record is borne by all
  have put : ∀ {Z : List α → World → Prop} (pre : List α) (W : World) (r r' : Loop), Abide row w.heap.size Z → Z pre W → Book w r W → Z pre (W.putObj (w.heap.size + 1) (.loop r')) :=
    fun pre W r r' hZ hz hb => hZ.2 pre W _ (some (w.heap.size + 1)) hz (grownBy_putObj' W _ _) (.inr ⟨_, _, rfl, by omega, hb.1, rfl⟩)
  refine ⟨w.heap.size + 1, [{ target := .collected w.heap.size, args := #[] }], W1, { target := .fn (.func gf) lb, args := #[.func (.yield (w.heap.size + 1)) #[] #[]] }, W1, gf,
    #[.func (.yield (w.heap.size + 1)) #[] #[]] ++ lb, W1, ?_, ?_, ?_, ?_, ?_, ?_⟩
  · rw [← hW1, hrec]; exact run_enterLoop_outer _ _ _ _ _
  · simp only [resolve, hg]
    simp [go_sem]
  · intro f' _; exact hF.1 f'
  · simp [invoke, go_sem, eg]
  · intro h; rw [hF.2.1] at h; cases h
  refine (hseq F (n - 1) hF hro (w.heap.size + 1) (fun pre W => I pre W ∧ Book w (rec .ready none) W) (fun pre W => ∃ c, Ix c pre W ∧ Book w (rec .done (some c)) W) W1 hb1
    (fun pre A B h hg' => ⟨hI.1 pre A B h.1 hg', h.2.grown hg'.1 hrow⟩)
    (fun pre A B h hg' => let ⟨c, hc, hk⟩ := h; ⟨c, (hIx c).1 pre A B hc hg', hk.grown hg'.1 hrow⟩) ?round ⟨hI1, hB1⟩).mono ?behind
  case round =>
    rintro pre x W ⟨hi, hk⟩ hlen
    have hy := run_yield (P := P) (args := encs x) hk.1 (by rw [hparams]; exact hps x)
    rw [hrec] at hy
    refine ⟨fn, _, assign, body, hy, roundIn_of_wpIn hfn (hassign _ x W _ ⟨_, run_beginRound hk.1 (by rw [hrec]; rfl), ?_⟩)⟩
    have hbusy := hk.put { rec .ready none with state := .busy }
    have hKp1 : Kp W (W.putObj (w.heap.size + 1) (.loop { rec .ready none with state := .busy })) := hKb _ _ _ _ (by omega) hk.1 rfl rfl
    refine wpIn_mono (hbody _ pre x _ (put pre W _ _ hI hi hk) hlen) ?_
    -- what the round's end leaves
    have fin : ∀ (jump : Option Code) (W3 : World), KeepsFrom w.heap.size (W.putObj (w.heap.size + 1) (.loop { rec .ready none with state := .busy })) W3 →
        (Instr.endRound (w.heap.size + 1) jump).run P W3 = .ok (.bool jump.isNone) (W3.putObj (w.heap.size + 1) (.loop (rec (if jump.isNone then .ready else .done) jump))) ∧ Book w { rec .ready none with state := .busy } W3 := fun jump W3 hk3 => by
      have hb3 := hbusy.keeps hk3
      refine ⟨?_, hb3⟩
      have := run_endRound (P := P) jump hb3.1
      rw [hrec] at this ⊢
      exact this
    have leave : ∀ (c : Code) (W3 : World), KeepsFrom w.heap.size (W.putObj (w.heap.size + 1) (.loop { rec .ready none with state := .busy })) W3 ∧ Ix c (pre ++ [x]) W3 →
        ∃ v w', (Instr.endRound (w.heap.size + 1) (some c)).run P W3 = .ok v w' ∧ ((Ending.returned v = .returned (.bool true) ∧ (I (pre ++ [x]) w' ∧ Book w (rec .ready none) w') ∧ Kp W w') ∨ (Ending.returned v = .returned (.bool false) ∧ ∃ c, Ix c (pre ++ [x]) w' ∧ Book w (rec .done (some c)) w')) := fun c W3 hp => by
      obtain ⟨hk3, hi3⟩ := hp
      obtain ⟨hr, hb3⟩ := fin (some c) W3 hk3
      exact ⟨_, _, hr, .inr ⟨rfl, c, put _ W3 _ _ (hIx c) hi3 hb3, hb3.put _⟩⟩
    rintro e a3 W3 hp
    cases e with
    | normal =>
      obtain ⟨hk3, hkp3, hi3⟩ := hp
      obtain ⟨hr, hb3⟩ := fin none W3 hk3
      exact ⟨_, _, hr, .inl ⟨rfl, ⟨put _ W3 _ _ hI hi3 hb3, hb3.put _⟩, hKt (hKt hKp1 hkp3) (hKb _ _ _ _ (by omega) hb3.1 rfl rfl)⟩⟩
    | ret => exact leave .ret W3 hp
    | exit id => exact leave (.exit id) W3 hp
    | goto t => exact leave (.goto t) W3 hp
    | panic ch => exact hp.elim
    | outgrown => exact hp.elim
  case behind =>
    rintro e W2 ⟨⟨v, rfl⟩, (⟨xs, hS, hi, hk⟩ | ⟨pre, hSp, c, hi, hk⟩)⟩
    · refine ⟨none, _, ?_, hdone _ xs _ (Nat.le_refl _) hS (put _ W2 _ { rec .ready none with state := .exhausted } hI hi hk) (hk.put _).2⟩
      have := run_endLoop (P := P) hk.1 (by rw [hrec]; simp [recOf])
      rw [hrec] at this ⊢
      exact this
    · refine ⟨some c, _, ?_, hstop _ c pre _ (Nat.le_refl _) hSp (put _ W2 _ { rec .done (some c) with state := .exhausted } (hIx c) hi hk) (hk.put _).2⟩
      have := run_endLoop (P := P) hk.1 (by rw [hrec]; simp [recOf])
      rw [hrec] at this ⊢
      exact this
end
end Go.Proofs.YtbpkfpkhnkcgkaaDoorR
