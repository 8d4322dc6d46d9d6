/- A range over a function whose round begins by making memory (a variable of the round's). -/
import Derived.Test.YtggdcnjaofflbaaGreatDoorC02
import Derived.Test.YtggdcnjaofflbaaGreatDoorC04
import Derived.Test.YtggdcnjaofflbaaGreatDoorC03
namespace Go.Proofs.YtggdcnjaofflbaaGreatDoor
open Go.RowKit

section
variable {P : Program} {α : Type}

theorem wpIn_rangeA {F : Fence} {n : Nat} {g : Operand} {ps : Array Tmp} {assign body : Code} {Q : Exit → Act → World → Prop} {a : Act} {w : World}
    (hF : Wide F) (hro : F.round = none) {gf : Nat} {lb : Array Value} (hg : a.eval g = .func (.func gf) #[] lb) (eg : ∀ args w, (callFunc gf args).run P w = .ok (.enter gf args) w)
    {encs : α → Array Value} {Kp : World → World → Prop} {row : Option Nat} {S Sp : List α → Prop} {N : Nat} {w0 : World} (hseq : Iter P gf lb encs Kp row S Sp N w0)
    (hb0 : Below w0.heap.size w0 w) (hps : ∀ x, (encs x).size = ps.size) (hrow : ∀ k, row = some k → k < w.heap.size)
    (hKt : ∀ {A B C : World}, Kp A B → Kp B C → Kp A C) (hKb : ∀ (W : World) (l : Nat) (o o' : Obj), w.heap.size ≤ l → W.heap[l]? = some o → o.isCells = false → o.isWalk = false → Kp W (W.putObj l o'))
    (I : List α → World → Prop) (Ix : Code → List α → World → Prop) (hI : Abide row w.heap.size I) (hIx : ∀ c, Abide row w.heap.size (Ix c)) (h0 : I [] w) (A1 : Act → α → Act → World → Prop) (hA1 : ∀ x a' W l o o', A1 a x a' W → w.heap.size ≤ l → W.heap[l]? = some o → o.isCells = false → A1 a x a' (W.putObj l o'))
    (hKg : ∀ A C : World, w.heap.size ≤ A.heap.size → A.grownBy C none → Kp A C)
    (hassign : ∀ (l : Nat) (pre : List α) (x : α) (W : World) (K : Act → World → Prop), I pre W → (∀ a' W', A1 a x a' W' → W.grownBy W' none → K a' W') →
      assign.wpIn (F.inRound l) (n - 1 - 1) P (Exit.then K (fun _ _ _ => False)) { tmps := (ps.zip (encs x)).foldl (fun t (p, v) => t.setIfInBounds p v) a.tmps, defers := [] } W)
    (hbody : ∀ (l : Nat) (pre : List α) (x : α) (a' : Act) (W : World), I pre W → pre.length < N → A1 a x a' W → body.wpIn (F.inRound l) (n - 1 - 1) P (ownPostG w.heap.size Kp I Ix (pre ++ [x]) W) a' W)
    (hdone : ∀ (D : Nat) (xs : List α) (W : World), w.heap.size ≤ D → S xs → I xs W → W.heap[D]? = some (.deferred (some [])) → Q .normal { a with defers := { target := .collected D, args := #[] } :: a.defers } W)
    (hstop : ∀ (D : Nat) (c : Code) (pre : List α) (W : World), w.heap.size ≤ D → Sp pre → Ix c pre W → W.heap[D]? = some (.deferred (some [])) → c.wpIn F n P Q { a with defers := { target := .collected D, args := #[] } :: a.defers } W) :
    (Code.rangeFunc g ps assign body).wpIn F n P Q a w := by
  refine wpIn_rangeFunc ?_
  intro fn hfn
  rw [hro]
  obtain ⟨rec, hrec⟩ : ∃ rec : LoopState → Option Code → Loop, rec = recOf fn a ps assign body w.heap.size := ⟨_, rfl⟩
  have hparams : ∀ st pe, (rec st pe).params = ps := by intro st pe; rw [hrec]; rfl
  obtain ⟨W1, hW1⟩ : ∃ W1, (w.alloc (.deferred (some []))).alloc (.loop (rec .ready none)) = W1 := ⟨_, rfl⟩
  have hsz : W1.heap.size = w.heap.size + 2 := by rw [← hW1]; simp
  have hB1 : Book w (rec .ready none) W1 := by
    rw [← hW1]
    exact ⟨heap_alloc2_new w _ _, heap_alloc2_old w _ _⟩
  have hI1 : I [] W1 := by
    rw [← hW1]
    exact hI.2 _ _ _ none (hI.2 _ _ _ none h0 (World.grownBy_alloc w _ none) (.inl rfl)) (World.grownBy_alloc _ _ none) (.inl rfl)
  have hb1 : Below w0.heap.size w0 W1 := by
    rw [← hW1]; exact hb0.trans ((((Below.refl _ w).alloc (Nat.le_refl _) _).alloc (by simp) _).mono hb0.size)
  -- a turn of the record is borne by all
  have put : ∀ {Z : List α → World → Prop} (pre : List α) (W : World) (r r' : Loop), Abide row w.heap.size Z → Z pre W → Book w r W → Z pre (W.putObj (w.heap.size + 1) (.loop r')) :=
    fun pre W r r' hZ hz hb => hZ.2 pre W _ (some (w.heap.size + 1)) hz (grownBy_putObj' W _ _) (.inr ⟨_, _, rfl, by omega, hb.1, rfl⟩)
  refine ⟨w.heap.size + 1, [{ target := .collected w.heap.size, args := #[] }], W1, { target := .fn (.func gf) lb, args := #[.func (.yield (w.heap.size + 1)) #[] #[]] }, W1, gf,
    #[.func (.yield (w.heap.size + 1)) #[] #[]] ++ lb, W1, ?_, ?_, ?_, ?_, ?_, ?_⟩
  · rw [← hW1, hrec]; exact run_enterLoop_outer _ _ _ _ _
  · simp only [resolve, hg]
    simp [go_sem]
  · intro f' _; exact hF.1 f'
  · simp [invoke, go_sem, eg]
  · intro h; rw [hF.2.1] at h; cases h
  refine (hseq F (n - 1) hF hro (w.heap.size + 1) (fun pre W => I pre W ∧ Book w (rec .ready none) W) (fun pre W => ∃ c, Ix c pre W ∧ Book w (rec .done (some c)) W) W1 hb1
    (fun pre A B h hg' => ⟨hI.1 pre A B h.1 hg', h.2.grown hg'.1 hrow⟩)
    (fun pre A B h hg' => let ⟨c, hc, hk⟩ := h; ⟨c, (hIx c).1 pre A B hc hg', hk.grown hg'.1 hrow⟩) ?round ⟨hI1, hB1⟩).mono ?behind
  case round =>
    rintro pre x U ⟨hi, hk⟩ hlen
    have hy := run_yield (P := P) (args := encs x) hk.1 (by rw [hparams]; exact hps x)
    rw [hrec] at hy
    refine ⟨fn, _, assign, body, hy, roundIn_of_wpIn hfn (hassign _ pre x U _ hi (fun a₁ W hA hga => ?_))⟩
    have hgr : U.grownBy W row := ⟨hga.os, hga.tape, hga.output, hga.size, fun i hi' _ => hga.block i hi' (by simp)⟩
    have hKa : Kp U W := hKg U W (by have := (Array.getElem?_eq_some_iff.1 hk.1).1; omega) hga
    replace hi : I pre W := hI.2 pre U W none hi hga (.inl rfl)
    replace hk : Book w (rec .ready none) W := hk.grown hgr hrow
    refine ⟨_, run_beginRound hk.1 (by rw [hrec]; rfl), ?_⟩
    have hbusy := hk.put { rec .ready none with state := .busy }
    have hKp1 : Kp U (W.putObj (w.heap.size + 1) (.loop { rec .ready none with state := .busy })) := hKt hKa (hKb _ _ _ _ (by omega) hk.1 rfl rfl)
    refine wpIn_mono (hbody _ pre x _ _ (put pre W _ _ hI hi hk) hlen (hA1 _ _ _ _ _ _ hA (by omega) hk.1 rfl)) ?_
    -- what the round's end leaves
    have fin : ∀ (jump : Option Code) (W3 : World), KeepsFrom w.heap.size (W.putObj (w.heap.size + 1) (.loop { rec .ready none with state := .busy })) W3 →
        (Instr.endRound (w.heap.size + 1) jump).run P W3 = .ok (.bool jump.isNone) (W3.putObj (w.heap.size + 1) (.loop (rec (if jump.isNone then .ready else .done) jump))) ∧ Book w { rec .ready none with state := .busy } W3 := fun jump W3 hk3 => by
      have hb3 := hbusy.keeps hk3
      refine ⟨?_, hb3⟩
      have := run_endRound (P := P) jump hb3.1
      rw [hrec] at this ⊢
      exact this
    have leave : ∀ (c : Code) (W3 : World), KeepsFrom w.heap.size (W.putObj (w.heap.size + 1) (.loop { rec .ready none with state := .busy })) W3 ∧ Ix c (pre ++ [x]) W3 →
        ∃ v w', (Instr.endRound (w.heap.size + 1) (some c)).run P W3 = .ok v w' ∧ ((Ending.returned v = .returned (.bool true) ∧ (I (pre ++ [x]) w' ∧ Book w (rec .ready none) w') ∧ Kp U w') ∨ (Ending.returned v = .returned (.bool false) ∧ ∃ c, Ix c (pre ++ [x]) w' ∧ Book w (rec .done (some c)) w')) := fun c W3 hp => by
      obtain ⟨hk3, hi3⟩ := hp
      obtain ⟨hr, hb3⟩ := fin (some c) W3 hk3
      exact ⟨_, _, hr, .inr ⟨rfl, c, put _ W3 _ _ (hIx c) hi3 hb3, hb3.put _⟩⟩
    rintro e a3 W3 hp
    cases e with
    | normal =>
      obtain ⟨hk3, hkp3, hi3⟩ := hp
      obtain ⟨hr, hb3⟩ := fin none W3 hk3
      exact ⟨_, _, hr, .inl ⟨rfl, ⟨put _ W3 _ _ hI hi3 hb3, hb3.put _⟩, hKt (hKt hKp1 hkp3) (hKb _ _ _ _ (by omega) hb3.1 rfl rfl)⟩⟩
    | ret => exact leave .ret W3 hp
    | exit id => exact leave (.exit id) W3 hp
    | goto t => exact leave (.goto t) W3 hp
    | panic ch => exact hp.elim
    | outgrown => exact hp.elim
  case behind =>
    rintro e W2 ⟨⟨v, rfl⟩, (⟨xs, hS, hi, hk⟩ | ⟨pre, hSp, c, hi, hk⟩)⟩
    · refine ⟨none, _, ?_, hdone _ xs _ (Nat.le_refl _) hS (put _ W2 _ { rec .ready none with state := .exhausted } hI hi hk) (hk.put _).2⟩
      have := run_endLoop (P := P) hk.1 (by rw [hrec]; simp [recOf])
      rw [hrec] at this ⊢
      exact this
    · refine ⟨some c, _, ?_, hstop _ c pre _ (Nat.le_refl _) hSp (put _ W2 _ { rec .done (some c) with state := .exhausted } (hIx c) hi hk) (hk.put _).2⟩
      have := run_endLoop (P := P) hk.1 (by rw [hrec]; simp [recOf])
      rw [hrec] at this ⊢
      exact this
end
end Go.Proofs.YtggdcnjaofflbaaGreatDoor

/- Owned slices of sides; the walk of digest.Verify. The conditions: what the slice reads as, lengths, the table of constants. -/
namespace Go.Proofs.YtggdcnjaofflbaaGreatDoor
open Go.RowKit Go.BigFrame Go.Shelf

attribute [local go_sem] Oper.semAt_some

def xcells (l : List (ByteArray × Bool)) : List (List Value) := l.map fun s => [.string s.1, .bool s.2]
def OwnX (w : World) (base : Nat) (v : Value) (xs : List (ByteArray × Bool)) : Prop := OwnE w base 166 2 v (xcells xs)
section
variable {ops : Array Oper} {rest : List Oper} {o : Oper} {a : Act} {w : World} {Q : Exit → Act → World → Prop}
end
theorem xcells_at (xs : List (ByteArray × Bool)) : ∀ (k : Nat) (s : ByteArray × Bool), xs[k]? = some s → (xcells xs).flatten[k * 2]? = some (.string s.1) ∧ (xcells xs).flatten[k * 2 + 1]? = some (.bool s.2) := by
  unfold xcells
  induction xs with
  | nil => intro k s h; simp at h
  | cons x xs ih =>
    intro k s h
    cases k with
    | zero =>
      simp at h
      subst h
      exact ⟨rfl, rfl⟩
    | succ k =>
      have h1 := ih k s (by simpa using h)
      rw [List.map_cons, List.flatten_cons, show (k + 1) * 2 = k * 2 + 2 by omega]
      exact h1
theorem OwnX.form {w : World} {base : Nat} {v : Value} {xs : List (ByteArray × Bool)} (h : OwnX w base v xs) : ∃ a cap, v = .slice a xs.length cap := by
  obtain ⟨a, cap, h1⟩ := OwnE.form h
  unfold xcells at h1
  rw [List.length_map] at h1
  exact ⟨a, cap, h1⟩
theorem OwnX.block {w : World} {base : Nat} {a : Option Addr} {n cap : Nat} {xs : List (ByteArray × Bool)} (h : OwnX w base (.slice a n cap) xs) (h0 : 0 < w.heap.size) : xs.length = n ∧ n ≤ cap ∧ cap ≤ maxLen ∧ ∃ (g : Nat) (o : Obj), w.heap[g]? = some o ∧
    ∀ W : World, W.heap[g]? = some o → ∀ k s, xs[k]? = some s → ∃ b off, a = some ⟨b, off, none⟩ ∧ W.cell? ⟨b, off + k * 2, none⟩ = some (.string s.1) ∧ W.cell? ⟨b, off + k * 2 + 1, none⟩ = some (.bool s.2) := by
  rcases h.2 with ⟨hv, hl⟩ | ⟨g, cap', cur, hv, hb, hg, hnc, hcm, hcs, htake⟩
  · injection hv with e1 e2 e3
    subst e1 e2 e3
    unfold xcells at hl
    rw [List.length_map] at hl
    obtain rfl := List.eq_nil_of_length_eq_zero hl
    exact ⟨rfl, Nat.le_refl _, by decide, 0, _, Array.getElem?_eq_getElem h0, fun W _ k s hk => by simp at hk⟩
  · injection hv with e1 e2 e3
    subst e1 e3
    have hl : xs.length = n := by rw [e2]; unfold xcells; rw [List.length_map]
    refine ⟨hl, by omega, hcm, g, _, hg, fun W hW k s hk => ⟨g, 0, rfl, ?_⟩⟩
    obtain ⟨h1, h2⟩ := xcells_at xs k s hk
    rw [Nat.zero_add, cell_of_row W g _ _ _ _ hW, cell_of_row W g _ _ _ _ hW]
    rw [← htake, List.getElem?_take] at h1 h2
    split at h1
    · split at h2
      · exact ⟨by simpa using h1, by simpa using h2⟩
      · cases h2
    · cases h1

theorem same_str (a b : ByteArray) : (a.toList == b.toList) = decide (a = b) := by
  rw [Bool.eq_iff_iff, beq_iff_eq, decide_eq_true_iff, ByteArray.toList_eq, ByteArray.toList_eq]
  constructor
  · intro h
    exact ByteArray.ext (Array.ext' h)
  · rintro rfl; rfl
def verB (root : ByteArray) (n i : Nat) (s : ByteArray) (pr : List ByteArray) : Bool := decide (valueL leafS nodeS s pr.reverse n i = some root)
def WayI (s : ByteArray) (pr : List ByteArray) (n i : Nat) (ws : List (ByteArray × Bool)) (ps : List ByteArray) (n' i' : Nat) : Prop :=
  valueL leafS nodeS s pr.reverse n i = (valueL leafS nodeS s ps.reverse n' i').map fun v => ws.foldr sideS v
theorem WayI.start (s : ByteArray) (pr : List ByteArray) (n i : Nat) : WayI s pr n i [] pr n i := by
  unfold WayI
  cases valueL leafS nodeS s pr.reverse n i <;> rfl
theorem WayI.step {s : ByteArray} {pr : List ByteArray} {n i : Nat} {ws : List (ByteArray × Bool)} {ps : List ByteArray} {x : ByteArray} {n' i' : Nat} (h : WayI s pr n i ws (ps ++ [x]) n' i') (hn : 1 < n') :
    (leftN n' ≤ i' → WayI s pr n i (ws ++ [(x, true)]) ps (n' - leftN n') (i' - leftN n')) ∧ (i' < leftN n' → WayI s pr n i (ws ++ [(x, false)]) ps (leftN n') i') := by
  unfold WayI at *
  rw [List.reverse_append, List.reverse_singleton, List.singleton_append, valueL, if_neg (by omega)] at h
  refine ⟨fun h1 => ?_, fun h1 => ?_⟩
  · rw [if_neg (by omega)] at h
    rw [h, Option.map_map]
    congr 1
    funext v
    simp [sideS]
  · rw [if_pos h1] at h
    rw [h, Option.map_map]
    congr 1
    funext v
    simp [sideS]
theorem WayI.done {s : ByteArray} {pr : List ByteArray} {n i : Nat} {ws : List (ByteArray × Bool)} {n' i' : Nat} (h : WayI s pr n i ws [] n' i') (hn : n' ≤ 1) (root : ByteArray) : verB root n i s pr = decide (ws.foldr sideS (leafS s) = root) := by
  unfold WayI at h
  rw [List.reverse_nil, valueL, if_pos hn] at h
  unfold verB
  rw [h]
  simp
end Go.Proofs.YtggdcnjaofflbaaGreatDoor

/- The walk of digest.Verify. The conditions: what the slice reads as, lengths, the table of constants. -/
namespace Go.Proofs.YtggdcnjaofflbaaGreatDoor
open Go.RowKit Go.BigFrame Go.Shelf

attribute [local go_sem] Oper.semAt_some

end Go.Proofs.YtggdcnjaofflbaaGreatDoor

/- digest.VerifyExtension: the plain side, and the walks of the short ways. -/
namespace Go.Proofs.YtggdcnjaofflbaaGreatDoor
open Go.RowKit Go.BigFrame Go.Shelf

attribute [local go_sem] Oper.semAt_some

def vexB (old : ByteArray) (m : Nat) (root : ByteArray) (n : Nat) (pr : List ByteArray) : Bool :=
  if m = 0 then decide (pr.length = 0) && decide (old = sumS ⟨#[]⟩) else decide (bothL nodeS old pr.reverse m n true = some (old, root))

def firstsF (ws : List (ByteArray × Bool)) (v : ByteArray) : ByteArray := ws.foldr (fun x v => if x.2 then sideS x v else v) v
def WayE (old : ByteArray) (pr : List ByteArray) (m n : Nat) (ws : List (ByteArray × Bool)) (ps : List ByteArray) (m' n' : Nat) (wh : Bool) : Prop :=
  bothL nodeS old pr.reverse m n true = (bothL nodeS old ps.reverse m' n' wh).map fun v => (firstsF ws v.1, ws.foldr sideS v.2)
theorem WayE.start (old : ByteArray) (pr : List ByteArray) (m n : Nat) : WayE old pr m n [] pr m n true := by
  unfold WayE firstsF
  cases bothL nodeS old pr.reverse m n true <;> rfl
theorem WayE.step {old : ByteArray} {pr : List ByteArray} {m n : Nat} {ws : List (ByteArray × Bool)} {ps : List ByteArray} {x : ByteArray} {m' n' : Nat} {wh : Bool} (h : WayE old pr m n ws (ps ++ [x]) m' n' wh) (hn : m' < n') :
    (leftN n' < m' → WayE old pr m n (ws ++ [(x, true)]) ps (m' - leftN n') (n' - leftN n') false) ∧ (m' ≤ leftN n' → WayE old pr m n (ws ++ [(x, false)]) ps m' (leftN n') wh) := by
  unfold WayE at *
  rw [List.reverse_append, List.reverse_singleton, List.singleton_append, bothL, if_neg (by omega)] at h
  refine ⟨fun h1 => ?_, fun h1 => ?_⟩
  · rw [if_neg (by omega)] at h
    rw [h, Option.map_map]
    congr 1
    funext v
    simp [sideS, firstsF]
  · rw [if_pos h1] at h
    rw [h, Option.map_map]
    congr 1
    funext v
    simp [sideS, firstsF]
theorem vexB_pos {old : ByteArray} {m : Nat} {root : ByteArray} {n : Nat} {pr : List ByteArray} (hm : 1 ≤ m) : vexB old m root n pr = decide (bothL nodeS old pr.reverse m n true = some (old, root)) := by
  unfold vexB; rw [if_neg (by omega)]
theorem WayE.whole {old : ByteArray} {pr : List ByteArray} {m n : Nat} {ws : List (ByteArray × Bool)} {ps : List ByteArray} {m' n' : Nat} (h : WayE old pr m n ws ps m' n' true) (hn : n' ≤ m') (hm : 1 ≤ m) (root : ByteArray) :
    vexB old m root n pr = (decide (ps.length = 0) && (decide (firstsF ws old = old) && decide (ws.foldr sideS old = root))) := by
  unfold WayE at h
  rcases List.eq_nil_or_concat ps with rfl | ⟨ps', x, rfl⟩
  · rw [List.reverse_nil, bothL, if_pos ⟨hn, rfl⟩] at h
    rw [vexB_pos hm, h]
    simp
  · rw [List.concat_eq_append, List.reverse_append, List.reverse_singleton, List.singleton_append, bothL, if_pos hn, if_pos rfl] at h
    rw [vexB_pos hm, h]
    simp
theorem WayE.part {old : ByteArray} {pr : List ByteArray} {m n : Nat} {ws : List (ByteArray × Bool)} {ps : List ByteArray} {m' n' : Nat} (h : WayE old pr m n ws ps m' n' false) (hn : n' ≤ m') (hm : 1 ≤ m) (root : ByteArray) :
    (ps.length ≠ 1 → vexB old m root n pr = false) ∧ ∀ x, ps = [x] → vexB old m root n pr = (decide (firstsF ws x = old) && decide (ws.foldr sideS x = root)) := by
  unfold WayE at h
  refine ⟨fun h1 => ?_, fun x hx => ?_⟩
  · rcases List.eq_nil_or_concat ps with rfl | ⟨ps', x, rfl⟩
    · rw [List.reverse_nil, bothL, if_neg (by simp)] at h
      rw [vexB_pos hm, h]
      simp
    · rw [List.concat_eq_append] at h1 h
      rw [List.reverse_append, List.reverse_singleton, List.singleton_append, bothL, if_pos hn, if_neg (by simp), if_neg (by intro e; rw [List.reverse_eq_nil_iff] at e; subst e; exact h1 rfl)] at h
      rw [vexB_pos hm, h]
      simp
  · subst hx
    rw [List.reverse_singleton, bothL, if_pos hn, if_neg (by simp), if_pos rfl] at h
    rw [vexB_pos hm, h]
    simp
end Go.Proofs.YtggdcnjaofflbaaGreatDoor

/- The walk of digest.VerifyExtension's long way. The conditions: what the slice reads as, lengths, the table of constants. (Printed by wip/gen_dg18.py.) -/
namespace Go.Proofs.YtggdcnjaofflbaaGreatDoor
open Go.RowKit Go.BigFrame Go.Shelf

attribute [local go_sem] Oper.semAt_some

end Go.Proofs.YtggdcnjaofflbaaGreatDoor

/- The walk of digest.Extension. The conditions: what the slice reads as, lengths, the table of constants. -/
namespace Go.Proofs.YtggdcnjaofflbaaGreatDoor
open Go.RowKit Go.BigFrame Go.Shelf

attribute [local go_sem] Oper.semAt_some

end Go.Proofs.YtggdcnjaofflbaaGreatDoor

/- What the functions of package register answer: plain functions, and what they say of each other. No condition. -/
namespace Go.Proofs.YtggdcnjaofflbaaGreatDoor

structure HeadP where
  car : Int
  siz : Int
  root : ByteArray
  sl : ByteArray
deriving DecidableEq

structure ItemP where
  idx : Int
  ent : ByteArray
  prf : List ByteArray
deriving DecidableEq

structure PartP where
  head : HeadP
  items : List ItemP
deriving DecidableEq

structure RegP where
  car : Int
  ents : List ByteArray
deriving DecidableEq

/-! ### What they say of each other -/
end Go.Proofs.YtggdcnjaofflbaaGreatDoor

/- Two different strings with the same digest: what follows where proofs are accepted that show something else. Plain theory, no condition. -/
namespace Go.Proofs.YtggdcnjaofflbaaGreatDoor

def markL (s : ByteArray) : ByteArray := ⟨#[0]⟩ ++ s
def markN (a b : ByteArray) : ByteArray := ⟨#[1]⟩ ++ (a ++ b)
theorem app_inj {a b c d : ByteArray} (h : a ++ b = c ++ d) (hs : a.size = c.size) : a = c ∧ b = d := by
  have h1 : a.data.toList ++ b.data.toList = c.data.toList ++ d.data.toList := by
    rw [← Array.toList_append, ← Array.toList_append, ← ByteArray.data_append, ← ByteArray.data_append, h]
  have hl : a.data.toList.length = c.data.toList.length := by
    rw [Array.length_toList, Array.length_toList]
    exact hs
  obtain ⟨e1, e2⟩ := List.append_inj h1 hl
  exact ⟨ByteArray.ext (Array.toList_inj.1 e1), ByteArray.ext (Array.toList_inj.1 e2)⟩
theorem markL_inj {s t : ByteArray} (h : markL s = markL t) : s = t := (app_inj h rfl).2
theorem markN_inj {a b c d : ByteArray} (h : markN a b = markN c d) (hs : a.size = c.size) : a = c ∧ b = d := app_inj (app_inj h rfl).2 hs

def collS (a b : List ByteArray) : Bool := a.any fun x => b.any fun y => decide (x ≠ y) && decide (sumS x = sumS y)
theorem coll_of {a b : List ByteArray} {x y : ByteArray} (hx : x ∈ a) (hy : y ∈ b) (h1 : x ≠ y) (h2 : sumS x = sumS y) : collS a b = true := by
  unfold collS
  rw [List.any_eq_true]
  refine ⟨x, hx, ?_⟩
  rw [List.any_eq_true]
  exact ⟨y, hy, by rw [decide_eq_true h1, decide_eq_true h2]; rfl⟩
theorem coll_parts {a b : List ByteArray} (h : collS a b = true) : ∃ x ∈ a, ∃ y ∈ b, x ≠ y ∧ sumS x = sumS y := by
  unfold collS at h
  rw [List.any_eq_true] at h
  obtain ⟨x, hx, h⟩ := h
  rw [List.any_eq_true] at h
  obtain ⟨y, hy, h⟩ := h
  rw [Bool.and_eq_true] at h
  exact ⟨x, hx, y, hy, of_decide_eq_true h.1, of_decide_eq_true h.2⟩
def hashedF : Nat → List ByteArray → List ByteArray
  | 0, _ => [⟨#[]⟩]
  | f + 1, l => match l with
    | [] => [⟨#[]⟩]
    | [s] => [markL s]
    | l => hashedF f (l.take (leftN l.length)) ++ hashedF f (l.drop (leftN l.length)) ++ [markN (rootB (l.take (leftN l.length))) (rootB (l.drop (leftN l.length)))]
def hashedS (l : List ByteArray) : List ByteArray := hashedF l.length l
end Go.Proofs.YtggdcnjaofflbaaGreatDoor

/- What the reference's makers of registers answer: plain functions. No condition. -/
namespace Go.Proofs.YtggdcnjaofflbaaGreatDoor

def pickI (c n : Int) : Int := (if c < 0 then -(c + 1) else c) % n
theorem pickI_range (c : Int) {n : Int} (h : 0 < n) : 0 ≤ pickI c n ∧ pickI c n < n := by
  unfold pickI
  exact ⟨Int.emod_nonneg _ (by omega), Int.emod_lt_of_pos _ h⟩
end Go.Proofs.YtggdcnjaofflbaaGreatDoor

/- The reference's SHA-256: rotated, constants, rows of words and bytes. The conditions: ranges. -/
namespace Go.Proofs.YtggdcnjaofflbaaGreatDoor
open Go.RowKit Go.BigFrame

set_option maxHeartbeats 1000000 in
theorem rotated_any (x n : Nat) (w : World) (hx : x < 4294967296) (h1 : 1 ≤ n) (h2 : n ≤ 31) :
    Calls Tryz.prog 140 #[.int .u32 x, .int .i64 n] w fun e w' => e = .returned (.int .u32 (rotr x n : Nat)) ∧ ∃ m, w' = w.drewN m := by
  have f1 : IntKind.i64.wrap (32 - (n : Int)) = ((32 - n : Nat) : Int) := by rw [IntWalk.i64_in _ (by omega)]; omega
  have b1 : (0 : Int) ≤ (n : Int) := by omega
  have b2 : (0 : Int) ≤ ((32 - n : Nat) : Int) := by omega
  obtain ⟨k, hk⟩ : ∃ k, k = 32 - n := ⟨_, rfl⟩
  have HK := Lib.hid hk
  rw [← hk] at f1 b2
  have hk31 : k ≤ 31 := by omega
  clear hk
  go_enter Tryz.func140, Tryz.ntmps140
  go_wp2
  go_quiet (fail)
  go_wp2
  go_ret
  refine ⟨ret_int ?_, _, rfl⟩
  have g1 : x * 2 ^ k % 4294967296 < 4294967296 := Nat.mod_lt _ (by omega)
  have g2 : x / 2 ^ n < 4294967296 := Nat.lt_of_le_of_lt (Nat.div_le_self _ _) hx
  have c1 : ((x * 2 ^ k % 4294967296 : Nat) : Int) = (x : Int) * 2 ^ k % 4294967296 := by rw [Int.natCast_emod, Int.natCast_mul, Int.natCast_pow]; rfl
  have c2 : ((x / 2 ^ n : Nat) : Int) = (x : Int) / 2 ^ n := by rw [Int.natCast_ediv, Int.natCast_pow]; rfl
  rw [← c1, ← c2, u32_or_nat _ _ g2 g1, Nat.or_comm, HK.out]
  rfl

def wcells (l : List Nat) : List (List Value) := l.map fun n => [.int .u32 (n : Nat)]
theorem wcells_one (l : List Nat) : ∀ c ∈ wcells l, c.length = 1 := by
  intro c hc
  unfold wcells at hc
  obtain ⟨n, _, rfl⟩ := List.mem_map.1 hc
  rfl
theorem wcells_len (l : List Nat) : (wcells l).length = l.length := List.length_map ..
theorem wcells_flat (l : List Nat) : (wcells l).flatten = l.map fun n => Value.int .u32 (n : Nat) := by
  unfold wcells
  induction l with
  | nil => rfl
  | cons x l ih => simp [ih]
def WS (w : World) (v : Value) (l : List Nat) : Prop := SliceAt w v 1 (wcells l)
theorem WS.below {w w' : World} {v : Value} {l : List Nat} (h : WS w v l) (hb : Below w.heap.size w w') : WS w' v l := SliceAt.below h hb
theorem WS.opened {w : World} {v : Value} {l : List Nat} (h : WS w v l) (hl : 0 < l.length) : ∃ b off cap, v = .slice (some ⟨b, off, none⟩) l.length cap ∧ l.length ≤ cap ∧ cap ≤ maxLen ∧ b < w.heap.size ∧
    ∀ k n, l[k]? = some n → w.cell? ⟨b, off + k, none⟩ = some (.int .u32 (n : Nat)) := by
  obtain ⟨a, cap, hv, h1, h2, h3⟩ := h
  unfold wcells at *
  rw [List.length_map] at hv h1
  rcases h3 with h3 | ⟨b, off, ha, hb, hc⟩
  · simp at h3; subst h3; simp at hl
  · subst ha
    refine ⟨b, off, cap, hv, h1, h2, hb, fun k x hx => ?_⟩
    have := hc k [.int .u32 (x : Nat)] (by rw [List.getElem?_map, hx]; rfl) 0 _ rfl
    simpa using this
def OwnW (w : World) (base : Nat) (v : Value) (l : List Nat) : Prop := OwnE w base 139 1 v (wcells l)
def OwnB (w : World) (base : Nat) (v : Value) (l : List Nat) : Prop := OwnE w base 5 1 v (bcells l)
theorem OwnW.ws {w : World} {base : Nat} {v : Value} {l : List Nat} (h : OwnW w base v l) : WS w v l := OwnE.slice h (wcells_one l)
theorem bcells_one (l : List Nat) : ∀ c ∈ bcells l, c.length = 1 := by
  intro c hc
  unfold bcells at hc
  obtain ⟨n, _, rfl⟩ := List.mem_map.1 hc
  rfl
theorem bcells_len (l : List Nat) : (bcells l).length = l.length := List.length_map ..
theorem OwnB.bs {w : World} {base : Nat} {v : Value} {l : List Nat} (h : OwnB w base v l) : SliceAt w v 1 (bcells l) := OwnE.slice h (bcells_one l)
theorem infoU32 : (Tryz.prog.info? 139).map (fun i => (i.zero, i.size, i.bytes)) = some (some (.int .u32 0), 1, 4) := by kernel_rfl

section
variable {ops : Array Oper} {rest : List Oper} {o : Oper} {a : Act} {w : World} {Q : Exit → Act → World → Prop}
theorem wpList_append_word (s x : Operand) (base : Nat) (v : Value) (xs : List Nat) (b : Nat) (y : Int) (n : Nat) (hy : y = n) (fr : Nat × Nat) (hown : OwnW w base v xs) (hlen : xs.length ≤ 100000) (hbase : base ≤ w.heap.size)
    (hb : w.heap[b]? = some (.cells #[.int .u32 y] 139 fr)) (hgd : o.guard = none) (ho : o.op = .call { callee := .builtin .append, args := #[s, x], argTypes := #[140, 140] }) (hs : a.eval s = v) (hx : a.eval x = .slice (some ⟨b, 0, none⟩) 1 1)
    (h : ∀ v' w', OwnW w' base v' (xs ++ [n]) → w.grownBy w' v.ownBlock → wpList Tryz.prog ops Q rest (a.put o.dst v') w') : wpList Tryz.prog ops Q (o :: rest) a w :=
  wpList_append_el 140 139 1 4 _ (by kernel_rfl) infoU32 rfl (by decide) hgd s x ho base v (wcells xs) hs hown b [.int .u32 y] rfl (fun u hu => by rw [List.mem_singleton] at hu; subst hu; rfl) hx fr hb
    (by rw [wcells_len]; unfold maxLen; omega) (by rw [wcells_len]; omega) hbase fun v' w' h1 h2 => h v' w' (by unfold OwnW wcells; rw [List.map_append]; subst hy; exact h1) h2
theorem wpList_append_byte (s x : Operand) (base : Nat) (v : Value) (xs : List Nat) (b : Nat) (y : Int) (n : Nat) (hy : y = n) (fr : Nat × Nat) (hown : OwnB w base v xs) (hlen : xs.length ≤ 1100000000) (hbase : base ≤ w.heap.size)
    (hb : w.heap[b]? = some (.cells #[.int .u8 y] 5 fr)) (hgd : o.guard = none) (ho : o.op = .call { callee := .builtin .append, args := #[s, x], argTypes := #[80, 80] }) (hs : a.eval s = v) (hx : a.eval x = .slice (some ⟨b, 0, none⟩) 1 1)
    (h : ∀ v' w', OwnB w' base v' (xs ++ [n]) → w.grownBy w' v.ownBlock → wpList Tryz.prog ops Q rest (a.put o.dst v') w') : wpList Tryz.prog ops Q (o :: rest) a w :=
  wpList_append_el 80 5 1 1 _ (by kernel_rfl) infoByte rfl (by decide) hgd s x ho base v (bcells xs) hs hown b [.int .u8 y] rfl (fun u hu => by rw [List.mem_singleton] at hu; subst hu; rfl) hx fr hb
    (by rw [bcells_len]; unfold maxLen; omega) (by rw [bcells_len]; omega) hbase fun v' w' h1 h2 => h v' w' (by unfold OwnB bcells; rw [List.map_append]; subst hy; exact h1) h2
end

theorem WS.lit {w : World} {b n : Nat} {T : TypeId} {fz : Nat × Nat} (l : List Nat) (h : w.heap[b]? = some (.cells (l.map fun n => Value.int .u32 (n : Nat)).toArray T fz)) (hn : n = l.length) (hm : l.length ≤ 1000) : WS w (.slice (some ⟨b, 0, none⟩) n n) l := by
  subst hn
  refine ⟨_, l.length, by rw [wcells_len], by rw [wcells_len]; exact Nat.le_refl _, by unfold maxLen; omega, .inr ⟨b, 0, rfl, (Array.getElem?_eq_some_iff.1 h).1, fun i c hi j u hj => ?_⟩⟩
  unfold wcells at hi
  rw [List.getElem?_map] at hi
  obtain ⟨x, hx, rfl⟩ := Option.map_eq_some_iff.1 hi
  have hj0 : j = 0 := by have := (List.getElem?_eq_some_iff.1 hj).1; simp at this; omega
  subst hj0
  rw [cell_of_row w b _ _ T fz h, Nat.zero_add, Nat.mul_one, Nat.add_zero, List.getElem?_toArray, List.getElem?_map, hx]
  simpa using hj

set_option maxHeartbeats 1000000 in
set_option maxRecDepth 100000 in
theorem constants_any (w : World) : Calls Tryz.prog 141 #[] w fun e w' => ∃ v, e = .returned v ∧ WS w' v kN ∧ Below w.heap.size w w' := by
  go_enter Tryz.func141, Tryz.ntmps141
  go_wp2
  go_ret
  exact ⟨_, rfl, WS.lit kN (heap_alloc_new w _) rfl (by decide), (Below.refl _ _).alloc (Nat.le_refl _) _⟩
end Go.Proofs.YtggdcnjaofflbaaGreatDoor

/- The reference's SHA-256: the bytes that are added. The condition: the length. -/
namespace Go.Proofs.YtggdcnjaofflbaaGreatDoor
open Go.RowKit Go.BigFrame

theorem bytesS_get (s : ByteArray) (k : Nat) (h : k < s.size) : (bytesS s)[k]? = some s[k].toNat := by
  unfold bytesS
  rw [List.getElem?_map, Array.getElem?_toList, Array.getElem?_eq_getElem h]
  rfl
theorem take_snoc {α : Type} {l : List α} {k : Nat} {x : α} (h : l[k]? = some x) : l.take (k + 1) = l.take k ++ [x] := by
  rw [List.take_add_one, h]; rfl
theorem zeros_test (n j : Nat) (hj : j ≤ zerosN n) : ((n + 1 + j) % 64 = 56) ↔ j = zerosN n := by
  unfold zerosN at *
  omega
theorem zeros_le (n : Nat) : zerosN n ≤ 63 := by unfold zerosN; omega
theorem lenBytes_take (n m : Nat) (h : m < 8) : (lenBytes n).take (m + 1) = (lenBytes n).take m ++ [8 * n / 2 ^ (8 * (7 - m)) % 256] := take_snoc (lenBytes_get n m h)

theorem OwnB.form {w : World} {base : Nat} {v : Value} {l : List Nat} (h : OwnB w base v l) : ∃ a n cap, v = .slice a n cap ∧ n = l.length := by
  obtain ⟨a, c, e⟩ := OwnE.form h
  exact ⟨a, _, c, e, bcells_len l⟩
theorem OwnW.form {w : World} {base : Nat} {v : Value} {l : List Nat} (h : OwnW w base v l) : ∃ a n cap, v = .slice a n cap ∧ n = l.length := by
  obtain ⟨a, c, e⟩ := OwnE.form h
  exact ⟨a, _, c, e, wcells_len l⟩

set_option maxHeartbeats 4000000 in
set_option maxRecDepth 100000 in
theorem extended_any (s : ByteArray) (w : World) (hs : s.size ≤ 1000000000) :
    Calls Tryz.prog 101 #[.string s] w fun e w' => ∃ v, e = .returned v ∧ OwnB w' w.heap.size v (padN (bytesS s)) ∧ Below w.heap.size w w' := by
  have HL : Hid ((bytesS s).length = s.size) := Lib.hid (bytesS_length s)
  obtain ⟨R, hR⟩ : ∃ R, R = padN (bytesS s) := ⟨_, rfl⟩
  rw [← hR]
  have HR := Lib.hid hR
  clear hR
  go_enter Tryz.func101, Tryz.ntmps101
  go_wp2
  go_loopw [3, 4] (fun v i wr => ∃ k : Nat, k ≤ s.size ∧ i = .int .i64 k ∧ Hid (OwnB wr w.heap.size v ((bytesS s).take k)) ∧ Hid (Below w.heap.size w wr)) (fun _ i _ => s.size - (intOf i).toNat)
  case atStart => exact ⟨0, by omega, rfl, Lib.hid (OwnE.nil _ _ _ _), Lib.hid (Below.refl _ _)⟩
  case round =>
    obtain ⟨k, hk, rfl, hO, hB⟩ := hrel
    obtain ⟨va, vn, vc, hv, hvn⟩ := OwnB.form hO.out
    subst hv
    have HVN := Lib.hid hvn
    clear hvn
    by_cases hlt : k < s.size
    · have t1 : (k : Int) < (s.size : Int) := by omega
      have HT := Lib.hid (take_snoc (bytesS_get s k hlt))
      have HX : Hid (((bytesS s).take k).length ≤ 1100000000) := Lib.hid (by rw [List.length_take]; omega)
      generalize (bytesS s).take k = X at *
      have hsz := hB.out.size
      have HOA : Hid (OwnB (wr.alloc (.cells #[.int .u8 (s[k].toNat : Nat)] 5)) w.heap.size (.slice va vn vc) X) := Lib.hid (OwnE.alloc hO.out _)
      have HNA := Lib.hid (heap_alloc_new wr (.cells #[.int .u8 (s[k].toNat : Nat)] 5))
      have HBA := Lib.hid (hB.out.alloc hsz (.cells #[.int .u8 (s[k].toNat : Nat)] 5))
      go_wp2_with (at_builtin; refine wpList_append_byte _ _ w.heap.size _ X wr.heap.size _ s[k].toNat rfl _ HOA.out HX.out HBA.out.size HNA.out rfl rfl rfl rfl ?_; intro v7 w7 hown7 hgr7; have HO7 := Lib.hid hown7; have HB7 := Lib.hid (HBA.out.grown hgr7 HBA.out.size (fun j e => OwnE.ge HOA.out j e)); clear hown7 hgr7)
      go_roundw
      case rel =>
        refine ⟨k + 1, by omega, by go_num, ?_, HB7⟩
        rw [HT.out]
        exact HO7
      case measure => simp [intOf]; omega
    · have ek : k = s.size := by omega
      have HF : Hid ((bytesS s).take k = bytesS s) := Lib.hid (by rw [ek, ← HL.out, List.take_length])
      rw [HF.out] at hO HVN
      have HP : Hid (R = (bytesS s ++ 128 :: List.replicate (zerosN (bytesS s).length) 0) ++ lenBytes (bytesS s).length) := Lib.hid (HR.out.trans (padN_eq _))
      have HLE := Lib.hid (zeros_le (bytesS s).length)
      have HZT := Lib.hid (zeros_test (bytesS s).length)
      have HLB := Lib.hid (lenBytes_take (bytesS s).length)
      have HL8 : Hid (lenBytes (bytesS s).length = (lenBytes (bytesS s).length).take 8) := Lib.hid rfl
      have HL0 : Hid ((lenBytes (bytesS s).length).take 0 = []) := Lib.hid rfl
      rw [HL.out] at HP HLE HZT HLB HL8 HL0
      have t1 : ¬ (k : Int) < (s.size : Int) := by omega
      obtain ⟨n, hn⟩ : ∃ n, n = s.size := ⟨_, rfl⟩
      rw [← hn] at HP HLE HZT HLB HL8 HL0 HL
      have HNn := Lib.hid hn
      have hn9 : n ≤ 1000000000 := by omega
      have HXl : Hid (((bytesS s).length ≤ 1100000000)) := Lib.hid (by rw [HL.out]; omega)
      clear HF hn HR
      generalize bytesS s = X at *
      generalize lenBytes n = LB at *
      generalize zerosN n = Z at *
      have hsz := hB.out.size
      have HOA : Hid (OwnB (wr.alloc (.cells #[.int .u8 ((128 : Nat) : Int)] 5)) w.heap.size (.slice va vn vc) X) := Lib.hid (OwnE.alloc hO.out _)
      have HNA := Lib.hid (heap_alloc_new wr (.cells #[.int .u8 ((128 : Nat) : Int)] 5))
      have HBA := Lib.hid (hB.out.alloc hsz (.cells #[.int .u8 ((128 : Nat) : Int)] 5))
      go_wp2_with (at_builtin; refine wpList_append_byte _ _ w.heap.size _ X wr.heap.size _ 128 rfl _ HOA.out HXl.out HBA.out.size HNA.out rfl rfl rfl rfl ?_; intro v7 w7 hown7 hgr7; have HO7 : Hid (OwnB w7 w.heap.size v7 (X ++ [128])) := Lib.hid hown7; have HB7 := Lib.hid (HBA.out.grown hgr7 HBA.out.size (fun j e => OwnE.ge HOA.out j e)); clear hown7 hgr7)
      rw [HL.out] at HVN
      obtain ⟨va7, vn7, vc7, hv7, hvn7⟩ := OwnB.form HO7.out
      have HO8 : Hid (OwnB w7 w.heap.size v7 (X ++ 128 :: List.replicate 0 0)) := HO7
      have hZ63 := HLE.out
      subst hv7
      clear hvn7
      clear hO hB HOA HNA HBA HO7
      go_loopw [3] (fun v wr => ∃ j : Nat, j ≤ Z ∧ Hid (OwnB wr w.heap.size v (X ++ 128 :: List.replicate j 0)) ∧ Hid (Below w.heap.size w wr)) (fun v _ => 65 + n - vlen v)
      case atStart => exact ⟨0, by omega, HO8, HB7⟩
      case round =>
        obtain ⟨j, hj, hO, hB⟩ := hrel
        obtain ⟨va, vn, vc, hv, hvn⟩ := OwnB.form hO.out
        replace hvn : vn = n + 1 + j := by
          rw [hvn, List.length_append, List.length_cons, List.length_replicate, HL.out]; omega
        subst hv
        have hz := HZT.out j hj
        have HXS : Hid ((X ++ 128 :: List.replicate j 0).length ≤ 1100000000) := Lib.hid (by rw [List.length_append, List.length_cons, List.length_replicate, HL.out]; omega)
        have HRS : Hid ((X ++ 128 :: List.replicate j 0) ++ [0] = X ++ 128 :: List.replicate (j + 1) 0) := Lib.hid (by
          rw [List.append_assoc, List.cons_append, ← List.replicate_succ'])
        have HVN := Lib.hid hvn
        obtain ⟨XS, hXS⟩ : ∃ XS, XS = X ++ 128 :: List.replicate j 0 := ⟨_, rfl⟩
        rw [← hXS] at hO HXS HRS
        have HXE := Lib.hid hXS
        clear hXS
        have hsz := hB.out.size
        by_cases hjz : j = Z
        · have e56 : (vn : Int) % 64 = 56 := by have := hz.2 hjz; omega
          clear hz hvn
          have HRZ : Hid (R = XS ++ LB.take 8) := Lib.hid (by rw [HP.out, HXE.out, hjz, ← HL8.out])
          have HO9 : Hid (OwnB wr w.heap.size (.slice va vn vc) (XS ++ LB.take 0)) := Lib.hid (by rw [HL0.out, List.append_nil]; exact hO.out)
          have HXT : Hid (∀ k, (XS ++ LB.take k).length ≤ 1100000000) := Lib.hid (fun k => by
            rw [HXE.out, List.length_append, List.length_append, List.length_cons, List.length_replicate, HL.out]
            have : (LB.take k).length ≤ 8 := by rw [HL8.out, List.take_take, List.length_take]; omega
            omega)
          have HL9 := Lib.hid (fun m h => congrArg (XS ++ ·) (HLB.out m h))
          clear HP HL8 HL0 HRS HXE HXS hO HVN hsz HLB HXl HL hjz hj
          go_wp2
          clear e56
          go_loopw [3, 5] (fun v i wr => ∃ k : Nat, k ≤ 8 ∧ i = .int .i64 (7 - (k : Int)) ∧ Hid (OwnB wr w.heap.size v (XS ++ LB.take k)) ∧ Hid (Below w.heap.size w wr)) (fun _ i _ => (intOf i + 1).toNat)
          case atStart => exact ⟨0, by omega, by go_num, HO9, hB⟩
          case round =>
            clear HO9 hB
            obtain ⟨k, hk, rfl, hO, hB⟩ := hrel
            obtain ⟨va, vn, vc, hv, hvn⟩ := OwnB.form hO.out
            subst hv
            clear hvn
            have hsz := hB.out.size
            by_cases h8 : k < 8
            · obtain ⟨j, hj⟩ : ∃ j : Nat, j = 7 - k := ⟨_, rfl⟩
              have ej : (7 : Int) - (k : Int) = (j : Int) := by omega
              have HJ := Lib.hid hj
              have tj : (0 : Int) ≤ (j : Int) := by omega
              obtain ⟨t, ht⟩ : ∃ t, t = 8 * n / 2 ^ (8 * (7 - k)) := ⟨_, rfl⟩
              have f1 : IntKind.i64.wrap (8 * (s.size : Int)) = 8 * (s.size : Int) := IntWalk.i64_in _ (by omega)
              have f2 : IntKind.i64.wrap (8 * (j : Int)) = ((8 * j : Nat) : Int) := by rw [IntWalk.i64_in _ (by omega)]; omega
              obtain ⟨j8, hj8⟩ : ∃ j8, j8 = 8 * j := ⟨_, rfl⟩
              rw [← hj8] at f2
              have tj8 : (0 : Int) ≤ (j8 : Int) := by omega
              have f3 : (8 * (s.size : Int)) / 2 ^ min j8 64 = (t : Int) := by
                rw [ht, hj8, hj, Int.natCast_ediv, Int.natCast_pow, HNn.out, Nat.min_eq_left (by omega)]; rfl
              have HT := Lib.hid (HL9.out k h8)
              rw [← ht] at HT
              have HXk := Lib.hid (HXT.out k)
              rw [ej]
              clear ht hj hj8
              have HOA : Hid (OwnB (wr.alloc (.cells #[.int .u8 ((t : Int) % 256)] 5)) w.heap.size (.slice va vn vc) (XS ++ LB.take k)) := Lib.hid (OwnE.alloc hO.out _)
              have HNA := Lib.hid (heap_alloc_new wr (.cells #[.int .u8 ((t : Int) % 256)] 5))
              have HBA := Lib.hid (hB.out.alloc hsz (.cells #[.int .u8 ((t : Int) % 256)] 5))
              have HYY : Hid ((t : Int) % 256 = ((t % 256 : Nat) : Int)) := Lib.hid (by omega)
              have HTT : Hid ((XS ++ LB.take k) ++ [t % 256] = XS ++ LB.take (k + 1)) := Lib.hid (by rw [HT.out, List.append_assoc])
              clear hO
              generalize XS ++ LB.take k = XK at *
              go_wp2_with (at_builtin; refine wpList_append_byte _ _ w.heap.size _ XK wr.heap.size _ (t % 256) HYY.out _ HOA.out HXk.out HBA.out.size HNA.out rfl rfl rfl rfl ?_; intro v7 w7 hown7 hgr7; have HO7 := Lib.hid hown7; have HB7 := Lib.hid (HBA.out.grown hgr7 HBA.out.size (fun j e => OwnE.ge HOA.out j e)); clear hown7 hgr7)
              have hj1 := HJ.out
              go_roundw
              case rel =>
                refine ⟨k + 1, by omega, ?_, ?_, HB7⟩
                · congr 1; omega
                · rw [← HTT.out]
                  exact HO7
              case measure => simp [intOf]
            · have ek8 : k = 8 := by omega
              have ej : (7 : Int) - (k : Int) = -1 := by omega
              rw [ej]
              rw [ek8, ← HRZ.out] at hO
              clear ek8
              go_wp2
              go_ret
              exact ⟨_, rfl, hO.out, hB.out⟩
        · have e56 : ((vn : Int) % 64 != 56) = true := by
            have : ¬ (n + 1 + j) % 64 = 56 := fun h => hjz (hz.1 h)
            simp only [bne_iff_ne, ne_eq]
            omega
          clear hz hvn
          have HOA : Hid (OwnB (wr.alloc (.cells #[.int .u8 ((0 : Nat) : Int)] 5)) w.heap.size (.slice va vn vc) XS) := Lib.hid (OwnE.alloc hO.out _)
          have HNA := Lib.hid (heap_alloc_new wr (.cells #[.int .u8 ((0 : Nat) : Int)] 5))
          have HBA := Lib.hid (hB.out.alloc hsz (.cells #[.int .u8 ((0 : Nat) : Int)] 5))
          go_wp2_with (at_builtin; refine wpList_append_byte _ _ w.heap.size _ XS wr.heap.size _ 0 rfl _ HOA.out HXS.out HBA.out.size HNA.out rfl rfl rfl rfl ?_; intro v7 w7 hown7 hgr7; have HO7 := Lib.hid hown7; have HB7 := Lib.hid (HBA.out.grown hgr7 HBA.out.size (fun j e => OwnE.ge HOA.out j e)); clear hown7 hgr7)
          go_roundw
          case rel =>
            refine ⟨j + 1, by omega, ?_, HB7⟩
            rw [← HRS.out]
            exact HO7
          case measure =>
            obtain ⟨va8, vn8, vc8, hv8, hvn8⟩ := OwnB.form HO7.out
            subst hv8
            have h1 : vn8 = n + 1 + j + 1 := by rw [hvn8, List.length_append, HXE.out, List.length_append, List.length_cons, List.length_replicate, HL.out]; simp; omega
            have h2 := HVN.out
            simp [vlen]; omega
end Go.Proofs.YtggdcnjaofflbaaGreatDoor
