/- What the loops of RegisterMatchesReference keep: an own row of heads, an own row of proofs. The conditions: what the rows hold. -/
import Derived.Test.YtinfpbkbnhcifaaGreatDoorQ36
import Derived.Test.YtinfpbkbnhcifaaGreatDoorQ31
import Derived.Test.YtinfpbkbnhcifaaGreatDoorQ32
namespace Go.Proofs.YtinfpbkbnhcifaaGreatDoor
open Go.RowKit Go.BigFrame

/-- A head's root and a proof are short. -/
def HFit (h : HeadP) : Prop := h.root.size ≤ 1000
def PFit (p : List ByteArray) : Prop := p.length ≤ 61 ∧ ∀ s ∈ p, s.size ≤ 1000
theorem signZ_fit (key : ByteArray) (r : RegP) (n : Int) : HFit (signZ key r n) := by
  unfold signZ HFit
  cases e : signB key r n with
  | none => exact Nat.zero_le _
  | some h =>
    unfold signB at e
    split at e
    · injection e with e
      rw [← e]
      show (rootB _).size ≤ 1000
      rw [rootB_size]
      omega
    · cases e
theorem grownZ_fit (car m n : Int) (xs : List ByteArray) : PFit (grownZ ⟨car, xs⟩ m n) := by
  unfold grownZ
  cases e : grownB ⟨car, xs⟩ m n with
  | none => exact ⟨Nat.zero_le _, fun s hs => absurd hs List.not_mem_nil⟩
  | some zs =>
    have e' := e
    unfold grownB at e
    split at e
    · rename_i hc
      obtain ⟨k, rfl⟩ := Int.eq_ofNat_of_zero_le hc.2.1.1
      obtain ⟨j, rfl⟩ := Int.eq_ofNat_of_zero_le hc.2.2.1
      obtain ⟨zs', h1, h2, h3⟩ := grown_facts (m := j) (n := k) hc.1 (by have : (k : Int) ≤ (xs.length : Int) := hc.2.1.2; omega) (by have := hc.2.2.2; omega)
      rw [e'] at h1
      injection h1 with h1
      subst h1
      exact ⟨h2, h3⟩
    · cases e

/-- What the loops keep. -/
def MAt (W1 W : World) (v p : Value) (hs : List HeadP) (ps : List (List ByteArray × Value)) : Prop :=
  Below W1.heap.size W1 W ∧ OwnE W W1.heap.size 35 4 v (hdcells hs) ∧ OwnE W W1.heap.size 24 1 p (prcells ps) ∧ (∀ y ∈ ps, SS W y.2 y.1 ∧ RowTy W 9 y.2 ∧ PFit y.1) ∧ ∀ h ∈ hs, HFit h
theorem MAt.zero (W1 : World) : MAt W1 W1 (.slice none 0 0) (.slice none 0 0) [] [] := ⟨Below.refl _ _, OwnE.nil _ _ _ _, OwnE.nil _ _ _ _, fun _ hy => absurd hy List.not_mem_nil, fun _ hy => absurd hy List.not_mem_nil⟩
theorem MAt.far {W1 W W' : World} {v p : Value} {hs : List HeadP} {ps : List (List ByteArray × Value)} (h : MAt W1 W v p hs ps) (hb : Below W.heap.size W W') : MAt W1 W' v p hs ps := by
  obtain ⟨h1, h2, h3, h4, h5⟩ := h
  exact ⟨h1.trans (hb.mono h1.size), OwnE.far h2 hb (Nat.le_refl _), OwnE.far h3 hb (Nat.le_refl _), fun y hy => ⟨(h4 y hy).1.below hb, (h4 y hy).2.1.below hb, (h4 y hy).2.2⟩, h5⟩
/-- Strings are kept when an own row of another type grows. -/
theorem SS.ownT {W W' : World} {base size : Nat} {T : TypeId} {v sv : Value} {css : List (List Value)} {xs : List ByteArray} (h : SS W sv xs) (ht : RowTy W 9 sv) (ho : OwnE W base T size v css) (hT : T ≠ 9) (hg : W.grownBy W' v.ownBlock) : SS W' sv xs ∧ RowTy W' 9 sv := by
  have key : ∀ k, v.ownBlock = some k → ∀ cs fr, W.heap[k]? ≠ some (.cells cs 9 fr) := by
    intro k hk cs fr e
    rcases ho.2 with ⟨rfl, _⟩ | ⟨g, cap, cur, rfl, _, hgg, _⟩
    · cases hk
    · have : g = k := by
        have : some g = some k := hk
        injection this
      subst this
      rw [hgg] at e
      injection e with e
      injection e with _ e2 _
      exact hT e2
  exact SS.grownT h ht hg key
theorem MAt.head {W1 W W' : World} {v v' p : Value} {hs : List HeadP} {ps : List (List ByteArray × Value)} (h : MAt W1 W v p hs ps) (z : HeadP) (hz : HFit z) (ho : OwnE W' W1.heap.size 35 4 v' (hdcells (hs ++ [z]))) (hg : W.grownBy W' v.ownBlock) : MAt W1 W' v' p (hs ++ [z]) ps := by
  obtain ⟨h1, h2, h3, h4, h5⟩ := h
  refine ⟨h1.grown hg h1.size (fun j e => OwnE.ge h2 j e), ho, OwnE.other h2 h3 (by decide) hg, fun y hy => ?_, fun y hy => ?_⟩
  · obtain ⟨a, b⟩ := SS.ownT (h4 y hy).1 (h4 y hy).2.1 h2 (by decide) hg
    exact ⟨a, b, (h4 y hy).2.2⟩
  · rcases List.mem_append.1 hy with hy | hy
    · exact h5 y hy
    · rw [List.mem_singleton.1 hy]; exact hz
theorem MAt.proof {W1 W W' : World} {v p p' : Value} {hs : List HeadP} {ps : List (List ByteArray × Value)} (h : MAt W1 W v p hs ps) (z : List ByteArray × Value) (hz : SS W z.2 z.1) (hr : RowTy W 9 z.2) (hf : PFit z.1) (ho : OwnE W' W1.heap.size 24 1 p' (prcells (ps ++ [z]))) (hg : W.grownBy W' p.ownBlock) : MAt W1 W' v p' hs (ps ++ [z]) := by
  obtain ⟨h1, h2, h3, h4, h5⟩ := h
  refine ⟨h1.grown hg h1.size (fun j e => OwnE.ge h3 j e), OwnE.other h3 h2 (by decide) hg, ho, fun y hy => ?_, h5⟩
  rcases List.mem_append.1 hy with hy | hy
  · obtain ⟨a, b⟩ := SS.ownT (h4 y hy).1 (h4 y hy).2.1 h3 (by decide) hg
    exact ⟨a, b, (h4 y hy).2.2⟩
  · rw [List.mem_singleton.1 hy]
    obtain ⟨a, b⟩ := SS.ownT hz hr h3 (by decide) hg
    exact ⟨a, b, hf⟩
/-- A head of the row. -/
theorem MAt.hd {W1 W : World} {v p : Value} {hs : List HeadP} {ps : List (List ByteArray × Value)} (h : MAt W1 W v p hs ps) : SliceAt W v 4 (hdcells hs) := OwnE.slice h.2.1 (hdcells_four hs)
theorem MAt.pr {W1 W : World} {v p : Value} {hs : List HeadP} {ps : List (List ByteArray × Value)} (h : MAt W1 W v p hs ps) : SliceAt W p 1 (prcells ps) := OwnE.slice h.2.2.1 (prcells_one ps)

/-- What Append gives. -/
def appC (car : Int) (ws : List ByteArray) : Int := if validB ⟨car, ws⟩ = true then car else 0
def appS (car : Int) (ws : List ByteArray) : List ByteArray := if validB ⟨car, ws⟩ = true then ws else []
def appE (car : Int) (ws : List ByteArray) : Int := if validB ⟨car, ws⟩ = true then 0 else 180
def AppIs (w : World) (car : Int) (ws : List ByteArray) (er : Int) (e : Ending) (w' : World) : Prop := ∃ (a : Option Addr) (n c : Nat), e = .returned (.tuple #[.agg #[.int .i64 car, .slice a n c], .int .i64 er]) ∧ SS w' (.slice a n c) ws ∧ Below w.heap.size w w'
theorem app_is {w w' : World} {car : Int} {ws : List ByteArray} {e : Ending} (h : (if validB ⟨car, ws⟩ = true then ∃ v', e = .returned (.tuple #[.agg #[.int .i64 car, v'], .int .i64 0]) ∧ SS w' v' ws else e = .returned (.tuple #[.agg #[.int .i64 0, .slice none 0 0], .int .i64 180])) ∧ Below w.heap.size w w') : AppIs w (appC car ws) (appS car ws) (appE car ws) e w' := by
  obtain ⟨h1, h2⟩ := h
  unfold appC appS appE
  by_cases hv : validB ⟨car, ws⟩ = true
  · rw [if_pos hv] at h1
    simp only [if_pos hv]
    obtain ⟨v', rfl, h3⟩ := h1
    obtain ⟨a, c, rfl⟩ := h3.form2
    exact ⟨a, _, c, rfl, h3, h2⟩
  · rw [if_neg hv] at h1
    simp only [if_neg hv]
    exact ⟨none, 0, 0, h1, SliceAt.nil _ _, h2⟩
theorem append_all (car : Int) {w : World} {v : Value} {xs : List ByteArray} (ent : ByteArray) (hv : SS w v xs) (hl : xs.length ≤ 1000) :
    Calls Tryz.prog 42 #[.agg #[.int .i64 car, v], .string ent] w (AppIs w (appC car (xs ++ [ent])) (appS car (xs ++ [ent])) (appE car (xs ++ [ent]))) :=
  (append_any car ent hv hl).mono fun _ _ h => app_is h
theorem rappend_all (car : Int) {w : World} {v : Value} {xs : List ByteArray} (ent : ByteArray) (hv : SS w v xs) (hl : xs.length ≤ 1000) :
    Calls Tryz.prog 43 #[.agg #[.int .i64 car, v], .string ent] w (AppIs w (appC car (xs ++ [ent])) (appS car (xs ++ [ent])) (appE car (xs ++ [ent]))) :=
  (rappend_any car ent hv hl).mono fun _ _ h => app_is h

/-- Blocks of other types than the rows'. -/
def Boxes (W : World) (bs : List (Nat × Array Value × TypeId)) : Prop := ∀ (i : Nat) (x : Nat × Array Value × TypeId), bs[i]? = some x → W.heap[x.1]? = some (.cells x.2.1 x.2.2 (0, 0)) ∧ x.2.2 ≠ 35 ∧ x.2.2 ≠ 24
theorem Boxes.far {W W' : World} {bs : List (Nat × Array Value × TypeId)} (h : Boxes W bs) (hb : Below W.heap.size W W') : Boxes W' bs := fun i x hx => ⟨(hb.block _ (Array.getElem?_eq_some_iff.1 (h i x hx).1).1).trans (h i x hx).1, (h i x hx).2⟩
theorem Boxes.put {W : World} {bs : List (Nat × Array Value × TypeId)} (h : Boxes W bs) {b : Nat} {cs : Array Value} {T : TypeId} (hb : W.heap[b]? = some (.cells cs T (0, 0))) (h1 : T ≠ 35) (h2 : T ≠ 24) : Boxes W (bs ++ [(b, cs, T)]) := by
  intro i x hx
  rcases Nat.lt_or_ge i bs.length with hi | hi
  · rw [List.getElem?_append_left hi] at hx
    exact h i x hx
  · rw [List.getElem?_append_right hi] at hx
    rcases Nat.eq_zero_or_pos (i - bs.length) with h0 | h0
    · rw [h0] at hx
      simp at hx
      subst hx
      exact ⟨hb, h1, h2⟩
    · rw [List.getElem?_eq_none (by simp; omega)] at hx
      cases hx
theorem Boxes.cell {W : World} {bs : List (Nat × Array Value × TypeId)} (h : Boxes W bs) (i : Nat) {b : Nat} {cs : Array Value} {T : TypeId} (hi : bs[i]? = some (b, cs, T)) : W.heap[b]? = some (.cells cs T (0, 0)) := (h i _ hi).1
theorem Boxes.own {W W' : World} {bs : List (Nat × Array Value × TypeId)} {base size : Nat} {T : TypeId} {v : Value} {css : List (List Value)} (h : Boxes W bs) (ho : OwnE W base T size v css) (hT : T = 35 ∨ T = 24) (hg : W.grownBy W' v.ownBlock) : Boxes W' bs := fun i x hx => by
  obtain ⟨h1, h2, h3⟩ := h i x hx
  refine ⟨(hg.block _ (Array.getElem?_eq_some_iff.1 h1).1 (own_ne ho h1 (fun c e => ?_))).trans h1, h2, h3⟩
  injection e with _ e2 _
  rcases hT with rfl | rfl
  · exact h2 e2
  · exact h3 e2
/-- Both. -/
def MB (W1 W : World) (v p : Value) (hs : List HeadP) (ps : List (List ByteArray × Value)) (bs : List (Nat × Array Value × TypeId)) : Prop := MAt W1 W v p hs ps ∧ Boxes W bs
theorem MB.far {W1 W W' : World} {v p : Value} {hs : List HeadP} {ps : List (List ByteArray × Value)} {bs : List (Nat × Array Value × TypeId)} (h : MB W1 W v p hs ps bs) (hb : Below W.heap.size W W') : MB W1 W' v p hs ps bs := ⟨h.1.far hb, h.2.far hb⟩
theorem MB.put {W1 W : World} {v p : Value} {hs : List HeadP} {ps : List (List ByteArray × Value)} {bs : List (Nat × Array Value × TypeId)} (h : MB W1 W v p hs ps bs) {b : Nat} {cs : Array Value} {T : TypeId} (hb : W.heap[b]? = some (.cells cs T (0, 0))) (h1 : T ≠ 35) (h2 : T ≠ 24) : MB W1 W v p hs ps (bs ++ [(b, cs, T)]) := ⟨h.1, h.2.put hb h1 h2⟩
theorem MB.head {W1 W W' : World} {v v' p : Value} {hs : List HeadP} {ps : List (List ByteArray × Value)} {bs : List (Nat × Array Value × TypeId)} (h : MB W1 W v p hs ps bs) (z : HeadP) (hz : HFit z) (ho : OwnE W' W1.heap.size 35 4 v' (hdcells (hs ++ [z]))) (hg : W.grownBy W' v.ownBlock) : MB W1 W' v' p (hs ++ [z]) ps bs := ⟨h.1.head z hz ho hg, h.2.own h.1.2.1 (.inl rfl) hg⟩
theorem MB.proof {W1 W W' : World} {v p p' : Value} {hs : List HeadP} {ps : List (List ByteArray × Value)} {bs : List (Nat × Array Value × TypeId)} (h : MB W1 W v p hs ps bs) (z : List ByteArray × Value) (hz : SS W z.2 z.1) (hr : RowTy W 9 z.2) (hf : PFit z.1) (ho : OwnE W' W1.heap.size 24 1 p' (prcells (ps ++ [z]))) (hg : W.grownBy W' p.ownBlock) : MB W1 W' v p' hs (ps ++ [z]) bs := ⟨h.1.proof z hz hr hf ho hg, h.2.own h.1.2.2.1 (.inr rfl) hg⟩
/-- The pairs of sizes, in a row of three. -/
def pairsB (a b c d e f : Int) : Array Value := #[.int .i64 a, .int .i64 b, .int .i64 c, .int .i64 d, .int .i64 e, .int .i64 f]
theorem pairs_at (a b c d e f : Int) (tb : Nat) : ∀ t : Nat, t < 3 → ∃ s0 s1 : Int, ∀ W : World, W.heap[tb]? = some (.cells (pairsB a b c d e f) 68 (0, 0)) → W.cell? ⟨tb, t * 2, none⟩ = some (.int .i64 s0) ∧ W.cell? ⟨tb, t * 2 + 1, none⟩ = some (.int .i64 s1) := fun t ht => by
  rcases (by omega : t = 0 ∨ t = 1 ∨ t = 2) with rfl | rfl | rfl
  · exact ⟨a, b, fun W hW => by have h := fun i => cell_of_row W tb i _ _ _ hW; exact ⟨h 0, h 1⟩⟩
  · exact ⟨c, d, fun W hW => by have h := fun i => cell_of_row W tb i _ _ _ hW; exact ⟨h 2, h 3⟩⟩
  · exact ⟨e, f, fun W hW => by have h := fun i => cell_of_row W tb i _ _ _ hW; exact ⟨h 4, h 5⟩⟩
theorem MB.two {W1 W : World} {v p : Value} {hs : List HeadP} {ps : List (List ByteArray × Value)} (h : MAt W1 W v p hs ps) {zb tb : Nat} {cs ds : Array Value} (h1 : W.heap[zb]? = some (.cells cs 26 (0, 0))) (h2 : W.heap[tb]? = some (.cells ds 68 (0, 0))) : MB W1 W v p hs ps [(zb, cs, 26), (tb, ds, 68)] :=
  MB.put (MB.put (bs := []) ⟨h, fun i x hx => by simp at hx⟩ h1 (by decide) (by decide)) h2 (by decide) (by decide)
end Go.Proofs.YtinfpbkbnhcifaaGreatDoor

/- What the walk of RegisterMatchesReference calls, for both sides at once; heads and proofs read in a row. The conditions: what the slices read as. -/
namespace Go.Proofs.YtinfpbkbnhcifaaGreatDoor
open Go.RowKit Go.BigFrame

def SgnIs (w : World) (h1 h2 : Int) (h3 h4 : ByteArray) (er : Int) (e : Ending) (w' : World) : Prop := e = .returned (.tuple #[.agg #[.int .i64 h1, .int .i64 h2, .string h3, .string h4], .int .i64 er]) ∧ Below w.heap.size w w'
def GrwIs (w : World) (zs : List ByteArray) (er : Int) (e : Ending) (w' : World) : Prop := ∃ (a : Option Addr) (c : Nat), e = .returned (.tuple #[.slice a zs.length c, .int .i64 er]) ∧ SS w' (.slice a zs.length c) zs ∧ Below w.heap.size w w'
def RGrwIs (w : World) (zs : List ByteArray) (er : Int) (e : Ending) (w' : World) : Prop := ∃ (a : Option Addr) (c : Nat), e = .returned (.tuple #[.slice a zs.length c, .int .i64 er]) ∧ SS w' (.slice a zs.length c) zs ∧ RowTy w' 9 (.slice a zs.length c) ∧ Below w.heap.size w w'
/-- Sign, both. -/
theorem sgn_both {w0 w : World} {ls : List Dat} (k : Know w0 w ls) (key : ByteArray) (car n : Int) {v : Value} {xs : List ByteArray} (hv : ∀ W, Below w.heap.size w W → SS W v xs) :
    ∃ h1 h2 h3 h4 er, HFit ⟨h1, h2, h3, h4⟩ ∧ (∀ W, Below w.heap.size w W → Calls Tryz.prog 33 #[.string key, .agg #[.int .i64 car, v], .int .i64 n] W (SgnIs W h1 h2 h3 h4 er)) ∧ (∀ W, Below w.heap.size w W → Calls Tryz.prog 47 #[.string key, .agg #[.int .i64 car, v], .int .i64 n] W (SgnIs W h1 h2 h3 h4 er)) := by
  refine ⟨(signZ key ⟨car, xs⟩ n).car, (signZ key ⟨car, xs⟩ n).siz, (signZ key ⟨car, xs⟩ n).root, (signZ key ⟨car, xs⟩ n).sl, signE key ⟨car, xs⟩ n, signZ_fit _ _ _, fun W hW => ?_, fun W hW => ?_⟩
  · exact sign_all key car n (hv W hW) (k.step hW).env (k.step hW).tab
  · exact rsign_any key car n (hv W hW)
/-- Grown, both. -/
theorem grw_both {w0 w : World} {ls : List Dat} (k : Know w0 w ls) (car m n : Int) {v : Value} {xs : List ByteArray} (hv : ∀ W, Below w.heap.size w W → SS W v xs) :
    ∃ zs er, PFit zs ∧ (∀ W, Below w.heap.size w W → Calls Tryz.prog 34 #[.agg #[.int .i64 car, v], .int .i64 m, .int .i64 n] W (GrwIs W zs er)) ∧ (∀ W, Below w.heap.size w W → Calls Tryz.prog 48 #[.agg #[.int .i64 car, v], .int .i64 m, .int .i64 n] W (RGrwIs W zs er)) := by
  refine ⟨grownZ ⟨car, xs⟩ m n, grownE ⟨car, xs⟩ m n, grownZ_fit _ _ _ _, fun W hW => ?_, fun W hW => ?_⟩
  · refine (grown_all car m n (hv W hW) (k.step hW).env (k.step hW).tab).mono ?_
    rintro e w' ⟨v', rfl, h2, h3⟩
    obtain ⟨a, c, rfl⟩ := h2.form2
    exact ⟨a, c, rfl, h2, h3⟩
  · refine (rgrown_any car m n (hv W hW)).mono ?_
    rintro e w' ⟨v', rfl, h2, h3, h4⟩
    obtain ⟨a, c, rfl⟩ := h2.form2
    exact ⟨a, c, rfl, h2, h3, h4⟩
theorem same_self {w : World} {v v' : Value} {xs : List ByteArray} (hx : SS w v xs) (hy : SS w v' xs) :
    Calls Tryz.prog 39 #[v, v'] w fun e w' => e = .returned (.bool true) ∧ Below w.heap.size w w' := by
  have h := same2_any hx hy
  rwa [decide_eq_true rfl] at h
/-- Genuine, both. -/
theorem gen_both {w0 w : World} {ls : List Dat} (k : Know w0 w ls) (key : ByteArray) (hk : key.size ≤ 1000) (h1 h2 : Int) (h3 h4 : ByteArray) (hf : HFit ⟨h1, h2, h3, h4⟩) :
    ∃ b, (∀ W, Below w.heap.size w W → Calls Tryz.prog 40 #[.string key, .agg #[.int .i64 h1, .int .i64 h2, .string h3, .string h4]] W fun e w' => e = .returned (.bool b) ∧ Below W.heap.size W w') ∧ (∀ W, Below w.heap.size w W → Calls Tryz.prog 49 #[.string key, .agg #[.int .i64 h1, .int .i64 h2, .string h3, .string h4]] W fun e w' => e = .returned (.bool b) ∧ Below W.heap.size W w') :=
  ⟨genuineB key ⟨h1, h2, h3, h4⟩, fun W hW => genuine_w k key ⟨h1, h2, h3, h4⟩ hk hf _ rfl W hW, fun W _ => rgenuine_any key h1 h2 h3 h4 W hk⟩
/-- Extends, both. -/
theorem ext_both {w0 w : World} {ls : List Dat} (k : Know w0 w ls) (key : ByteArray) (hk : key.size ≤ 1000) (c1 c2 : Int) (c3 c4 : ByteArray) (hf : HFit ⟨c1, c2, c3, c4⟩) (h1 h2 : Int) (h3 h4 : ByteArray) (hg : HFit ⟨h1, h2, h3, h4⟩) {v : Value} {pr : List ByteArray} (hv : ∀ W, Below w.heap.size w W → SS W v pr) (hl : pr.length ≤ 1000) :
    ∃ b, (∀ W, Below w.heap.size w W → Calls Tryz.prog 35 #[.string key, .agg #[.int .i64 c1, .int .i64 c2, .string c3, .string c4], .agg #[.int .i64 h1, .int .i64 h2, .string h3, .string h4], v] W fun e w' => e = .returned (.bool b) ∧ Below W.heap.size W w') ∧ (∀ W, Below w.heap.size w W → Calls Tryz.prog 50 #[.string key, .agg #[.int .i64 c1, .int .i64 c2, .string c3, .string c4], .agg #[.int .i64 h1, .int .i64 h2, .string h3, .string h4], v] W fun e w' => e = .returned (.bool b) ∧ Below W.heap.size W w') := by
  refine ⟨extendsB key ⟨c1, c2, c3, c4⟩ ⟨h1, h2, h3, h4⟩ pr, fun W hW => ?_, fun W hW => rextends_any key c1 c2 c3 c4 h1 h2 h3 h4 hk (hv W hW) hl⟩
  have KX := ((k.step hW).put (d := .S v pr) (hv W hW)).here
  exact (extends_at KX ls.length (by simp) key ⟨c1, c2, c3, c4⟩ ⟨h1, h2, h3, h4⟩ hk hf hg (by omega) _ rfl).mono fun _ _ ⟨a, b⟩ => ⟨a, b.below⟩
theorem Boxes.pre {W : World} {xs ys : List (Nat × Array Value × TypeId)} (h : Boxes W (xs ++ ys)) : Boxes W xs := fun i x hx => h i x (by rw [List.getElem?_append_left (List.getElem?_eq_some_iff.1 hx).1]; exact hx)
theorem MB.pre {W1 W : World} {v p : Value} {hs : List HeadP} {ps : List (List ByteArray × Value)} {xs : List (Nat × Array Value × TypeId)} (ys : List (Nat × Array Value × TypeId)) (h : MB W1 W v p hs ps (xs ++ ys)) : MB W1 W v p hs ps xs := ⟨h.1, h.2.pre⟩
/-- The two keys, in a row. -/
theorem keys_at (S key : ByteArray) (hS : S.size ≤ 33) (hk : key.size ≤ 33) (kb : Nat) : ∀ j : Nat, j < 2 → ∃ kk : ByteArray, kk.size ≤ 33 ∧ ∀ W : World, W.heap[kb]? = some (.cells #[.string S, .string key] 9 (0, 0)) → W.cell? ⟨kb, j, none⟩ = some (.string kk) := fun j hj => by
  rcases (by omega : j = 0 ∨ j = 1) with rfl | rfl
  · exact ⟨S, hS, fun W hW => cell_of_row W kb 0 _ _ _ hW⟩
  · exact ⟨key, hk, fun W hW => cell_of_row W kb 1 _ _ _ hW⟩
/-- The heads of the row. -/
theorem MAt.heads {W1 W : World} {a : Option Addr} {n c : Nat} {p : Value} {hs : List HeadP} {ps : List (List ByteArray × Value)} (h : MAt W1 W (.slice a n c) p hs ps) (hl : hs.length = n) (h0 : 0 < n) :
    ∃ b off, a = some ⟨b, off, none⟩ ∧ ∀ k : Nat, k < n → ∃ c1 c2 c3 c4, HFit ⟨c1, c2, c3, c4⟩ ∧ ∀ W', Below W.heap.size W W' → W'.cell? ⟨b, off + k * 4, none⟩ = some (.int .i64 c1) ∧ W'.cell? ⟨b, off + k * 4 + 1, none⟩ = some (.int .i64 c2) ∧ W'.cell? ⟨b, off + k * 4 + 2, none⟩ = some (.string c3) ∧ W'.cell? ⟨b, off + k * 4 + 3, none⟩ = some (.string c4) := by
  obtain ⟨a', c', e1, _, _, h3⟩ := h.hd
  injection e1 with e1 e2 e3
  subst e1
  rcases h3 with h3 | ⟨b, off, ha, hb, hc⟩
  · exfalso
    have h4 : hs.length = 0 := by rw [← hdcells_len, h3]; rfl
    omega
  · refine ⟨b, off, ha, fun k hk => ?_⟩
    obtain ⟨y, hy⟩ : ∃ y, hs[k]? = some y := ⟨_, List.getElem?_eq_getElem (by omega)⟩
    have hkc : (hdcells hs)[k]? = some [.int .i64 y.car, .int .i64 y.siz, .string y.root, .string y.sl] := by unfold hdcells; rw [List.getElem?_map, hy]; rfl
    refine ⟨y.car, y.siz, y.root, y.sl, h.2.2.2.2 y (List.mem_of_getElem? hy), fun W' hW => ?_⟩
    exact ⟨cell_keepB hW hb (hc k _ hkc 0 _ rfl), cell_keepB hW hb (hc k _ hkc 1 _ rfl), cell_keepB hW hb (hc k _ hkc 2 _ rfl), cell_keepB hW hb (hc k _ hkc 3 _ rfl)⟩
theorem MAt.proofs {W1 W : World} {a : Option Addr} {n c : Nat} {p : Value} {hs : List HeadP} {ps : List (List ByteArray × Value)} (h : MAt W1 W p (.slice a n c) hs ps) (hl : ps.length = n) (h0 : 0 < n) :
    ∃ b off, a = some ⟨b, off, none⟩ ∧ ∀ k : Nat, k < n → ∃ (zs : List ByteArray) (pa : Option Addr) (pn pc : Nat), PFit zs ∧ pn = zs.length ∧ (∀ W', Below W.heap.size W W' → W'.cell? ⟨b, off + k, none⟩ = some (.slice pa pn pc)) ∧ ∀ W', Below W.heap.size W W' → SS W' (.slice pa pn pc) zs := by
  obtain ⟨a', c', e1, _, _, h3⟩ := h.pr
  injection e1 with e1 e2 e3
  subst e1
  rcases h3 with h3 | ⟨b, off, ha, hb, hc⟩
  · exfalso
    have h4 : ps.length = 0 := by rw [← prcells_len, h3]; rfl
    omega
  · refine ⟨b, off, ha, fun k hk => ?_⟩
    obtain ⟨y, hy⟩ : ∃ y, ps[k]? = some y := ⟨_, List.getElem?_eq_getElem (by omega)⟩
    have hkc : (prcells ps)[k]? = some [y.2] := by unfold prcells; rw [List.getElem?_map, hy]; rfl
    obtain ⟨hss, _, hf⟩ := h.2.2.2.1 y (List.mem_of_getElem? hy)
    obtain ⟨ys, v⟩ := y
    simp only at hss hf hkc
    obtain ⟨pa, pc, rfl⟩ := hss.form2
    refine ⟨ys, pa, ys.length, pc, hf, rfl, fun W' hW => ?_, fun W' hW => hss.below hW⟩
    have h1 := hc k _ hkc 0 _ rfl
    rw [Nat.mul_one, Nat.add_zero] at h1
    exact cell_keepB hW hb h1
/-- A head with something changed. -/
theorem bent_head (h1 h2 : Int) (h3 h4 : ByteArray) (hf : HFit ⟨h1, h2, h3, h4⟩) (k4 n : Int) (hk : 0 ≤ k4 ∧ k4 < 4) (hn : I64 n) :
    ∃ z1 z2 z3 z4 C, HFit ⟨z1, z2, z3, z4⟩ ∧ ∀ W, Calls Tryz.prog 21 #[.agg #[.int .i64 h1, .int .i64 h2, .string h3, .string h4, .slice none 0 0], .int .i64 k4, .int .i64 n, .int .i64 0] W fun e w' => ∃ (a : Option Addr) (m c : Nat), e = .returned (.tuple #[.agg #[.int .i64 z1, .int .i64 z2, .string z3, .string z4, .slice a m c], .bool C]) ∧ Below W.heap.size W w' := by
  obtain ⟨⟨⟨z1, z2, z3, z4⟩, zi⟩, hz⟩ : ∃ z : PartP, z = bentP ⟨⟨h1, h2, h3, h4⟩, []⟩ k4 n 0 := ⟨_, rfl⟩
  refine ⟨z1, z2, z3, z4, decide (bentP ⟨⟨h1, h2, h3, h4⟩, []⟩ k4 n 0 ≠ ⟨⟨h1, h2, h3, h4⟩, []⟩), ?_, fun W => ?_⟩
  · have h := bentK_root ⟨⟨h1, h2, h3, h4⟩, []⟩ (bendK k4 0) n 0 hf
    show z3.size ≤ 1000
    rw [show z3 = (bentK ⟨⟨h1, h2, h3, h4⟩, []⟩ (bendK k4 0) n 0).head.root from congrArg (fun p : PartP => p.head.root) hz]
    exact h
  · refine (bent_any ⟨⟨h1, h2, h3, h4⟩, []⟩ k4 n 0 (w := W) (iv := .slice none 0 0) ⟨[], rfl, ISt.nil W⟩ (by constructor <;> omega) hn (by constructor <;> omega) (by simp) (by show h3.size ≤ 1000; exact hf) (fun x hx => absurd hx List.not_mem_nil)).mono ?_
    rintro e w' ⟨iv', g1, g2, g3⟩
    rw [← hz] at g1 g2
    obtain ⟨a, m, c, rfl⟩ := g2.form
    rw [hz] at g1
    refine ⟨a, m, c, ?_, g3⟩
    rw [g1, ← hz]
    rfl
/-- Two heads, in a row. -/
theorem heads_at (h1 h2 : Int) (h3 h4 : ByteArray) (z1 z2 : Int) (z3 z4 : ByteArray) (hf : HFit ⟨h1, h2, h3, h4⟩) (hg : HFit ⟨z1, z2, z3, z4⟩) (kb : Nat) : ∀ j : Nat, j < 2 → ∃ g1 g2 g3 g4, HFit ⟨g1, g2, g3, g4⟩ ∧ ∀ W : World, W.heap[kb]? = some (.cells #[.int .i64 h1, .int .i64 h2, .string h3, .string h4, .int .i64 z1, .int .i64 z2, .string z3, .string z4] 35 (0, 0)) → W.cell? ⟨kb, j * 4, none⟩ = some (.int .i64 g1) ∧ W.cell? ⟨kb, j * 4 + 1, none⟩ = some (.int .i64 g2) ∧ W.cell? ⟨kb, j * 4 + 2, none⟩ = some (.string g3) ∧ W.cell? ⟨kb, j * 4 + 3, none⟩ = some (.string g4) := fun j hj => by
  rcases (by omega : j = 0 ∨ j = 1) with rfl | rfl
  · exact ⟨h1, h2, h3, h4, hf, fun W hW => by have h := fun i => cell_of_row W kb i _ _ _ hW; exact ⟨h 0, h 1, h 2, h 3⟩⟩
  · exact ⟨z1, z2, z3, z4, hg, fun W hW => by have h := fun i => cell_of_row W kb i _ _ _ hW; exact ⟨h 4, h 5, h 6, h 7⟩⟩
/-- Two proofs, in a row. -/
theorem proofs_at (a1 : Option Addr) (n1 c1 : Nat) (a2 : Option Addr) (n2 c2 : Nat) {B : World} {xs ys : List ByteArray} (hx : ∀ W, Below B.heap.size B W → SS W (.slice a1 n1 c1) xs) (hy : ∀ W, Below B.heap.size B W → SS W (.slice a2 n2 c2) ys) (hxl : xs.length ≤ 1000) (hyl : ys.length ≤ 1000) (kb : Nat) : ∀ j : Nat, j < 2 → ∃ (a : Option Addr) (n c : Nat) (zs : List ByteArray), zs.length ≤ 1000 ∧ (∀ W, Below B.heap.size B W → SS W (.slice a n c) zs) ∧ ∀ W : World, W.heap[kb]? = some (.cells #[.slice a1 n1 c1, .slice a2 n2 c2] 24 (0, 0)) → W.cell? ⟨kb, j, none⟩ = some (.slice a n c) := fun j hj => by
  rcases (by omega : j = 0 ∨ j = 1) with rfl | rfl
  · exact ⟨a1, n1, c1, xs, hxl, hx, fun W hW => cell_of_row W kb 0 _ _ _ hW⟩
  · exact ⟨a2, n2, c2, ys, hyl, hy, fun W hW => cell_of_row W kb 1 _ _ _ hW⟩
end Go.Proofs.YtinfpbkbnhcifaaGreatDoor
