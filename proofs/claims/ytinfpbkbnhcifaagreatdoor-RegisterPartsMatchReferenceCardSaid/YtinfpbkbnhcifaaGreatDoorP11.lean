/- What the loops of RegisterMatchesReference keep: an own row of heads, an own row of proofs. The conditions: what the rows hold. -/
import Derived.Deep.DeepCutAuto
import Derived.Test.YtinfpbkbnhcifaaGreatDoorQ26
import Derived.Test.YtinfpbkbnhcifaaGreatDoorQ21
import Derived.Test.YtinfpbkbnhcifaaGreatDoorQ22
import Derived.Test.YtinfpbkbnhcifaaGreatDoorP07
import Derived.Test.YtinfpbkbnhcifaaGreatDoorP03
import Derived.Test.YtinfpbkbnhcifaaGreatDoorP04
import Derived.Test.YtinfpbkbnhcifaaGreatDoorP10
namespace Go.Proofs.YtinfpbkbnhcifaaGreatDoor
open Go.RowKit Go.BigFrame

def HFit (h : HeadP) : Prop := h.root.size ≤ 1000
def PFit (p : List ByteArray) : Prop := p.length ≤ 61 ∧ ∀ s ∈ p, s.size ≤ 1000
def MAt (W1 W : World) (v p : Value) (hs : List HeadP) (ps : List (List ByteArray × Value)) : Prop :=
  Below W1.heap.size W1 W ∧ OwnE W W1.heap.size 35 4 v (hdcells hs) ∧ OwnE W W1.heap.size 24 1 p (prcells ps) ∧ (∀ y ∈ ps, SS W y.2 y.1 ∧ RowTy W 9 y.2 ∧ PFit y.1) ∧ ∀ h ∈ hs, HFit h
theorem MAt.zero (W1 : World) : MAt W1 W1 (.slice none 0 0) (.slice none 0 0) [] [] := ⟨Below.refl _ _, OwnE.nil _ _ _ _, OwnE.nil _ _ _ _, fun _ hy => absurd hy List.not_mem_nil, fun _ hy => absurd hy List.not_mem_nil⟩
theorem MAt.far {W1 W W' : World} {v p : Value} {hs : List HeadP} {ps : List (List ByteArray × Value)} (h : MAt W1 W v p hs ps) (hb : Below W.heap.size W W') : MAt W1 W' v p hs ps := by
  obtain ⟨h1, h2, h3, h4, h5⟩ := h
  exact ⟨h1.trans (hb.mono h1.size), OwnE.far h2 hb (Nat.le_refl _), OwnE.far h3 hb (Nat.le_refl _), fun y hy => ⟨(h4 y hy).1.below hb, (h4 y hy).2.1.below hb, (h4 y hy).2.2⟩, h5⟩
theorem SS.ownT {W W' : World} {base size : Nat} {T : TypeId} {v sv : Value} {css : List (List Value)} {xs : List ByteArray} (h : SS W sv xs) (ht : RowTy W 9 sv) (ho : OwnE W base T size v css) (hT : T ≠ 9) (hg : W.grownBy W' v.ownBlock) : SS W' sv xs ∧ RowTy W' 9 sv := by
  have key : ∀ k, v.ownBlock = some k → ∀ cs fr, W.heap[k]? ≠ some (.cells cs 9 fr) := by
    intro k hk cs fr e
    rcases ho.2 with ⟨rfl, _⟩ | ⟨g, cap, cur, rfl, _, hgg, _⟩
    · cases hk
    · have : g = k := by
        have : some g = some k := hk
        injection this
      subst this
      rw [hgg] at e
      injection e with e
      injection e with _ e2 _
      exact hT e2
  exact SS.grownT h ht hg key
theorem MAt.head {W1 W W' : World} {v v' p : Value} {hs : List HeadP} {ps : List (List ByteArray × Value)} (h : MAt W1 W v p hs ps) (z : HeadP) (hz : HFit z) (ho : OwnE W' W1.heap.size 35 4 v' (hdcells (hs ++ [z]))) (hg : W.grownBy W' v.ownBlock) : MAt W1 W' v' p (hs ++ [z]) ps := by
  obtain ⟨h1, h2, h3, h4, h5⟩ := h
  refine ⟨h1.grown hg h1.size (fun j e => OwnE.ge h2 j e), ho, OwnE.other h2 h3 (by decide) hg, fun y hy => ?_, fun y hy => ?_⟩
  · obtain ⟨a, b⟩ := SS.ownT (h4 y hy).1 (h4 y hy).2.1 h2 (by decide) hg
    exact ⟨a, b, (h4 y hy).2.2⟩
  · rcases List.mem_append.1 hy with hy | hy
    · exact h5 y hy
    · rw [List.mem_singleton.1 hy]; exact hz
theorem MAt.hd {W1 W : World} {v p : Value} {hs : List HeadP} {ps : List (List ByteArray × Value)} (h : MAt W1 W v p hs ps) : SliceAt W v 4 (hdcells hs) := OwnE.slice h.2.1 (hdcells_four hs)
theorem MAt.pr {W1 W : World} {v p : Value} {hs : List HeadP} {ps : List (List ByteArray × Value)} (h : MAt W1 W v p hs ps) : SliceAt W p 1 (prcells ps) := OwnE.slice h.2.2.1 (prcells_one ps)

def Boxes (W : World) (bs : List (Nat × Array Value × TypeId)) : Prop := ∀ (i : Nat) (x : Nat × Array Value × TypeId), bs[i]? = some x → W.heap[x.1]? = some (.cells x.2.1 x.2.2 (0, 0)) ∧ x.2.2 ≠ 35 ∧ x.2.2 ≠ 24
theorem Boxes.far {W W' : World} {bs : List (Nat × Array Value × TypeId)} (h : Boxes W bs) (hb : Below W.heap.size W W') : Boxes W' bs := fun i x hx => ⟨(hb.block _ (Array.getElem?_eq_some_iff.1 (h i x hx).1).1).trans (h i x hx).1, (h i x hx).2⟩
theorem Boxes.put {W : World} {bs : List (Nat × Array Value × TypeId)} (h : Boxes W bs) {b : Nat} {cs : Array Value} {T : TypeId} (hb : W.heap[b]? = some (.cells cs T (0, 0))) (h1 : T ≠ 35) (h2 : T ≠ 24) : Boxes W (bs ++ [(b, cs, T)]) := by
  intro i x hx
  rcases Nat.lt_or_ge i bs.length with hi | hi
  · rw [List.getElem?_append_left hi] at hx
    exact h i x hx
  · rw [List.getElem?_append_right hi] at hx
    rcases Nat.eq_zero_or_pos (i - bs.length) with h0 | h0
    · rw [h0] at hx
      simp at hx
      subst hx
      exact ⟨hb, h1, h2⟩
    · rw [List.getElem?_eq_none (by simp; omega)] at hx
      cases hx
theorem Boxes.cell {W : World} {bs : List (Nat × Array Value × TypeId)} (h : Boxes W bs) (i : Nat) {b : Nat} {cs : Array Value} {T : TypeId} (hi : bs[i]? = some (b, cs, T)) : W.heap[b]? = some (.cells cs T (0, 0)) := (h i _ hi).1
theorem Boxes.own {W W' : World} {bs : List (Nat × Array Value × TypeId)} {base size : Nat} {T : TypeId} {v : Value} {css : List (List Value)} (h : Boxes W bs) (ho : OwnE W base T size v css) (hT : T = 35 ∨ T = 24) (hg : W.grownBy W' v.ownBlock) : Boxes W' bs := fun i x hx => by
  obtain ⟨h1, h2, h3⟩ := h i x hx
  refine ⟨(hg.block _ (Array.getElem?_eq_some_iff.1 h1).1 (own_ne ho h1 (fun c e => ?_))).trans h1, h2, h3⟩
  injection e with _ e2 _
  rcases hT with rfl | rfl
  · exact h2 e2
  · exact h3 e2
def MB (W1 W : World) (v p : Value) (hs : List HeadP) (ps : List (List ByteArray × Value)) (bs : List (Nat × Array Value × TypeId)) : Prop := MAt W1 W v p hs ps ∧ Boxes W bs
theorem MB.far {W1 W W' : World} {v p : Value} {hs : List HeadP} {ps : List (List ByteArray × Value)} {bs : List (Nat × Array Value × TypeId)} (h : MB W1 W v p hs ps bs) (hb : Below W.heap.size W W') : MB W1 W' v p hs ps bs := ⟨h.1.far hb, h.2.far hb⟩
theorem MB.put {W1 W : World} {v p : Value} {hs : List HeadP} {ps : List (List ByteArray × Value)} {bs : List (Nat × Array Value × TypeId)} (h : MB W1 W v p hs ps bs) {b : Nat} {cs : Array Value} {T : TypeId} (hb : W.heap[b]? = some (.cells cs T (0, 0))) (h1 : T ≠ 35) (h2 : T ≠ 24) : MB W1 W v p hs ps (bs ++ [(b, cs, T)]) := ⟨h.1, h.2.put hb h1 h2⟩
theorem MB.head {W1 W W' : World} {v v' p : Value} {hs : List HeadP} {ps : List (List ByteArray × Value)} {bs : List (Nat × Array Value × TypeId)} (h : MB W1 W v p hs ps bs) (z : HeadP) (hz : HFit z) (ho : OwnE W' W1.heap.size 35 4 v' (hdcells (hs ++ [z]))) (hg : W.grownBy W' v.ownBlock) : MB W1 W' v' p (hs ++ [z]) ps bs := ⟨h.1.head z hz ho hg, h.2.own h.1.2.1 (.inl rfl) hg⟩
theorem MB.two {W1 W : World} {v p : Value} {hs : List HeadP} {ps : List (List ByteArray × Value)} (h : MAt W1 W v p hs ps) {zb tb : Nat} {cs ds : Array Value} (h1 : W.heap[zb]? = some (.cells cs 26 (0, 0))) (h2 : W.heap[tb]? = some (.cells ds 68 (0, 0))) : MB W1 W v p hs ps [(zb, cs, 26), (tb, ds, 68)] :=
  MB.put (MB.put (bs := []) ⟨h, fun i x hx => by simp at hx⟩ h1 (by decide) (by decide)) h2 (by decide) (by decide)
end Go.Proofs.YtinfpbkbnhcifaaGreatDoor

/- What the walk of RegisterMatchesReference calls, for both sides at once; heads and proofs read in a row. The conditions: what the slices read as. -/
namespace Go.Proofs.YtinfpbkbnhcifaaGreatDoor
open Go.RowKit Go.BigFrame

theorem Boxes.pre {W : World} {xs ys : List (Nat × Array Value × TypeId)} (h : Boxes W (xs ++ ys)) : Boxes W xs := fun i x hx => h i x (by rw [List.getElem?_append_left (List.getElem?_eq_some_iff.1 hx).1]; exact hx)
theorem MB.pre {W1 W : World} {v p : Value} {hs : List HeadP} {ps : List (List ByteArray × Value)} {xs : List (Nat × Array Value × TypeId)} (ys : List (Nat × Array Value × TypeId)) (h : MB W1 W v p hs ps (xs ++ ys)) : MB W1 W v p hs ps xs := ⟨h.1, h.2.pre⟩
theorem keys_at (S key : ByteArray) (hS : S.size ≤ 33) (hk : key.size ≤ 33) (kb : Nat) : ∀ j : Nat, j < 2 → ∃ kk : ByteArray, kk.size ≤ 33 ∧ ∀ W : World, W.heap[kb]? = some (.cells #[.string S, .string key] 9 (0, 0)) → W.cell? ⟨kb, j, none⟩ = some (.string kk) := fun j hj => by
  rcases (by omega : j = 0 ∨ j = 1) with rfl | rfl
  · exact ⟨S, hS, fun W hW => cell_of_row W kb 0 _ _ _ hW⟩
  · exact ⟨key, hk, fun W hW => cell_of_row W kb 1 _ _ _ hW⟩
end Go.Proofs.YtinfpbkbnhcifaaGreatDoor

/- What the walk of RegisterPartsMatchReference leans on: rows of parts and of lists of parts that grow; both sides at once. The conditions: what the slices read as. -/
namespace Go.Proofs.YtinfpbkbnhcifaaGreatDoor
open Go.RowKit Go.BigFrame

/-! ### Rows that grow, of whatever element -/
theorem flat_len {size : Nat} : ∀ (css : List (List Value)), (∀ c ∈ css, c.length = size) → css.flatten.length = css.length * size := by
  intro css
  induction css with
  | nil => intro _; simp
  | cons d css ih =>
    intro h
    rw [List.flatten_cons, List.length_append, ih (fun c hc => h c (List.mem_cons_of_mem _ hc)), h d (List.mem_cons_self ..), List.length_cons, Nat.succ_mul]
    omega
section
variable {ops : Array Oper} {rest : List Oper} {o : Oper} {a : Act} {w : World} {Q : Exit → Act → World → Prop} {K : Act → World → Prop} {E : Prop}
theorem step_append_rows (st e : TypeId) (size bytes : Nat) (z : Value) (ht : Tryz.prog.underlying st = some (.slice e)) (hinfo : (Tryz.prog.info? e).map (fun i => (i.zero, i.size, i.bytes)) = some (some z, size, bytes)) (hzs : z.cells.size = size) (hsz : 0 < size) (hby : bytes ≤ 1000)
    (hgd : o.guard = none) (s x : Operand) (base : Nat) (v : Value) (css dss : List (List Value)) (vy : Value) (hown : OwnE w base e size v css) (hy : SliceAt w vy size dss) (hd : ∀ c ∈ dss, c.length = size ∧ ∀ u ∈ c, u.oneCell' = true) (hlen : css.length + dss.length ≤ 1000000) (hbase : base ≤ w.heap.size)
    (ho : o.op = .call { callee := .builtin .append, args := #[s, x], argTypes := #[st, st] }) (hs : a.eval s = v) (hx : a.eval x = vy)
    (h : ∀ v' w', OwnE w' base e size v' (css ++ dss) → w.grownBy w' v.ownBlock → K (a.put o.dst v') w') : if Region.wanted o (yielded ops a.tmps) = true then Oper.wp Tryz.prog o a w K Q else E := by
  have hw : Region.wanted o (yielded ops a.tmps) = true := by simp [Region.wanted, hgd]
  rw [if_pos hw]
  obtain ⟨i, i1, i2, i3, i4⟩ := info_parts hinfo
  obtain ⟨ad, cap, rfl, _, _, h3⟩ := hy
  rcases Nat.eq_zero_or_pos dss.length with h0 | h0
  · have h1 : dss = [] := List.eq_nil_of_length_eq_zero h0
    subst h1
    exact wp_append_zero s x st e i ht i1 base size _ v _ hown ad cap ho hs hx (h v w (by rw [List.append_nil]; exact hown) (grown_refl _ _))
  · rcases h3 with h3 | ⟨b, off, rfl, hb, hc⟩
    · exfalso
      rw [h3] at h0
      exact Nat.lt_irrefl 0 h0
    refine wp_append_own w s x st ho base e i _ size bytes ht i1 i2 i3 i4 hzs hsz v _ _ hs hown ⟨b, off, none⟩ dss.length cap dss.flatten hx ?_ ?_ ?_ (by unfold maxLen; omega) (by have h1 := Nat.mul_le_mul hlen hby; omega) hbase ?_
    · exact flat_len dss (fun c hc => (hd c hc).1)
    · intro j u hj
      obtain ⟨i, r, c, e1, e2, e3⟩ := flat_at _ (fun c hc => (hd c hc).1) j u hj
      have := hc i c e1 r u e2
      rw [Addr.add_mid, e3, ← Nat.add_assoc]
      exact this
    · intro u hu
      obtain ⟨c, hc1, hu⟩ := List.mem_flatten.1 hu
      exact (hd c hc1).2 u hu
    · intro v' w' h1 h2 _
      refine h v' w' ?_ h2
      unfold OwnE
      rw [List.length_append, List.flatten_append]
      exact h1
theorem IT.oneCell {w : World} {v : Value} {its : List ItemP} (h : IT w v its) : v.oneCell' = true := by
  obtain ⟨a, c, rfl⟩ := h.form2
  rfl
theorem step_append_parts (hgd : o.guard = none) (s x : Operand) (base : Nat) (v : Value) (xs ys : List (PartP × Value)) (vy : Value) (hown : OwnE w base 38 5 v (ptcells xs)) (hy : PS w vy ys) (hlen : xs.length + ys.length ≤ 1000000) (hbase : base ≤ w.heap.size)
    (ho : o.op = .call { callee := .builtin .append, args := #[s, x], argTypes := #[30, 30] }) (hs : a.eval s = v) (hx : a.eval x = vy)
    (h : ∀ v' w', OwnE w' base 38 5 v' (ptcells (xs ++ ys)) → w.grownBy w' v.ownBlock → K (a.put o.dst v') w') : if Region.wanted o (yielded ops a.tmps) = true then Oper.wp Tryz.prog o a w K Q else E :=
  step_append_rows 30 38 5 72 _ (by kernel_rfl) infoPart3 rfl (by decide) (by decide) hgd s x base v (ptcells xs) (ptcells ys) vy hown hy.1 (fun c hc => ⟨ptcells_five ys c hc, fun u hu => by
    unfold ptcells at hc
    obtain ⟨z, hz, rfl⟩ := List.mem_map.1 hc
    simp at hu
    rcases hu with rfl | rfl | rfl | rfl | rfl <;> first | rfl | exact IT.oneCell (hy.2 z hz)⟩) (by rw [ptcells_len, ptcells_len]; exact hlen) hbase ho hs hx (fun v' w' h1 h2 => h v' w' (by unfold ptcells; rw [List.map_append]; exact h1) h2)
end
theorem infoParts3 : (Tryz.prog.info? 30).map (fun i => (i.zero, i.size, i.bytes)) = some (some (.slice none 0 0), 1, 24) := by kernel_rfl
theorem OwnE.zeroPart {w : World} {b base : Nat} (h : w.heap[b]? = some (.cells #[] 38 (0, 0))) (hb : base ≤ b) : OwnE w base 38 5 (.slice (some ⟨b, 0, none⟩) 0 0) (ptcells []) :=
  ⟨rfl, .inr ⟨b, 0, #[], rfl, hb, h, Nat.le_refl _, by decide, rfl, rfl⟩⟩

/-! ### What the loop keeps -/
def QAt (W1 W : World) (v : Value) (zs : List (PartP × Value)) : Prop := Below W1.heap.size W1 W ∧ OwnE W W1.heap.size 38 5 v (ptcells zs) ∧ ∀ z ∈ zs, IT W z.2 z.1.items
theorem QAt.far {W1 W W' : World} {v : Value} {zs : List (PartP × Value)} (h : QAt W1 W v zs) (hb : Below W.heap.size W W') : QAt W1 W' v zs := by
  obtain ⟨h1, h3, h4⟩ := h
  exact ⟨h1.trans (hb.mono h1.size), OwnE.far h3 hb (Nat.le_refl _), fun z hz => (h4 z hz).below hb⟩
theorem QAt.ps {W1 W : World} {v : Value} {zs : List (PartP × Value)} (h : QAt W1 W v zs) : PS W v zs := ⟨OwnE.slice h.2.1 (ptcells_five zs), h.2.2⟩
theorem QAt.append {W1 W W' : World} {v v' : Value} {zs : List (PartP × Value)} (h : QAt W1 W v zs) (z : PartP × Value) (hz : IT W z.2 z.1.items) (ho : OwnE W' W1.heap.size 38 5 v' (ptcells (zs ++ [z]))) (hg : W.grownBy W' v.ownBlock) : QAt W1 W' v' (zs ++ [z]) := by
  obtain ⟨h1, h3, h4⟩ := h
  refine ⟨h1.grown hg h1.size (fun j e => OwnE.ge h3 j e), ho, fun y hy => ?_⟩
  rcases List.mem_append.1 hy with hy | hy
  · exact IT.own (h4 y hy) h3 hg
  · rw [List.mem_singleton.1 hy]; exact IT.own hz h3 hg

/-! ### Short parts -/
def FitB (p : PartP) : Prop := FitOne p ∧ p.items.length ≤ 1000 ∧ ∀ x ∈ p.items, x.ent.size ≤ 100000
theorem itemsB_fit {ents : List ByteArray} {n : Nat} (he : ∀ s ∈ ents, s.size ≤ 1000) : ∀ (l : List Int) (prev : Option Int) (z : List ItemP), itemsB ents n l prev = some z → z.length = l.length ∧ ∀ x ∈ z, x.prf.length ≤ ents.length ∧ x.ent.size ≤ 1000 := by
  intro l
  induction l with
  | nil => intro prev z h; cases h; exact ⟨rfl, fun x hx => absurd hx List.not_mem_nil⟩
  | cons i l ih =>
    intro prev z h
    unfold itemsB at h
    split at h
    · obtain ⟨y, hy, rfl⟩ := Option.map_eq_some_iff.1 h
      obtain ⟨h1, h2⟩ := ih _ _ hy
      refine ⟨by simp [h1], fun x hx => ?_⟩
      rcases List.mem_cons.1 hx with e | e
      · subst e
        refine ⟨?_, ?_⟩
        · show (proofB (ents.take n) i.toNat).length ≤ _
          refine Nat.le_trans (proofB_len _ _) ?_
          rw [List.length_take]
          omega
        · show (ents.getD i.toNat ⟨#[]⟩).size ≤ 1000
          rw [List.getD_eq_getElem?_getD]
          cases e : ents[i.toNat]? with
          | none => exact Nat.zero_le _
          | some s => exact he s (List.mem_of_getElem? e)
      · exact h2 x e
    · cases h
theorem show_fit (key : ByteArray) (car n : Int) (xs : List ByteArray) (l : List Int) (hl : l.length ≤ 1000) : FitB (showZ (showB key ⟨car, xs⟩ n l)) := by
  have zero : FitB (showZ none) := ⟨⟨Nat.zero_le _, Nat.zero_le _, fun x hx => absurd hx List.not_mem_nil⟩, Nat.zero_le _, fun x hx => absurd hx List.not_mem_nil⟩
  rcases sign_cases key car n xs with h | ⟨hk, hv, k, rfl, hkl⟩
  · rw [showB_none h]
    exact zero
  · rw [showB_some hk hv (by omega) (by omega), Int.toNat_natCast]
    obtain ⟨_, _, v3, v4⟩ : 0 ≤ car ∧ car ≤ 7 ∧ xs.length ≤ 60 ∧ ∀ s ∈ xs, s.size ≤ 1000 := valid_parts hv
    cases e : itemsB xs k l none with
    | none => exact zero
    | some z =>
      obtain ⟨h1, h2⟩ := itemsB_fit v4 l none z e
      refine ⟨⟨?_, by show z.length ≤ 100000; omega, fun x hx => by have := (h2 x hx).1; omega⟩, by show z.length ≤ 1000; omega, fun x hx => by have := (h2 x hx).2; omega⟩
      show (rootB _).size ≤ 1000
      rw [rootB_size]
      omega

/-! ### Both sides -/
section
variable {w0 w : World} {ls : List Dat}
theorem shw_both (k : Know w0 w ls) (key : ByteArray) (car n : Int) {v vl : Value} {xs : List ByteArray} {l : List Int} (hv : ∀ W, Below w.heap.size w W → SS W v xs) (hl : ∀ W, Below w.heap.size w W → IL W vl l) (hll : l.length ≤ 1000) :
    ∃ p er, FitB p ∧ (∀ W, Below w.heap.size w W → Calls Tryz.prog 18 #[.string key, .agg #[.int .i64 car, v], .int .i64 n, vl] W (ShowIs W p er)) ∧ (∀ W, Below w.heap.size w W → Calls Tryz.prog 19 #[.string key, .agg #[.int .i64 car, v], .int .i64 n, vl] W (ShowIs W p er)) :=
  ⟨_, _, show_fit key car n xs l hll, fun W hW => show_all key car n (hv W hW) (hl W hW) (by omega) (k.step hW).env (k.step hW).tab, fun W hW => rshow_any key car n (hv W hW) (hl W hW) (by omega)⟩
theorem chk_both (k : Know w0 w ls) (key : ByteArray) (hk : key.size ≤ 1000) (p : PartP) (hf : FitOne p) {v : Value} (hv : IT w v p.items) :
    ∃ b, (∀ W, Below w.heap.size w W → Calls Tryz.prog 24 #[.string key, .agg #[.int .i64 p.head.car, .int .i64 p.head.siz, .string p.head.root, .string p.head.sl, v]] W fun e w' => e = .returned (.bool b) ∧ Below W.heap.size W w') ∧ (∀ W, Below w.heap.size w W → Calls Tryz.prog 25 #[.string key, .agg #[.int .i64 p.head.car, .int .i64 p.head.siz, .string p.head.root, .string p.head.sl, v]] W fun e w' => e = .returned (.bool b) ∧ Below W.heap.size W w') := by
  refine ⟨checkB key p, fun W hW => ?_, fun W hW => rcheck_it key p (IT.below hv hW) hf hk⟩
  obtain ⟨⟨c, s, r, sl⟩, its⟩ := p
  obtain ⟨ys, rfl, hys⟩ := hv
  exact check_any key c s r sl (hys.is.below hW) hk hf.1 (by have := hf.2.1; simpa using this) (fun y hy => hf.2.2 y.1 (List.mem_map_of_mem hy)) (k.step hW).env (k.step hW).tab
theorem cvt_both (k : Know w0 w ls) (key : ByteArray) (hk : key.size ≤ 1000) (p q : PartP) (hf : FitOne p) (hg : FitOne q) {v u : Value} (hv : IT w v p.items) (hu : IT w u q.items) :
    ∃ b, (∀ W, Below w.heap.size w W → Calls Tryz.prog 22 #[.string key, .agg #[.int .i64 p.head.car, .int .i64 p.head.siz, .string p.head.root, .string p.head.sl, v], .agg #[.int .i64 q.head.car, .int .i64 q.head.siz, .string q.head.root, .string q.head.sl, u]] W fun e w' => e = .returned (.bool b) ∧ Below W.heap.size W w') ∧ (∀ W, Below w.heap.size w W → Calls Tryz.prog 23 #[.string key, .agg #[.int .i64 p.head.car, .int .i64 p.head.siz, .string p.head.root, .string p.head.sl, v], .agg #[.int .i64 q.head.car, .int .i64 q.head.siz, .string q.head.root, .string q.head.sl, u]] W fun e w' => e = .returned (.bool b) ∧ Below W.heap.size W w') := by
  refine ⟨convictsB key p q, fun W hW => ?_, fun W hW => ?_⟩
  · obtain ⟨⟨c, s, r, sl⟩, its⟩ := p
    obtain ⟨⟨c', s', r', sl'⟩, its'⟩ := q
    obtain ⟨ys, rfl, hys⟩ := hv
    obtain ⟨zs, rfl, hzs⟩ := hu
    exact convicts2_any key c s r sl c' s' r' sl' (hys.is.below hW) (hzs.is.below hW) (by have := hf.2.1; simpa using this) (by have := hg.2.1; simpa using this) hk hf.1 hg.1 (fun y hy => hf.2.2 y.1 (List.mem_map_of_mem hy)) (fun y hy => hg.2.2 y.1 (List.mem_map_of_mem hy)) (k.step hW).env (k.step hW).tab
  · obtain ⟨⟨c, s, r, sl⟩, its⟩ := p
    obtain ⟨⟨c', s', r', sl'⟩, its'⟩ := q
    obtain ⟨ys, rfl, hys⟩ := hv
    obtain ⟨zs, rfl, hzs⟩ := hu
    exact rconvicts_any key c s r sl c' s' r' sl' (hys.is.below hW) (hzs.is.below hW) (by have := hf.2.1; simpa using this) (by have := hg.2.1; simpa using this) hk (fun y hy => hf.2.2 y.1 (List.mem_map_of_mem hy)) (fun y hy => hg.2.2 y.1 (List.mem_map_of_mem hy))
theorem jn_both (k : Know w0 w ls) (key : ByteArray) (hk : key.size ≤ 1000) {v : Value} {zs : List (PartP × Value)} (hz : PS w v zs) (hf : FitP zs) :
    ∃ z er, (∀ W, Below w.heap.size w W → Calls Tryz.prog 26 #[.string key, v] W (JoinIs W z er)) ∧ (∀ W, Below w.heap.size w W → Calls Tryz.prog 27 #[.string key, v] W (JoinIs W z er)) :=
  ⟨_, _, fun _ hW => join_all (hz.below hW) hf hk (k.step hW).env (k.step hW).tab, fun _ hW => rjoin_any key (hz.below hW) hf hk⟩
end
theorem items_self {w : World} {v v' : Value} {its : List ItemP} (hx : IT w v its) (hy : IT w v' its) :
    Calls Tryz.prog 28 #[v, v'] w fun e w' => e = .returned (.bool true) ∧ Below w.heap.size w w' := by
  have h := sameItems_any hx hy
  rwa [decide_eq_true rfl] at h
theorem PS.take {w : World} {a : Option Addr} {n c : Nat} {zs : List (PartP × Value)} (h : PS w (.slice a n c) zs) (k : Nat) (hk : k ≤ n) : PS w (.slice a k c) (zs.take k) := by
  obtain ⟨⟨a', c', e1, h1, h2, h3⟩, h4⟩ := h
  injection e1 with e1 e2 e3
  subst e1 e3
  rw [ptcells_len] at e2 h1
  refine ⟨⟨a, c, ?_, ?_, h2, ?_⟩, fun z hz => h4 z (List.mem_of_mem_take hz)⟩
  · rw [ptcells_len, List.length_take]
    congr 1
    omega
  · rw [ptcells_len, List.length_take]
    omega
  · rcases h3 with h3 | ⟨b, off, ha, hb, hc⟩
    · left
      have hz : zs = [] := by
        unfold ptcells at h3
        exact List.map_eq_nil_iff.1 h3
      rw [hz]
      simp [ptcells]
    · refine .inr ⟨b, off, ha, hb, fun i d hi j u hj => hc i d ?_ j u hj⟩
      unfold ptcells at hi ⊢
      rw [List.map_take, List.getElem?_take] at hi
      split at hi
      · exact hi
      · cases hi
theorem FitP.take {zs : List (PartP × Value)} (h : FitP zs) (k : Nat) : FitP (zs.take k) := ⟨by rw [List.length_take]; have := h.1; omega, fun z hz => h.2 z (List.mem_of_mem_take hz)⟩
theorem FitP.drop {zs : List (PartP × Value)} (h : FitP zs) (k : Nat) : FitP (zs.drop k) := ⟨by rw [List.length_drop]; have := h.1; omega, fun z hz => h.2 z (List.mem_of_mem_drop hz)⟩
theorem PS.drop {w : World} {b off n c : Nat} {zs : List (PartP × Value)} (h : PS w (.slice (some ⟨b, off, none⟩) n c) zs) (k : Nat) (hk : k ≤ n) : PS w (.slice (some ⟨b, off + k * 5, none⟩) (n - k) (c - k)) (zs.drop k) := by
  obtain ⟨⟨a', c', e1, h1, h2, h3⟩, h4⟩ := h
  injection e1 with e1 e2 e3
  subst e1 e3
  rw [ptcells_len] at e2 h1
  refine ⟨⟨some ⟨b, off + k * 5, none⟩, c - k, ?_, ?_, by omega, ?_⟩, fun z hz => h4 z (List.mem_of_mem_drop hz)⟩
  · rw [ptcells_len, List.length_drop]
    congr 1
    omega
  · rw [ptcells_len, List.length_drop]
    omega
  · rcases h3 with h3 | ⟨b', off', ha, hb, hc⟩
    · left
      have hz : zs = [] := by
        unfold ptcells at h3
        exact List.map_eq_nil_iff.1 h3
      rw [hz]
      simp [ptcells]
    · injection ha with ha
      injection ha with ha1 ha2 ha3
      subst ha1 ha2
      refine .inr ⟨b, off + k * 5, rfl, hb, fun i d hi j u hj => ?_⟩
      unfold ptcells at hi
      rw [List.map_drop, List.getElem?_drop] at hi
      have := hc (k + i) d (by unfold ptcells; exact hi) j u hj
      rw [← this]
      congr 2
      omega
end Go.Proofs.YtinfpbkbnhcifaaGreatDoor

/- The tail of the walk of RegisterMatchesReference: the heads and the proofs. The conditions: what the rows hold. -/
namespace Go.Proofs.YtinfpbkbnhcifaaGreatDoor
open Go.RowKit Go.BigFrame

def rt : Code → Code
  | .seq _ b => b
  | c => c
end Go.Proofs.YtinfpbkbnhcifaaGreatDoor
