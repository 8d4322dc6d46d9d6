/- Owned slices of strings and of integers; the walk of digest.Root. The conditions: what the slice reads as, lengths, the table of constants. -/
import Derived.OwnWalk
import Derived.Test.YtinfpbkbnhcifaaGreatDoorQ05
import Derived.Test.YtinfpbkbnhcifaaGreatDoorQ06
namespace Go.Proofs.YtinfpbkbnhcifaaGreatDoor
open Go.RowKit Go.BigFrame Go.Shelf

attribute [local go_sem] Oper.semAt_some

/-- A slice of the call's own that holds elements, each of so many cells. -/
def OwnE (w : World) (base : Nat) (e : TypeId) (size : Nat) (v : Value) (css : List (List Value)) : Prop := w.ownsRow base e size v css.length css.flatten

section
variable {P : Program} {ops : Array Oper} {rest : List Oper} {o : Oper} {a : Act} {w : World} {Q : Exit → Act → World → Prop}

theorem wpList_append_el (t e : TypeId) (size bytes : Nat) (z : Value) (ht : P.underlying t = some (.slice e)) (hinfo : (P.info? e).map (fun i => (i.zero, i.size, i.bytes)) = some (some z, size, bytes)) (hzs : z.cells.size = size) (hsz : 0 < size)
    (hgd : o.guard = none) (s x : Operand) (ho : o.op = .call { callee := .builtin .append, args := #[s, x], argTypes := #[t, t] })
    (base : Nat) (v : Value) (css : List (List Value)) (hs : a.eval s = v) (hown : OwnE w base e size v css) (b : Nat) (c : List Value) (hc : c.length = size) (hone : ∀ u ∈ c, u.oneCell' = true) (hx : a.eval x = .slice (some ⟨b, 0, none⟩) 1 1) (fr : Nat × Nat)
    (hb : w.heap[b]? = some (.cells c.toArray e fr)) (h63 : css.length + 1 ≤ maxLen) (hbytes : (css.length + 1) * bytes ≤ 140737488355328) (hbase : base ≤ w.heap.size)
    (h : ∀ v' w', OwnE w' base e size v' (css ++ [c]) → w.grownBy w' v.ownBlock → wpList P ops Q rest (a.put o.dst v') w') : wpList P ops Q (o :: rest) a w := by
  obtain ⟨i, i1, i2, i3, i4⟩ := info_parts hinfo
  refine wpList_append_own w hgd s x t ho base e i z size bytes ht i1 i2 i3 i4 hzs hsz v _ _ hs hown ⟨b, 0, none⟩ 1 1 c hx (by omega) ?_ hone h63 hbytes hbase ?_
  · intro j u hj
    rw [Addr.add_mid, cell_of_row w _ (0 + j) _ _ _ hb, Nat.zero_add, List.getElem?_toArray]
    exact hj
  · intro v' w' h1 h2 _
    refine h v' w' ?_ h2
    unfold OwnE
    rw [List.length_append, List.flatten_append]
    simpa using h1
end

theorem OwnE.nil (w : World) (base : Nat) (e : TypeId) (size : Nat) : OwnE w base e size (.slice none 0 0) [] := ⟨by simp, .inl ⟨rfl, rfl⟩⟩
theorem OwnE.far {w w' : World} {base base' : Nat} {e : TypeId} {size : Nat} {v : Value} {css : List (List Value)} (h : OwnE w base e size v css) (hb : Below base' w w') (hbb : w.heap.size ≤ base') : OwnE w' base e size v css :=
  owns_any h ⟨hb.os, hb.tape, hb.output, hb.size, fun i hi _ => hb.block i (by omega)⟩
theorem OwnE.alloc {w : World} {base : Nat} {e : TypeId} {size : Nat} {v : Value} {css : List (List Value)} (h : OwnE w base e size v css) (o : Obj) : OwnE (w.alloc o) base e size v css :=
  owns_any h (World.grownBy_alloc _ _ _)
theorem OwnE.drewN {w : World} {base : Nat} {e : TypeId} {size : Nat} {v : Value} {css : List (List Value)} (h : OwnE w base e size v css) (n : Nat) : OwnE (w.drewN n) base e size v css :=
  owns_any h (grown_drewN (grown_refl _ _) n)
theorem OwnE.ge {w : World} {base : Nat} {e : TypeId} {size : Nat} {v : Value} {css : List (List Value)} (ho : OwnE w base e size v css) : ∀ j, v.ownBlock = some j → base ≤ j := by
  intro j hj
  rcases ho.2 with ⟨rfl, _⟩ | ⟨g, cap, cur, rfl, hbg, _⟩
  · simp [Value.ownBlock] at hj
  · have : j = g := by simpa [Value.ownBlock] using hj.symm
    omega
theorem below_own {base : Nat} {w w1 w2 : World} {e : TypeId} {size : Nat} {v : Value} {css : List (List Value)} (h : Below w.heap.size w w1) (ho : OwnE w1 base e size v css) (hg : w1.grownBy w2 v.ownBlock) (hB : w.heap.size ≤ base) : Below w.heap.size w w2 :=
  h.grown hg h.size (fun j e => Nat.le_trans hB (ho.ge j e))
/-- An owned slice stays where one of other elements is written. -/
theorem OwnE.other {w w' : World} {base base' : Nat} {e e' : TypeId} {size size' : Nat} {v v' : Value} {css css' : List (List Value)} (h : OwnE w base e size v css) (h' : OwnE w base' e' size' v' css') (hne : e ≠ e') (hg : w.grownBy w' v.ownBlock) : OwnE w' base' e' size' v' css' := by
  refine World.ownsRow.kept h' hg ?_
  rcases h'.2 with ⟨rfl, _⟩ | ⟨g, cap, cur, rfl, _, hgg, _⟩
  · exact .inl rfl
  · refine .inr (fun e1 => ?_)
    exact absurd e1 (own_ne h hgg (fun c hc => by injection hc with _ h2 _; exact hne h2.symm))
theorem OwnE.slice {w : World} {base : Nat} {e : TypeId} {size : Nat} {v : Value} {css : List (List Value)} (h : OwnE w base e size v css) (hs : ∀ c ∈ css, c.length = size) : SliceAt w v size css := SliceAt.of_owns (base := base) (e := e) h hs
theorem OwnE.form {w : World} {base : Nat} {e : TypeId} {size : Nat} {v : Value} {css : List (List Value)} (h : OwnE w base e size v css) : ∃ a cap, v = .slice a css.length cap := by
  rcases h.2 with ⟨rfl, h0⟩ | ⟨g, cap, cur, rfl, _⟩
  · exact ⟨none, 0, by rw [h0]⟩
  · exact ⟨_, _, rfl⟩
theorem OwnE.cut {w : World} {base : Nat} {e : TypeId} {size : Nat} {a : Option Addr} {n cap : Nat} {css : List (List Value)} (h : OwnE w base e size (.slice a n cap) css) (hs : ∀ c ∈ css, c.length = size) (k : Nat) (hk : k ≤ n) (hn : 0 < n) : OwnE w base e size (.slice a k cap) (css.take k) := by
  have hflat : ∀ (l : List (List Value)) (k : Nat), (∀ c ∈ l, c.length = size) → k ≤ l.length → (l.take k).flatten = l.flatten.take (k * size) := by
    intro l
    induction l with
    | nil => intro k _ hk; simp at hk; subst hk; simp
    | cons c l ih =>
      intro k hl hk
      cases k with
      | zero => simp
      | succ k =>
        have hc := hl c (by simp)
        rw [List.take_succ_cons, List.flatten_cons, List.flatten_cons, ih k (fun c hc => hl c (by simp [hc])) (by simpa using hk), Nat.succ_mul, Nat.add_comm, ← hc, List.take_length_add_append]
  obtain ⟨hl, h2⟩ := h
  rcases h2 with ⟨hv, h0⟩ | ⟨g, cap', cur, hv, hb, hg, hnc, hcm, hcs, htake⟩
  · injection hv with _ h3 _
    omega
  · injection hv with e1 e2 e3
    subst e1 e3
    have hkl : k ≤ css.length := by omega
    have hlen : (css.take k).length = k := by rw [List.length_take]; omega
    unfold OwnE World.ownsRow
    rw [hlen, hflat css k hs hkl]
    refine ⟨?_, .inr ⟨g, cap, cur, rfl, hb, hg, by omega, hcm, hcs, ?_⟩⟩
    · rw [List.length_take, hl]
      exact Nat.min_eq_left (Nat.mul_le_mul_right _ hkl)
    · rw [← htake, List.take_take, Nat.min_eq_left (Nat.mul_le_mul_right _ hkl)]

theorem scells_one (xs : List ByteArray) : ∀ c ∈ scells xs, c.length = 1 := by
  intro c hc
  unfold scells at hc
  rw [List.mem_map] at hc
  obtain ⟨x, _, rfl⟩ := hc
  rfl
theorem icells_one (xs : List Int) : ∀ c ∈ icells xs, c.length = 1 := by
  intro c hc
  unfold icells at hc
  rw [List.mem_map] at hc
  obtain ⟨x, _, rfl⟩ := hc
  rfl
theorem infoStr : (Tryz.prog.info? 9).map (fun i => (i.zero, i.size, i.bytes)) = some (some (.string ⟨#[]⟩), 1, 16) := by kernel_rfl
theorem infoInt : (Tryz.prog.info? 3).map (fun i => (i.zero, i.size, i.bytes)) = some (some (.int .i64 0), 1, 8) := by kernel_rfl

/-- An owned slice of strings, of integers. -/
def OwnS (w : World) (base : Nat) (v : Value) (xs : List ByteArray) : Prop := OwnE w base 9 1 v (scells xs)
def OwnI (w : World) (base : Nat) (v : Value) (xs : List Int) : Prop := OwnE w base 3 1 v (icells xs)

section
variable {ops : Array Oper} {rest : List Oper} {o : Oper} {a : Act} {w : World} {Q : Exit → Act → World → Prop}
theorem wpList_append_str (s x : Operand) (base : Nat) (v : Value) (xs : List ByteArray) (b : Nat) (y : ByteArray) (fr : Nat × Nat) (hown : OwnS w base v xs) (hlen : xs.length ≤ 100000) (hbase : base ≤ w.heap.size)
    (hb : w.heap[b]? = some (.cells #[.string y] 9 fr)) (hgd : o.guard = none) (ho : o.op = .call { callee := .builtin .append, args := #[s, x], argTypes := #[24, 24] }) (hs : a.eval s = v) (hx : a.eval x = .slice (some ⟨b, 0, none⟩) 1 1)
    (h : ∀ v' w', OwnS w' base v' (xs ++ [y]) → w.grownBy w' v.ownBlock → wpList Tryz.prog ops Q rest (a.put o.dst v') w') : wpList Tryz.prog ops Q (o :: rest) a w :=
  wpList_append_el 24 9 1 16 _ (by kernel_rfl) infoStr rfl (by decide) hgd s x ho base v (scells xs) hs hown b [.string y] rfl (fun u hu => by rw [List.mem_singleton] at hu; subst hu; rfl) hx fr hb
    (by unfold scells; rw [List.length_map]; unfold maxLen; omega) (by unfold scells; rw [List.length_map]; omega) hbase fun v' w' h1 h2 => h v' w' (by unfold OwnS scells; rw [List.map_append]; exact h1) h2
theorem wpList_append_int (s x : Operand) (base : Nat) (v : Value) (xs : List Int) (b : Nat) (y : Int) (fr : Nat × Nat) (hown : OwnI w base v xs) (hlen : xs.length ≤ 100000) (hbase : base ≤ w.heap.size)
    (hb : w.heap[b]? = some (.cells #[.int .i64 y] 3 fr)) (hgd : o.guard = none) (ho : o.op = .call { callee := .builtin .append, args := #[s, x], argTypes := #[22, 22] }) (hs : a.eval s = v) (hx : a.eval x = .slice (some ⟨b, 0, none⟩) 1 1)
    (h : ∀ v' w', OwnI w' base v' (xs ++ [y]) → w.grownBy w' v.ownBlock → wpList Tryz.prog ops Q rest (a.put o.dst v') w') : wpList Tryz.prog ops Q (o :: rest) a w :=
  wpList_append_el 22 3 1 8 _ (by kernel_rfl) infoInt rfl (by decide) hgd s x ho base v (icells xs) hs hown b [.int .i64 y] rfl (fun u hu => by rw [List.mem_singleton] at hu; subst hu; rfl) hx fr hb
    (by unfold icells; rw [List.length_map]; unfold maxLen; omega) (by unfold icells; rw [List.length_map]; omega) hbase fun v' w' h1 h2 => h v' w' (by unfold OwnI icells; rw [List.map_append]; exact h1) h2
end
theorem OwnS.ss {w : World} {base : Nat} {v : Value} {xs : List ByteArray} (h : OwnS w base v xs) : SS w v xs := OwnE.slice h (scells_one xs)
theorem OwnI.is {w : World} {base : Nat} {v : Value} {xs : List Int} (h : OwnI w base v xs) : SliceAt w v 1 (icells xs) := OwnE.slice h (icells_one xs)
end Go.Proofs.YtinfpbkbnhcifaaGreatDoor
