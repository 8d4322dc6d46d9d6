/- Appending one element to a row of the call's own; the walk of the reference's List. The conditions: ranges, what the slice reads as. -/
import Derived.Test.YtbpkfpkhnkcgkaaDoorRWA15
namespace Go.Proofs.YtbpkfpkhnkcgkaaDoorR
open Go.RowKit Go.BigFrame

/-- A slice of the call's own that holds elements, each of so many cells. -/
def OwnE (w : World) (base : Nat) (e : TypeId) (size : Nat) (v : Value) (css : List (List Value)) : Prop := w.ownsRow base e size v css.length css.flatten

section
variable {P : Program} {ops : Array Oper} {rest : List Oper} {o : Oper} {a : Act} {w : World} {Q : Exit → Act → World → Prop}

theorem wpList_append_el (t e : TypeId) (size bytes : Nat) (z : Value) (ht : P.underlying t = some (.slice e)) (hinfo : (P.info? e).map (fun i => (i.zero, i.size, i.bytes)) = some (some z, size, bytes)) (hzs : z.cells.size = size) (hsz : 0 < size)
    (hgd : o.guard = none) (s x : Operand) (ho : o.op = .call { callee := .builtin .append, args := #[s, x], argTypes := #[t, t] })
    (base : Nat) (v : Value) (css : List (List Value)) (hs : a.eval s = v) (hown : OwnE w base e size v css) (b : Nat) (c : List Value) (hc : c.length = size) (hone : ∀ u ∈ c, u.oneCell' = true) (hx : a.eval x = .slice (some ⟨b, 0, none⟩) 1 1) (fr : Nat × Nat)
    (hb : w.heap[b]? = some (.cells c.toArray e fr)) (h63 : css.length + 1 ≤ maxLen) (hbytes : (css.length + 1) * bytes ≤ 140737488355328) (hbase : base ≤ w.heap.size)
    (h : ∀ v' w', OwnE w' base e size v' (css ++ [c]) → w.grownBy w' v.ownBlock → wpList P ops Q rest (a.put o.dst v') w') : wpList P ops Q (o :: rest) a w := by
  obtain ⟨i, i1, i2, i3, i4⟩ := info_parts hinfo
  refine wpList_append_own w hgd s x t ho base e i z size bytes ht i1 i2 i3 i4 hzs hsz v _ _ hs hown ⟨b, 0, none⟩ 1 1 c hx (by omega) ?_ hone h63 hbytes hbase ?_
  · intro j u hj
    have ea : (⟨b, 0, none⟩ : Addr).add j = ⟨b, 0 + j, none⟩ := by
      unfold Addr.add
      split
      · rename_i hj0; subst hj0; rfl
      · rfl
    rw [ea, cell_of_row w _ (0 + j) _ _ _ hb, Nat.zero_add, List.getElem?_toArray]
    exact hj
  · intro v' w' h1 h2 _
    refine h v' w' ?_ h2
    unfold OwnE
    rw [List.length_append, List.flatten_append]
    simpa using h1
end

theorem OwnE.nil (w : World) (base : Nat) (e : TypeId) (size : Nat) : OwnE w base e size (.slice none 0 0) [] := ⟨by simp, .inl ⟨rfl, rfl⟩⟩

/-- .. of rectangles. -/
def OwnR (w : World) (base : Nat) (v : Value) (xs : List R4) : Prop := OwnE w base 36 4 v (xs.map R4.cells)
theorem OwnR.nil (w : World) (base : Nat) : OwnR w base (.slice none 0 0) [] := OwnE.nil w base _ 4
theorem OwnR.rs {w : World} {base : Nat} {v : Value} {xs : List R4} (h : OwnR w base v xs) : RS w v xs := by
  refine SliceAt.of_owns (base := base) (e := 36) h ?_
  intro c hc
  rw [List.mem_map] at hc
  obtain ⟨x, _, rfl⟩ := hc
  rfl
theorem r4_one (q : R4) : ∀ u ∈ q.cells, u.oneCell' = true := by
  intro u hu
  simp only [R4.cells, List.mem_cons, List.not_mem_nil, or_false] at hu
  rcases hu with rfl | rfl | rfl | rfl <;> rfl
theorem infoRectT : (Tryd.prog.info? 36).map (fun i => (i.zero, i.size, i.bytes)) = some (some (.agg #[.int .i64 0, .int .i64 0, .int .i64 0, .int .i64 0]), 4, 32) := by kernel_rfl

theorem wpList_append_rect {ops : Array Oper} {rest : List Oper} {o : Oper} {a : Act} {w : World} {Q : Exit → Act → World → Prop} (s x : Operand) (base : Nat) (v : Value) (xs : List R4) (b : Nat) (q : R4) (hown : OwnR w base v xs) (hlen : xs.length ≤ 100000) (hbase : base ≤ w.heap.size)
    (hb : w.heap[b]? = some (.cells #[.int .i64 q.l, .int .i64 q.r, .int .i64 q.lo, .int .i64 q.hi] 36 (0, 0)))
    (hgd : o.guard = none) (ho : o.op = .call { callee := .builtin .append, args := #[s, x], argTypes := #[24, 24] }) (hs : a.eval s = v) (hx : a.eval x = .slice (some ⟨b, 0, none⟩) 1 1)
    (h : ∀ v' w', OwnR w' base v' (xs ++ [q]) → w.grownBy w' v.ownBlock → wpList Tryd.prog ops Q rest (a.put o.dst v') w') : wpList Tryd.prog ops Q (o :: rest) a w :=
  wpList_append_el 24 36 4 32 _ (by kernel_rfl) infoRectT rfl (by decide) hgd s x ho base v (xs.map R4.cells) hs hown b q.cells rfl (r4_one q) hx (0, 0) hb
    (by rw [List.length_map]; unfold maxLen; omega) (by rw [List.length_map]; omega) hbase fun v' w' h1 h2 => h v' w' (by unfold OwnR; rw [List.map_append]; exact h1) h2

theorem OwnE.far {w w' : World} {base base' : Nat} {e : TypeId} {size : Nat} {v : Value} {css : List (List Value)} (h : OwnE w base e size v css) (hb : Below base' w w') (hbb : w.heap.size ≤ base') : OwnE w' base e size v css :=
  owns_any h ⟨hb.os, hb.tape, hb.output, hb.size, fun i hi _ => hb.block i (by omega)⟩
theorem OwnE.alloc {w : World} {base : Nat} {e : TypeId} {size : Nat} {v : Value} {css : List (List Value)} (h : OwnE w base e size v css) (o : Obj) : OwnE (w.alloc o) base e size v css :=
  owns_any h (World.grownBy_alloc _ _ _)
theorem OwnE.drewN {w : World} {base : Nat} {e : TypeId} {size : Nat} {v : Value} {css : List (List Value)} (h : OwnE w base e size v css) (n : Nat) : OwnE (w.drewN n) base e size v css :=
  owns_any h (grown_drewN (grown_refl _ _) n)
theorem below_own {base : Nat} {w w1 w2 : World} {e : TypeId} {size : Nat} {v : Value} {css : List (List Value)} (h : Below w.heap.size w w1) (ho : OwnE w1 base e size v css) (hg : w1.grownBy w2 v.ownBlock) (hB : w.heap.size ≤ base) : Below w.heap.size w w2 := by
  refine h.grown hg h.size ?_
  intro j e
  rcases ho.2 with ⟨rfl, _⟩ | ⟨g, cap, cur, rfl, hbg, _⟩
  · simp [Value.ownBlock] at e
  · have : j = g := by simpa [Value.ownBlock] using e.symm
    omega

/-- Four integers, each an int. -/
def Int4 (q : R4) : Prop := I64 q.l ∧ I64 q.r ∧ I64 q.lo ∧ I64 q.hi
def oneR (q : R4) : R4 := oneS q.l q.r q.lo q.hi
/-- At most 12 valid rectangles. -/
def listS (xs : List R4) : List R4 := (xs.take 12).map oneR
def listUpto (xs : List R4) (k : Nat) : List R4 := (xs.take k).map oneR
theorem listUpto_succ (xs : List R4) (k : Nat) (q : R4) (h : xs[k]? = some q) : listUpto xs (k + 1) = listUpto xs k ++ [oneR q] := by
  unfold listUpto
  rw [List.take_add_one, h]
  simp
theorem listUpto_len (xs : List R4) (k : Nat) : (listUpto xs k).length ≤ k := by
  unfold listUpto
  rw [List.length_map]
  exact List.length_take_le _ _

set_option maxHeartbeats 2000000 in
theorem list_any {w : World} {v : Value} {xs : List R4} (hr : RS w v xs) (hi : ∀ q ∈ xs, Int4 q) :
    Calls Tryd.prog 20 #[v] w fun e w' => ∃ r, e = .returned r ∧ RS w' r (listS xs) ∧ Below w.heap.size w w' := by
  obtain ⟨a, cap, rfl, l1, l2, l3⟩ := hr.opened
  have H3 := Lib.hid l3
  have HI := Lib.hid hi
  clear l3 hr hi
  unfold maxLen at l2
  obtain ⟨n, hn⟩ : ∃ n, n = xs.length := ⟨_, rfl⟩
  rw [← hn] at l1 ⊢
  have HN := Lib.hid hn
  clear hn
  go_enter Tryd.func20, Tryd.ntmps20
  go_wp2
  go_loopw [3, 4] (fun v i wr => ∃ k : Nat, k ≤ n ∧ k ≤ 12 ∧ i = .int .i64 k ∧ OwnR wr w.heap.size v (listUpto xs k) ∧ Below w.heap.size w wr) (fun v i wr => 12 - (intOf i).toNat)
  case atStart => exact ⟨0, by omega, by omega, rfl, OwnR.nil _ _, Below.refl _ _⟩
  case round =>
    obtain ⟨k, hk, hk2, rfl, hown, hB⟩ := hrel
    have HOW := Lib.hid hown
    clear hown
    by_cases hlt : k < n
    · by_cases hlt2 : k < 12
      · obtain ⟨q, eq⟩ : ∃ q, xs[k]? = some q := ⟨_, List.getElem?_eq_getElem (by rw [← HN.out]; exact hlt)⟩
        obtain ⟨b, off, rfl, hb, c1, c2, c3, c4⟩ := H3.out k q eq
        obtain ⟨r1, r2, r3, r4⟩ := HI.out q (List.mem_of_getElem? eq)
        have EQ := Lib.hid (listUpto_succ xs k q eq)
        have R1 := Lib.hid r1
        have R2 := Lib.hid r2
        have R3 := Lib.hid r3
        have R4' := Lib.hid r4
        clear eq r1 r2 r3 r4
        have d1 := cell_keepB hB hb c1
        have d2 := cell_keepB hB hb c2
        have d3 := cell_keepB hB hb c3
        have d4 := cell_keepB hB hb c4
        clear c1 c2 c3 c4
        go_wp2_with (first | (go_at_call 29; refine (one_any q.l q.r q.lo q.hi _ R1.out R2.out R3.out R4'.out).mono ?_; rintro e w1 ⟨rfl, hb1⟩; have HB1 := Lib.hid (hB.trans (hb1.mono hB.size)); have HOW1 := Lib.hid (OwnE.far HOW.out hb1 (Nat.le_refl _)); clear hb1) | (at_builtin; refine wpList_append_rect (.tmp 15) (.tmp 21) w.heap.size _ (listUpto xs k) w1.heap.size (oneR q) (OwnE.alloc HOW1.out _) (by have := listUpto_len xs k; omega) (by have := HB1.out.size; simp; omega) (heap_alloc_new _ _) rfl rfl rfl rfl ?_; intro v' w2 hown2 hg2))
        have HO2 := Lib.hid hown2
        have HB2 := Lib.hid (below_own (HB1.out.alloc HB1.out.size _) (OwnE.alloc HOW1.out _) hg2 (Nat.le_refl _))
        clear hg2 hown2
        go_wp2
        go_roundw
        case rel => exact ⟨k + 1, by omega, by omega, by go_num, by rw [EQ.out]; exact HO2.out, HB2.out⟩
        case measure => simp [intOf]; omega
      · have hk12 : Hid (listUpto xs k = listS xs) := Lib.hid (by rw [show k = 12 by omega]; rfl)
        obtain ⟨sa, sn, sc, hsl⟩ := owns_slice HOW.out
        subst hsl
        go_wp2
        go_ret
        exact ⟨_, rfl, by rw [← hk12.out]; exact OwnR.rs HOW.out, hB⟩
    · have hk12 : Hid (listUpto xs k = listS xs) := Lib.hid (by
        unfold listUpto listS
        rw [List.take_of_length_le (by rw [← HN.out]; omega), List.take_of_length_le (by rw [← HN.out]; omega)])
      go_wp2
      go_ret
      exact ⟨_, rfl, by rw [← hk12.out]; exact OwnR.rs HOW.out, hB⟩
end Go.Proofs.YtbpkfpkhnkcgkaaDoorR
