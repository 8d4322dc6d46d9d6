/- Facts for walks in which memory is made at any time: own rows, boxes of registers. The conditions: what the blocks hold. -/
import Derived.Test.YtinfpbkbnhcifaaGreatDoorQLexF
import Derived.Test.YtinfpbkbnhcifaaGreatDoorQRS6
import Derived.Test.YtinfpbkbnhcifaaGreatDoorQMR3
import Derived.Deep.DeepCutAuto
import Derived.Test.YtinfpbkbnhcifaaGreatDoorQMR2
namespace Go.Proofs.YtinfpbkbnhcifaaGreatDoor
open Go.RowKit Go.BigFrame

def zreg : Obj := .cells #[.int .i64 0, .slice none 0 0] 26 (0, 0)
/-- An append to an own row keeps what is announced, of other types. -/
theorem Keeps.own {base B size : Nat} {e : TypeId} {v : Value} {css : List (List Value)} {N : List Ann} {w w' : World} (ho : OwnE w B e size v css) (hg : w.grownBy w' v.ownBlock) (hN : ∀ x ∈ N, ∀ c, x.2.1 ≠ .cells c e (0, 0)) : Keeps base N w w' :=
  fun x hx i _ h => (hg.block i (Array.getElem?_eq_some_iff.1 h).1 (own_ne ho h (hN x hx))).trans h
theorem two_heap {W : World} {b : Nat} {c0 c1 : Value} {T : TypeId} (h : W.heap[b]? = some (.cells #[c0, c1] T (0, 0))) (x y : Value) : ((W.setCell ⟨b, 0, none⟩ x).setCell ⟨b, 1, none⟩ y).heap[b]? = some (.cells #[x, y] T (0, 0)) :=
  heap_setCell_same (i := 1) y (heap_setCell_same (i := 0) x h)
theorem two_below {w W : World} {b B : Nat} (h : Below B w W) (hb : B ≤ b) (x y : Value) : Below B w ((W.setCell ⟨b, 0, none⟩ x).setCell ⟨b, 1, none⟩ y) :=
  (h.setCell (p := ⟨b, 0, none⟩) hb x).setCell (p := ⟨b, 1, none⟩) hb y
theorem two_grown (W : World) (b : Nat) (x y : Value) : W.grownBy ((W.setCell ⟨b, 0, none⟩ x).setCell ⟨b, 1, none⟩ y) (some b) :=
  grown_setCell (grown_setCell (grown_refl _ _) ⟨b, 0, none⟩ (.inl rfl) x) ⟨b, 1, none⟩ (.inl rfl) y
/-- What the cells of a box read. -/
theorem two_cells {W : World} {b : Nat} {c0 c1 : Value} {T : TypeId} (h : W.heap[b]? = some (.cells #[c0, c1] T (0, 0))) : W.cell? ⟨b, 0, none⟩ = some c0 ∧ W.cell? ⟨b, 1, none⟩ = some c1 ∧ (∀ j, W.frozen? ⟨b, j, none⟩ = false) :=
  ⟨cell_of_row W _ 0 _ _ _ h, cell_of_row W _ 1 _ _ _ h, fun j => by unfold World.frozen?; rw [h]; simp⟩
theorem kept_block {w w' : World} {b : Nat} {o : Obj} (h : w.heap[b]? = some o) (hb : Below w.heap.size w w') : w'.heap[b]? = some o := (hb.block b (Array.getElem?_eq_some_iff.1 h).1).trans h
theorem OwnS.two {W : World} {b B : Nat} {c0 c1 v : Value} {xs : List ByteArray} {T : TypeId} (h : OwnS W B v xs) (hb : W.heap[b]? = some (.cells #[c0, c1] T (0, 0))) (hT : T ≠ 9) (x y : Value) : OwnS ((W.setCell ⟨b, 0, none⟩ x).setCell ⟨b, 1, none⟩ y) B v xs :=
  OwnE.grownT h hb (fun c e => hT (by injection e)) (two_grown W b x y)

theorem below_next {w W W' : World} (h : Below w.heap.size w W) (h' : Below W.heap.size W W') : Below w.heap.size w W' := h.trans (h'.mono h.size)
theorem SS.form2' {w : World} {v : Value} {xs : List ByteArray} (h : SS w v xs) : ∃ a c, v = .slice a xs.length c := by
  obtain ⟨a, c, h, _⟩ := h.opened
  exact ⟨a, c, h⟩

/-! ### Nothing appended -/
theorem run_append_zero {P : Program} {w : World} (base : Nat) (t ty e : TypeId) (i : TypeInfo) (size : Nat) (ht : P.underlying t = some (.slice e)) (hi : P.info? e = some i)
    (v : Value) (n : Nat) (xs : List Value) (hown : w.ownsRow base e size v n xs) (ad : Option Addr) (c : Nat) :
    (Builtin.append_ #[t, t] ty #[v, .slice ad 0 c]).run P w = .ok v w := by
  rcases hown.2 with ⟨rfl, rfl⟩ | ⟨g, cap, cur, rfl, _, _, hnc, _⟩
  · cases ad <;> simp [Builtin.append_, run_underlying ht, sizeOf, typeInfo, hi, Builtin.lenOf, Builtin.firstCells, loadCells, loadCellsFrom]
  · cases ad <;> simp [Builtin.append_, run_underlying ht, sizeOf, typeInfo, hi, Builtin.lenOf, Builtin.firstCells, hnc, storeCells, loadCells, loadCellsFrom]
section
variable {ops : Array Oper} {rest : List Oper} {o : Oper} {a : Act} {w : World} {Q : Exit → Act → World → Prop} {K : Act → World → Prop} {E : Prop}
theorem wp_append_zero (s x : Operand) (t e : TypeId) (i : TypeInfo) (ht : Tryz.prog.underlying t = some (.slice e)) (hi : Tryz.prog.info? e = some i) (base size n : Nat) (v : Value) (xs : List Value) (hown : w.ownsRow base e size v n xs) (ad : Option Addr) (c : Nat)
    (ho : o.op = .call { callee := .builtin .append, args := #[s, x], argTypes := #[t, t] }) (hs : a.eval s = v) (hx : a.eval x = .slice ad 0 c) (h : K (a.put o.dst v) w) : o.wp Tryz.prog a w K Q := by
  unfold Oper.wp execOp
  have hr := run_append_zero (P := Tryz.prog) (w := w) base t o.type e i size ht hi v n xs hown ad c
  simp only [ho, resolve, invoke, builtin, Sem.run_bind, Sem.run_pure, Result.andThen_ok, List.map_toArray, List.map_cons, List.map_nil, hs, hx, hr]
  exact h
/-- Strings appended, also none. -/
theorem step_append_all (hgd : o.guard = none) (s x : Operand) (base : Nat) (v : Value) (xs ys : List ByteArray) (vy : Value) (hown : OwnS w base v xs) (hy : SS w vy ys) (hlen : xs.length + ys.length ≤ 1000000) (hbase : base ≤ w.heap.size)
    (ho : o.op = .call { callee := .builtin .append, args := #[s, x], argTypes := #[24, 24] }) (hs : a.eval s = v) (hx : a.eval x = vy)
    (h : ∀ v' w', OwnS w' base v' (xs ++ ys) → w.grownBy w' v.ownBlock → K (a.put o.dst v') w') : if Region.wanted o (yielded ops a.tmps) = true then Oper.wp Tryz.prog o a w K Q else E := by
  rcases Nat.eq_zero_or_pos ys.length with h0 | h0
  · have hw : Region.wanted o (yielded ops a.tmps) = true := by simp [Region.wanted, hgd]
    rw [if_pos hw]
    obtain ⟨ad, c, e⟩ := hy.form2'
    have h1 : ys = [] := List.eq_nil_of_length_eq_zero h0
    subst h1
    subst e
    obtain ⟨i, i1, _⟩ := info_parts infoStr
    exact wp_append_zero s x 24 9 i (by kernel_rfl) i1 base 1 _ v _ hown ad c ho hs hx (h v w (by rw [List.append_nil]; exact hown) (grown_refl _ _))
  · exact step_append_strs hgd s x base v xs ys vy hown hy h0 hlen hbase ho hs hx h
theorem wpList_append_none (hgd : o.guard = none) (s x : Operand) (base : Nat) (v : Value) (xs : List ByteArray) (hown : OwnS w base v xs) (ad : Option Addr) (c : Nat)
    (ho : o.op = .call { callee := .builtin .append, args := #[s, x], argTypes := #[24, 24] }) (hs : a.eval s = v) (hx : a.eval x = .slice ad 0 c) (h : wpList Tryz.prog ops Q rest (a.put o.dst v) w) : wpList Tryz.prog ops Q (o :: rest) a w := by
  obtain ⟨i, i1, _⟩ := info_parts infoStr
  exact wpList_plain hgd fun _ hK => wp_append_zero s x 24 9 i (by kernel_rfl) i1 base 1 _ v _ hown ad c ho hs hx (hK _ _ h)
theorem wpList_append_all (hgd : o.guard = none) (s x : Operand) (base : Nat) (v : Value) (xs ys : List ByteArray) (vy : Value) (hown : OwnS w base v xs) (hy : SS w vy ys) (hlen : xs.length + ys.length ≤ 1000000) (hbase : base ≤ w.heap.size)
    (ho : o.op = .call { callee := .builtin .append, args := #[s, x], argTypes := #[24, 24] }) (hs : a.eval s = v) (hx : a.eval x = vy)
    (h : ∀ v' w', OwnS w' base v' (xs ++ ys) → w.grownBy w' v.ownBlock → wpList Tryz.prog ops Q rest (a.put o.dst v') w') : wpList Tryz.prog ops Q (o :: rest) a w := by
  rcases Nat.eq_zero_or_pos ys.length with h0 | h0
  · obtain ⟨ad, c, e⟩ := hy.form2'
    have h1 : ys = [] := List.eq_nil_of_length_eq_zero h0
    subst h1
    subst e
    exact wpList_append_none hgd s x base v xs hown ad c ho hs hx (h v w (by rw [List.append_nil]; exact hown) (grown_refl _ _))
  · exact wpList_append_strs hgd s x base v xs ys vy hown hy h0 hlen hbase ho hs hx h
end
end Go.Proofs.YtinfpbkbnhcifaaGreatDoor

/- The walk of the reference's Other. The conditions: what the slices read as, lengths, ranges. -/
namespace Go.Proofs.YtinfpbkbnhcifaaGreatDoor
open Go.RowKit Go.BigFrame

theorem OwnS.zero {w : World} {b base : Nat} (h : w.heap[b]? = some (.cells #[] 9 (0, 0))) (hb : base ≤ b) : OwnS w base (.slice (some ⟨b, 0, none⟩) 0 0) [] :=
  ⟨rfl, .inr ⟨b, 0, #[], rfl, hb, h, Nat.le_refl _, by decide, rfl, rfl⟩⟩

/-- What the loop of Other keeps: the result's box, the boxed register, its own row. -/
def OtherAt (w w1 W : World) (b : Nat) (car : Int) (v : Value) (xs : List ByteArray) : Prop :=
  Below w.heap.size w W ∧ W.heap[w.heap.size + 1]? = some (.cells #[.int .i64 0, .slice none 0 0] 26 (0, 0)) ∧ W.heap[b]? = some (.cells #[.int .i64 car, v] 26 (0, 0)) ∧ OwnS W w1.heap.size v xs

set_option maxHeartbeats 8000000 in
set_option maxRecDepth 100000 in
theorem other_any (car : Int) {w : World} {v vy : Value} {xs : List ByteArray} {ys : List Int} (at' : Int) (ia : I64 at') (hv : SS w v xs) (hl : xs.length ≤ 12) (hy : IL w vy ys) (hr : ∀ n ∈ ys, I64 n) :
    Calls Tryz.prog 14 #[.agg #[.int .i64 car, v], .int .i64 at', vy] w fun e w' => ∃ v', e = .returned (.agg #[.int .i64 car, v']) ∧ OwnS w' w.heap.size v' (otherL xs at' ys) ∧ Below w.heap.size w w' := by
  obtain ⟨a, c, rfl, l1, l2, l3⟩ := hv.opened
  obtain ⟨ay, cy, rfl, y1, y2, y3⟩ := hy.opened
  unfold maxLen at l2 y2
  have HV := Lib.hid hv
  have HY3 := Lib.hid y3
  have HIY := Lib.hid hr
  have hp := pickI_range at' (n := (xs.length : Int) + 1) (by omega)
  have HPK := Lib.hid (fun W => rpick_any at' ((xs.length : Int) + 1) W ia (by omega) (by omega))
  obtain ⟨q, hq⟩ := Int.eq_ofNat_of_zero_le hp.1
  have HOT : Hid (otherL xs at' ys = xs.take q ++ (ys.take (12 - q)).map entryS) := Lib.hid (by unfold otherL; rw [hq]; rfl)
  rw [hq] at HPK hp
  have hqn : q ≤ xs.length := by omega
  clear hv hy hr ia y3 l3 hp hq
  generalize hn : xs.length = n at *
  have HN := Lib.hid hn
  clear hn
  obtain ⟨ny, hny⟩ : ∃ n, n = ys.length := ⟨_, rfl⟩
  rw [← hny] at y1 ⊢
  have HNY := Lib.hid hny
  clear hny
  obtain ⟨M, hM⟩ : ∃ M, M = min ny (12 - q) := ⟨_, rfl⟩
  have HMM : Hid (∀ k : Nat, k ≤ M → (k < M ↔ (k < ny ∧ q + k < 12))) := Lib.hid (fun k hk => by omega)
  have HME : Hid ((ys.take (12 - q)).map entryS = (ys.take M).map entryS) := Lib.hid (by
    congr 1
    rw [hM, HNY.out]
    by_cases h : ys.length ≤ 12 - q
    · rw [Nat.min_eq_left h, List.take_length, List.take_of_length_le h]
    · rw [Nat.min_eq_right (by omega)])
  have hM12 : q + M ≤ 12 := by omega
  have hMny : M ≤ ny := by omega
  clear hM
  have f1 : IntKind.i64.wrap ((n : Int) + 1) = (n : Int) + 1 := IntWalk.i64_in _ (by omega)
  have u1 : (q : Int) ≤ (n : Int) := by omega
  have u2 : (0 : Int) ≤ (q : Int) := by omega
  have u4 : q ≤ c := by omega
  go_enter Tryz.func14, Tryz.ntmps14
  go_upto_region 1 with fail
  have HB1 : Hid (Below w.heap.size w ((w.alloc (.cells #[.int .i64 car, .slice a n c] 26)).alloc (.cells #[.int .i64 0, .slice none 0 0] 26))) := Lib.hid (((Below.refl _ _).alloc (Nat.le_refl _) _).alloc (by simp) _)
  have HX1 : Hid (((w.alloc (.cells #[.int .i64 car, .slice a n c] 26)).alloc (.cells #[.int .i64 0, .slice none 0 0] 26)).heap[w.heap.size]? = some (.cells #[.int .i64 car, .slice a n c] 26 (0, 0))) := Lib.hid (at_past w _ _)
  have HR1 : Hid (((w.alloc (.cells #[.int .i64 car, .slice a n c] 26)).alloc (.cells #[.int .i64 0, .slice none 0 0] 26)).heap[w.heap.size + 1]? = some (.cells #[.int .i64 0, .slice none 0 0] 26 (0, 0))) := Lib.hid (at_second w _ _)
  obtain ⟨w1, hw1⟩ : ∃ W, W = (w.alloc (.cells #[.int .i64 car, .slice a n c] 26)).alloc (.cells #[.int .i64 0, .slice none 0 0] 26) := ⟨_, rfl⟩
  rw [← hw1] at HB1 HX1 HR1 ⊢
  clear hw1
  have HKP : Hid (∀ W, Below w1.heap.size w1 W → W.cell? ⟨w.heap.size, 0, none⟩ = some (.int .i64 car) ∧ W.cell? ⟨w.heap.size, 1, none⟩ = some (.slice a n c)) := Lib.hid (fun W hW => by
    have h := kept_block HX1.out hW
    exact ⟨(two_cells h).1, (two_cells h).2.1⟩)
  refine wp_region_noPanic ?_
  refine wp_region_lexB [.q 0, .q 1, .an 2, .q 3, .q 4, .q 5, .q 6, .q 7, .q 8, .q 9, .an 14, .b 10, .q 11, .co 2, .b 12, .q 13, .co 14, .b 15] (by kernel_rfl) (by kernel_rfl) (fun _ _ _ _ h => h) ?_
  refine wpFl_qL (v := ?_) rfl (Or.inl ⟨by rfl, ?_⟩) ?_
  rotate_left
  focus (intro w' hSw; (try dsimp only [OldKept] at hSw); obtain ⟨k0, k1⟩ := HKP.out w' hSw; go_simp; (try with_reducible rfl); done)
  simp only [Act.put, List.setIfInBounds_toArray, List.set_cons_zero, List.set_cons_succ]
  refine wpFl_qL (v := ?_) rfl (Or.inl ⟨by rfl, ?_⟩) ?_
  rotate_left
  focus (intro w' hSw; (try dsimp only [OldKept] at hSw); obtain ⟨k0, k1⟩ := HKP.out w' hSw; go_simp; (try with_reducible rfl); done)
  simp only [Act.put, List.setIfInBounds_toArray, List.set_cons_zero, List.set_cons_succ]
  refine wpFl_anL rfl (.cells #[] 9 (0, 0)) (fun n => .slice (some ⟨n, 0, none⟩) 0 0) ⟨by rfl, fun w' => ?_⟩ ?_
  focus (go_simp; done)
  refine wpFl_qL (v := ?_) rfl (Or.inl ⟨by rfl, ?_⟩) ?_
  rotate_left
  focus (intro w' hSw; (try dsimp only [OldKept] at hSw); obtain ⟨k0, k1⟩ := HKP.out w' hSw; go_simp; (try with_reducible rfl); done)
  simp only [Act.put, List.setIfInBounds_toArray, List.set_cons_zero, List.set_cons_succ]
  refine wpFl_qL (v := ?_) rfl (Or.inl ⟨by rfl, ?_⟩) ?_
  rotate_left
  focus (intro w' hSw; (try dsimp only [OldKept] at hSw); obtain ⟨k0, k1⟩ := HKP.out w' hSw; go_simp; (try with_reducible rfl); done)
  simp only [Act.put, List.setIfInBounds_toArray, List.set_cons_zero, List.set_cons_succ]
  refine wpFl_qL (v := ?_) rfl (Or.inl ⟨by rfl, ?_⟩) ?_
  rotate_left
  focus (intro w' hSw; (try dsimp only [OldKept] at hSw); obtain ⟨k0, k1⟩ := HKP.out w' hSw; go_simp; (try with_reducible rfl); done)
  simp only [Act.put, List.setIfInBounds_toArray, List.set_cons_zero, List.set_cons_succ]
  refine wpFl_qL (v := ?_) rfl (Or.inl ⟨by rfl, ?_⟩) ?_
  rotate_left
  focus (intro w' hSw; (try dsimp only [OldKept] at hSw); obtain ⟨k0, k1⟩ := HKP.out w' hSw; go_simp; (try with_reducible rfl); done)
  simp only [Act.put, List.setIfInBounds_toArray, List.set_cons_zero, List.set_cons_succ]
  refine wpFl_qL (v := ?_) rfl (Or.inl ⟨by rfl, ?_⟩) ?_
  rotate_left
  focus (intro w' hSw; (try dsimp only [OldKept] at hSw); obtain ⟨k0, k1⟩ := HKP.out w' hSw; go_simp; (try with_reducible rfl); done)
  simp only [Act.put, List.setIfInBounds_toArray, List.set_cons_zero, List.set_cons_succ]
  refine wpFl_qL (v := ?_) rfl (Or.inl ⟨by rfl, ?_⟩) ?_
  rotate_left
  focus (intro w' hSw; (try dsimp only [OldKept] at hSw); obtain ⟨k0, k1⟩ := HKP.out w' hSw; go_simp; (try with_reducible rfl); done)
  simp only [Act.put, List.setIfInBounds_toArray, List.set_cons_zero, List.set_cons_succ]
  refine wpFl_qL (v := ?_) rfl (Or.inl ⟨by rfl, ?_⟩) ?_
  rotate_left
  focus (intro w' hSw; (try dsimp only [OldKept] at hSw); obtain ⟨k0, k1⟩ := HKP.out w' hSw; go_simp; (try with_reducible rfl); done)
  simp only [Act.put, List.setIfInBounds_toArray, List.set_cons_zero, List.set_cons_succ]
  refine wpFl_anL rfl (.cells #[.int .i64 0, .slice none 0 0] 26 (0, 0)) (fun n => .pointer (some ⟨n, 0, none⟩)) ⟨by rfl, fun w' => ?_⟩ ?_
  focus (go_simp; done)
  refine wpFl_bL rfl (fun w4 hn4 hs4 K hK => ?_)
  go_simp
  go_at_call 53
  refine (HPK.out _).mono ?_
  rintro e w5 ⟨rfl, hw5⟩
  replace hw5 := hw5.symm
  subst hw5
  refine hK.out _ _ hs4 (Keeps.below (Below.refl _ _)) ?_
  clear hK K
  refine wpFl_qL (v := ?_) rfl (Or.inl ⟨by rfl, ?_⟩) ?_
  rotate_left
  focus (intro w' hSw; (try dsimp only [OldKept] at hSw); go_simp; (try with_reducible rfl); done)
  simp only [Act.put, List.setIfInBounds_toArray, List.set_cons_zero, List.set_cons_succ]
  refine wpFl_coL rfl (.cells #[] 9 (0, 0)) (fun n => .slice (some ⟨n, 0, none⟩) 0 0) (by rfl) (N' := [(14, .cells #[.int .i64 0, .slice none 0 0] 26 (0, 0), fun n => .pointer (some ⟨n, 0, none⟩))]) (by rfl) (fun b6 w6 hn_w6 hs_w6 hb_b6 hz_b6 => ?_)
  simp only [Act.put, List.setIfInBounds_toArray, List.set_cons_zero, List.set_cons_succ]
  have HO6 := Lib.hid (OwnS.zero hz_b6 hb_b6)
  clear hz_b6 hn_w6 hn4 hs4
  refine wpFl_bL rfl (fun w7 hn7 hs7 K hK => ?_)
  have HO7 := Lib.hid (OwnE.far HO6.out hn7 (Nat.le_refl _))
  have HS7 := Lib.hid ((HV.out.below (HB1.out.trans (hs7.mono HB1.out.size))).cut q hqn)
  refine step_append_all rfl _ _ w1.heap.size (.slice (some ⟨b6, 0, none⟩) 0 0) [] (xs.take q) (.slice a q c) HO7.out HS7.out (by rw [List.length_take]; simp; omega) hs7.size rfl rfl rfl ?_
  intro v8 w8 hown8 hgr8
  rw [List.nil_append] at hown8
  have HB8 : Hid (Below w1.heap.size w1 w8) := Lib.hid (Below.grown hs7 hgr8 hs7.size (fun j e => OwnE.ge HO7.out j e))
  refine hK.out _ _ HB8.out (Keeps.own HO7.out hgr8 (by intro x hx c e; rw [List.mem_singleton.1 hx] at e; cases e)) ?_
  clear hK K
  obtain ⟨a8, c8, hv8⟩ := OwnE.form hown8
  rw [scells_len, List.length_take, HN.out, Nat.min_eq_left hqn] at hv8
  subst hv8
  have HO8 := Lib.hid hown8
  clear HO6 HO7 HS7 hown8 hgr8 hn7 hs7 hs_w6 hb_b6
  simp only [Act.put, List.setIfInBounds_toArray, List.set_cons_zero, List.set_cons_succ]
  refine wpFl_qL (v := ?_) rfl (Or.inl ⟨by rfl, ?_⟩) ?_
  rotate_left
  focus (intro w' hSw; (try dsimp only [OldKept] at hSw); go_simp; (try with_reducible rfl); done)
  simp only [Act.put, List.setIfInBounds_toArray, List.set_cons_zero, List.set_cons_succ]
  refine wpFl_coL rfl (.cells #[.int .i64 0, .slice none 0 0] 26 (0, 0)) (fun n => .pointer (some ⟨n, 0, none⟩)) (by rfl) (N' := []) (by rfl) (fun b9 w9 hn_w9 hs_w9 hb_b9 hz_b9 => ?_)
  simp only [Act.put, List.setIfInBounds_toArray, List.set_cons_zero, List.set_cons_succ]
  have HO9 := Lib.hid (OwnE.far HO8.out hn_w9 (Nat.le_refl _))
  clear HO8 hn_w9 hs_w9
  refine wpFl_bL rfl (fun w10 hn10 hs10 K hK => ?_)
  have HO10 := Lib.hid (OwnE.far HO9.out hn10 (Nat.le_refl _))
  have HZ10 := Lib.hid (kept_block hz_b9 hn10)
  obtain ⟨z0, z1, zf⟩ := two_cells HZ10.out
  clear HO9 hz_b9
  go_simp
  refine hK.out _ _ (two_below hs10 hb_b9 _ _) Keeps.nil ?_
  clear hK K
  have HA : Hid (OtherAt w w1 ((w10.setCell ⟨b9, 0, none⟩ (.int .i64 car)).setCell ⟨b9, 1, none⟩ (.slice a8 q c8)) b9 car (.slice a8 q c8) (xs.take q ++ (ys.take 0).map entryS)) := Lib.hid (by
    refine ⟨HB1.out.trans ((two_below hs10 hb_b9 _ _).mono HB1.out.size), kept_block HR1.out (two_below hs10 hb_b9 _ _), two_heap HZ10.out _ _, ?_⟩
    rw [List.take_zero, List.map_nil, List.append_nil]
    exact OwnS.two HO10.out HZ10.out (by decide) _ _)
  have hw1s : w.heap.size + 1 < w1.heap.size := (Array.getElem?_eq_some_iff.1 HR1.out).1
  have hsw1 : w.heap.size ≤ w1.heap.size := by omega
  have hb9w : w.heap.size + 1 < b9 := Nat.lt_of_lt_of_le (Array.getElem?_eq_some_iff.1 HR1.out).1 hb_b9
  generalize (w10.setCell ⟨b9, 0, none⟩ (.int .i64 car)).setCell ⟨b9, 1, none⟩ (.slice a8 q c8) = W at *
  clear HO10 HZ10 z0 z1 zf hn10 hs10 HKP HB8 HB1 HX1 HR1 HV HPK
  refine wpFl_nil ?_
  refine NoPanic.normal ?_
  go_wp2
  go_loopw [8] (fun i wr => ∃ (k : Nat) (u : Value), k ≤ M ∧ i = .int .i64 k ∧ Hid (OtherAt w w1 wr b9 car u (xs.take q ++ (ys.take k).map entryS))) (fun i _ => M - (intOf i).toNat)
  case atStart => exact ⟨0, _, by omega, rfl, HA⟩
  case round =>
    obtain ⟨k, u, hk, rfl, hA⟩ := hrel
    clear HA
    have HK := Lib.hid (HMM.out k hk)
    obtain ⟨L, hL⟩ : ∃ L, L = q + k := ⟨_, rfl⟩
    obtain ⟨XS, hXS⟩ : ∃ XS, XS = xs.take q ++ (ys.take k).map entryS := ⟨_, rfl⟩
    have hXl : XS.length = L := by
      rw [hXS, List.length_append, List.length_map, List.length_take, List.length_take, HN.out, ← HNY.out]
      omega
    have HXS := Lib.hid hXS
    rw [← hXS] at hA
    obtain ⟨ua, uc, hu⟩ := OwnE.form hA.out.2.2.2
    rw [scells_len, hXl] at hu
    subst hu
    have HL := Lib.hid hL
    have hL12 : L ≤ 12 := by omega
    have hLk : (L < 12) ↔ (q + k < 12) := by rw [hL]
    clear hXS hL
    obtain ⟨c0, c1, cf⟩ := two_cells hA.out.2.2.1
    by_cases hlt : k < M
    · obtain ⟨hkn, hk12⟩ := HK.out.1 hlt
      obtain ⟨z, ez⟩ : ∃ z, ys[k]? = some z := ⟨_, List.getElem?_eq_getElem (by rw [← HNY.out]; exact hkn)⟩
      obtain ⟨bY, oY, rfl, hbY, d0⟩ := HY3.out k z ez
      have HE := Lib.hid (fun W => entry_any z (HIY.out z (List.mem_of_getElem? ez)) W)
      have HT : Hid (xs.take q ++ (ys.take (k + 1)).map entryS = XS ++ [entryS z]) := Lib.hid (by rw [madeL_take ez, ← List.append_assoc, ← HXS.out])
      have hEz := entryS_size z
      generalize entryS z = E at *
      have t12 : (L : Int) < 12 := by omega
      have tkn : (k : Int) < (ny : Int) := by omega
      have tk0 : (0 : Int) ≤ (k : Int) := by omega
      have hs1 : w1.heap.size ≤ wr.heap.size := by
        rcases hA.out.2.2.2.2 with ⟨e, _⟩ | ⟨g, cap, cur, e, hbg, hg, _⟩
        · have := (Array.getElem?_eq_some_iff.1 hA.out.2.2.1).1; omega
        · have := (Array.getElem?_eq_some_iff.1 hg).1; omega
      have HYC : Hid (∀ W, BoxKept wr w1.heap.size b9 (.cells #[.int .i64 car, .slice ua L uc] 26 (0, 0)) W → W.cell? ⟨bY, oY + k, none⟩ = some (.int .i64 z) ∧ W.cell? ⟨b9, 1, none⟩ = some (.slice ua L uc)) := Lib.hid (fun W hW => ⟨cell_keepB (hA.out.1.trans (hW.2.1.mono hsw1)) hbY d0, (two_cells hW.2.2).2.1⟩)
      have HS0 : Hid (BoxKept wr w1.heap.size b9 (.cells #[.int .i64 car, .slice ua L uc] 26 (0, 0)) wr.drew) := Lib.hid ⟨hs1, Below.drew (Below.refl _ _), hA.out.2.2.1⟩
      have HOr := Lib.hid (OwnE.drewN hA.out.2.2.2 1)
      clear ez d0
      go_upto_region 5 with fail
      refine wp_region_noPanic ?_
      refine wp_region_lexF [.q 0, .q 1, .q 2, .q 3, .q 4, .q 5, .b 6, .an 7, .co 7, .b 8, .q 9, .l 10] (BoxKept wr w1.heap.size b9 (.cells #[.int .i64 car, .slice ua L uc] 26 (0, 0))) (by kernel_rfl) (by kernel_rfl) (fun _ _ _ _ h => h) BoxKept.more HS0.out ?_
      refine wpFl_qL (v := ?_) rfl (Or.inl ⟨by rfl, ?_⟩) ?_
      rotate_left
      focus (intro w' hSw; (try dsimp only [OldKept] at hSw); obtain ⟨k0, k1⟩ := HYC.out w' hSw; go_simp; (try with_reducible rfl); done)
      simp only [Act.put, List.setIfInBounds_toArray, List.set_cons_zero, List.set_cons_succ]
      refine wpFl_qL (v := ?_) rfl (Or.inl ⟨by rfl, ?_⟩) ?_
      rotate_left
      focus (intro w' hSw; (try dsimp only [OldKept] at hSw); obtain ⟨k0, k1⟩ := HYC.out w' hSw; go_simp; (try with_reducible rfl); done)
      simp only [Act.put, List.setIfInBounds_toArray, List.set_cons_zero, List.set_cons_succ]
      refine wpFl_qL (v := ?_) rfl (Or.inl ⟨by rfl, ?_⟩) ?_
      rotate_left
      focus (intro w' hSw; (try dsimp only [OldKept] at hSw); obtain ⟨k0, k1⟩ := HYC.out w' hSw; go_simp; (try with_reducible rfl); done)
      simp only [Act.put, List.setIfInBounds_toArray, List.set_cons_zero, List.set_cons_succ]
      refine wpFl_qL (v := ?_) rfl (Or.inl ⟨by rfl, ?_⟩) ?_
      rotate_left
      focus (intro w' hSw; (try dsimp only [OldKept] at hSw); obtain ⟨k0, k1⟩ := HYC.out w' hSw; go_simp; (try with_reducible rfl); done)
      simp only [Act.put, List.setIfInBounds_toArray, List.set_cons_zero, List.set_cons_succ]
      refine wpFl_qL (v := ?_) rfl (Or.inl ⟨by rfl, ?_⟩) ?_
      rotate_left
      focus (intro w' hSw; (try dsimp only [OldKept] at hSw); obtain ⟨k0, k1⟩ := HYC.out w' hSw; go_simp; (try with_reducible rfl); done)
      simp only [Act.put, List.setIfInBounds_toArray, List.set_cons_zero, List.set_cons_succ]
      refine wpFl_qL (v := ?_) rfl (Or.inl ⟨by rfl, ?_⟩) ?_
      rotate_left
      focus (intro w' hSw; (try dsimp only [OldKept] at hSw); obtain ⟨k0, k1⟩ := HYC.out w' hSw; go_simp; (try with_reducible rfl); done)
      simp only [Act.put, List.setIfInBounds_toArray, List.set_cons_zero, List.set_cons_succ]
      refine wpFl_bS rfl (fun w4 hn4 hs4 K hK => ?_)
      go_simp
      go_at_call 51
      refine (HE.out _).mono ?_
      rintro e w5 ⟨rfl, hb5⟩
      have HO5 := Lib.hid (OwnE.far (OwnE.far HOr.out hn4 (Nat.le_refl _)) hb5 (Nat.le_refl _))
      refine hK.out _ _ (BoxKept.more _ _ hs4 hb5) (Nat.le_trans hs4.size hb5.size) (Keeps.below hb5) ?_
      clear hK K hn4 hs4 hb5 HOr
      refine wpFl_anL rfl (.cells #[.string E] 9 (0, 0)) (fun n => .slice (some ⟨n, 0, none⟩) 1 1) ⟨by rfl, fun w' => ?_⟩ ?_
      focus (go_simp; done)
      refine wpFl_coL rfl (.cells #[.string E] 9 (0, 0)) (fun n => .slice (some ⟨n, 0, none⟩) 1 1) (by rfl) (N' := []) (by rfl) (fun b7 w7 hn_w7 hs_w7 hb_b7 hz_b7 => ?_)
      simp only [Act.put, List.setIfInBounds_toArray, List.set_cons_zero, List.set_cons_succ]
      have HO7 := Lib.hid (OwnE.far HO5.out hn_w7 (Nat.le_refl _))
      have HS7 := Lib.hid (SS.one hz_b7)
      clear HO5 hn_w7 hz_b7 hs_w7 hb_b7
      refine wpFl_bS rfl (fun w8 hn8 hs8 K hK => ?_)
      have HO8 := Lib.hid (OwnE.far HO7.out hn8 (Nat.le_refl _))
      have HS8 := Lib.hid (SS.below HS7.out hn8)
      refine step_append_strs rfl _ _ w1.heap.size (.slice ua L uc) XS [E] (.slice (some ⟨b7, 0, none⟩) 1 1) HO8.out HS8.out (by simp) (by rw [hXl]; simp; omega) (Nat.le_trans hs1 hs8.size) rfl rfl rfl ?_
      intro v9 w9 hown9 hgr9
      have HK9 : Hid (BoxKept wr w1.heap.size b9 (.cells #[.int .i64 car, .slice ua L uc] 26 (0, 0)) w9) := Lib.hid ⟨hs1, Below.grown hs8.2.1 hgr9 (Nat.le_trans hs1 hs8.size) (fun j e => OwnE.ge HO8.out j e), (hgr9.block b9 (Array.getElem?_eq_some_iff.1 hs8.2.2).1 (own_ne HO8.out hs8.2.2 (fun c e => by cases e))).trans hs8.2.2⟩
      refine hK.out _ _ HK9.out (Nat.le_trans hs8.size hgr9.size) Keeps.nil ?_
      obtain ⟨a9, c9, hv9⟩ := OwnE.form hown9
      rw [scells_len, List.length_append, hXl] at hv9
      have hv9 : v9 = .slice a9 (L + 1) c9 := hv9
      subst hv9
      have HO9 := Lib.hid hown9
      clear hK K HO7 HO8 HS7 HS8 hn8 hs8 hown9 hgr9
      simp only [Act.put, List.setIfInBounds_toArray, List.set_cons_zero, List.set_cons_succ]
      refine wpFl_qL (v := ?_) rfl (Or.inl ⟨by rfl, ?_⟩) ?_
      rotate_left
      focus (intro w' hSw; (try dsimp only [OldKept] at hSw); go_simp; (try with_reducible rfl); done)
      simp only [Act.put, List.setIfInBounds_toArray, List.set_cons_zero, List.set_cons_succ]
      refine wpFl_lL rfl (fun w10 hn10 hs10 K hK => ?_)
      have HO10 := Lib.hid (OwnE.far HO9.out hn10 (Nat.le_refl _))
      obtain ⟨z0, z1, zf⟩ := two_cells hs10.2.2
      have HN10 : Hid (OtherAt w w1 (w10.setCell ⟨b9, 1, none⟩ (.slice a9 (L + 1) c9)) b9 car (.slice a9 (L + 1) c9) (XS ++ [E])) := Lib.hid (by
        have hB : Below w.heap.size w w10 := hA.out.1.trans (hs10.2.1.mono hsw1)
        refine ⟨hB.setCell (p := ⟨b9, 1, none⟩) (by show w.heap.size ≤ b9; omega) _, (Below.heap_setCell _ _ _ _ (by show w.heap.size + 1 ≠ b9; omega)).trans ((hs10.2.1.block _ (by omega)).trans hA.out.2.1), heap_setCell_same (i := 1) (.slice a9 (L + 1) c9) hs10.2.2, ?_⟩
        exact OwnE.grownT HO10.out hs10.2.2 (fun c e => by cases e) (grown_setCell (grown_refl _ _) ⟨b9, 1, none⟩ (.inl rfl) _))
      clear HO9 HO10 HK9
      go_simp
      refine hK.out _ _ (NoPanic.normal ?_)
      clear hK K z0 z1 zf hs10 hn10 HYC HS0 c0 c1 cf
      go_wp2
      go_roundw
      case rel => exact ⟨k + 1, _, by omega, by go_num, Lib.hid (by rw [HT.out]; exact HN10.out)⟩
      case measure => simp [intOf]; omega
    · have ek : k = M := by omega
      subst ek
      have HOX : Hid (XS = otherL xs at' ys) := Lib.hid (by rw [HXS.out, HOT.out, HME.out])
      have r1 := two_cells hA.out.2.1
      obtain ⟨r0, r1, rf⟩ := r1
      have HF2 := Lib.hid (two_heap hA.out.2.1 (.int .i64 car) (.slice ua L uc))
      have HB2 := Lib.hid (two_below hA.out.1 (Nat.le_succ _) (.int .i64 car) (.slice ua L uc))
      have HS2 := Lib.hid (OwnE.mono (OwnS.two hA.out.2.2.2 hA.out.2.1 (by decide) (.int .i64 car) (.slice ua L uc)) (base' := w.heap.size) (by omega))
      by_cases hkn : k < ny
      · have h12 : ¬ L < 12 := fun h => by have := HK.out.2 ⟨hkn, hLk.1 h⟩; omega
        have t12 : ¬ (L : Int) < 12 := by omega
        have tkn : (k : Int) < (ny : Int) := by omega
        go_wp2
        exact bodyPost_ret (results_cell_row rfl _ _ (w.heap.size + 1) 26 #[.int .i64 car, .slice ua L uc] (0, 0) _ rfl HF2.out Tryz.underlying26 rfl infoReg) rfl ⟨_, rfl, by rw [← HOX.out]; exact HS2.out, HB2.out⟩
      · have tkn : ¬ (k : Int) < (ny : Int) := by omega
        go_wp2
        exact bodyPost_ret (results_cell_row rfl _ _ (w.heap.size + 1) 26 #[.int .i64 car, .slice ua L uc] (0, 0) _ rfl HF2.out Tryz.underlying26 rfl infoReg) rfl ⟨_, rfl, by rw [← HOX.out]; exact HS2.out, HB2.out⟩
end Go.Proofs.YtinfpbkbnhcifaaGreatDoor

/- The reference's Grew: the strings whose digests are reckoned when a proof of growth is checked. The conditions: what the slice reads as, lengths. -/
namespace Go.Proofs.YtinfpbkbnhcifaaGreatDoor
open Go.RowKit Go.BigFrame

theorem grew_nil (old : ByteArray) (m n : Nat) (wh : Bool) : grewS old [] m n wh = ([], old, old) := rfl
theorem grew_end (old x : ByteArray) (r : List ByteArray) (m n : Nat) (h : n ≤ m) : grewS old (x :: r) m n true = ([], old, old) := by
  rw [grewS, if_pos h]; rfl
theorem grew_last (old : ByteArray) (pr : List ByteArray) (x : ByteArray) (m n : Nat) (h : n ≤ m) (h0 : pr[0]? = some x) : grewS old pr.reverse m n false = ([], x, x) := by
  cases hp : pr.reverse with
  | nil =>
    rw [List.reverse_eq_nil_iff] at hp
    subst hp
    cases h0
  | cons y r =>
    have hl : (y :: r).getLast (by simp) = x := by
      have h1 : (y :: r).getLast? = some x := by rw [← hp, List.getLast?_reverse, List.head?_eq_getElem?, h0]
      rw [List.getLast?_eq_some_getLast (by simp)] at h1
      exact Option.some.inj h1
    rw [grewS, if_pos h]
    simp only [Bool.false_eq_true, if_false, hl]
theorem grew_less (old x : ByteArray) (r : List ByteArray) (m n : Nat) (wh : Bool) (h : ¬ n ≤ m) (h2 : m ≤ leftN n) : grewS old (x :: r) m n wh = ((grewS old r m (leftN n) wh).1 ++ [markN (grewS old r m (leftN n) wh).2.2 x], (grewS old r m (leftN n) wh).2.1, nodeS (grewS old r m (leftN n) wh).2.2 x) := by
  rw [grewS, if_neg h, if_pos h2]
theorem grew_more (old x : ByteArray) (r : List ByteArray) (m n : Nat) (wh : Bool) (h : ¬ n ≤ m) (h2 : ¬ m ≤ leftN n) : grewS old (x :: r) m n wh = ((grewS old r (m - leftN n) (n - leftN n) false).1 ++ [markN x (grewS old r (m - leftN n) (n - leftN n) false).2.1, markN x (grewS old r (m - leftN n) (n - leftN n) false).2.2], nodeS x (grewS old r (m - leftN n) (n - leftN n) false).2.1, nodeS x (grewS old r (m - leftN n) (n - leftN n) false).2.2) := by
  rw [grewS, if_neg h, if_neg h2]
theorem grew_facts (old : ByteArray) (ho : old.size ≤ 1000) (r : List ByteArray) : (∀ x ∈ r, x.size ≤ 1000) → ∀ m n wh, (grewS old r m n wh).1.length ≤ 2 * r.length ∧ (grewS old r m n wh).2.1.size ≤ 1000 ∧ (grewS old r m n wh).2.2.size ≤ 1000 := by
  induction r with
  | nil => intro _ m n wh; exact ⟨by simp [grew_nil], ho, ho⟩
  | cons x r ih =>
    intro hr m n wh
    have ih := ih (fun y hy => hr y (by simp [hy]))
    by_cases h : n ≤ m
    · cases wh with
      | true => rw [grew_end _ _ _ _ _ h]; exact ⟨by simp, ho, ho⟩
      | false =>
        rw [grewS, if_pos h]
        simp only [Bool.false_eq_true, if_false]
        have hm := hr _ (List.getLast_mem (by simp : x :: r ≠ []))
        exact ⟨by simp, hm, hm⟩
    · by_cases h2 : m ≤ leftN n
      · rw [grew_less _ _ _ _ _ _ h h2]
        obtain ⟨a, b, c⟩ := ih m (leftN n) wh
        exact ⟨by simp only [List.length_append, List.length_cons, List.length_nil]; omega, b, by show (nodeS _ _).size ≤ 1000; rw [nodeS_size]; omega⟩
      · rw [grew_more _ _ _ _ _ _ h h2]
        obtain ⟨a, b, c⟩ := ih (m - leftN n) (n - leftN n) false
        exact ⟨by simp only [List.length_append, List.length_cons, List.length_nil]; omega, by show (nodeS _ _).size ≤ 1000; rw [nodeS_size]; omega, by show (nodeS _ _).size ≤ 1000; rw [nodeS_size]; omega⟩
theorem SS.lit2 {w : World} {b : Nat} {T : TypeId} {fz : Nat × Nat} {x y : ByteArray} (h : w.heap[b]? = some (.cells #[.string x, .string y] T fz)) : SS w (.slice (some ⟨b, 0, none⟩) 2 2) [x, y] := SS.two h

set_option maxHeartbeats 8000000 in
set_option maxRecDepth 100000 in
theorem rgrew_any (N : Nat) : ∀ {w : World} {v : Value} {pr : List ByteArray} (m n : Nat) (old : ByteArray) (wh : Bool), pr.length = N → SS w v pr → 1 ≤ m → m ≤ 1000 → n ≤ 1000 → old.size ≤ 1000 → (∀ x ∈ pr, x.size ≤ 1000) → N ≤ 1000 →
    Calls Tryz.prog 36 #[.string old, .int .i64 m, .int .i64 n, v, .bool wh] w fun e w' => ∃ v', e = .returned (.tuple #[v', .string (grewS old pr.reverse m n wh).2.1, .string (grewS old pr.reverse m n wh).2.2]) ∧ OwnS w' w.heap.size v' (grewS old pr.reverse m n wh).1 ∧ Below w.heap.size w w' := by
  induction N with
  | zero =>
    intro w v pr m n old wh hl hv hm hm' hn ho hp hN
    have hp0 : pr = [] := List.eq_nil_of_length_eq_zero hl
    subst hp0
    obtain ⟨a, c, rfl, _, _, _⟩ := hv.opened
    rw [List.reverse_nil, grew_nil]
    show Calls _ _ #[.string old, .int .i64 m, .int .i64 n, .slice a 0 c, .bool wh] w _
    by_cases h1 : n ≤ m
    · have t1 : (n : Int) ≤ (m : Int) := by omega
      cases wh
      all_goals
        go_enter Tryz.func36, Tryz.ntmps36
        go_wp2
        go_ret3
        exact ⟨_, rfl, OwnE.nil _ _ _ _, Below.refl _ _⟩
    · have t1 : ¬ (n : Int) ≤ (m : Int) := by omega
      cases wh
      all_goals
        go_enter Tryz.func36, Tryz.ntmps36
        go_wp2
        go_ret3
        exact ⟨_, rfl, OwnE.nil _ _ _ _, Below.refl _ _⟩
  | succ N ih =>
    intro w v pr m n old wh hl hv hm hm' hn ho hp hN
    obtain ⟨a, c, rfl, l1, l2, l3⟩ := hv.opened
    obtain ⟨M, hM⟩ : ∃ M, M = N + 1 := ⟨_, rfl⟩
    rw [← hM] at hl hN
    rw [hl] at hv l1 ⊢
    unfold maxLen at l2
    obtain ⟨x, ex⟩ : ∃ x, pr[N]? = some x := ⟨_, List.getElem?_eq_getElem (by omega)⟩
    obtain ⟨x0, ex0⟩ : ∃ x, pr[0]? = some x := ⟨_, List.getElem?_eq_getElem (by omega)⟩
    obtain ⟨b, off, rfl, hb, c0⟩ := l3 N x ex
    obtain ⟨b', off', eb, _, d0⟩ := l3 0 x0 ex0
    cases eb
    rw [Nat.add_zero] at d0
    have hrev : pr.reverse = x :: (pr.take N).reverse := by
      have e : pr = pr.take N ++ [x] := by
        have h1 := List.take_add_one (l := pr) (i := N)
        rw [ex, ← hM, ← hl, List.take_length] at h1
        exact h1
      rw [e, List.reverse_append]
      rw [← e]
      rfl
    have hxs := hp x (List.mem_of_getElem? ex)
    have f1 : IntKind.i64.wrap ((M : Int) - 1) = (N : Int) := by rw [IntWalk.i64_in _ (by omega)]; omega
    have u0 : (0 : Int) ≤ (N : Int) := by omega
    have u0' : ¬ (N : Int) < 0 := by omega
    have uM : (0 : Int) < (M : Int) := by omega
    by_cases h1 : n ≤ m
    · have t1 : (n : Int) ≤ (m : Int) := by omega
      cases wh with
      | true =>
        rw [hrev, grew_end _ _ _ _ _ h1]
        clear hv l3 ih hrev
        go_enter Tryz.func36, Tryz.ntmps36
        go_wp2
        go_ret3
        exact ⟨_, rfl, OwnE.nil _ _ _ _, Below.refl _ _⟩
      | false =>
        rw [grew_last _ _ _ _ _ h1 ex0]
        clear hv l3 ih hrev
        go_enter Tryz.func36, Tryz.ntmps36
        go_wp2
        go_quiet (fail)
        go_wp2
        go_ret3
        exact ⟨_, rfl, OwnE.nil _ _ _ _, below_drewN (Below.refl _ _) _⟩
    · have t1 : ¬ (n : Int) ≤ (m : Int) := by omega
      have hv' : SS w (.slice (some ⟨b, off, none⟩) N c) (pr.take N) := hv.cut N (by omega)
      have hpt : ∀ x ∈ pr.take N, x.size ≤ 1000 := fun x hx => hp x (List.mem_of_mem_take hx)
      have hptr : ∀ x ∈ (pr.take N).reverse, x.size ≤ 1000 := fun x hx => hpt x (List.mem_reverse.1 hx)
      have hlt : (pr.take N).length = N := by rw [List.length_take]; omega
      have h3 := leftN_lt (n := n) (by omega)
      have h4 := leftN_pos n
      have HLf := Lib.hid (r2left_any n (by omega) (by omega) w)
      have u1 : (N : Int) ≤ (M : Int) := by omega
      have u2 : N ≤ c := by omega
      have u3 : (N : Int) < (M : Int) := by omega
      have hN1 : N ≤ 999 := by omega
      rw [hrev]
      have C0 := Lib.hid c0
      clear hM hrev
      by_cases hmk : m ≤ leftN n
      · rw [grew_less _ _ _ _ _ _ h1 hmk]
        have HW := Lib.hid (fun W (hW : Below w.heap.size w W) => ih m (leftN n) old wh hlt (hv'.below hW) hm hm' (by omega) ho hpt (by omega))
        obtain ⟨g1, g2, g3⟩ := grew_facts old ho (pr.take N).reverse hptr m (leftN n) wh
        rw [List.length_reverse, hlt] at g1
        generalize (grewS old (pr.take N).reverse m (leftN n) wh).1 = X at *
        generalize (grewS old (pr.take N).reverse m (leftN n) wh).2.1 = A at *
        generalize (grewS old (pr.take N).reverse m (leftN n) wh).2.2 = B at *
        have HN := Lib.hid (fun W => r2node_any B x W (by omega) (by omega))
        have hmm : markN B x = ((⟨#[1]⟩ : ByteArray) ++ B) ++ x := ByteArray.append_assoc.symm
        rw [hmm]
        clear hmm
        generalize nodeS B x = R at *
        obtain ⟨k, hk⟩ : ∃ k, k = leftN n := ⟨_, rfl⟩
        rw [← hk] at hmk h3 h4 HLf HW
        have tik : (m : Int) ≤ (k : Int) := by omega
        have e1 : ¬ 9223372036854775807 < 1 + B.size := by omega
        have e2 : ¬ 9223372036854775807 < B.size + 1 := by omega
        have e3 : ¬ 9223372036854775807 < 1 + B.size + x.size := by omega
        have e4 : ¬ 9223372036854775807 < B.size + 1 + x.size := by omega
        clear hv hv' l3 ih hk hpt hptr hp hl ex ex0 d0
        go_enter Tryz.func36, Tryz.ntmps36
        go_wp2_with (first | (go_at_call 70; refine HLf.out.mono ?_; rintro e w1 ⟨rfl, hw1⟩; replace hw1 := hw1.symm; subst hw1) | (go_at_call 36; refine (HW.out _ (Below.refl _ _)).mono ?_; rintro e w2 ⟨v2, rfl, ho2, hb2⟩; have HO2 := Lib.hid ho2; have HB2 := Lib.hid hb2; have HOA := Lib.hid (OwnE.alloc ho2 (.cells #[.string (((⟨#[1]⟩ : ByteArray) ++ B) ++ x)] 9)); have HSA := Lib.hid (SS.one (heap_alloc_new w2 (.cells #[.string (((⟨#[1]⟩ : ByteArray) ++ B) ++ x)] 9))); have HBA := Lib.hid (hb2.alloc hb2.size (.cells #[.string (((⟨#[1]⟩ : ByteArray) ++ B) ++ x)] 9)); clear ho2 hb2) | (at_builtin; refine wpList_append_strs rfl _ _ w.heap.size v2 X _ (.slice (some ⟨w2.heap.size, 0, none⟩) 1 1) HOA.out HSA.out (by simp) (by simp; omega) HBA.out.size rfl rfl rfl ?_; intro v7 w7 hown7 hgr7; have HO7 := Lib.hid hown7; have HB7 := Lib.hid (HBA.out.grown hgr7 HBA.out.size (fun j e => OwnE.ge HOA.out j e)); clear hown7 hgr7) | (go_at_call 71; refine (HN.out _).mono ?_; rintro e w8 ⟨rfl, hb8⟩; have HB8 := Lib.hid (HB7.out.trans (hb8.mono HB7.out.size)); have HO8 := Lib.hid (OwnE.far HO7.out hb8 (Nat.le_refl _)); clear hb8))
        go_ret3
        exact ⟨_, rfl, HO8.out, HB8.out⟩
      · rw [grew_more _ _ _ _ _ _ h1 hmk]
        have HW := Lib.hid (fun W (hW : Below w.heap.size w W) => ih (m - leftN n) (n - leftN n) old false hlt (hv'.below hW) (by omega) (by omega) (by omega) ho hpt (by omega))
        obtain ⟨g1, g2, g3⟩ := grew_facts old ho (pr.take N).reverse hptr (m - leftN n) (n - leftN n) false
        rw [List.length_reverse, hlt] at g1
        generalize (grewS old (pr.take N).reverse (m - leftN n) (n - leftN n) false).1 = X at *
        generalize (grewS old (pr.take N).reverse (m - leftN n) (n - leftN n) false).2.1 = A at *
        generalize (grewS old (pr.take N).reverse (m - leftN n) (n - leftN n) false).2.2 = B at *
        have HNa := Lib.hid (fun W => r2node_any x A W (by omega) (by omega))
        have HNb := Lib.hid (fun W => r2node_any x B W (by omega) (by omega))
        have hma : markN x A = ((⟨#[1]⟩ : ByteArray) ++ x) ++ A := ByteArray.append_assoc.symm
        have hmb : markN x B = ((⟨#[1]⟩ : ByteArray) ++ x) ++ B := ByteArray.append_assoc.symm
        rw [hma, hmb]
        clear hma hmb
        obtain ⟨Ra, hRa⟩ : ∃ R, R = nodeS x A := ⟨_, rfl⟩
        obtain ⟨Rb, hRb⟩ : ∃ R, R = nodeS x B := ⟨_, rfl⟩
        rw [← hRa, ← hRb]
        rw [← hRa] at HNa
        rw [← hRb] at HNb
        clear hRa hRb
        obtain ⟨k, hk⟩ : ∃ k, k = leftN n := ⟨_, rfl⟩
        rw [← hk] at hmk h3 h4 HLf HW
        have tik : ¬ (m : Int) ≤ (k : Int) := by omega
        have q1 : IntKind.i64.wrap ((n : Int) - (k : Int)) = ((n - k : Nat) : Int) := by rw [IntWalk.i64_in _ (by omega)]; omega
        have q2 : IntKind.i64.wrap ((m : Int) - (k : Int)) = ((m - k : Nat) : Int) := by rw [IntWalk.i64_in _ (by omega)]; omega
        have e1 : ¬ 9223372036854775807 < 1 + x.size := by omega
        have e2 : ¬ 9223372036854775807 < x.size + 1 := by omega
        have e3 : ¬ 9223372036854775807 < 1 + x.size + A.size := by omega
        have e4 : ¬ 9223372036854775807 < x.size + 1 + A.size := by omega
        have e5 : ¬ 9223372036854775807 < 1 + x.size + B.size := by omega
        have e6 : ¬ 9223372036854775807 < x.size + 1 + B.size := by omega
        clear hv hv' l3 ih hk hpt hptr hp hl ex ex0 d0
        go_enter Tryz.func36, Tryz.ntmps36
        go_wp2_with (first | (go_at_call 70; refine HLf.out.mono ?_; rintro e w1 ⟨rfl, hw1⟩; replace hw1 := hw1.symm; subst hw1) | (go_at_call 36; refine (HW.out _ (Below.refl _ _)).mono ?_; rintro e w2 ⟨v2, rfl, ho2, hb2⟩; have HO2 := Lib.hid ho2; have HB2 := Lib.hid hb2; have HOA := Lib.hid (OwnE.alloc ho2 (.cells #[.string (((⟨#[1]⟩ : ByteArray) ++ x) ++ A), .string (((⟨#[1]⟩ : ByteArray) ++ x) ++ B)] 9)); have HSA := Lib.hid (SS.lit2 (heap_alloc_new w2 (.cells #[.string (((⟨#[1]⟩ : ByteArray) ++ x) ++ A), .string (((⟨#[1]⟩ : ByteArray) ++ x) ++ B)] 9))); have HBA := Lib.hid (hb2.alloc hb2.size (.cells #[.string (((⟨#[1]⟩ : ByteArray) ++ x) ++ A), .string (((⟨#[1]⟩ : ByteArray) ++ x) ++ B)] 9)); clear ho2 hb2) | (at_builtin; refine wpList_append_strs rfl _ _ w.heap.size v2 X _ (.slice (some ⟨w2.heap.size, 0, none⟩) 2 2) HOA.out HSA.out (by simp) (by simp; omega) HBA.out.size rfl rfl rfl ?_; intro v7 w7 hown7 hgr7; have HO7 := Lib.hid hown7; have HB7 := Lib.hid (HBA.out.grown hgr7 HBA.out.size (fun j e => OwnE.ge HOA.out j e)); clear hown7 hgr7) | (go_at_call 71; first | ((with_reducible refine (HNa.out _).mono ?_); rintro e w8 ⟨rfl, hb8⟩; have HB8 := Lib.hid (HB7.out.trans (hb8.mono HB7.out.size)); have HO8 := Lib.hid (OwnE.far HO7.out hb8 (Nat.le_refl _)); clear hb8) | ((with_reducible refine (HNb.out _).mono ?_); rintro e w9 ⟨rfl, hb9⟩; have HB9 := Lib.hid (HB8.out.trans (hb9.mono HB8.out.size)); have HO9 := Lib.hid (OwnE.far HO8.out hb9 (Nat.le_refl _)); clear hb9)))
        go_ret3
        exact ⟨_, rfl, HO9.out, HB9.out⟩
end Go.Proofs.YtinfpbkbnhcifaaGreatDoor

/- The law's spoiled: some list of strings. The conditions: what the slice reads as, lengths. -/
namespace Go.Proofs.YtinfpbkbnhcifaaGreatDoor
open Go.RowKit Go.BigFrame

theorem OwnS.lit0 (w : World) {base : Nat} (hb : base ≤ w.heap.size) : OwnS (w.alloc (.cells #[] 9)) base (.slice (some ⟨w.heap.size, 0, none⟩) 0 0) [] := World.ownsRow_lit w #[] 0 hb (by decide) rfl
/-- The beginning of an owned row, as an owned row. -/
theorem OwnS.front {w : World} {base : Nat} {a : Option Addr} {n c : Nat} {xs : List ByteArray} (h : OwnS w base (.slice a n c) xs) (k : Nat) (hk : k ≤ n) (ha : a ≠ none) : OwnS w base (.slice a k c) (xs.take k) := by
  obtain ⟨h1, h2⟩ := h
  rw [scells_len] at h2 h1
  unfold OwnS OwnE
  rcases h2 with ⟨h3, _⟩ | ⟨g, cap, cur, h3, h4, h5, h6, h7, h8, h9⟩
  · injection h3 with e1
    exact absurd e1 ha
  · injection h3 with e1 e2 e3
    subst e1 e2 e3
    rw [scells_len, scells_flat]
    refine ⟨by simp, .inr ⟨g, c, cur, ?_, h4, h5, by rw [List.length_take]; omega, h7, h8, ?_⟩⟩
    · rw [List.length_take, Nat.min_eq_left hk]
    · rw [List.length_take, Nat.min_eq_left hk, Nat.mul_one]
      rw [scells_flat, Nat.mul_one] at h9
      rw [List.map_take, ← h9, List.take_take, Nat.min_eq_left hk]
theorem OwnS.set {w : World} {base g n c : Nat} {xs : List ByteArray} (h : OwnS w base (.slice (some ⟨g, 0, none⟩) n c) xs) (k : Nat) (x : ByteArray) :
    OwnS (w.setCell ⟨g, k, none⟩ (.string x)) base (.slice (some ⟨g, 0, none⟩) n c) (xs.set k x) ∧ w.grownBy (w.setCell ⟨g, k, none⟩ (.string x)) (some g) := by
  have hn : (scells xs).length = n := by
    rcases h.2 with ⟨h1, _⟩ | ⟨g', cap, cur, h1, _⟩
    · injection h1 with e; cases e
    · injection h1 with _ e _; exact e.symm
  unfold OwnS OwnE at h ⊢
  rw [hn] at h
  obtain ⟨a, b⟩ := World.ownsRow.stored h k (.string x)
  refine ⟨?_, b⟩
  rw [scells_len, List.length_set, ← scells_len xs, hn, scells_flat, List.map_set]
  rw [scells_flat] at a
  exact a
theorem OwnS.head {w : World} {base g og n c : Nat} {xs : List ByteArray} (h : OwnS w base (.slice (some ⟨g, og, none⟩) n c) xs) : og = 0 := by
  rcases h.2 with ⟨h1, _⟩ | ⟨g', cap, cur, h1, _⟩
  · injection h1 with e; cases e
  · injection h1 with e; cases e; rfl
theorem OwnS.unfrozen {w : World} {base g n c : Nat} {xs : List ByteArray} (h : OwnS w base (.slice (some ⟨g, 0, none⟩) n c) xs) (k : Nat) : w.frozen? ⟨g, k, none⟩ = false := by
  rcases h.2 with ⟨h1, _⟩ | ⟨g', cap, cur, h1, _, hg, _⟩
  · injection h1 with e; cases e
  · injection h1 with e
    cases e
    simp [World.frozen?, hg]
section
variable {ops : Array Oper} {rest : List Oper} {o : Oper} {a : Act} {w : World} {Q : Exit → Act → World → Prop}
theorem wpList_append_cut (hgd : o.guard = none) (s x : Operand) (base : Nat) (v : Value) (xs ys : List ByteArray) (b off m cap : Nat) (hm : m = ys.length) (hown : OwnS w base v xs) (hc : ∀ (j : Nat) (y : ByteArray), ys[j]? = some y → w.cell? ⟨b, off + j, none⟩ = some (.string y)) (hlen : xs.length + ys.length ≤ 1000000) (hbase : base ≤ w.heap.size)
    (ho : o.op = .call { callee := .builtin .append, args := #[s, x], argTypes := #[24, 24] }) (hs : a.eval s = v) (hx : a.eval x = .slice (some ⟨b, off, none⟩) m cap)
    (h : ∀ v' w', OwnS w' base v' (xs ++ ys) → w.grownBy w' v.ownBlock → wpList Tryz.prog ops Q rest (a.put o.dst v') w') : wpList Tryz.prog ops Q (o :: rest) a w := by
  subst hm
  obtain ⟨i, i1, i2, i3, i4⟩ := info_parts infoStr
  refine wpList_append_own w hgd s x 24 ho base 9 i _ 1 16 (by kernel_rfl) i1 i2 i3 i4 rfl (by decide) v _ _ hs hown ⟨b, off, none⟩ ys.length cap (scells ys).flatten hx (by rw [scells_flat]; simp) ?_ ?_ (by rw [scells_len]; unfold maxLen; omega) (by rw [scells_len]; omega) hbase ?_
  · intro j u hj
    rw [scells_flat, List.getElem?_map] at hj
    obtain ⟨y, hy, rfl⟩ := Option.map_eq_some_iff.1 hj
    rw [Addr.add_mid]
    exact hc j y hy
  · intro u hu
    rw [scells_flat] at hu
    obtain ⟨y, _, rfl⟩ := List.mem_map.1 hu
    rfl
  · intro v' w' h1 h2 _
    refine h v' w' ?_ h2
    unfold OwnS OwnE
    have e : scells (xs ++ ys) = scells xs ++ scells ys := by unfold scells; rw [List.map_append]
    rw [e, List.length_append, List.flatten_append, scells_len ys]
    exact h1
end
theorem len_more (n : Nat) (hn : n ≤ 1000) : n + 1 ≤ 1001 := by omega

set_option maxHeartbeats 8000000 in
set_option maxRecDepth 100000 in
theorem spoiled_own {w : World} {v : Value} {xs : List ByteArray} (how : Int) (hh : I64 how) (hv : SS w v xs) (hl : xs.length ≤ 1000) (hx : ∀ x ∈ xs, x.size ≤ 1000) :
    Calls Tryz.prog 29 #[v, .int .i64 how] w fun e w' => ∃ (v' : Value) (zs : List ByteArray), e = .returned v' ∧ OwnS w' w.heap.size v' zs ∧ zs.length ≤ xs.length + 1 ∧ (∀ x ∈ zs, x.size ≤ 1000) ∧ Below w.heap.size w w' := by
  obtain ⟨a, c, rfl, l1, l2, l3⟩ := hv.opened
  have HP3 := Lib.hid (fun W => lpick_any how 3 W hh (by omega) (by omega))
  obtain ⟨p0, p1⟩ := pickI_range how (n := 3) (by omega)
  generalize pickI how 3 = p3 at *
  have HSM := Lib.hid (fun W => r2sum_any ⟨#[109, 111, 114, 101]⟩ W (by decide))
  have hms : (sumS ⟨#[109, 111, 114, 101]⟩).size = 32 := sumS_size _
  generalize sumS ⟨#[109, 111, 114, 101]⟩ = SM at *
  have HO0 := Lib.hid (OwnS.lit0 w (Nat.le_refl _))
  have HB0 := Lib.hid ((Below.refl _ w).alloc (Nat.le_refl _) (.cells #[] 9))
  by_cases hn0 : xs.length = 0
  · have hx0 : xs = [] := List.eq_nil_of_length_eq_zero hn0
    subst hx0
    show Calls _ _ #[.slice a 0 c, .int .i64 how] w _
    have HOA : Hid (∀ W b, OwnS W w.heap.size (.slice (some ⟨b, 0, none⟩) 0 0) [] → w.heap.size ≤ W.heap.size → OwnS W w.heap.size (.slice (some ⟨b, 0, none⟩) 0 0) []) := Lib.hid (fun W b h _ => h)
    clear l3 hv hn0
    iterate 1
      go_enter Tryz.func29, Tryz.ntmps29
      go_upto_region 3 with (at_builtin; refine wpList_append_none rfl _ _ w.heap.size (.slice (some ⟨w.heap.size, 0, none⟩) 0 0) [] HO0.out a c rfl rfl rfl ?_)
      have HBd : Hid (Below w.heap.size w ((w.alloc (.cells #[] 9)))) := HB0
      generalize w.alloc (.cells #[] 9) = w1 at *
      go_wp2_with (first | (go_at_call 57; refine (HSM.out _).mono ?_; rintro e w2 ⟨rfl, hb⟩; have HO2 := Lib.hid (OwnE.far HO0.out hb (Nat.le_refl _)); have HB2 := Lib.hid (HB0.out.trans (hb.mono HB0.out.size)); have HOA2 := Lib.hid (OwnE.alloc HO2.out (.cells #[.string SM] 9)); have HSA2 := Lib.hid (SS.one (heap_alloc_new w2 (.cells #[.string SM] 9))); have HBA2 := Lib.hid (HB2.out.alloc HB2.out.size (.cells #[.string SM] 9)); clear hb) | (at_builtin; refine wpList_append_strs rfl _ _ w.heap.size _ [] _ (.slice (some ⟨w2.heap.size, 0, none⟩) 1 1) HOA2.out HSA2.out (by simp) (by simp) HBA2.out.size rfl rfl rfl ?_; intro v7 w7 hown7 hgr7; have HO7 := Lib.hid hown7; have HB7 := Lib.hid (HBA2.out.grown hgr7 HBA2.out.size (fun j e => OwnE.ge HOA2.out j e)); clear hown7 hgr7))
      go_ret
      refine ⟨_, _, rfl, HO7.out, by simp, fun x hx => ?_, HB7.out⟩
      simp at hx
      subst hx
      omega
  · obtain ⟨b, off, rfl, hb, _⟩ := l3 0 _ (List.getElem?_eq_getElem (by omega))
    have HV := Lib.hid (hv.below ((Below.refl _ w).alloc (Nat.le_refl _) (.cells #[] 9)))
    have HXS := Lib.hid hx
    obtain ⟨n, hn⟩ : ∃ n, n = xs.length := ⟨_, rfl⟩
    rw [← hn] at HV hn0 hl l1 ⊢
    have HN := Lib.hid hn
    have hnpos : 0 < n := by omega
    clear l3 hv hx hn
    obtain ⟨w1, hw1⟩ : ∃ W, W = w.alloc (.cells #[] 9) := ⟨_, rfl⟩
    rw [← hw1] at HV HO0 HB0
    go_enter Tryz.func29, Tryz.ntmps29
    go_upto_region 2 with (at_builtin; rw [← hw1]; refine wpList_append_strs rfl _ _ w.heap.size (.slice (some ⟨w.heap.size, 0, none⟩) 0 0) [] xs (.slice (some ⟨b, off, none⟩) n c) HO0.out HV.out (by rw [← HN.out]; exact hnpos) (by rw [← HN.out]; simp; omega) HB0.out.size rfl rfl rfl ?_; intro v2 w2 hown2 hgr2; have HO2 : Hid (OwnS w2 w.heap.size v2 xs) := Lib.hid hown2; have HB2 := Lib.hid (HB0.out.grown hgr2 HB0.out.size (fun j e => OwnE.ge HO0.out j e)); clear hown2 hgr2)
    obtain ⟨ga, gc, hg⟩ := OwnE.form HO2.out
    rw [scells_len, ← HN.out] at hg
    subst hg
    obtain ⟨ga', gc', eg, q1, q2, q3⟩ := HO2.out.ss.opened
    obtain ⟨g, og, eg2, hgb, _⟩ := q3 0 _ (List.getElem?_eq_getElem (by rw [← HN.out]; exact hnpos))
    have ega : ga = some ⟨g, og, none⟩ := by injection eg with e1; rw [e1]; exact eg2
    have q1' : n ≤ gc := by injection eg with _ e2 e3; omega
    have HQ3 : Hid (∀ (j : Nat) (y : ByteArray), xs[j]? = some y → w2.cell? ⟨g, og + j, none⟩ = some (.string y)) := Lib.hid (fun j y hy => by
      obtain ⟨g', og', e', _, hc⟩ := q3 j y hy
      rw [eg2] at e'
      cases e'
      exact hc)
    subst ega
    clear hw1 eg eg2 q1 q2 HV HO0 HB0
    have tn : ((n : Int) == 0) = false := by simp; omega
    have tnz : ¬ (n : Int) = 0 := by omega
    by_cases h0 : p3 = 0
    · have tp : (p3 == 0) = true := by simp [h0]
      clear h0 p0 p1
      go_wp2_with (first | (go_at_call 16; (with_reducible refine (HP3.out _).mono ?_); rintro e w3 ⟨rfl, hw3⟩; replace hw3 := hw3.symm; subst hw3) | (go_at_call 57; refine (HSM.out _).mono ?_; rintro e w3 ⟨rfl, hb⟩; have HO3 := Lib.hid (OwnE.far HO2.out hb (Nat.le_refl _)); have HB3 := Lib.hid (HB2.out.trans (hb.mono HB2.out.size)); have HOA2 := Lib.hid (OwnE.alloc HO3.out (.cells #[.string SM] 9)); have HSA2 := Lib.hid (SS.one (heap_alloc_new w3 (.cells #[.string SM] 9))); have HBA2 := Lib.hid (HB3.out.alloc HB3.out.size (.cells #[.string SM] 9)); clear hb) | (at_builtin; refine wpList_append_strs rfl _ _ w.heap.size _ xs _ (.slice (some ⟨w3.heap.size, 0, none⟩) 1 1) HOA2.out HSA2.out (by simp) (by rw [← HN.out]; simp; omega) HBA2.out.size rfl rfl rfl ?_; intro v7 w7 hown7 hgr7; have HO7 := Lib.hid hown7; have HB7 := Lib.hid (HBA2.out.grown hgr7 HBA2.out.size (fun j e => OwnE.ge HOA2.out j e)); clear hown7 hgr7))
      go_ret
      refine ⟨_, _, rfl, HO7.out, by rw [List.length_append, ← HN.out]; simp, fun x hx => ?_, HB7.out⟩
      rcases List.mem_append.1 hx with hx | hx
      · exact HXS.out x hx
      · simp at hx
        subst hx
        omega
    · have tp : (p3 == 0) = false := by simp [h0]
      have hq3 : I64 (how.tdiv 3) := by
        obtain ⟨a, b⟩ := hh
        have h3 : (how.tdiv 3).natAbs = how.natAbs / 3 := by rw [Int.natAbs_tdiv]; rfl
        unfold I64
        omega
      have fq : IntKind.i64.wrap (how.tdiv 3) = how.tdiv 3 := IntWalk.i64_in _ (by obtain ⟨a, b⟩ := hq3; omega)
      obtain ⟨k0, k1⟩ := pickI_range (how.tdiv 3) (n := (n : Int)) (by omega)
      have HPK := Lib.hid (fun W => lpick_any (how.tdiv 3) n W hq3 (by omega) (by omega))
      obtain ⟨k, hk⟩ := Int.eq_ofNat_of_zero_le k0
      rw [hk] at HPK k1
      have hkn : k < n := by omega
      clear hk k0
      by_cases h1 : p3 = 1
      · have tp1 : (p3 == 1) = true := by simp [h1]
        clear h0 h1 p0 p1
        have f1 : IntKind.i64.wrap ((k : Int) + 1) = ((k + 1 : Nat) : Int) := by rw [IntWalk.i64_in _ (by omega)]; omega
        go_upto_region 6 with (first | (go_at_call 16; (with_reducible refine (HP3.out _).mono ?_); rintro e w3 ⟨rfl, hw3⟩; replace hw3 := hw3.symm; subst hw3) | (go_at_call 16; (with_reducible refine (HPK.out _).mono ?_); rintro e w3 ⟨rfl, hw3⟩; replace hw3 := hw3.symm; subst hw3))
        have HPX := Lib.hid (OwnS.front HO2.out k (by omega) (by simp))
        have HCX : Hid (∀ (j : Nat) (y : ByteArray), (xs.drop (k + 1))[j]? = some y → w2.cell? ⟨g, og + (k + 1) + j, none⟩ = some (.string y)) := Lib.hid (fun j y h => by
          rw [List.getElem?_drop] at h
          rw [Nat.add_assoc]
          exact HQ3.out _ y h)
        have HDL : Hid (n - (k + 1) = (xs.drop (k + 1)).length) := Lib.hid (by rw [List.length_drop, HN.out])
        have HLL : Hid ((xs.take k).length + (xs.drop (k + 1)).length ≤ n) := Lib.hid (by rw [List.length_take, List.length_drop, ← HN.out]; omega)
        have HZS : Hid (∀ x ∈ xs.take k ++ xs.drop (k + 1), x.size ≤ 1000) := Lib.hid (fun x hx => by
          rcases List.mem_append.1 hx with hx | hx
          · exact HXS.out x (List.mem_of_mem_take hx)
          · exact HXS.out x (List.mem_of_mem_drop hx))
        generalize xs.take k = X1 at *
        generalize xs.drop (k + 1) = X2 at *
        have hgc : gc = k + 1 → n = k + 1 := fun e => by omega
        have u1 : (k : Int) ≤ (n : Int) := by omega
        have u0 : (0 : Int) ≤ (k : Int) := by omega
        have u2 : ((k + 1 : Nat) : Int) ≤ (n : Int) := by omega
        have u3 : (0 : Int) ≤ ((k + 1 : Nat) : Int) := by omega
        have u4 : k ≤ gc := by omega
        obtain ⟨k1', hk1⟩ : ∃ k1', k1' = k + 1 := ⟨_, rfl⟩
        rw [← hk1] at f1 u2 u3 hgc HCX HDL
        have hk1n : k1' ≤ n := by omega
        have HK1 := Lib.hid hk1
        clear hk1
        by_cases hge : gc = k1'
        · have hnk : n = k1' := hgc hge
          have hX2 : X2 = [] := List.eq_nil_of_length_eq_zero (by have := HDL.out; omega)
          subst hX2
          have HLn : Hid (n - k1' = 0) := Lib.hid (by omega)
          clear hgc
          go_wp2
          refine wp_region_quiet_tail 7 (fun w' => ∃ n, w' = w2.drewN n) (by kernel_rfl) (by kernel_rfl) ⟨1, rfl⟩ ?_
          simp only [List.take_succ_cons, List.take_zero, List.drop_succ_cons, List.drop_zero]
          repeat (go_big_quiet_step (fail))
          refine wpQuiet_nil ?_
          rintro _ ⟨nr, rfl⟩
          rw [hge] at HPX
          have HOA := Lib.hid (OwnE.drewN HPX.out nr)
          have HBA : Hid (Below w.heap.size w (w2.drewN nr)) := Lib.hid (below_drewN HB2.out nr)
          go_wp2_with (at_builtin; refine wpList_append_cut rfl _ _ w.heap.size (.slice (some ⟨g, og, none⟩) k k1') X1 [] g og 0 0 rfl HOA.out (fun j y h => by simp at h) (by have := HLL.out; simp at this ⊢; omega) HBA.out.size rfl rfl rfl ?_; intro v7 w7 hown7 hgr7; have HO7 := Lib.hid hown7; have HB7 := Lib.hid (HBA.out.grown hgr7 HBA.out.size (fun j e => OwnE.ge HOA.out j e)); clear hown7 hgr7)
          go_ret
          exact ⟨_, _, rfl, HO7.out, by have := HLL.out; simp at this ⊢; omega, HZS.out, HB7.out⟩
        · clear hgc
          go_wp2
          refine wp_region_quiet_tail 7 (fun w' => ∃ n, w' = w2.drewN n) (by kernel_rfl) (by kernel_rfl) ⟨1, rfl⟩ ?_
          simp only [List.take_succ_cons, List.take_zero, List.drop_succ_cons, List.drop_zero]
          repeat (go_big_quiet_step (fail))
          refine wpQuiet_nil ?_
          rintro _ ⟨nr, rfl⟩
          have HOA := Lib.hid (OwnE.drewN HPX.out nr)
          have HBA : Hid (Below w.heap.size w (w2.drewN nr)) := Lib.hid (below_drewN HB2.out nr)
          have HCA : Hid (∀ (j : Nat) (y : ByteArray), X2[j]? = some y → (w2.drewN nr).cell? ⟨g, og + k1' + j, none⟩ = some (.string y)) := HCX
          go_wp2_with (at_builtin; refine wpList_append_cut rfl _ _ w.heap.size (.slice (some ⟨g, og, none⟩) k gc) X1 X2 g (og + k1') (n - k1') (gc - k1') HDL.out HOA.out HCA.out (by have := HLL.out; omega) HBA.out.size rfl rfl rfl ?_; intro v7 w7 hown7 hgr7; have HO7 := Lib.hid hown7; have HB7 := Lib.hid (HBA.out.grown hgr7 HBA.out.size (fun j e => OwnE.ge HOA.out j e)); clear hown7 hgr7)
          go_ret
          exact ⟨_, _, rfl, HO7.out, by have := HLL.out; rw [List.length_append]; omega, HZS.out, HB7.out⟩
      · have tp1 : (p3 == 1) = false := by simp [h1]
        clear h0 h1 p0 p1
        obtain ⟨x, ex⟩ : ∃ x, xs[k]? = some x := ⟨_, List.getElem?_eq_getElem (by rw [← HN.out]; exact hkn)⟩
        have hcx := HQ3.out k x ex
        have HSX := Lib.hid (r2sum_any x w2 (by have := HXS.out x (List.mem_of_getElem? ex); omega))
        have hsx : (sumS x).size = 32 := sumS_size x
        obtain ⟨S, hS⟩ : ∃ S, S = sumS x := ⟨_, rfl⟩
        rw [← hS] at HSX hsx
        clear hS
        have u0 : (0 : Int) ≤ (k : Int) := by omega
        have u1 : (k : Int) < (n : Int) := by omega
        have hog := HO2.out.head
        subst hog
        rw [Nat.zero_add] at hcx
        have HF : Hid (∀ y ∈ xs.set k S, y.size ≤ 1000) := Lib.hid (fun y hy => by
          rcases List.mem_or_eq_of_mem_set hy with h | h
          · exact HXS.out y h
          · rw [h]; omega)
        go_wp2_with (first | (go_at_call 16; (with_reducible refine (HP3.out _).mono ?_); rintro e w3 ⟨rfl, hw3⟩; replace hw3 := hw3.symm; subst hw3) | (go_at_call 16; (with_reducible refine (HPK.out _).mono ?_); rintro e w3 ⟨rfl, hw3⟩; replace hw3 := hw3.symm; subst hw3) | (go_at_call 57; refine HSX.out.mono ?_; rintro e w3 ⟨rfl, hb3⟩; have HO3 := Lib.hid (OwnE.far HO2.out hb3 (Nat.le_refl _)); have HB3 := Lib.hid (HB2.out.trans (hb3.mono HB2.out.size)); have hcx3 := cell_keepB hb3 hgb hcx; have hfz3 := OwnS.unfrozen HO3.out k; clear hb3))
        have HS3 := Lib.hid (OwnS.set HO3.out k S)
        go_ret
        refine ⟨_, _, rfl, HS3.out.1, by rw [List.length_set, ← HN.out]; omega, HF.out, HB3.out.grown HS3.out.2 HB3.out.size (fun j e => ?_)⟩
        cases e
        exact OwnE.ge HO3.out g rfl
theorem spoiled_any {w : World} {v : Value} {xs : List ByteArray} (how : Int) (hh : I64 how) (hv : SS w v xs) (hl : xs.length ≤ 1000) (hx : ∀ x ∈ xs, x.size ≤ 1000) :
    Calls Tryz.prog 29 #[v, .int .i64 how] w fun e w' => ∃ (v' : Value) (zs : List ByteArray), e = .returned v' ∧ SS w' v' zs ∧ zs.length ≤ xs.length + 1 ∧ (∀ x ∈ zs, x.size ≤ 1000) ∧ Below w.heap.size w w' :=
  (spoiled_own how hh hv hl hx).mono fun _ _ ⟨v', zs, h1, h2, h3, h4, h5⟩ => ⟨v', zs, h1, h2.ss, h3, h4, h5⟩
end Go.Proofs.YtinfpbkbnhcifaaGreatDoor
