/- wire.PutInt at a small number: one group. The condition: the number is from 0 to 63. -/
import Derived.Test.YtinfpbkbnhcifaaGreatDoorQDG12
import Derived.OwnWalkIn
namespace Go.Proofs.YtinfpbkbnhcifaaGreatDoor
open Go.RowKit Go.BigFrame Go.Shelf

attribute [local go_sem] Oper.semAt_some

set_option maxHeartbeats 400000 in
theorem groups_any (z : Nat) (w : World) :
    Calls Tryz.prog 145 #[.int .u64 z] w fun e w' => e = .returned (.func (.func 155) #[] #[.pointer (some ⟨w.heap.size, 0, none⟩)]) ∧ w' = w.alloc (.cells #[.int .u64 z] 150) := by
  go_enter Tryz.func145, Tryz.ntmps145
  go_wp2
  go_ret
  exact ⟨rfl, rfl⟩

theorem low7 : ∀ z : Fin 128, bits BinOp.and IntKind.u64 ((z.val : Nat) : Int) 127 % 256 = ((z.val : Nat) : Int) := by decide +kernel

set_option maxRecDepth 100000 in
set_option maxHeartbeats 1000000 in
theorem groups1_iter (b z : Nat) (hz : z < 128) (w0 : World) (h1 : w0.heap[b]? = some (.cells #[.int .u64 z] 150 (0, 0))) :
    Iter Tryz.prog 155 #[.pointer (some ⟨b, 0, none⟩)] (fun _ : Unit => #[.int .u8 z, .bool true]) (fun A B => B.heap[b]? = A.heap[b]?) none (fun ys => ys.length = 1) (fun _ => True) 1 w0 := by
  intro F m hF hro l J Jx W hW hJ hJx hY h0
  have hbl1 : b < w0.heap.size := (Array.getElem?_eq_some_iff.1 h1).1
  have H1 : Hid (W.heap[b]? = some (.cells #[.int .u64 z] 150 (0, 0))) := Lib.hid ((hW.block b hbl1).trans h1)
  clear h1 hW
  have cI : W.cell? ⟨b, 0, none⟩ = some (.int .u64 z) := cell_of_row W _ 0 _ _ _ H1.out
  refine callsIn_of_wp Tryz.func155 rfl (hF.1 _) ?_ hro
  simp only [Tryz.ntmps155, List.size_toArray, List.length_cons, List.length_nil, Nat.reduceAdd, Nat.reduceSub, Array.replicate_succ, Array.replicate_zero, List.push_toArray, List.append_toArray, List.nil_append, List.cons_append]
  have hlt : (z : Int) < 128 := by omega
  obtain ⟨fn, tmps, assign, body, hy, hR⟩ := hY [] () W h0 (by decide)
  have hy : Sem.run _ (Instr.yield l #[.int .u8 (z : Nat), .bool true]) _ = _ := hy
  have hand : bits BinOp.and IntKind.u64 (z : Int) 127 % 256 = (z : Int) := low7 ⟨z, hz⟩
  gi_wp2
  gi_loopw [3] (fun _ wr => wr = W) (fun _ wr => 0)
  case atStart => rfl
  case round =>
    subst hrel
    gi_wp2
    refine ⟨fun h => (by rw [hF.2.1] at h; cases h), hR.mono ?_⟩
    rintro e W3 (⟨rfl, hJ3, hk3⟩ | ⟨rfl, hJx3⟩)
    · gi_wp2
      refine bodyPost_ret (results_none rfl _ _ _) rfl ?_
      exact ⟨⟨_, rfl⟩, .inl ⟨[()], rfl, hJ3⟩⟩
    · gi_wp2
      refine bodyPost_ret (results_none rfl _ _ _) rfl ?_
      exact ⟨⟨_, rfl⟩, .inr ⟨_, trivial, hJx3⟩⟩

theorem wpListIn_append_el {F : Fence} {n : Nat} {P : Program} {ops : Array Oper} {rest : List Oper} {o : Oper} {a : Act} {w : World} {Q : Exit → Act → World → Prop} (t e : TypeId) (size bytes : Nat) (z : Value) (ht : P.underlying t = some (.slice e)) (hinfo : (P.info? e).map (fun i => (i.zero, i.size, i.bytes)) = some (some z, size, bytes)) (hzs : z.cells.size = size) (hsz : 0 < size)
    (hgd : o.guard = none) (s x : Operand) (ho : o.op = .call { callee := .builtin .append, args := #[s, x], argTypes := #[t, t] })
    (base : Nat) (v : Value) (css : List (List Value)) (hs : a.eval s = v) (hown : OwnE w base e size v css) (b : Nat) (c : List Value) (hc : c.length = size) (hone : ∀ u ∈ c, u.oneCell' = true) (hx : a.eval x = .slice (some ⟨b, 0, none⟩) 1 1) (fr : Nat × Nat)
    (hb : w.heap[b]? = some (.cells c.toArray e fr)) (h63 : css.length + 1 ≤ maxLen) (hbytes : (css.length + 1) * bytes ≤ 140737488355328) (hbase : base ≤ w.heap.size)
    (h : ∀ v' w', OwnE w' base e size v' (css ++ [c]) → w.grownBy w' v.ownBlock → wpListIn F n P ops Q rest (a.put o.dst v') w') : wpListIn F n P ops Q (o :: rest) a w := by
  obtain ⟨i, i1, i2, i3, i4⟩ := info_parts hinfo
  refine wpListIn_append_own w hgd s x t ho base e i z size bytes ht i1 i2 i3 i4 hzs hsz v _ _ hs hown ⟨b, 0, none⟩ 1 1 c hx (by omega) ?_ hone h63 hbytes hbase ?_
  · intro j u hj
    rw [Addr.add_mid, cell_of_row w _ (0 + j) _ _ _ hb, Nat.zero_add, List.getElem?_toArray]
    exact hj
  · intro v' w' h1 h2 _
    refine h v' w' ?_ h2
    unfold OwnE
    rw [List.length_append, List.flatten_append]
    simpa using h1

theorem OwnE.one_form {w : World} {base : Nat} {e : TypeId} {v u : Value} (h : OwnE w base e 1 v ([] ++ [[u]])) :
    ∃ g cap cur, v = .slice (some ⟨g, 0, none⟩) 1 cap ∧ base ≤ g ∧ w.heap[g]? = some (.cells cur e (0, 0)) ∧ cur[0]? = some u ∧ 1 ≤ cap ∧ cap ≤ maxLen := by
  unfold OwnE at h
  rcases h.2 with ⟨_, h0⟩ | ⟨g, cap, cur, hv, hb, hg, h1, h2, h3, h4⟩
  · simp at h0
  · refine ⟨g, cap, cur, by simpa using hv, hb, hg, ?_, by simpa using h1, h2⟩
    have h5 := congrArg (·[0]?) h4
    simpa using h5

theorem infoU8 : (Tryz.prog.info? 5).map (fun i => (i.zero, i.size, i.bytes)) = some (some (.int .u8 0), 1, 1) := by kernel_rfl
theorem small_z : ∀ n : Fin 64, IntKind.u64.wrap ((n.val : Nat) : Int) = ((n.val : Nat) : Int) := by decide +kernel

theorem xor0 : ∀ n : Fin 64, bits BinOp.xor IntKind.u64 (((n.val : Nat) : Int) * 2) 0 = ((2 * n.val : Nat) : Int) := by decide +kernel
theorem shr63 (n : Nat) (hn : n < 64) (w : World) : (Op.shift BinOp.shr IntKind.i64 (n : Int) IntKind.u64 63).run Tryz.prog w = .ok (.int .i64 0) w := by
  have h : n = 0 ∨ n = 1 ∨ n = 2 ∨ n = 3 ∨ n = 4 ∨ n = 5 ∨ n = 6 ∨ n = 7 ∨ n = 8 ∨ n = 9 ∨ n = 10 ∨ n = 11 ∨ n = 12 ∨ n = 13 ∨ n = 14 ∨ n = 15 ∨ n = 16 ∨ n = 17 ∨ n = 18 ∨ n = 19 ∨ n = 20 ∨ n = 21 ∨ n = 22 ∨ n = 23 ∨ n = 24 ∨ n = 25 ∨ n = 26 ∨ n = 27 ∨ n = 28 ∨ n = 29 ∨ n = 30 ∨ n = 31 ∨ n = 32 ∨ n = 33 ∨ n = 34 ∨ n = 35 ∨ n = 36 ∨ n = 37 ∨ n = 38 ∨ n = 39 ∨ n = 40 ∨ n = 41 ∨ n = 42 ∨ n = 43 ∨ n = 44 ∨ n = 45 ∨ n = 46 ∨ n = 47 ∨ n = 48 ∨ n = 49 ∨ n = 50 ∨ n = 51 ∨ n = 52 ∨ n = 53 ∨ n = 54 ∨ n = 55 ∨ n = 56 ∨ n = 57 ∨ n = 58 ∨ n = 59 ∨ n = 60 ∨ n = 61 ∨ n = 62 ∨ n = 63 := by omega
  rcases h with rfl | rfl | rfl | rfl | rfl | rfl | rfl | rfl | rfl | rfl | rfl | rfl | rfl | rfl | rfl | rfl | rfl | rfl | rfl | rfl | rfl | rfl | rfl | rfl | rfl | rfl | rfl | rfl | rfl | rfl | rfl | rfl | rfl | rfl | rfl | rfl | rfl | rfl | rfl | rfl | rfl | rfl | rfl | rfl | rfl | rfl | rfl | rfl | rfl | rfl | rfl | rfl | rfl | rfl | rfl | rfl | rfl | rfl | rfl | rfl | rfl | rfl | rfl | rfl <;> rfl
theorem wpList_shr63 {ops : Array Oper} {rest : List Oper} {o : Oper} {a : Act} {w : World} {Q : Exit → Act → World → Prop} (n : Nat) (hn : n < 64) (x y : Operand) (hgd : o.guard = none) (ho : o.op = Op.binOp BinOp.shr 3 x y 118) (hx : a.eval x = .int .i64 n) (hy : a.eval y = .int .u64 63)
    (h : wpList Tryz.prog ops Q rest (a.put o.dst (.int .i64 0)) w) : wpList Tryz.prog ops Q (o :: rest) a w := by
  refine wpList_run hgd ?_ h
  unfold execOp
  simp only [ho, hx, hy]
  simp only [go_sem]
  simp [shr63 n hn w]

set_option maxHeartbeats 100000 in
set_option maxRecDepth 100000 in
theorem putInt_any (n : Nat) (hn : n < 64) (w : World) :
    Calls Tryz.prog 127 #[.int .i64 n] w fun e w' => e = .returned (.tuple #[.string (strOf [2 * n]), .int .i64 0]) ∧ Below w.heap.size w w' := by
  have h1 : decide ((n : Int) < -4611686018427387903) = false := decide_eq_false (by omega)
  have h2 : decide ((4611686018427387903 : Int) < (n : Int)) = false := decide_eq_false (by omega)
  have hq : (n : Int) / 9223372036854775808 = 0 := by omega
  obtain ⟨z, hz⟩ : ∃ z, z = 2 * n := ⟨_, rfl⟩
  have hz128 : z < 128 := by omega
  have hxor : bits BinOp.xor IntKind.u64 ((n : Int) * 2) 0 = (z : Int) := by rw [hz]; exact xor0 ⟨n, hn⟩
  rw [← hz]
  clear hz
  refine calls_of_callsIn (n := 8) Wide.wide (callsIn_of_wp_marks Tryz.func127 rfl trivial ?_)
  simp only [Tryz.ntmps127, List.size_toArray, List.length_cons, List.length_nil, Nat.reduceAdd, Nat.reduceSub, Array.replicate_succ, Array.replicate_zero, List.push_toArray, List.append_toArray, List.nil_append, List.cons_append]
  refine wpIn_wide.2 ?_
  go_wp2_with (first | (refine wpList_shr63 n hn (.tmp 16) (.const (.int .u64 63)) rfl rfl rfl rfl ?_) | (go_at_call 145; (try rw [hxor]); refine (groups_any z _).mono ?_; rintro e w1 ⟨rfl, rfl⟩))
  obtain ⟨W5, hW5⟩ : ∃ W5, W5 = (w.alloc (.cells #[.slice none 0 0] 88)).alloc (.cells #[.int .u64 z] 150) := ⟨_, rfl⟩
  rw [← hW5]
  have HB0 : Hid (W5.heap[w.heap.size]? = some (.cells #[.slice none 0 0] 88 (0, 0))) := Lib.hid (by rw [hW5]; exact at_past w _ _)
  have HB1 : Hid (W5.heap[w.heap.size + 1]? = some (.cells #[.int .u64 z] 150 (0, 0))) := Lib.hid (by rw [hW5]; exact at_second w _ _)
  have HBw : Hid (Below w.heap.size w W5) := Lib.hid (by rw [hW5]; exact ((Below.refl _ _).alloc (by omega) _).alloc (by simp) _)
  have hs5 : W5.heap.size = w.heap.size + 2 := by rw [hW5]; simp
  obtain ⟨b0, hb0⟩ : ∃ b0, b0 = w.heap.size := ⟨_, rfl⟩
  rw [← hb0] at HB0 HB1 hs5 ⊢
  have hwb : w.heap.size ≤ b0 := by omega
  clear hb0 hW5
  refine (wpIn_wide (n := 8)).1 ?_
  refine wpIn_range (n := 8) Wide.wide rfl (gf := 155) (lb := #[.pointer (some ⟨b0 + 1, 0, none⟩)]) ?ev (fun args w => ?enter) (groups1_iter (b0 + 1) z hz128 W5 HB1.out) (Below.refl _ _) (fun x => rfl) (fun q e => by cases e) (fun h h' => h'.trans h) (fun W l o o' h1 h2 h3 h4 => ?kb)
    (fun pre W => (∃ (v : Value) (g : Nat) (cur : Array Value) (e : TypeId) (fz : Nat × Nat), W.heap[b0]? = some (.cells #[v] 88 (0, 0)) ∧ (W.heap[g]? = some (.cells cur e fz) ∧ ((pre = [] → v = .slice none 0 0) ∧ (pre ≠ [] → (∃ cap, v = .slice (some ⟨g, 0, none⟩) 1 cap) ∧ cur[0]? = some (.int .u8 z))))) ∧ (W.heap[b0 + 1]? = some (.cells #[.int .u64 z] 150 (0, 0)) ∧ Below w.heap.size w W))
    (fun _ _ _ => False) ?abide (fun _ => abide_false _ _) ⟨⟨_, _, _, _, _, HB0.out, HB0.out, fun _ => rfl, fun h => absurd rfl h⟩, HB1.out, HBw.out⟩ (fun x => ⟨#[Value.int IntKind.i64 n, undef, Value.string ⟨#[]⟩, Value.int IntKind.i64 0, Value.pointer (some ⟨b0, 0, none⟩), Value.int IntKind.u8 z, Value.bool true, Value.int IntKind.i64 n, Value.bool false, Value.bool false, Value.int IntKind.i64 n, Value.bool false, Value.bool false, Value.int IntKind.i64 n, Value.int IntKind.u64 n, Value.int IntKind.u64 ((n : Int) * 2), Value.int IntKind.i64 n, Value.int IntKind.i64 0, Value.int IntKind.u64 0, Value.int IntKind.u64 z, Value.func (Fn.func 155) #[] #[Value.pointer (some ⟨b0 + 1, 0, none⟩)], Value.int IntKind.u8 z, Value.bool true, undef, undef, undef, undef, undef, undef, undef, undef, undef, undef], []⟩) (fun l x W K hK => ?assign) (fun l pre x W hI hlen => ?body) (fun Dm xs W hDm hS hI hDd => ?done) (fun Dm c pre W hD hS hI => hI.elim)
  case assign =>
    simp only [List.zip_toArray, List.zip_cons_cons, List.zip_nil_right, List.foldl_toArray', List.foldl_cons, List.foldl_nil, List.setIfInBounds_toArray, List.set_cons_succ, List.set_cons_zero]
    gi_wp2
    exact hK
  case ev => rfl
  case enter => kernel_rfl
  case kb => exact World.putObj_heap_other (fun e => by omega)
  case abide => exact abide_and (abide_ex fun v => abide_ex fun g => abide_ex fun cur => abide_ex fun e => abide_ex fun fz => abide_and (abide_cells (fun _ => .cells #[v] 88) (fun _ => rfl) (by simp)) (abide_and (abide_cells (fun _ => .cells cur e fz) (fun _ => rfl) (by simp)) (abide_pure _ _ _))) (abide_and (abide_old _ (by omega) (by simp)) (abide_below (by omega) (Nat.le_refl _) (fun q e => by cases e)))
  case body =>
    obtain rfl : pre = [] := List.eq_nil_of_length_eq_zero (by omega)
    obtain ⟨⟨v, g, cur, e, fz, g1, _, hv, _⟩, g2, g3⟩ := hI
    obtain rfl := hv rfl
    have hs7 := g3.size
    have hb0W : b0 + 1 < W.heap.size := (Array.getElem?_eq_some_iff.1 g2).1
    have c1 : W.cell? ⟨b0, 0, none⟩ = some (.slice none 0 0) := cell_of_row W _ 0 _ _ _ g1
    have G1 := Lib.hid g1
    have G2 := Lib.hid g2
    have G3 := Lib.hid g3
    clear g1 g2 g3 hv
    gi_wp2_with (refine wpListIn_append_el 88 5 1 1 _ (by kernel_rfl) infoU8 rfl (by decide) rfl (.tmp 27) (.tmp 29) rfl W.heap.size _ [] rfl (OwnE.nil _ _ _ _) W.heap.size [.int .u8 z] rfl (fun u hu => by rw [List.mem_singleton] at hu; subst hu; rfl) rfl (0, 0) (heap_alloc_new _ _) (by decide) (by decide) (by simp) ?_; intro v3 w3 ho3 hg3; obtain ⟨g3, cap3, cur3, rfl, hbg3, hgg3, hcu3, hcc3, hcm3⟩ := ho3.one_form; have HG3 : Hid ((W.alloc (.cells #[.int .u8 z] 5)).grownBy w3 none) := Lib.hid hg3; clear ho3 hg3; have HH3 := Lib.hid hgg3; have HU3 := Lib.hid hcu3; clear hgg3 hcu3; have HC3 : Hid (w3.heap[b0]? = some (.cells #[.slice none 0 0] 88 (0, 0))) := Lib.hid ((HG3.out.block _ (by simp; omega) (by simp)).trans ((Below.heap_alloc _ _ _ (by omega)).trans G1.out)); have d1 : w3.cell? ⟨b0, 0, none⟩ = some (.slice none 0 0) := cell_of_row w3 _ 0 _ _ _ HC3.out; have cf1 : w3.frozen? ⟨b0, 0, none⟩ = false := (by simp [World.frozen?, HC3.out]))
    have hset : w3.grownBy (w3.setCell ⟨b0, 0, none⟩ (.slice (some ⟨g3, 0, none⟩) 1 cap3)) (some b0) := grown_setCell (grown_refl _ _) _ (.inl rfl) _
    have keep : ∀ (q : Nat) (o : Obj), W.heap[q]? = some o → q ≠ b0 → (w3.setCell ⟨b0, 0, none⟩ (.slice (some ⟨g3, 0, none⟩) 1 cap3)).heap[q]? = some o := fun q o hq hne => by
      have hql := (Array.getElem?_eq_some_iff.1 hq).1
      have hq1 := (HG3.out.block q (by simp; omega) (by simp)).trans ((Below.heap_alloc _ _ _ hql).trans hq)
      exact (hset.block q (Array.getElem?_eq_some_iff.1 hq1).1 (fun e => hne (Option.some.inj e))).trans hq1
    have hsz3 : W.heap.size + 1 ≤ w3.heap.size := by have := HG3.out.size; simpa using this
    refine ⟨⟨by have := hset.size; omega, fun q o hB hq hnc => keep q o hq (fun e => ?_)⟩, (keep _ _ G2.out (by omega)).trans G2.out.symm, ⟨_, g3, cur3, 5, (0, 0), ?_, ?_, fun h => absurd h (by simp), fun _ => ⟨⟨cap3, rfl⟩, HU3.out⟩⟩, keep _ _ G2.out (by omega), ?_⟩
    · subst e
      rw [G1.out] at hq
      cases hq
      exact absurd hnc (by simp [Obj.isCells])
    · rw [heap_setCell_same _ HC3.out]
      rfl
    · exact (hset.block g3 (Array.getElem?_eq_some_iff.1 HH3.out).1 (fun e => by have := Option.some.inj e; omega)).trans HH3.out
    · have hb1 : Below w.heap.size w w3 := ((G3.out.alloc hs7 _).grown HG3.out (by simp; omega) (fun j e => by cases e))
      exact hb1.grown hset (by omega) (fun j e => by cases e; exact hwb)
  case done =>
    obtain ⟨⟨v, g, cur, e, fz, g1, g4, _, hv⟩, _, g3⟩ := hI
    have hxs : xs ≠ [] := fun e => by rw [e] at hS; cases hS
    obtain ⟨⟨cap, rfl⟩, hcu⟩ := hv hxs
    have c1 : W.cell? ⟨b0, 0, none⟩ = some (.slice (some ⟨g, 0, none⟩) 1 cap) := cell_of_row W _ 0 _ _ _ g1
    have HC : Hid (∀ j y, [z][j]? = some y → W.cell? ⟨g, 0 + j, none⟩ = some (.int .u8 (y : Nat))) := Lib.hid (fun j y hj => by
      match j, hj with
      | 0, hj =>
        cases hj
        rw [Nat.zero_add, cell_of_row W _ 0 _ _ _ g4]
        exact hcu)
    have G4 := Lib.hid g3
    have HDd := Lib.hid hDd
    have hsW := g3.size
    clear hS g1 g3 g4 hDd hcu hv
    show Exit.inBlock _ _ _ (Act.mk _ [{ target := .collected Dm, args := #[] }]) W
    go_wp2_with (refine wpList_convS [z] (fun y hy => by rw [List.mem_singleton] at hy; omega) 88 9 5 _ g 0 1 cap rfl rfl rfl rfl (by kernel_rfl) (by kernel_rfl) (by kernel_rfl) HC.out ?_)
    have hM : Marks w.heap.size [Dm] W := ⟨by simp, fun D hD => by
      rw [List.mem_singleton] at hD
      subst hD
      exact ⟨by omega, HDd.out⟩⟩
    refine leaves_marks (B := w.heap.size) [Dm] W hM (fun W'' hT => ⟨_, results_tmp2 rfl _ _ _, ?_, G4.out.trans hT.below⟩)
    rfl
end Go.Proofs.YtinfpbkbnhcifaaGreatDoor
