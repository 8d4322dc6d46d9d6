/- Which entries a list of parts shows: one more part, one more index, another order; how many they are. Plain theory, no condition. -/
import Derived.Test.YtinfpbkbnhcifaaGreatDoorQ21
import Derived.Test.YtinfpbkbnhcifaaGreatDoorP02
import Derived.Test.YtinfpbkbnhcifaaGreatDoorP00
import Derived.Test.YtinfpbkbnhcifaaGreatDoorQ22
import Derived.Test.YtinfpbkbnhcifaaGreatDoorQ23
namespace Go.Proofs.YtinfpbkbnhcifaaGreatDoor

theorem seen_lt {q : List (Nat × List Nat)} {m : Nat} (h : ∀ y ∈ q, ∀ i ∈ y.2, i < m) {i : Nat} (hi : seenS q i = true) : i < m := by
  unfold seenS at hi
  obtain ⟨y, hy, h1⟩ := List.any_eq_true.1 hi
  obtain ⟨j, hj, h2⟩ := List.any_eq_true.1 h1
  rw [← of_decide_eq_true h2]
  exact h y hy j hj
def turnL {α : Type} (q : List α) (c : Nat) (k : Nat) : List α := (List.range k).filterMap fun i => q[(i + c) % q.length]?
end Go.Proofs.YtinfpbkbnhcifaaGreatDoor

/- An own row of parts beside an array of twelve bools: what RegisterJoins' loop keeps. The conditions: what the rows hold. -/
namespace Go.Proofs.YtinfpbkbnhcifaaGreatDoor
open Go.RowKit Go.BigFrame

theorem infoPart3 : (Tryz.prog.info? 38).map (fun i => (i.zero, i.size, i.bytes)) = some (some partZ, 5, 72) := by kernel_rfl
theorem ptcells_five (zs : List (PartP × Value)) : ∀ c ∈ ptcells zs, c.length = 5 := by
  intro c hc
  unfold ptcells at hc
  obtain ⟨z, _, rfl⟩ := List.mem_map.1 hc
  rfl
theorem ptcells_len (zs : List (PartP × Value)) : (ptcells zs).length = zs.length := List.length_map ..
def boolsS (S : Nat → Bool) : Array Value := ((List.range 12).map fun i => Value.bool (S i)).toArray
def JAt (W1 W : World) (S : Nat → Bool) (v : Value) (zs : List (PartP × Value)) : Prop :=
  Below W1.heap.size W1 W ∧ W.heap[W1.heap.size]? = some (.cells (boolsS S) 75 (0, 0)) ∧ OwnE W W1.heap.size 38 5 v (ptcells zs) ∧ ∀ z ∈ zs, IT W z.2 z.1.items
theorem JAt.far {W1 W W' : World} {S : Nat → Bool} {v : Value} {zs : List (PartP × Value)} (h : JAt W1 W S v zs) (hb : Below W.heap.size W W') : JAt W1 W' S v zs := by
  obtain ⟨h1, h2, h3, h4⟩ := h
  exact ⟨h1.trans (hb.mono h1.size), (hb.block _ (Array.getElem?_eq_some_iff.1 h2).1).trans h2, OwnE.far h3 hb (Nat.le_refl _), fun z hz => (h4 z hz).below hb⟩
theorem JAt.ps {W1 W : World} {S : Nat → Bool} {v : Value} {zs : List (PartP × Value)} (h : JAt W1 W S v zs) : PS W v zs := ⟨OwnE.slice h.2.2.1 (ptcells_five zs), h.2.2.2⟩
theorem IT.own {W W' : World} {base : Nat} {v iv : Value} {css : List (List Value)} {its : List ItemP} (h : IT W iv its) (ho : OwnE W base 38 5 v css) (hg : W.grownBy W' v.ownBlock) : IT W' iv its := by
  rcases ho.2 with ⟨rfl, _⟩ | ⟨g, cap, cur, rfl, _, hgg, _⟩
  · exact h.below ⟨hg.os, hg.tape, hg.output, hg.size, fun i hi => hg.block i hi (by simp [Value.ownBlock])⟩
  · exact IT.grownT h hgg (by decide) (by decide) hg
theorem JAt.append {W1 W W' : World} {S : Nat → Bool} {v v' : Value} {zs : List (PartP × Value)} (h : JAt W1 W S v zs) (z : PartP × Value) (hz : IT W z.2 z.1.items) (ho : OwnE W' W1.heap.size 38 5 v' (ptcells (zs ++ [z]))) (hg : W.grownBy W' v.ownBlock) : JAt W1 W' S v' (zs ++ [z]) := by
  obtain ⟨h1, h2, h3, h4⟩ := h
  refine ⟨h1.grown hg h1.size (fun j e => OwnE.ge h3 j e), (hg.block _ (Array.getElem?_eq_some_iff.1 h2).1 (own_ne h3 h2 (fun c e => by cases e))).trans h2, ho, fun y hy => ?_⟩
  rcases List.mem_append.1 hy with hy | hy
  · exact IT.own (h4 y hy) h3 hg
  · rw [List.mem_singleton.1 hy]; exact IT.own hz h3 hg
section
variable {ops : Array Oper} {rest : List Oper} {o : Oper} {a : Act} {w : World} {Q : Exit → Act → World → Prop}
theorem wpList_append_part (s x : Operand) (base : Nat) (v : Value) (zs : List (PartP × Value)) (b : Nat) (z : PartP × Value) (fr : Nat × Nat) (hown : OwnE w base 38 5 v (ptcells zs)) (hlen : zs.length ≤ 100000) (hbase : base ≤ w.heap.size) (hz1 : z.2.oneCell' = true)
    (hb : w.heap[b]? = some (.cells #[.int .i64 z.1.head.car, .int .i64 z.1.head.siz, .string z.1.head.root, .string z.1.head.sl, z.2] 38 fr)) (hgd : o.guard = none) (ho : o.op = .call { callee := .builtin .append, args := #[s, x], argTypes := #[30, 30] }) (hs : a.eval s = v) (hx : a.eval x = .slice (some ⟨b, 0, none⟩) 1 1)
    (h : ∀ v' w', OwnE w' base 38 5 v' (ptcells (zs ++ [z])) → w.grownBy w' v.ownBlock → wpList Tryz.prog ops Q rest (a.put o.dst v') w') : wpList Tryz.prog ops Q (o :: rest) a w :=
  wpList_append_el 30 38 5 72 _ (by kernel_rfl) infoPart3 rfl (by decide) hgd s x ho base v (ptcells zs) hs hown b [.int .i64 z.1.head.car, .int .i64 z.1.head.siz, .string z.1.head.root, .string z.1.head.sl, z.2] rfl (fun u hu => by simp at hu; rcases hu with rfl | rfl | rfl | rfl | rfl <;> first | rfl | exact hz1) hx fr hb
    (by rw [ptcells_len]; unfold maxLen; omega) (by rw [ptcells_len]; omega) hbase fun v' w' h1 h2 => h v' w' (by unfold ptcells; rw [List.map_append]; exact h1) h2
end
end Go.Proofs.YtinfpbkbnhcifaaGreatDoor

/- The walk of the reference's SameItems. The conditions: what the slices read as. -/
namespace Go.Proofs.YtinfpbkbnhcifaaGreatDoor
open Go.RowKit Go.BigFrame

set_option maxHeartbeats 4000000 in
set_option maxRecDepth 100000 in
theorem sameItems_any {w : World} {v v' : Value} {is js : List ItemP} (hx : IT w v is) (hy : IT w v' js) :
    Calls Tryz.prog 28 #[v, v'] w fun e w' => e = .returned (.bool (decide (is = js))) ∧ Below w.heap.size w w' := by
  obtain ⟨xs, rfl, hxs⟩ := hx
  obtain ⟨ys, rfl, hys⟩ := hy
  replace hxs := hxs.is
  replace hys := hys.is
  obtain ⟨a, cap, rfl, l1, l2, l3⟩ := hxs.opened
  obtain ⟨a', cap', rfl, k1, k2, k3⟩ := hys.opened
  have HX := Lib.hid l3
  have HY := Lib.hid k3
  have HXS := Lib.hid hxs
  have HYS := Lib.hid hys
  unfold maxLen at l2 k2
  obtain ⟨RR, hRR⟩ : ∃ RR, RR = decide (xs.map (·.1) = ys.map (·.1)) := ⟨_, rfl⟩
  rw [← hRR]
  have HRR := Lib.hid hRR
  obtain ⟨n, hn⟩ : ∃ n, n = xs.length := ⟨_, rfl⟩
  obtain ⟨m, hm⟩ : ∃ m, m = ys.length := ⟨_, rfl⟩
  rw [← hn] at l1 ⊢
  rw [← hm] at k1 ⊢
  have HN := Lib.hid hn
  have HM := Lib.hid hm
  clear l3 k3 hn hm hxs hys hRR
  by_cases he : n = m
  · subst he
    go_enter Tryz.func28, Tryz.ntmps28
    go_wp2
    go_loopw [5] (fun i wr => ∃ k : Nat, k ≤ n ∧ i = .int .i64 k ∧ Hid (∀ j, j < k → xs[j]?.map (·.1) = ys[j]?.map (·.1)) ∧ Hid (Below w.heap.size w wr)) (fun i _ => n - (intOf i).toNat)
    case atStart => exact ⟨0, by omega, rfl, by intro j hj; omega, Below.refl _ _⟩
    case round =>
      obtain ⟨k, hk, rfl, hall, hB⟩ := hrel
      by_cases hlt : k < n
      · obtain ⟨x, ex⟩ : ∃ x, xs[k]? = some x := ⟨_, List.getElem?_eq_getElem (by rw [← HN.out]; exact hlt)⟩
        obtain ⟨y, ey⟩ : ∃ y, ys[k]? = some y := ⟨_, List.getElem?_eq_getElem (by rw [← HM.out]; exact hlt)⟩
        obtain ⟨b, off, rfl, hb, c0, c1, c2⟩ := HX.out k x ex
        obtain ⟨b', off', rfl, hb', d0, d1, d2⟩ := HY.out k y ey
        have c0 := cell_keepB hB.out hb c0
        have c1 := cell_keepB hB.out hb c1
        have c2 := cell_keepB hB.out hb c2
        have d0 := cell_keepB hB.out hb' d0
        have d1 := cell_keepB hB.out hb' d1
        have d2 := cell_keepB hB.out hb' d2
        have EX := Lib.hid ex
        have EY := Lib.hid ey
        have hsx := HXS.out.2 x (List.mem_of_getElem? ex)
        have hsy := HYS.out.2 y (List.mem_of_getElem? ey)
        have HF : Hid (x.1 ≠ y.1 → RR = false) := Lib.hid (fun hne => by
          rw [HRR.out]
          apply decide_eq_false
          intro e
          have h1 := congrArg (fun l => l[k]?) e
          simp only [List.getElem?_map, EX.out, EY.out, Option.map_some] at h1
          exact hne (Option.some.inj h1))
        clear ex ey
        obtain ⟨⟨i1, e1, p1⟩, v1⟩ := x
        obtain ⟨⟨i2, e2, p2⟩, v2⟩ := y
        simp only at c0 c1 c2 d0 d1 d2 hsx hsy HF
        obtain ⟨pa, pn, pc, hv1⟩ : ∃ pa pn pc, v1 = .slice pa pn pc := by obtain ⟨pa, pc, h, _⟩ := hsx.opened; exact ⟨_, _, _, h⟩
        obtain ⟨qa, qn, qc, hv2⟩ : ∃ pa pn pc, v2 = .slice pa pn pc := by obtain ⟨pa, pc, h, _⟩ := hsy.opened; exact ⟨_, _, _, h⟩
        subst hv1 hv2
        have HSm := Lib.hid (fun q => same2_any (hsx.below (below_drewN hB.out q)) (hsy.below (below_drewN hB.out q)))
        clear hsx hsy
        have u1 : (0 : Int) ≤ (k : Int) := by omega
        have u2 : (k : Int) < (n : Int) := by omega
        by_cases hi : i1 = i2
        · have bi : (i1 != i2) = false := by simp [hi]
          by_cases hen : e1 = e2
          · have bs : (e1.toList == e2.toList) = true := by rw [same_str]; exact decide_eq_true hen
            by_cases hpr : p1 = p2
            · have HA : Hid (∀ j, j < k + 1 → xs[j]?.map (·.1) = ys[j]?.map (·.1)) := Lib.hid (fun j hj => by
                by_cases hjk : j = k
                · subst hjk
                  rw [EX.out, EY.out, Option.map_some, Option.map_some, hi, hen, hpr]
                · exact hall.out j (by omega))
              have HSm2 := Lib.hid (fun q => HSm.out q)
              rw [decide_eq_true hpr] at HSm2
              clear hi hen hpr HF HSm
              go_wp2
              refine wp_region_quiet_tail 35 (fun w' => ∃ n, w' = wr.drewN n) (by kernel_rfl) (by kernel_rfl) ⟨1, rfl⟩ ?_
              simp only [List.take_succ_cons, List.take_zero, List.drop_succ_cons, List.drop_zero]
              repeat (go_big_quiet_step (fail))
              refine wpQuiet_nil ?_
              rintro _ ⟨nq, rfl⟩
              have HS3 := Lib.hid (HSm2.out nq)
              go_wp2_with (go_at_call 39; refine HS3.out.mono ?_; rintro e w5 ⟨rfl, hb5⟩)
              go_roundw
              case rel => exact ⟨k + 1, by omega, by go_num, HA, (below_drewN hB.out nq).trans (hb5.mono (below_drewN hB.out nq).size)⟩
              case measure => simp [intOf]; omega
            · have HF2 : Hid (RR = false) := Lib.hid (HF.out (fun e => hpr (ItemP.mk.inj e).2.2))
              have HSm2 := Lib.hid (fun q => HSm.out q)
              rw [decide_eq_false hpr] at HSm2
              clear hi hen hpr HF HSm
              go_wp2
              refine wp_region_quiet_tail 35 (fun w' => ∃ n, w' = wr.drewN n) (by kernel_rfl) (by kernel_rfl) ⟨1, rfl⟩ ?_
              simp only [List.take_succ_cons, List.take_zero, List.drop_succ_cons, List.drop_zero]
              repeat (go_big_quiet_step (fail))
              refine wpQuiet_nil ?_
              rintro _ ⟨nq, rfl⟩
              have HS3 := Lib.hid (HSm2.out nq)
              go_wp2_with (go_at_call 39; refine HS3.out.mono ?_; rintro e w5 ⟨rfl, hb5⟩)
              go_ret
              exact ⟨ret_bool HF2.out.symm, (below_drewN hB.out nq).trans (hb5.mono (below_drewN hB.out nq).size)⟩
          · have bs : (e1.toList == e2.toList) = false := by rw [same_str]; exact decide_eq_false hen
            have HF2 : Hid (RR = false) := Lib.hid (HF.out (fun e => hen (ItemP.mk.inj e).2.1))
            clear hi hen HF HSm
            go_wp2
            go_quiet (fail)
            go_wp2
            go_ret
            exact ⟨ret_bool HF2.out.symm, below_drewN hB.out nq⟩
        · have bi : (i1 != i2) = true := by simp [hi]
          have HF2 : Hid (RR = false) := Lib.hid (HF.out (fun e => hi (ItemP.mk.inj e).1))
          clear hi HF HSm
          go_wp2
          go_quiet (fail)
          go_wp2
          go_ret
          exact ⟨ret_bool HF2.out.symm, below_drewN hB.out nq⟩
      · have HT : Hid (RR = true) := Lib.hid (by
          rw [HRR.out]
          refine decide_eq_true (List.ext_getElem? (fun j => ?_))
          rw [List.getElem?_map, List.getElem?_map]
          by_cases hj : j < k
          · exact hall.out j hj
          · rw [List.getElem?_eq_none (by rw [← HN.out]; omega), List.getElem?_eq_none (by rw [← HM.out]; omega)])
        go_wp2
        go_ret
        exact ⟨ret_bool HT.out.symm, hB.out⟩
  · have HF : Hid (RR = false) := Lib.hid (by
      rw [HRR.out]
      refine decide_eq_false (fun e => he ?_)
      have := congrArg List.length e
      rw [List.length_map, List.length_map] at this
      rw [HN.out, HM.out, this])
    have h' : ((n : Int) != (m : Int)) = true := by simp; omega
    go_enter Tryz.func28, Tryz.ntmps28
    go_wp2
    go_ret
    exact ⟨ret_bool HF.out.symm, Below.refl _ _⟩
end Go.Proofs.YtinfpbkbnhcifaaGreatDoor

/- Items opened; Join where parts of one register are known; lists that are turned. The conditions: lengths, bounds. -/
namespace Go.Proofs.YtinfpbkbnhcifaaGreatDoor
open Go.RowKit Go.BigFrame

theorem IT.opened {w : World} {v : Value} {its : List ItemP} (h : IT w v its) : ∃ a cap, v = .slice a its.length cap ∧ its.length ≤ cap ∧ cap ≤ maxLen ∧
    ∀ k x, its[k]? = some x → ∃ b off pv, a = some ⟨b, off, none⟩ ∧ b < w.heap.size ∧ w.cell? ⟨b, off + k * 3, none⟩ = some (.int .i64 x.idx) ∧ w.cell? ⟨b, off + k * 3 + 1, none⟩ = some (.string x.ent) ∧ w.cell? ⟨b, off + k * 3 + 2, none⟩ = some pv ∧ SS w pv x.prf := by
  obtain ⟨ys, rfl, h⟩ := h
  obtain ⟨a, cap, h1, h2, h3, h4⟩ := h.is.opened
  refine ⟨a, cap, by rw [h1, List.length_map], by rw [List.length_map]; exact h2, h3, fun k x hk => ?_⟩
  rw [List.getElem?_map] at hk
  obtain ⟨y, hy, rfl⟩ := Option.map_eq_some_iff.1 hk
  obtain ⟨b, off, e, hb, c0, c1, c2⟩ := h4 k y hy
  exact ⟨b, off, y.2, e, hb, c0, c1, c2, h.is.2 y (List.mem_of_getElem? hy)⟩
def QOk (m : Nat) (q : List (Nat × List Nat)) : Prop := ∀ y ∈ q, y.1 ≤ m ∧ y.2.Pairwise (· < ·) ∧ (∀ i ∈ y.2, i < y.1) ∧ y.2.length ≤ 60
theorem QOk.nil (m : Nat) : QOk m [] := fun _ h => absurd h List.not_mem_nil
theorem QOk.snoc {m : Nat} {q : List (Nat × List Nat)} (h : QOk m q) (n : Nat) (hn : n ≤ m) (hm : m ≤ 60) (bits : Int) : QOk m (q ++ [(n, idxS bits n)]) := by
  intro y hy
  rcases List.mem_append.1 hy with hy | hy
  · exact h y hy
  · rw [List.mem_singleton] at hy
    subst hy
    refine ⟨hn, idxS_asc _ _, idxS_lt _ _, ?_⟩
    have := idxI_len bits n
    unfold idxI at this
    rw [List.length_map] at this
    show (idxS bits n).length ≤ 60
    omega
theorem QOk.turn {m : Nat} {q : List (Nat × List Nat)} (h : QOk m q) (c k : Nat) : QOk m (turnL q c k) := by
  intro y hy
  unfold turnL at hy
  obtain ⟨i, _, e⟩ := List.mem_filterMap.1 hy
  exact h y (List.mem_of_getElem? e)
theorem JAt.start (W1 : World) : JAt W1 (W1.alloc (.cells (boolsS (seenS [])) 75)) (seenS []) (.slice none 0 0) [] :=
  ⟨(Below.refl _ _).alloc (Nat.le_refl _) _, heap_alloc_new _ _, OwnE.nil _ _ _ _, fun _ h => absurd h List.not_mem_nil⟩
theorem QOk.lt {m : Nat} {q : List (Nat × List Nat)} (h : QOk m q) {i : Nat} (hi : seenS q i = true) : i < m := seen_lt (fun y hy j hj => Nat.lt_of_lt_of_le ((h y hy).2.2.1 j hj) (h y hy).1) hi
theorem Below.next {w W W' : World} (h : Below w.heap.size w W) (h' : Below W.heap.size W W') : Below w.heap.size w W' := h.trans (h'.mono h.size)
end Go.Proofs.YtinfpbkbnhcifaaGreatDoor

/- What the walks of the laws use besides: Other and boxes at what is known; strings that are hashed are short. The conditions: what is known, lengths. -/
namespace Go.Proofs.YtinfpbkbnhcifaaGreatDoor
open Go.RowKit Go.BigFrame

theorem other_at {w0 w : World} {ls : List Dat} (k : Know w0 w ls) (i : Nat) {v : Value} {xs : List ByteArray} (hi : ls[i]? = some (.S v xs)) (hl : xs.length ≤ 12) {vy : Value} {ys : List Int} (hy : IL w vy ys) (hr : ∀ n ∈ ys, I64 n) (at' : Int) (ia : I64 at') (car : Int) :
    Calls Tryz.prog 14 #[.agg #[.int .i64 car, v], .int .i64 at', vy] w (HandsR w0 ls car (otherL xs at' ys)) :=
  (other_any car at' ia (k.all i _ hi : SS w v xs) hl hy hr).mono fun _ _ ⟨r, h1, h2, h3⟩ => ⟨r, h1, (k.step h3).put (d := .S r _) h2.ss⟩

theorem four_cells {W : World} {b : Nat} {c0 c1 c2 c3 : Value} {T : TypeId} (h : W.heap[b]? = some (.cells #[c0, c1, c2, c3] T (0, 0))) : W.cell? ⟨b, 0, none⟩ = some c0 ∧ W.cell? ⟨b, 1, none⟩ = some c1 ∧ W.cell? ⟨b, 2, none⟩ = some c2 ∧ W.cell? ⟨b, 3, none⟩ = some c3 :=
  ⟨cell_of_row W _ 0 _ _ _ h, cell_of_row W _ 1 _ _ _ h, cell_of_row W _ 2 _ _ _ h, cell_of_row W _ 3 _ _ _ h⟩
end Go.Proofs.YtinfpbkbnhcifaaGreatDoor

/- The reference's numbers of one byte, and what is signed for a head. The conditions: the numbers are small. -/
namespace Go.Proofs.YtinfpbkbnhcifaaGreatDoor
open Go.RowKit Go.BigFrame

theorem zigzag_any (n : Nat) (hn : n < 64) (w : World) : Calls Tryz.prog 110 #[.int .i64 n] w fun e w' => e = .returned (.int .u64 ((2 * n : Nat) : Int)) ∧ w' = w := by
  have t0 : ¬ (n : Int) < 0 := by omega
  go_enter Tryz.func110, Tryz.ntmps110
  go_wp2
  go_ret
  exact ⟨ret_int (by omega), rfl⟩

set_option maxHeartbeats 1000000 in
theorem r1putInt_any (n : Nat) (hn : n < 64) (w : World) : Calls Tryz.prog 78 #[.int .i64 n] w fun e w' => e = .returned (.tuple #[.string (strOf [2 * n]), .int .i64 0]) ∧ Below w.heap.size w w' := by
  have HZ := Lib.hid (zigzag_any n hn w)
  have t1 : ¬ (n : Int) < -4611686018427387903 := by omega
  have t2 : ¬ (4611686018427387903 : Int) < (n : Int) := by omega
  have t3 : ¬ (128 : Int) ≤ ((2 * n : Nat) : Int) := by omega
  go_enter Tryz.func78, Tryz.ntmps78
  go_wp2_with (go_at_call 110; refine HZ.out.mono ?_; rintro e w1 ⟨rfl, rfl⟩)
  go_loopw [4, 5] (fun z v wr => z = .int .u64 (2 * (n : Int)) ∧ v = .slice none 0 0 ∧ wr = w1) (fun _ _ _ => 0)
  case atStart => exact ⟨rfl, rfl, rfl⟩
  case round =>
    obtain ⟨rfl, rfl, rfl⟩ := hrel
    have t4 : ¬ (128 : Int) ≤ 2 * (n : Int) := by omega
    have HOA : Hid (OwnB (wr.alloc (.cells #[.int .u8 (2 * (n : Int))] 5)) wr.heap.size (.slice none 0 0) []) := Lib.hid (OwnE.nil _ _ _ _)
    have HNA := Lib.hid (heap_alloc_new wr (.cells #[.int .u8 (2 * (n : Int))] 5))
    have HBA := Lib.hid ((Below.refl _ wr).alloc (Nat.le_refl _) (.cells #[.int .u8 (2 * (n : Int))] 5))
    have HY : Hid (2 * (n : Int) = ((2 * n : Nat) : Int)) := Lib.hid (by omega)
    go_upto_region 8 with fail
    go_wp2_with (first | (at_builtin; refine wpList_append_byte _ _ wr.heap.size _ [] wr.heap.size _ (2 * n) HY.out _ HOA.out (by simp) HBA.out.size HNA.out rfl rfl rfl rfl ?_; intro v7 w7 hown7 hgr7; have HO7 : Hid (OwnB w7 wr.heap.size v7 [2 * n]) := Lib.hid hown7; have HB7 := Lib.hid (HBA.out.grown hgr7 HBA.out.size (fun j e => OwnE.ge HOA.out j e)); clear hown7 hgr7; obtain ⟨gx, ox, cx, hv7, _, _, _, hx3⟩ := HO7.out.cells (by simp); have HX3 := Lib.hid hx3; clear hx3; subst hv7) | (refine wpList_convS [2 * n] (fun y hy => by rw [List.mem_singleton] at hy; omega) 88 9 5 _ gx ox 1 cx rfl rfl rfl rfl (by kernel_rfl) (by kernel_rfl) (by kernel_rfl) HX3.out ?_))
    go_ret2
    exact ⟨rfl, HB7.out⟩

theorem content_str (car siz : Nat) (root sl : ByteArray) : strOf [2 * 4] ++ strOf [2 * car] ++ strOf [2 * siz] ++ root = contentB ⟨car, siz, root, sl⟩ := by
  apply ByteArray.ext
  apply Array.toList_inj.1
  simp [ByteArray.data_append, strOf, contentB]

set_option maxHeartbeats 1000000 in
theorem content_any (h : HeadP) (hc : 0 ≤ h.car ∧ h.car ≤ 7) (hs : 0 ≤ h.siz ∧ h.siz ≤ 60) (hr : h.root.size ≤ 1000) (w : World) :
    Calls Tryz.prog 37 #[.agg #[.int .i64 h.car, .int .i64 h.siz, .string h.root, .string h.sl]] w fun e w' => e = .returned (.string (contentB h)) ∧ Below w.heap.size w w' := by
  obtain ⟨car, siz, root, sl⟩ := h
  simp only at hc hs hr ⊢
  obtain ⟨c, rfl⟩ := Int.eq_ofNat_of_zero_le hc.1
  obtain ⟨z, rfl⟩ := Int.eq_ofNat_of_zero_le hs.1
  have H4 := Lib.hid (fun W => r1putInt_any 4 (by omega) W)
  have HC := Lib.hid (fun W => r1putInt_any c (by omega) W)
  have HZ := Lib.hid (fun W => r1putInt_any z (by omega) W)
  have HE := Lib.hid (content_str c z root sl)
  generalize contentB ⟨c, z, root, sl⟩ = R at *
  have z4 := strOf_size [2 * 4]
  have zc := strOf_size [2 * c]
  have zz := strOf_size [2 * z]
  generalize strOf [2 * 4] = A at *
  generalize strOf [2 * c] = B at *
  generalize strOf [2 * z] = C at *
  simp only [List.length_cons, List.length_nil] at z4 zc zz
  go_enter Tryz.func37, Tryz.ntmps37
  have HH0 : Hid ((w.alloc (.cells #[.int .i64 c, .int .i64 z, .string root, .string sl] 35)).heap[w.heap.size]? = some (.cells #[.int .i64 c, .int .i64 z, .string root, .string sl] 35 (0, 0))) := Lib.hid (heap_alloc_new w _)
  have HB0 : Hid (Below w.heap.size w (w.alloc (.cells #[.int .i64 c, .int .i64 z, .string root, .string sl] 35))) := Lib.hid ((Below.refl _ _).alloc (Nat.le_refl _) _)
  go_wp2_with fail
  generalize w.alloc (.cells #[.int .i64 c, .int .i64 z, .string root, .string sl] 35) = w0 at *
  refine (H4.out _).mono ?_
  rintro e w1 ⟨rfl, hb1⟩
  have HH1 := Lib.hid ((hb1.block _ (Array.getElem?_eq_some_iff.1 HH0.out).1).trans HH0.out)
  have HB1 := Lib.hid (HB0.out.trans (hb1.mono HB0.out.size))
  have c1 := cell_of_row w1 w.heap.size 0 _ _ _ HH1.out
  clear hb1
  go_wp2_with fail
  clear c1
  refine (HC.out _).mono ?_
  rintro e w2 ⟨rfl, hb2⟩
  have HH2 := Lib.hid ((hb2.block _ (Array.getElem?_eq_some_iff.1 HH1.out).1).trans HH1.out)
  have HB2 := Lib.hid (HB1.out.trans (hb2.mono HB1.out.size))
  have c2 := cell_of_row w2 w.heap.size 1 _ _ _ HH2.out
  clear hb2
  go_wp2_with fail
  clear c2
  refine (HZ.out _).mono ?_
  rintro e w3 ⟨rfl, hb3⟩
  have HH3 := Lib.hid ((hb3.block _ (Array.getElem?_eq_some_iff.1 HH2.out).1).trans HH2.out)
  have HB3 := Lib.hid (HB2.out.trans (hb3.mono HB2.out.size))
  have c3 := cell_of_row w3 w.heap.size 2 _ _ _ HH3.out
  clear hb3
  have y1 : (A ++ B).size = 2 := by rw [ByteArray.size_append]; omega
  have y2 : (A ++ B ++ C).size = 3 := by rw [ByteArray.size_append]; omega
  go_wp2
  go_ret
  exact ⟨ret_str HE.out, HB3.out⟩
end Go.Proofs.YtinfpbkbnhcifaaGreatDoor

/- Plain laws of parts and heads that are changed: what Bent answers. No condition. -/
namespace Go.Proofs.YtinfpbkbnhcifaaGreatDoor

/-! ### Plain -/
def bentI (its : List ItemP) (j : Nat) (f : ItemP → ItemP) : List ItemP := match its[j]? with
  | some x => its.set j (f x)
  | none => its
def bendK (how : Int) (len : Nat) : Nat := if len = 0 ∧ 3 < (pickI how 7).toNat then (pickI how 7).toNat - 4 else (pickI how 7).toNat
def bentK (p : PartP) (k : Nat) (n at' : Int) : PartP :=
  match k with
  | 0 => { p with head := { p.head with car := n } }
  | 1 => { p with head := { p.head with siz := n } }
  | 2 => { p with head := { p.head with root := sumS p.head.root } }
  | 3 => { p with head := { p.head with siz := IntKind.i64.wrap (p.head.siz + 1) } }
  | 4 => { p with items := bentI p.items (pickI at' p.items.length).toNat fun x => { x with ent := entryS n } }
  | 5 => { p with items := bentI p.items (pickI at' p.items.length).toNat fun x => { x with idx := n } }
  | _ => { p with items := bentI p.items (pickI at' p.items.length).toNat fun x => { x with ent := x.ent ++ ⟨#[120]⟩ } }
def bentP (p : PartP) (how n at' : Int) : PartP := bentK p (bendK how p.items.length) n at'
theorem bendK_le (how : Int) (len : Nat) : bendK how len ≤ 6 ∧ (len = 0 → bendK how len ≤ 3) := by
  have h := pickI_range how (n := 7) (by omega)
  unfold bendK
  split <;> omega

theorem bentK_root (p : PartP) (k : Nat) (n at' : Int) (hr : p.head.root.size ≤ 1000) : (bentK p k n at').head.root.size ≤ 1000 := by
  unfold bentK
  split
  · exact hr
  · exact hr
  · show (sumS p.head.root).size ≤ 1000
    rw [sumS_size]; omega
  · exact hr
  · exact hr
  · exact hr
  · exact hr
theorem bentI_prop (P : ItemP → Prop) (its : List ItemP) (j : Nat) (f : ItemP → ItemP) (h : ∀ x ∈ its, P x) (hf : ∀ x, P x → P (f x)) : ∀ x ∈ bentI its j f, P x := by
  unfold bentI
  split
  · rename_i y hy
    intro x hx
    rcases List.mem_or_eq_of_mem_set hx with e | e
    · exact h x e
    · rw [e]
      exact hf y (h y (List.mem_of_getElem? hy))
  · exact h
theorem bentI_len (its : List ItemP) (j : Nat) (f : ItemP → ItemP) : (bentI its j f).length = its.length := by
  unfold bentI
  split
  · rw [List.length_set]
  · rfl
theorem bentK_len (p : PartP) (k : Nat) (n at' : Int) : (bentK p k n at').items.length = p.items.length := by
  unfold bentK
  split <;> first | rfl | exact bentI_len _ _ _
theorem bentK_items (P : ItemP → Prop) (p : PartP) (k : Nat) (n at' : Int) (h : ∀ x ∈ p.items, P x) (h4 : ∀ x, P x → P { x with ent := entryS n }) (h5 : ∀ x, P x → P { x with idx := n }) (h6 : ∀ x, P x → P { x with ent := x.ent ++ ⟨#[120]⟩ }) : ∀ x ∈ (bentK p k n at').items, P x := by
  unfold bentK
  split
  · exact h
  · exact h
  · exact h
  · exact h
  · exact bentI_prop P _ _ _ h h4
  · exact bentI_prop P _ _ _ h h5
  · exact bentI_prop P _ _ _ h h6
theorem content_size (h : HeadP) : (contentB h).size = 3 + h.root.size := by
  unfold contentB
  show (List.toArray _).size = _
  simp
  omega
end Go.Proofs.YtinfpbkbnhcifaaGreatDoor

/- What Bent answers, and what its own part and row keep. The conditions: what the blocks hold. -/
namespace Go.Proofs.YtinfpbkbnhcifaaGreatDoor
open Go.RowKit Go.BigFrame

/-! ### Cells of rows -/
theorem flat_at {size : Nat} : ∀ (css : List (List Value)), (∀ c ∈ css, c.length = size) → ∀ (j : Nat) (u : Value), css.flatten[j]? = some u → ∃ (i r : Nat) (c : List Value), css[i]? = some c ∧ c[r]? = some u ∧ j = i * size + r := by
  intro css
  induction css with
  | nil => intro _ j u h; simp at h
  | cons d css ih =>
    intro hs j u h
    have hd : d.length = size := hs d (by simp)
    rw [List.flatten_cons] at h
    rcases Nat.lt_or_ge j d.length with h1 | h1
    · rw [List.getElem?_append_left h1] at h
      exact ⟨0, j, d, rfl, h, by omega⟩
    · rw [List.getElem?_append_right h1] at h
      obtain ⟨i, r, c, e1, e2, e3⟩ := ih (fun c hc => hs c (by simp [hc])) _ u h
      exact ⟨i + 1, r, c, by simpa using e1, e2, by rw [Nat.succ_mul]; omega⟩
theorem itcells_len (ys : List (ItemP × Value)) : (itcells ys).length = ys.length := by unfold itcells; rw [List.length_map]
theorem itcells_three (ys : List (ItemP × Value)) : ∀ c ∈ itcells ys, c.length = 3 := by
  intro c hc
  unfold itcells at hc
  obtain ⟨y, _, rfl⟩ := List.mem_map.1 hc
  rfl
theorem itcells_flat (ys : List (ItemP × Value)) : (itcells ys).flatten.length = ys.length * 3 := by
  induction ys with
  | nil => rfl
  | cons y ys ih =>
    have e : (itcells (y :: ys)).flatten = [.int .i64 y.1.idx, .string y.1.ent, y.2] ++ (itcells ys).flatten := rfl
    rw [e, List.length_append, ih]
    show 3 + ys.length * 3 = (ys.length + 1) * 3
    omega
theorem itflat_set : ∀ (ys : List (ItemP × Value)) (k : Nat) (y z : ItemP × Value), ys[k]? = some y → z.2 = y.2 →
    (z.1.ent = y.1.ent → (itcells (ys.set k z)).flatten = (itcells ys).flatten.set (k * 3) (.int .i64 z.1.idx)) ∧
    (z.1.idx = y.1.idx → (itcells (ys.set k z)).flatten = (itcells ys).flatten.set (k * 3 + 1) (.string z.1.ent))
  | [], k, y, z, h, _ => by simp at h
  | x :: ys, 0, y, z, h, hz => by
    simp at h
    subst h
    refine ⟨fun e => ?_, fun e => ?_⟩ <;> simp [itcells, hz, e]
  | x :: ys, k + 1, y, z, h, hz => by
    have ih := itflat_set ys k y z (by simpa using h) hz
    have e : ∀ l : List (ItemP × Value), (itcells (x :: l)).flatten = [.int .i64 x.1.idx, .string x.1.ent, x.2] ++ (itcells l).flatten := fun l => rfl
    simp only [List.set_cons_succ, e]
    refine ⟨fun h1 => ?_, fun h1 => ?_⟩
    · rw [ih.1 h1, List.set_append_right _ _ (by simp; omega)]
      congr 2
      show k * 3 = (k + 1) * 3 - 3
      omega
    · rw [ih.2 h1, List.set_append_right _ _ (by simp; omega)]
      congr 2
      show k * 3 + 1 = (k + 1) * 3 + 1 - 3
      omega

/-! ### Items appended -/
section
variable {ops : Array Oper} {rest : List Oper} {o : Oper} {a : Act} {w : World} {Q : Exit → Act → World → Prop} {K : Act → World → Prop} {E : Prop}
theorem SS.oneCell {w : World} {v : Value} {xs : List ByteArray} (h : SS w v xs) : v.oneCell' = true := by
  obtain ⟨a, c, rfl⟩ := h.form2'
  rfl
theorem wp_append_items (s x : Operand) (base : Nat) (v : Value) (xs ys : List (ItemP × Value)) (vy : Value) (hown : OwnE w base 53 3 v (itcells xs)) (hy : IS w vy ys) (hy0 : 0 < ys.length) (hlen : xs.length + ys.length ≤ 1000000) (hbase : base ≤ w.heap.size)
    (ho : o.op = .call { callee := .builtin .append, args := #[s, x], argTypes := #[36, 36] }) (hs : a.eval s = v) (hx : a.eval x = vy)
    (h : ∀ v' w', OwnE w' base 53 3 v' (itcells (xs ++ ys)) → w.grownBy w' v.ownBlock → K (a.put o.dst v') w') : o.wp Tryz.prog a w K Q := by
  obtain ⟨i, i1, i2, i3, i4⟩ := info_parts infoItem
  obtain ⟨ad, cap, rfl, _, _, h3⟩ := hy.1
  rcases h3 with h3 | ⟨b, off, rfl, hb, hc⟩
  · exfalso
    have := congrArg List.length h3
    rw [itcells_len, List.length_nil] at this
    omega
  refine wp_append_own w s x 36 ho base 53 i _ 3 48 (by kernel_rfl) i1 i2 i3 i4 rfl (by decide) v _ _ hs hown ⟨b, off, none⟩ ys.length cap (itcells ys).flatten (by rw [hx, itcells_len]) ?_ ?_ ?_ (by rw [itcells_len]; unfold maxLen; omega) (by rw [itcells_len]; omega) hbase ?_
  · exact itcells_flat ys
  · intro j u hj
    obtain ⟨i, r, c, e1, e2, e3⟩ := flat_at _ (itcells_three ys) j u hj
    have := hc i c e1 r u e2
    rw [Addr.add_mid, e3, ← Nat.add_assoc]
    exact this
  · intro u hu
    obtain ⟨c, hc1, hu⟩ := List.mem_flatten.1 hu
    unfold itcells at hc1
    obtain ⟨y, hy', rfl⟩ := List.mem_map.1 hc1
    simp at hu
    rcases hu with rfl | rfl | rfl
    · rfl
    · rfl
    · exact SS.oneCell (hy.2 y hy')
  · intro v' w' h1 h2 _
    refine h v' w' ?_ h2
    unfold OwnE
    have e : itcells (xs ++ ys) = itcells xs ++ itcells ys := by unfold itcells; rw [List.map_append]
    rw [e, List.length_append, List.flatten_append, itcells_len ys]
    exact h1
theorem step_append_items (hgd : o.guard = none) (s x : Operand) (base : Nat) (v : Value) (xs ys : List (ItemP × Value)) (vy : Value) (hown : OwnE w base 53 3 v (itcells xs)) (hy : IS w vy ys) (hlen : xs.length + ys.length ≤ 1000000) (hbase : base ≤ w.heap.size)
    (ho : o.op = .call { callee := .builtin .append, args := #[s, x], argTypes := #[36, 36] }) (hs : a.eval s = v) (hx : a.eval x = vy)
    (h : ∀ v' w', OwnE w' base 53 3 v' (itcells (xs ++ ys)) → w.grownBy w' v.ownBlock → K (a.put o.dst v') w') : if Region.wanted o (yielded ops a.tmps) = true then Oper.wp Tryz.prog o a w K Q else E := by
  have hw : Region.wanted o (yielded ops a.tmps) = true := by simp [Region.wanted, hgd]
  rw [if_pos hw]
  rcases Nat.eq_zero_or_pos ys.length with h0 | h0
  · obtain ⟨ad, c, e, _⟩ := hy.opened
    have h1 : ys = [] := List.eq_nil_of_length_eq_zero h0
    subst h1
    subst e
    obtain ⟨i, i1, _⟩ := info_parts infoItem
    exact wp_append_zero s x 36 53 i (by kernel_rfl) i1 base 3 _ v _ hown ad c ho hs hx (h v w (by rw [List.append_nil]; exact hown) (grown_refl _ _))
  · exact wp_append_items s x base v xs ys vy hown hy h0 hlen hbase ho hs hx h
end

/-! ### What the walk of Bent keeps -/
def zpartB : Obj := .cells #[.int .i64 0, .int .i64 0, .string ⟨#[]⟩, .string ⟨#[]⟩, .slice none 0 0] 38 (0, 0)
def BentAt (w : World) (B : Nat) (P : Array Value) (W : World) (b : Nat) (hd : HeadP) (v : Value) (ys : List (ItemP × Value)) : Prop :=
  Below w.heap.size w W ∧ W.heap[w.heap.size]? = some (.cells P 38 (0, 0)) ∧ W.heap[w.heap.size + 1]? = some zpartB ∧ W.heap[b]? = some (.cells #[.int .i64 hd.car, .int .i64 hd.siz, .string hd.root, .string hd.sl, v] 38 (0, 0)) ∧ OwnE W B 53 3 v (itcells ys) ∧ (∀ y ∈ ys, SS W y.2 y.1.prf ∧ RowTy W 9 y.2) ∧ w.heap.size + 1 < b ∧ w.heap.size + 1 < B
theorem BentAt.far {w W W' : World} {B b : Nat} {P : Array Value} {hd : HeadP} {v : Value} {ys : List (ItemP × Value)} (h : BentAt w B P W b hd v ys) (hb : Below W.heap.size W W') : BentAt w B P W' b hd v ys := by
  obtain ⟨h1, h2, h3, h4, h5, h6, h7, h8⟩ := h
  exact ⟨below_next h1 hb, kept_block h2 hb, kept_block h3 hb, kept_block h4 hb, OwnE.far h5 hb (Nat.le_refl _), fun y hy => ⟨(h6 y hy).1.below hb, (h6 y hy).2.below hb⟩, h7, h8⟩
theorem BentAt.head {w W : World} {B b : Nat} {P : Array Value} {hd : HeadP} {v : Value} {ys : List (ItemP × Value)} (h : BentAt w B P W b hd v ys) (i : Nat) (x : Value) (hd' : HeadP)
    (hx : (#[.int .i64 hd.car, .int .i64 hd.siz, .string hd.root, .string hd.sl, v] : Array Value).setIfInBounds i x = #[.int .i64 hd'.car, .int .i64 hd'.siz, .string hd'.root, .string hd'.sl, v]) : BentAt w B P (W.setCell ⟨b, i, none⟩ x) b hd' v ys := by
  obtain ⟨h1, h2, h3, h4, h5, h6, h7, h8⟩ := h
  have hg : W.grownBy (W.setCell ⟨b, i, none⟩ x) (some b) := grown_setCell (grown_refl W (some b)) ⟨b, i, none⟩ (.inl rfl) x
  refine ⟨h1.setCell (p := ⟨b, i, none⟩) (by show w.heap.size ≤ b; omega) x, (Below.heap_setCell _ _ _ _ (by show w.heap.size ≠ b; omega)).trans h2, (Below.heap_setCell _ _ _ _ (by show w.heap.size + 1 ≠ b; omega)).trans h3, ?_, OwnE.grownT h5 h4 (fun c e => by cases e) hg, fun y hy => ?_, h7, h8⟩
  · have := heap_setCell_same (i := i) x h4
    rw [hx] at this
    exact this
  · exact (h6 y hy).1.grownT (h6 y hy).2 hg (fun k e cs fr e' => by
      cases e
      rw [h4] at e'
      cases e')
theorem own_block {W : World} {B g n c : Nat} {e : TypeId} {size : Nat} {css : List (List Value)} (h : OwnE W B e size (.slice (some ⟨g, 0, none⟩) n c) css) : B ≤ g ∧ ∃ cs, W.heap[g]? = some (.cells cs e (0, 0)) := by
  rcases h.2 with ⟨e1, _⟩ | ⟨g', cap, cur, e1, hb, hg, _⟩
  · cases e1
  · cases e1
    exact ⟨hb, cur, hg⟩
theorem BentAt.item {w W : World} {B b g n c : Nat} {P : Array Value} {hd : HeadP} {ys : List (ItemP × Value)} (h : BentAt w B P W b hd (.slice (some ⟨g, 0, none⟩) n c) ys) (j : Nat) (x : Value) (ys' : List (ItemP × Value))
    (hk : (itcells ys').flatten = (itcells ys).flatten.set j x) (hl : ys'.length = ys.length) (hp : ∀ y' ∈ ys', ∃ y ∈ ys, y'.2 = y.2 ∧ y'.1.prf = y.1.prf) : BentAt w B P (W.setCell ⟨g, j, none⟩ x) b hd (.slice (some ⟨g, 0, none⟩) n c) ys' := by
  obtain ⟨h1, h2, h3, h4, h5, h6, h7, h8⟩ := h
  obtain ⟨hBg, cur, hgr⟩ := own_block h5
  have hn : (itcells ys).length = n := by
    rcases h5.2 with ⟨e, _⟩ | ⟨g', cap, cur, e, _⟩
    · cases e
    · injection e with _ e _; exact e.symm
  have h5' := h5
  unfold OwnE at h5'
  rw [hn] at h5'
  obtain ⟨o1, hg⟩ := World.ownsRow.stored h5' j x
  have hbg : b ≠ g := fun e => by
    subst e
    rw [h4] at hgr
    cases hgr
  refine ⟨h1.setCell (p := ⟨g, j, none⟩) (by show w.heap.size ≤ g; omega) x, (Below.heap_setCell _ _ _ _ (by show w.heap.size ≠ g; omega)).trans h2, (Below.heap_setCell _ _ _ _ (by show w.heap.size + 1 ≠ g; omega)).trans h3, (Below.heap_setCell _ _ _ _ hbg).trans h4, ?_, fun y' hy' => ?_, h7, h8⟩
  · unfold OwnE
    rw [hk, itcells_len, hl, ← itcells_len ys, hn]
    exact o1
  · obtain ⟨y, hy, e1, e2⟩ := hp y' hy'
    rw [e1, e2]
    exact (h6 y hy).1.grownT (h6 y hy).2 hg (fun k e cs fr e' => by
      cases e
      rw [hgr] at e'
      cases e')
theorem BentAt.is {w W : World} {B b : Nat} {P : Array Value} {hd : HeadP} {v : Value} {ys : List (ItemP × Value)} (h : BentAt w B P W b hd v ys) : ISt W v ys :=
  ⟨⟨h.2.2.2.2.1.slice (itcells_three ys), fun y hy => (h.2.2.2.2.2.1 y hy).1⟩, rowTy_own h.2.2.2.2.1, fun y hy => (h.2.2.2.2.2.1 y hy).2⟩
theorem mem_set_of {α : Type} {l : List α} {k : Nat} {z : α} {u : α} (hu : u ∈ l.set k z) : u = z ∨ u ∈ l := by
  rcases List.mem_or_eq_of_mem_set hu with h | h
  · exact .inr h
  · exact .inl h
theorem BentAt.idx {w W : World} {B b g n c : Nat} {P : Array Value} {hd : HeadP} {ys : List (ItemP × Value)} (h : BentAt w B P W b hd (.slice (some ⟨g, 0, none⟩) n c) ys) (k : Nat) (y : ItemP × Value) (hk : ys[k]? = some y) (x : Int) :
    BentAt w B P (W.setCell ⟨g, k * 3, none⟩ (.int .i64 x)) b hd (.slice (some ⟨g, 0, none⟩) n c) (ys.set k ({ y.1 with idx := x }, y.2)) :=
  h.item _ _ _ ((itflat_set ys k y ({ y.1 with idx := x }, y.2) hk rfl).1 rfl) (List.length_set ..) (fun u hu => by
    rcases mem_set_of hu with rfl | hu
    · exact ⟨y, List.mem_of_getElem? hk, rfl, rfl⟩
    · exact ⟨u, hu, rfl, rfl⟩)
theorem BentAt.ent {w W : World} {B b g n c : Nat} {P : Array Value} {hd : HeadP} {ys : List (ItemP × Value)} (h : BentAt w B P W b hd (.slice (some ⟨g, 0, none⟩) n c) ys) (k : Nat) (y : ItemP × Value) (hk : ys[k]? = some y) (x : ByteArray) :
    BentAt w B P (W.setCell ⟨g, k * 3 + 1, none⟩ (.string x)) b hd (.slice (some ⟨g, 0, none⟩) n c) (ys.set k ({ y.1 with ent := x }, y.2)) :=
  h.item _ _ _ ((itflat_set ys k y ({ y.1 with ent := x }, y.2) hk rfl).2 rfl) (List.length_set ..) (fun u hu => by
    rcases mem_set_of hu with rfl | hu
    · exact ⟨y, List.mem_of_getElem? hk, rfl, rfl⟩
    · exact ⟨u, hu, rfl, rfl⟩)
theorem bentI_map (ys : List (ItemP × Value)) (k : Nat) (y : ItemP × Value) (hk : ys[k]? = some y) (f : ItemP → ItemP) (pv : Value) : (ys.set k (f y.1, pv)).map (·.1) = bentI (ys.map (·.1)) k f := by
  unfold bentI
  rw [List.getElem?_map, hk, List.map_set]
  rfl
end Go.Proofs.YtinfpbkbnhcifaaGreatDoor
