/- The walks of the reference's intervals and has. The conditions: what the slices read as. -/
import Derived.Test.YtbpkfpkhnkcgkaaDoorRWA16
import Derived.Test.YtbpkfpkhnkcgkaaDoorRWA3
import Derived.Test.YtbpkfpkhnkcgkaaDoorRArr
import Derived.Test.YtbpkfpkhnkcgkaaDoorRASpec
namespace Go.Proofs.YtbpkfpkhnkcgkaaDoorR
open Go.RowKit Go.BigFrame

/-- A row of the reference's grid. -/
def bcells (row : Nat → Bool) : Array Value := ((List.range 64).map fun x => Value.bool (row x)).toArray
theorem bcells_size (row : Nat → Bool) : (bcells row).size = 64 := by simp [bcells]
theorem bcells_get (row : Nat → Bool) (x : Nat) (h : x < 64) : (bcells row)[x]? = some (.bool (row x)) := by simp [bcells, h]

def ivCells (x : Nat × Nat) : List Value := [.int .i64 (x.1 : Nat), .int .i64 (x.2 : Nat)]
def ivl (xs : List (Nat × Nat)) : List (List Value) := xs.map ivCells
theorem iv_one' (x : Nat × Nat) : ∀ u ∈ ivCells x, u.oneCell' = true := by
  intro u hu
  simp only [ivCells, List.mem_cons, List.not_mem_nil, or_false] at hu
  rcases hu with rfl | rfl <;> rfl
theorem infoIv : (Tryd.prog.info? 32).map (fun i => (i.zero, i.size, i.bytes)) = some (some (.agg #[.int .i64 0, .int .i64 0]), 2, 16) := by kernel_rfl

theorem wpList_append_iv {ops : Array Oper} {rest : List Oper} {o : Oper} {a : Act} {w : World} {Q : Exit → Act → World → Prop} (s x : Operand) (base : Nat) (v : Value) (xs : List (Nat × Nat)) (b l r : Nat) (hown : OwnE w base 32 2 v (ivl xs)) (hlen : xs.length ≤ 100000) (hbase : base ≤ w.heap.size)
    (hb : w.heap[b]? = some (.cells #[.int .i64 (l : Nat), .int .i64 (r : Nat)] 32 (0, 0)))
    (hgd : o.guard = none) (ho : o.op = .call { callee := .builtin .append, args := #[s, x], argTypes := #[33, 33] }) (hs : a.eval s = v) (hx : a.eval x = .slice (some ⟨b, 0, none⟩) 1 1)
    (h : ∀ v' w', OwnE w' base 32 2 v' (ivl (xs ++ [(l, r)])) → w.grownBy w' v.ownBlock → wpList Tryd.prog ops Q rest (a.put o.dst v') w') : wpList Tryd.prog ops Q (o :: rest) a w :=
  wpList_append_el 33 32 2 16 _ (by kernel_rfl) infoIv rfl (by decide) hgd s x ho base v (ivl xs) hs hown b (ivCells (l, r)) rfl (iv_one' _) hx (0, 0) hb
    (by unfold ivl; rw [List.length_map]; unfold maxLen; omega) (by unfold ivl; rw [List.length_map]; omega) hbase fun v' w' h1 h2 => h v' w' (by unfold ivl; rw [List.map_append]; exact h1) h2

theorem own_ge {w : World} {base : Nat} {e : TypeId} {size : Nat} {v : Value} {css : List (List Value)} (ho : OwnE w base e size v css) : ∀ j, v.ownBlock = some j → base ≤ j := by
  intro j hj
  rcases ho.2 with ⟨rfl, _⟩ | ⟨g, cap, cur, rfl, hbg, _⟩
  · simp [Value.ownBlock] at hj
  · have : j = g := by simpa [Value.ownBlock] using hj.symm
    omega
theorem SliceAt.of_own {w : World} {base : Nat} {e : TypeId} {v : Value} {xs : List (Nat × Nat)} (h : OwnE w base e 2 v (ivl xs)) : SliceAt w v 2 (ivl xs) := by
  refine SliceAt.of_owns (base := base) (e := e) h ?_
  intro c hc
  unfold ivl at hc
  rw [List.mem_map] at hc
  obtain ⟨x, _, rfl⟩ := hc
  rfl

/-- What is found before a place. -/
def Found (row : Nat → Bool) (c : Nat) (xs : List (Nat × Nat)) : Prop := xs = ivsUpto row (min c 64) ∧ (c = 0 ∨ row (c - 1) = false ∨ 64 < c)
theorem Found.zero (row : Nat → Bool) : Found row 0 [] := ⟨rfl, .inl rfl⟩
theorem Found.skip {row : Nat → Bool} {c : Nat} {xs : List (Nat × Nat)} (h : Found row c xs) (hc : c < 64) (hr : row c = false) : Found row (c + 1) xs := by
  obtain ⟨h1, h2⟩ := h
  refine ⟨?_, .inr (.inl (by simpa using hr))⟩
  rw [h1, Nat.min_eq_left (by omega), Nat.min_eq_left (by omega)]
  symm
  refine ivsUpto_skip row c (c + 1) (by omega) (fun x h3 h4 => ?_)
  have e : x = c := by omega
  rw [e]
  unfold starts
  rw [hr]; rfl
theorem Found.next {row : Nat → Bool} {c r : Nat} {xs : List (Nat × Nat)} (h : Found row c xs) (hc : c < 64) (hcr : c < r) (hr : r ≤ 64) (hall : ∀ y, c ≤ y → y < r → row y = true) (he : r = 64 ∨ row r = false) : Found row (r + 1) (xs ++ [(c, r)]) := by
  obtain ⟨h1, h2⟩ := h
  have h3 : c = 0 ∨ row (c - 1) = false ∨ row c = false := by
    rcases h2 with h2 | h2 | h2
    · exact .inl h2
    · exact .inr (.inl h2)
    · omega
  have h4 := ivsUpto_next row c c r h3 (Nat.le_refl _) hcr hr (fun x h5 h6 => by omega) hall he
  rw [Nat.min_eq_left (by omega)] at h1
  rw [h1, ← h4]
  rcases he with he | he
  · subst he
    exact ⟨rfl, .inr (.inr (by omega))⟩
  · refine ⟨?_, .inr (.inl (by simpa using he))⟩
    by_cases e64 : r = 64
    · subst e64; rfl
    · rw [Nat.min_eq_left (by omega)]
      symm
      refine ivsUpto_skip row r (r + 1) (by omega) (fun x h5 h6 => ?_)
      have e : x = r := by omega
      rw [e]
      unfold starts
      rw [he]; rfl
theorem Found.len {row : Nat → Bool} {c : Nat} {xs : List (Nat × Nat)} (h : Found row c xs) : xs.length ≤ 64 := by
  rw [h.1]
  have := ivsUpto_len row (min c 64)
  omega
theorem Found.all {row : Nat → Bool} {c : Nat} {xs : List (Nat × Nat)} (h : Found row c xs) (hc : 64 ≤ c) : xs = ivs row := by
  rw [h.1, Nat.min_eq_right hc]; rfl
/-- The places from l on are taken. -/
def Run (row : Nat → Bool) (c r : Nat) : Prop := ∀ y, c ≤ y → y < r → row y = true

set_option maxHeartbeats 2000000 in
theorem rivs_any (row : Nat → Bool) (Z : Array Value) (hZ : Z = bcells row) (w : World) :
    Calls Tryd.prog 43 #[.agg Z] w fun e w' => ∃ r, e = .returned r ∧ OwnE w' (w.heap.size + 1) 32 2 r (ivl (ivs row)) ∧ Below w.heap.size w w' := by
  have HZ := Lib.hid hZ
  clear hZ
  go_enter Tryd.func43, Tryd.ntmps43
  go_wp2_with (refine wpList_boxA 52 (.tmp 0) Z rfl rfl rfl ?_)
  have hbx : Hid ((w.alloc (.cells Z 52)).heap[w.heap.size]? = some (.cells Z 52 (0, 0))) := Lib.hid (heap_alloc_new _ _)
  have HB0 : Hid (Below w.heap.size w (w.alloc (.cells Z 52))) := Lib.hid ((Below.refl _ _).alloc (Nat.le_refl _) _)
  have hs0 : (w.alloc (.cells Z 52)).heap.size = w.heap.size + 1 := by simp
  generalize w.alloc (.cells Z 52) = W0 at *
  go_loopw [3, 4] (fun v i wr => ∃ (c : Nat) (xs : List (Nat × Nat)), c ≤ 65 ∧ i = .int .i64 c ∧ Found row c xs ∧ OwnE wr (w.heap.size + 1) 32 2 v (ivl xs) ∧ Hid (wr.heap[w.heap.size]? = some (.cells Z 52 (0, 0))) ∧ Below w.heap.size w wr ∧ w.heap.size < wr.heap.size) (fun v i wr => 65 - (intOf i).toNat)
  case atStart => exact ⟨0, [], by omega, rfl, Found.zero _, OwnE.nil _ _ _ _, hbx, HB0.out, by omega⟩
  case round =>
    obtain ⟨c, xs, hc, rfl, hF, hown, hbox, hB, hsz⟩ := hrel
    have HOW := Lib.hid hown
    clear hown
    by_cases hlt : c < 64
    · have cc : wr.cell? ⟨w.heap.size, c, none⟩ = some (.bool (row c)) := by
        rw [cell_of_row wr _ c _ _ _ hbox.out, HZ.out, bcells_get _ _ hlt]
      by_cases hrow : row c = true
      · have HROW := Lib.hid hrow
        rw [hrow] at cc
        clear hrow
        go_wp2
        go_loop [5] (fun i => ∃ r : Nat, c ≤ r ∧ r ≤ 64 ∧ i = .int .i64 r ∧ Run row c r) (fun i => 64 - (intOf i).toNat)
        case atStart => exact ⟨c, Nat.le_refl _, by omega, rfl, fun y h1 h2 => by omega⟩
        case round =>
          obtain ⟨r, hr1, hr2, rfl, hrun⟩ := hrel
          have HRUN := Lib.hid hrun
          clear hrun
          by_cases hmore : r < 64 ∧ row r = true
          · obtain ⟨hr64, hrow⟩ := hmore
            have cr : wr.cell? ⟨w.heap.size, r, none⟩ = some (.bool true) := by
              rw [cell_of_row wr _ r _ _ _ hbox.out, HZ.out, bcells_get _ _ hr64, hrow]
            have HR := Lib.hid hrow
            clear hrow
            go_wp2
            go_round
            case rel =>
              refine ⟨r + 1, by omega, by omega, by go_num, fun y h1 h2 => ?_⟩
              by_cases e : y = r
              · subst e; exact HR.out
              · exact HRUN.out y h1 (by omega)
            case measure => simp [intOf]; omega
          · have he : r = 64 ∨ row r = false := by
              by_cases h1 : r = 64
              · exact .inl h1
              · right
                cases h2 : row r
                · rfl
                · exact absurd ⟨by omega, h2⟩ hmore
            have hcr : c < r := by
              rcases Nat.lt_or_ge c r with h | h
              · exact h
              · have e : r = c := by omega
                subst e
                rcases he with he | he
                · omega
                · have := HROW.out
                  rw [he] at this; cases this
            have HF2 := Lib.hid (Found.next hF hlt hcr hr2 HRUN.out he)
            have hlen := hF.len
            have HE := Lib.hid he
            clear hmore he
            by_cases hr64 : r < 64
            · have cr : wr.cell? ⟨w.heap.size, r, none⟩ = some (.bool false) := by
                rw [cell_of_row wr _ r _ _ _ hbox.out, HZ.out, bcells_get _ _ hr64]
                rcases HE.out with h | h
                · omega
                · rw [h]
              go_wp2_with (at_builtin; refine wpList_append_iv (.tmp 24) (.tmp 28) (w.heap.size + 1) _ xs wr.heap.size c r (OwnE.alloc HOW.out _) (by omega) (by simp; omega) (heap_alloc_new _ _) rfl rfl rfl rfl ?_; intro v' w2 hown2 hg2)
              have HO2 := Lib.hid hown2
              have HB2 := Lib.hid (below_own (hB.alloc hB.size _) (OwnE.alloc HOW.out _) hg2 (by omega))
              have hs2 : w.heap.size < w2.heap.size := by have := hg2.size; simp at this; omega
              have HX2 : Hid (w2.heap[w.heap.size]? = some (.cells Z 52 (0, 0))) := Lib.hid (by
                rw [hg2.block _ (by simp; omega) (fun e => by have := own_ge HOW.out _ e.symm; omega), Below.heap_alloc _ _ _ hsz]
                exact hbox.out)
              clear hg2 hown2
              go_wp2
              go_roundw
              case rel => exact ⟨r + 1, xs ++ [(c, r)], by omega, by go_num, HF2.out, HO2.out, HX2, HB2.out, hs2⟩
              case measure => simp [intOf]; omega
            · go_wp2_with (at_builtin; refine wpList_append_iv (.tmp 24) (.tmp 28) (w.heap.size + 1) _ xs wr.heap.size c r (OwnE.alloc HOW.out _) (by omega) (by simp; omega) (heap_alloc_new _ _) rfl rfl rfl rfl ?_; intro v' w2 hown2 hg2)
              have HO2 := Lib.hid hown2
              have HB2 := Lib.hid (below_own (hB.alloc hB.size _) (OwnE.alloc HOW.out _) hg2 (by omega))
              have hs2 : w.heap.size < w2.heap.size := by have := hg2.size; simp at this; omega
              have HX2 : Hid (w2.heap[w.heap.size]? = some (.cells Z 52 (0, 0))) := Lib.hid (by
                rw [hg2.block _ (by simp; omega) (fun e => by have := own_ge HOW.out _ e.symm; omega), Below.heap_alloc _ _ _ hsz]
                exact hbox.out)
              clear hg2 hown2
              go_wp2
              go_roundw
              case rel => exact ⟨r + 1, xs ++ [(c, r)], by omega, by go_num, HF2.out, HO2.out, HX2, HB2.out, hs2⟩
              case measure => simp [intOf]; omega
      · have hrow : row c = false := by simpa using hrow
        have HF2 := Lib.hid (Found.skip hF hlt hrow)
        rw [hrow] at cc
        clear hrow
        go_wp2
        go_roundw
        case rel => exact ⟨c + 1, xs, by omega, by go_num, HF2.out, HOW.out, hbox, hB, hsz⟩
        case measure => simp [intOf]; omega
    · have HF2 := Lib.hid (hF.all (by omega))
      go_wp2
      go_ret
      exact ⟨_, rfl, by rw [← HF2.out]; exact HOW.out, hB⟩

/-! ### has -/
theorem ivl_open {w : World} {v : Value} {xs : List (Nat × Nat)} (h : SliceAt w v 2 (ivl xs)) : ∃ a cap, v = .slice a xs.length cap ∧ xs.length ≤ cap ∧ cap ≤ maxLen ∧
    ∀ k x, xs[k]? = some x → ∃ b off, a = some ⟨b, off, none⟩ ∧ b < w.heap.size ∧ w.cell? ⟨b, off + k * 2, none⟩ = some (.int .i64 (x.1 : Nat)) ∧ w.cell? ⟨b, off + k * 2 + 1, none⟩ = some (.int .i64 (x.2 : Nat)) := by
  obtain ⟨a, cap, hv, h1, h2, h3⟩ := h
  unfold ivl at hv h1 h3
  rw [List.length_map] at hv h1
  refine ⟨a, cap, hv, h1, h2, fun k x hx => ?_⟩
  rcases h3 with h3 | ⟨b, off, ha, hb, hc⟩
  · simp at h3; subst h3; simp at hx
  · refine ⟨b, off, ha, hb, ?_⟩
    have hk : (xs.map ivCells)[k]? = some (ivCells x) := by rw [List.getElem?_map, hx]; rfl
    exact ⟨hc k _ hk 0 _ rfl, hc k _ hk 1 _ rfl⟩

theorem descA2 : Tryd.prog.underlying 32 = some (.array 2 3) := by kernel_rfl
theorem descInt : Tryd.prog.underlying 3 = some (.int .i64) := by kernel_rfl
theorem sizeInt (w : World) : (sizeOf 3).run Tryd.prog w = .ok 1 w := by kernel_rfl
theorem part2a (a b : Int) (w : World) : (part 3 #[.int .i64 a, .int .i64 b] 0).run Tryd.prog w = .ok (.int .i64 a) w := by kernel_rfl
theorem part2b (a b : Int) (w : World) : (part 3 #[.int .i64 a, .int .i64 b] 1).run Tryd.prog w = .ok (.int .i64 b) w := by kernel_rfl
theorem eq2 (a b c d : Int) (w : World) : (binOp .eql 32 (.agg #[.int .i64 a, .int .i64 b]) (.agg #[.int .i64 c, .int .i64 d])).run Tryd.prog w = .ok (.bool (decide (a = c ∧ b = d))) w := by
  rw [run_eql_struct]
  rw [show (10000 : Nat) = 9998 + 1 + 1 from rfl]
  have e : ∀ x y : Int, (Op.equalIn (9998 + 1) 3 (.int .i64 x) (.int .i64 y)).run Tryd.prog w = .ok (x == y) w := fun x y => run_equalIn_int w 9998 3 .i64 .i64 x y descInt
  rw [Op.equalIn]
  simp only [Sem.run_bind, run_underlying descA2, Result.andThen_ok, sizeInt, Std.Legacy.Range.forIn_eq_forIn_range', Std.Legacy.Range.size]
  simp only [Nat.sub_zero, Nat.add_sub_cancel, Nat.div_one, List.range'_succ, List.range'_zero, List.forIn_cons, List.forIn_nil, Nat.zero_mul, Nat.zero_add, Nat.one_mul, Sem.run_bind, part2a, Result.andThen_ok, e, Sem.run_ite, Sem.run_pure]
  have e9 : ∀ x y : Int, (Op.equalIn 9999 3 (.int .i64 x) (.int .i64 y)).run Tryd.prog w = .ok (x == y) w := e
  by_cases h1 : a = c <;> by_cases h2 : b = d <;> simp [h1, h2, part2b, e9]

def hasL (xs : List (Nat × Nat)) (l r : Nat) : Bool := xs.any fun x => decide (x = (l, r))

set_option maxHeartbeats 1000000 in
theorem rhas_any {w : World} {v : Value} {xs : List (Nat × Nat)} (l r : Nat) (hs : SliceAt w v 2 (ivl xs)) :
    Calls Tryd.prog 44 #[v, .agg #[.int .i64 (l : Nat), .int .i64 (r : Nat)]] w fun e w' => e = .returned (.bool (hasL xs l r)) ∧ Below w.heap.size w w' := by
  obtain ⟨a, cap, rfl, l1, l2, l3⟩ := ivl_open hs
  have H3 := Lib.hid l3
  clear l3 hs
  unfold maxLen at l2
  obtain ⟨n, hn⟩ : ∃ n, n = xs.length := ⟨_, rfl⟩
  rw [← hn] at l1 ⊢
  have HN := Lib.hid hn
  clear hn
  go_enter Tryd.func44, Tryd.ntmps44
  go_wp2
  have HB0 : Hid (Below w.heap.size w (w.alloc (.cells #[.int .i64 (l : Nat), .int .i64 (r : Nat)] 32))) := Lib.hid ((Below.refl _ _).alloc (Nat.le_refl _) _)
  have c0 : (w.alloc (.cells #[.int .i64 (l : Nat), .int .i64 (r : Nat)] 32)).cell? ⟨w.heap.size, 0, none⟩ = some (.int .i64 (l : Nat)) := cell_of_row _ _ 0 _ _ _ (heap_alloc_new _ _)
  have c1 : (w.alloc (.cells #[.int .i64 (l : Nat), .int .i64 (r : Nat)] 32)).cell? ⟨w.heap.size, 1, none⟩ = some (.int .i64 (r : Nat)) := cell_of_row _ _ 1 _ _ _ (heap_alloc_new _ _)
  generalize w.alloc (.cells #[.int .i64 (l : Nat), .int .i64 (r : Nat)] 32) = W0 at *
  go_loopw [5] (fun i wr => ∃ k : Nat, k ≤ n ∧ i = .int .i64 k ∧ Hid (∀ j x, j < k → xs[j]? = some x → decide (x = (l, r)) = false) ∧ ∃ q, wr = W0.drewN q) (fun i wr => n - (intOf i).toNat)
  case atStart => exact ⟨0, by omega, rfl, (by intro j x hj; omega), 0, rfl⟩
  case round =>
    obtain ⟨k, hk, rfl, hall, q, rfl⟩ := hrel
    by_cases hlt : k < n
    · obtain ⟨x, ex⟩ : ∃ x, xs[k]? = some x := ⟨_, List.getElem?_eq_getElem (by rw [← HN.out]; exact hlt)⟩
      obtain ⟨b, off, rfl, hb, d0, d1⟩ := H3.out k x ex
      have EX := Lib.hid ex
      clear ex
      have e0 := cell_keepB HB0.out hb d0
      have e1 := cell_keepB HB0.out hb d1
      clear d0 d1
      have hq := eq2 (x.1 : Nat) (x.2 : Nat) (l : Nat) (r : Nat)
      by_cases hx : x = (l, r)
      · have hd : decide ((x.1 : Int) = l ∧ (x.2 : Int) = r) = true := by rw [hx]; simp
        rw [hd] at hq
        have HX := Lib.hid hx
        clear hx hd
        go_wp2
        go_quiet (fail)
        go_wp2
        go_ret
        refine ⟨ret_bool ?_, below_drewN (below_drewN HB0.out _) _⟩
        unfold hasL
        rw [any_true_of EX.out (by rw [HX.out]; simp)]
      · have hd : decide ((x.1 : Int) = l ∧ (x.2 : Int) = r) = false := by
          rw [decide_eq_false_iff_not]
          rintro ⟨h1, h2⟩
          exact hx (Prod.ext (by omega) (by omega))
        rw [hd] at hq
        have HX := Lib.hid hx
        clear hx hd
        go_wp2
        go_quiet (fail)
        go_wp2
        go_roundw
        case rel =>
          refine ⟨k + 1, by omega, by go_num, ?_, _, rfl⟩
          intro j y hj hy
          by_cases hjk : j = k
          · subst hjk; rw [EX.out] at hy; cases hy; simp [HX.out]
          · exact hall.out j y (by omega) hy
        case measure => simp [intOf]; omega
    · go_wp2
      go_ret
      refine ⟨ret_bool ?_, below_drewN HB0.out _⟩
      unfold hasL
      rw [any_false_of HN.out.symm (fun j x hj => hall.out j x (by omega))]
end Go.Proofs.YtbpkfpkhnkcgkaaDoorR
