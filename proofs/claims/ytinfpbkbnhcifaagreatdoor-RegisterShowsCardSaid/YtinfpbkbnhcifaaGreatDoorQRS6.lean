/- The reference's trees: Left, Root. The conditions: what the slices read as, lengths. -/
import Derived.Test.YtinfpbkbnhcifaaGreatDoorQRS4
import Derived.Test.YtinfpbkbnhcifaaGreatDoorQMSpec
import Derived.Test.YtinfpbkbnhcifaaGreatDoorQLexO
import Derived.Test.YtinfpbkbnhcifaaGreatDoorQDG14
namespace Go.Proofs.YtinfpbkbnhcifaaGreatDoor
open Go.RowKit Go.BigFrame

set_option maxHeartbeats 1000000 in
theorem r2left_any (n : Nat) (h2 : 2 ≤ n) (hn : n ≤ 1000000) (w : World) : Calls Tryz.prog 70 #[.int .i64 n] w fun e w' => e = .returned (.int .i64 (leftN n : Nat)) ∧ w' = w := by
  obtain ⟨L, hL⟩ : ∃ L, L = leftN n := ⟨_, rfl⟩
  have HL : Hid (∀ j, 2 ^ j < n → n ≤ 2 * 2 ^ j → L = 2 ^ j) := Lib.hid (fun j a b => by rw [hL]; exact leftN_of a b)
  rw [← hL]
  clear hL
  go_enter Tryz.func70, Tryz.ntmps70
  go_wp2
  go_loop [3] (fun v => ∃ j k : Nat, k < n ∧ v = .int .i64 k ∧ Hid (k = 2 ^ j)) (fun v => n - (intOf v).toNat)
  case atStart => exact ⟨0, 1, by omega, rfl, rfl⟩
  case round =>
    obtain ⟨j, k, hk, rfl, hj⟩ := hrel
    have hpos : 0 < k := by have := hj.out; rw [this]; exact Nat.two_pow_pos _
    have f1 : IntKind.i64.wrap ((n : Int) - (k : Int)) = (n : Int) - (k : Int) := IntWalk.i64_in _ (by omega)
    have f2 : IntKind.i64.wrap (2 * (k : Int)) = 2 * (k : Int) := IntWalk.i64_in _ (by omega)
    by_cases hlt : k < n - k
    · have t1 : (k : Int) < (n : Int) - (k : Int) := by omega
      go_wp2
      go_round
      case rel => exact ⟨j + 1, 2 * k, by omega, by congr 1, Lib.hid (by have := hj.out; rw [this, Nat.pow_succ, Nat.mul_comm])⟩
      case measure => simp [intOf]; omega
    · have t1 : ¬ (k : Int) < (n : Int) - (k : Int) := by omega
      have HR : Hid (L = k) := Lib.hid (by rw [hj.out]; exact HL.out j (by rw [← hj.out]; exact hk) (by rw [← hj.out]; omega))
      go_wp2
      go_ret
      exact ⟨ret_int (by rw [HR.out]), rfl⟩

theorem rootB_nil : rootB [] = sumS ⟨#[]⟩ := rfl
set_option maxHeartbeats 4000000 in
set_option maxRecDepth 100000 in
theorem r2root_any (N : Nat) : ∀ (n : Nat), n ≤ N → ∀ {w : World} {v : Value} {xs : List ByteArray}, xs.length = n → SS w v xs → n ≤ 1000 → (∀ x ∈ xs, x.size ≤ 100000) → Calls Tryz.prog 72 #[v] w fun e w' => e = .returned (.string (rootB xs)) ∧ Below w.heap.size w w' := by
  induction N with
  | zero =>
    intro n hn w v xs hx hv _ _
    have hx0 : xs = [] := List.eq_nil_of_length_eq_zero (by omega)
    subst hx0
    obtain ⟨a, c, rfl, _, _, _⟩ := hv.opened
    have HS := Lib.hid (r2mark_any ⟨#[]⟩ _ _ rfl w (by decide) rootB_nil)
    generalize rootB [] = R at *
    go_enter Tryz.func72, Tryz.ntmps72
    go_wp2_with (go_at_call 57; refine HS.out.mono ?_; rintro e w1 ⟨rfl, hb⟩)
    go_ret
    exact ⟨rfl, hb⟩
  | succ N ih =>
    intro n hn w v xs hx hv h1 hs
    obtain ⟨a, c, rfl, l1, l2, l3⟩ := hv.opened
    rcases Nat.lt_or_ge n 2 with h2 | h2
    · rcases Nat.lt_or_ge n 1 with h3 | h3
      · have hx0 : xs = [] := List.eq_nil_of_length_eq_zero (by omega)
        subst hx0
        have HS := Lib.hid (r2mark_any ⟨#[]⟩ _ _ rfl w (by decide) rootB_nil)
        generalize rootB [] = R at *
        go_enter Tryz.func72, Tryz.ntmps72
        go_wp2_with (go_at_call 57; refine HS.out.mono ?_; rintro e w1 ⟨rfl, hb⟩)
        go_ret
        exact ⟨rfl, hb⟩
      · obtain ⟨s, rfl⟩ : ∃ s, xs = [s] := by
          match xs, hx with
          | [s], _ => exact ⟨s, rfl⟩
          | [], hx => simp at hx; omega
          | _ :: _ :: _, hx => simp at hx; omega
        obtain ⟨b, off, rfl, hb, c0⟩ := l3 0 s rfl
        rw [Nat.add_zero] at c0
        have HS := Lib.hid (r2leaf_any s w (by have := hs s (by simp); omega))
        rw [rootB_one]
        generalize leafS s = R at *
        clear hv hs l3
        show Calls _ _ #[.slice (some ⟨b, off, none⟩) 1 c] w _
        go_enter Tryz.func72, Tryz.ntmps72
        go_wp2_with (go_at_call 38; refine HS.out.mono ?_; rintro e w1 ⟨rfl, hb⟩)
        go_ret
        exact ⟨rfl, hb⟩
    · have h3 := leftN_lt h2
      have h4 := leftN_pos n
      obtain ⟨b, off, rfl, hb, c0⟩ := l3 0 _ (List.getElem?_eq_getElem (by omega))
      rw [rootB_two xs (by omega), hx]
      have HLf := Lib.hid (r2left_any n h2 (by omega) w)
      rw [hx] at hv l1
      obtain ⟨k, hk⟩ : ∃ k, k = leftN n := ⟨_, rfl⟩
      rw [← hk] at h3 h4 HLf ⊢
      have HA : Hid (∀ W, Below w.heap.size w W → Calls Tryz.prog 72 #[.slice (some ⟨b, off, none⟩) k c] W fun e w' => e = .returned (.string (rootB (xs.take k))) ∧ Below W.heap.size W w') := Lib.hid (fun W hW => ih k (by omega) (by rw [List.length_take]; omega) ((hv.cut k (by omega)).below hW) (by omega) (fun x hx => hs x (List.mem_of_mem_take hx)))
      have HB : Hid (∀ W, Below w.heap.size w W → Calls Tryz.prog 72 #[.slice (some ⟨b, off + k, none⟩) (n - k) (c - k)] W fun e w' => e = .returned (.string (rootB (xs.drop k))) ∧ Below W.heap.size W w') := Lib.hid (fun W hW => ih (n - k) (by omega) (by rw [List.length_drop]; omega) ((hv.drop k (by omega)).below hW) (by omega) (fun x hx => hs x (List.mem_of_mem_drop hx)))
      have HN := Lib.hid (fun W => r2node_any (rootB (xs.take k)) (rootB (xs.drop k)) W (by rw [rootB_size]; omega) (by rw [rootB_size]; omega))
      generalize rootB (xs.take k) = A at *
      generalize rootB (xs.drop k) = B at *
      generalize nodeS A B = R at *
      have HBd : Hid (Below w.heap.size w w.drew) := Lib.hid (below_drewN (Below.refl _ _) 1)
      have t0 : ((n : Int) == 0) = false := by simp; omega
      have t1 : ((n : Int) == 1) = false := by simp; omega
      have u1 : (k : Int) ≤ (n : Int) := by omega
      have u2 : (0 : Int) ≤ (k : Int) := by omega
      have u3 : ¬ c = k := by omega
      have u4 : k ≤ c := by omega
      unfold maxLen at l2
      clear l3 hv hs ih hx hk c0
      generalize xs.length = m at *
      go_enter Tryz.func72, Tryz.ntmps72
      go_upto_region 6 with (go_at_call 70; refine HLf.out.mono ?_; rintro e w1 ⟨rfl, rfl⟩)
      refine wp_region_noPanic ?_
      refine wp_region_lexO [3, 7, 8] [0, 1, 2, 4, 5, 6, 3, 7, 8, 9] (fun _ => True) (by kernel_rfl) (by kernel_rfl) rfl (fun _ _ _ _ _ h => h) trivial ?_
      refine wpLexO_takeL (v := ?_) rfl (by rfl) (Or.inl ⟨by rfl, ?_⟩) ?_
      rotate_left
      · intro w hSw; (try dsimp only at hSw); go_simp; try with_reducible rfl
      simp only [Act.put, List.setIfInBounds_toArray, List.set_cons_zero, List.set_cons_succ]
      refine wpLexO_takeL (v := ?_) rfl (by rfl) (Or.inl ⟨by rfl, ?_⟩) ?_
      rotate_left
      · intro w hSw; (try dsimp only at hSw); go_simp; try with_reducible rfl
      simp only [Act.put, List.setIfInBounds_toArray, List.set_cons_zero, List.set_cons_succ]
      refine wpLexO_takeL (v := ?_) rfl (by rfl) (Or.inl ⟨by rfl, ?_⟩) ?_
      rotate_left
      · intro w hSw; (try dsimp only at hSw); go_simp; try with_reducible rfl
      simp only [Act.put, List.setIfInBounds_toArray, List.set_cons_zero, List.set_cons_succ]
      refine wpLexO_takeL (v := ?_) rfl (by rfl) (Or.inl ⟨by rfl, ?_⟩) ?_
      rotate_left
      · intro w hSw; (try dsimp only at hSw); go_simp; try with_reducible rfl
      simp only [Act.put, List.setIfInBounds_toArray, List.set_cons_zero, List.set_cons_succ]
      refine wpLexO_takeL (v := ?_) rfl (by rfl) (Or.inl ⟨by rfl, ?_⟩) ?_
      rotate_left
      · intro w hSw; (try dsimp only at hSw); go_simp; try with_reducible rfl
      simp only [Act.put, List.setIfInBounds_toArray, List.set_cons_zero, List.set_cons_succ]
      refine wpLexO_takeL (v := ?_) rfl (by rfl) (Or.inl ⟨by rfl, ?_⟩) ?_
      rotate_left
      · intro w hSw; (try dsimp only at hSw); go_simp; try with_reducible rfl
      simp only [Act.put, List.setIfInBounds_toArray, List.set_cons_zero, List.set_cons_succ]
      refine wpLexO_bigL rfl (by rfl) (fun K hK => ?_)
      go_simp
      go_at_call 72
      with_reducible refine (HA.out _ HBd.out).mono ?_
      rintro e w2 ⟨rfl, hb⟩
      have HB2 := Lib.hid (HBd.out.trans (hb.mono HBd.out.size))
      clear hb
      refine hK.out _ _ trivial (fun _ => ?_)
      clear hK K
      refine wpLexO_bigL rfl (by rfl) (fun K hK => ?_)
      go_simp
      go_at_call 72
      with_reducible refine (HB.out _ HB2.out).mono ?_
      rintro e w3 ⟨rfl, hb⟩
      have HB3 := Lib.hid (HB2.out.trans (hb.mono HB2.out.size))
      clear hb
      refine hK.out _ _ trivial (fun _ => ?_)
      clear hK K
      refine wpLexO_bigL rfl (by rfl) (fun K hK => ?_)
      go_simp
      go_at_call 71
      with_reducible refine (HN.out _).mono ?_
      rintro e w4 ⟨rfl, hb⟩
      have HB4 := Lib.hid (HB3.out.trans (hb.mono HB3.out.size))
      clear hb
      refine hK.out _ _ trivial (fun _ => ?_)
      clear hK K
      refine wpLexO_takeL (v := ?_) rfl (by rfl) (Or.inl ⟨by rfl, ?_⟩) ?_
      rotate_left
      · intro w hSw; (try dsimp only at hSw); go_simp; try with_reducible rfl
      simp only [Act.put, List.setIfInBounds_toArray, List.set_cons_zero, List.set_cons_succ]
      refine wpLexO_nil ?_
      refine NoPanic.normal ?_
      go_wp2
      go_ret
      exact ⟨rfl, HB4.out⟩
end Go.Proofs.YtinfpbkbnhcifaaGreatDoor

/- The reference's Hashed. The conditions: what the slice reads as, lengths. -/
namespace Go.Proofs.YtinfpbkbnhcifaaGreatDoor
open Go.RowKit Go.BigFrame

theorem scells_len (xs : List ByteArray) : (scells xs).length = xs.length := by unfold scells; rw [List.length_map]
theorem OwnE.mono {w : World} {base base' size : Nat} {e : TypeId} {v : Value} {css : List (List Value)} (h : OwnE w base e size v css) (hb : base' ≤ base) : OwnE w base' e size v css :=
  ⟨h.1, h.2.imp id fun ⟨g, cap, cur, e1, h1, r⟩ => ⟨g, cap, cur, e1, Nat.le_trans hb h1, r⟩⟩
section
variable {ops : Array Oper} {rest : List Oper} {o : Oper} {a : Act} {w : World} {Q : Exit → Act → World → Prop} {K : Act → World → Prop} {E : Prop}
theorem wp_append_strs (s x : Operand) (base : Nat) (v : Value) (xs ys : List ByteArray) (vy : Value) (hown : OwnS w base v xs) (hy : SS w vy ys) (hy0 : 0 < ys.length) (hlen : xs.length + ys.length ≤ 1000000) (hbase : base ≤ w.heap.size)
    (ho : o.op = .call { callee := .builtin .append, args := #[s, x], argTypes := #[24, 24] }) (hs : a.eval s = v) (hx : a.eval x = vy)
    (h : ∀ v' w', OwnS w' base v' (xs ++ ys) → w.grownBy w' v.ownBlock → K (a.put o.dst v') w') : o.wp Tryz.prog a w K Q := by
  obtain ⟨ad, cap, rfl, _, _, hc⟩ := hy.opened
  obtain ⟨b, off, rfl, hb, _⟩ := hc 0 _ (List.getElem?_eq_getElem hy0)
  obtain ⟨i, i1, i2, i3, i4⟩ := info_parts infoStr
  refine wp_append_own w s x 24 ho base 9 i _ 1 16 (by kernel_rfl) i1 i2 i3 i4 rfl (by decide) v _ _ hs hown ⟨b, off, none⟩ ys.length cap (scells ys).flatten hx (by rw [scells_flat]; simp) ?_ ?_ (by rw [scells_len]; unfold maxLen; omega) (by rw [scells_len]; omega) hbase ?_
  · intro j u hj
    rw [scells_flat, List.getElem?_map] at hj
    obtain ⟨y, hy, rfl⟩ := Option.map_eq_some_iff.1 hj
    obtain ⟨b', off', e, _, c0⟩ := hc j y hy
    cases e
    rw [Addr.add_mid]
    exact c0
  · intro u hu
    rw [scells_flat] at hu
    obtain ⟨y, _, rfl⟩ := List.mem_map.1 hu
    rfl
  · intro v' w' h1 h2 _
    refine h v' w' ?_ h2
    unfold OwnS OwnE
    have e : scells (xs ++ ys) = scells xs ++ scells ys := by unfold scells; rw [List.map_append]
    rw [e, List.length_append, List.flatten_append, scells_len ys]
    exact h1
theorem step_append_strs (hgd : o.guard = none) (s x : Operand) (base : Nat) (v : Value) (xs ys : List ByteArray) (vy : Value) (hown : OwnS w base v xs) (hy : SS w vy ys) (hy0 : 0 < ys.length) (hlen : xs.length + ys.length ≤ 1000000) (hbase : base ≤ w.heap.size)
    (ho : o.op = .call { callee := .builtin .append, args := #[s, x], argTypes := #[24, 24] }) (hs : a.eval s = v) (hx : a.eval x = vy)
    (h : ∀ v' w', OwnS w' base v' (xs ++ ys) → w.grownBy w' v.ownBlock → K (a.put o.dst v') w') : if Region.wanted o (yielded ops a.tmps) = true then Oper.wp Tryz.prog o a w K Q else E := by
  have hw : Region.wanted o (yielded ops a.tmps) = true := by simp [Region.wanted, hgd]
  rw [if_pos hw]
  exact wp_append_strs s x base v xs ys vy hown hy hy0 hlen hbase ho hs hx h
theorem wpList_append_strs (hgd : o.guard = none) (s x : Operand) (base : Nat) (v : Value) (xs ys : List ByteArray) (vy : Value) (hown : OwnS w base v xs) (hy : SS w vy ys) (hy0 : 0 < ys.length) (hlen : xs.length + ys.length ≤ 1000000) (hbase : base ≤ w.heap.size)
    (ho : o.op = .call { callee := .builtin .append, args := #[s, x], argTypes := #[24, 24] }) (hs : a.eval s = v) (hx : a.eval x = vy)
    (h : ∀ v' w', OwnS w' base v' (xs ++ ys) → w.grownBy w' v.ownBlock → wpList Tryz.prog ops Q rest (a.put o.dst v') w') : wpList Tryz.prog ops Q (o :: rest) a w :=
  wpList_plain hgd fun _ hK => wp_append_strs s x base v xs ys vy hown hy hy0 hlen hbase ho hs hx fun v' w' h1 h2 => hK _ _ (h v' w' h1 h2)
end
theorem OwnS.lit1 (w : World) (x : ByteArray) {base : Nat} (hb : base ≤ w.heap.size) : OwnS (w.alloc (.cells #[.string x] 9)) base (.slice (some ⟨w.heap.size, 0, none⟩) 1 1) [x] := World.ownsRow_lit w #[.string x] 1 hb (by decide) rfl
theorem hashedS_len (xs : List ByteArray) : 0 < (hashedS xs).length ∧ (hashedS xs).length + 1 ≤ 2 * max xs.length 1 := by
  obtain ⟨n, hn⟩ : ∃ n, xs.length = n := ⟨_, rfl⟩
  induction n using Nat.strongRecOn generalizing xs with
  | _ n ih =>
    rcases Nat.lt_or_ge xs.length 2 with h | h
    · match xs, h with
      | [], _ => exact ⟨by decide, by decide⟩
      | [s], _ => rw [hashedS_one]; exact ⟨by simp, by simp⟩
    · have h3 := leftN_lt h
      have h4 := leftN_pos xs.length
      rw [hashedS_two xs h]
      generalize leftN xs.length = k at *
      have a := ih k (by omega) (xs.take k) (by rw [List.length_take]; omega)
      have b := ih (xs.length - k) (by omega) (xs.drop k) (by rw [List.length_drop])
      rw [List.length_take] at a
      rw [List.length_drop] at b
      simp only [List.length_append, List.length_cons, List.length_nil]
      omega
theorem hashedS_nil : hashedS [] = [⟨#[]⟩] := rfl

set_option maxHeartbeats 8000000 in
set_option maxRecDepth 100000 in
theorem hashed_any (N : Nat) : ∀ (n : Nat), n ≤ N → ∀ {w : World} {v : Value} {xs : List ByteArray}, xs.length = n → SS w v xs → n ≤ 1000 → (∀ x ∈ xs, x.size ≤ 100000) → Calls Tryz.prog 32 #[v] w fun e w' => ∃ v', e = .returned v' ∧ OwnS w' w.heap.size v' (hashedS xs) ∧ Below w.heap.size w w' := by
  induction N with
  | zero =>
    intro n hn w v xs hx hv _ _
    have hx0 : xs = [] := List.eq_nil_of_length_eq_zero (by omega)
    subst hx0
    obtain ⟨a, c, rfl, _, _, _⟩ := hv.opened
    rw [hashedS_nil]
    go_enter Tryz.func32, Tryz.ntmps32
    go_wp2
    go_ret
    exact ⟨_, rfl, OwnS.lit1 w _ (Nat.le_refl _), (Below.refl _ _).alloc (Nat.le_refl _) _⟩
  | succ N ih =>
    intro n hn w v xs hx hv h1 hs
    obtain ⟨a, c, rfl, l1, l2, l3⟩ := hv.opened
    rcases Nat.lt_or_ge n 2 with h2 | h2
    · rcases Nat.lt_or_ge n 1 with h3 | h3
      · have hx0 : xs = [] := List.eq_nil_of_length_eq_zero (by omega)
        subst hx0
        rw [hashedS_nil]
        go_enter Tryz.func32, Tryz.ntmps32
        go_wp2
        go_ret
        exact ⟨_, rfl, OwnS.lit1 w _ (Nat.le_refl _), (Below.refl _ _).alloc (Nat.le_refl _) _⟩
      · obtain ⟨s, rfl⟩ : ∃ s, xs = [s] := by
          match xs, hx with
          | [s], _ => exact ⟨s, rfl⟩
          | [], hx => simp at hx; omega
          | _ :: _ :: _, hx => simp at hx; omega
        obtain ⟨b, off, rfl, hb, c0⟩ := l3 0 s rfl
        rw [Nat.add_zero] at c0
        rw [hashedS_one]
        have hz := hs s (by simp)
        have hz2 := mark_size 0 s
        show Calls _ _ #[.slice (some ⟨b, off, none⟩) 1 c] w fun e w' => ∃ v', e = .returned v' ∧ OwnS w' w.heap.size v' [⟨#[0]⟩ ++ s] ∧ Below w.heap.size w w'
        go_enter Tryz.func32, Tryz.ntmps32
        go_wp2
        go_ret
        exact ⟨_, rfl, OwnS.lit1 w _ (Nat.le_refl _), (Below.refl _ _).alloc (Nat.le_refl _) _⟩
    · have h3 := leftN_lt h2
      have h4 := leftN_pos n
      obtain ⟨b, off, rfl, hb, c0⟩ := l3 0 _ (List.getElem?_eq_getElem (by omega))
      rw [hashedS_two xs (by omega), hx]
      have HLf := Lib.hid (r2left_any n h2 (by omega) w)
      rw [hx] at hv l1
      obtain ⟨k, hk⟩ : ∃ k, k = leftN n := ⟨_, rfl⟩
      rw [← hk] at h3 h4 HLf ⊢
      have HH1 : Hid (∀ W, Below w.heap.size w W → Calls Tryz.prog 32 #[.slice (some ⟨b, off, none⟩) k c] W fun e w' => ∃ v', e = .returned v' ∧ OwnS w' W.heap.size v' (hashedS (xs.take k)) ∧ Below W.heap.size W w') := Lib.hid (fun W hW => ih k (by omega) (by rw [List.length_take]; omega) ((hv.cut k (by omega)).below hW) (by omega) (fun x hx => hs x (List.mem_of_mem_take hx)))
      have HH2 : Hid (∀ W, Below w.heap.size w W → Calls Tryz.prog 32 #[.slice (some ⟨b, off + k, none⟩) (n - k) (c - k)] W fun e w' => ∃ v', e = .returned v' ∧ OwnS w' W.heap.size v' (hashedS (xs.drop k)) ∧ Below W.heap.size W w') := Lib.hid (fun W hW => ih (n - k) (by omega) (by rw [List.length_drop]; omega) ((hv.drop k (by omega)).below hW) (by omega) (fun x hx => hs x (List.mem_of_mem_drop hx)))
      have HR1 : Hid (∀ W, Below w.heap.size w W → Calls Tryz.prog 72 #[.slice (some ⟨b, off, none⟩) k c] W fun e w' => e = .returned (.string (rootB (xs.take k))) ∧ Below W.heap.size W w') := Lib.hid (fun W hW => r2root_any k k (Nat.le_refl _) (by rw [List.length_take]; omega) ((hv.cut k (by omega)).below hW) (by omega) (fun x hx => hs x (List.mem_of_mem_take hx)))
      have HR2 : Hid (∀ W, Below w.heap.size w W → Calls Tryz.prog 72 #[.slice (some ⟨b, off + k, none⟩) (n - k) (c - k)] W fun e w' => e = .returned (.string (rootB (xs.drop k))) ∧ Below W.heap.size W w') := Lib.hid (fun W hW => r2root_any (n - k) (n - k) (Nat.le_refl _) (by rw [List.length_drop]; omega) ((hv.drop k (by omega)).below hW) (by omega) (fun x hx => hs x (List.mem_of_mem_drop hx)))
      obtain ⟨m1, m2⟩ := hashedS_len (xs.take k)
      obtain ⟨m3, m4⟩ := hashedS_len (xs.drop k)
      rw [List.length_take] at m2
      rw [List.length_drop] at m4
      have hz1 := rootB_size (xs.take k)
      have hz2 := rootB_size (xs.drop k)
      have hmk : markN (rootB (xs.take k)) (rootB (xs.drop k)) = ((⟨#[1]⟩ : ByteArray) ++ rootB (xs.take k)) ++ rootB (xs.drop k) := ByteArray.append_assoc.symm
      rw [hmk]
      have hzm := mark_size 1 (rootB (xs.take k))
      clear hmk
      generalize rootB (xs.take k) = A at *
      generalize rootB (xs.drop k) = B at *
      generalize hashedS (xs.take k) = X at *
      generalize hashedS (xs.drop k) = Y at *
      have HBd : Hid (Below w.heap.size w w.drew) := Lib.hid (below_drewN (Below.refl _ _) 1)
      have t0 : ((n : Int) == 0) = false := by simp; omega
      have t1 : ((n : Int) == 1) = false := by simp; omega
      have u1 : (k : Int) ≤ (n : Int) := by omega
      have u2 : (0 : Int) ≤ (k : Int) := by omega
      have u3 : ¬ c = k := by omega
      have u4 : k ≤ c := by omega
      have hXl : X.length ≤ 3000 := by omega
      have hYl : Y.length ≤ 3000 := by omega
      unfold maxLen at l2
      clear l3 hv hs ih hx hk c0 m2 m4
      generalize xs.length = m at *
      go_enter Tryz.func32, Tryz.ntmps32
      go_upto_region 6 with (go_at_call 70; refine HLf.out.mono ?_; rintro e w1 ⟨rfl, rfl⟩)
      refine wp_region_noPanic ?_
      refine wp_region_lexO [3, 7, 8] [0, 1, 2, 4, 5, 6, 3, 7, 8, 9] (fun _ => True) (by kernel_rfl) (by kernel_rfl) rfl (fun _ _ _ _ _ h => h) trivial ?_
      refine wpLexO_takeL (v := ?_) rfl (by rfl) (Or.inl ⟨by rfl, ?_⟩) ?_
      rotate_left
      · intro w hSw; (try dsimp only at hSw); go_simp; try with_reducible rfl
      simp only [Act.put, List.setIfInBounds_toArray, List.set_cons_zero, List.set_cons_succ]
      refine wpLexO_takeL (v := ?_) rfl (by rfl) (Or.inl ⟨by rfl, ?_⟩) ?_
      rotate_left
      · intro w hSw; (try dsimp only at hSw); go_simp; try with_reducible rfl
      simp only [Act.put, List.setIfInBounds_toArray, List.set_cons_zero, List.set_cons_succ]
      refine wpLexO_takeL (v := ?_) rfl (by rfl) (Or.inl ⟨by rfl, ?_⟩) ?_
      rotate_left
      · intro w hSw; (try dsimp only at hSw); go_simp; try with_reducible rfl
      simp only [Act.put, List.setIfInBounds_toArray, List.set_cons_zero, List.set_cons_succ]
      refine wpLexO_takeL (v := ?_) rfl (by rfl) (Or.inl ⟨by rfl, ?_⟩) ?_
      rotate_left
      · intro w hSw; (try dsimp only at hSw); go_simp; try with_reducible rfl
      simp only [Act.put, List.setIfInBounds_toArray, List.set_cons_zero, List.set_cons_succ]
      refine wpLexO_takeL (v := ?_) rfl (by rfl) (Or.inl ⟨by rfl, ?_⟩) ?_
      rotate_left
      · intro w hSw; (try dsimp only at hSw); go_simp; try with_reducible rfl
      simp only [Act.put, List.setIfInBounds_toArray, List.set_cons_zero, List.set_cons_succ]
      refine wpLexO_takeL (v := ?_) rfl (by rfl) (Or.inl ⟨by rfl, ?_⟩) ?_
      rotate_left
      · intro w hSw; (try dsimp only at hSw); go_simp; try with_reducible rfl
      simp only [Act.put, List.setIfInBounds_toArray, List.set_cons_zero, List.set_cons_succ]
      refine wpLexO_bigL rfl (by rfl) (fun K hK => ?_)
      go_simp
      go_at_call 32
      with_reducible refine (HH1.out _ HBd.out).mono ?_
      rintro e w2 ⟨v2, rfl, ho, hb⟩
      have HO2 := Lib.hid (OwnE.mono ho HBd.out.size)
      have HB2 := Lib.hid (HBd.out.trans (hb.mono HBd.out.size))
      clear ho hb
      refine hK.out _ _ trivial (fun _ => ?_)
      clear hK K
      refine wpLexO_bigL rfl (by rfl) (fun K hK => ?_)
      go_simp
      go_at_call 32
      with_reducible refine (HH2.out _ HB2.out).mono ?_
      rintro e w3 ⟨v3, rfl, ho, hb⟩
      have HO3 := Lib.hid (OwnS.ss ho)
      have HO2 := Lib.hid (OwnE.far HO2.out hb (Nat.le_refl _))
      have HB3 := Lib.hid (HB2.out.trans (hb.mono HB2.out.size))
      clear ho hb
      refine hK.out _ _ trivial (fun _ => ?_)
      clear hK K
      refine wpLexO_bigL rfl (by rfl) (fun K hK => ?_)
      refine step_append_strs rfl _ _ w1.heap.size v2 X Y v3 HO2.out HO3.out m3 (by omega) HB3.out.size rfl rfl rfl ?_
      intro v4 w4 hown4 hgr4
      have HO4 := Lib.hid hown4
      have HB4 := Lib.hid (HB3.out.grown hgr4 HB3.out.size (fun j e => OwnE.ge HO2.out j e))
      clear hown4 hgr4
      refine hK.out _ _ trivial (fun _ => ?_)
      clear hK K
      refine wpLexO_takeL (v := ?_) rfl (by rfl) (Or.inl ⟨by rfl, ?_⟩) ?_
      rotate_left
      · intro w hSw; (try dsimp only at hSw); go_simp; try with_reducible rfl
      simp only [Act.put, List.setIfInBounds_toArray, List.set_cons_zero, List.set_cons_succ]
      refine wpLexO_nil ?_
      refine NoPanic.normal ?_
      have hXY : (X ++ Y).length ≤ 6000 := by rw [List.length_append]; omega
      obtain ⟨Z, hZ⟩ : ∃ Z, Z = X ++ Y := ⟨_, rfl⟩
      rw [← hZ] at HO4 hXY
      have HZ := Lib.hid hZ
      clear hZ
      clear HO2 HO3
      have HBd4 : Hid (Below w1.heap.size w1 w4.drew) := Lib.hid (below_drewN HB4.out 1)
      have HO4 : Hid (OwnS w4.drew w1.heap.size v4 Z) := Lib.hid (OwnE.drewN HO4.out 1)
      go_upto_region 7 with fail
      refine wp_region_noPanic ?_
      refine wp_region_lexO [4, 9, 11, 12] [0, 1, 2, 3, 6, 7, 8, 4, 5, 9, 10, 11, 12, 13] (fun _ => True) (by kernel_rfl) (by kernel_rfl) rfl (fun _ _ _ _ _ h => h) trivial ?_
      refine wpLexO_takeL (v := ?_) rfl (by rfl) (Or.inl ⟨by rfl, ?_⟩) ?_
      rotate_left
      · intro w hSw; (try dsimp only at hSw); go_simp; try with_reducible rfl
      simp only [Act.put, List.setIfInBounds_toArray, List.set_cons_zero, List.set_cons_succ]
      refine wpLexO_takeL (v := ?_) rfl (by rfl) (Or.inl ⟨by rfl, ?_⟩) ?_
      rotate_left
      · intro w hSw; (try dsimp only at hSw); go_simp; try with_reducible rfl
      simp only [Act.put, List.setIfInBounds_toArray, List.set_cons_zero, List.set_cons_succ]
      refine wpLexO_takeL (v := ?_) rfl (by rfl) (Or.inl ⟨by rfl, ?_⟩) ?_
      rotate_left
      · intro w hSw; (try dsimp only at hSw); go_simp; try with_reducible rfl
      simp only [Act.put, List.setIfInBounds_toArray, List.set_cons_zero, List.set_cons_succ]
      refine wpLexO_takeL (v := ?_) rfl (by rfl) (Or.inl ⟨by rfl, ?_⟩) ?_
      rotate_left
      · intro w hSw; (try dsimp only at hSw); go_simp; try with_reducible rfl
      simp only [Act.put, List.setIfInBounds_toArray, List.set_cons_zero, List.set_cons_succ]
      refine wpLexO_takeL (v := ?_) rfl (by rfl) (Or.inl ⟨by rfl, ?_⟩) ?_
      rotate_left
      · intro w hSw; (try dsimp only at hSw); go_simp; try with_reducible rfl
      simp only [Act.put, List.setIfInBounds_toArray, List.set_cons_zero, List.set_cons_succ]
      refine wpLexO_takeL (v := ?_) rfl (by rfl) (Or.inl ⟨by rfl, ?_⟩) ?_
      rotate_left
      · intro w hSw; (try dsimp only at hSw); go_simp; try with_reducible rfl
      simp only [Act.put, List.setIfInBounds_toArray, List.set_cons_zero, List.set_cons_succ]
      refine wpLexO_takeL (v := ?_) rfl (by rfl) (Or.inl ⟨by rfl, ?_⟩) ?_
      rotate_left
      · intro w hSw; (try dsimp only at hSw); go_simp; try with_reducible rfl
      simp only [Act.put, List.setIfInBounds_toArray, List.set_cons_zero, List.set_cons_succ]
      refine wpLexO_bigL rfl (by rfl) (fun K hK => ?_)
      go_simp
      go_at_call 72
      with_reducible refine (HR1.out _ HBd4.out).mono ?_
      rintro e w5 ⟨rfl, hb⟩
      have HB5 := Lib.hid (HBd4.out.trans (hb.mono HBd4.out.size))
      have HO5 := Lib.hid (OwnE.far HO4.out hb (Nat.le_refl _))
      clear hb
      refine hK.out _ _ trivial (fun _ => ?_)
      clear hK K
      refine wpLexO_takeL (v := ?_) rfl (by rfl) (Or.inl ⟨by rfl, ?_⟩) ?_
      rotate_left
      · intro w hSw; (try dsimp only at hSw); go_simp; try with_reducible rfl
      simp only [Act.put, List.setIfInBounds_toArray, List.set_cons_zero, List.set_cons_succ]
      refine wpLexO_bigL rfl (by rfl) (fun K hK => ?_)
      go_simp
      go_at_call 72
      with_reducible refine (HR2.out _ HB5.out).mono ?_
      rintro e w6 ⟨rfl, hb⟩
      have HB6 := Lib.hid (HB5.out.trans (hb.mono HB5.out.size))
      have HO6 := Lib.hid (OwnE.far HO5.out hb (Nat.le_refl _))
      clear hb
      refine hK.out _ _ trivial (fun _ => ?_)
      clear hK K
      refine wpLexO_takeL (v := ?_) rfl (by rfl) (Or.inl ⟨by rfl, ?_⟩) ?_
      rotate_left
      · intro w hSw; (try dsimp only at hSw); go_simp; try with_reducible rfl
      simp only [Act.put, List.setIfInBounds_toArray, List.set_cons_zero, List.set_cons_succ]
      have HOA := Lib.hid (OwnE.alloc HO6.out (.cells #[.string (((⟨#[1]⟩ : ByteArray) ++ A) ++ B)] 9))
      have HSA := Lib.hid (SS.one (heap_alloc_new w6 (.cells #[.string (((⟨#[1]⟩ : ByteArray) ++ A) ++ B)] 9)))
      have HBA := Lib.hid (HB6.out.alloc HB6.out.size (.cells #[.string (((⟨#[1]⟩ : ByteArray) ++ A) ++ B)] 9))
      refine wpLexO_bigL rfl (by rfl) (fun K hK => ?_)
      go_simp
      refine hK.out _ _ trivial (fun _ => ?_)
      clear hK K
      refine wpLexO_bigL rfl (by rfl) (fun K hK => ?_)
      refine step_append_strs rfl _ _ w1.heap.size v4 Z _ (.slice (some ⟨w6.heap.size, 0, none⟩) 1 1) HOA.out HSA.out (by simp) (by simp; omega) HBA.out.size rfl rfl rfl ?_
      intro v7 w7 hown7 hgr7
      have HO7 := Lib.hid hown7
      have HB7 := Lib.hid (HBA.out.grown hgr7 HBA.out.size (fun j e => OwnE.ge HOA.out j e))
      clear hown7 hgr7
      refine hK.out _ _ trivial (fun _ => ?_)
      clear hK K
      refine wpLexO_takeL (v := ?_) rfl (by rfl) (Or.inl ⟨by rfl, ?_⟩) ?_
      rotate_left
      · intro w hSw; (try dsimp only at hSw); go_simp; try with_reducible rfl
      simp only [Act.put, List.setIfInBounds_toArray, List.set_cons_zero, List.set_cons_succ]
      refine wpLexO_nil ?_
      refine NoPanic.normal ?_
      go_wp2
      go_ret
      exact ⟨_, rfl, by rw [← HZ.out]; exact HO7.out, HB7.out⟩
end Go.Proofs.YtinfpbkbnhcifaaGreatDoor

/- The reference's Collided. The conditions: what the slices read as, lengths. -/
namespace Go.Proofs.YtinfpbkbnhcifaaGreatDoor
open Go.RowKit Go.BigFrame

theorem collS_no {a b : List ByteArray} (h : ∀ (i j : Nat) (x y : ByteArray), a[i]? = some x → b[j]? = some y → ¬ (x ≠ y ∧ sumS x = sumS y)) : collS a b = false := by
  rw [Bool.eq_false_iff]
  intro hc
  obtain ⟨x, hx, y, hy, h1, h2⟩ := coll_parts hc
  obtain ⟨i, hi⟩ := List.getElem?_of_mem hx
  obtain ⟨j, hj⟩ := List.getElem?_of_mem hy
  exact h i j x y hi hj ⟨h1, h2⟩
theorem collS_yes {a b : List ByteArray} {i j : Nat} {x y : ByteArray} (hi : a[i]? = some x) (hj : b[j]? = some y) (h1 : x ≠ y) (h2 : sumS x = sumS y) : collS a b = true := coll_of (List.mem_of_getElem? hi) (List.mem_of_getElem? hj) h1 h2

set_option maxHeartbeats 8000000 in
set_option maxRecDepth 100000 in
theorem collided_any {w : World} {va vb : Value} {xs ys : List ByteArray} (hx : SS w va xs) (hy : SS w vb ys) (lx : xs.length ≤ 10000) (ly : ys.length ≤ 10000) (hxs : ∀ x ∈ xs, x.size ≤ 1000000) (hys : ∀ x ∈ ys, x.size ≤ 1000000) :
    Calls Tryz.prog 31 #[va, vb] w fun e w' => e = .returned (.bool (collS xs ys)) ∧ Below w.heap.size w w' := by
  obtain ⟨a, ca, rfl, x1, x2, x3⟩ := hx.opened
  obtain ⟨b, cb, rfl, y1, y2, y3⟩ := hy.opened
  unfold maxLen at x2 y2
  have HX3 := Lib.hid x3
  have HY3 := Lib.hid y3
  have HXS := Lib.hid hxs
  have HYS := Lib.hid hys
  have HNO := Lib.hid (collS_no (a := xs) (b := ys))
  have HYES : Hid (∀ (i j : Nat) (x y : ByteArray), xs[i]? = some x → ys[j]? = some y → x ≠ y → sumS x = sumS y → collS xs ys = true) := Lib.hid (fun i j x y hi hj h1 h2 => collS_yes hi hj h1 h2)
  obtain ⟨n, hn⟩ : ∃ n, n = xs.length := ⟨_, rfl⟩
  obtain ⟨m, hm⟩ : ∃ m, m = ys.length := ⟨_, rfl⟩
  rw [← hn] at x1 lx ⊢
  rw [← hm] at y1 ly ⊢
  have HN := Lib.hid hn
  have HM := Lib.hid hm
  have HMT : Hid ((ys.map sumS).take m = ys.map sumS) := Lib.hid (by rw [hm]; exact List.take_of_length_le (by rw [List.length_map]; exact Nat.le_refl _))
  clear x3 y3 hxs hys hx hy hn hm
  generalize collS xs ys = R at *
  go_enter Tryz.func31, Tryz.ntmps31
  go_wp2
  go_loopw [5, 6] (fun v i wr => ∃ k : Nat, k ≤ m ∧ i = .int .i64 k ∧ Hid (OwnS wr w.heap.size v ((ys.map sumS).take k)) ∧ Hid (Below w.heap.size w wr)) (fun _ i _ => m - (intOf i).toNat)
  case atStart => exact ⟨0, by omega, rfl, Lib.hid (OwnE.nil _ _ _ _), Lib.hid (Below.refl _ _)⟩
  case round =>
    obtain ⟨k, hk, rfl, hO, hB⟩ := hrel
    obtain ⟨va, vc, hv⟩ := OwnE.form hO.out
    rw [scells_len, List.length_take, List.length_map, ← HM.out, Nat.min_eq_left hk] at hv
    subst hv
    have hws := hB.out.size
    by_cases hlt : k < m
    · obtain ⟨y, ey⟩ : ∃ y, ys[k]? = some y := ⟨_, List.getElem?_eq_getElem (by rw [← HM.out]; exact hlt)⟩
      obtain ⟨b1, o1, rfl, hb1, c0⟩ := HY3.out k y ey
      have c1 := cell_keepB hB.out hb1 c0
      have HS := Lib.hid (r2sum_any y wr (by have := HYS.out y (List.mem_of_getElem? ey); omega))
      have HT : Hid ((ys.map sumS).take (k + 1) = (ys.map sumS).take k ++ [sumS y]) := Lib.hid (take_snoc (by rw [List.getElem?_map, ey]; rfl))
      generalize sumS y = z at *
      have HXl : Hid (((ys.map sumS).take k).length ≤ 100000) := Lib.hid (by rw [List.length_take]; omega)
      generalize (ys.map sumS).take k = X at *
      have t1 : (k : Int) < (m : Int) := by omega
      have t0 : (0 : Int) ≤ (k : Int) := by omega
      clear c0 ey
      go_wp2_with (first | (go_at_call 57; refine HS.out.mono ?_; rintro e w1 ⟨rfl, hb⟩; have HB1 := Lib.hid (hB.out.trans (hb.mono hws)); have HO1 := Lib.hid (OwnE.far hO.out hb (Nat.le_refl _)); have HOA := Lib.hid (OwnE.alloc HO1.out (.cells #[.string z] 9)); have HNA := Lib.hid (heap_alloc_new w1 (.cells #[.string z] 9)); have HBA := Lib.hid (HB1.out.alloc HB1.out.size (.cells #[.string z] 9)); clear hb) | (at_builtin; refine wpList_append_str _ _ w.heap.size _ X w1.heap.size z (0, 0) HOA.out HXl.out HBA.out.size HNA.out rfl rfl rfl rfl ?_; intro v7 w7 hown7 hgr7; have HO7 := Lib.hid hown7; have HB7 := Lib.hid (HBA.out.grown hgr7 HBA.out.size (fun j e => OwnE.ge HOA.out j e)); clear hown7 hgr7))
      go_roundw
      case rel =>
        refine ⟨k + 1, by omega, by go_num, ?_, HB7⟩
        rw [HT.out]
        exact HO7
      case measure => simp [intOf]; omega
    · obtain rfl : k = m := by omega
      rw [HMT.out] at hO
      have HSZ := Lib.hid hO.out.ss
      obtain ⟨wz, hwz⟩ : ∃ wz, wz = wr := ⟨_, rfl⟩
      subst hwz
      have HBZ := Lib.hid hB.out
      obtain ⟨az, cz, ev, z1, z2, z3⟩ := HSZ.out.opened
      rw [List.length_map, ← HM.out] at ev z1
      cases ev
      unfold maxLen at z2
      have HZ3 := Lib.hid z3
      have HXZ : Hid (∀ (i : Nat) (x : ByteArray), xs[i]? = some x → ∃ g off, a = some ⟨g, off, none⟩ ∧ g < wz.heap.size ∧ wz.cell? ⟨g, off + i, none⟩ = some (.string x)) := Lib.hid (fun i x hx => by
        obtain ⟨g, off, e, hg, hc⟩ := HX3.out i x hx
        exact ⟨g, off, e, Nat.lt_of_lt_of_le hg HBZ.out.size, cell_keepB HBZ.out hg hc⟩)
      have HYZ : Hid (∀ (i : Nat) (x : ByteArray), ys[i]? = some x → ∃ g off, b = some ⟨g, off, none⟩ ∧ g < wz.heap.size ∧ wz.cell? ⟨g, off + i, none⟩ = some (.string x)) := Lib.hid (fun i x hx => by
        obtain ⟨g, off, e, hg, hc⟩ := HY3.out i x hx
        exact ⟨g, off, e, Nat.lt_of_lt_of_le hg HBZ.out.size, cell_keepB HBZ.out hg hc⟩)
      have HSS : Hid (∀ (i : Nat) (x : ByteArray), ys[i]? = some x → ∃ g off, va = some ⟨g, off, none⟩ ∧ g < wz.heap.size ∧ wz.cell? ⟨g, off + i, none⟩ = some (.string (sumS x))) := Lib.hid (fun i x hx => HZ3.out i _ (by rw [List.getElem?_map, hx]; rfl))
      clear hO hB z3 HZ3 HSZ HX3 HY3 HMT hlt hk
      go_wp2
      go_loopw [7, 8, 9] (fun v _ _ wr => ∃ i : Nat, i ≤ n ∧ v = .int .i64 i ∧ Hid (∀ (p j : Nat) (x y : ByteArray), p < i → xs[p]? = some x → ys[j]? = some y → ¬ (x ≠ y ∧ sumS x = sumS y)) ∧ Hid (Below wz.heap.size wz wr)) (fun v _ _ _ => n - (intOf v).toNat)
      case atStart => exact ⟨0, by omega, rfl, Lib.hid (fun p j x y h => by omega), Lib.hid (Below.refl _ _)⟩
      case round =>
        obtain ⟨i, hi, rfl, hno, hB⟩ := hrel
        by_cases hlt : i < n
        · obtain ⟨x, ex⟩ : ∃ x, xs[i]? = some x := ⟨_, List.getElem?_eq_getElem (by rw [← HN.out]; exact hlt)⟩
          obtain ⟨g, off, rfl, hg, c0⟩ := HXZ.out i x ex
          have d0 := cell_keepB hB.out hg c0
          have HS := Lib.hid (r2sum_any x wr (by have := HXS.out x (List.mem_of_getElem? ex); omega))
          have t1 : (i : Int) < (n : Int) := by omega
          have t0 : (0 : Int) ≤ (i : Int) := by omega
          have EX := Lib.hid ex
          have C0 := Lib.hid c0
          obtain ⟨sx, hsx⟩ : ∃ sx, sx = sumS x := ⟨_, rfl⟩
          rw [← hsx] at HS
          have HSX := Lib.hid hsx
          clear ex c0 hsx
          go_wp2_with (go_at_call 57; refine HS.out.mono ?_; rintro e w1 ⟨rfl, hb⟩; have HB1 := Lib.hid (hB.out.trans (hb.mono hB.out.size)); clear hb)
          clear d0 t1 hB
          go_loopw [9] (fun v wr => ∃ j : Nat, j ≤ k ∧ v = .int .i64 j ∧ Hid (∀ (p : Nat) (y : ByteArray), p < j → ys[p]? = some y → ¬ (x ≠ y ∧ sx = sumS y)) ∧ Hid (Below wz.heap.size wz wr)) (fun v _ => k - (intOf v).toNat)
          case atStart => exact ⟨0, by omega, rfl, Lib.hid (fun p y h => by omega), HB1⟩
          case round =>
            clear HB1
            obtain ⟨j, hj, rfl, hnj, hB⟩ := hrel
            by_cases hlj : j < k
            · obtain ⟨y, ey⟩ : ∃ y, ys[j]? = some y := ⟨_, List.getElem?_eq_getElem (by rw [← HM.out]; exact hlj)⟩
              obtain ⟨g2, off2, rfl, hg2, e0⟩ := HYZ.out j y ey
              obtain ⟨g3, off3, rfl, hg3, f0⟩ := HSS.out j y ey
              have d0 := cell_keepB hB.out hg C0.out
              have d1 := cell_keepB hB.out hg2 e0
              have d2 := cell_keepB hB.out hg3 f0
              have EY := Lib.hid ey
              have t1 : (j : Int) < (k : Int) := by omega
              have t2 : (0 : Int) ≤ (j : Int) := by omega
              have t3 : (i : Int) < (n : Int) := by omega
              obtain ⟨sy, hsy⟩ : ∃ sy, sy = sumS y := ⟨_, rfl⟩
              rw [← hsy] at d2
              have HSY := Lib.hid hsy
              clear ey e0 f0 hsy
              by_cases hxy : x = y
              · have hq : (x.toList == y.toList) = true := by rw [same_str]; exact decide_eq_true hxy
                have HNX : Hid (∀ (p : Nat) (z : ByteArray), p < j + 1 → ys[p]? = some z → ¬ (x ≠ z ∧ sx = sumS z)) := Lib.hid (fun p z hp hz => by
                  by_cases e : p = j
                  · subst e
                    rw [EY.out] at hz
                    cases hz
                    exact fun h => h.1 hxy
                  · exact hnj.out p z (by omega) hz)
                clear hxy hnj
                go_wp2
                go_quiet (fail)
                have hB : Hid (Below wz.heap.size wz (wr.drewN nq)) := Lib.hid (below_drewN hB.out nq)
                go_wp2
                go_roundw
                case rel => exact ⟨j + 1, by omega, by go_num, HNX, hB⟩
                case measure => simp [intOf]; omega
              · have hq : (x.toList == y.toList) = false := by rw [same_str]; exact decide_eq_false hxy
                by_cases hss : sx = sy
                · have hq2 : (sx.toList == sy.toList) = true := by rw [same_str]; exact decide_eq_true hss
                  have HR : Hid (R = true) := Lib.hid (HYES.out i j x y EX.out EY.out hxy (by rw [← HSX.out, ← HSY.out, hss]))
                  clear hss hxy hnj
                  go_wp2
                  go_quiet (fail)
                  have hB : Hid (Below wz.heap.size wz (wr.drewN nq)) := Lib.hid (below_drewN hB.out nq)
                  go_wp2
                  go_ret
                  exact ⟨by rw [HR.out]; rfl, HBZ.out.trans (hB.out.mono HBZ.out.size)⟩
                · have hq2 : (sx.toList == sy.toList) = false := by rw [same_str]; exact decide_eq_false hss
                  have HNX : Hid (∀ (p : Nat) (z : ByteArray), p < j + 1 → ys[p]? = some z → ¬ (x ≠ z ∧ sx = sumS z)) := Lib.hid (fun p z hp hz => by
                    by_cases e : p = j
                    · subst e
                      rw [EY.out] at hz
                      cases hz
                      exact fun h => hss (by rw [HSY.out]; exact h.2)
                    · exact hnj.out p z (by omega) hz)
                  clear hss hxy hnj
                  go_wp2
                  go_quiet (fail)
                  have hB : Hid (Below wz.heap.size wz (wr.drewN nq)) := Lib.hid (below_drewN hB.out nq)
                  go_wp2
                  go_roundw
                  case rel => exact ⟨j + 1, by omega, by go_num, HNX, hB⟩
                  case measure => simp [intOf]; omega
            · have t1 : ¬ (j : Int) < (k : Int) := by omega
              have t3 : (i : Int) < (n : Int) := by omega
              have HNI : Hid (∀ (p j : Nat) (x y : ByteArray), p < i + 1 → xs[p]? = some x → ys[j]? = some y → ¬ (x ≠ y ∧ sumS x = sumS y)) := Lib.hid (fun p q x' y hp hx' hy => by
                by_cases e : p = i
                · subst e
                  rw [EX.out] at hx'
                  cases hx'
                  rw [← HSX.out]
                  have hqk : q < k := by rw [HM.out]; exact (List.getElem?_eq_some_iff.1 hy).1
                  exact hnj.out q y (by omega) hy
                · exact hno.out p q x' y (by omega) hx' hy)
              clear hnj hno
              go_wp2
              go_roundw
              case rel => exact ⟨i + 1, by omega, by go_num, HNI, hB⟩
              case measure => simp [intOf]; omega
        · have t1 : ¬ (i : Int) < (n : Int) := by omega
          have HR : Hid (R = false) := Lib.hid (HNO.out (fun p q x y hx hy => by
            have hp : p < n := by rw [HN.out]; exact (List.getElem?_eq_some_iff.1 hx).1
            exact hno.out p q x y (by omega) hx hy))
          clear hno
          go_wp2
          go_ret
          exact ⟨by rw [HR.out]; rfl, HBZ.out.trans (hB.out.mono HBZ.out.size)⟩
end Go.Proofs.YtinfpbkbnhcifaaGreatDoor
