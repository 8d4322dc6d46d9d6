/- The reference's tests of numbers and of digests, its value of a proof. The conditions: what the slice reads as, lengths. -/
import Derived.Test.YtinfpbkbnhcifaaGreatDoorQ21
import Derived.Test.YtinfpbkbnhcifaaGreatDoorQ31
import Derived.Test.YtinfpbkbnhcifaaGreatDoorQ32
import Derived.Deep.DeepCutAuto
namespace Go.Proofs.YtinfpbkbnhcifaaGreatDoor
open Go.RowKit Go.BigFrame

set_option maxHeartbeats 400000 in
theorem rin_any (n lo hi : Int) (w : World) :
    Calls Tryz.prog 55 #[.int .i64 n, .int .i64 lo, .int .i64 hi] w fun e w' => e = .returned (.bool (decide (lo ≤ n ∧ n ≤ hi))) ∧ w' = w := by
  by_cases h1 : lo ≤ n
  · have hd : decide (lo ≤ n) = true := decide_eq_true h1
    go_enter Tryz.func55, Tryz.ntmps55
    go_wp2
    go_ret
    refine ⟨ret_bool ?_, rfl⟩
    rw [Bool.eq_iff_iff]
    simp
    try omega
  · have hd : decide (lo ≤ n) = false := decide_eq_false h1
    go_enter Tryz.func55, Tryz.ntmps55
    go_wp2
    go_ret
    refine ⟨ret_bool ?_, rfl⟩
    simp
    try omega

set_option maxHeartbeats 2000000 in
set_option maxRecDepth 100000 in
theorem rdigests_any {w : World} {v : Value} {pr : List ByteArray} (hv : SS w v pr) (hl : pr.length ≤ 100000) :
    Calls Tryz.prog 96 #[v] w fun e w' => e = .returned (.bool (pr.all isDig)) ∧ Below w.heap.size w w' := by
  obtain ⟨a, c, rfl, l1, l2, l3⟩ := hv.opened
  have HV := Lib.hid l3
  obtain ⟨R, hR⟩ : ∃ R, R = pr.all isDig := ⟨_, rfl⟩
  rw [← hR]
  have HR := Lib.hid hR
  obtain ⟨n, hn⟩ : ∃ n, n = pr.length := ⟨_, rfl⟩
  rw [← hn] at hl ⊢
  have HN := Lib.hid hn
  clear l1 l2 l3 hv hR hn
  go_enter Tryz.func96, Tryz.ntmps96
  go_wp2
  go_loopw [3] (fun i wr => ∃ k : Nat, k ≤ n ∧ i = .int .i64 k ∧ Hid (∀ j x, j < k → pr[j]? = some x → x.size = 32) ∧ wr = w) (fun i _ => n - (intOf i).toNat)
  case atStart => exact ⟨0, by omega, rfl, Lib.hid (fun j x hj => by omega), rfl⟩
  case round =>
    obtain ⟨k, hk, rfl, hall, rfl⟩ := hrel
    by_cases hlt : k < n
    · obtain ⟨x, ex⟩ : ∃ x, pr[k]? = some x := ⟨_, List.getElem?_eq_getElem (by rw [← HN.out]; exact hlt)⟩
      obtain ⟨b, off, rfl, hb, c0⟩ := HV.out k x ex
      have HEX := Lib.hid ex
      have tk : (k : Int) < (n : Int) := by omega
      have tk0 : (0 : Int) ≤ (k : Int) := by omega
      clear ex
      by_cases h32 : x.size = 32
      · have HN1 : Hid (∀ j y, j < k + 1 → pr[j]? = some y → y.size = 32) := Lib.hid (fun j y hj hy => by
          rcases Nat.lt_or_ge j k with h | h
          · exact hall.out j y h hy
          · obtain rfl : j = k := by omega
            rw [HEX.out] at hy
            cases hy
            exact h32)
        go_wp2
        go_roundw
        case rel => exact ⟨k + 1, by omega, by go_num, HN1, trivial⟩
        case measure => simp [intOf]; omega
      · have h33 : ¬ (x.size : Int) = 32 := by omega
        have HF : Hid (R = false) := Lib.hid (by
          rw [HR.out, List.all_eq_false]
          refine ⟨x, List.mem_of_getElem? HEX.out, ?_⟩
          unfold isDig
          simp [h32])
        go_wp2
        go_ret
        exact ⟨by rw [HF.out]; rfl, Below.refl _ _⟩
    · have tk : ¬ (k : Int) < (n : Int) := by omega
      have HF : Hid (R = true) := Lib.hid (by
        rw [HR.out, List.all_eq_true]
        intro x hx
        obtain ⟨j, hj⟩ := List.mem_iff_getElem?.1 hx
        have hjn : j < pr.length := (List.getElem?_eq_some_iff.1 hj).1
        rw [← HN.out] at hjn
        unfold isDig
        exact decide_eq_true (hall.out j x (by omega) hj))
      go_wp2
      go_ret
      exact ⟨by rw [HF.out]; rfl, Below.refl _ _⟩

end Go.Proofs.YtinfpbkbnhcifaaGreatDoor

/- The reference's Verify, both, VerifyExtension. The conditions: what the slice reads as, lengths. -/
namespace Go.Proofs.YtinfpbkbnhcifaaGreatDoor
open Go.RowKit Go.BigFrame

theorem rev_last {pr : List ByteArray} {N : Nat} {x : ByteArray} (hl : pr.length = N + 1) (ex : pr[N]? = some x) : pr.reverse = x :: (pr.take N).reverse := by
  have e : pr = pr.take N ++ [x] := by
    have h1 := List.take_add_one (l := pr) (i := N)
    rw [ex, ← hl, List.take_length] at h1
    exact h1
  rw [e, List.reverse_append]
  rw [← e]
  rfl
/-- What both answers. -/
def BothSays (w : World) (V : Option (ByteArray × ByteArray)) (e : Ending) (w' : World) : Prop := ∃ (a b : ByteArray) (ok : Bool), e = .returned (.tuple #[.string a, .string b, .bool ok]) ∧ a.size ≤ 1000 ∧ b.size ≤ 1000 ∧ (V = if ok = true then some (a, b) else none) ∧ Below w.heap.size w w'
theorem BothSays.mk {w w' : World} {V : Option (ByteArray × ByteArray)} {e : Ending} (a b : ByteArray) (ok : Bool) (h1 : e = .returned (.tuple #[.string a, .string b, .bool ok])) (h2 : a.size ≤ 1000) (h3 : b.size ≤ 1000) (h4 : V = if ok = true then some (a, b) else none) (h5 : Below w.heap.size w w') : BothSays w V e w' := ⟨a, b, ok, h1, h2, h3, h4, h5⟩
set_option maxHeartbeats 8000000 in
set_option maxRecDepth 100000 in
theorem rboth_any (N : Nat) : ∀ {w : World} {v : Value} {pr : List ByteArray} (old : ByteArray) (m n : Nat) (wh : Bool), pr.length = N → SS w v pr → 1 ≤ m → m ≤ n → n ≤ 1000 → old.size ≤ 1000 → (∀ x ∈ pr, x.size ≤ 1000) → N ≤ 1000 →
    Calls Tryz.prog 113 #[.string old, .int .i64 m, .int .i64 n, v, .bool wh] w (BothSays w (bothL nodeS old pr.reverse m n wh)) := by
  induction N with
  | zero =>
    intro w v pr old m n wh hl hv hm hmn hn ho hp hN
    have hp0 : pr = [] := List.eq_nil_of_length_eq_zero hl
    subst hp0
    obtain ⟨a, c, rfl, _, _, _⟩ := hv.opened
    show Calls _ _ #[.string old, .int .i64 m, .int .i64 n, .slice a 0 c, .bool wh] w (BothSays w (bothL nodeS old ([] : List ByteArray).reverse m n wh))
    have HVL : Hid (bothL nodeS old ([] : List ByteArray).reverse m n wh = if n ≤ m ∧ wh = true then some (old, old) else none) := Lib.hid rfl
    generalize bothL nodeS old ([] : List ByteArray).reverse m n wh = V at *
    by_cases h1 : m = n
    · subst h1
      cases wh with
      | true =>
        go_enter Tryz.func113, Tryz.ntmps113
        go_wp2
        go_ret3
        exact BothSays.mk (old) (old) (true) (rfl) (ho) (ho) (by rw [HVL.out]; simp) (Below.refl _ _)
      | false =>
        go_enter Tryz.func113, Tryz.ntmps113
        go_wp2
        go_ret3
        exact BothSays.mk (⟨#[]⟩) (⟨#[]⟩) (false) (rfl) (by decide) (by decide) (by rw [HVL.out]; simp) (Below.refl _ _)
    · have t1 : ¬ (m : Int) = (n : Int) := by omega
      have HVN : Hid (V = none) := Lib.hid (by rw [HVL.out, if_neg (by omega)])
      go_enter Tryz.func113, Tryz.ntmps113
      go_wp2
      go_ret3
      exact BothSays.mk (⟨#[]⟩) (⟨#[]⟩) (false) (rfl) (by decide) (by decide) (by rw [HVN.out]; rfl) (Below.refl _ _)
  | succ N ih =>
    intro w v pr old m n wh hl hv hm hmn hn ho hp hN
    obtain ⟨a, c, rfl, l1, l2, l3⟩ := hv.opened
    obtain ⟨x, ex⟩ : ∃ x, pr[N]? = some x := ⟨_, List.getElem?_eq_getElem (by omega)⟩
    rw [rev_last hl ex]
    obtain ⟨M, hM⟩ : ∃ M, M = N + 1 := ⟨_, rfl⟩
    rw [← hM] at hl hN
    rw [hl] at hv l1 ⊢
    unfold maxLen at l2
    obtain ⟨b, off, rfl, hb, c0⟩ := l3 N x ex
    have hxs := hp x (List.mem_of_getElem? ex)
    have f1 : IntKind.i64.wrap ((M : Int) - 1) = (N : Int) := by rw [IntWalk.i64_in _ (by omega)]; omega
    have u1 : (N : Int) ≤ (M : Int) := by omega
    have u0 : (0 : Int) ≤ (N : Int) := by omega
    have u2 : N ≤ c := by omega
    have u3 : (N : Int) < (M : Int) := by omega
    have u4 : ¬ (N : Int) < 0 := by omega
    have hlt : (pr.take N).length = N := by rw [List.length_take]; omega
    have HMM := Lib.hid hM
    clear hM
    have HVA : Hid (bothL nodeS old (x :: (pr.take N).reverse) m n wh = if n ≤ m then (if wh = true then none else if (pr.take N).reverse = [] then some (x, x) else none) else if m ≤ leftN n then (bothL nodeS old (pr.take N).reverse m (leftN n) wh).map (fun v => (v.1, nodeS v.2 x)) else (bothL nodeS old (pr.take N).reverse (m - leftN n) (n - leftN n) false).map (fun v => (nodeS x v.1, nodeS x v.2))) := Lib.hid (by rw [bothL])
    generalize bothL nodeS old (x :: (pr.take N).reverse) m n wh = V at *
    by_cases h1 : m = n
    · subst h1
      have HVL : Hid (V = if wh = true then none else if (pr.take N).reverse = [] then some (x, x) else none) := Lib.hid (by rw [HVA.out, if_pos (Nat.le_refl _)])
      have HNil : Hid ((pr.take N).reverse = [] ↔ N = 0) := Lib.hid (by
        constructor
        · intro h
          have := congrArg List.length h
          rw [List.length_reverse, hlt] at this
          exact this
        · intro h
          subst h
          simp)
      clear l3 hv ih hlt ex HVA
      generalize (pr.take N).reverse = PR at *
      cases wh with
      | true =>
        go_enter Tryz.func113, Tryz.ntmps113
        go_wp2
        go_ret3
        exact BothSays.mk (old) (old) (false) (rfl) (ho) (ho) (by rw [HVL.out]; rfl) (Below.refl _ _)
      | false =>
        by_cases hN0 : N = 0
        · subst hN0
          have hM1 : M = 1 := HMM.out
          subst hM1
          have HVS : Hid (V = some (x, x)) := Lib.hid (by rw [HVL.out, if_neg (by simp), if_pos (HNil.out.2 rfl)])
          clear u1 u0 u2 u3 u4 f1
          rw [Nat.add_zero] at c0
          go_enter Tryz.func113, Tryz.ntmps113
          go_upto_region 7 with fail
          go_quiet (fail)
          go_wp2
          go_ret3
          exact BothSays.mk (x) (x) (true) (rfl) (hxs) (hxs) (by rw [HVS.out]; rfl) (below_drewN (Below.refl _ _) _)
        · have tN : ¬ (N : Int) = 0 := by omega
          have HVS : Hid (V = none) := Lib.hid (by rw [HVL.out, if_neg (by simp), if_neg (fun h => hN0 (HNil.out.1 h))])
          go_enter Tryz.func113, Tryz.ntmps113
          go_wp2
          go_ret3
          exact BothSays.mk (⟨#[]⟩) (⟨#[]⟩) (false) (rfl) (by decide) (by decide) (by rw [HVS.out]; rfl) (Below.refl _ _)
    · have h2 : 2 ≤ n := by omega
      have HLf := Lib.hid (r2left_any n h2 (by omega) w)
      have h3 := leftN_lt h2
      have h4 := leftN_pos n
      have hv' : SS w (.slice (some ⟨b, off, none⟩) N c) (pr.take N) := hv.cut N (by omega)
      have hpt : ∀ x ∈ pr.take N, x.size ≤ 1000 := fun x hx => hp x (List.mem_of_mem_take hx)
      have HVL : Hid (V = if m ≤ leftN n then (bothL nodeS old (pr.take N).reverse m (leftN n) wh).map (fun v => (v.1, nodeS v.2 x)) else (bothL nodeS old (pr.take N).reverse (m - leftN n) (n - leftN n) false).map (fun v => (nodeS x v.1, nodeS x v.2))) := Lib.hid (by rw [HVA.out, if_neg (by omega)])
      have t1 : ¬ (m : Int) = (n : Int) := by omega
      obtain ⟨k, hk⟩ : ∃ k, k = leftN n := ⟨_, rfl⟩
      rw [← hk] at h3 h4 HLf HVL
      clear hk
      have HB0 : Hid (∀ W, Below w.heap.size w W → W.cell? ⟨b, off + N, none⟩ = some (.string x)) := Lib.hid (fun W hW => cell_keepB hW hb c0)
      by_cases hik : m ≤ k
      · have IH := Lib.hid (ih old m k wh hlt hv' hm hik (by omega) ho hpt (by omega))
        have ti : (m : Int) ≤ (k : Int) := by omega
        have HV1 : Hid (∀ u u2 ok, (bothL nodeS old (pr.take N).reverse m k wh = if ok = true then some (u, u2) else none) → (V = if ok = true then some (u, nodeS u2 x) else none)) := Lib.hid (fun u u2 ok h => by
          rw [HVL.out, if_pos hik, h]
          cases ok <;> rfl)
        clear l3 hv hv' hpt hlt ih HVL ex h1 HVA
        generalize (pr.take N).reverse = PR at *
        go_enter Tryz.func113, Tryz.ntmps113
        go_wp2_with (first | (go_at_call 70; refine HLf.out.mono ?_; rintro e w' ⟨rfl, hw'⟩; replace hw' := hw'.symm; subst hw') | (go_at_call 113; refine IH.out.mono ?_; rintro e w1 ⟨u, u2, ok, rfl, hu, hu2, huv, hb1⟩; have HB1 := Lib.hid hb1; have HU := Lib.hid huv; have c1 := HB0.out _ hb1; clear hb1 huv) | (go_at_call 71; refine (r2node_any u2 x _ (by omega) (by omega)).mono ?_; rintro e w2 ⟨rfl, hb2⟩; have HB2 := Lib.hid (below_next HB1.out hb2); clear hb2))
        go_ret3
        exact BothSays.mk (u) (nodeS u2 x) (ok) (rfl) (hu) (by rw [nodeS_size]; omega) (HV1.out u u2 ok HU.out) (HB2.out)
      · have IH := Lib.hid (ih old (m - k) (n - k) false hlt hv' (by omega) (by omega) (by omega) ho hpt (by omega))
        have ti : ¬ (m : Int) ≤ (k : Int) := by omega
        have f2 : IntKind.i64.wrap ((n : Int) - (k : Int)) = ((n - k : Nat) : Int) := by rw [IntWalk.i64_in _ (by omega)]; omega
        have f3 : IntKind.i64.wrap ((m : Int) - (k : Int)) = ((m - k : Nat) : Int) := by rw [IntWalk.i64_in _ (by omega)]; omega
        have HV1 : Hid (∀ u u2 ok, (bothL nodeS old (pr.take N).reverse (m - k) (n - k) false = if ok = true then some (u, u2) else none) → (V = if ok = true then some (nodeS x u, nodeS x u2) else none)) := Lib.hid (fun u u2 ok h => by
          rw [HVL.out, if_neg hik, h]
          cases ok <;> rfl)
        clear l3 hv hv' hpt hlt ih HVL ex h1 HVA
        generalize (pr.take N).reverse = PR at *
        generalize n - k = nk at *
        generalize m - k = mk at *
        go_enter Tryz.func113, Tryz.ntmps113
        go_upto_region 15 with (first | (go_at_call 70; refine HLf.out.mono ?_; rintro e w' ⟨rfl, hw'⟩; replace hw' := hw'.symm; subst hw') | (go_at_call 113; refine IH.out.mono ?_; rintro e w1 ⟨u, u2, ok, rfl, hu, hu2, huv, hb1⟩; have HB1 := Lib.hid hb1; have HU := Lib.hid huv; clear hb1 huv))
        have HC1 : Hid (∀ W, Below w1.heap.size w1 W → W.cell? ⟨b, off + N, none⟩ = some (.string x)) := Lib.hid (fun W hW => HB0.out W (below_next HB1.out hW))
        refine wp_region_noPanic ?_
        refine wp_region_lexB [.q 0, .q 1, .q 2, .q 3, .q 4, .q 6, .q 7, .q 8, .q 9, .q 10, .q 12, .b 5, .b 11, .q 13, .q 14, .q 15] (by kernel_rfl) (by kernel_rfl) (fun _ _ _ _ h => h) ?_
        refine wpFl_qL (v := ?_) rfl (Or.inl ⟨by rfl, ?_⟩) ?_
        rotate_left
        focus (intro w' hSw; (try dsimp only [OldKept] at hSw); have c1 := HC1.out w' hSw; go_simp; (try with_reducible rfl); done)
        simp only [Act.put, List.setIfInBounds_toArray, List.set_cons_zero, List.set_cons_succ]
        refine wpFl_qL (v := ?_) rfl (Or.inl ⟨by rfl, ?_⟩) ?_
        rotate_left
        focus (intro w' hSw; (try dsimp only [OldKept] at hSw); have c1 := HC1.out w' hSw; go_simp; (try with_reducible rfl); done)
        simp only [Act.put, List.setIfInBounds_toArray, List.set_cons_zero, List.set_cons_succ]
        refine wpFl_qL (v := ?_) rfl (Or.inl ⟨by rfl, ?_⟩) ?_
        rotate_left
        focus (intro w' hSw; (try dsimp only [OldKept] at hSw); have c1 := HC1.out w' hSw; go_simp; (try with_reducible rfl); done)
        simp only [Act.put, List.setIfInBounds_toArray, List.set_cons_zero, List.set_cons_succ]
        refine wpFl_qL (v := ?_) rfl (Or.inl ⟨by rfl, ?_⟩) ?_
        rotate_left
        focus (intro w' hSw; (try dsimp only [OldKept] at hSw); have c1 := HC1.out w' hSw; go_simp; (try with_reducible rfl); done)
        simp only [Act.put, List.setIfInBounds_toArray, List.set_cons_zero, List.set_cons_succ]
        refine wpFl_qL (v := ?_) rfl (Or.inl ⟨by rfl, ?_⟩) ?_
        rotate_left
        focus (intro w' hSw; (try dsimp only [OldKept] at hSw); have c1 := HC1.out w' hSw; go_simp; (try with_reducible rfl); done)
        simp only [Act.put, List.setIfInBounds_toArray, List.set_cons_zero, List.set_cons_succ]
        refine wpFl_qL (v := ?_) rfl (Or.inl ⟨by rfl, ?_⟩) ?_
        rotate_left
        focus (intro w' hSw; (try dsimp only [OldKept] at hSw); have c1 := HC1.out w' hSw; go_simp; (try with_reducible rfl); done)
        simp only [Act.put, List.setIfInBounds_toArray, List.set_cons_zero, List.set_cons_succ]
        refine wpFl_qL (v := ?_) rfl (Or.inl ⟨by rfl, ?_⟩) ?_
        rotate_left
        focus (intro w' hSw; (try dsimp only [OldKept] at hSw); have c1 := HC1.out w' hSw; go_simp; (try with_reducible rfl); done)
        simp only [Act.put, List.setIfInBounds_toArray, List.set_cons_zero, List.set_cons_succ]
        refine wpFl_qL (v := ?_) rfl (Or.inl ⟨by rfl, ?_⟩) ?_
        rotate_left
        focus (intro w' hSw; (try dsimp only [OldKept] at hSw); have c1 := HC1.out w' hSw; go_simp; (try with_reducible rfl); done)
        simp only [Act.put, List.setIfInBounds_toArray, List.set_cons_zero, List.set_cons_succ]
        refine wpFl_qL (v := ?_) rfl (Or.inl ⟨by rfl, ?_⟩) ?_
        rotate_left
        focus (intro w' hSw; (try dsimp only [OldKept] at hSw); have c1 := HC1.out w' hSw; go_simp; (try with_reducible rfl); done)
        simp only [Act.put, List.setIfInBounds_toArray, List.set_cons_zero, List.set_cons_succ]
        refine wpFl_qL (v := ?_) rfl (Or.inl ⟨by rfl, ?_⟩) ?_
        rotate_left
        focus (intro w' hSw; (try dsimp only [OldKept] at hSw); have c1 := HC1.out w' hSw; go_simp; (try with_reducible rfl); done)
        simp only [Act.put, List.setIfInBounds_toArray, List.set_cons_zero, List.set_cons_succ]
        refine wpFl_qL (v := ?_) rfl (Or.inl ⟨by rfl, ?_⟩) ?_
        rotate_left
        focus (intro w' hSw; (try dsimp only [OldKept] at hSw); have c1 := HC1.out w' hSw; go_simp; (try with_reducible rfl); done)
        simp only [Act.put, List.setIfInBounds_toArray, List.set_cons_zero, List.set_cons_succ]
        refine wpFl_bL rfl (fun w2 hn2 hs2 K hK => ?_)
        go_simp
        go_at_call 71
        refine (r2node_any x u _ (by omega) (by omega)).mono ?_
        rintro e w3 ⟨rfl, hb3⟩
        refine hK.out _ _ (below_next hs2 hb3) (Keeps.below hb3) ?_
        clear hK K hn2 hs2 hb3
        refine wpFl_bL rfl (fun w4 hn4 hs4 K hK => ?_)
        go_simp
        go_at_call 71
        refine (r2node_any x u2 _ (by omega) (by omega)).mono ?_
        rintro e w5 ⟨rfl, hb5⟩
        have HB5 := Lib.hid (below_next HB1.out (below_next hs4 hb5))
        refine hK.out _ _ (below_next hs4 hb5) (Keeps.below hb5) ?_
        clear hK K hn4 hs4 hb5
        refine wpFl_qL (v := ?_) rfl (Or.inl ⟨by rfl, ?_⟩) ?_
        rotate_left
        focus (intro w' hSw; (try dsimp only [OldKept] at hSw); go_simp; (try with_reducible rfl); done)
        simp only [Act.put, List.setIfInBounds_toArray, List.set_cons_zero, List.set_cons_succ]
        refine wpFl_qL (v := ?_) rfl (Or.inl ⟨by rfl, ?_⟩) ?_
        rotate_left
        focus (intro w' hSw; (try dsimp only [OldKept] at hSw); go_simp; (try with_reducible rfl); done)
        simp only [Act.put, List.setIfInBounds_toArray, List.set_cons_zero, List.set_cons_succ]
        refine wpFl_qL (v := ?_) rfl (Or.inl ⟨by rfl, ?_⟩) ?_
        rotate_left
        focus (intro w' hSw; (try dsimp only [OldKept] at hSw); go_simp; (try with_reducible rfl); done)
        simp only [Act.put, List.setIfInBounds_toArray, List.set_cons_zero, List.set_cons_succ]
        refine wpFl_nil ?_
        refine NoPanic.normal ?_
        go_wp2
        go_ret3
        exact BothSays.mk (nodeS x u) (nodeS x u2) (ok) (rfl) (by rw [nodeS_size]; omega) (by rw [nodeS_size]; omega) (HV1.out u u2 ok HU.out) (HB5.out)
end Go.Proofs.YtinfpbkbnhcifaaGreatDoor

/- The reference's VerifyExtension. The conditions: what the slice reads as, lengths. -/
namespace Go.Proofs.YtinfpbkbnhcifaaGreatDoor
open Go.RowKit Go.BigFrame

theorem str_eq (a b : ByteArray) (R : Bool) (h : R = decide (a = b)) : (a.toList == b.toList) = R := by rw [same_str, h]

set_option maxHeartbeats 4000000 in
set_option maxRecDepth 100000 in
theorem rvext_any {w : World} {v : Value} {pr : List ByteArray} (old root : ByteArray) (m n : Nat) (hv : SS w v pr) (hl : pr.length ≤ 1000) (hn : n ≤ 1000) (hm : m ≤ 1000) (h1 : old.size = 32) (h2 : root.size = 32) :
    Calls Tryz.prog 84 #[.string old, .int .i64 m, .string root, .int .i64 n, v] w fun e w' => e = .returned (.bool (vextB old m root n pr)) ∧ Below w.heap.size w w' := by
  have HD := Lib.hid (rdigests_any hv (by omega))
  have t0 : ¬ (m : Int) < 0 := by omega
  by_cases hmn : m ≤ n
  · have t1 : ¬ (n : Int) < (m : Int) := by omega
    by_cases hd : pr.all isDig = true
    · have HV : Hid (vextB old m root n pr = vexB old m root n pr) := Lib.hid (by unfold vextB; rw [if_pos ⟨by omega, hd⟩]; rfl)
      have h32 : ∀ x ∈ pr, x.size ≤ 1000 := fun x hx => by
        have := List.all_eq_true.1 hd x hx
        unfold isDig at this
        have := of_decide_eq_true this
        omega
      rw [hd] at HD
      by_cases hm0 : m = 0
      · subst hm0
        by_cases hp0 : pr.length = 0
        · have hpn : pr = [] := List.eq_nil_of_length_eq_zero hp0
          subst hpn
          obtain ⟨a, c, rfl, _, _, _⟩ := hv.opened
          have HSM := Lib.hid (fun W => r2sum_any ⟨#[]⟩ W (by decide))
          have HR : Hid (vextB old (0 : Nat) root n [] = decide (old = sumS ⟨#[]⟩)) := Lib.hid (by rw [HV.out]; unfold vexB; rw [if_pos rfl]; rfl)
          generalize sumS ⟨#[]⟩ = SM at *
          clear HV h32 hd hp0 hv
          show Calls _ _ #[.string old, .int .i64 0, .string root, .int .i64 n, .slice a 0 c] w _
          have HR2 : Hid (vextB old ((0 : Nat) : Int) root n [] = decide (old = SM)) := HR
          generalize vextB old ((0 : Nat) : Int) root n [] = R at *
          have hst : (old.toList == SM.toList) = R := str_eq _ _ _ HR2.out
          clear HR HR2
          go_enter Tryz.func84, Tryz.ntmps84
          go_wp2_with (first | (go_at_call 96; refine HD.out.mono ?_; rintro e w1 ⟨rfl, hb⟩; have HB1 := Lib.hid hb; clear hb) | (go_at_call 57; refine (HSM.out _).mono ?_; rintro e w2 ⟨rfl, hb⟩; have HB2 := Lib.hid (below_next HB1.out hb); clear hb))
          go_ret
          exact ⟨rfl, HB2.out⟩
        · obtain ⟨a, c, rfl, _, _, _⟩ := hv.opened
          have HR : Hid (vextB old ((0 : Nat) : Int) root n pr = false) := Lib.hid (by rw [HV.out]; unfold vexB; rw [if_pos rfl, decide_eq_false hp0]; rfl)
          have tl : ¬ (pr.length : Int) = 0 := by omega
          generalize vextB old ((0 : Nat) : Int) root n pr = R at *
          generalize pr.length = lp at *
          clear h32 hd hp0 hv HV
          go_enter Tryz.func84, Tryz.ntmps84
          go_wp2_with (first | (go_at_call 96; refine HD.out.mono ?_; rintro e w1 ⟨rfl, hb⟩; have HB1 := Lib.hid hb; clear hb))
          go_ret
          exact ⟨by rw [HR.out]; rfl, HB1.out⟩
      · have tm : ¬ (m : Int) = 0 := by omega
        by_cases hmn2 : m = n
        · subst hmn2
          have HR : Hid (vextB old m root m pr = (decide (pr.length = 0) && decide (old = root))) := Lib.hid (by rw [HV.out]; exact vexB_same (by omega))
          obtain ⟨a, c, rfl, _, _, _⟩ := hv.opened
          generalize vextB old m root m pr = R at *
          clear h32 hd hv HV
          generalize pr.length = lp at *
          by_cases hp0 : lp = 0
          · subst hp0
            have hst : (old.toList == root.toList) = R := str_eq _ _ _ (by rw [HR.out]; simp)
            clear HR
            go_enter Tryz.func84, Tryz.ntmps84
            go_wp2_with (first | (go_at_call 96; refine HD.out.mono ?_; rintro e w1 ⟨rfl, hb⟩; have HB1 := Lib.hid hb; clear hb))
            go_ret
            exact ⟨rfl, HB1.out⟩
          · have tl : ¬ (lp : Int) = 0 := by omega
            have HR2 : Hid (R = false) := Lib.hid (by rw [HR.out, decide_eq_false hp0]; rfl)
            clear HR
            go_enter Tryz.func84, Tryz.ntmps84
            go_wp2_with (first | (go_at_call 96; refine HD.out.mono ?_; rintro e w1 ⟨rfl, hb⟩; have HB1 := Lib.hid hb; clear hb))
            go_ret
            exact ⟨by rw [HR2.out]; rfl, HB1.out⟩
        · have tmn : ¬ (m : Int) = (n : Int) := by omega
          have HBO := Lib.hid (fun W (hW : Below w.heap.size w W) => rboth_any pr.length old m n true rfl (SS.below hv hW) (by omega) hmn hn (by omega) h32 hl)
          have HR : Hid (vextB old m root n pr = decide (bothL nodeS old pr.reverse m n true = some (old, root))) := Lib.hid (by rw [HV.out]; exact vexB_pos (by omega))
          obtain ⟨a, c, rfl, _, _, _⟩ := hv.opened
          generalize vextB old m root n pr = R at *
          generalize bothL nodeS old pr.reverse m n true = V at *
          clear h32 hd hv HV
          generalize pr.length = lp at *
          go_enter Tryz.func84, Tryz.ntmps84
          go_upto_region 9 with (first | (go_at_call 96; refine HD.out.mono ?_; rintro e w1 ⟨rfl, hb⟩; have HB1 := Lib.hid hb; clear hb) | (go_at_call 113; refine (HBO.out _ HB1.out).mono ?_; rintro e w2 ⟨u, u2, ok, rfl, hu, hu2, huv, hb⟩; have HB2 := Lib.hid (below_next HB1.out hb); have HU := Lib.hid huv; clear hb huv))
          cases ok with
          | false =>
            have HF : Hid (R = false) := Lib.hid (by rw [HR.out, HU.out]; rfl)
            go_wp2
            go_ret
            exact ⟨by rw [HF.out]; rfl, HB2.out⟩
          | true =>
            by_cases hua : u = old
            · subst hua
              have hst : (u2.toList == root.toList) = R := str_eq _ _ _ (by
                rw [HR.out, HU.out]
                by_cases e : u2 = root
                · rw [decide_eq_true e, e]; simp
                · rw [decide_eq_false e]
                  exact decide_eq_false (fun h => e (by injection h with h; injection h)))
              clear HR HU
              go_wp2
              go_ret
              exact ⟨rfl, HB2.out⟩
            · have hst : (u.toList == old.toList) = false := by rw [same_str]; exact decide_eq_false hua
              have HF : Hid (R = false) := Lib.hid (by
                rw [HR.out, HU.out]
                exact decide_eq_false (fun h => hua (by injection h with h; injection h)))
              go_wp2
              go_ret
              exact ⟨by rw [HF.out]; rfl, HB2.out⟩
    · have h3 : pr.all isDig = false := by simpa using hd
      have HF : Hid (vextB old m root n pr = false) := Lib.hid (by unfold vextB; rw [if_neg (fun h => hd h.2)])
      rw [h3] at HD
      clear hd h3
      generalize vextB old m root n pr = R at *
      go_enter Tryz.func84, Tryz.ntmps84
      go_wp2_with (go_at_call 96; refine HD.out.mono ?_; rintro e w1 ⟨rfl, hb⟩; have HB1 := Lib.hid hb; clear hb)
      go_ret
      exact ⟨by rw [HF.out]; rfl, HB1.out⟩
  · have t1 : (n : Int) < (m : Int) := by omega
    have HF : Hid (vextB old m root n pr = false) := Lib.hid (by unfold vextB; rw [if_neg (by omega)])
    generalize vextB old m root n pr = R at *
    generalize pr.all isDig = D at *
    go_enter Tryz.func84, Tryz.ntmps84
    go_wp2_with (go_at_call 96; refine HD.out.mono ?_; rintro e w1 ⟨rfl, hb⟩; have HB1 := Lib.hid hb; clear hb)
    go_ret
    exact ⟨by rw [HF.out]; rfl, HB1.out⟩
end Go.Proofs.YtinfpbkbnhcifaaGreatDoor

/- The reference's part and Extension. The conditions: what the slice reads as, lengths. -/
namespace Go.Proofs.YtinfpbkbnhcifaaGreatDoor
open Go.RowKit Go.BigFrame

theorem extB_size (l : List ByteArray) (m : Nat) (wh : Bool) : (extB l m wh).length ≤ l.length + 1 := extD_len leafS nodeS (sumS ⟨#[]⟩) l m wh

set_option maxHeartbeats 8000000 in
set_option maxRecDepth 100000 in
theorem rpart_any (N : Nat) : ∀ (n : Nat), n ≤ N → ∀ {w : World} {v : Value} {xs : List ByteArray} (m : Nat) (wh : Bool), xs.length = n → SS w v xs → 1 ≤ m → m ≤ n → n ≤ 1000 → (∀ x ∈ xs, x.size ≤ 100000) →
    Calls Tryz.prog 112 #[v, .int .i64 m, .bool wh] w fun e w' => ∃ v', e = .returned v' ∧ OwnS w' w.heap.size v' (extB xs m wh).reverse ∧ Below w.heap.size w w' := by
  induction N with
  | zero =>
    intro n hn w v xs m wh hx hv h1 h2 _ _
    omega
  | succ N ih =>
    intro n hn w v xs m wh hx hv h1 hmn h1000 hs
    obtain ⟨a, c, rfl, l1, l2, l3⟩ := hv.opened
    obtain ⟨b, off, rfl, hb, c0⟩ := l3 0 _ (List.getElem?_eq_getElem (by omega))
    rw [hx] at hv l1 ⊢
    by_cases he : m = n
    · have HE : Hid (extB xs m wh = if wh then [] else [rootB xs]) := Lib.hid (extB_end xs m wh (by omega))
      have HR := Lib.hid (fun W (hW : Below w.heap.size w W) => r2root_any n n (Nat.le_refl _) hx (hv.below hW) h1000 hs)
      generalize extB xs m wh = E at *
      generalize rootB xs = RT at *
      subst he
      clear hv l3 c0 ih
      cases wh with
      | true =>
        go_enter Tryz.func112, Tryz.ntmps112
        go_wp2
        go_ret
        exact ⟨_, rfl, by rw [HE.out]; exact OwnE.nil _ _ _ _, Below.refl _ _⟩
      | false =>
        go_enter Tryz.func112, Tryz.ntmps112
        go_wp2_with (go_at_call 72; refine (HR.out _ (Below.refl _ _)).mono ?_; rintro e w1 ⟨rfl, hb1⟩; have HB1 := Lib.hid hb1; clear hb1)
        go_ret
        refine ⟨_, rfl, ?_, HB1.out.alloc HB1.out.size _⟩
        rw [HE.out]
        exact OwnS.lit1 w1 _ HB1.out.size
    · have h2 : 2 ≤ n := by omega
      have h3 := leftN_lt h2
      have h4 := leftN_pos n
      have HLf := Lib.hid (r2left_any n h2 (by omega) w)
      have HEL : Hid (m ≤ leftN n → extB xs m wh = rootB (xs.drop (leftN n)) :: extB (xs.take (leftN n)) m wh) := Lib.hid (fun h => by
        have := extB_left xs m wh (by omega) h1 (by rw [hx]; exact h)
        rw [hx] at this
        exact this)
      have HER : Hid (leftN n < m → extB xs m wh = rootB (xs.take (leftN n)) :: extB (xs.drop (leftN n)) (m - leftN n) false) := Lib.hid (fun h => by
        have := extB_right xs m wh (by omega) h1 (by rw [hx]; exact h)
        rw [hx] at this
        exact this)
      obtain ⟨k, hk⟩ : ∃ k, k = leftN n := ⟨_, rfl⟩
      rw [← hk] at h3 h4 HLf HEL HER
      clear hk
      have HTK : Hid (∀ W, Below w.heap.size w W → SS W (.slice (some ⟨b, off, none⟩) k c) (xs.take k)) := Lib.hid (fun W hW => (hv.cut k (by omega)).below hW)
      have HDR : Hid (∀ W, Below w.heap.size w W → SS W (.slice (some ⟨b, off + k, none⟩) (n - k) (c - k)) (xs.drop k)) := Lib.hid (fun W hW => (hv.drop k (by omega)).below hW)
      have hlt : (xs.take k).length = k := by rw [List.length_take]; omega
      have hld : (xs.drop k).length = n - k := by rw [List.length_drop]; omega
      have hst : ∀ x ∈ xs.take k, x.size ≤ 100000 := fun x hx => hs x (List.mem_of_mem_take hx)
      have hsd : ∀ x ∈ xs.drop k, x.size ≤ 100000 := fun x hx => hs x (List.mem_of_mem_drop hx)
      have u1 : (k : Int) ≤ (n : Int) := by omega
      have u0 : (0 : Int) ≤ (k : Int) := by omega
      have u2 : k ≤ c := by omega
      have u3 : n ≤ c := by omega
      have u5 : ¬ c = k := by omega
      have t1 : ¬ (m : Int) = (n : Int) := by omega
      have f4 : ((n : Int) - (k : Int)).toNat = n - k := by omega
      have f5 : ((c : Int) - (k : Int)).toNat = c - k := by omega
      by_cases hmk : m ≤ k
      · have ti : (m : Int) ≤ (k : Int) := by omega
        have hel := extB_size (xs.take k) m wh
        have HP : Hid (∀ W, Below w.heap.size w W → Calls Tryz.prog 112 #[.slice (some ⟨b, off, none⟩) k c, .int .i64 m, .bool wh] W fun e w' => ∃ v', e = .returned v' ∧ OwnS w' W.heap.size v' (extB (xs.take k) m wh).reverse ∧ Below W.heap.size W w') := Lib.hid (fun W hW => ih k (by omega) m wh hlt (HTK.out W hW) h1 hmk (by omega) hst)
        have HRT : Hid (∀ W, Below w.heap.size w W → Calls Tryz.prog 72 #[.slice (some ⟨b, off + k, none⟩) (n - k) (c - k)] W fun e w' => e = .returned (.string (rootB (xs.drop k))) ∧ Below W.heap.size W w') := Lib.hid (fun W hW => r2root_any (n - k) (n - k) (Nat.le_refl _) hld (HDR.out W hW) (by omega) hsd)
        have HEV : Hid ((extB xs m wh).reverse = (extB (xs.take k) m wh).reverse ++ [rootB (xs.drop k)]) := Lib.hid (by rw [HEL.out hmk, List.reverse_cons])
        obtain ⟨E1, hE1⟩ : ∃ E1, E1 = (extB (xs.take k) m wh).reverse := ⟨_, rfl⟩
        have hE1l : E1.length ≤ 2000 := by rw [hE1, List.length_reverse]; omega
        rw [← hE1] at HP HEV
        generalize (extB xs m wh).reverse = E at *
        generalize rootB (xs.drop k) = RT at *
        clear hv l3 c0 ih HEL HER HTK HDR hlt hld hst hsd hE1 hel
        go_enter Tryz.func112, Tryz.ntmps112
        go_upto_region 7 with (go_at_call 70; refine HLf.out.mono ?_; rintro e w' ⟨rfl, hw'⟩; replace hw' := hw'.symm; subst hw')
        refine wp_region_noPanic ?_
        refine wp_region_lexB [.q 0, .q 1, .q 2, .q 3, .q 4, .q 6, .q 7, .q 8, .b 5, .b 9, .an 10, .co 10, .b 11, .q 12] (by kernel_rfl) (by kernel_rfl) (fun _ _ _ _ h => h) ?_
        refine wpFl_qL (v := ?_) rfl (Or.inl ⟨by rfl, ?_⟩) ?_
        rotate_left
        focus (intro w' hSw; (try dsimp only [OldKept] at hSw); go_simp; (try with_reducible rfl); done)
        simp only [Act.put, List.setIfInBounds_toArray, List.set_cons_zero, List.set_cons_succ]
        refine wpFl_qL (v := ?_) rfl (Or.inl ⟨by rfl, ?_⟩) ?_
        rotate_left
        focus (intro w' hSw; (try dsimp only [OldKept] at hSw); go_simp; (try with_reducible rfl); done)
        simp only [Act.put, List.setIfInBounds_toArray, List.set_cons_zero, List.set_cons_succ]
        refine wpFl_qL (v := ?_) rfl (Or.inl ⟨by rfl, ?_⟩) ?_
        rotate_left
        focus (intro w' hSw; (try dsimp only [OldKept] at hSw); go_simp; (try with_reducible rfl); done)
        simp only [Act.put, List.setIfInBounds_toArray, List.set_cons_zero, List.set_cons_succ]
        refine wpFl_qL (v := ?_) rfl (Or.inl ⟨by rfl, ?_⟩) ?_
        rotate_left
        focus (intro w' hSw; (try dsimp only [OldKept] at hSw); go_simp; (try with_reducible rfl); done)
        simp only [Act.put, List.setIfInBounds_toArray, List.set_cons_zero, List.set_cons_succ]
        refine wpFl_qL (v := ?_) rfl (Or.inl ⟨by rfl, ?_⟩) ?_
        rotate_left
        focus (intro w' hSw; (try dsimp only [OldKept] at hSw); go_simp; (try with_reducible rfl); done)
        simp only [Act.put, List.setIfInBounds_toArray, List.set_cons_zero, List.set_cons_succ]
        refine wpFl_qL (v := ?_) rfl (Or.inl ⟨by rfl, ?_⟩) ?_
        rotate_left
        focus (intro w' hSw; (try dsimp only [OldKept] at hSw); go_simp; (try with_reducible rfl); done)
        simp only [Act.put, List.setIfInBounds_toArray, List.set_cons_zero, List.set_cons_succ]
        refine wpFl_qL (v := ?_) rfl (Or.inl ⟨by rfl, ?_⟩) ?_
        rotate_left
        focus (intro w' hSw; (try dsimp only [OldKept] at hSw); go_simp; (try with_reducible rfl); done)
        simp only [Act.put, List.setIfInBounds_toArray, List.set_cons_zero, List.set_cons_succ]
        refine wpFl_qL (v := ?_) rfl (Or.inl ⟨by rfl, ?_⟩) ?_
        rotate_left
        focus (intro w' hSw; (try dsimp only [OldKept] at hSw); go_simp; (try with_reducible rfl); done)
        simp only [Act.put, List.setIfInBounds_toArray, List.set_cons_zero, List.set_cons_succ]
        refine wpFl_bL rfl (fun w2 hn2 hs2 K hK => ?_)
        go_simp
        go_at_call 112
        refine (HP.out _ hs2).mono ?_
        rintro e w3 ⟨v3, rfl, ho3, hb3⟩
        have HO3 := Lib.hid (OwnE.mono ho3 (base' := w.heap.size) hs2.size)
        refine hK.out _ _ (below_next hs2 hb3) (Keeps.below hb3) ?_
        clear hK K hn2 hs2 hb3 ho3
        refine wpFl_bL rfl (fun w4 hn4 hs4 K hK => ?_)
        go_simp
        go_at_call 72
        refine (HRT.out _ hs4).mono ?_
        rintro e w5 ⟨rfl, hb5⟩
        have HO5 := Lib.hid (OwnE.far (OwnE.far HO3.out hn4 (Nat.le_refl _)) hb5 (Nat.le_refl _))
        refine hK.out _ _ (below_next hs4 hb5) (Keeps.below hb5) ?_
        clear hK K hn4 hs4 hb5 HO3
        refine wpFl_anL rfl (.cells #[.string RT] 9 (0, 0)) (fun n => .slice (some ⟨n, 0, none⟩) 1 1) ⟨by rfl, fun w' => ?_⟩ ?_
        focus (go_simp; done)
        refine wpFl_coL rfl (.cells #[.string RT] 9 (0, 0)) (fun n => .slice (some ⟨n, 0, none⟩) 1 1) (by rfl) (N' := []) (by rfl) (fun b6 w6 hn_w6 hs_w6 hb_b6 hz_b6 => ?_)
        simp only [Act.put, List.setIfInBounds_toArray, List.set_cons_zero, List.set_cons_succ]
        have HO6 := Lib.hid (OwnE.far HO5.out hn_w6 (Nat.le_refl _))
        have HS6 := Lib.hid (SS.one hz_b6)
        clear HO5 hn_w6 hz_b6 hs_w6 hb_b6
        refine wpFl_bL rfl (fun w7 hn7 hs7 K hK => ?_)
        have HO7 := Lib.hid (OwnE.far HO6.out hn7 (Nat.le_refl _))
        have HS7 := Lib.hid (SS.below HS6.out hn7)
        refine step_append_strs rfl _ _ w.heap.size v3 E1 [RT] (.slice (some ⟨b6, 0, none⟩) 1 1) HO7.out HS7.out (by simp) (by simp; omega) hs7.size rfl rfl rfl ?_
        intro v8 w8 hown8 hgr8
        have HB8 : Hid (Below w.heap.size w w8) := Lib.hid (Below.grown hs7 hgr8 hs7.size (fun j e => OwnE.ge HO7.out j e))
        have HO8 := Lib.hid hown8
        refine hK.out _ _ HB8.out Keeps.nil ?_
        clear hK K hn7 hs7 hown8 hgr8 HO6 HO7 HS6 HS7
        simp only [Act.put, List.setIfInBounds_toArray, List.set_cons_zero, List.set_cons_succ]
        refine wpFl_qL (v := ?_) rfl (Or.inl ⟨by rfl, ?_⟩) ?_
        rotate_left
        focus (intro w' hSw; (try dsimp only [OldKept] at hSw); go_simp; (try with_reducible rfl); done)
        simp only [Act.put, List.setIfInBounds_toArray, List.set_cons_zero, List.set_cons_succ]
        refine wpFl_nil ?_
        refine NoPanic.normal ?_
        go_wp2
        go_ret
        exact ⟨_, rfl, by rw [HEV.out]; exact HO8.out, HB8.out⟩
      · have ti : ¬ (m : Int) ≤ (k : Int) := by omega
        have hel := extB_size (xs.drop k) (m - k) false
        have f2 : IntKind.i64.wrap ((m : Int) - (k : Int)) = ((m - k : Nat) : Int) := by rw [IntWalk.i64_in _ (by omega)]; omega
        have HP : Hid (∀ W, Below w.heap.size w W → Calls Tryz.prog 112 #[.slice (some ⟨b, off + k, none⟩) (n - k) (c - k), .int .i64 ((m - k : Nat) : Int), .bool false] W fun e w' => ∃ v', e = .returned v' ∧ OwnS w' W.heap.size v' (extB (xs.drop k) (m - k) false).reverse ∧ Below W.heap.size W w') := Lib.hid (fun W hW => ih (n - k) (by omega) (m - k) false hld (HDR.out W hW) (by omega) (by omega) (by omega) hsd)
        have HRT : Hid (∀ W, Below w.heap.size w W → Calls Tryz.prog 72 #[.slice (some ⟨b, off, none⟩) k c] W fun e w' => e = .returned (.string (rootB (xs.take k))) ∧ Below W.heap.size W w') := Lib.hid (fun W hW => r2root_any k k (Nat.le_refl _) hlt (HTK.out W hW) (by omega) hst)
        have HEV : Hid ((extB xs m wh).reverse = (extB (xs.drop k) (m - k) false).reverse ++ [rootB (xs.take k)]) := Lib.hid (by rw [HER.out (by omega), List.reverse_cons])
        obtain ⟨E1, hE1⟩ : ∃ E1, E1 = (extB (xs.drop k) (m - k) false).reverse := ⟨_, rfl⟩
        have hE1l : E1.length ≤ 2000 := by rw [hE1, List.length_reverse]; omega
        rw [← hE1] at HP HEV
        generalize (extB xs m wh).reverse = E at *
        generalize rootB (xs.take k) = RT at *
        generalize m - k = mk at *
        clear hv l3 c0 ih HEL HER HTK HDR hlt hld hst hsd hE1 hel
        go_enter Tryz.func112, Tryz.ntmps112
        go_upto_region 8 with (go_at_call 70; refine HLf.out.mono ?_; rintro e w' ⟨rfl, hw'⟩; replace hw' := hw'.symm; subst hw')
        refine wp_region_noPanic ?_
        refine wp_region_lexB [.q 0, .q 1, .q 2, .q 3, .q 4, .q 5, .q 7, .q 8, .q 9, .b 6, .b 10, .an 11, .co 11, .b 12, .q 13] (by kernel_rfl) (by kernel_rfl) (fun _ _ _ _ h => h) ?_
        refine wpFl_qL (v := ?_) rfl (Or.inl ⟨by rfl, ?_⟩) ?_
        rotate_left
        focus (intro w' hSw; (try dsimp only [OldKept] at hSw); go_simp; (try with_reducible rfl); done)
        simp only [Act.put, List.setIfInBounds_toArray, List.set_cons_zero, List.set_cons_succ]
        refine wpFl_qL (v := ?_) rfl (Or.inl ⟨by rfl, ?_⟩) ?_
        rotate_left
        focus (intro w' hSw; (try dsimp only [OldKept] at hSw); go_simp; (try with_reducible rfl); done)
        simp only [Act.put, List.setIfInBounds_toArray, List.set_cons_zero, List.set_cons_succ]
        refine wpFl_qL (v := ?_) rfl (Or.inl ⟨by rfl, ?_⟩) ?_
        rotate_left
        focus (intro w' hSw; (try dsimp only [OldKept] at hSw); go_simp; (try with_reducible rfl); done)
        simp only [Act.put, List.setIfInBounds_toArray, List.set_cons_zero, List.set_cons_succ]
        refine wpFl_qL (v := ?_) rfl (Or.inl ⟨by rfl, ?_⟩) ?_
        rotate_left
        focus (intro w' hSw; (try dsimp only [OldKept] at hSw); go_simp; (try with_reducible rfl); done)
        simp only [Act.put, List.setIfInBounds_toArray, List.set_cons_zero, List.set_cons_succ]
        refine wpFl_qL (v := ?_) rfl (Or.inl ⟨by rfl, ?_⟩) ?_
        rotate_left
        focus (intro w' hSw; (try dsimp only [OldKept] at hSw); go_simp; (try with_reducible rfl); done)
        simp only [Act.put, List.setIfInBounds_toArray, List.set_cons_zero, List.set_cons_succ]
        refine wpFl_qL (v := ?_) rfl (Or.inl ⟨by rfl, ?_⟩) ?_
        rotate_left
        focus (intro w' hSw; (try dsimp only [OldKept] at hSw); go_simp; (try with_reducible rfl); done)
        simp only [Act.put, List.setIfInBounds_toArray, List.set_cons_zero, List.set_cons_succ]
        refine wpFl_qL (v := ?_) rfl (Or.inl ⟨by rfl, ?_⟩) ?_
        rotate_left
        focus (intro w' hSw; (try dsimp only [OldKept] at hSw); go_simp; (try with_reducible rfl); done)
        simp only [Act.put, List.setIfInBounds_toArray, List.set_cons_zero, List.set_cons_succ]
        refine wpFl_qL (v := ?_) rfl (Or.inl ⟨by rfl, ?_⟩) ?_
        rotate_left
        focus (intro w' hSw; (try dsimp only [OldKept] at hSw); go_simp; (try with_reducible rfl); done)
        simp only [Act.put, List.setIfInBounds_toArray, List.set_cons_zero, List.set_cons_succ]
        refine wpFl_qL (v := ?_) rfl (Or.inl ⟨by rfl, ?_⟩) ?_
        rotate_left
        focus (intro w' hSw; (try dsimp only [OldKept] at hSw); go_simp; (try with_reducible rfl); done)
        simp only [Act.put, List.setIfInBounds_toArray, List.set_cons_zero, List.set_cons_succ]
        refine wpFl_bL rfl (fun w2 hn2 hs2 K hK => ?_)
        go_simp
        go_at_call 112
        refine (HP.out _ hs2).mono ?_
        rintro e w3 ⟨v3, rfl, ho3, hb3⟩
        have HO3 := Lib.hid (OwnE.mono ho3 (base' := w.heap.size) hs2.size)
        refine hK.out _ _ (below_next hs2 hb3) (Keeps.below hb3) ?_
        clear hK K hn2 hs2 hb3 ho3
        refine wpFl_bL rfl (fun w4 hn4 hs4 K hK => ?_)
        go_simp
        go_at_call 72
        refine (HRT.out _ hs4).mono ?_
        rintro e w5 ⟨rfl, hb5⟩
        have HO5 := Lib.hid (OwnE.far (OwnE.far HO3.out hn4 (Nat.le_refl _)) hb5 (Nat.le_refl _))
        refine hK.out _ _ (below_next hs4 hb5) (Keeps.below hb5) ?_
        clear hK K hn4 hs4 hb5 HO3
        refine wpFl_anL rfl (.cells #[.string RT] 9 (0, 0)) (fun n => .slice (some ⟨n, 0, none⟩) 1 1) ⟨by rfl, fun w' => ?_⟩ ?_
        focus (go_simp; done)
        refine wpFl_coL rfl (.cells #[.string RT] 9 (0, 0)) (fun n => .slice (some ⟨n, 0, none⟩) 1 1) (by rfl) (N' := []) (by rfl) (fun b6 w6 hn_w6 hs_w6 hb_b6 hz_b6 => ?_)
        simp only [Act.put, List.setIfInBounds_toArray, List.set_cons_zero, List.set_cons_succ]
        have HO6 := Lib.hid (OwnE.far HO5.out hn_w6 (Nat.le_refl _))
        have HS6 := Lib.hid (SS.one hz_b6)
        clear HO5 hn_w6 hz_b6 hs_w6 hb_b6
        refine wpFl_bL rfl (fun w7 hn7 hs7 K hK => ?_)
        have HO7 := Lib.hid (OwnE.far HO6.out hn7 (Nat.le_refl _))
        have HS7 := Lib.hid (SS.below HS6.out hn7)
        refine step_append_strs rfl _ _ w.heap.size v3 E1 [RT] (.slice (some ⟨b6, 0, none⟩) 1 1) HO7.out HS7.out (by simp) (by simp; omega) hs7.size rfl rfl rfl ?_
        intro v8 w8 hown8 hgr8
        have HB8 : Hid (Below w.heap.size w w8) := Lib.hid (Below.grown hs7 hgr8 hs7.size (fun j e => OwnE.ge HO7.out j e))
        have HO8 := Lib.hid hown8
        refine hK.out _ _ HB8.out Keeps.nil ?_
        clear hK K hn7 hs7 hown8 hgr8 HO6 HO7 HS6 HS7
        simp only [Act.put, List.setIfInBounds_toArray, List.set_cons_zero, List.set_cons_succ]
        refine wpFl_qL (v := ?_) rfl (Or.inl ⟨by rfl, ?_⟩) ?_
        rotate_left
        focus (intro w' hSw; (try dsimp only [OldKept] at hSw); go_simp; (try with_reducible rfl); done)
        simp only [Act.put, List.setIfInBounds_toArray, List.set_cons_zero, List.set_cons_succ]
        refine wpFl_nil ?_
        refine NoPanic.normal ?_
        go_wp2
        go_ret
        exact ⟨_, rfl, by rw [HEV.out]; exact HO8.out, HB8.out⟩
end Go.Proofs.YtinfpbkbnhcifaaGreatDoor
