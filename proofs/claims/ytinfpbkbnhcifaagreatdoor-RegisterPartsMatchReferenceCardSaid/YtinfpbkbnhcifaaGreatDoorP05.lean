/- The reference's tests of numbers and of digests, its value of a proof. The conditions: what the slice reads as, lengths. -/
import Derived.Test.YtinfpbkbnhcifaaGreatDoorP04
import Derived.Deep.DeepCutAuto
namespace Go.Proofs.YtinfpbkbnhcifaaGreatDoor
open Go.RowKit Go.BigFrame

set_option maxHeartbeats 400000 in
theorem rin_any (n lo hi : Int) (w : World) :
    Calls Tryz.prog 55 #[.int .i64 n, .int .i64 lo, .int .i64 hi] w fun e w' => e = .returned (.bool (decide (lo ≤ n ∧ n ≤ hi))) ∧ w' = w := by
  by_cases h1 : lo ≤ n
  · have hd : decide (lo ≤ n) = true := decide_eq_true h1
    go_enter Tryz.func55, Tryz.ntmps55
    go_wp2
    go_ret
    refine ⟨ret_bool ?_, rfl⟩
    rw [Bool.eq_iff_iff]
    simp
    try omega
  · have hd : decide (lo ≤ n) = false := decide_eq_false h1
    go_enter Tryz.func55, Tryz.ntmps55
    go_wp2
    go_ret
    refine ⟨ret_bool ?_, rfl⟩
    simp
    try omega

set_option maxHeartbeats 2000000 in
set_option maxRecDepth 100000 in
theorem rdigests_any {w : World} {v : Value} {pr : List ByteArray} (hv : SS w v pr) (hl : pr.length ≤ 100000) :
    Calls Tryz.prog 96 #[v] w fun e w' => e = .returned (.bool (pr.all isDig)) ∧ Below w.heap.size w w' := by
  obtain ⟨a, c, rfl, l1, l2, l3⟩ := hv.opened
  have HV := Lib.hid l3
  obtain ⟨R, hR⟩ : ∃ R, R = pr.all isDig := ⟨_, rfl⟩
  rw [← hR]
  have HR := Lib.hid hR
  obtain ⟨n, hn⟩ : ∃ n, n = pr.length := ⟨_, rfl⟩
  rw [← hn] at hl ⊢
  have HN := Lib.hid hn
  clear l1 l2 l3 hv hR hn
  go_enter Tryz.func96, Tryz.ntmps96
  go_wp2
  go_loopw [3] (fun i wr => ∃ k : Nat, k ≤ n ∧ i = .int .i64 k ∧ Hid (∀ j x, j < k → pr[j]? = some x → x.size = 32) ∧ wr = w) (fun i _ => n - (intOf i).toNat)
  case atStart => exact ⟨0, by omega, rfl, Lib.hid (fun j x hj => by omega), rfl⟩
  case round =>
    obtain ⟨k, hk, rfl, hall, rfl⟩ := hrel
    by_cases hlt : k < n
    · obtain ⟨x, ex⟩ : ∃ x, pr[k]? = some x := ⟨_, List.getElem?_eq_getElem (by rw [← HN.out]; exact hlt)⟩
      obtain ⟨b, off, rfl, hb, c0⟩ := HV.out k x ex
      have HEX := Lib.hid ex
      have tk : (k : Int) < (n : Int) := by omega
      have tk0 : (0 : Int) ≤ (k : Int) := by omega
      clear ex
      by_cases h32 : x.size = 32
      · have HN1 : Hid (∀ j y, j < k + 1 → pr[j]? = some y → y.size = 32) := Lib.hid (fun j y hj hy => by
          rcases Nat.lt_or_ge j k with h | h
          · exact hall.out j y h hy
          · obtain rfl : j = k := by omega
            rw [HEX.out] at hy
            cases hy
            exact h32)
        go_wp2
        go_roundw
        case rel => exact ⟨k + 1, by omega, by go_num, HN1, trivial⟩
        case measure => simp [intOf]; omega
      · have h33 : ¬ (x.size : Int) = 32 := by omega
        have HF : Hid (R = false) := Lib.hid (by
          rw [HR.out, List.all_eq_false]
          refine ⟨x, List.mem_of_getElem? HEX.out, ?_⟩
          unfold isDig
          simp [h32])
        go_wp2
        go_ret
        exact ⟨by rw [HF.out]; rfl, Below.refl _ _⟩
    · have tk : ¬ (k : Int) < (n : Int) := by omega
      have HF : Hid (R = true) := Lib.hid (by
        rw [HR.out, List.all_eq_true]
        intro x hx
        obtain ⟨j, hj⟩ := List.mem_iff_getElem?.1 hx
        have hjn : j < pr.length := (List.getElem?_eq_some_iff.1 hj).1
        rw [← HN.out] at hjn
        unfold isDig
        exact decide_eq_true (hall.out j x (by omega) hj))
      go_wp2
      go_ret
      exact ⟨by rw [HF.out]; rfl, Below.refl _ _⟩

set_option maxHeartbeats 8000000 in
set_option maxRecDepth 100000 in
theorem rvalue_any (N : Nat) : ∀ {w : World} {v : Value} {pr : List ByteArray} (n i : Nat) (s : ByteArray), pr.length = N → SS w v pr → 1 ≤ n → n ≤ 1000 → i ≤ 100000 → s.size ≤ 100000 → (∀ x ∈ pr, x.size ≤ 1000) → N ≤ 1000 →
    Calls Tryz.prog 97 #[.int .i64 n, .int .i64 i, .string s, v] w fun e w' => ∃ (u : ByteArray) (ok : Bool), e = .returned (.tuple #[.string u, .bool ok]) ∧ u.size ≤ 32 ∧ (valueL leafS nodeS s pr.reverse n i = if ok = true then some u else none) ∧ Below w.heap.size w w' := by
  induction N with
  | zero =>
    intro w v pr n i s hl hv hn1 hn hi hs hp hN
    have hp0 : pr = [] := List.eq_nil_of_length_eq_zero hl
    subst hp0
    obtain ⟨a, c, rfl, _, _, _⟩ := hv.opened
    have HLf := Lib.hid (fun W => r2leaf_any s W (by omega))
    have hls : (leafS s).size = 32 := leafS_size _
    have HVL : Hid (valueL leafS nodeS s ([] : List ByteArray).reverse n i = if n ≤ 1 then some (leafS s) else none) := Lib.hid rfl
    generalize leafS s = R at *
    show Calls _ _ #[.int .i64 n, .int .i64 i, .string s, .slice a 0 c] w fun e w' => ∃ (u : ByteArray) (ok : Bool), e = .returned (.tuple #[.string u, .bool ok]) ∧ u.size ≤ 32 ∧ (valueL leafS nodeS s ([] : List ByteArray).reverse n i = if ok = true then some u else none) ∧ Below w.heap.size w w'
    by_cases h1 : n = 1
    · subst h1
      go_enter Tryz.func97, Tryz.ntmps97
      go_wp2_with (go_at_call 38; refine (HLf.out _).mono ?_; rintro e w1 ⟨rfl, hb⟩; have HB1 := Lib.hid hb; clear hb)
      go_ret2
      exact ⟨R, true, rfl, by omega, by rw [HVL.out]; rfl, HB1.out⟩
    · have t1 : ¬ (n : Int) = 1 := by omega
      have HVN : Hid (valueL leafS nodeS s ([] : List ByteArray).reverse n i = none) := Lib.hid (by rw [HVL.out, if_neg (by omega)])
      go_enter Tryz.func97, Tryz.ntmps97
      go_wp2
      go_ret2
      exact ⟨⟨#[]⟩, false, rfl, by decide, by rw [HVN.out]; rfl, Below.refl _ _⟩
  | succ N ih =>
    intro w v pr n i s hl hv hn1 hn hi hs hp hN
    obtain ⟨a, c, rfl, l1, l2, l3⟩ := hv.opened
    obtain ⟨M, hM⟩ : ∃ M, M = N + 1 := ⟨_, rfl⟩
    rw [← hM] at hl hN
    rw [hl] at hv l1 ⊢
    unfold maxLen at l2
    obtain ⟨x, ex⟩ : ∃ x, pr[N]? = some x := ⟨_, List.getElem?_eq_getElem (by omega)⟩
    obtain ⟨b, off, rfl, hb, c0⟩ := l3 N x ex
    have hrev : pr.reverse = x :: (pr.take N).reverse := by
      have e : pr = pr.take N ++ [x] := by
        have h1 := List.take_add_one (l := pr) (i := N)
        rw [ex, ← hM, ← hl, List.take_length] at h1
        exact h1
      rw [e, List.reverse_append]
      rw [← e]
      rfl
    rw [hrev]
    clear hrev
    have hxs := hp x (List.mem_of_getElem? ex)
    have f1 : IntKind.i64.wrap ((M : Int) - 1) = (N : Int) := by rw [IntWalk.i64_in _ (by omega)]; omega
    have u1 : (N : Int) ≤ (M : Int) := by omega
    have u0 : (0 : Int) ≤ (N : Int) := by omega
    have u2 : N ≤ c := by omega
    have u3 : (N : Int) < (M : Int) := by omega
    have u4 : ¬ (N : Int) < 0 := by omega
    by_cases h1 : n = 1
    · subst h1
      have HLf := Lib.hid (fun W => r2leaf_any s W (by omega))
      have hls : (leafS s).size = 32 := leafS_size _
      have HVN : Hid (valueL leafS nodeS s (x :: (pr.take N).reverse) 1 i = none) := Lib.hid (by rw [valueL, if_pos (by omega)])
      generalize leafS s = R at *
      clear l3 hv ih
      go_enter Tryz.func97, Tryz.ntmps97
      go_wp2_with (go_at_call 38; refine (HLf.out _).mono ?_; rintro e w1 ⟨rfl, hb⟩; have HB1 := Lib.hid hb; clear hb)
      go_ret2
      exact ⟨R, false, rfl, by omega, by rw [HVN.out]; rfl, HB1.out⟩
    · have h2 : 2 ≤ n := by omega
      have HLf := Lib.hid (r2left_any n h2 (by omega) w)
      have h3 := leftN_lt h2
      have h4 := leftN_pos n
      have hv' : SS w (.slice (some ⟨b, off, none⟩) N c) (pr.take N) := hv.cut N (by omega)
      have hpt : ∀ x ∈ pr.take N, x.size ≤ 1000 := fun x hx => hp x (List.mem_of_mem_take hx)
      have hlt : (pr.take N).length = N := by rw [List.length_take]; omega
      have HVL : Hid (valueL leafS nodeS s (x :: (pr.take N).reverse) n i = if i < leftN n then (valueL leafS nodeS s (pr.take N).reverse (leftN n) i).map (fun v => nodeS v x) else (valueL leafS nodeS s (pr.take N).reverse (n - leftN n) (i - leftN n)).map (fun v => nodeS x v)) := Lib.hid (by rw [valueL, if_neg (by omega)])
      have t1 : ¬ (n : Int) = 1 := by omega
      obtain ⟨k, hk⟩ : ∃ k, k = leftN n := ⟨_, rfl⟩
      rw [← hk] at h3 h4 HLf HVL
      clear hk
      by_cases hik : i < k
      · have IH := Lib.hid (ih k i s hlt hv' (by omega) (by omega) hi hs hpt (by omega))
        have ti : (i : Int) < (k : Int) := by omega
        have HB0 : Hid (∀ W, Below w.heap.size w W → W.cell? ⟨b, off + N, none⟩ = some (.string x)) := Lib.hid (fun W hW => cell_keepB hW hb c0)
        have HV1 : Hid (∀ u ok, (valueL leafS nodeS s (pr.take N).reverse k i = if ok = true then some u else none) → (valueL leafS nodeS s (x :: (pr.take N).reverse) n i = if ok = true then some (nodeS u x) else none)) := Lib.hid (fun u ok h => by
          rw [HVL.out, if_pos hik, h]
          cases ok <;> rfl)
        clear l3 hv hv' hpt hlt ih HVL ex
        generalize (pr.take N).reverse = PR at *
        go_enter Tryz.func97, Tryz.ntmps97
        go_wp2_with (first | (go_at_call 70; refine HLf.out.mono ?_; rintro e w' ⟨rfl, hw'⟩; replace hw' := hw'.symm; subst hw') | (go_at_call 97; refine IH.out.mono ?_; rintro e w1 ⟨u, ok, rfl, hu, huv, hb1⟩; have HB1 := Lib.hid hb1; have HU := Lib.hid huv; have c1 := HB0.out _ hb1; clear hb1 huv) | (go_at_call 71; refine (r2node_any u x _ (by omega) (by omega)).mono ?_; rintro e w2 ⟨rfl, hb2⟩; have HB2 := Lib.hid (below_next HB1.out hb2); clear hb2))
        go_ret2
        exact ⟨nodeS u x, ok, rfl, by rw [nodeS_size]; omega, HV1.out u ok HU.out, HB2.out⟩
      · have IH := Lib.hid (ih (n - k) (i - k) s hlt hv' (by omega) (by omega) (by omega) hs hpt (by omega))
        have ti : ¬ (i : Int) < (k : Int) := by omega
        have f2 : IntKind.i64.wrap ((n : Int) - (k : Int)) = ((n - k : Nat) : Int) := by rw [IntWalk.i64_in _ (by omega)]; omega
        have f3 : IntKind.i64.wrap ((i : Int) - (k : Int)) = ((i - k : Nat) : Int) := by rw [IntWalk.i64_in _ (by omega)]; omega
        have HB0 : Hid (∀ W, Below w.heap.size w W → W.cell? ⟨b, off + N, none⟩ = some (.string x)) := Lib.hid (fun W hW => cell_keepB hW hb c0)
        have HV1 : Hid (∀ u ok, (valueL leafS nodeS s (pr.take N).reverse (n - k) (i - k) = if ok = true then some u else none) → (valueL leafS nodeS s (x :: (pr.take N).reverse) n i = if ok = true then some (nodeS x u) else none)) := Lib.hid (fun u ok h => by
          rw [HVL.out, if_neg hik, h]
          cases ok <;> rfl)
        clear l3 hv hv' hpt hlt ih HVL ex
        generalize (pr.take N).reverse = PR at *
        generalize n - k = nk at *
        generalize i - k = ik at *
        go_enter Tryz.func97, Tryz.ntmps97
        go_wp2_with (first | (go_at_call 70; refine HLf.out.mono ?_; rintro e w' ⟨rfl, hw'⟩; replace hw' := hw'.symm; subst hw') | (go_at_call 97; refine IH.out.mono ?_; rintro e w1 ⟨u, ok, rfl, hu, huv, hb1⟩; have HB1 := Lib.hid hb1; have HU := Lib.hid huv; have c1 := HB0.out _ hb1; clear hb1 huv) | (go_at_call 71; refine (r2node_any x u _ (by omega) (by omega)).mono ?_; rintro e w2 ⟨rfl, hb2⟩; have HB2 := Lib.hid (below_next HB1.out hb2); clear hb2))
        go_ret2
        exact ⟨nodeS x u, ok, rfl, by rw [nodeS_size]; omega, HV1.out u ok HU.out, HB2.out⟩
end Go.Proofs.YtinfpbkbnhcifaaGreatDoor

/- The reference's Verify, both, VerifyExtension. The conditions: what the slice reads as, lengths. -/
namespace Go.Proofs.YtinfpbkbnhcifaaGreatDoor
open Go.RowKit Go.BigFrame

set_option maxHeartbeats 2000000 in
set_option maxRecDepth 100000 in
theorem rverify_any {w : World} {v : Value} {pr : List ByteArray} (root s : ByteArray) (n i : Int) (hv : SS w v pr) (hl : pr.length ≤ 1000) (hs : s.size ≤ 100000) (hn : n ≤ 1000) :
    Calls Tryz.prog 61 #[.string root, .int .i64 n, .int .i64 i, .string s, v] w fun e w' => e = .returned (.bool (verifyB root n i s pr)) ∧ Below w.heap.size w w' := by
  have HD := Lib.hid (rdigests_any hv (by omega))
  by_cases h0 : i < 0
  · have HF : Hid (verifyB root n i s pr = false) := Lib.hid (by unfold verifyB; rw [if_neg (by omega)])
    generalize verifyB root n i s pr = R at *
    generalize pr.all isDig = D at *
    go_enter Tryz.func61, Tryz.ntmps61
    go_wp2_with (go_at_call 96; refine HD.out.mono ?_; rintro e w1 ⟨rfl, hb⟩; have HB1 := Lib.hid hb; clear hb)
    go_ret
    exact ⟨by rw [HF.out]; rfl, HB1.out⟩
  · by_cases h1 : n ≤ i
    · have HF : Hid (verifyB root n i s pr = false) := Lib.hid (by unfold verifyB; rw [if_neg (by omega)])
      generalize verifyB root n i s pr = R at *
      generalize pr.all isDig = D at *
      go_enter Tryz.func61, Tryz.ntmps61
      go_wp2_with (go_at_call 96; refine HD.out.mono ?_; rintro e w1 ⟨rfl, hb⟩; have HB1 := Lib.hid hb; clear hb)
      go_ret
      exact ⟨by rw [HF.out]; rfl, HB1.out⟩
    · by_cases h2 : pr.all isDig = true
      · obtain ⟨n', rfl⟩ := Int.eq_ofNat_of_zero_le (a := n) (by omega)
        obtain ⟨i', rfl⟩ := Int.eq_ofNat_of_zero_le (a := i) (by omega)
        have h32 : ∀ x ∈ pr, x.size ≤ 1000 := fun x hx => by
          have := List.all_eq_true.1 h2 x hx
          unfold isDig at this
          have := of_decide_eq_true this
          omega
        have HVA := Lib.hid (fun W (hW : Below w.heap.size w W) => rvalue_any pr.length n' i' s rfl (SS.below hv hW) (by omega) (by omega) (by omega) hs h32 hl)
        have HVB : Hid (verifyB root n' i' s pr = decide (valueL leafS nodeS s pr.reverse n' i' = some root)) := Lib.hid (by unfold verifyB; rw [if_pos ⟨by omega, by omega, h2⟩]; rfl)
        rw [h2] at HD
        have t1 : ¬ (i' : Int) < 0 := by omega
        have t2 : ¬ (n' : Int) ≤ (i' : Int) := by omega
        clear h0 h1 h2 h32
        generalize verifyB root n' i' s pr = R at *
        generalize valueL leafS nodeS s pr.reverse n' i' = VL at *
        go_enter Tryz.func61, Tryz.ntmps61
        go_upto_region 5 with (first | (go_at_call 96; refine HD.out.mono ?_; rintro e w1 ⟨rfl, hb⟩; have HB1 := Lib.hid hb; clear hb) | (go_at_call 97; refine (HVA.out _ HB1.out).mono ?_; rintro e w2 ⟨u, ok, rfl, hu, huv, hb⟩; have HB2 := Lib.hid (below_next HB1.out hb); have HU := Lib.hid huv; clear hb huv))
        cases ok with
        | false =>
          have HF : Hid (R = false) := Lib.hid (by rw [HVB.out, HU.out]; rfl)
          go_wp2
          go_ret
          exact ⟨by rw [HF.out]; rfl, HB2.out⟩
        | true =>
          have hst : (u.toList == root.toList) = R := by
            rw [same_str, HVB.out, HU.out]
            by_cases e : u = root
            · rw [decide_eq_true e, e]; simp
            · rw [decide_eq_false e, decide_eq_false (fun h => e (by injection h))]
          go_wp2
          go_ret
          exact ⟨rfl, HB2.out⟩
      · have h3 : pr.all isDig = false := by simpa using h2
        have HF : Hid (verifyB root n i s pr = false) := Lib.hid (by unfold verifyB; rw [if_neg (fun h => h2 h.2.2)])
        rw [h3] at HD
        clear h2 h3
        generalize verifyB root n i s pr = R at *
        go_enter Tryz.func61, Tryz.ntmps61
        go_wp2_with (go_at_call 96; refine HD.out.mono ?_; rintro e w1 ⟨rfl, hb⟩; have HB1 := Lib.hid hb; clear hb)
        go_ret
        exact ⟨by rw [HF.out]; rfl, HB1.out⟩

def BothSays (w : World) (V : Option (ByteArray × ByteArray)) (e : Ending) (w' : World) : Prop := ∃ (a b : ByteArray) (ok : Bool), e = .returned (.tuple #[.string a, .string b, .bool ok]) ∧ a.size ≤ 1000 ∧ b.size ≤ 1000 ∧ (V = if ok = true then some (a, b) else none) ∧ Below w.heap.size w w'
theorem BothSays.mk {w w' : World} {V : Option (ByteArray × ByteArray)} {e : Ending} (a b : ByteArray) (ok : Bool) (h1 : e = .returned (.tuple #[.string a, .string b, .bool ok])) (h2 : a.size ≤ 1000) (h3 : b.size ≤ 1000) (h4 : V = if ok = true then some (a, b) else none) (h5 : Below w.heap.size w w') : BothSays w V e w' := ⟨a, b, ok, h1, h2, h3, h4, h5⟩
end Go.Proofs.YtinfpbkbnhcifaaGreatDoor

/- The reference's VerifyExtension. The conditions: what the slice reads as, lengths. -/
namespace Go.Proofs.YtinfpbkbnhcifaaGreatDoor
open Go.RowKit Go.BigFrame

theorem str_eq (a b : ByteArray) (R : Bool) (h : R = decide (a = b)) : (a.toList == b.toList) = R := by rw [same_str, h]

end Go.Proofs.YtinfpbkbnhcifaaGreatDoor

/- The reference's Extension and Proof. The conditions: what the slice reads as, lengths. -/
namespace Go.Proofs.YtinfpbkbnhcifaaGreatDoor
open Go.RowKit Go.BigFrame

theorem proofB_one (l : List ByteArray) (i : Nat) (h : l.length ≤ 1) : proofB l i = [] := by
  unfold proofB
  rw [downL_one l i h]
  rfl
theorem proofB_left (l : List ByteArray) (i : Nat) (h : 2 ≤ l.length) (hi : i < leftN l.length) : proofB l i = proofB (l.take (leftN l.length)) i ++ [rootB (l.drop (leftN l.length))] := by
  unfold proofB
  rw [downL_left l i h hi, List.reverse_cons]
theorem proofB_right (l : List ByteArray) (i : Nat) (h : 2 ≤ l.length) (hi : leftN l.length ≤ i) : proofB l i = proofB (l.drop (leftN l.length)) (i - leftN l.length) ++ [rootB (l.take (leftN l.length))] := by
  unfold proofB
  rw [downL_right l i h hi, List.reverse_cons]

set_option maxHeartbeats 8000000 in
set_option maxRecDepth 100000 in
theorem rproof_any (N : Nat) : ∀ (n : Nat), n ≤ N → ∀ {w : World} {v : Value} {xs : List ByteArray} (i : Nat), xs.length = n → SS w v xs → i < n → n ≤ 1000 → (∀ x ∈ xs, x.size ≤ 100000) →
    Calls Tryz.prog 56 #[v, .int .i64 i] w fun e w' => ∃ v', e = .returned (.tuple #[v', .int .i64 0]) ∧ OwnS w' w.heap.size v' (proofB xs i) ∧ Below w.heap.size w w' := by
  induction N with
  | zero =>
    intro n hn w v xs i hx hv h1
    omega
  | succ N ih =>
    intro n hn w v xs i hx hv hin h1000 hs
    obtain ⟨a, c, rfl, l1, l2, l3⟩ := hv.opened
    obtain ⟨b, off, rfl, hb, c0⟩ := l3 0 _ (List.getElem?_eq_getElem (by omega))
    rw [hx] at hv l1 ⊢
    have t0 : ¬ (i : Int) < 0 := by omega
    have t1 : ¬ (n : Int) ≤ (i : Int) := by omega
    by_cases h1 : n = 1
    · subst h1
      have HE : Hid (OwnS w w.heap.size (.slice none 0 0) (proofB xs i)) := Lib.hid (by rw [proofB_one xs i (by omega)]; exact OwnE.nil _ _ _ _)
      generalize proofB xs i = E at *
      clear hv l3 c0 ih
      have hi0 : i = 0 := by omega
      subst hi0
      go_enter Tryz.func56, Tryz.ntmps56
      go_wp2
      go_ret2
      exact ⟨_, rfl, HE.out, Below.refl _ _⟩
    · have h2 : 2 ≤ n := by omega
      have h3 := leftN_lt h2
      have h4 := leftN_pos n
      have HLf := Lib.hid (r2left_any n h2 (by omega) w)
      have HEL : Hid (i < leftN n → proofB xs i = proofB (xs.take (leftN n)) i ++ [rootB (xs.drop (leftN n))]) := Lib.hid (fun h => by
        have := proofB_left xs i (by omega) (by rw [hx]; exact h)
        rw [hx] at this
        exact this)
      have HER : Hid (leftN n ≤ i → proofB xs i = proofB (xs.drop (leftN n)) (i - leftN n) ++ [rootB (xs.take (leftN n))]) := Lib.hid (fun h => by
        have := proofB_right xs i (by omega) (by rw [hx]; exact h)
        rw [hx] at this
        exact this)
      obtain ⟨k, hk⟩ : ∃ k, k = leftN n := ⟨_, rfl⟩
      rw [← hk] at h3 h4 HLf HEL HER
      clear hk
      have HTK : Hid (∀ W, Below w.heap.size w W → SS W (.slice (some ⟨b, off, none⟩) k c) (xs.take k)) := Lib.hid (fun W hW => (hv.cut k (by omega)).below hW)
      have HDR : Hid (∀ W, Below w.heap.size w W → SS W (.slice (some ⟨b, off + k, none⟩) (n - k) (c - k)) (xs.drop k)) := Lib.hid (fun W hW => (hv.drop k (by omega)).below hW)
      have hlt : (xs.take k).length = k := by rw [List.length_take]; omega
      have hld : (xs.drop k).length = n - k := by rw [List.length_drop]; omega
      have hst : ∀ x ∈ xs.take k, x.size ≤ 100000 := fun x hx => hs x (List.mem_of_mem_take hx)
      have hsd : ∀ x ∈ xs.drop k, x.size ≤ 100000 := fun x hx => hs x (List.mem_of_mem_drop hx)
      have u1 : (k : Int) ≤ (n : Int) := by omega
      have u0 : (0 : Int) ≤ (k : Int) := by omega
      have u2 : k ≤ c := by omega
      have u3 : n ≤ c := by omega
      have u5 : ¬ c = k := by omega
      have t2 : ¬ (n : Int) = 1 := by omega
      have f4 : ((n : Int) - (k : Int)).toNat = n - k := by omega
      have f5 : ((c : Int) - (k : Int)).toNat = c - k := by omega
      by_cases hik : i < k
      · have ti : (i : Int) < (k : Int) := by omega
        have hel := proofB_len (xs.take k) i
        have HP := Lib.hid (ih k (by omega) i hlt (HTK.out w (Below.refl _ _)) hik (by omega) hst)
        have HRT : Hid (∀ W, Below w.heap.size w W → Calls Tryz.prog 72 #[.slice (some ⟨b, off + k, none⟩) (n - k) (c - k)] W fun e w' => e = .returned (.string (rootB (xs.drop k))) ∧ Below W.heap.size W w') := Lib.hid (fun W hW => r2root_any (n - k) (n - k) (Nat.le_refl _) hld (HDR.out W hW) (by omega) hsd)
        have HEV := Lib.hid (HEL.out hik)
        obtain ⟨E1, hE1⟩ : ∃ E1, E1 = proofB (xs.take k) i := ⟨_, rfl⟩
        have hE1l : E1.length ≤ 2000 := by rw [hE1]; omega
        rw [← hE1] at HP HEV
        generalize proofB xs i = E at *
        generalize rootB (xs.drop k) = RT at *
        clear hv l3 c0 ih HEL HER HTK HDR hlt hld hst hsd hE1 hel
        go_enter Tryz.func56, Tryz.ntmps56
        go_wp2_with (first | (go_at_call 70; refine HLf.out.mono ?_; rintro e w' ⟨rfl, hw'⟩; replace hw' := hw'.symm; subst hw') | (go_at_call 56; refine HP.out.mono ?_; rintro e w2 ⟨v2, rfl, ho2, hb2⟩; have HO2 := Lib.hid ho2; have HB2 := Lib.hid hb2; clear ho2 hb2) | (go_at_call 72; refine (HRT.out _ HB2.out).mono ?_; rintro e w3 ⟨rfl, hb3⟩; have HOA := Lib.hid (OwnE.alloc (OwnE.far HO2.out hb3 (Nat.le_refl _)) (.cells #[.string RT] 9)); have HBA := Lib.hid ((below_next HB2.out hb3).alloc (below_next HB2.out hb3).size (.cells #[.string RT] 9)); have HSA := Lib.hid (SS.one (heap_alloc_new w3 (.cells #[.string RT] 9))); clear hb3) | (at_builtin; refine wpList_append_strs rfl _ _ w.heap.size v2 E1 [RT] (.slice (some ⟨w3.heap.size, 0, none⟩) 1 1) HOA.out HSA.out (by simp) (by simp; omega) HBA.out.size rfl rfl rfl ?_; intro v4 w4 hown4 hgr4; have HO4 := Lib.hid hown4; have HB4 : Hid (Below w.heap.size w w4) := Lib.hid (HBA.out.grown hgr4 HBA.out.size (fun j e => OwnE.ge HOA.out j e)); clear hown4 hgr4))
        go_ret2
        exact ⟨_, rfl, by rw [HEV.out]; exact HO4.out, HB4.out⟩
      · have ti : ¬ (i : Int) < (k : Int) := by omega
        have hel := proofB_len (xs.drop k) (i - k)
        have f2 : IntKind.i64.wrap ((i : Int) - (k : Int)) = ((i - k : Nat) : Int) := by rw [IntWalk.i64_in _ (by omega)]; omega
        have HP := Lib.hid (ih (n - k) (by omega) (i - k) hld (HDR.out w (Below.refl _ _)) (by omega) (by omega) hsd)
        have HRT : Hid (∀ W, Below w.heap.size w W → Calls Tryz.prog 72 #[.slice (some ⟨b, off, none⟩) k c] W fun e w' => e = .returned (.string (rootB (xs.take k))) ∧ Below W.heap.size W w') := Lib.hid (fun W hW => r2root_any k k (Nat.le_refl _) hlt (HTK.out W hW) (by omega) hst)
        have HEV := Lib.hid (HER.out (by omega))
        obtain ⟨E1, hE1⟩ : ∃ E1, E1 = proofB (xs.drop k) (i - k) := ⟨_, rfl⟩
        have hE1l : E1.length ≤ 2000 := by rw [hE1]; omega
        rw [← hE1] at HP HEV
        generalize proofB xs i = E at *
        generalize rootB (xs.take k) = RT at *
        generalize i - k = ik at *
        clear hv l3 c0 ih HEL HER HTK HDR hlt hld hst hsd hE1 hel
        go_enter Tryz.func56, Tryz.ntmps56
        go_wp2_with (first | (go_at_call 70; refine HLf.out.mono ?_; rintro e w' ⟨rfl, hw'⟩; replace hw' := hw'.symm; subst hw') | (go_at_call 56; refine HP.out.mono ?_; rintro e w2 ⟨v2, rfl, ho2, hb2⟩; have HO2 := Lib.hid ho2; have HB2 := Lib.hid hb2; clear ho2 hb2) | (go_at_call 72; refine (HRT.out _ HB2.out).mono ?_; rintro e w3 ⟨rfl, hb3⟩; have HOA := Lib.hid (OwnE.alloc (OwnE.far HO2.out hb3 (Nat.le_refl _)) (.cells #[.string RT] 9)); have HBA := Lib.hid ((below_next HB2.out hb3).alloc (below_next HB2.out hb3).size (.cells #[.string RT] 9)); have HSA := Lib.hid (SS.one (heap_alloc_new w3 (.cells #[.string RT] 9))); clear hb3) | (at_builtin; refine wpList_append_strs rfl _ _ w.heap.size v2 E1 [RT] (.slice (some ⟨w3.heap.size, 0, none⟩) 1 1) HOA.out HSA.out (by simp) (by simp; omega) HBA.out.size rfl rfl rfl ?_; intro v4 w4 hown4 hgr4; have HO4 := Lib.hid hown4; have HB4 : Hid (Below w.heap.size w w4) := Lib.hid (HBA.out.grown hgr4 HBA.out.size (fun j e => OwnE.ge HOA.out j e)); clear hown4 hgr4))
        go_ret2
        exact ⟨_, rfl, by rw [HEV.out]; exact HO4.out, HB4.out⟩
end Go.Proofs.YtinfpbkbnhcifaaGreatDoor

/- The reference's Valid, seal, Genuine. The conditions: what the slices read as, lengths. -/
namespace Go.Proofs.YtinfpbkbnhcifaaGreatDoor
open Go.RowKit Go.BigFrame

set_option maxHeartbeats 4000000 in
set_option maxRecDepth 100000 in
theorem rvalid_any (car : Int) {w : World} {v : Value} {xs : List ByteArray} (hv : SS w v xs) :
    Calls Tryz.prog 45 #[.agg #[.int .i64 car, v]] w fun e w' => e = .returned (.bool (validB ⟨car, xs⟩)) ∧ Below w.heap.size w w' := by
  obtain ⟨a, c, rfl, l1, l2, l3⟩ := hv.opened
  have HV := Lib.hid l3
  obtain ⟨R, hR⟩ : ∃ R, R = validB ⟨car, xs⟩ := ⟨_, rfl⟩
  rw [← hR]
  have HR : Hid (R = decide (0 ≤ car ∧ car ≤ 7 ∧ xs.length ≤ 60 ∧ ∀ s ∈ xs, s.size ≤ 1000)) := Lib.hid hR
  obtain ⟨n, hn⟩ : ∃ n, n = xs.length := ⟨_, rfl⟩
  rw [← hn] at HR ⊢
  have HN := Lib.hid hn
  have HIn := Lib.hid (fun W => rin_any car 0 7 W)
  clear l1 l2 l3 hv hR hn
  by_cases hc : 0 ≤ car ∧ car ≤ 7
  · rw [decide_eq_true hc] at HIn
    have HCC := Lib.hid hc
    by_cases h60 : n ≤ 60
    · have t60 : ¬ (60 : Int) < (n : Int) := by omega
      clear hc
      go_enter Tryz.func45, Tryz.ntmps45
      go_upto_region 1 with fail
      obtain ⟨W, hW⟩ : ∃ W, W = w.alloc (.cells #[.int .i64 car, .slice a n c] 26) := ⟨_, rfl⟩
      have HBW : Hid (Below w.heap.size w W) := Lib.hid (by rw [hW]; exact (Below.refl _ _).alloc (Nat.le_refl _) _)
      obtain ⟨c0, c1, _⟩ := two_cells (show W.heap[w.heap.size]? = some (.cells #[.int .i64 car, .slice a n c] 26 (0, 0)) from by rw [hW]; exact heap_alloc_new w _)
      rw [← hW]
      clear hW
      go_wp2_with (go_at_call 55; (with_reducible refine (HIn.out _).mono ?_); rintro e w' ⟨rfl, hw'⟩; replace hw' := hw'.symm; subst hw')
      go_loopw [3] (fun i wr => ∃ k : Nat, k ≤ n ∧ i = .int .i64 k ∧ Hid (∀ j x, j < k → xs[j]? = some x → x.size ≤ 1000) ∧ wr = W) (fun i _ => n - (intOf i).toNat)
      case atStart => exact ⟨0, by omega, rfl, Lib.hid (fun j x hj => by omega), rfl⟩
      case round =>
        obtain ⟨k, hk, rfl, hall, rfl⟩ := hrel
        by_cases hlt : k < n
        · obtain ⟨x, ex⟩ : ∃ x, xs[k]? = some x := ⟨_, List.getElem?_eq_getElem (by rw [← HN.out]; exact hlt)⟩
          obtain ⟨b, off, rfl, hb, cx⟩ := HV.out k x ex
          have cx := cell_keepB HBW.out hb cx
          have HEX := Lib.hid ex
          have tk : (k : Int) < (n : Int) := by omega
          have tk0 : (0 : Int) ≤ (k : Int) := by omega
          clear ex
          by_cases h32 : x.size ≤ 1000
          · have t32 : ¬ (1000 : Int) < (x.size : Int) := by omega
            have HN1 : Hid (∀ j y, j < k + 1 → xs[j]? = some y → y.size ≤ 1000) := Lib.hid (fun j y hj hy => by
              rcases Nat.lt_or_ge j k with h | h
              · exact hall.out j y h hy
              · obtain rfl : j = k := by omega
                rw [HEX.out] at hy
                cases hy
                exact h32)
            go_wp2
            go_roundw
            case rel => exact ⟨k + 1, by omega, by go_num, HN1, trivial⟩
            case measure => simp [intOf]; omega
          · have t32 : (1000 : Int) < (x.size : Int) := by omega
            have HF : Hid (R = false) := Lib.hid (by
              rw [HR.out]
              exact decide_eq_false (fun h => h32 (h.2.2.2 x (List.mem_of_getElem? HEX.out))))
            go_wp2
            go_ret
            exact ⟨by rw [HF.out]; rfl, HBW.out⟩
        · have tk : ¬ (k : Int) < (n : Int) := by omega
          have HF : Hid (R = decide (0 ≤ car ∧ car ≤ 7)) := Lib.hid (by
            rw [HR.out]
            refine decide_eq_decide.2 ⟨fun h => ⟨h.1, h.2.1⟩, fun h => ⟨h.1, h.2, h60, fun s hs => ?_⟩⟩
            obtain ⟨j, hj⟩ := List.mem_iff_getElem?.1 hs
            have hjn : j < xs.length := (List.getElem?_eq_some_iff.1 hj).1
            rw [← HN.out] at hjn
            exact hall.out j s (by omega) hj)
          have HT : Hid (R = true) := Lib.hid (by rw [HF.out]; exact decide_eq_true (HCC.out))
          go_wp2
          go_ret
          exact ⟨by rw [HT.out]; rfl, HBW.out⟩
    · have t60 : (60 : Int) < (n : Int) := by omega
      have HF : Hid (R = false) := Lib.hid (by rw [HR.out]; exact decide_eq_false (fun h => h60 h.2.2.1))
      clear hc
      go_enter Tryz.func45, Tryz.ntmps45
      go_wp2_with (go_at_call 55; (with_reducible refine (HIn.out _).mono ?_); rintro e w' ⟨rfl, hw'⟩; replace hw' := hw'.symm; subst hw')
      go_ret
      exact ⟨by rw [HF.out]; rfl, (Below.refl _ _).alloc (Nat.le_refl _) _⟩
  · rw [decide_eq_false hc] at HIn
    have HF : Hid (R = false) := Lib.hid (by rw [HR.out]; exact decide_eq_false (fun h => hc ⟨h.1, h.2.1⟩))
    clear hc
    go_enter Tryz.func45, Tryz.ntmps45
    go_wp2_with (go_at_call 55; (with_reducible refine (HIn.out _).mono ?_); rintro e w' ⟨rfl, hw'⟩; replace hw' := hw'.symm; subst hw')
    go_ret
    exact ⟨by rw [HF.out]; rfl, (Below.refl _ _).alloc (Nat.le_refl _) _⟩
end Go.Proofs.YtinfpbkbnhcifaaGreatDoor

/- The reference's seal, Genuine, Extends, Grown, Same. The conditions: what the slices read as, lengths. -/
namespace Go.Proofs.YtinfpbkbnhcifaaGreatDoor
open Go.RowKit Go.BigFrame

set_option maxHeartbeats 4000000 in
set_option maxRecDepth 100000 in
theorem rseal_any (key : ByteArray) (car siz : Int) (root sl : ByteArray) (hk : key.size ≤ 1000) (hc : 0 ≤ car ∧ car ≤ 7) (hs : 0 ≤ siz ∧ siz ≤ 60) (hr : root.size ≤ 1000) (w : World) :
    Calls Tryz.prog 82 #[.string key, .agg #[.int .i64 car, .int .i64 siz, .string root, .string sl]] w fun e w' => e = .returned (.string (signedB key ⟨car, siz, root, sl⟩)) ∧ Below w.heap.size w w' := by
  have HCn := Lib.hid (fun W => content_any ⟨car, siz, root, sl⟩ hc hs hr W)
  have hcs : (contentB ⟨car, siz, root, sl⟩).size ≤ 2000 := by rw [content_size]; simp only; omega
  have HSG : Hid (signedB key ⟨car, siz, root, sl⟩ = nodeS key (leafS (contentB ⟨car, siz, root, sl⟩))) := Lib.hid rfl
  generalize signedB key ⟨car, siz, root, sl⟩ = Z at *
  generalize contentB ⟨car, siz, root, sl⟩ = C at *
  have HLf := Lib.hid (fun W => r2leaf_any C W (by omega))
  have hls : (leafS C).size = 32 := leafS_size _
  generalize leafS C = L at *
  have HNd := Lib.hid (fun W => r2node_any key L W (by omega) (by omega))
  generalize nodeS key L = D at *
  have HBX : Hid (Below w.heap.size w (w.alloc (.cells #[.int .i64 car, .int .i64 siz, .string root, .string sl] 35))) := Lib.hid ((Below.refl _ _).alloc (Nat.le_refl _) _)
  simp only at HCn
  go_enter Tryz.func82, Tryz.ntmps82
  go_wp2_with (first | (go_at_call 37; (with_reducible refine (HCn.out _).mono ?_); rintro e w1 ⟨rfl, hb⟩; have HB1 := Lib.hid (HBX.out.trans (hb.mono HBX.out.size)); clear hb) | (go_at_call 38; (with_reducible refine (HLf.out _).mono ?_); rintro e w2 ⟨rfl, hb⟩; have HB2 := Lib.hid (below_next HB1.out hb); clear hb) | (go_at_call 71; (with_reducible refine (HNd.out _).mono ?_); rintro e w3 ⟨rfl, hb⟩; have HB3 := Lib.hid (below_next HB2.out hb); clear hb))
  go_ret
  exact ⟨by rw [HSG.out]; rfl, HB3.out⟩

set_option maxHeartbeats 8000000 in
set_option maxRecDepth 100000 in
theorem rgenuine_any (key : ByteArray) (car siz : Int) (root sl : ByteArray) (w : World) (hk : key.size ≤ 1000) :
    Calls Tryz.prog 49 #[.string key, .agg #[.int .i64 car, .int .i64 siz, .string root, .string sl]] w fun e w' => e = .returned (.bool (genuineB key ⟨car, siz, root, sl⟩)) ∧ Below w.heap.size w w' := by
  have HNO := Lib.hid (genuine_no key car siz root sl)
  have HYS := Lib.hid (genuine_yes key car siz root sl)
  generalize genuineB key ⟨car, siz, root, sl⟩ = R at *
  have HBX : Hid (Below w.heap.size w (w.alloc (.cells #[.int .i64 car, .int .i64 siz, .string root, .string sl] 35))) := Lib.hid ((Below.refl _ _).alloc (Nat.le_refl _) _)
  by_cases h0 : key.size = 32
  · have HI1 := Lib.hid (fun W => rin_any car 0 7 W)
    have HI2 := Lib.hid (fun W => rin_any siz 0 60 W)
    by_cases h1 : 0 ≤ car ∧ car ≤ 7
    · rw [decide_eq_true h1] at HI1
      by_cases h2 : 0 ≤ siz ∧ siz ≤ 60
      · rw [decide_eq_true h2] at HI2
        by_cases h3 : root.size = 32
        · have HR := Lib.hid (HYS.out h0 h1 h2 h3)
          have HSL := Lib.hid (fun W => rseal_any key car siz root sl hk h1 h2 (by omega) W)
          generalize signedB key ⟨car, siz, root, sl⟩ = Z at *
          have hst : (sl.toList == Z.toList) = R := str_eq _ _ _ HR.out
          have h3' : ¬ ¬ (root.size : Int) = 32 := by omega
          clear h1 h2 HR HNO HYS
          go_enter Tryz.func49, Tryz.ntmps49
          go_upto_region 3 with (go_at_call 55; (first | (with_reducible refine (HI1.out _).mono ?_) | (with_reducible refine (HI2.out _).mono ?_)); rintro e w' ⟨rfl, hw'⟩; replace hw' := hw'.symm; subst hw')
          have HC : Hid (∀ W, Below (w.alloc (.cells #[.int .i64 car, .int .i64 siz, .string root, .string sl] 35)).heap.size (w.alloc (.cells #[.int .i64 car, .int .i64 siz, .string root, .string sl] 35)) W → W.cell? ⟨w.heap.size, 0, none⟩ = some (.int .i64 car) ∧ W.cell? ⟨w.heap.size, 1, none⟩ = some (.int .i64 siz) ∧ W.cell? ⟨w.heap.size, 2, none⟩ = some (.string root) ∧ W.cell? ⟨w.heap.size, 3, none⟩ = some (.string sl)) := Lib.hid (fun W hW => four_cells (kept_block (heap_alloc_new w _) hW))
          obtain ⟨W0, hW0⟩ : ∃ W0, W0 = w.alloc (.cells #[.int .i64 car, .int .i64 siz, .string root, .string sl] 35) := ⟨_, rfl⟩
          rw [← hW0] at HC HBX ⊢
          clear hW0
          refine wp_region_noPanic ?_
          refine wp_region_lexB [.q 0, .q 1, .q 2, .q 3, .b 4, .q 5, .q 6] (by kernel_rfl) (by kernel_rfl) (fun _ _ _ _ h => h) ?_
          refine wpFl_qL (v := ?_) rfl (Or.inl ⟨by rfl, ?_⟩) ?_
          rotate_left
          focus (intro w' hSw; (try dsimp only [OldKept] at hSw); obtain ⟨c0, c1, c2, c3⟩ := HC.out w' hSw; go_simp; (try with_reducible rfl); done)
          simp only [Act.put, List.setIfInBounds_toArray, List.set_cons_zero, List.set_cons_succ]
          refine wpFl_qL (v := ?_) rfl (Or.inl ⟨by rfl, ?_⟩) ?_
          rotate_left
          focus (intro w' hSw; (try dsimp only [OldKept] at hSw); obtain ⟨c0, c1, c2, c3⟩ := HC.out w' hSw; go_simp; (try with_reducible rfl); done)
          simp only [Act.put, List.setIfInBounds_toArray, List.set_cons_zero, List.set_cons_succ]
          refine wpFl_qL (v := ?_) rfl (Or.inl ⟨by rfl, ?_⟩) ?_
          rotate_left
          focus (intro w' hSw; (try dsimp only [OldKept] at hSw); obtain ⟨c0, c1, c2, c3⟩ := HC.out w' hSw; go_simp; (try with_reducible rfl); done)
          simp only [Act.put, List.setIfInBounds_toArray, List.set_cons_zero, List.set_cons_succ]
          refine wpFl_qL (v := ?_) rfl (Or.inl ⟨by rfl, ?_⟩) ?_
          rotate_left
          focus (intro w' hSw; (try dsimp only [OldKept] at hSw); obtain ⟨c0, c1, c2, c3⟩ := HC.out w' hSw; go_simp; (try with_reducible rfl); done)
          simp only [Act.put, List.setIfInBounds_toArray, List.set_cons_zero, List.set_cons_succ]
          refine wpFl_bL rfl (fun w2 hn2 hs2 K hK => ?_)
          go_simp
          go_at_call 82
          refine (HSL.out _).mono ?_
          rintro e w3 ⟨rfl, hb3⟩
          have HB3 := Lib.hid (HBX.out.trans ((below_next hs2 hb3).mono HBX.out.size))
          refine hK.out _ _ (below_next hs2 hb3) (Keeps.below hb3) ?_
          clear hK K hn2 hs2 hb3
          refine wpFl_qL (v := ?_) rfl (Or.inl ⟨by rfl, ?_⟩) ?_
          rotate_left
          focus (intro w' hSw; (try dsimp only [OldKept] at hSw); go_simp; (try with_reducible rfl); done)
          simp only [Act.put, List.setIfInBounds_toArray, List.set_cons_zero, List.set_cons_succ]
          refine wpFl_qL (v := ?_) rfl (Or.inl ⟨by rfl, ?_⟩) ?_
          rotate_left
          focus (intro w' hSw; (try dsimp only [OldKept] at hSw); go_simp; (try with_reducible rfl); done)
          simp only [Act.put, List.setIfInBounds_toArray, List.set_cons_zero, List.set_cons_succ]
          refine wpFl_nil ?_
          refine NoPanic.normal ?_
          go_wp2
          go_ret
          exact ⟨rfl, HB3.out⟩
        · have HF : Hid (R = false) := Lib.hid (HNO.out (fun h => h3 h.2.2.2))
          have h3' : ¬ (root.size : Int) = 32 := by omega
          clear h1 h2 HNO HYS
          go_enter Tryz.func49, Tryz.ntmps49
          go_wp2_with (go_at_call 55; (first | (with_reducible refine (HI1.out _).mono ?_) | (with_reducible refine (HI2.out _).mono ?_)); rintro e w' ⟨rfl, hw'⟩; replace hw' := hw'.symm; subst hw')
          go_ret
          exact ⟨by rw [HF.out]; rfl, HBX.out⟩
      · rw [decide_eq_false h2] at HI2
        have HF : Hid (R = false) := Lib.hid (HNO.out (fun h => h2 h.2.2.1))
        clear h1 h2 HNO HYS
        go_enter Tryz.func49, Tryz.ntmps49
        go_wp2_with (go_at_call 55; (first | (with_reducible refine (HI1.out _).mono ?_) | (with_reducible refine (HI2.out _).mono ?_)); rintro e w' ⟨rfl, hw'⟩; replace hw' := hw'.symm; subst hw')
        go_ret
        exact ⟨by rw [HF.out]; rfl, HBX.out⟩
    · rw [decide_eq_false h1] at HI1
      have HF : Hid (R = false) := Lib.hid (HNO.out (fun h => h1 h.2.1))
      clear h1 HNO HYS
      go_enter Tryz.func49, Tryz.ntmps49
      go_wp2_with (go_at_call 55; (with_reducible refine (HI1.out _).mono ?_); rintro e w' ⟨rfl, hw'⟩; replace hw' := hw'.symm; subst hw')
      go_ret
      exact ⟨by rw [HF.out]; rfl, HBX.out⟩
  · have HF : Hid (R = false) := Lib.hid (HNO.out (fun h => h0 h.1))
    have h0' : ¬ (key.size : Int) = 32 := by omega
    clear HNO HYS
    go_enter Tryz.func49, Tryz.ntmps49
    go_wp2
    go_ret
    exact ⟨by rw [HF.out]; rfl, HBX.out⟩
end Go.Proofs.YtinfpbkbnhcifaaGreatDoor

/- The reference's Grown and Sign. The conditions: what the slices read as, lengths. -/
namespace Go.Proofs.YtinfpbkbnhcifaaGreatDoor
open Go.RowKit Go.BigFrame

def signZ (key : ByteArray) (r : RegP) (n : Int) : HeadP := (signB key r n).getD ⟨0, 0, ⟨#[]⟩, ⟨#[]⟩⟩
def signE (key : ByteArray) (r : RegP) (n : Int) : Int := if (signB key r n).isSome = true then 0 else 180
def GrownSays (w : World) (zs : List ByteArray) (err : Int) (e : Ending) (w' : World) : Prop := ∃ v', e = .returned (.tuple #[v', .int .i64 err]) ∧ SS w' v' zs ∧ RowTy w' 9 v' ∧ Below w.heap.size w w'
theorem GrownSays.mk {w w' : World} {zs : List ByteArray} {err : Int} {e : Ending} (v' : Value) (h1 : e = .returned (.tuple #[v', .int .i64 err])) (h2 : SS w' v' zs) (h4 : RowTy w' 9 v') (h3 : Below w.heap.size w w') : GrownSays w zs err e w' := ⟨v', h1, h2, h4, h3⟩

end Go.Proofs.YtinfpbkbnhcifaaGreatDoor
