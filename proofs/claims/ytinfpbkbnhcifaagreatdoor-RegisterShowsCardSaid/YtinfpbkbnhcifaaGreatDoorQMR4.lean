/- The walks of the reference's Indices, Same (of strings), SameItems. The conditions: what the slices read as, ranges. -/
import Derived.Test.YtinfpbkbnhcifaaGreatDoorQMR3
import Derived.Test.YtinfpbkbnhcifaaGreatDoorQVR9
namespace Go.Proofs.YtinfpbkbnhcifaaGreatDoor
open Go.RowKit Go.BigFrame

def idxI (bits : Int) (n : Nat) : List Int := (idxS bits n).map fun i : Nat => (i : Int)
theorem idxI_succ (bits : Int) (n : Nat) : idxI bits (n + 1) = idxI bits n ++ if bitI bits n = true then [(n : Int)] else [] := by
  unfold idxI idxS
  rw [List.range_succ, List.filter_append, List.map_append]
  congr 1
  rw [List.filter_cons]
  by_cases h : bitI bits n = true
  · simp [h]
  · simp [h]
theorem idxI_len (bits : Int) (n : Nat) : (idxI bits n).length ≤ n := by
  unfold idxI idxS
  rw [List.length_map]
  exact Nat.le_trans (List.length_filter_le _ _) (by rw [List.length_range]; exact Nat.le_refl _)

set_option maxHeartbeats 2000000 in
set_option maxRecDepth 100000 in
theorem indices_any (bits : Int) (hb : I64 bits) (n : Nat) (hn : n ≤ 60) (w : World) :
    Calls Tryz.prog 17 #[.int .i64 bits, .int .i64 n] w fun e w' => ∃ v', e = .returned v' ∧ IL w' v' (idxI bits n) ∧ Below w.heap.size w w' := by
  have HP := Lib.hid (fun W => rpick_any bits 65536 W hb (by omega) (by omega))
  obtain ⟨r0, r1⟩ := pickI_range bits (n := 65536) (by omega)
  have HB : Hid (∀ i : Nat, bitI bits i = decide ((pickI bits 65536).toNat / 2 ^ i % 2 = 1)) := Lib.hid (fun i => rfl)
  have HS := Lib.hid (idxI_succ bits)
  have HL := Lib.hid (idxI_len bits)
  have H0 : Hid (OwnI w w.heap.size (.slice none 0 0) (idxI bits 0)) := Lib.hid (OwnE.nil _ _ _ _)
  obtain ⟨p, hp⟩ := Int.eq_ofNat_of_zero_le r0
  rw [hp] at HP HB r1
  clear hp r0 hb
  generalize idxI bits = ID at *
  generalize bitI bits = BT at *
  go_enter Tryz.func17, Tryz.ntmps17
  go_wp2
  go_loopw [5, 6] (fun v i wr => ∃ k : Nat, k ≤ n ∧ i = .int .i64 k ∧ Hid (OwnI wr w.heap.size v (ID k)) ∧ Hid (Below w.heap.size w wr)) (fun _ i _ => n - (intOf i).toNat)
  case atStart => exact ⟨0, by omega, rfl, H0, Below.refl _ _⟩
  case round =>
    obtain ⟨k, hk, rfl, hO, hB⟩ := hrel
    obtain ⟨va, vc, hv⟩ := OwnE.form hO.out
    subst hv
    by_cases hlt : k < n
    · have HBk := Lib.hid (HB.out k)
      have hk64 : k < 64 := by omega
      have tkn : (k : Int) < (n : Int) := by omega
      have hsz := hB.out.size
      have HOa := Lib.hid (OwnE.alloc hO.out (.cells #[.int .i64 k] 3))
      have HNa := Lib.hid (heap_alloc_new wr (.cells #[.int .i64 k] 3))
      have HBa := Lib.hid (hB.out.alloc hsz (.cells #[.int .i64 k] 3))
      obtain ⟨t, ht⟩ : ∃ t, t = p / 2 ^ k := ⟨_, rfl⟩
      have f3 : (p : Int) / 2 ^ k = (t : Int) := by rw [ht, Int.natCast_ediv, Int.natCast_pow]; rfl
      have HQ : Hid ((p / 2 ^ k % 2 = 1) = (t % 2 = 1)) := Lib.hid (by rw [ht])
      have hq : (t : Int) % 2 = 0 ∨ (t : Int) % 2 = 1 := by omega
      clear ht
      rcases hq with hq | hq
      · have HS1 : Hid (ID (k + 1) = ID k) := Lib.hid (by
          rw [HS.out k, HBk.out, decide_eq_false (fun h => by rw [Int.toNat_natCast, HQ.out] at h; omega)]
          simp)
        go_wp2_with (go_at_call 53; refine (HP.out _).mono ?_; rintro e w1 ⟨rfl, rfl⟩)
        go_roundw
        case rel =>
          refine ⟨k + 1, by omega, by go_num, ?_, hB⟩
          rw [HS1.out]
          exact hO
        case measure => simp [intOf]; omega
      · have HS1 : Hid (ID (k + 1) = ID k ++ [(k : Int)]) := Lib.hid (by
          rw [HS.out k, HBk.out, decide_eq_true (by rw [Int.toNat_natCast, HQ.out]; omega)]
          simp)
        have hlk := HL.out k
        go_wp2_with (first | (go_at_call 53; refine (HP.out _).mono ?_; rintro e w1 ⟨rfl, hw1⟩; replace hw1 := hw1.symm; subst hw1) | (at_builtin; refine wpList_append_int _ _ w.heap.size _ (ID k) wr.heap.size (k : Int) _ HOa.out (by omega) HBa.out.size HNa.out rfl rfl rfl rfl ?_; intro v7 w7 hown7 hgr7; have HO7 := Lib.hid hown7; have HB7 := Lib.hid (HBa.out.grown hgr7 HBa.out.size (fun j e => OwnE.ge HOa.out j e)); clear hown7 hgr7))
        go_roundw
        case rel =>
          refine ⟨k + 1, by omega, by go_num, ?_, HB7⟩
          rw [HS1.out]
          exact HO7
        case measure => simp [intOf]; omega
    · have ek : k = n := by omega
      subst ek
      go_wp2
      go_ret
      exact ⟨_, rfl, hO.out.is, hB.out⟩

/-! ### Strings, items compared -/
set_option maxHeartbeats 2000000 in
set_option maxRecDepth 100000 in
theorem same2_any {w : World} {v v' : Value} {xs ys : List ByteArray} (hx : SS w v xs) (hy : SS w v' ys) :
    Calls Tryz.prog 39 #[v, v'] w fun e w' => e = .returned (.bool (decide (xs = ys))) ∧ Below w.heap.size w w' := by
  obtain ⟨a, cap, rfl, l1, l2, l3⟩ := hx.opened
  obtain ⟨a', cap', rfl, k1, k2, k3⟩ := hy.opened
  have HX := Lib.hid l3
  have HY := Lib.hid k3
  unfold maxLen at l2 k2
  obtain ⟨n, hn⟩ : ∃ n, n = xs.length := ⟨_, rfl⟩
  obtain ⟨m, hm⟩ : ∃ m, m = ys.length := ⟨_, rfl⟩
  rw [← hn] at l1 ⊢
  rw [← hm] at k1 ⊢
  have HN := Lib.hid hn
  have HM := Lib.hid hm
  clear l3 k3 hn hm hx hy
  by_cases he : n = m
  · subst he
    go_enter Tryz.func39, Tryz.ntmps39
    go_wp2
    go_loopw [5] (fun i wr => ∃ k : Nat, k ≤ n ∧ i = .int .i64 k ∧ Hid (∀ j, j < k → xs[j]? = ys[j]?) ∧ ∃ q, wr = w.drewN q) (fun i _ => n - (intOf i).toNat)
    case atStart => exact ⟨0, by omega, rfl, by intro j hj; omega, 0, rfl⟩
    case round =>
      obtain ⟨k, hk, rfl, hall, q, rfl⟩ := hrel
      by_cases hlt : k < n
      · obtain ⟨x, ex⟩ : ∃ x, xs[k]? = some x := ⟨_, List.getElem?_eq_getElem (by rw [← HN.out]; exact hlt)⟩
        obtain ⟨y, ey⟩ : ∃ y, ys[k]? = some y := ⟨_, List.getElem?_eq_getElem (by rw [← HM.out]; exact hlt)⟩
        obtain ⟨b, off, rfl, _, c1⟩ := HX.out k x ex
        obtain ⟨b', off', rfl, _, d1⟩ := HY.out k y ey
        have EX := Lib.hid ex
        have EY := Lib.hid ey
        clear ex ey
        have u1 : (0 : Int) ≤ (k : Int) := by omega
        have u2 : (k : Int) < (n : Int) := by omega
        by_cases hxy : x = y
        · have hs : (x.toList == y.toList) = true := by rw [same_str]; exact decide_eq_true hxy
          have HXY := Lib.hid hxy
          clear hxy
          go_wp2
          go_quiet (fail)
          go_wp2
          go_roundw
          case rel =>
            refine ⟨k + 1, by omega, by go_num, ?_, _, rfl⟩
            intro j hj
            by_cases hjk : j = k
            · subst hjk; rw [EX.out, EY.out, HXY.out]
            · exact hall.out j (by omega)
          case measure => simp [intOf]; omega
        · have hs : (x.toList == y.toList) = false := by rw [same_str]; exact decide_eq_false hxy
          have HF : Hid (decide (xs = ys) = false) := Lib.hid (decide_eq_false (fun e => hxy (by
            have h1 := EX.out
            rw [e, EY.out] at h1
            exact (Option.some.inj h1).symm)))
          clear hxy
          go_wp2
          go_quiet (fail)
          go_wp2
          go_ret
          exact ⟨ret_bool HF.out.symm, below_drewN (below_drewN (Below.refl _ _) _) _⟩
      · have HT : Hid (decide (xs = ys) = true) := Lib.hid (decide_eq_true (List.ext_getElem? (fun j => by
          by_cases hj : j < k
          · exact hall.out j hj
          · rw [List.getElem?_eq_none (by rw [← HN.out]; omega), List.getElem?_eq_none (by rw [← HM.out]; omega)])))
        go_wp2
        go_ret
        exact ⟨ret_bool HT.out.symm, below_drewN (Below.refl _ _) _⟩
  · have HF : Hid (decide (xs = ys) = false) := Lib.hid (decide_eq_false (fun e => he (by rw [HN.out, HM.out, e])))
    have h' : ((n : Int) != (m : Int)) = true := by simp; omega
    go_enter Tryz.func39, Tryz.ntmps39
    go_wp2
    go_ret
    exact ⟨ret_bool HF.out.symm, Below.refl _ _⟩
end Go.Proofs.YtinfpbkbnhcifaaGreatDoor
