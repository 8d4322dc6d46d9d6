/- The reference's Extension and Proof. The conditions: what the slice reads as, lengths. -/
import Derived.Test.YtinfpbkbnhcifaaGreatDoorQ33
namespace Go.Proofs.YtinfpbkbnhcifaaGreatDoor
open Go.RowKit Go.BigFrame

set_option maxHeartbeats 2000000 in
set_option maxRecDepth 100000 in
theorem rext_any {w : World} {v : Value} {xs : List ByteArray} (m : Nat) (hv : SS w v xs) (hm : m ≤ xs.length) (h1000 : xs.length ≤ 1000) (hs : ∀ x ∈ xs, x.size ≤ 100000) :
    Calls Tryz.prog 83 #[v, .int .i64 m] w fun e w' => ∃ v', e = .returned (.tuple #[v', .int .i64 0]) ∧ OwnS w' w.heap.size v' (if m = 0 then [] else (extB xs m true).reverse) ∧ Below w.heap.size w w' := by
  obtain ⟨a, c, rfl, _, _, _⟩ := hv.opened
  have t0 : ¬ (m : Int) < 0 := by omega
  by_cases hm0 : m = 0
  · subst hm0
    have HO : Hid (OwnS w w.heap.size (.slice none 0 0) (if 0 = 0 then [] else (extB xs 0 true).reverse)) := Lib.hid (by rw [if_pos rfl]; exact OwnE.nil _ _ _ _)
    generalize (if 0 = 0 then [] else (extB xs 0 true).reverse) = E at *
    have t1 : ¬ (xs.length : Int) < 0 := by omega
    generalize xs.length = n at *
    go_enter Tryz.func83, Tryz.ntmps83
    go_wp2
    go_ret2
    exact ⟨_, rfl, HO.out, Below.refl _ _⟩
  · have HP := Lib.hid (rpart_any xs.length xs.length (Nat.le_refl _) m true rfl hv (by omega) hm h1000 hs)
    rw [if_neg hm0]
    have t1 : ¬ (xs.length : Int) < (m : Int) := by omega
    have t2 : ¬ (m : Int) = 0 := by omega
    generalize (extB xs m true).reverse = E at *
    generalize xs.length = n at *
    clear hv
    go_enter Tryz.func83, Tryz.ntmps83
    go_wp2_with (go_at_call 112; refine HP.out.mono ?_; rintro e w1 ⟨v1, rfl, ho1, hb1⟩; have HO1 := Lib.hid ho1; have HB1 := Lib.hid hb1; clear ho1 hb1)
    go_ret2
    exact ⟨_, rfl, HO1.out, HB1.out⟩

end Go.Proofs.YtinfpbkbnhcifaaGreatDoor

/- The reference's Valid, seal, Genuine. The conditions: what the slices read as, lengths. -/
namespace Go.Proofs.YtinfpbkbnhcifaaGreatDoor
open Go.RowKit Go.BigFrame

set_option maxHeartbeats 4000000 in
set_option maxRecDepth 100000 in
theorem rvalid_any (car : Int) {w : World} {v : Value} {xs : List ByteArray} (hv : SS w v xs) :
    Calls Tryz.prog 45 #[.agg #[.int .i64 car, v]] w fun e w' => e = .returned (.bool (validB ⟨car, xs⟩)) ∧ Below w.heap.size w w' := by
  obtain ⟨a, c, rfl, l1, l2, l3⟩ := hv.opened
  have HV := Lib.hid l3
  obtain ⟨R, hR⟩ : ∃ R, R = validB ⟨car, xs⟩ := ⟨_, rfl⟩
  rw [← hR]
  have HR : Hid (R = decide (0 ≤ car ∧ car ≤ 7 ∧ xs.length ≤ 60 ∧ ∀ s ∈ xs, s.size ≤ 1000)) := Lib.hid hR
  obtain ⟨n, hn⟩ : ∃ n, n = xs.length := ⟨_, rfl⟩
  rw [← hn] at HR ⊢
  have HN := Lib.hid hn
  have HIn := Lib.hid (fun W => rin_any car 0 7 W)
  clear l1 l2 l3 hv hR hn
  by_cases hc : 0 ≤ car ∧ car ≤ 7
  · rw [decide_eq_true hc] at HIn
    have HCC := Lib.hid hc
    by_cases h60 : n ≤ 60
    · have t60 : ¬ (60 : Int) < (n : Int) := by omega
      clear hc
      go_enter Tryz.func45, Tryz.ntmps45
      go_upto_region 1 with fail
      obtain ⟨W, hW⟩ : ∃ W, W = w.alloc (.cells #[.int .i64 car, .slice a n c] 26) := ⟨_, rfl⟩
      have HBW : Hid (Below w.heap.size w W) := Lib.hid (by rw [hW]; exact (Below.refl _ _).alloc (Nat.le_refl _) _)
      obtain ⟨c0, c1, _⟩ := two_cells (show W.heap[w.heap.size]? = some (.cells #[.int .i64 car, .slice a n c] 26 (0, 0)) from by rw [hW]; exact heap_alloc_new w _)
      rw [← hW]
      clear hW
      go_wp2_with (go_at_call 55; (with_reducible refine (HIn.out _).mono ?_); rintro e w' ⟨rfl, hw'⟩; replace hw' := hw'.symm; subst hw')
      go_loopw [3] (fun i wr => ∃ k : Nat, k ≤ n ∧ i = .int .i64 k ∧ Hid (∀ j x, j < k → xs[j]? = some x → x.size ≤ 1000) ∧ wr = W) (fun i _ => n - (intOf i).toNat)
      case atStart => exact ⟨0, by omega, rfl, Lib.hid (fun j x hj => by omega), rfl⟩
      case round =>
        obtain ⟨k, hk, rfl, hall, rfl⟩ := hrel
        by_cases hlt : k < n
        · obtain ⟨x, ex⟩ : ∃ x, xs[k]? = some x := ⟨_, List.getElem?_eq_getElem (by rw [← HN.out]; exact hlt)⟩
          obtain ⟨b, off, rfl, hb, cx⟩ := HV.out k x ex
          have cx := cell_keepB HBW.out hb cx
          have HEX := Lib.hid ex
          have tk : (k : Int) < (n : Int) := by omega
          have tk0 : (0 : Int) ≤ (k : Int) := by omega
          clear ex
          by_cases h32 : x.size ≤ 1000
          · have t32 : ¬ (1000 : Int) < (x.size : Int) := by omega
            have HN1 : Hid (∀ j y, j < k + 1 → xs[j]? = some y → y.size ≤ 1000) := Lib.hid (fun j y hj hy => by
              rcases Nat.lt_or_ge j k with h | h
              · exact hall.out j y h hy
              · obtain rfl : j = k := by omega
                rw [HEX.out] at hy
                cases hy
                exact h32)
            go_wp2
            go_roundw
            case rel => exact ⟨k + 1, by omega, by go_num, HN1, trivial⟩
            case measure => simp [intOf]; omega
          · have t32 : (1000 : Int) < (x.size : Int) := by omega
            have HF : Hid (R = false) := Lib.hid (by
              rw [HR.out]
              exact decide_eq_false (fun h => h32 (h.2.2.2 x (List.mem_of_getElem? HEX.out))))
            go_wp2
            go_ret
            exact ⟨by rw [HF.out]; rfl, HBW.out⟩
        · have tk : ¬ (k : Int) < (n : Int) := by omega
          have HF : Hid (R = decide (0 ≤ car ∧ car ≤ 7)) := Lib.hid (by
            rw [HR.out]
            refine decide_eq_decide.2 ⟨fun h => ⟨h.1, h.2.1⟩, fun h => ⟨h.1, h.2, h60, fun s hs => ?_⟩⟩
            obtain ⟨j, hj⟩ := List.mem_iff_getElem?.1 hs
            have hjn : j < xs.length := (List.getElem?_eq_some_iff.1 hj).1
            rw [← HN.out] at hjn
            exact hall.out j s (by omega) hj)
          have HT : Hid (R = true) := Lib.hid (by rw [HF.out]; exact decide_eq_true (HCC.out))
          go_wp2
          go_ret
          exact ⟨by rw [HT.out]; rfl, HBW.out⟩
    · have t60 : (60 : Int) < (n : Int) := by omega
      have HF : Hid (R = false) := Lib.hid (by rw [HR.out]; exact decide_eq_false (fun h => h60 h.2.2.1))
      clear hc
      go_enter Tryz.func45, Tryz.ntmps45
      go_wp2_with (go_at_call 55; (with_reducible refine (HIn.out _).mono ?_); rintro e w' ⟨rfl, hw'⟩; replace hw' := hw'.symm; subst hw')
      go_ret
      exact ⟨by rw [HF.out]; rfl, (Below.refl _ _).alloc (Nat.le_refl _) _⟩
  · rw [decide_eq_false hc] at HIn
    have HF : Hid (R = false) := Lib.hid (by rw [HR.out]; exact decide_eq_false (fun h => hc ⟨h.1, h.2.1⟩))
    clear hc
    go_enter Tryz.func45, Tryz.ntmps45
    go_wp2_with (go_at_call 55; (with_reducible refine (HIn.out _).mono ?_); rintro e w' ⟨rfl, hw'⟩; replace hw' := hw'.symm; subst hw')
    go_ret
    exact ⟨by rw [HF.out]; rfl, (Below.refl _ _).alloc (Nat.le_refl _) _⟩
end Go.Proofs.YtinfpbkbnhcifaaGreatDoor

/- The reference's seal, Genuine, Extends, Grown, Same. The conditions: what the slices read as, lengths. -/
namespace Go.Proofs.YtinfpbkbnhcifaaGreatDoor
open Go.RowKit Go.BigFrame

set_option maxHeartbeats 4000000 in
set_option maxRecDepth 100000 in
theorem rseal_any (key : ByteArray) (car siz : Int) (root sl : ByteArray) (hk : key.size ≤ 1000) (hc : 0 ≤ car ∧ car ≤ 7) (hs : 0 ≤ siz ∧ siz ≤ 60) (hr : root.size ≤ 1000) (w : World) :
    Calls Tryz.prog 82 #[.string key, .agg #[.int .i64 car, .int .i64 siz, .string root, .string sl]] w fun e w' => e = .returned (.string (signedB key ⟨car, siz, root, sl⟩)) ∧ Below w.heap.size w w' := by
  have HCn := Lib.hid (fun W => content_any ⟨car, siz, root, sl⟩ hc hs hr W)
  have hcs : (contentB ⟨car, siz, root, sl⟩).size ≤ 2000 := by rw [content_size]; simp only; omega
  have HSG : Hid (signedB key ⟨car, siz, root, sl⟩ = nodeS key (leafS (contentB ⟨car, siz, root, sl⟩))) := Lib.hid rfl
  generalize signedB key ⟨car, siz, root, sl⟩ = Z at *
  generalize contentB ⟨car, siz, root, sl⟩ = C at *
  have HLf := Lib.hid (fun W => r2leaf_any C W (by omega))
  have hls : (leafS C).size = 32 := leafS_size _
  generalize leafS C = L at *
  have HNd := Lib.hid (fun W => r2node_any key L W (by omega) (by omega))
  generalize nodeS key L = D at *
  have HBX : Hid (Below w.heap.size w (w.alloc (.cells #[.int .i64 car, .int .i64 siz, .string root, .string sl] 35))) := Lib.hid ((Below.refl _ _).alloc (Nat.le_refl _) _)
  simp only at HCn
  go_enter Tryz.func82, Tryz.ntmps82
  go_wp2_with (first | (go_at_call 37; (with_reducible refine (HCn.out _).mono ?_); rintro e w1 ⟨rfl, hb⟩; have HB1 := Lib.hid (HBX.out.trans (hb.mono HBX.out.size)); clear hb) | (go_at_call 38; (with_reducible refine (HLf.out _).mono ?_); rintro e w2 ⟨rfl, hb⟩; have HB2 := Lib.hid (below_next HB1.out hb); clear hb) | (go_at_call 71; (with_reducible refine (HNd.out _).mono ?_); rintro e w3 ⟨rfl, hb⟩; have HB3 := Lib.hid (below_next HB2.out hb); clear hb))
  go_ret
  exact ⟨by rw [HSG.out]; rfl, HB3.out⟩

set_option maxHeartbeats 8000000 in
set_option maxRecDepth 100000 in
theorem rgenuine_any (key : ByteArray) (car siz : Int) (root sl : ByteArray) (w : World) (hk : key.size ≤ 1000) :
    Calls Tryz.prog 49 #[.string key, .agg #[.int .i64 car, .int .i64 siz, .string root, .string sl]] w fun e w' => e = .returned (.bool (genuineB key ⟨car, siz, root, sl⟩)) ∧ Below w.heap.size w w' := by
  have HNO := Lib.hid (genuine_no key car siz root sl)
  have HYS := Lib.hid (genuine_yes key car siz root sl)
  generalize genuineB key ⟨car, siz, root, sl⟩ = R at *
  have HBX : Hid (Below w.heap.size w (w.alloc (.cells #[.int .i64 car, .int .i64 siz, .string root, .string sl] 35))) := Lib.hid ((Below.refl _ _).alloc (Nat.le_refl _) _)
  by_cases h0 : key.size = 32
  · have HI1 := Lib.hid (fun W => rin_any car 0 7 W)
    have HI2 := Lib.hid (fun W => rin_any siz 0 60 W)
    by_cases h1 : 0 ≤ car ∧ car ≤ 7
    · rw [decide_eq_true h1] at HI1
      by_cases h2 : 0 ≤ siz ∧ siz ≤ 60
      · rw [decide_eq_true h2] at HI2
        by_cases h3 : root.size = 32
        · have HR := Lib.hid (HYS.out h0 h1 h2 h3)
          have HSL := Lib.hid (fun W => rseal_any key car siz root sl hk h1 h2 (by omega) W)
          generalize signedB key ⟨car, siz, root, sl⟩ = Z at *
          have hst : (sl.toList == Z.toList) = R := str_eq _ _ _ HR.out
          have h3' : ¬ ¬ (root.size : Int) = 32 := by omega
          clear h1 h2 HR HNO HYS
          go_enter Tryz.func49, Tryz.ntmps49
          go_upto_region 3 with (go_at_call 55; (first | (with_reducible refine (HI1.out _).mono ?_) | (with_reducible refine (HI2.out _).mono ?_)); rintro e w' ⟨rfl, hw'⟩; replace hw' := hw'.symm; subst hw')
          have HC : Hid (∀ W, Below (w.alloc (.cells #[.int .i64 car, .int .i64 siz, .string root, .string sl] 35)).heap.size (w.alloc (.cells #[.int .i64 car, .int .i64 siz, .string root, .string sl] 35)) W → W.cell? ⟨w.heap.size, 0, none⟩ = some (.int .i64 car) ∧ W.cell? ⟨w.heap.size, 1, none⟩ = some (.int .i64 siz) ∧ W.cell? ⟨w.heap.size, 2, none⟩ = some (.string root) ∧ W.cell? ⟨w.heap.size, 3, none⟩ = some (.string sl)) := Lib.hid (fun W hW => four_cells (kept_block (heap_alloc_new w _) hW))
          obtain ⟨W0, hW0⟩ : ∃ W0, W0 = w.alloc (.cells #[.int .i64 car, .int .i64 siz, .string root, .string sl] 35) := ⟨_, rfl⟩
          rw [← hW0] at HC HBX ⊢
          clear hW0
          refine wp_region_noPanic ?_
          refine wp_region_lexB [.q 0, .q 1, .q 2, .q 3, .b 4, .q 5, .q 6] (by kernel_rfl) (by kernel_rfl) (fun _ _ _ _ h => h) ?_
          refine wpFl_qL (v := ?_) rfl (Or.inl ⟨by rfl, ?_⟩) ?_
          rotate_left
          focus (intro w' hSw; (try dsimp only [OldKept] at hSw); obtain ⟨c0, c1, c2, c3⟩ := HC.out w' hSw; go_simp; (try with_reducible rfl); done)
          simp only [Act.put, List.setIfInBounds_toArray, List.set_cons_zero, List.set_cons_succ]
          refine wpFl_qL (v := ?_) rfl (Or.inl ⟨by rfl, ?_⟩) ?_
          rotate_left
          focus (intro w' hSw; (try dsimp only [OldKept] at hSw); obtain ⟨c0, c1, c2, c3⟩ := HC.out w' hSw; go_simp; (try with_reducible rfl); done)
          simp only [Act.put, List.setIfInBounds_toArray, List.set_cons_zero, List.set_cons_succ]
          refine wpFl_qL (v := ?_) rfl (Or.inl ⟨by rfl, ?_⟩) ?_
          rotate_left
          focus (intro w' hSw; (try dsimp only [OldKept] at hSw); obtain ⟨c0, c1, c2, c3⟩ := HC.out w' hSw; go_simp; (try with_reducible rfl); done)
          simp only [Act.put, List.setIfInBounds_toArray, List.set_cons_zero, List.set_cons_succ]
          refine wpFl_qL (v := ?_) rfl (Or.inl ⟨by rfl, ?_⟩) ?_
          rotate_left
          focus (intro w' hSw; (try dsimp only [OldKept] at hSw); obtain ⟨c0, c1, c2, c3⟩ := HC.out w' hSw; go_simp; (try with_reducible rfl); done)
          simp only [Act.put, List.setIfInBounds_toArray, List.set_cons_zero, List.set_cons_succ]
          refine wpFl_bL rfl (fun w2 hn2 hs2 K hK => ?_)
          go_simp
          go_at_call 82
          refine (HSL.out _).mono ?_
          rintro e w3 ⟨rfl, hb3⟩
          have HB3 := Lib.hid (HBX.out.trans ((below_next hs2 hb3).mono HBX.out.size))
          refine hK.out _ _ (below_next hs2 hb3) (Keeps.below hb3) ?_
          clear hK K hn2 hs2 hb3
          refine wpFl_qL (v := ?_) rfl (Or.inl ⟨by rfl, ?_⟩) ?_
          rotate_left
          focus (intro w' hSw; (try dsimp only [OldKept] at hSw); go_simp; (try with_reducible rfl); done)
          simp only [Act.put, List.setIfInBounds_toArray, List.set_cons_zero, List.set_cons_succ]
          refine wpFl_qL (v := ?_) rfl (Or.inl ⟨by rfl, ?_⟩) ?_
          rotate_left
          focus (intro w' hSw; (try dsimp only [OldKept] at hSw); go_simp; (try with_reducible rfl); done)
          simp only [Act.put, List.setIfInBounds_toArray, List.set_cons_zero, List.set_cons_succ]
          refine wpFl_nil ?_
          refine NoPanic.normal ?_
          go_wp2
          go_ret
          exact ⟨rfl, HB3.out⟩
        · have HF : Hid (R = false) := Lib.hid (HNO.out (fun h => h3 h.2.2.2))
          have h3' : ¬ (root.size : Int) = 32 := by omega
          clear h1 h2 HNO HYS
          go_enter Tryz.func49, Tryz.ntmps49
          go_wp2_with (go_at_call 55; (first | (with_reducible refine (HI1.out _).mono ?_) | (with_reducible refine (HI2.out _).mono ?_)); rintro e w' ⟨rfl, hw'⟩; replace hw' := hw'.symm; subst hw')
          go_ret
          exact ⟨by rw [HF.out]; rfl, HBX.out⟩
      · rw [decide_eq_false h2] at HI2
        have HF : Hid (R = false) := Lib.hid (HNO.out (fun h => h2 h.2.2.1))
        clear h1 h2 HNO HYS
        go_enter Tryz.func49, Tryz.ntmps49
        go_wp2_with (go_at_call 55; (first | (with_reducible refine (HI1.out _).mono ?_) | (with_reducible refine (HI2.out _).mono ?_)); rintro e w' ⟨rfl, hw'⟩; replace hw' := hw'.symm; subst hw')
        go_ret
        exact ⟨by rw [HF.out]; rfl, HBX.out⟩
    · rw [decide_eq_false h1] at HI1
      have HF : Hid (R = false) := Lib.hid (HNO.out (fun h => h1 h.2.1))
      clear h1 HNO HYS
      go_enter Tryz.func49, Tryz.ntmps49
      go_wp2_with (go_at_call 55; (with_reducible refine (HI1.out _).mono ?_); rintro e w' ⟨rfl, hw'⟩; replace hw' := hw'.symm; subst hw')
      go_ret
      exact ⟨by rw [HF.out]; rfl, HBX.out⟩
  · have HF : Hid (R = false) := Lib.hid (HNO.out (fun h => h0 h.1))
    have h0' : ¬ (key.size : Int) = 32 := by omega
    clear HNO HYS
    go_enter Tryz.func49, Tryz.ntmps49
    go_wp2
    go_ret
    exact ⟨by rw [HF.out]; rfl, HBX.out⟩
end Go.Proofs.YtinfpbkbnhcifaaGreatDoor

/- The reference's Extends, Grown, Same. The conditions: what the slices read as, lengths. -/
namespace Go.Proofs.YtinfpbkbnhcifaaGreatDoor
open Go.RowKit Go.BigFrame

set_option maxHeartbeats 8000000 in
set_option maxRecDepth 100000 in
theorem rextends_any (key : ByteArray) (c1 s1 : Int) (r1 l1 : ByteArray) (c2 s2 : Int) (r2 l2 : ByteArray) {w : World} {v : Value} {pr : List ByteArray} (hk : key.size ≤ 1000) (hv : SS w v pr) (hl : pr.length ≤ 1000) :
    Calls Tryz.prog 50 #[.string key, .agg #[.int .i64 c1, .int .i64 s1, .string r1, .string l1], .agg #[.int .i64 c2, .int .i64 s2, .string r2, .string l2], v] w fun e w' => e = .returned (.bool (extendsB key ⟨c1, s1, r1, l1⟩ ⟨c2, s2, r2, l2⟩ pr)) ∧ Below w.heap.size w w' := by
  have HG1 := Lib.hid (fun W => rgenuine_any key c1 s1 r1 l1 W hk)
  have HG2 := Lib.hid (fun W => rgenuine_any key c2 s2 r2 l2 W hk)
  have HP1 : Hid (genuineB key ⟨c1, s1, r1, l1⟩ = true → (0 ≤ s1 ∧ s1 ≤ 60) ∧ r1.size = 32) := Lib.hid (fun h => by
    obtain ⟨_, _, a, b, _⟩ := of_decide_eq_true (show decide _ = true from h)
    exact ⟨a, b⟩)
  have HP2 : Hid (genuineB key ⟨c2, s2, r2, l2⟩ = true → (0 ≤ s2 ∧ s2 ≤ 60) ∧ r2.size = 32) := Lib.hid (fun h => by
    obtain ⟨_, _, a, b, _⟩ := of_decide_eq_true (show decide _ = true from h)
    exact ⟨a, b⟩)
  have HR : Hid (extendsB key ⟨c1, s1, r1, l1⟩ ⟨c2, s2, r2, l2⟩ pr = (genuineB key ⟨c1, s1, r1, l1⟩ && (genuineB key ⟨c2, s2, r2, l2⟩ && (decide (c1 = c2) && vextB r1 s1 r2 s2 pr)))) := Lib.hid rfl
  generalize extendsB key ⟨c1, s1, r1, l1⟩ ⟨c2, s2, r2, l2⟩ pr = R at *
  generalize genuineB key ⟨c1, s1, r1, l1⟩ = G1 at *
  generalize genuineB key ⟨c2, s2, r2, l2⟩ = G2 at *
  obtain ⟨W0, hW0⟩ : ∃ W0, W0 = (w.alloc (.cells #[.int .i64 c1, .int .i64 s1, .string r1, .string l1] 35)).alloc (.cells #[.int .i64 c2, .int .i64 s2, .string r2, .string l2] 35) := ⟨_, rfl⟩
  have HB0 : Hid (Below w.heap.size w W0) := Lib.hid (by rw [hW0]; exact ((Below.refl _ _).alloc (Nat.le_refl _) _).alloc (by simp) _)
  have HC : Hid (∀ W, Below W0.heap.size W0 W → (W.cell? ⟨w.heap.size, 0, none⟩ = some (.int .i64 c1) ∧ W.cell? ⟨w.heap.size, 1, none⟩ = some (.int .i64 s1) ∧ W.cell? ⟨w.heap.size, 2, none⟩ = some (.string r1) ∧ W.cell? ⟨w.heap.size, 3, none⟩ = some (.string l1)) ∧ (W.cell? ⟨w.heap.size + 1, 0, none⟩ = some (.int .i64 c2) ∧ W.cell? ⟨w.heap.size + 1, 1, none⟩ = some (.int .i64 s2) ∧ W.cell? ⟨w.heap.size + 1, 2, none⟩ = some (.string r2) ∧ W.cell? ⟨w.heap.size + 1, 3, none⟩ = some (.string l2))) := Lib.hid (fun W hW => by
    have e1 : W0.heap[w.heap.size]? = some (.cells #[.int .i64 c1, .int .i64 s1, .string r1, .string l1] 35 (0, 0)) := by rw [hW0]; exact at_past w _ _
    have e2 : W0.heap[w.heap.size + 1]? = some (.cells #[.int .i64 c2, .int .i64 s2, .string r2, .string l2] 35 (0, 0)) := by rw [hW0]; exact at_second w _ _
    exact ⟨four_cells (kept_block e1 hW), four_cells (kept_block e2 hW)⟩)
  have HW0 := Lib.hid hW0
  clear hW0
  cases G1 with
  | false =>
    have HF : Hid (R = false) := Lib.hid (by rw [HR.out]; rfl)
    go_enter Tryz.func50, Tryz.ntmps50
    go_upto_region 1 with fail
    rw [← HW0.out]
    obtain ⟨⟨c0, c1', c2', c3⟩, d0, d1, d2, d3⟩ := HC.out W0 (Below.refl _ _)
    go_wp2_with (go_at_call 49; (with_reducible refine (HG1.out _).mono ?_); rintro e w1 ⟨rfl, hb1⟩; have HB1 := Lib.hid (HB0.out.trans (hb1.mono HB0.out.size)); clear hb1)
    go_ret
    exact ⟨by rw [HF.out]; rfl, HB1.out⟩
  | true =>
    obtain ⟨a1, a2⟩ := HP1.out rfl
    cases G2 with
    | false =>
      have HF : Hid (R = false) := Lib.hid (by rw [HR.out]; rfl)
      go_enter Tryz.func50, Tryz.ntmps50
      go_upto_region 1 with fail
      rw [← HW0.out]
      obtain ⟨⟨c0, c1', c2', c3⟩, d0, d1, d2, d3⟩ := HC.out W0 (Below.refl _ _)
      go_wp2_with (first | (go_at_call 49; (with_reducible refine (HG1.out _).mono ?_); rintro e w1 ⟨rfl, hb1⟩; have HB1 := Lib.hid hb1; obtain ⟨⟨e0, e1, e2, e3⟩, f0, f1, f2, f3⟩ := HC.out w1 hb1; clear hb1) | (go_at_call 49; (with_reducible refine (HG2.out _).mono ?_); rintro e w2 ⟨rfl, hb2⟩; have HB2 := Lib.hid (HB0.out.trans ((below_next HB1.out hb2).mono HB0.out.size)); clear hb2))
      go_ret
      exact ⟨by rw [HF.out]; rfl, HB2.out⟩
    | true =>
      obtain ⟨b1, b2⟩ := HP2.out rfl
      by_cases hcc : c1 = c2
      · subst hcc
        obtain ⟨m, rfl⟩ := Int.eq_ofNat_of_zero_le a1.1
        obtain ⟨n, rfl⟩ := Int.eq_ofNat_of_zero_le b1.1
        have HVE := Lib.hid (fun W (hW : Below w.heap.size w W) => rvext_any r1 r2 m n (SS.below hv hW) hl (by omega) (by omega) a2 b2)
        have HF : Hid (R = vextB r1 m r2 n pr) := Lib.hid (by rw [HR.out]; simp)
        rw [← HF.out] at HVE
        clear HR HP1 HP2 hv
        go_enter Tryz.func50, Tryz.ntmps50
        go_upto_region 1 with fail
        rw [← HW0.out]
        obtain ⟨⟨c0, c1', c2', c3⟩, d0, d1, d2, d3⟩ := HC.out W0 (Below.refl _ _)
        go_wp2_with (first | (go_at_call 49; (with_reducible refine (HG1.out _).mono ?_); rintro e w1 ⟨rfl, hb1⟩; have HB1 := Lib.hid hb1; obtain ⟨⟨e0, e1, e2, e3⟩, f0, f1, f2, f3⟩ := HC.out w1 hb1; clear hb1) | (go_at_call 49; (with_reducible refine (HG2.out _).mono ?_); rintro e w2 ⟨rfl, hb2⟩; have HB2 := Lib.hid (below_next HB1.out hb2); obtain ⟨⟨g0, g1, g2, g3⟩, j0, j1, j2, j3⟩ := HC.out w2 HB2.out; clear hb2) | (go_at_call 84; refine (HVE.out _ (HB0.out.trans (HB2.out.mono HB0.out.size))).mono ?_; rintro e w3 ⟨rfl, hb3⟩; have HB3 := Lib.hid (HB0.out.trans ((below_next HB2.out hb3).mono HB0.out.size)); clear hb3))
        go_ret
        exact ⟨rfl, HB3.out⟩
      · have HF : Hid (R = false) := Lib.hid (by rw [HR.out, decide_eq_false hcc]; rfl)
        go_enter Tryz.func50, Tryz.ntmps50
        go_upto_region 1 with fail
        rw [← HW0.out]
        obtain ⟨⟨c0, c1', c2', c3⟩, d0, d1, d2, d3⟩ := HC.out W0 (Below.refl _ _)
        go_wp2_with (first | (go_at_call 49; (with_reducible refine (HG1.out _).mono ?_); rintro e w1 ⟨rfl, hb1⟩; have HB1 := Lib.hid hb1; obtain ⟨⟨e0, e1, e2, e3⟩, f0, f1, f2, f3⟩ := HC.out w1 hb1; clear hb1) | (go_at_call 49; (with_reducible refine (HG2.out _).mono ?_); rintro e w2 ⟨rfl, hb2⟩; have HB2 := Lib.hid (below_next HB1.out hb2); obtain ⟨⟨g0, g1, g2, g3⟩, j0, j1, j2, j3⟩ := HC.out w2 HB2.out; clear hb2))
        go_ret
        exact ⟨by rw [HF.out]; rfl, HB0.out.trans (HB2.out.mono HB0.out.size)⟩

set_option maxHeartbeats 4000000 in
set_option maxRecDepth 100000 in
theorem rsame_any (c1 c2 : Int) {w : World} {v1 v2 : Value} {xs ys : List ByteArray} (hx : SS w v1 xs) (hy : SS w v2 ys) :
    Calls Tryz.prog 46 #[.agg #[.int .i64 c1, v1], .agg #[.int .i64 c2, v2]] w fun e w' => e = .returned (.bool (decide (c1 = c2 ∧ xs = ys))) ∧ Below w.heap.size w w' := by
  obtain ⟨a1, n1, hv1⟩ := hx.form2
  obtain ⟨a2, n2, hv2⟩ := hy.form2
  subst hv1 hv2
  have HSM := Lib.hid (fun W (hW : Below w.heap.size w W) => same2_any (SS.below hx hW) (SS.below hy hW))
  obtain ⟨R, hR⟩ : ∃ R, R = decide (c1 = c2 ∧ xs = ys) := ⟨_, rfl⟩
  rw [← hR]
  have HR := Lib.hid hR
  obtain ⟨S, hS⟩ : ∃ S, S = decide (xs = ys) := ⟨_, rfl⟩
  have HS := Lib.hid hS
  rw [← hS] at HSM
  clear hR hS hx hy
  generalize xs.length = l1 at *
  generalize ys.length = l2 at *
  obtain ⟨W0, hW0⟩ : ∃ W0, W0 = (w.alloc (.cells #[.int .i64 c1, .slice a1 l1 n1] 26)).alloc (.cells #[.int .i64 c2, .slice a2 l2 n2] 26) := ⟨_, rfl⟩
  have HB0 : Hid (Below w.heap.size w W0) := Lib.hid (by rw [hW0]; exact ((Below.refl _ _).alloc (Nat.le_refl _) _).alloc (by simp) _)
  have e1 : W0.heap[w.heap.size]? = some (.cells #[.int .i64 c1, .slice a1 l1 n1] 26 (0, 0)) := by rw [hW0]; exact at_past w _ _
  have e2 : W0.heap[w.heap.size + 1]? = some (.cells #[.int .i64 c2, .slice a2 l2 n2] 26 (0, 0)) := by rw [hW0]; exact at_second w _ _
  obtain ⟨c0, c1', _⟩ := two_cells e1
  obtain ⟨d0, d1, _⟩ := two_cells e2
  have HW0 := Lib.hid hW0
  clear hW0 e1 e2
  by_cases hcc : c1 = c2
  · subst hcc
    have HF : Hid (R = S) := Lib.hid (by rw [HR.out, HS.out]; simp)
    clear HR HS
    go_enter Tryz.func46, Tryz.ntmps46
    go_upto_region 1 with fail
    rw [← HW0.out]
    go_wp2_with (go_at_call 39; refine (HSM.out _ HB0.out).mono ?_; rintro e w1 ⟨rfl, hb1⟩; have HB1 := Lib.hid (HB0.out.trans (hb1.mono HB0.out.size)); clear hb1)
    go_ret
    exact ⟨by rw [HF.out]; rfl, HB1.out⟩
  · have HF : Hid (R = false) := Lib.hid (by rw [HR.out]; exact decide_eq_false (fun h => hcc h.1))
    clear HR HS
    go_enter Tryz.func46, Tryz.ntmps46
    go_upto_region 1 with fail
    rw [← HW0.out]
    go_wp2
    go_ret
    exact ⟨by rw [HF.out]; rfl, HB0.out⟩
end Go.Proofs.YtinfpbkbnhcifaaGreatDoor

/- The reference's Grown and Sign. The conditions: what the slices read as, lengths. -/
namespace Go.Proofs.YtinfpbkbnhcifaaGreatDoor
open Go.RowKit Go.BigFrame

def grownZ (r : RegP) (m n : Int) : List ByteArray := (grownB r m n).getD []
def grownE (r : RegP) (m n : Int) : Int := if (grownB r m n).isSome = true then 0 else 180
def signZ (key : ByteArray) (r : RegP) (n : Int) : HeadP := (signB key r n).getD ⟨0, 0, ⟨#[]⟩, ⟨#[]⟩⟩
def signE (key : ByteArray) (r : RegP) (n : Int) : Int := if (signB key r n).isSome = true then 0 else 180
/-- A call of Grown. -/
def GrownSays (w : World) (zs : List ByteArray) (err : Int) (e : Ending) (w' : World) : Prop := ∃ v', e = .returned (.tuple #[v', .int .i64 err]) ∧ SS w' v' zs ∧ RowTy w' 9 v' ∧ Below w.heap.size w w'
theorem GrownSays.mk {w w' : World} {zs : List ByteArray} {err : Int} {e : Ending} (v' : Value) (h1 : e = .returned (.tuple #[v', .int .i64 err])) (h2 : SS w' v' zs) (h4 : RowTy w' 9 v') (h3 : Below w.heap.size w w') : GrownSays w zs err e w' := ⟨v', h1, h2, h4, h3⟩

set_option maxHeartbeats 8000000 in
set_option maxRecDepth 100000 in
theorem rgrown_any (car m n : Int) {w : World} {v : Value} {xs : List ByteArray} (hv : SS w v xs) :
    Calls Tryz.prog 48 #[.agg #[.int .i64 car, v], .int .i64 m, .int .i64 n] w (GrownSays w (grownZ ⟨car, xs⟩ m n) (grownE ⟨car, xs⟩ m n)) := by
  obtain ⟨a, c, hva⟩ := hv.form2
  have hcap : xs.length ≤ c := by
    obtain ⟨a', c', e, h1, _⟩ := hv.opened
    rw [hva] at e
    injection e with _ _ e3
    omega
  subst hva
  have HVL := Lib.hid (fun W (hW : Below w.heap.size w W) => rvalid_any car (SS.below hv hW))
  have HI1 := Lib.hid (fun W => rin_any n 0 (xs.length : Int) W)
  have HI2 := Lib.hid (fun W => rin_any m 0 n W)
  have HCUT := Lib.hid (fun (k : Nat) (hk : k ≤ xs.length) W (hW : Below w.heap.size w W) => (SS.below hv hW).cut k hk)
  have HNO : Hid (¬ (validB ⟨car, xs⟩ = true ∧ (0 ≤ n ∧ n ≤ (xs.length : Int)) ∧ (0 ≤ m ∧ m ≤ n)) → grownZ ⟨car, xs⟩ m n = [] ∧ grownE ⟨car, xs⟩ m n = 180) := Lib.hid (fun h => by
    have e : grownB ⟨car, xs⟩ m n = none := by unfold grownB; rw [if_neg h]
    unfold grownZ grownE
    rw [e]
    exact ⟨rfl, rfl⟩)
  have HYS : Hid (validB ⟨car, xs⟩ = true → (0 ≤ n ∧ n ≤ (xs.length : Int)) → (0 ≤ m ∧ m ≤ n) → grownZ ⟨car, xs⟩ m n = (if m = 0 then [] else (extB (xs.take n.toNat) m.toNat true).reverse) ∧ grownE ⟨car, xs⟩ m n = 0) := Lib.hid (fun h1 h2 h3 => by
    have e : grownB ⟨car, xs⟩ m n = some (if m = 0 then [] else (extB (xs.take n.toNat) m.toNat true).reverse) := by unfold grownB; rw [if_pos ⟨h1, h2, h3⟩]
    unfold grownZ grownE
    rw [e]
    exact ⟨rfl, rfl⟩)
  have HVP : Hid (validB ⟨car, xs⟩ = true → xs.length ≤ 60 ∧ ∀ s ∈ xs, s.size ≤ 1000) := Lib.hid (fun h => (valid_parts h).2.2)
  generalize grownZ ⟨car, xs⟩ m n = Z at *
  generalize grownE ⟨car, xs⟩ m n = ER at *
  generalize validB ⟨car, xs⟩ = V at *
  obtain ⟨l, hl⟩ : ∃ l, l = xs.length := ⟨_, rfl⟩
  rw [← hl] at hcap HVL HI1 HNO HYS HVP ⊢
  have HLN := Lib.hid hl
  rw [← hl] at HCUT
  clear hl hv
  obtain ⟨W0, hW0⟩ : ∃ W0, W0 = w.alloc (.cells #[.int .i64 car, .slice a l c] 26) := ⟨_, rfl⟩
  have HB0 : Hid (Below w.heap.size w W0) := Lib.hid (by rw [hW0]; exact (Below.refl _ _).alloc (Nat.le_refl _) _)
  have HC : Hid (∀ W, Below W0.heap.size W0 W → W.cell? ⟨w.heap.size, 0, none⟩ = some (.int .i64 car) ∧ W.cell? ⟨w.heap.size, 1, none⟩ = some (.slice a l c)) := Lib.hid (fun W hW => by
    have e1 : W0.heap[w.heap.size]? = some (.cells #[.int .i64 car, .slice a l c] 26 (0, 0)) := by rw [hW0]; exact heap_alloc_new w _
    have := two_cells (kept_block e1 hW)
    exact ⟨this.1, this.2.1⟩)
  have HW0 := Lib.hid hW0
  clear hW0
  cases V with
  | false =>
    obtain ⟨hz, he⟩ := HNO.out (by simp)
    have HF := Lib.hid hz
    have HE := Lib.hid he
    clear hz he HNO HYS HVP
    go_enter Tryz.func48, Tryz.ntmps48
    go_upto_region 1 with fail
    rw [← HW0.out]
    obtain ⟨c0, c1⟩ := HC.out W0 (Below.refl _ _)
    go_wp2_with (go_at_call 45; refine (HVL.out _ HB0.out).mono ?_; rintro e w1 ⟨rfl, hb1⟩; have HB1 := Lib.hid (HB0.out.trans (hb1.mono HB0.out.size)); clear hb1)
    go_ret2
    exact GrownSays.mk (.slice none 0 0) (by rw [HE.out]; rfl) (by rw [HF.out]; exact SliceAt.nil _ _) (rowTy_nil _ _) HB1.out
  | true =>
    by_cases h1 : 0 ≤ n ∧ n ≤ (l : Int)
    · rw [decide_eq_true h1] at HI1
      obtain ⟨k, rfl⟩ := Int.eq_ofNat_of_zero_le h1.1
      have hkl : k ≤ l := by omega
      by_cases h2 : 0 ≤ m ∧ m ≤ (k : Int)
      · rw [decide_eq_true h2] at HI2
        obtain ⟨j, rfl⟩ := Int.eq_ofNat_of_zero_le h2.1
        have hjk : j ≤ k := by omega
        obtain ⟨hz, he⟩ := HYS.out rfl h1 h2
        obtain ⟨p1, p2⟩ := HVP.out rfl
        have hlt : (xs.take k).length = k := by rw [List.length_take, ← HLN.out]; omega
        have HX := Lib.hid (fun W (hW : Below w.heap.size w W) => rext_any j (HCUT.out k hkl W hW) (by rw [hlt]; exact hjk) (by rw [hlt]; omega) (fun s hs => by have := p2 s (List.mem_of_mem_take hs); omega))
        have HF : Hid (Z = (if j = 0 then [] else (extB (xs.take k) j true).reverse)) := Lib.hid (by
          rw [hz]
          by_cases h : j = 0
          · rw [if_pos h, if_pos (by omega)]
          · rw [if_neg h, if_neg (by omega)]; rfl)
        have HE := Lib.hid he
        rw [← HF.out] at HX
        have u1 : (k : Int) ≤ (l : Int) := by omega
        have u0 : (0 : Int) ≤ (k : Int) := by omega
        have u2 : k ≤ c := by omega
        clear hz he HNO HYS HVP HCUT p1 p2 hlt h1 h2
        go_enter Tryz.func48, Tryz.ntmps48
        go_upto_region 1 with fail
        rw [← HW0.out]
        obtain ⟨c0, c1⟩ := HC.out W0 (Below.refl _ _)
        go_wp2_with (first | (go_at_call 45; refine (HVL.out _ HB0.out).mono ?_; rintro e w1 ⟨rfl, hb1⟩; obtain ⟨d0, d1⟩ := HC.out w1 hb1; have HB1 := Lib.hid (HB0.out.trans (hb1.mono HB0.out.size)); clear hb1) | (go_at_call 55; (first | (with_reducible refine (HI1.out _).mono ?_) | (with_reducible refine (HI2.out _).mono ?_)); rintro e w' ⟨rfl, hw'⟩; replace hw' := hw'.symm; subst hw') | (go_at_call 83; refine (HX.out _ HB1.out).mono ?_; rintro e w2 ⟨v2, rfl, ho2, hb2⟩; have HO2 := Lib.hid ho2.ss; have HR2 := Lib.hid (rowTy_own ho2); have HB2 := Lib.hid (below_next HB1.out hb2); clear ho2 hb2))
        go_ret2
        exact GrownSays.mk v2 (by rw [HE.out]; rfl) HO2.out HR2.out HB2.out
      · rw [decide_eq_false h2] at HI2
        obtain ⟨hz, he⟩ := HNO.out (fun h => h2 h.2.2)
        have HF := Lib.hid hz
        have HE := Lib.hid he
        clear hz he HNO HYS HVP HCUT h1 h2
        go_enter Tryz.func48, Tryz.ntmps48
        go_upto_region 1 with fail
        rw [← HW0.out]
        obtain ⟨c0, c1⟩ := HC.out W0 (Below.refl _ _)
        go_wp2_with (first | (go_at_call 45; refine (HVL.out _ HB0.out).mono ?_; rintro e w1 ⟨rfl, hb1⟩; obtain ⟨d0, d1⟩ := HC.out w1 hb1; have HB1 := Lib.hid (HB0.out.trans (hb1.mono HB0.out.size)); clear hb1) | (go_at_call 55; (first | (with_reducible refine (HI1.out _).mono ?_) | (with_reducible refine (HI2.out _).mono ?_)); rintro e w' ⟨rfl, hw'⟩; replace hw' := hw'.symm; subst hw'))
        go_ret2
        exact GrownSays.mk (.slice none 0 0) (by rw [HE.out]; rfl) (by rw [HF.out]; exact SliceAt.nil _ _) (rowTy_nil _ _) HB1.out
    · rw [decide_eq_false h1] at HI1
      obtain ⟨hz, he⟩ := HNO.out (fun h => h1 h.2.1)
      have HF := Lib.hid hz
      have HE := Lib.hid he
      clear hz he HNO HYS HVP HCUT h1
      go_enter Tryz.func48, Tryz.ntmps48
      go_upto_region 1 with fail
      rw [← HW0.out]
      obtain ⟨c0, c1⟩ := HC.out W0 (Below.refl _ _)
      go_wp2_with (first | (go_at_call 45; refine (HVL.out _ HB0.out).mono ?_; rintro e w1 ⟨rfl, hb1⟩; obtain ⟨d0, d1⟩ := HC.out w1 hb1; have HB1 := Lib.hid (HB0.out.trans (hb1.mono HB0.out.size)); clear hb1) | (go_at_call 55; (with_reducible refine (HI1.out _).mono ?_); rintro e w' ⟨rfl, hw'⟩; replace hw' := hw'.symm; subst hw'))
      go_ret2
      exact GrownSays.mk (.slice none 0 0) (by rw [HE.out]; rfl) (by rw [HF.out]; exact SliceAt.nil _ _) (rowTy_nil _ _) HB1.out
end Go.Proofs.YtinfpbkbnhcifaaGreatDoor
