/- The law's cut. The conditions: what the slice reads as, lengths. -/
import Derived.Test.YtinfpbkbnhcifaaGreatDoorQ35
import Derived.Test.YtinfpbkbnhcifaaGreatDoorQ31
import Derived.Deep.DeepCutAuto
import Derived.Test.YtinfpbkbnhcifaaGreatDoorQ26
import Derived.Test.YtinfpbkbnhcifaaGreatDoorQ21
import Derived.Test.YtinfpbkbnhcifaaGreatDoorQ22
namespace Go.Proofs.YtinfpbkbnhcifaaGreatDoor
open Go.RowKit Go.BigFrame

def cutS (s : ByteArray) : ByteArray := s.extract 0 (min s.size 1001)
def cutL (xs : List ByteArray) : List ByteArray := (xs.take 4).map cutS
theorem cutL_len (xs : List ByteArray) : (cutL xs).length ≤ 4 := by
  unfold cutL
  rw [List.length_map, List.length_take]
  omega
theorem cut_take {xs : List ByteArray} {k : Nat} {s : ByteArray} (h : xs[k]? = some s) : (xs.take (k + 1)).map cutS = (xs.take k).map cutS ++ [cutS s] := by
  rw [List.take_add_one, h, List.map_append]
  rfl

/-- What the loop of cut keeps: the boxed register, the result's box, its own register and row. -/
def CutAt (w : World) (B : Nat) (W : World) (P : Array Value) (car : Int) (v : Value) (xs : List ByteArray) : Prop :=
  Below w.heap.size w W ∧ W.heap[w.heap.size]? = some (.cells P 26 (0, 0)) ∧ W.heap[w.heap.size + 1]? = some (.cells #[.int .i64 0, .slice none 0 0] 26 (0, 0)) ∧ W.heap[B]? = some (.cells #[.int .i64 car, v] 26 (0, 0)) ∧ OwnS W B v xs
set_option maxHeartbeats 8000000 in
set_option maxRecDepth 100000 in
theorem cut_any (car : Int) {w : World} {v : Value} {xs : List ByteArray} (hv : SS w v xs) :
    Calls Tryz.prog 41 #[.agg #[.int .i64 car, v]] w fun e w' => ∃ v', e = .returned (.agg #[.int .i64 car, v']) ∧ OwnS w' w.heap.size v' (cutL xs) ∧ Below w.heap.size w w' := by
  obtain ⟨a, c, rfl, l1, l2, l3⟩ := hv.opened
  unfold maxLen at l2
  have HV3 := Lib.hid l3
  obtain ⟨n, hn⟩ : ∃ n, n = xs.length := ⟨_, rfl⟩
  rw [← hn] at l1 ⊢
  have HN := Lib.hid hn
  obtain ⟨M, hM⟩ : ∃ M, M = min n 4 := ⟨_, rfl⟩
  have HMM : Hid (∀ k : Nat, k ≤ M → (k < M ↔ (k < n ∧ k < 4))) := Lib.hid (fun k hk => by omega)
  have HME : Hid (cutL xs = (xs.take M).map cutS) := Lib.hid (by
    unfold cutL
    congr 1
    by_cases h : n ≤ 4
    · have e : M = n := by omega
      rw [e, hn, List.take_length, List.take_of_length_le (by omega)]
    · rw [show M = 4 by omega])
  have hM4 : M ≤ 4 := by omega
  have hMn : M ≤ n := by omega
  clear hv l3 hn hM
  go_enter Tryz.func41, Tryz.ntmps41
  go_upto_block 0 with fail
  obtain ⟨B, hBe⟩ : ∃ B, B = w.heap.size + 2 := ⟨_, rfl⟩
  have HA : Hid (CutAt w B ((((w.alloc (.cells #[.int .i64 car, .slice a n c] 26)).alloc (.cells #[.int .i64 0, .slice none 0 0] 26)).alloc (.cells #[.int .i64 car, .slice none 0 0] 26))) #[.int .i64 car, .slice a n c] car (.slice none 0 0) ((xs.take 0).map cutS)) := Lib.hid (by
    obtain ⟨e1, e2, e3, _⟩ := at_three w (.cells #[.int .i64 car, .slice a n c] 26) (.cells #[.int .i64 0, .slice none 0 0] 26) (.cells #[.int .i64 car, .slice none 0 0] 26)
    rw [hBe]
    exact ⟨(((Below.refl _ _).alloc (Nat.le_refl _) _).alloc (by simp) _).alloc (by simp; omega) _, e1, e2, e3, OwnE.nil _ _ _ _⟩)
  obtain ⟨W0, hW0⟩ : ∃ W, W = ((w.alloc (.cells #[.int .i64 car, .slice a n c] 26)).alloc (.cells #[.int .i64 0, .slice none 0 0] 26)).alloc (.cells #[.int .i64 car, .slice none 0 0] 26) := ⟨_, rfl⟩
  rw [← hW0] at HA ⊢
  clear hW0
  rw [show w.heap.size + 1 + 1 = B from hBe.symm]
  have hB1 : w.heap.size + 1 < B := by omega
  have HBE := Lib.hid hBe
  clear hBe
  go_wp2
  go_loopw [4] (fun i wr => ∃ (k : Nat) (u : Value), k ≤ M ∧ i = .int .i64 k ∧ Hid (CutAt w B wr #[.int .i64 car, .slice a n c] car u ((xs.take k).map cutS))) (fun i _ => M - (intOf i).toNat)
  case atStart => exact ⟨0, _, by omega, rfl, HA⟩
  case round =>
    obtain ⟨k, u, hk, rfl, hA⟩ := hrel
    clear HA
    have HK := Lib.hid (HMM.out k hk)
    obtain ⟨XS, hXS⟩ : ∃ XS, XS = (xs.take k).map cutS := ⟨_, rfl⟩
    have hXl : XS.length = k := by
      rw [hXS, List.length_map, List.length_take, ← HN.out]
      omega
    have HXS := Lib.hid hXS
    rw [← hXS] at hA
    obtain ⟨ua, uc, hu⟩ := OwnE.form hA.out.2.2.2.2
    rw [scells_len, hXl] at hu
    subst hu
    clear hXS
    obtain ⟨c0, c1, cf⟩ := two_cells hA.out.2.2.2.1
    obtain ⟨p0, p1, pf⟩ := two_cells hA.out.2.1
    by_cases hlt : k < M
    · obtain ⟨hkn, hk12⟩ := HK.out.1 hlt
      obtain ⟨s, es⟩ : ∃ s, xs[k]? = some s := ⟨_, List.getElem?_eq_getElem (by rw [← HN.out]; exact hkn)⟩
      obtain ⟨bx, ox, rfl, hbx, cx0⟩ := HV3.out k s es
      have HT : Hid ((xs.take (k + 1)).map cutS = XS ++ [cutS s]) := Lib.hid (by rw [cut_take es, ← HXS.out])
      obtain ⟨q, hq⟩ : ∃ q : Nat, min (s.size : Int) 1001 = (q : Int) := ⟨min s.size 1001, by omega⟩
      have hq1 : (q : Int) ≤ (s.size : Int) := by omega
      have hq0 : (0 : Int) ≤ (q : Int) := by omega
      obtain ⟨E, hE⟩ : ∃ E, E = s.extract 0 q := ⟨_, rfl⟩
      have HE : Hid (cutS s = E) := Lib.hid (by
        have : q = min s.size 1001 := by omega
        rw [hE, this]
        rfl)
      rw [HE.out] at HT
      have HEE := Lib.hid hE.symm
      clear hE
      have t4 : (k : Int) < 4 := by omega
      have tkn : (k : Int) < (n : Int) := by omega
      have tk0 : (0 : Int) ≤ (k : Int) := by omega
      have hBw : B ≤ wr.heap.size := by
        have := (Array.getElem?_eq_some_iff.1 hA.out.2.2.2.1).1
        omega
      have HYC : Hid (∀ W, BoxKept wr B B (.cells #[.int .i64 car, .slice ua k uc] 26 (0, 0)) W → W.cell? ⟨B, 1, none⟩ = some (.slice ua k uc) ∧ W.cell? ⟨w.heap.size, 1, none⟩ = some (.slice (some ⟨bx, ox, none⟩) n c) ∧ W.cell? ⟨bx, ox + k, none⟩ = some (.string s)) := Lib.hid (fun W hW => ⟨(two_cells hW.2.2).2.1, cell_keepB hW.2.1 (by omega) p1, cell_keepB (hA.out.1.trans (hW.2.1.mono (by omega))) hbx cx0⟩)
      have HS0 : Hid (BoxKept wr B B (.cells #[.int .i64 car, .slice ua k uc] 26 (0, 0)) wr.drew) := Lib.hid ⟨hBw, Below.drew (Below.refl _ _), hA.out.2.2.2.1⟩
      have HOr := Lib.hid (OwnE.drewN hA.out.2.2.2.2 1)
      clear es cx0
      go_upto_region 5 with fail
      refine wp_region_noPanic ?_
      refine wp_region_lexF [.q 0, .q 1, .q 2, .q 3, .q 4, .q 5, .q 6, .q 7, .q 8, .q 9, .q 10, .q 11, .q 12, .q 13, .q 14, .an 15, .co 15, .b 16, .q 17, .l 18] (BoxKept wr B B (.cells #[.int .i64 car, .slice ua k uc] 26 (0, 0))) (by kernel_rfl) (by kernel_rfl) (fun _ _ _ _ h => h) BoxKept.more HS0.out ?_
      clear c0 c1 cf p0 p1 pf
      refine wpFl_qL (v := ?_) rfl (Or.inl ⟨by rfl, ?_⟩) ?_
      rotate_left
      focus (intro w' hSw; (try dsimp only [OldKept] at hSw); obtain ⟨k0, k1, k2⟩ := HYC.out w' hSw; go_simp; (try with_reducible rfl); done)
      simp only [Act.put, List.setIfInBounds_toArray, List.set_cons_zero, List.set_cons_succ]
      refine wpFl_qL (v := ?_) rfl (Or.inl ⟨by rfl, ?_⟩) ?_
      rotate_left
      focus (intro w' hSw; (try dsimp only [OldKept] at hSw); obtain ⟨k0, k1, k2⟩ := HYC.out w' hSw; go_simp; (try with_reducible rfl); done)
      simp only [Act.put, List.setIfInBounds_toArray, List.set_cons_zero, List.set_cons_succ]
      refine wpFl_qL (v := ?_) rfl (Or.inl ⟨by rfl, ?_⟩) ?_
      rotate_left
      focus (intro w' hSw; (try dsimp only [OldKept] at hSw); obtain ⟨k0, k1, k2⟩ := HYC.out w' hSw; go_simp; (try with_reducible rfl); done)
      simp only [Act.put, List.setIfInBounds_toArray, List.set_cons_zero, List.set_cons_succ]
      refine wpFl_qL (v := ?_) rfl (Or.inl ⟨by rfl, ?_⟩) ?_
      rotate_left
      focus (intro w' hSw; (try dsimp only [OldKept] at hSw); obtain ⟨k0, k1, k2⟩ := HYC.out w' hSw; go_simp; (try with_reducible rfl); done)
      simp only [Act.put, List.setIfInBounds_toArray, List.set_cons_zero, List.set_cons_succ]
      refine wpFl_qL (v := ?_) rfl (Or.inl ⟨by rfl, ?_⟩) ?_
      rotate_left
      focus (intro w' hSw; (try dsimp only [OldKept] at hSw); obtain ⟨k0, k1, k2⟩ := HYC.out w' hSw; go_simp; (try with_reducible rfl); done)
      simp only [Act.put, List.setIfInBounds_toArray, List.set_cons_zero, List.set_cons_succ]
      refine wpFl_qL (v := ?_) rfl (Or.inl ⟨by rfl, ?_⟩) ?_
      rotate_left
      focus (intro w' hSw; (try dsimp only [OldKept] at hSw); obtain ⟨k0, k1, k2⟩ := HYC.out w' hSw; go_simp; (try with_reducible rfl); done)
      simp only [Act.put, List.setIfInBounds_toArray, List.set_cons_zero, List.set_cons_succ]
      refine wpFl_qL (v := ?_) rfl (Or.inl ⟨by rfl, ?_⟩) ?_
      rotate_left
      focus (intro w' hSw; (try dsimp only [OldKept] at hSw); obtain ⟨k0, k1, k2⟩ := HYC.out w' hSw; go_simp; (try with_reducible rfl); done)
      simp only [Act.put, List.setIfInBounds_toArray, List.set_cons_zero, List.set_cons_succ]
      refine wpFl_qL (v := ?_) rfl (Or.inl ⟨by rfl, ?_⟩) ?_
      rotate_left
      focus (intro w' hSw; (try dsimp only [OldKept] at hSw); obtain ⟨k0, k1, k2⟩ := HYC.out w' hSw; go_simp; (try with_reducible rfl); done)
      simp only [Act.put, List.setIfInBounds_toArray, List.set_cons_zero, List.set_cons_succ]
      refine wpFl_qL (v := ?_) rfl (Or.inl ⟨by rfl, ?_⟩) ?_
      rotate_left
      focus (intro w' hSw; (try dsimp only [OldKept] at hSw); obtain ⟨k0, k1, k2⟩ := HYC.out w' hSw; go_simp; (try with_reducible rfl); done)
      simp only [Act.put, List.setIfInBounds_toArray, List.set_cons_zero, List.set_cons_succ]
      refine wpFl_qL (v := ?_) rfl (Or.inl ⟨by rfl, ?_⟩) ?_
      rotate_left
      focus (intro w' hSw; (try dsimp only [OldKept] at hSw); obtain ⟨k0, k1, k2⟩ := HYC.out w' hSw; go_simp; (try with_reducible rfl); done)
      simp only [Act.put, List.setIfInBounds_toArray, List.set_cons_zero, List.set_cons_succ]
      refine wpFl_qL (v := ?_) rfl (Or.inl ⟨by rfl, ?_⟩) ?_
      rotate_left
      focus (intro w' hSw; (try dsimp only [OldKept] at hSw); obtain ⟨k0, k1, k2⟩ := HYC.out w' hSw; go_simp; (try with_reducible rfl); done)
      simp only [Act.put, List.setIfInBounds_toArray, List.set_cons_zero, List.set_cons_succ]
      refine wpFl_qL (v := ?_) rfl (Or.inl ⟨by rfl, ?_⟩) ?_
      rotate_left
      focus (intro w' hSw; (try dsimp only [OldKept] at hSw); obtain ⟨k0, k1, k2⟩ := HYC.out w' hSw; go_simp; (try with_reducible rfl); done)
      simp only [Act.put, List.setIfInBounds_toArray, List.set_cons_zero, List.set_cons_succ]
      refine wpFl_qL (v := ?_) rfl (Or.inl ⟨by rfl, ?_⟩) ?_
      rotate_left
      focus (intro w' hSw; (try dsimp only [OldKept] at hSw); obtain ⟨k0, k1, k2⟩ := HYC.out w' hSw; go_simp; (try with_reducible rfl); done)
      simp only [Act.put, List.setIfInBounds_toArray, List.set_cons_zero, List.set_cons_succ]
      refine wpFl_qL (v := ?_) rfl (Or.inl ⟨by rfl, ?_⟩) ?_
      rotate_left
      focus (intro w' hSw; (try dsimp only [OldKept] at hSw); obtain ⟨k0, k1, k2⟩ := HYC.out w' hSw; go_simp; (try with_reducible rfl); done)
      simp only [Act.put, List.setIfInBounds_toArray, List.set_cons_zero, List.set_cons_succ]
      refine wpFl_qL (v := .string E) rfl (Or.inl ⟨by rfl, ?_⟩) ?_
      focus (intro w' hSw; go_simp; rw [HEE.out]; done)
      simp only [Act.put, List.setIfInBounds_toArray, List.set_cons_zero, List.set_cons_succ]
      refine wpFl_anL rfl (.cells #[.string E] 9 (0, 0)) (fun n => .slice (some ⟨n, 0, none⟩) 1 1) ⟨by rfl, fun w' => ?_⟩ ?_
      focus (go_simp; done)
      refine wpFl_coL rfl (.cells #[.string E] 9 (0, 0)) (fun n => .slice (some ⟨n, 0, none⟩) 1 1) (by rfl) (N' := []) (by rfl) (fun b7 w7 hn_w7 hs_w7 hb_b7 hz_b7 => ?_)
      simp only [Act.put, List.setIfInBounds_toArray, List.set_cons_zero, List.set_cons_succ]
      have HO7 := Lib.hid (OwnE.far HOr.out hn_w7 (Nat.le_refl _))
      have HS7 := Lib.hid (SS.one hz_b7)
      clear HOr hn_w7 hz_b7 hs_w7 hb_b7
      refine wpFl_bS rfl (fun w8 hn8 hs8 K hK => ?_)
      have HO8 := Lib.hid (OwnE.far HO7.out hn8 (Nat.le_refl _))
      have HS8 := Lib.hid (SS.below HS7.out hn8)
      refine step_append_strs rfl _ _ B (.slice ua k uc) XS [E] (.slice (some ⟨b7, 0, none⟩) 1 1) HO8.out HS8.out (by simp) (by rw [hXl]; simp; omega) (Nat.le_trans hBw hs8.size) rfl rfl rfl ?_
      intro v9 w9 hown9 hgr9
      have HK9 : Hid (BoxKept wr B B (.cells #[.int .i64 car, .slice ua k uc] 26 (0, 0)) w9) := Lib.hid ⟨hBw, Below.grown hs8.2.1 hgr9 (Nat.le_trans hBw hs8.size) (fun j e => OwnE.ge HO8.out j e), (hgr9.block B (Array.getElem?_eq_some_iff.1 hs8.2.2).1 (own_ne HO8.out hs8.2.2 (fun c e => by cases e))).trans hs8.2.2⟩
      refine hK.out _ _ HK9.out (Nat.le_trans hs8.size hgr9.size) Keeps.nil ?_
      obtain ⟨a9, c9, hv9⟩ := OwnE.form hown9
      rw [scells_len, List.length_append, hXl] at hv9
      have hv9 : v9 = .slice a9 (k + 1) c9 := hv9
      subst hv9
      have HO9 := Lib.hid hown9
      clear hK K HO7 HO8 HS7 HS8 hn8 hs8 hown9 hgr9
      simp only [Act.put, List.setIfInBounds_toArray, List.set_cons_zero, List.set_cons_succ]
      refine wpFl_qL (v := ?_) rfl (Or.inl ⟨by rfl, ?_⟩) ?_
      rotate_left
      focus (intro w' hSw; (try dsimp only [OldKept] at hSw); go_simp; (try with_reducible rfl); done)
      simp only [Act.put, List.setIfInBounds_toArray, List.set_cons_zero, List.set_cons_succ]
      refine wpFl_lL rfl (fun w10 hn10 hs10 K hK => ?_)
      have HO10 := Lib.hid (OwnE.far HO9.out hn10 (Nat.le_refl _))
      obtain ⟨z0, z1, zf⟩ := two_cells hs10.2.2
      have HN10 : Hid (CutAt w B (w10.setCell ⟨B, 1, none⟩ (.slice a9 (k + 1) c9)) #[.int .i64 car, .slice (some ⟨bx, ox, none⟩) n c] car (.slice a9 (k + 1) c9) (XS ++ [E])) := Lib.hid (by
        have hB : Below w.heap.size w w10 := hA.out.1.trans (hs10.2.1.mono (by omega))
        refine ⟨hB.setCell (p := ⟨B, 1, none⟩) (by show w.heap.size ≤ B; omega) _, (Below.heap_setCell _ _ _ _ (by show w.heap.size ≠ B; omega)).trans ((hs10.2.1.block _ (by omega)).trans hA.out.2.1), (Below.heap_setCell _ _ _ _ (by show w.heap.size + 1 ≠ B; omega)).trans ((hs10.2.1.block _ (by omega)).trans hA.out.2.2.1), heap_setCell_same (i := 1) (.slice a9 (k + 1) c9) hs10.2.2, ?_⟩
        exact OwnE.grownT HO10.out hs10.2.2 (fun c e => by cases e) (grown_setCell (grown_refl _ _) ⟨B, 1, none⟩ (.inl rfl) _))
      clear HO9 HO10 HK9
      go_simp
      refine hK.out _ _ (NoPanic.normal ?_)
      clear hK K z0 z1 zf hs10 hn10 HYC HS0
      go_wp2
      go_roundw
      case rel => exact ⟨k + 1, _, by omega, by go_num, Lib.hid (by rw [HT.out]; exact HN10.out)⟩
      case measure => simp [intOf]; omega
    · have ek : k = M := by omega
      subst ek
      have HOX : Hid (XS = cutL xs) := Lib.hid (by rw [HXS.out, HME.out])
      obtain ⟨r0, r1, rf⟩ := two_cells hA.out.2.2.1
      have HF2 := Lib.hid (two_heap hA.out.2.2.1 (.int .i64 car) (.slice ua k uc))
      have HB2 := Lib.hid (two_below hA.out.1 (Nat.le_succ _) (.int .i64 car) (.slice ua k uc))
      have HS2 := Lib.hid (OwnE.mono (OwnS.two hA.out.2.2.2.2 hA.out.2.2.1 (by decide) (.int .i64 car) (.slice ua k uc)) (base' := w.heap.size) (by omega))
      by_cases hkn : k < n
      · have h12 : ¬ k < 4 := fun h => by have := HK.out.2 ⟨hkn, h⟩; omega
        have t12 : ¬ (k : Int) < 4 := by omega
        have tkn : (k : Int) < (n : Int) := by omega
        go_wp2
        exact bodyPost_ret (results_cell_row rfl _ _ (w.heap.size + 1) 26 #[.int .i64 car, .slice ua k uc] (0, 0) _ rfl HF2.out Tryz.underlying26 rfl infoReg) rfl ⟨_, rfl, by rw [← HOX.out]; exact HS2.out, HB2.out⟩
      · have tkn : ¬ (k : Int) < (n : Int) := by omega
        go_wp2
        exact bodyPost_ret (results_cell_row rfl _ _ (w.heap.size + 1) 26 #[.int .i64 car, .slice ua k uc] (0, 0) _ rfl HF2.out Tryz.underlying26 rfl infoReg) rfl ⟨_, rfl, by rw [← HOX.out]; exact HS2.out, HB2.out⟩
end Go.Proofs.YtinfpbkbnhcifaaGreatDoor

/- Sign and Grown of package register in one form each; own rows of heads and of proofs. The conditions: what the slices read as, what the rows hold. -/
namespace Go.Proofs.YtinfpbkbnhcifaaGreatDoor
open Go.RowKit Go.BigFrame

theorem signZ_none {key : ByteArray} {r : RegP} {n : Int} (h : signB key r n = none) : headV (signZ key r n) = headZ ∧ signE key r n = 180 := by
  unfold signZ signE
  rw [h]
  exact ⟨rfl, rfl⟩
theorem signZ_some {key : ByteArray} {r : RegP} {n : Int} {h : HeadP} (e : signB key r n = some h) : signZ key r n = h ∧ signE key r n = 0 := by
  unfold signZ signE
  rw [e]
  exact ⟨rfl, rfl⟩
/-- Sign. -/
theorem sign_all (key : ByteArray) (car n : Int) {w : World} {v : Value} {xs : List ByteArray} (hv : SS w v xs) (he : Env w) (hg : 0 < w.heap.size) :
    Calls Tryz.prog 33 #[.string key, .agg #[.int .i64 car, v], .int .i64 n] w fun e w' => e = .returned (.tuple #[headV (signZ key ⟨car, xs⟩ n), .int .i64 (signE key ⟨car, xs⟩ n)]) ∧ Below w.heap.size w w' := by
  cases e : signB key ⟨car, xs⟩ n with
  | none =>
    obtain ⟨h1, h2⟩ := signZ_none e
    rw [h1, h2]
    exact sign_no hv e
  | some h =>
    obtain ⟨h1, h2⟩ := signZ_some e
    rw [h1, h2]
    unfold signB at e
    split at e
    · rename_i hc
      injection e with e
      obtain ⟨k, rfl⟩ := Int.eq_ofNat_of_zero_le hc.2.2.1
      have h3 := sign_yes (n := k) hv hc.1 hc.2.1 (by have : (k : Int) ≤ (xs.length : Int) := hc.2.2.2; omega) he hg
      have h4 : h = headS key car xs k := e.symm
      rw [h4]
      exact h3
    · cases e
/-- Grown. -/
def GrownIs (w : World) (zs : List ByteArray) (err : Int) (e : Ending) (w' : World) : Prop := ∃ v', e = .returned (.tuple #[v', .int .i64 err]) ∧ SS w' v' zs ∧ Below w.heap.size w w'
theorem grown_all (car m n : Int) {w : World} {v : Value} {xs : List ByteArray} (hv : SS w v xs) (he : Env w) (hg : 0 < w.heap.size) :
    Calls Tryz.prog 34 #[.agg #[.int .i64 car, v], .int .i64 m, .int .i64 n] w (GrownIs w (grownZ ⟨car, xs⟩ m n) (grownE ⟨car, xs⟩ m n)) := by
  unfold grownZ grownE
  cases e : grownB ⟨car, xs⟩ m n with
  | none =>
    refine (grown_no hv e).mono ?_
    rintro e w' ⟨rfl, h2⟩
    exact ⟨.slice none 0 0, rfl, SliceAt.nil _ _, h2⟩
  | some zs =>
    unfold grownB at e
    split at e
    · rename_i hc
      injection e with e
      obtain ⟨k, rfl⟩ := Int.eq_ofNat_of_zero_le hc.2.1.1
      obtain ⟨j, rfl⟩ := Int.eq_ofNat_of_zero_le hc.2.2.1
      have h3 := grown_yes (m := j) (n := k) hv hc.1 (by have : (k : Int) ≤ (xs.length : Int) := hc.2.1.2; omega) (by have := hc.2.2.2; omega) he hg
      refine h3.mono ?_
      rintro e' w' ⟨v', rfl, h5, h6⟩
      refine ⟨v', rfl, ?_, h6⟩
      simp only [Option.getD_some]
      rw [← e]
      exact h5
    · cases e

/-- Heads in a row. -/
def hdcells (hs : List HeadP) : List (List Value) := hs.map fun h => [.int .i64 h.car, .int .i64 h.siz, .string h.root, .string h.sl]
theorem hdcells_len (hs : List HeadP) : (hdcells hs).length = hs.length := List.length_map ..
theorem hdcells_four (hs : List HeadP) : ∀ c ∈ hdcells hs, c.length = 4 := by
  intro c hc
  unfold hdcells at hc
  obtain ⟨z, _, rfl⟩ := List.mem_map.1 hc
  rfl
theorem infoHead3 : (Tryz.prog.info? 35).map (fun i => (i.zero, i.size, i.bytes)) = some (some headZ, 4, 48) := by kernel_rfl
/-- Slices of strings in a row. -/
def prcells (ps : List (List ByteArray × Value)) : List (List Value) := ps.map fun y => [y.2]
theorem prcells_len (ps : List (List ByteArray × Value)) : (prcells ps).length = ps.length := List.length_map ..
theorem prcells_one (ps : List (List ByteArray × Value)) : ∀ c ∈ prcells ps, c.length = 1 := by
  intro c hc
  unfold prcells at hc
  obtain ⟨z, _, rfl⟩ := List.mem_map.1 hc
  rfl
theorem infoStrs3 : (Tryz.prog.info? 24).map (fun i => (i.zero, i.size, i.bytes)) = some (some (.slice none 0 0), 1, 24) := by kernel_rfl
section
variable {ops : Array Oper} {rest : List Oper} {o : Oper} {a : Act} {w : World} {Q : Exit → Act → World → Prop}
theorem wpList_append_head (s x : Operand) (base : Nat) (v : Value) (zs : List HeadP) (b : Nat) (z : HeadP) (fr : Nat × Nat) (hown : OwnE w base 35 4 v (hdcells zs)) (hlen : zs.length ≤ 100000) (hbase : base ≤ w.heap.size)
    (hb : w.heap[b]? = some (.cells #[.int .i64 z.car, .int .i64 z.siz, .string z.root, .string z.sl] 35 fr)) (hgd : o.guard = none) (ho : o.op = .call { callee := .builtin .append, args := #[s, x], argTypes := #[79, 79] }) (hs : a.eval s = v) (hx : a.eval x = .slice (some ⟨b, 0, none⟩) 1 1)
    (h : ∀ v' w', OwnE w' base 35 4 v' (hdcells (zs ++ [z])) → w.grownBy w' v.ownBlock → wpList Tryz.prog ops Q rest (a.put o.dst v') w') : wpList Tryz.prog ops Q (o :: rest) a w :=
  wpList_append_el 79 35 4 48 _ (by kernel_rfl) infoHead3 rfl (by decide) hgd s x ho base v (hdcells zs) hs hown b [.int .i64 z.car, .int .i64 z.siz, .string z.root, .string z.sl] rfl (fun u hu => by simp at hu; rcases hu with rfl | rfl | rfl | rfl <;> rfl) hx fr hb
    (by rw [hdcells_len]; unfold maxLen; omega) (by rw [hdcells_len]; omega) hbase fun v' w' h1 h2 => h v' w' (by unfold hdcells; rw [List.map_append]; exact h1) h2
theorem wpList_append_proof (s x : Operand) (base : Nat) (v : Value) (zs : List (List ByteArray × Value)) (b : Nat) (z : List ByteArray × Value) (fr : Nat × Nat) (hown : OwnE w base 24 1 v (prcells zs)) (hlen : zs.length ≤ 100000) (hbase : base ≤ w.heap.size) (hz1 : z.2.oneCell' = true)
    (hb : w.heap[b]? = some (.cells #[z.2] 24 fr)) (hgd : o.guard = none) (ho : o.op = .call { callee := .builtin .append, args := #[s, x], argTypes := #[65, 65] }) (hs : a.eval s = v) (hx : a.eval x = .slice (some ⟨b, 0, none⟩) 1 1)
    (h : ∀ v' w', OwnE w' base 24 1 v' (prcells (zs ++ [z])) → w.grownBy w' v.ownBlock → wpList Tryz.prog ops Q rest (a.put o.dst v') w') : wpList Tryz.prog ops Q (o :: rest) a w :=
  wpList_append_el 65 24 1 24 _ (by kernel_rfl) infoStrs3 rfl (by decide) hgd s x ho base v (prcells zs) hs hown b [z.2] rfl (fun u hu => by simp at hu; subst hu; exact hz1) hx fr hb
    (by rw [prcells_len]; unfold maxLen; omega) (by rw [prcells_len]; omega) hbase fun v' w' h1 h2 => h v' w' (by unfold prcells; rw [List.map_append]; exact h1) h2
end
end Go.Proofs.YtinfpbkbnhcifaaGreatDoor

/- slices.Clone at strings. The conditions: what the slice reads as, lengths. -/
namespace Go.Proofs.YtinfpbkbnhcifaaGreatDoor
open Go.RowKit Go.BigFrame

theorem clone_any {w : World} {v : Value} {xs : List ByteArray} (hv : SS w v xs) (hl : xs.length ≤ 100000) : Calls Tryz.prog 79 #[v] w fun e w' => ∃ v', e = .returned v' ∧ OwnS w' w.heap.size v' xs ∧ Below w.heap.size w w' := by
  obtain ⟨a, c, rfl, l1, l2, l3⟩ := hv.opened
  cases a with
  | none =>
    have h0 : xs = [] := by
      cases xs with
      | nil => rfl
      | cons x xs => obtain ⟨b, off, e, _⟩ := l3 0 x rfl; cases e
    subst h0
    exact (Tryz.slices_Clone_string_nil 0 c w).mono fun e w' ⟨h1, h2⟩ => by subst h2; exact ⟨_, h1, OwnE.nil _ _ _ _, Below.refl _ _⟩
  | some a =>
    rcases Nat.eq_zero_or_pos xs.length with h0 | h0
    · have h0 : xs = [] := List.eq_nil_of_length_eq_zero h0
      subst h0
      exact (Tryz.slices_Clone_string_zero a c w).mono fun e w' ⟨v', h1, h2, _, h4⟩ => ⟨v', h1, h2, h4⟩
    · obtain ⟨b, off, e, hb, _⟩ := l3 0 _ (List.getElem?_eq_getElem h0)
      cases e
      refine (Tryz.slices_Clone_string b off xs.length c xs w (Nat.le_refl _) (by omega) (fun j hj => ?_)).mono fun e w' ⟨v', h1, h2, _, h4⟩ => ⟨v', h1, ?_, h4⟩
      · obtain ⟨b', off', e, _, hc⟩ := l3 j _ (List.getElem?_eq_getElem hj)
        cases e
        rw [hc, List.getD_eq_getElem?_getD, List.getElem?_eq_getElem hj]
        rfl
      · rw [List.take_length] at h2
        unfold OwnS OwnE
        rw [scells_len, scells_flat]
        exact h2
end Go.Proofs.YtinfpbkbnhcifaaGreatDoor

/- The walk of register.Append. The conditions: what the slice reads as, its length. -/
namespace Go.Proofs.YtinfpbkbnhcifaaGreatDoor
open Go.RowKit Go.BigFrame

set_option maxHeartbeats 8000000 in
set_option maxRecDepth 100000 in
theorem append_b (b : Bool) (car : Int) {w : World} {v : Value} {xs : List ByteArray} (ent : ByteArray) (hvb : Hid (validB ⟨car, xs ++ [ent]⟩ = b)) (hv : SS w v xs) (hl : xs.length ≤ 1000) :
    Calls Tryz.prog 42 #[.agg #[.int .i64 car, v], .string ent] w fun e w' =>
      (if b = true then ∃ v', e = .returned (.tuple #[.agg #[.int .i64 car, v'], .int .i64 0]) ∧ SS w' v' (xs ++ [ent]) else e = .returned (.tuple #[.agg #[.int .i64 0, .slice none 0 0], .int .i64 180])) ∧ Below w.heap.size w w' := by
  obtain ⟨a, c, rfl, l1, l2, l3⟩ := hv.opened
  have HV := Lib.hid hv
  have HL := Lib.hid hl
  clear l3 hv hl
  generalize hn : xs.length = n at *
  have HN := Lib.hid hn
  clear hn
  go_enter Tryz.func42, Tryz.ntmps42
  go_upto_region 1 with fail
  have HB1 : Hid (Below w.heap.size w ((w.alloc (.cells #[.int .i64 car, .slice a n c] 26)).alloc (.cells #[.int .i64 0, .slice none 0 0] 26))) := Lib.hid (((Below.refl _ _).alloc (Nat.le_refl _) _).alloc (by simp) _)
  have HX1 : Hid (((w.alloc (.cells #[.int .i64 car, .slice a n c] 26)).alloc (.cells #[.int .i64 0, .slice none 0 0] 26)).heap[w.heap.size]? = some (.cells #[.int .i64 car, .slice a n c] 26 (0, 0))) := Lib.hid (at_past w _ _)
  have HR1 : Hid (((w.alloc (.cells #[.int .i64 car, .slice a n c] 26)).alloc (.cells #[.int .i64 0, .slice none 0 0] 26)).heap[w.heap.size + 1]? = some (.cells #[.int .i64 0, .slice none 0 0] 26 (0, 0))) := Lib.hid (at_second w _ _)
  obtain ⟨w1, hw1⟩ : ∃ W, W = (w.alloc (.cells #[.int .i64 car, .slice a n c] 26)).alloc (.cells #[.int .i64 0, .slice none 0 0] 26) := ⟨_, rfl⟩
  rw [← hw1] at HB1 HX1 HR1 ⊢
  clear hw1
  have HCl : Hid (∀ W, Below w1.heap.size w1 W → Calls Tryz.prog 79 #[.slice a n c] W fun e w' => ∃ v', e = .returned v' ∧ OwnS w' W.heap.size v' xs ∧ Below W.heap.size W w') := Lib.hid (fun W hW => clone_any (HV.out.below (HB1.out.trans (hW.mono HB1.out.size))) (by rw [HN.out]; have := HL.out; omega))
  have HKP : Hid (∀ W, Below w1.heap.size w1 W → W.cell? ⟨w.heap.size, 0, none⟩ = some (.int .i64 car) ∧ W.cell? ⟨w.heap.size, 1, none⟩ = some (.slice a n c)) := Lib.hid (fun W hW => by
    have h := kept_block HX1.out hW
    exact ⟨(two_cells h).1, (two_cells h).2.1⟩)
  refine wp_region_noPanic ?_
  refine wp_region_lexB [.q 0, .q 1, .q 2, .q 3, .q 5, .an 9, .an 6, .b 4, .co 6, .b 7, .q 8, .co 9, .b 10] (by kernel_rfl) (by kernel_rfl) (fun _ _ _ _ h => h) ?_
  refine wpFl_qL (v := ?_) rfl (Or.inl ⟨by rfl, ?_⟩) ?_
  rotate_left
  focus (intro w' hSw; (try dsimp only [OldKept] at hSw); obtain ⟨k0, k1⟩ := HKP.out w' hSw; go_simp; (try with_reducible rfl); done)
  simp only [Act.put, List.setIfInBounds_toArray, List.set_cons_zero, List.set_cons_succ]
  refine wpFl_qL (v := ?_) rfl (Or.inl ⟨by rfl, ?_⟩) ?_
  rotate_left
  focus (intro w' hSw; (try dsimp only [OldKept] at hSw); obtain ⟨k0, k1⟩ := HKP.out w' hSw; go_simp; (try with_reducible rfl); done)
  simp only [Act.put, List.setIfInBounds_toArray, List.set_cons_zero, List.set_cons_succ]
  refine wpFl_qL (v := ?_) rfl (Or.inl ⟨by rfl, ?_⟩) ?_
  rotate_left
  focus (intro w' hSw; (try dsimp only [OldKept] at hSw); obtain ⟨k0, k1⟩ := HKP.out w' hSw; go_simp; (try with_reducible rfl); done)
  simp only [Act.put, List.setIfInBounds_toArray, List.set_cons_zero, List.set_cons_succ]
  refine wpFl_qL (v := ?_) rfl (Or.inl ⟨by rfl, ?_⟩) ?_
  rotate_left
  focus (intro w' hSw; (try dsimp only [OldKept] at hSw); obtain ⟨k0, k1⟩ := HKP.out w' hSw; go_simp; (try with_reducible rfl); done)
  simp only [Act.put, List.setIfInBounds_toArray, List.set_cons_zero, List.set_cons_succ]
  refine wpFl_qL (v := ?_) rfl (Or.inl ⟨by rfl, ?_⟩) ?_
  rotate_left
  focus (intro w' hSw; (try dsimp only [OldKept] at hSw); obtain ⟨k0, k1⟩ := HKP.out w' hSw; go_simp; (try with_reducible rfl); done)
  simp only [Act.put, List.setIfInBounds_toArray, List.set_cons_zero, List.set_cons_succ]
  refine wpFl_anL rfl (.cells #[.int .i64 0, .slice none 0 0] 26 (0, 0)) (fun n => .pointer (some ⟨n, 0, none⟩)) ⟨by rfl, fun w' => ?_⟩ ?_
  focus (go_simp; done)
  refine wpFl_anL rfl (.cells #[.string ent] 9 (0, 0)) (fun n => .slice (some ⟨n, 0, none⟩) 1 1) ⟨by rfl, fun w' => ?_⟩ ?_
  focus (go_simp; done)
  refine wpFl_bL rfl (fun w4 hn4 hs4 K hK => ?_)
  go_simp
  go_at_call 79
  refine (HCl.out _ hs4).mono ?_
  rintro e w5 ⟨v5, rfl, ho5, hb5⟩
  have HO5 : Hid (OwnS w5 w1.heap.size v5 xs) := Lib.hid (OwnE.mono ho5 hs4.size)
  refine hK.out _ _ (below_next hs4 hb5) (Keeps.below hb5) ?_
  clear hK K
  refine wpFl_coL rfl (.cells #[.string ent] 9 (0, 0)) (fun n => .slice (some ⟨n, 0, none⟩) 1 1) (by rfl) (N' := [(9, .cells #[.int .i64 0, .slice none 0 0] 26 (0, 0), fun n => .pointer (some ⟨n, 0, none⟩))]) (by rfl) (fun b6 w6 hn_w6 hs_w6 hb_b6 hz_b6 => ?_)
  simp only [Act.put, List.setIfInBounds_toArray, List.set_cons_zero, List.set_cons_succ]
  have HO6 := Lib.hid (OwnE.far HO5.out hn_w6 (Nat.le_refl _))
  have HS6 := Lib.hid (SS.one hz_b6)
  clear HO5 ho5 hb5 hn4 hs4 hz_b6 hn_w6 hs_w6 hb_b6
  refine wpFl_bL rfl (fun w7 hn7 hs7 K hK => ?_)
  have HO7 := Lib.hid (OwnE.far HO6.out hn7 (Nat.le_refl _))
  have HS7 := Lib.hid (SS.below HS6.out hn7)
  refine step_append_strs rfl _ _ w1.heap.size v5 xs [ent] (.slice (some ⟨b6, 0, none⟩) 1 1) HO7.out HS7.out (by simp) (by rw [HN.out]; have := HL.out; simp; omega) hs7.size rfl rfl rfl ?_
  intro v8 w8 hown8 hgr8
  have HB8 : Hid (Below w1.heap.size w1 w8) := Lib.hid (Below.grown hs7 hgr8 hs7.size (fun j e => OwnE.ge HO7.out j e))
  refine hK.out _ _ HB8.out (Keeps.own HO7.out hgr8 (by intro x hx c e; rw [List.mem_singleton.1 hx] at e; cases e)) ?_
  clear hK K
  obtain ⟨a8, c8, hv8⟩ := OwnE.form hown8
  rw [scells_len, List.length_append, HN.out] at hv8
  have hv8 : v8 = .slice a8 (n + 1) c8 := hv8
  subst hv8
  have HO8 := Lib.hid hown8
  clear HO6 HO7 HS6 HS7 hown8 hgr8 hn7 hs7
  simp only [Act.put, List.setIfInBounds_toArray, List.set_cons_zero, List.set_cons_succ]
  refine wpFl_qL (v := ?_) rfl (Or.inl ⟨by rfl, ?_⟩) ?_
  rotate_left
  focus (intro w' hSw; (try dsimp only [OldKept] at hSw); go_simp; (try with_reducible rfl); done)
  simp only [Act.put, List.setIfInBounds_toArray, List.set_cons_zero, List.set_cons_succ]
  refine wpFl_coL rfl (.cells #[.int .i64 0, .slice none 0 0] 26 (0, 0)) (fun n => .pointer (some ⟨n, 0, none⟩)) (by rfl) (N' := []) (by rfl) (fun b9 w9 hn_w9 hs_w9 hb_b9 hz_b9 => ?_)
  simp only [Act.put, List.setIfInBounds_toArray, List.set_cons_zero, List.set_cons_succ]
  have HO9 := Lib.hid (OwnE.far HO8.out hn_w9 (Nat.le_refl _))
  clear HO8 hn_w9 hs_w9
  refine wpFl_bL rfl (fun w10 hn10 hs10 K hK => ?_)
  have HO10 := Lib.hid (OwnE.far HO9.out hn10 (Nat.le_refl _))
  have HZ10 := Lib.hid (kept_block hz_b9 hn10)
  obtain ⟨z0, z1, zf⟩ := two_cells HZ10.out
  clear HO9 hz_b9
  go_simp
  refine hK.out _ _ (two_below hs10 hb_b9 _ _) Keeps.nil ?_
  clear hK K
  have HF := Lib.hid (two_heap HZ10.out (.int .i64 car) (.slice a8 (n + 1) c8))
  have HO := Lib.hid (OwnS.two HO10.out HZ10.out (by decide) (.int .i64 car) (.slice a8 (n + 1) c8))
  have HBW : Hid (Below w.heap.size w ((w10.setCell ⟨b9, 0, none⟩ (.int .i64 car)).setCell ⟨b9, 1, none⟩ (.slice a8 (n + 1) c8))) := Lib.hid (HB1.out.trans ((two_below hs10 hb_b9 _ _).mono HB1.out.size))
  have HRW := Lib.hid (kept_block HR1.out (two_below hs10 hb_b9 (.int .i64 car) (.slice a8 (n + 1) c8)))
  generalize (w10.setCell ⟨b9, 0, none⟩ (.int .i64 car)).setCell ⟨b9, 1, none⟩ (.slice a8 (n + 1) c8) = W at *
  clear HO10 HZ10 z0 z1 zf hn10 hs10 hb_b9 HKP HCl HB8 HB1 HX1 HR1 HV
  refine wpFl_nil ?_
  refine NoPanic.normal ?_
  have HVa := Lib.hid (valid_any car HO.out.ss)
  rw [hvb.out] at HVa
  have HSS := Lib.hid (SS.below HO.out.ss ((Below.refl _ W).alloc (Nat.le_refl _) (.cells #[.int .i64 car, .slice a8 (n + 1) c8] 26)))
  have HBA := Lib.hid (HBW.out.alloc HBW.out.size (.cells #[.int .i64 car, .slice a8 (n + 1) c8] 26))
  have HFA := Lib.hid (alloc_at (o' := .cells #[.int .i64 car, .slice a8 (n + 1) c8] 26) HF.out)
  have HRA := Lib.hid (alloc_at (o' := .cells #[.int .i64 car, .slice a8 (n + 1) c8] 26) HRW.out)
  obtain ⟨g0, g1, _⟩ := two_cells HF.out
  obtain ⟨f0, f1, _⟩ := two_cells HFA.out
  obtain ⟨r0, r1, rf⟩ := two_cells HRA.out
  have hsz : w.heap.size ≤ w.heap.size + 1 := Nat.le_succ _
  cases b with
  | false =>
    have HF2 := Lib.hid (two_heap HRA.out (.int .i64 0) (.slice none 0 0))
    have HB2 := Lib.hid (two_below HBA.out hsz (.int .i64 0) (.slice none 0 0))
    go_wp2_with (go_at_call 44; refine HVa.out.mono ?_; rintro e w11 ⟨rfl, hw11⟩; subst hw11)
    exact bodyPost_ret (results_cellA_tmp rfl _ (w.heap.size + 1) 26 #[.int .i64 0, .slice none 0 0] (0, 0) _ rfl HF2.out Tryz.underlying26 rfl infoReg) rfl ⟨rfl, HB2.out⟩
  | true =>
    have HF2 := Lib.hid (two_heap HRA.out (.int .i64 car) (.slice a8 (n + 1) c8))
    have HB2 := Lib.hid (two_below HBA.out hsz (.int .i64 car) (.slice a8 (n + 1) c8))
    have HS2 := Lib.hid (OwnS.two (OwnE.alloc HO.out (.cells #[.int .i64 car, .slice a8 (n + 1) c8] 26)) HRA.out (by decide) (.int .i64 car) (.slice a8 (n + 1) c8))
    go_wp2_with (go_at_call 44; refine HVa.out.mono ?_; rintro e w11 ⟨rfl, hw11⟩; subst hw11)
    exact bodyPost_ret (results_cellA_tmp rfl _ (w.heap.size + 1) 26 #[.int .i64 car, .slice a8 (n + 1) c8] (0, 0) _ rfl HF2.out Tryz.underlying26 rfl infoReg) rfl ⟨⟨_, rfl, HS2.out.ss⟩, HB2.out⟩
theorem append_any (car : Int) {w : World} {v : Value} {xs : List ByteArray} (ent : ByteArray) (hv : SS w v xs) (hl : xs.length ≤ 1000) :
    Calls Tryz.prog 42 #[.agg #[.int .i64 car, v], .string ent] w fun e w' =>
      (if validB ⟨car, xs ++ [ent]⟩ = true then ∃ v', e = .returned (.tuple #[.agg #[.int .i64 car, v'], .int .i64 0]) ∧ SS w' v' (xs ++ [ent]) else e = .returned (.tuple #[.agg #[.int .i64 0, .slice none 0 0], .int .i64 180])) ∧ Below w.heap.size w w' :=
  append_b _ car ent (Lib.hid rfl) hv hl
end Go.Proofs.YtinfpbkbnhcifaaGreatDoor
