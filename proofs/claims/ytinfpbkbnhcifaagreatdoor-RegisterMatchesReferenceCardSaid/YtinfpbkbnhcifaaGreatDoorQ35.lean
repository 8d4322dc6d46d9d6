/- The reference's Sign. The conditions: what the slices read as, lengths. -/
import Derived.Test.YtinfpbkbnhcifaaGreatDoorQ34
namespace Go.Proofs.YtinfpbkbnhcifaaGreatDoor
open Go.RowKit Go.BigFrame

theorem qheap {W : World} {b : Nat} {c0 c1 c2 c3 : Value} {T : TypeId} (h : W.heap[b]? = some (.cells #[c0, c1, c2, c3] T (0, 0))) (v0 v1 v2 v3 : Value) :
    ((((W.setCell ⟨b, 0, none⟩ v0).setCell ⟨b, 1, none⟩ v1).setCell ⟨b, 2, none⟩ v2).setCell ⟨b, 3, none⟩ v3).heap[b]? = some (.cells #[v0, v1, v2, v3] T (0, 0)) := by
  have h0 := heap_setCell_same (i := 0) v0 h
  have h1 := heap_setCell_same (i := 1) v1 h0
  have h2 := heap_setCell_same (i := 2) v2 h1
  exact heap_setCell_same (i := 3) v3 h2
theorem qbelow {w W : World} {b B : Nat} (h : Below B w W) (hb : B ≤ b) (v0 v1 v2 v3 : Value) : Below B w ((((W.setCell ⟨b, 0, none⟩ v0).setCell ⟨b, 1, none⟩ v1).setCell ⟨b, 2, none⟩ v2).setCell ⟨b, 3, none⟩ v3) :=
  (((h.setCell (p := ⟨b, 0, none⟩) hb v0).setCell (p := ⟨b, 1, none⟩) hb v1).setCell (p := ⟨b, 2, none⟩) hb v2).setCell (p := ⟨b, 3, none⟩) hb v3
theorem free_of {W : World} {b : Nat} {cs : Array Value} {T : TypeId} (h : W.heap[b]? = some (.cells cs T (0, 0))) (j : Nat) : W.frozen? ⟨b, j, none⟩ = false := by unfold World.frozen?; rw [h]; simp

set_option maxHeartbeats 8000000 in
set_option maxRecDepth 100000 in
theorem rsign_any (key : ByteArray) (car n : Int) {w : World} {v : Value} {xs : List ByteArray} (hv : SS w v xs) :
    Calls Tryz.prog 47 #[.string key, .agg #[.int .i64 car, v], .int .i64 n] w fun e w' => e = .returned (.tuple #[headV (signZ key ⟨car, xs⟩ n), .int .i64 (signE key ⟨car, xs⟩ n)]) ∧ Below w.heap.size w w' := by
  obtain ⟨a, c, hva⟩ := hv.form2
  have hcap : xs.length ≤ c := by
    obtain ⟨a', c', e, h1, _⟩ := hv.opened
    rw [hva] at e
    injection e with _ _ e3
    omega
  subst hva
  have HVL := Lib.hid (fun W (hW : Below w.heap.size w W) => rvalid_any car (SS.below hv hW))
  have HI1 := Lib.hid (fun W => rin_any n 0 (xs.length : Int) W)
  have HCUT := Lib.hid (fun (k : Nat) (hk : k ≤ xs.length) W (hW : Below w.heap.size w W) => (SS.below hv hW).cut k hk)
  have HNO : Hid (¬ (key.size = 32 ∧ validB ⟨car, xs⟩ = true ∧ 0 ≤ n ∧ n ≤ (xs.length : Int)) → headV (signZ key ⟨car, xs⟩ n) = .agg #[.int .i64 0, .int .i64 0, .string ⟨#[]⟩, .string ⟨#[]⟩] ∧ signE key ⟨car, xs⟩ n = 180) := Lib.hid (fun h => by
    have e : signB key ⟨car, xs⟩ n = none := by unfold signB; rw [if_neg h]
    unfold signZ signE
    rw [e]
    exact ⟨rfl, rfl⟩)
  have HYS : Hid (key.size = 32 → validB ⟨car, xs⟩ = true → (0 ≤ n ∧ n ≤ (xs.length : Int)) → headV (signZ key ⟨car, xs⟩ n) = .agg #[.int .i64 car, .int .i64 n, .string (rootB (xs.take n.toNat)), .string (signedB key ⟨car, n, rootB (xs.take n.toNat), ⟨#[]⟩⟩)] ∧ signE key ⟨car, xs⟩ n = 0) := Lib.hid (fun h0 h1 h2 => by
    have e : signB key ⟨car, xs⟩ n = some (headS key car xs n.toNat) := by unfold signB; rw [if_pos ⟨h0, h1, h2⟩]
    unfold signZ signE
    rw [e]
    have e2 : (n.toNat : Int) = n := by omega
    unfold headS headV
    simp only [Option.getD_some, e2]
    exact ⟨trivial, by simp⟩)
  have HVP : Hid (validB ⟨car, xs⟩ = true → 0 ≤ car ∧ car ≤ 7 ∧ xs.length ≤ 60 ∧ ∀ s ∈ xs, s.size ≤ 1000) := Lib.hid (fun h => valid_parts h)
  generalize headV (signZ key ⟨car, xs⟩ n) = Z at *
  generalize signE key ⟨car, xs⟩ n = ER at *
  generalize validB ⟨car, xs⟩ = V at *
  obtain ⟨l, hl⟩ : ∃ l, l = xs.length := ⟨_, rfl⟩
  rw [← hl] at hcap HVL HI1 HNO HYS HVP HCUT ⊢
  have HLN := Lib.hid hl
  clear hl hv
  obtain ⟨W0, hW0⟩ : ∃ W0, W0 = (w.alloc (.cells #[.int .i64 car, .slice a l c] 26)).alloc (.cells #[.int .i64 0, .int .i64 0, .string ⟨#[]⟩, .string ⟨#[]⟩] 35) := ⟨_, rfl⟩
  have HB0 : Hid (Below w.heap.size w W0) := Lib.hid (by rw [hW0]; exact ((Below.refl _ _).alloc (Nat.le_refl _) _).alloc (by simp) _)
  have HZB : Hid (∀ W, Below W0.heap.size W0 W → W.heap[w.heap.size + 1]? = some (.cells #[.int .i64 0, .int .i64 0, .string ⟨#[]⟩, .string ⟨#[]⟩] 35 (0, 0))) := Lib.hid (fun W hW => by
    have e2 : W0.heap[w.heap.size + 1]? = some (.cells #[.int .i64 0, .int .i64 0, .string ⟨#[]⟩, .string ⟨#[]⟩] 35 (0, 0)) := by rw [hW0]; exact at_second w _ _
    exact kept_block e2 hW)
  have HC : Hid (∀ W, Below W0.heap.size W0 W → (W.cell? ⟨w.heap.size, 0, none⟩ = some (.int .i64 car) ∧ W.cell? ⟨w.heap.size, 1, none⟩ = some (.slice a l c)) ∧ W.cell? ⟨w.heap.size + 1, 0, none⟩ = some (.int .i64 0) ∧ W.cell? ⟨w.heap.size + 1, 1, none⟩ = some (.int .i64 0) ∧ W.cell? ⟨w.heap.size + 1, 2, none⟩ = some (.string ⟨#[]⟩) ∧ W.cell? ⟨w.heap.size + 1, 3, none⟩ = some (.string ⟨#[]⟩)) := Lib.hid (fun W hW => by
    have e1 : W0.heap[w.heap.size]? = some (.cells #[.int .i64 car, .slice a l c] 26 (0, 0)) := by rw [hW0]; exact at_past w _ _
    have := two_cells (kept_block e1 hW)
    exact ⟨⟨this.1, this.2.1⟩, four_cells (HZB.out W hW)⟩)
  have HZF : Hid (∀ W, Below W0.heap.size W0 W → ∀ j, W.frozen? ⟨w.heap.size + 1, j, none⟩ = false) := Lib.hid (fun W hW => free_of (HZB.out W hW))
  have HW0 := Lib.hid hW0
  clear hW0
  by_cases h0 : key.size = 32
  · have t0 : ¬ ¬ (key.size : Int) = 32 := by omega
    cases V with
    | false =>
      obtain ⟨hz, he⟩ := HNO.out (by simp)
      have HF := Lib.hid hz
      have HE := Lib.hid he
      clear hz he HNO HYS HVP HCUT
      go_enter Tryz.func47, Tryz.ntmps47
      go_upto_region 1 with fail
      rw [← HW0.out]
      obtain ⟨⟨c0, c1⟩, z0, z1, z2, z3⟩ := HC.out W0 (Below.refl _ _)
      have zf := HZF.out W0 (Below.refl _ _)
      go_wp2_with (go_at_call 45; refine (HVL.out _ HB0.out).mono ?_; rintro e w1 ⟨rfl, hb1⟩; have HW1 := Lib.hid hb1; obtain ⟨⟨d0, d1⟩, y0, y1, y2, y3⟩ := HC.out w1 hb1; have yf := HZF.out w1 hb1; clear hb1)
      exact bodyPost_ret (results_cellA_tmp rfl _ (w.heap.size + 1) 35 #[.int .i64 0, .int .i64 0, .string ⟨#[]⟩, .string ⟨#[]⟩] (0, 0) _ rfl (qheap (HZB.out w1 HW1.out) _ _ _ _) Tryz.underlying35 rfl infoHead) rfl ⟨by rw [HF.out, HE.out]; rfl, qbelow (HB0.out.trans (HW1.out.mono HB0.out.size)) (Nat.le_succ _) _ _ _ _⟩
    | true =>
      by_cases h1 : 0 ≤ n ∧ n ≤ (l : Int)
      · rw [decide_eq_true h1] at HI1
        obtain ⟨k, rfl⟩ := Int.eq_ofNat_of_zero_le h1.1
        have hkl : k ≤ l := by omega
        obtain ⟨hz, he⟩ := HYS.out h0 rfl h1
        obtain ⟨q1, q2, p1, p2⟩ := HVP.out rfl
        rw [Int.toNat_natCast] at hz
        have hlt : (xs.take k).length = k := by rw [List.length_take, ← HLN.out]; omega
        have HRt := Lib.hid (fun W (hW : Below w.heap.size w W) => r2root_any k k (Nat.le_refl _) hlt (HCUT.out k hkl W hW) (by omega) (fun s hs => by have := p2 s (List.mem_of_mem_take hs); omega))
        have hrs : (rootB (xs.take k)).size = 32 := rootB_size _
        have HSL := Lib.hid (fun W => rseal_any key car k (rootB (xs.take k)) ⟨#[]⟩ (by omega) ⟨q1, q2⟩ ⟨by omega, by omega⟩ (by omega) W)
        generalize rootB (xs.take k) = R at *
        generalize signedB key ⟨car, (k : Int), R, ⟨#[]⟩⟩ = SG at *
        have HF := Lib.hid hz
        have HE := Lib.hid he
        have u1 : (k : Int) ≤ (l : Int) := by omega
        have u0 : (0 : Int) ≤ (k : Int) := by omega
        have u2 : k ≤ c := by omega
        clear hz he HNO HYS HVP HCUT p1 p2 hlt h1 q1 q2
        go_enter Tryz.func47, Tryz.ntmps47
        go_upto_region 1 with fail
        rw [← HW0.out]
        obtain ⟨⟨c0, c1⟩, z0, z1, z2, z3⟩ := HC.out W0 (Below.refl _ _)
        go_upto_region 3 with (first | (go_at_call 45; refine (HVL.out _ HB0.out).mono ?_; rintro e w1 ⟨rfl, hb1⟩; have HW1 := Lib.hid hb1; obtain ⟨⟨d0, d1⟩, y0, y1, y2, y3⟩ := HC.out w1 hb1; clear hb1) | (go_at_call 55; (with_reducible refine (HI1.out _).mono ?_); rintro e w' ⟨rfl, hw'⟩; replace hw' := hw'.symm; subst hw'))
        clear c0 c1 z0 z1 z2 z3 d0 d1 y0 y1 y2 y3
        have HB1 := Lib.hid (HB0.out.trans (HW1.out.mono HB0.out.size))
        refine wp_region_noPanic ?_
        refine wp_region_lexB [.q 0, .q 1, .q 2, .q 3, .q 4, .q 5, .q 6, .an 9, .b 7, .q 8, .co 9, .b 10] (by kernel_rfl) (by kernel_rfl) (fun _ _ _ _ h => h) ?_
        refine wpFl_qL (v := ?_) rfl (Or.inl ⟨by rfl, ?_⟩) ?_
        rotate_left
        focus (intro w' hSw; (try dsimp only [OldKept] at hSw); obtain ⟨⟨c0, c1⟩, z0, z1, z2, z3⟩ := HC.out w' (below_next HW1.out hSw); go_simp; (try with_reducible rfl); done)
        simp only [Act.put, List.setIfInBounds_toArray, List.set_cons_zero, List.set_cons_succ]
        refine wpFl_qL (v := ?_) rfl (Or.inl ⟨by rfl, ?_⟩) ?_
        rotate_left
        focus (intro w' hSw; (try dsimp only [OldKept] at hSw); obtain ⟨⟨c0, c1⟩, z0, z1, z2, z3⟩ := HC.out w' (below_next HW1.out hSw); go_simp; (try with_reducible rfl); done)
        simp only [Act.put, List.setIfInBounds_toArray, List.set_cons_zero, List.set_cons_succ]
        refine wpFl_qL (v := ?_) rfl (Or.inl ⟨by rfl, ?_⟩) ?_
        rotate_left
        focus (intro w' hSw; (try dsimp only [OldKept] at hSw); obtain ⟨⟨c0, c1⟩, z0, z1, z2, z3⟩ := HC.out w' (below_next HW1.out hSw); go_simp; (try with_reducible rfl); done)
        simp only [Act.put, List.setIfInBounds_toArray, List.set_cons_zero, List.set_cons_succ]
        refine wpFl_qL (v := ?_) rfl (Or.inl ⟨by rfl, ?_⟩) ?_
        rotate_left
        focus (intro w' hSw; (try dsimp only [OldKept] at hSw); obtain ⟨⟨c0, c1⟩, z0, z1, z2, z3⟩ := HC.out w' (below_next HW1.out hSw); go_simp; (try with_reducible rfl); done)
        simp only [Act.put, List.setIfInBounds_toArray, List.set_cons_zero, List.set_cons_succ]
        refine wpFl_qL (v := ?_) rfl (Or.inl ⟨by rfl, ?_⟩) ?_
        rotate_left
        focus (intro w' hSw; (try dsimp only [OldKept] at hSw); obtain ⟨⟨c0, c1⟩, z0, z1, z2, z3⟩ := HC.out w' (below_next HW1.out hSw); go_simp; (try with_reducible rfl); done)
        simp only [Act.put, List.setIfInBounds_toArray, List.set_cons_zero, List.set_cons_succ]
        refine wpFl_qL (v := ?_) rfl (Or.inl ⟨by rfl, ?_⟩) ?_
        rotate_left
        focus (intro w' hSw; (try dsimp only [OldKept] at hSw); obtain ⟨⟨c0, c1⟩, z0, z1, z2, z3⟩ := HC.out w' (below_next HW1.out hSw); go_simp; (try with_reducible rfl); done)
        simp only [Act.put, List.setIfInBounds_toArray, List.set_cons_zero, List.set_cons_succ]
        refine wpFl_qL (v := ?_) rfl (Or.inl ⟨by rfl, ?_⟩) ?_
        rotate_left
        focus (intro w' hSw; (try dsimp only [OldKept] at hSw); obtain ⟨⟨c0, c1⟩, z0, z1, z2, z3⟩ := HC.out w' (below_next HW1.out hSw); go_simp; (try with_reducible rfl); done)
        simp only [Act.put, List.setIfInBounds_toArray, List.set_cons_zero, List.set_cons_succ]
        refine wpFl_anL rfl (.cells #[.int .i64 0, .int .i64 0, .string ⟨#[]⟩, .string ⟨#[]⟩] 35 (0, 0)) (fun n => .pointer (some ⟨n, 0, none⟩)) ⟨by rfl, fun w' => ?_⟩ ?_
        focus (go_simp; done)
        refine wpFl_bL rfl (fun w2 hn2 hs2 K hK => ?_)
        go_simp
        go_at_call 72
        refine (HRt.out _ (below_next HB1.out hs2)).mono ?_
        rintro e w3 ⟨rfl, hb3⟩
        refine hK.out _ _ (below_next hs2 hb3) (Keeps.below hb3) ?_
        clear hK K hn2 hs2 hb3
        refine wpFl_qL (v := ?_) rfl (Or.inl ⟨by rfl, ?_⟩) ?_
        rotate_left
        focus (intro w' hSw; (try dsimp only [OldKept] at hSw); go_simp; (try with_reducible rfl); done)
        simp only [Act.put, List.setIfInBounds_toArray, List.set_cons_zero, List.set_cons_succ]
        refine wpFl_coL rfl (.cells #[.int .i64 0, .int .i64 0, .string ⟨#[]⟩, .string ⟨#[]⟩] 35 (0, 0)) (fun n => .pointer (some ⟨n, 0, none⟩)) (by rfl) (N' := []) (by rfl) (fun hbk w4 hn_w4 hs_w4 hb_hbk hz_hbk => ?_)
        simp only [Act.put, List.setIfInBounds_toArray, List.set_cons_zero, List.set_cons_succ]
        refine wpFl_bL rfl (fun w5 hn5 hs5 K hK => ?_)
        have HZ5 := Lib.hid (kept_block hz_hbk hn5)
        obtain ⟨z0, z1, z2, z3⟩ := four_cells HZ5.out
        have zf := free_of HZ5.out
        go_simp
        refine hK.out _ _ (qbelow hs5 hb_hbk _ _ _ _) Keeps.nil ?_
        clear hK K
        have HB6 := Lib.hid (qbelow hs5 hb_hbk (.int .i64 car) (.int .i64 k) (.string R) (.string ⟨#[]⟩))
        have HH6 := Lib.hid (qheap HZ5.out (.int .i64 car) (.int .i64 k) (.string R) (.string ⟨#[]⟩))
        generalize ((((w5.setCell ⟨hbk, 0, none⟩ (.int .i64 car)).setCell ⟨hbk, 1, none⟩ (.int .i64 k)).setCell ⟨hbk, 2, none⟩ (.string R)).setCell ⟨hbk, 3, none⟩ (.string ⟨#[]⟩)) = w6 at *
        have hbw : w1.heap.size ≤ hbk := hb_hbk
        have hne : ¬ w.heap.size + 1 = hbk := by
          have h1 := (Array.getElem?_eq_some_iff.1 (HZB.out w1 HW1.out)).1
          omega
        clear z0 z1 z2 z3 zf HZ5 hz_hbk hb_hbk hn5 hs5 hn_w4 hs_w4
        refine wpFl_nil ?_
        refine NoPanic.normal ?_
        obtain ⟨c0, c1, c2, c3⟩ := four_cells HH6.out
        go_upto_region 5 with (go_at_call 82; refine (HSL.out _).mono ?_; rintro e w7 ⟨rfl, hb7⟩; have HH7 := Lib.hid (kept_block HH6.out hb7); have HB7 := Lib.hid (below_next HB6.out hb7); obtain ⟨e0, e1, e2, e3⟩ := four_cells HH7.out; have ef := free_of HH7.out; clear hb7)
        clear c0 c1 c2 c3 e0 e1 e2 e3 ef
        have HH8 := Lib.hid (heap_setCell_same (i := 3) (.string SG) HH7.out)
        have HB8 := Lib.hid (HB7.out.setCell (p := ⟨hbk, 3, none⟩) hbw (.string SG))
        have HZ8 : Hid ((w7.setCell ⟨hbk, 3, none⟩ (.string SG)).heap[w.heap.size + 1]? = some (.cells #[.int .i64 0, .int .i64 0, .string ⟨#[]⟩, .string ⟨#[]⟩] 35 (0, 0))) := Lib.hid ((Below.heap_setCell _ _ _ _ hne).trans (kept_block (HZB.out w1 HW1.out) HB7.out))
        generalize w7.setCell ⟨hbk, 3, none⟩ (.string SG) = w8 at *
        obtain ⟨c0, c1, c2, c3⟩ := four_cells HH8.out
        obtain ⟨z0, z1, z2, z3⟩ := four_cells HZ8.out
        have zf := free_of HZ8.out
        go_wp2
        exact bodyPost_ret (results_cellA_tmp rfl _ (w.heap.size + 1) 35 #[.int .i64 car, .int .i64 k, .string R, .string SG] (0, 0) _ rfl (qheap HZ8.out _ _ _ _) Tryz.underlying35 rfl infoHead) rfl ⟨by rw [HF.out, HE.out]; rfl, qbelow (below_next HB1.out HB8.out) (Nat.le_succ _) _ _ _ _⟩
      · rw [decide_eq_false h1] at HI1
        obtain ⟨hz, he⟩ := HNO.out (fun h => h1 h.2.2)
        have HF := Lib.hid hz
        have HE := Lib.hid he
        clear hz he HNO HYS HVP HCUT h1
        go_enter Tryz.func47, Tryz.ntmps47
        go_upto_region 1 with fail
        rw [← HW0.out]
        obtain ⟨⟨c0, c1⟩, z0, z1, z2, z3⟩ := HC.out W0 (Below.refl _ _)
        have zf := HZF.out W0 (Below.refl _ _)
        go_wp2_with (first | (go_at_call 45; refine (HVL.out _ HB0.out).mono ?_; rintro e w1 ⟨rfl, hb1⟩; have HW1 := Lib.hid hb1; obtain ⟨⟨d0, d1⟩, y0, y1, y2, y3⟩ := HC.out w1 hb1; have yf := HZF.out w1 hb1; clear hb1) | (go_at_call 55; (with_reducible refine (HI1.out _).mono ?_); rintro e w' ⟨rfl, hw'⟩; replace hw' := hw'.symm; subst hw'))
        exact bodyPost_ret (results_cellA_tmp rfl _ (w.heap.size + 1) 35 #[.int .i64 0, .int .i64 0, .string ⟨#[]⟩, .string ⟨#[]⟩] (0, 0) _ rfl (qheap (HZB.out w1 HW1.out) _ _ _ _) Tryz.underlying35 rfl infoHead) rfl ⟨by rw [HF.out, HE.out]; rfl, qbelow (HB0.out.trans (HW1.out.mono HB0.out.size)) (Nat.le_succ _) _ _ _ _⟩
  · obtain ⟨hz, he⟩ := HNO.out (fun h => h0 h.1)
    have HF := Lib.hid hz
    have HE := Lib.hid he
    have t0 : ¬ (key.size : Int) = 32 := by omega
    have HW1 : Hid (Below W0.heap.size W0 W0) := Lib.hid (Below.refl _ _)
    clear hz he HNO HYS HVP HCUT
    go_enter Tryz.func47, Tryz.ntmps47
    go_upto_region 1 with fail
    rw [← HW0.out]
    obtain ⟨⟨c0, c1⟩, z0, z1, z2, z3⟩ := HC.out W0 (Below.refl _ _)
    have zf := HZF.out W0 (Below.refl _ _)
    go_wp2_with fail
    exact bodyPost_ret (results_cellA_tmp rfl _ (w.heap.size + 1) 35 #[.int .i64 0, .int .i64 0, .string ⟨#[]⟩, .string ⟨#[]⟩] (0, 0) _ rfl (qheap (HZB.out W0 HW1.out) _ _ _ _) Tryz.underlying35 rfl infoHead) rfl ⟨by rw [HF.out, HE.out]; rfl, qbelow (HB0.out.trans (HW1.out.mono HB0.out.size)) (Nat.le_succ _) _ _ _ _⟩
end Go.Proofs.YtinfpbkbnhcifaaGreatDoor

/- The reference's Append. The conditions: what the slice reads as, lengths. -/
namespace Go.Proofs.YtinfpbkbnhcifaaGreatDoor
open Go.RowKit Go.BigFrame

theorem valid_prefix {car : Int} {xs : List ByteArray} {ent : ByteArray} (h : validB ⟨car, xs ++ [ent]⟩ = true) : validB ⟨car, xs⟩ = true := by
  obtain ⟨h1, h2, h3, h4⟩ := valid_parts h
  unfold validB
  apply decide_eq_true
  have h3 : (xs ++ [ent]).length ≤ 60 := h3
  rw [List.length_append] at h3
  exact ⟨h1, h2, by show xs.length ≤ 60; omega, fun s hs => h4 s (List.mem_append_left _ hs)⟩
/-- What Append answers. -/
def AppendSays (w : World) (car : Int) (zs : List ByteArray) (ok : Bool) (e : Ending) (w' : World) : Prop :=
  (if ok = true then ∃ v', e = .returned (.tuple #[.agg #[.int .i64 car, v'], .int .i64 0]) ∧ SS w' v' zs else e = .returned (.tuple #[.agg #[.int .i64 0, .slice none 0 0], .int .i64 180])) ∧ Below w.heap.size w w'
theorem AppendSays.yes {w w' : World} {car : Int} {zs : List ByteArray} {e : Ending} (v' : Value) (h1 : e = .returned (.tuple #[.agg #[.int .i64 car, v'], .int .i64 0])) (h2 : SS w' v' zs) (h3 : Below w.heap.size w w') : AppendSays w car zs true e w' := ⟨by rw [if_pos rfl]; exact ⟨v', h1, h2⟩, h3⟩
theorem AppendSays.no {w w' : World} {car : Int} {zs : List ByteArray} {e : Ending} (h1 : e = .returned (.tuple #[.agg #[.int .i64 0, .slice none 0 0], .int .i64 180])) (h3 : Below w.heap.size w w') : AppendSays w car zs false e w' := ⟨by rw [if_neg (by simp)]; exact h1, h3⟩

set_option maxHeartbeats 8000000 in
set_option maxRecDepth 100000 in
theorem rappend_any (car : Int) {w : World} {v : Value} {xs : List ByteArray} (ent : ByteArray) (hv : SS w v xs) (hl : xs.length ≤ 1000) :
    Calls Tryz.prog 43 #[.agg #[.int .i64 car, v], .string ent] w (AppendSays w car (xs ++ [ent]) (validB ⟨car, xs ++ [ent]⟩)) := by
  obtain ⟨a, c, hva⟩ := hv.form2
  have HPX := Lib.hid (@valid_prefix car xs ent)
  have HVL := Lib.hid (fun W (hW : Below w.heap.size w W) => rvalid_any car (SS.below hv hW))
  have HVM := Lib.hid (fun W v' (h : SS W v' (xs ++ [ent])) => rvalid_any car h)
  generalize validB ⟨car, xs ++ [ent]⟩ = V2 at *
  generalize validB ⟨car, xs⟩ = V1 at *
  subst hva
  obtain ⟨n, hn⟩ : ∃ n, n = xs.length := ⟨_, rfl⟩
  rw [← hn] at hv hl HVL ⊢
  have HN := Lib.hid hn
  have HSX := Lib.hid (fun W (hW : Below w.heap.size w W) => SS.below hv hW)
  clear hn hv
  obtain ⟨W0, hW0⟩ : ∃ W0, W0 = (w.alloc (.cells #[.int .i64 car, .slice a n c] 26)).alloc (.cells #[.int .i64 0, .slice none 0 0] 26) := ⟨_, rfl⟩
  have HB0 : Hid (Below w.heap.size w W0) := Lib.hid (by rw [hW0]; exact ((Below.refl _ _).alloc (Nat.le_refl _) _).alloc (by simp) _)
  have HZB : Hid (∀ W, Below W0.heap.size W0 W → W.heap[w.heap.size + 1]? = some (.cells #[.int .i64 0, .slice none 0 0] 26 (0, 0))) := Lib.hid (fun W hW => by
    have e2 : W0.heap[w.heap.size + 1]? = some (.cells #[.int .i64 0, .slice none 0 0] 26 (0, 0)) := by rw [hW0]; exact at_second w _ _
    exact kept_block e2 hW)
  have HC : Hid (∀ W, Below W0.heap.size W0 W → W.cell? ⟨w.heap.size, 0, none⟩ = some (.int .i64 car) ∧ W.cell? ⟨w.heap.size, 1, none⟩ = some (.slice a n c)) := Lib.hid (fun W hW => by
    have e1 : W0.heap[w.heap.size]? = some (.cells #[.int .i64 car, .slice a n c] 26 (0, 0)) := by rw [hW0]; exact at_past w _ _
    have := two_cells (kept_block e1 hW)
    exact ⟨this.1, this.2.1⟩)
  have HW0 := Lib.hid hW0
  clear hW0
  go_enter Tryz.func43, Tryz.ntmps43
  go_upto_region 1 with fail
  rw [← HW0.out]
  refine wp_region_noPanic ?_
  refine wp_region_lexB [.q 0, .q 1, .q 3, .q 4, .q 6, .an 2, .an 7, .an 10, .co 2, .b 5, .co 7, .b 8, .q 9, .co 10, .b 11] (by kernel_rfl) (by kernel_rfl) (fun _ _ _ _ h => h) ?_
  refine wpFl_qL (v := ?_) rfl (Or.inl ⟨by rfl, ?_⟩) ?_
  rotate_left
  focus (intro w' hSw; (try dsimp only [OldKept] at hSw); obtain ⟨c0, c1⟩ := HC.out w' hSw; go_simp; (try with_reducible rfl); done)
  simp only [Act.put, List.setIfInBounds_toArray, List.set_cons_zero, List.set_cons_succ]
  refine wpFl_qL (v := ?_) rfl (Or.inl ⟨by rfl, ?_⟩) ?_
  rotate_left
  focus (intro w' hSw; (try dsimp only [OldKept] at hSw); obtain ⟨c0, c1⟩ := HC.out w' hSw; go_simp; (try with_reducible rfl); done)
  simp only [Act.put, List.setIfInBounds_toArray, List.set_cons_zero, List.set_cons_succ]
  refine wpFl_qL (v := ?_) rfl (Or.inl ⟨by rfl, ?_⟩) ?_
  rotate_left
  focus (intro w' hSw; (try dsimp only [OldKept] at hSw); obtain ⟨c0, c1⟩ := HC.out w' hSw; go_simp; (try with_reducible rfl); done)
  simp only [Act.put, List.setIfInBounds_toArray, List.set_cons_zero, List.set_cons_succ]
  refine wpFl_qL (v := ?_) rfl (Or.inl ⟨by rfl, ?_⟩) ?_
  rotate_left
  focus (intro w' hSw; (try dsimp only [OldKept] at hSw); obtain ⟨c0, c1⟩ := HC.out w' hSw; go_simp; (try with_reducible rfl); done)
  simp only [Act.put, List.setIfInBounds_toArray, List.set_cons_zero, List.set_cons_succ]
  refine wpFl_qL (v := ?_) rfl (Or.inl ⟨by rfl, ?_⟩) ?_
  rotate_left
  focus (intro w' hSw; (try dsimp only [OldKept] at hSw); obtain ⟨c0, c1⟩ := HC.out w' hSw; go_simp; (try with_reducible rfl); done)
  simp only [Act.put, List.setIfInBounds_toArray, List.set_cons_zero, List.set_cons_succ]
  refine wpFl_anL rfl (.cells #[] 9 (0, 0)) (fun n => .slice (some ⟨n, 0, none⟩) 0 0) ⟨by rfl, fun w' => ?_⟩ ?_
  focus (go_simp; done)
  refine wpFl_anL rfl (.cells #[.string ent] 9 (0, 0)) (fun n => .slice (some ⟨n, 0, none⟩) 1 1) ⟨by rfl, fun w' => ?_⟩ ?_
  focus (go_simp; done)
  refine wpFl_anL rfl (.cells #[.int .i64 0, .slice none 0 0] 26 (0, 0)) (fun n => .pointer (some ⟨n, 0, none⟩)) ⟨by rfl, fun w' => ?_⟩ ?_
  focus (go_simp; done)
  refine wpFl_coL rfl (.cells #[] 9 (0, 0)) (fun n => .slice (some ⟨n, 0, none⟩) 0 0) (by rfl) (N' := [(10, .cells #[.int .i64 0, .slice none 0 0] 26 (0, 0), fun n => .pointer (some ⟨n, 0, none⟩)), (7, .cells #[.string ent] 9 (0, 0), fun n => .slice (some ⟨n, 0, none⟩) 1 1)]) (by rfl) (fun b2 w2 hn_w2 hs_w2 hb_b2 hz_b2 => ?_)
  simp only [Act.put, List.setIfInBounds_toArray, List.set_cons_zero, List.set_cons_succ]
  have HO2 := Lib.hid (OwnS.zero hz_b2 hb_b2)
  clear hn_w2
  refine wpFl_bL rfl (fun w3 hn3 hs3 K hK => ?_)
  have HZ3 := Lib.hid (kept_block hz_b2 hn3)
  have HO3 := Lib.hid (OwnE.far HO2.out hn3 (Nat.le_refl _))
  have HS3 := Lib.hid (HSX.out w3 (HB0.out.trans (hs3.mono HB0.out.size)))
  refine step_append_all rfl _ _ W0.heap.size (.slice (some ⟨b2, 0, none⟩) 0 0) [] xs (.slice a n c) HO3.out HS3.out (by rw [← HN.out]; simp; omega) hs3.size rfl rfl rfl ?_
  intro v4 w4 hown4 hgr4
  rw [List.nil_append] at hown4
  have HB4 : Hid (Below W0.heap.size W0 w4) := Lib.hid (Below.grown hs3 hgr4 hs3.size (fun j e => OwnE.ge HO3.out j e))
  have hkeep : ∀ (x : Obj) (i : Nat), x ≠ .cells #[] 9 (0, 0) → w3.heap[i]? = some x → w4.heap[i]? = some x := fun x i hx h =>
    (hgr4.block i (Array.getElem?_eq_some_iff.1 h).1 (fun e => by
      have e2 : i = b2 := by
        have : some i = some b2 := e
        injection this
      subst e2
      rw [HZ3.out] at h
      injection h with h
      exact hx h.symm)).trans h
  refine hK.out _ _ HB4.out (fun x hx i _ h => hkeep _ i (by
    rcases List.mem_cons.1 hx with rfl | hx
    · intro e; cases e
    · rw [List.mem_singleton.1 hx]; intro e; cases e) h) ?_
  clear hK K hkeep HZ3 hz_b2
  obtain ⟨a4, c4, hv4⟩ := OwnE.form hown4
  rw [scells_len, ← HN.out] at hv4
  subst hv4
  have HO4 := Lib.hid hown4
  clear HO2 HO3 HS3 hown4 hgr4 hn3 hs3 hs_w2 hb_b2
  simp only [Act.put, List.setIfInBounds_toArray, List.set_cons_zero, List.set_cons_succ]
  refine wpFl_coL rfl (.cells #[.string ent] 9 (0, 0)) (fun n => .slice (some ⟨n, 0, none⟩) 1 1) (by rfl) (N' := [(10, .cells #[.int .i64 0, .slice none 0 0] 26 (0, 0), fun n => .pointer (some ⟨n, 0, none⟩))]) (by rfl) (fun b5 w5 hn_w5 hs_w5 hb_b5 hz_b5 => ?_)
  simp only [Act.put, List.setIfInBounds_toArray, List.set_cons_zero, List.set_cons_succ]
  have HO5 := Lib.hid (OwnE.far HO4.out hn_w5 (Nat.le_refl _))
  have HE5 := Lib.hid (SS.one hz_b5)
  clear HO4 hn_w5 hz_b5 hs_w5 hb_b5
  refine wpFl_bL rfl (fun w6 hn6 hs6 K hK => ?_)
  have HO6 := Lib.hid (OwnE.far HO5.out hn6 (Nat.le_refl _))
  have HE6 := Lib.hid (SS.below HE5.out hn6)
  refine step_append_strs rfl _ _ W0.heap.size (.slice a4 n c4) xs [ent] (.slice (some ⟨b5, 0, none⟩) 1 1) HO6.out HE6.out (by simp) (by rw [← HN.out]; simp; omega) hs6.size rfl rfl rfl ?_
  intro v7 w7 hown7 hgr7
  have HB7 : Hid (Below W0.heap.size W0 w7) := Lib.hid (Below.grown hs6 hgr7 hs6.size (fun j e => OwnE.ge HO6.out j e))
  refine hK.out _ _ HB7.out (Keeps.own HO6.out hgr7 (by intro x hx c e; rw [List.mem_singleton.1 hx] at e; cases e)) ?_
  clear hK K
  obtain ⟨a7, c7, hv7⟩ := OwnE.form hown7
  rw [scells_len, List.length_append, ← HN.out] at hv7
  have hv7 : v7 = .slice a7 (n + 1) c7 := hv7
  subst hv7
  have HO7 := Lib.hid hown7
  clear HO5 HO6 HE5 HE6 hown7 hgr7 hn6 hs6
  simp only [Act.put, List.setIfInBounds_toArray, List.set_cons_zero, List.set_cons_succ]
  refine wpFl_qL (v := ?_) rfl (Or.inl ⟨by rfl, ?_⟩) ?_
  rotate_left
  focus (intro w' hSw; (try dsimp only [OldKept] at hSw); go_simp; (try with_reducible rfl); done)
  simp only [Act.put, List.setIfInBounds_toArray, List.set_cons_zero, List.set_cons_succ]
  refine wpFl_coL rfl (.cells #[.int .i64 0, .slice none 0 0] 26 (0, 0)) (fun n => .pointer (some ⟨n, 0, none⟩)) (by rfl) (N' := []) (by rfl) (fun b8 w8 hn_w8 hs_w8 hb_b8 hz_b8 => ?_)
  simp only [Act.put, List.setIfInBounds_toArray, List.set_cons_zero, List.set_cons_succ]
  have HO8 := Lib.hid (OwnE.far HO7.out hn_w8 (Nat.le_refl _))
  clear HO7 hn_w8 hs_w8
  refine wpFl_bL rfl (fun w9 hn9 hs9 K hK => ?_)
  have HO9 := Lib.hid (OwnE.far HO8.out hn9 (Nat.le_refl _))
  have HZ9 := Lib.hid (kept_block hz_b8 hn9)
  obtain ⟨z0, z1, zf⟩ := two_cells HZ9.out
  clear HO8 hz_b8
  go_simp
  refine hK.out _ _ (two_below hs9 hb_b8 _ _) Keeps.nil ?_
  clear hK K
  have HB10 := Lib.hid (two_below hs9 hb_b8 (.int .i64 car) (.slice a7 (n + 1) c7))
  have HH10 := Lib.hid (two_heap HZ9.out (.int .i64 car) (.slice a7 (n + 1) c7))
  have HS10 := Lib.hid (OwnS.two HO9.out HZ9.out (by decide) (.int .i64 car) (.slice a7 (n + 1) c7))
  generalize (w9.setCell ⟨b8, 0, none⟩ (.int .i64 car)).setCell ⟨b8, 1, none⟩ (.slice a7 (n + 1) c7) = w10 at *
  clear HO9 HZ9 z0 z1 zf hn9 hs9
  refine wpFl_nil ?_
  refine NoPanic.normal ?_
  have HBw := Lib.hid (HB0.out.trans (HB10.out.mono HB0.out.size))
  obtain ⟨c0, c1⟩ := HC.out w10 HB10.out
  cases V1 with
  | false =>
    have HV2 : V2 = false := by
      cases V2 with
      | false => rfl
      | true => exact absurd (HPX.out rfl) (by simp)
    subst HV2
    go_upto_region 3 with (go_at_call 45; (with_reducible refine (HVL.out _ HBw.out).mono ?_); rintro e w11 ⟨rfl, hb11⟩; have HB11 := Lib.hid (below_next HB10.out hb11); clear hb11)
    have HZ11 := Lib.hid (HZB.out w11 HB11.out)
    obtain ⟨z0, z1, zf⟩ := two_cells HZ11.out
    go_wp2
    exact bodyPost_ret (results_cellA_tmp rfl _ (w.heap.size + 1) 26 #[.int .i64 0, .slice none 0 0] (0, 0) _ rfl (two_heap HZ11.out _ _) Tryz.underlying26 rfl infoReg) rfl (AppendSays.no rfl (two_below (HB0.out.trans (HB11.out.mono HB0.out.size)) (Nat.le_succ _) _ _))
  | true =>
    obtain ⟨d0, d1, _⟩ := two_cells HH10.out
    cases V2 with
    | false =>
      go_upto_region 3 with (first | (go_at_call 45; (with_reducible refine (HVL.out _ HBw.out).mono ?_); rintro e w11 ⟨rfl, hb11⟩; have HB11 := Lib.hid (below_next HB10.out hb11); (have HS11 : Hid (OwnS w11 W0.heap.size (.slice a7 (n + 1) c7) (xs ++ [ent])) := Lib.hid (OwnE.far HS10.out hb11 (Nat.le_refl _))); obtain ⟨e0, e1, _⟩ := two_cells (kept_block HH10.out hb11); clear hb11) | (go_at_call 45; (with_reducible refine (HVM.out _ _ HS11.out.ss).mono ?_); rintro e w12 ⟨rfl, hb12⟩; have HB12 := Lib.hid (below_next HB11.out hb12); clear hb12))
      have HZ12 := Lib.hid (HZB.out w12 HB12.out)
      obtain ⟨z0, z1, zf⟩ := two_cells HZ12.out
      go_wp2
      exact bodyPost_ret (results_cellA_tmp rfl _ (w.heap.size + 1) 26 #[.int .i64 0, .slice none 0 0] (0, 0) _ rfl (two_heap HZ12.out _ _) Tryz.underlying26 rfl infoReg) rfl (AppendSays.no rfl (two_below (HB0.out.trans (HB12.out.mono HB0.out.size)) (Nat.le_succ _) _ _))
    | true =>
      go_upto_region 4 with (first | (go_at_call 45; (with_reducible refine (HVL.out _ HBw.out).mono ?_); rintro e w11 ⟨rfl, hb11⟩; have HB11 := Lib.hid (below_next HB10.out hb11); (have HS11 : Hid (OwnS w11 W0.heap.size (.slice a7 (n + 1) c7) (xs ++ [ent])) := Lib.hid (OwnE.far HS10.out hb11 (Nat.le_refl _))); have HH11 := Lib.hid (kept_block HH10.out hb11); obtain ⟨e0, e1, _⟩ := two_cells HH11.out; clear hb11) | (go_at_call 45; (with_reducible refine (HVM.out _ _ HS11.out.ss).mono ?_); rintro e w12 ⟨rfl, hb12⟩; have HB12 := Lib.hid (below_next HB11.out hb12); (have HS12 : Hid (OwnS w12 W0.heap.size (.slice a7 (n + 1) c7) (xs ++ [ent])) := Lib.hid (OwnE.far HS11.out hb12 (Nat.le_refl _))); have HH12 := Lib.hid (kept_block HH11.out hb12); clear hb12))
      have HZ12 := Lib.hid (HZB.out w12 HB12.out)
      obtain ⟨z0, z1, zf⟩ := two_cells HZ12.out
      obtain ⟨f0, f1, _⟩ := two_cells HH12.out
      have HS13 := Lib.hid (OwnS.two HS12.out HZ12.out (by decide) (.int .i64 car) (.slice a7 (n + 1) c7))
      go_wp2
      exact bodyPost_ret (results_cellA_tmp rfl _ (w.heap.size + 1) 26 #[.int .i64 car, .slice a7 (n + 1) c7] (0, 0) _ rfl (two_heap HZ12.out _ _) Tryz.underlying26 rfl infoReg) rfl (AppendSays.yes _ rfl HS13.out.ss (two_below (HB0.out.trans (HB12.out.mono HB0.out.size)) (Nat.le_succ _) _ _))
end Go.Proofs.YtinfpbkbnhcifaaGreatDoor
