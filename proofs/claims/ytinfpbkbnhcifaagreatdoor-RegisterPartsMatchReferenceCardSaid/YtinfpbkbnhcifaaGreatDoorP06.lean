/- The reference's Sign. The conditions: what the slices read as, lengths. -/
import Derived.Test.YtinfpbkbnhcifaaGreatDoorP05
namespace Go.Proofs.YtinfpbkbnhcifaaGreatDoor
open Go.RowKit Go.BigFrame

theorem qheap {W : World} {b : Nat} {c0 c1 c2 c3 : Value} {T : TypeId} (h : W.heap[b]? = some (.cells #[c0, c1, c2, c3] T (0, 0))) (v0 v1 v2 v3 : Value) :
    ((((W.setCell ⟨b, 0, none⟩ v0).setCell ⟨b, 1, none⟩ v1).setCell ⟨b, 2, none⟩ v2).setCell ⟨b, 3, none⟩ v3).heap[b]? = some (.cells #[v0, v1, v2, v3] T (0, 0)) := by
  have h0 := heap_setCell_same (i := 0) v0 h
  have h1 := heap_setCell_same (i := 1) v1 h0
  have h2 := heap_setCell_same (i := 2) v2 h1
  exact heap_setCell_same (i := 3) v3 h2
theorem qbelow {w W : World} {b B : Nat} (h : Below B w W) (hb : B ≤ b) (v0 v1 v2 v3 : Value) : Below B w ((((W.setCell ⟨b, 0, none⟩ v0).setCell ⟨b, 1, none⟩ v1).setCell ⟨b, 2, none⟩ v2).setCell ⟨b, 3, none⟩ v3) :=
  (((h.setCell (p := ⟨b, 0, none⟩) hb v0).setCell (p := ⟨b, 1, none⟩) hb v1).setCell (p := ⟨b, 2, none⟩) hb v2).setCell (p := ⟨b, 3, none⟩) hb v3
theorem free_of {W : World} {b : Nat} {cs : Array Value} {T : TypeId} (h : W.heap[b]? = some (.cells cs T (0, 0))) (j : Nat) : W.frozen? ⟨b, j, none⟩ = false := by unfold World.frozen?; rw [h]; simp

set_option maxHeartbeats 8000000 in
set_option maxRecDepth 100000 in
theorem rsign_any (key : ByteArray) (car n : Int) {w : World} {v : Value} {xs : List ByteArray} (hv : SS w v xs) :
    Calls Tryz.prog 47 #[.string key, .agg #[.int .i64 car, v], .int .i64 n] w fun e w' => e = .returned (.tuple #[headV (signZ key ⟨car, xs⟩ n), .int .i64 (signE key ⟨car, xs⟩ n)]) ∧ Below w.heap.size w w' := by
  obtain ⟨a, c, hva⟩ := hv.form2
  have hcap : xs.length ≤ c := by
    obtain ⟨a', c', e, h1, _⟩ := hv.opened
    rw [hva] at e
    injection e with _ _ e3
    omega
  subst hva
  have HVL := Lib.hid (fun W (hW : Below w.heap.size w W) => rvalid_any car (SS.below hv hW))
  have HI1 := Lib.hid (fun W => rin_any n 0 (xs.length : Int) W)
  have HCUT := Lib.hid (fun (k : Nat) (hk : k ≤ xs.length) W (hW : Below w.heap.size w W) => (SS.below hv hW).cut k hk)
  have HNO : Hid (¬ (key.size = 32 ∧ validB ⟨car, xs⟩ = true ∧ 0 ≤ n ∧ n ≤ (xs.length : Int)) → headV (signZ key ⟨car, xs⟩ n) = .agg #[.int .i64 0, .int .i64 0, .string ⟨#[]⟩, .string ⟨#[]⟩] ∧ signE key ⟨car, xs⟩ n = 180) := Lib.hid (fun h => by
    have e : signB key ⟨car, xs⟩ n = none := by unfold signB; rw [if_neg h]
    unfold signZ signE
    rw [e]
    exact ⟨rfl, rfl⟩)
  have HYS : Hid (key.size = 32 → validB ⟨car, xs⟩ = true → (0 ≤ n ∧ n ≤ (xs.length : Int)) → headV (signZ key ⟨car, xs⟩ n) = .agg #[.int .i64 car, .int .i64 n, .string (rootB (xs.take n.toNat)), .string (signedB key ⟨car, n, rootB (xs.take n.toNat), ⟨#[]⟩⟩)] ∧ signE key ⟨car, xs⟩ n = 0) := Lib.hid (fun h0 h1 h2 => by
    have e : signB key ⟨car, xs⟩ n = some (headS key car xs n.toNat) := by unfold signB; rw [if_pos ⟨h0, h1, h2⟩]
    unfold signZ signE
    rw [e]
    have e2 : (n.toNat : Int) = n := by omega
    unfold headS headV
    simp only [Option.getD_some, e2]
    exact ⟨trivial, by simp⟩)
  have HVP : Hid (validB ⟨car, xs⟩ = true → 0 ≤ car ∧ car ≤ 7 ∧ xs.length ≤ 60 ∧ ∀ s ∈ xs, s.size ≤ 1000) := Lib.hid (fun h => valid_parts h)
  generalize headV (signZ key ⟨car, xs⟩ n) = Z at *
  generalize signE key ⟨car, xs⟩ n = ER at *
  generalize validB ⟨car, xs⟩ = V at *
  obtain ⟨l, hl⟩ : ∃ l, l = xs.length := ⟨_, rfl⟩
  rw [← hl] at hcap HVL HI1 HNO HYS HVP HCUT ⊢
  have HLN := Lib.hid hl
  clear hl hv
  obtain ⟨W0, hW0⟩ : ∃ W0, W0 = (w.alloc (.cells #[.int .i64 car, .slice a l c] 26)).alloc (.cells #[.int .i64 0, .int .i64 0, .string ⟨#[]⟩, .string ⟨#[]⟩] 35) := ⟨_, rfl⟩
  have HB0 : Hid (Below w.heap.size w W0) := Lib.hid (by rw [hW0]; exact ((Below.refl _ _).alloc (Nat.le_refl _) _).alloc (by simp) _)
  have HZB : Hid (∀ W, Below W0.heap.size W0 W → W.heap[w.heap.size + 1]? = some (.cells #[.int .i64 0, .int .i64 0, .string ⟨#[]⟩, .string ⟨#[]⟩] 35 (0, 0))) := Lib.hid (fun W hW => by
    have e2 : W0.heap[w.heap.size + 1]? = some (.cells #[.int .i64 0, .int .i64 0, .string ⟨#[]⟩, .string ⟨#[]⟩] 35 (0, 0)) := by rw [hW0]; exact at_second w _ _
    exact kept_block e2 hW)
  have HC : Hid (∀ W, Below W0.heap.size W0 W → (W.cell? ⟨w.heap.size, 0, none⟩ = some (.int .i64 car) ∧ W.cell? ⟨w.heap.size, 1, none⟩ = some (.slice a l c)) ∧ W.cell? ⟨w.heap.size + 1, 0, none⟩ = some (.int .i64 0) ∧ W.cell? ⟨w.heap.size + 1, 1, none⟩ = some (.int .i64 0) ∧ W.cell? ⟨w.heap.size + 1, 2, none⟩ = some (.string ⟨#[]⟩) ∧ W.cell? ⟨w.heap.size + 1, 3, none⟩ = some (.string ⟨#[]⟩)) := Lib.hid (fun W hW => by
    have e1 : W0.heap[w.heap.size]? = some (.cells #[.int .i64 car, .slice a l c] 26 (0, 0)) := by rw [hW0]; exact at_past w _ _
    have := two_cells (kept_block e1 hW)
    exact ⟨⟨this.1, this.2.1⟩, four_cells (HZB.out W hW)⟩)
  have HZF : Hid (∀ W, Below W0.heap.size W0 W → ∀ j, W.frozen? ⟨w.heap.size + 1, j, none⟩ = false) := Lib.hid (fun W hW => free_of (HZB.out W hW))
  have HW0 := Lib.hid hW0
  clear hW0
  by_cases h0 : key.size = 32
  · have t0 : ¬ ¬ (key.size : Int) = 32 := by omega
    cases V with
    | false =>
      obtain ⟨hz, he⟩ := HNO.out (by simp)
      have HF := Lib.hid hz
      have HE := Lib.hid he
      clear hz he HNO HYS HVP HCUT
      go_enter Tryz.func47, Tryz.ntmps47
      go_upto_region 1 with fail
      rw [← HW0.out]
      obtain ⟨⟨c0, c1⟩, z0, z1, z2, z3⟩ := HC.out W0 (Below.refl _ _)
      have zf := HZF.out W0 (Below.refl _ _)
      go_wp2_with (go_at_call 45; refine (HVL.out _ HB0.out).mono ?_; rintro e w1 ⟨rfl, hb1⟩; have HW1 := Lib.hid hb1; obtain ⟨⟨d0, d1⟩, y0, y1, y2, y3⟩ := HC.out w1 hb1; have yf := HZF.out w1 hb1; clear hb1)
      exact bodyPost_ret (results_cellA_tmp rfl _ (w.heap.size + 1) 35 #[.int .i64 0, .int .i64 0, .string ⟨#[]⟩, .string ⟨#[]⟩] (0, 0) _ rfl (qheap (HZB.out w1 HW1.out) _ _ _ _) Tryz.underlying35 rfl infoHead) rfl ⟨by rw [HF.out, HE.out]; rfl, qbelow (HB0.out.trans (HW1.out.mono HB0.out.size)) (Nat.le_succ _) _ _ _ _⟩
    | true =>
      by_cases h1 : 0 ≤ n ∧ n ≤ (l : Int)
      · rw [decide_eq_true h1] at HI1
        obtain ⟨k, rfl⟩ := Int.eq_ofNat_of_zero_le h1.1
        have hkl : k ≤ l := by omega
        obtain ⟨hz, he⟩ := HYS.out h0 rfl h1
        obtain ⟨q1, q2, p1, p2⟩ := HVP.out rfl
        rw [Int.toNat_natCast] at hz
        have hlt : (xs.take k).length = k := by rw [List.length_take, ← HLN.out]; omega
        have HRt := Lib.hid (fun W (hW : Below w.heap.size w W) => r2root_any k k (Nat.le_refl _) hlt (HCUT.out k hkl W hW) (by omega) (fun s hs => by have := p2 s (List.mem_of_mem_take hs); omega))
        have hrs : (rootB (xs.take k)).size = 32 := rootB_size _
        have HSL := Lib.hid (fun W => rseal_any key car k (rootB (xs.take k)) ⟨#[]⟩ (by omega) ⟨q1, q2⟩ ⟨by omega, by omega⟩ (by omega) W)
        generalize rootB (xs.take k) = R at *
        generalize signedB key ⟨car, (k : Int), R, ⟨#[]⟩⟩ = SG at *
        have HF := Lib.hid hz
        have HE := Lib.hid he
        have u1 : (k : Int) ≤ (l : Int) := by omega
        have u0 : (0 : Int) ≤ (k : Int) := by omega
        have u2 : k ≤ c := by omega
        clear hz he HNO HYS HVP HCUT p1 p2 hlt h1 q1 q2
        go_enter Tryz.func47, Tryz.ntmps47
        go_upto_region 1 with fail
        rw [← HW0.out]
        obtain ⟨⟨c0, c1⟩, z0, z1, z2, z3⟩ := HC.out W0 (Below.refl _ _)
        go_upto_region 3 with (first | (go_at_call 45; refine (HVL.out _ HB0.out).mono ?_; rintro e w1 ⟨rfl, hb1⟩; have HW1 := Lib.hid hb1; obtain ⟨⟨d0, d1⟩, y0, y1, y2, y3⟩ := HC.out w1 hb1; clear hb1) | (go_at_call 55; (with_reducible refine (HI1.out _).mono ?_); rintro e w' ⟨rfl, hw'⟩; replace hw' := hw'.symm; subst hw'))
        clear c0 c1 z0 z1 z2 z3 d0 d1 y0 y1 y2 y3
        have HB1 := Lib.hid (HB0.out.trans (HW1.out.mono HB0.out.size))
        refine wp_region_noPanic ?_
        refine wp_region_lexB [.q 0, .q 1, .q 2, .q 3, .q 4, .q 5, .q 6, .an 9, .b 7, .q 8, .co 9, .b 10] (by kernel_rfl) (by kernel_rfl) (fun _ _ _ _ h => h) ?_
        iterate 7 (refine wpFl_qL (v := ?_) rfl (Or.inl ⟨by rfl, ?_⟩) ?_; rotate_left; (focus (intro w' hSw; (try dsimp only [OldKept] at hSw); obtain ⟨⟨c0, c1⟩, z0, z1, z2, z3⟩ := HC.out w' (below_next HW1.out hSw); go_simp; (try with_reducible rfl); done)); simp only [Act.put, List.setIfInBounds_toArray, List.set_cons_zero, List.set_cons_succ])
        refine wpFl_anL rfl (.cells #[.int .i64 0, .int .i64 0, .string ⟨#[]⟩, .string ⟨#[]⟩] 35 (0, 0)) (fun n => .pointer (some ⟨n, 0, none⟩)) ⟨by rfl, fun w' => ?_⟩ ?_
        focus (go_simp; done)
        refine wpFl_bL rfl (fun w2 hn2 hs2 K hK => ?_)
        go_simp
        go_at_call 72
        refine (HRt.out _ (below_next HB1.out hs2)).mono ?_
        rintro e w3 ⟨rfl, hb3⟩
        refine hK.out _ _ (below_next hs2 hb3) (Keeps.below hb3) ?_
        clear hK K hn2 hs2 hb3
        refine wpFl_qL (v := ?_) rfl (Or.inl ⟨by rfl, ?_⟩) ?_
        rotate_left
        focus (intro w' hSw; (try dsimp only [OldKept] at hSw); go_simp; (try with_reducible rfl); done)
        simp only [Act.put, List.setIfInBounds_toArray, List.set_cons_zero, List.set_cons_succ]
        refine wpFl_coL rfl (.cells #[.int .i64 0, .int .i64 0, .string ⟨#[]⟩, .string ⟨#[]⟩] 35 (0, 0)) (fun n => .pointer (some ⟨n, 0, none⟩)) (by rfl) (N' := []) (by rfl) (fun hbk w4 hn_w4 hs_w4 hb_hbk hz_hbk => ?_)
        simp only [Act.put, List.setIfInBounds_toArray, List.set_cons_zero, List.set_cons_succ]
        refine wpFl_bL rfl (fun w5 hn5 hs5 K hK => ?_)
        have HZ5 := Lib.hid (kept_block hz_hbk hn5)
        obtain ⟨z0, z1, z2, z3⟩ := four_cells HZ5.out
        have zf := free_of HZ5.out
        go_simp
        refine hK.out _ _ (qbelow hs5 hb_hbk _ _ _ _) Keeps.nil ?_
        clear hK K
        have HB6 := Lib.hid (qbelow hs5 hb_hbk (.int .i64 car) (.int .i64 k) (.string R) (.string ⟨#[]⟩))
        have HH6 := Lib.hid (qheap HZ5.out (.int .i64 car) (.int .i64 k) (.string R) (.string ⟨#[]⟩))
        generalize ((((w5.setCell ⟨hbk, 0, none⟩ (.int .i64 car)).setCell ⟨hbk, 1, none⟩ (.int .i64 k)).setCell ⟨hbk, 2, none⟩ (.string R)).setCell ⟨hbk, 3, none⟩ (.string ⟨#[]⟩)) = w6 at *
        have hbw : w1.heap.size ≤ hbk := hb_hbk
        have hne : ¬ w.heap.size + 1 = hbk := by
          have h1 := (Array.getElem?_eq_some_iff.1 (HZB.out w1 HW1.out)).1
          omega
        clear z0 z1 z2 z3 zf HZ5 hz_hbk hb_hbk hn5 hs5 hn_w4 hs_w4
        refine wpFl_nil ?_
        refine NoPanic.normal ?_
        obtain ⟨c0, c1, c2, c3⟩ := four_cells HH6.out
        go_upto_region 5 with (go_at_call 82; refine (HSL.out _).mono ?_; rintro e w7 ⟨rfl, hb7⟩; have HH7 := Lib.hid (kept_block HH6.out hb7); have HB7 := Lib.hid (below_next HB6.out hb7); obtain ⟨e0, e1, e2, e3⟩ := four_cells HH7.out; have ef := free_of HH7.out; clear hb7)
        clear c0 c1 c2 c3 e0 e1 e2 e3 ef
        have HH8 := Lib.hid (heap_setCell_same (i := 3) (.string SG) HH7.out)
        have HB8 := Lib.hid (HB7.out.setCell (p := ⟨hbk, 3, none⟩) hbw (.string SG))
        have HZ8 : Hid ((w7.setCell ⟨hbk, 3, none⟩ (.string SG)).heap[w.heap.size + 1]? = some (.cells #[.int .i64 0, .int .i64 0, .string ⟨#[]⟩, .string ⟨#[]⟩] 35 (0, 0))) := Lib.hid ((Below.heap_setCell _ _ _ _ hne).trans (kept_block (HZB.out w1 HW1.out) HB7.out))
        generalize w7.setCell ⟨hbk, 3, none⟩ (.string SG) = w8 at *
        obtain ⟨c0, c1, c2, c3⟩ := four_cells HH8.out
        obtain ⟨z0, z1, z2, z3⟩ := four_cells HZ8.out
        have zf := free_of HZ8.out
        go_wp2
        exact bodyPost_ret (results_cellA_tmp rfl _ (w.heap.size + 1) 35 #[.int .i64 car, .int .i64 k, .string R, .string SG] (0, 0) _ rfl (qheap HZ8.out _ _ _ _) Tryz.underlying35 rfl infoHead) rfl ⟨by rw [HF.out, HE.out]; rfl, qbelow (below_next HB1.out HB8.out) (Nat.le_succ _) _ _ _ _⟩
      · rw [decide_eq_false h1] at HI1
        obtain ⟨hz, he⟩ := HNO.out (fun h => h1 h.2.2)
        have HF := Lib.hid hz
        have HE := Lib.hid he
        clear hz he HNO HYS HVP HCUT h1
        go_enter Tryz.func47, Tryz.ntmps47
        go_upto_region 1 with fail
        rw [← HW0.out]
        obtain ⟨⟨c0, c1⟩, z0, z1, z2, z3⟩ := HC.out W0 (Below.refl _ _)
        have zf := HZF.out W0 (Below.refl _ _)
        go_wp2_with (first | (go_at_call 45; refine (HVL.out _ HB0.out).mono ?_; rintro e w1 ⟨rfl, hb1⟩; have HW1 := Lib.hid hb1; obtain ⟨⟨d0, d1⟩, y0, y1, y2, y3⟩ := HC.out w1 hb1; have yf := HZF.out w1 hb1; clear hb1) | (go_at_call 55; (with_reducible refine (HI1.out _).mono ?_); rintro e w' ⟨rfl, hw'⟩; replace hw' := hw'.symm; subst hw'))
        exact bodyPost_ret (results_cellA_tmp rfl _ (w.heap.size + 1) 35 #[.int .i64 0, .int .i64 0, .string ⟨#[]⟩, .string ⟨#[]⟩] (0, 0) _ rfl (qheap (HZB.out w1 HW1.out) _ _ _ _) Tryz.underlying35 rfl infoHead) rfl ⟨by rw [HF.out, HE.out]; rfl, qbelow (HB0.out.trans (HW1.out.mono HB0.out.size)) (Nat.le_succ _) _ _ _ _⟩
  · obtain ⟨hz, he⟩ := HNO.out (fun h => h0 h.1)
    have HF := Lib.hid hz
    have HE := Lib.hid he
    have t0 : ¬ (key.size : Int) = 32 := by omega
    have HW1 : Hid (Below W0.heap.size W0 W0) := Lib.hid (Below.refl _ _)
    clear hz he HNO HYS HVP HCUT
    go_enter Tryz.func47, Tryz.ntmps47
    go_upto_region 1 with fail
    rw [← HW0.out]
    obtain ⟨⟨c0, c1⟩, z0, z1, z2, z3⟩ := HC.out W0 (Below.refl _ _)
    have zf := HZF.out W0 (Below.refl _ _)
    go_wp2_with fail
    exact bodyPost_ret (results_cellA_tmp rfl _ (w.heap.size + 1) 35 #[.int .i64 0, .int .i64 0, .string ⟨#[]⟩, .string ⟨#[]⟩] (0, 0) _ rfl (qheap (HZB.out W0 HW1.out) _ _ _ _) Tryz.underlying35 rfl infoHead) rfl ⟨by rw [HF.out, HE.out]; rfl, qbelow (HB0.out.trans (HW1.out.mono HB0.out.size)) (Nat.le_succ _) _ _ _ _⟩
end Go.Proofs.YtinfpbkbnhcifaaGreatDoor

/- The reference's SamePart and convicts, and what convicts says of checked parts. The conditions: what the slices read as. -/
namespace Go.Proofs.YtinfpbkbnhcifaaGreatDoor
open Go.RowKit Go.BigFrame

/-! ### Plain -/
def convPair (x y : ItemP) : Bool := decide (x.idx = y.idx ∧ x.ent ≠ y.ent)
def convR (a b : PartP) : Bool :=
  decide (a.head.car = b.head.car) && (decide (a.head.siz = b.head.siz ∧ a.head.root ≠ b.head.root) || a.items.any fun x => b.items.any (convPair x))
theorem itemsOk_asc {root : ByteArray} {n : Int} : ∀ {l : List ItemP} {prev : Option Int}, itemsOk root n l prev = true → l.Pairwise (fun x y => x.idx < y.idx) ∧ ∀ j, prev = some j → ∀ x ∈ l, j < x.idx := by
  intro l
  induction l with
  | nil => intro prev _; exact ⟨List.Pairwise.nil, fun _ _ x hx => absurd hx List.not_mem_nil⟩
  | cons y l ih =>
    intro prev h
    rw [itemsOk, Bool.and_eq_true] at h
    obtain ⟨h1, h2⟩ := ih h.2
    have h3 := h.1
    unfold itemOk at h3
    rw [Bool.and_eq_true, Bool.and_eq_true] at h3
    have h4 := of_decide_eq_true h3.1.1
    refine ⟨List.pairwise_cons.2 ⟨fun x hx => h2 _ rfl x hx, h1⟩, fun j hj x hx => ?_⟩
    have h5 := h4 j hj
    rcases List.mem_cons.1 hx with e | e
    · rw [e]; exact h5
    · have := h2 _ rfl x e
      omega
theorem known_asc : ∀ {l : List ItemP}, l.Pairwise (fun x y => x.idx < y.idx) → ∀ (i : Int) (s : ByteArray), knownB l i = some s ↔ ∃ x ∈ l, x.idx = i ∧ x.ent = s := by
  intro l
  induction l with
  | nil => intro _ i s; simp [knownB]
  | cons y l ih =>
    intro h i s
    obtain ⟨h1, h2⟩ := List.pairwise_cons.1 h
    have ih' := ih h2 i
    rw [knownB]
    cases e : knownB l i with
    | some u =>
      obtain ⟨x, hx, hxi, hxe⟩ := (ih' u).1 e
      have hlt := h1 x hx
      constructor
      · intro hs
        injection hs with hs
        exact ⟨x, List.mem_cons_of_mem _ hx, hxi, hxe.trans hs⟩
      · rintro ⟨z, hz, hzi, hze⟩
        rcases List.mem_cons.1 hz with e' | e'
        · subst e'; omega
        · have := (ih' s).2 ⟨z, e', hzi, hze⟩
          rw [e] at this
          exact this
    | none =>
      by_cases hy : y.idx = i
      · simp only [if_pos hy]
        constructor
        · intro hs
          injection hs with hs
          exact ⟨y, List.mem_cons_self .., hy, hs⟩
        · rintro ⟨z, hz, hzi, hze⟩
          rcases List.mem_cons.1 hz with e' | e'
          · subst e'; rw [hze]
          · have := (ih' s).2 ⟨z, e', hzi, hze⟩
            rw [e] at this
            cases this
      · simp only [if_neg hy]
        constructor
        · intro hs; cases hs
        · rintro ⟨z, hz, hzi, hze⟩
          rcases List.mem_cons.1 hz with e' | e'
          · subst e'; exact absurd hzi hy
          · have := (ih' s).2 ⟨z, e', hzi, hze⟩
            rw [e] at this
            cases this
theorem conv_asc {a b : PartP} (h : a.items.Pairwise (fun x y => x.idx < y.idx)) : convB a b = convR a b := by
  unfold convB convR
  congr 2
  rw [Bool.eq_iff_iff, List.any_eq_true, List.any_eq_true]
  constructor
  · rintro ⟨y, hy, hd⟩
    unfold differs at hd
    cases e : knownB a.items y.idx with
    | none => rw [e] at hd; cases hd
    | some s =>
      rw [e] at hd
      obtain ⟨x, hx, hxi, hxe⟩ := (known_asc h _ _).1 e
      refine ⟨x, hx, List.any_eq_true.2 ⟨y, hy, ?_⟩⟩
      unfold convPair
      refine decide_eq_true ⟨hxi, fun e' => of_decide_eq_true hd (by rw [← hxe, e'])⟩
  · rintro ⟨x, hx, hd⟩
    obtain ⟨y, hy, hd⟩ := List.any_eq_true.1 hd
    unfold convPair at hd
    obtain ⟨h1, h2⟩ := of_decide_eq_true hd
    refine ⟨y, hy, ?_⟩
    unfold differs
    rw [(known_asc h y.idx x.ent).2 ⟨x, hx, h1, rfl⟩]
    exact decide_eq_true h2
theorem convictsR (key : ByteArray) (a b : PartP) : convictsB key a b = (checkB key a && (checkB key b && convR a b)) := by
  unfold convictsB
  cases h : checkB key a with
  | false => rfl
  | true =>
    unfold checkB at h
    rw [Bool.and_eq_true] at h
    rw [conv_asc (itemsOk_asc h.2).1]

/-! ### SamePart, of parts that are equal -/
set_option maxHeartbeats 4000000 in
set_option maxRecDepth 100000 in
theorem samePart_self (c1 c2 : Int) (c3 c4 : ByteArray) {w : World} {va vb : Value} {its : List ItemP} (ha : IT w va its) (hb : IT w vb its) :
    Calls Tryz.prog 20 #[.agg #[.int .i64 c1, .int .i64 c2, .string c3, .string c4, va], .agg #[.int .i64 c1, .int .i64 c2, .string c3, .string c4, vb]] w fun e w' => e = .returned (.bool true) ∧ Below w.heap.size w w' := by
  obtain ⟨a1, k1, rfl⟩ := ha.form2
  obtain ⟨a2, k2, rfl⟩ := hb.form2
  obtain ⟨n, hn⟩ : ∃ n, n = its.length := ⟨_, rfl⟩
  rw [← hn] at ha hb ⊢
  clear hn
  obtain ⟨W2, hW2⟩ : ∃ W2, W2 = (w.alloc (.cells #[.int .i64 c1, .int .i64 c2, .string c3, .string c4, .slice a1 n k1] 38)).alloc (.cells #[.int .i64 c1, .int .i64 c2, .string c3, .string c4, .slice a2 n k2] 38) := ⟨_, rfl⟩
  have HB2 : Hid (Below w.heap.size w W2) := Lib.hid (by rw [hW2]; exact ((Below.refl _ _).alloc (Nat.le_refl _) _).alloc (by simp) _)
  have hx : W2.heap[w.heap.size]? = some (.cells #[.int .i64 c1, .int .i64 c2, .string c3, .string c4, .slice a1 n k1] 38 (0, 0)) := by rw [hW2]; exact at_past w _ _
  have hy : W2.heap[w.heap.size + 1]? = some (.cells #[.int .i64 c1, .int .i64 c2, .string c3, .string c4, .slice a2 n k2] 38 (0, 0)) := by rw [hW2]; exact at_second w _ _
  have HS : Hid (Calls Tryz.prog 28 #[.slice a1 n k1, .slice a2 n k2] W2 fun e w' => e = .returned (.bool true) ∧ Below W2.heap.size W2 w') := Lib.hid (by
    have h := sameItems_any (IT.below ha HB2.out) (IT.below hb HB2.out)
    rwa [decide_eq_true rfl] at h)
  obtain ⟨x0, x1, x2, x3, x4⟩ := pfive hx
  obtain ⟨y0, y1, y2, y3, y4⟩ := pfive hy
  have st3 : (c3.toList == c3.toList) = true := by rw [same_str]; exact decide_eq_true rfl
  have st4 : (c4.toList == c4.toList) = true := by rw [same_str]; exact decide_eq_true rfl
  have HW2 := Lib.hid hW2
  clear hx hy hW2 ha hb
  go_enter Tryz.func20, Tryz.ntmps20
  go_upto_region 1 with fail
  rw [← HW2.out]
  go_wp2_with fail
  refine HS.out.mono ?_
  rintro e w3 ⟨rfl, hb3⟩
  go_wp2
  go_ret
  exact ⟨rfl, HB2.out.trans (hb3.mono HB2.out.size)⟩

/-! ### convicts -/
theorem any_drop {α : Type} {l : List α} {k : Nat} {y : α} (f : α → Bool) (h : l[k]? = some y) : (l.drop k).any f = (f y || (l.drop (k + 1)).any f) := by
  rw [drop_get h]
  rfl
theorem any_drop_end {α : Type} {l : List α} {k : Nat} (f : α → Bool) (h : l.length ≤ k) : (l.drop k).any f = false := by
  rw [List.drop_eq_nil_of_le h]
  rfl
set_option maxHeartbeats 8000000 in
set_option maxRecDepth 100000 in
theorem rconv_any (c1 s1 : Int) (r1 l1 : ByteArray) (c2 s2 : Int) (r2 l2 : ByteArray) {w : World} {v1 v2 : Value} {ya yb : List (ItemP × Value)} (ha : IS w v1 ya) (hb : IS w v2 yb) :
    Calls Tryz.prog 59 #[.agg #[.int .i64 c1, .int .i64 s1, .string r1, .string l1, v1], .agg #[.int .i64 c2, .int .i64 s2, .string r2, .string l2, v2]] w fun e w' => e = .returned (.bool (convR ⟨⟨c1, s1, r1, l1⟩, ya.map (·.1)⟩ ⟨⟨c2, s2, r2, l2⟩, yb.map (·.1)⟩)) ∧ Below w.heap.size w w' := by
  obtain ⟨a1, k1, rfl, g1, g2, g3⟩ := ha.opened
  obtain ⟨a2, k2, rfl, g4, g5, g6⟩ := hb.opened
  have HA3 := Lib.hid g3
  have HB3 := Lib.hid g6
  unfold maxLen at g2 g5
  obtain ⟨R, hR⟩ : ∃ R, R = convR ⟨⟨c1, s1, r1, l1⟩, ya.map (·.1)⟩ ⟨⟨c2, s2, r2, l2⟩, yb.map (·.1)⟩ := ⟨_, rfl⟩
  have HR : Hid (R = (decide (c1 = c2) && (decide (s1 = s2 ∧ r1 ≠ r2) || ya.any fun x => yb.any fun y => convPair x.1 y.1))) := Lib.hid (by
    rw [hR]
    unfold convR
    simp only [List.any_map, Function.comp_def])
  rw [← hR]
  clear hR g3 g6 ha hb
  obtain ⟨n1, hn1⟩ : ∃ n, n = ya.length := ⟨_, rfl⟩
  obtain ⟨n2, hn2⟩ : ∃ n, n = yb.length := ⟨_, rfl⟩
  rw [← hn1] at g1 ⊢
  rw [← hn2] at g4 ⊢
  have HN1 := Lib.hid hn1
  have HN2 := Lib.hid hn2
  clear hn1 hn2
  obtain ⟨W0, hW0⟩ : ∃ W0, W0 = (w.alloc (.cells #[.int .i64 c1, .int .i64 s1, .string r1, .string l1, .slice a1 n1 k1] 38)).alloc (.cells #[.int .i64 c2, .int .i64 s2, .string r2, .string l2, .slice a2 n2 k2] 38) := ⟨_, rfl⟩
  have HB0 : Hid (Below w.heap.size w W0) := Lib.hid (by rw [hW0]; exact ((Below.refl _ _).alloc (Nat.le_refl _) _).alloc (by simp) _)
  have HC : Hid (∀ W, Below W0.heap.size W0 W → (W.cell? ⟨w.heap.size, 0, none⟩ = some (.int .i64 c1) ∧ W.cell? ⟨w.heap.size, 1, none⟩ = some (.int .i64 s1) ∧ W.cell? ⟨w.heap.size, 2, none⟩ = some (.string r1) ∧ W.cell? ⟨w.heap.size, 3, none⟩ = some (.string l1) ∧ W.cell? ⟨w.heap.size, 4, none⟩ = some (.slice a1 n1 k1)) ∧ (W.cell? ⟨w.heap.size + 1, 0, none⟩ = some (.int .i64 c2) ∧ W.cell? ⟨w.heap.size + 1, 1, none⟩ = some (.int .i64 s2) ∧ W.cell? ⟨w.heap.size + 1, 2, none⟩ = some (.string r2) ∧ W.cell? ⟨w.heap.size + 1, 3, none⟩ = some (.string l2) ∧ W.cell? ⟨w.heap.size + 1, 4, none⟩ = some (.slice a2 n2 k2))) := Lib.hid (fun W hW => by
    have e1 : W0.heap[w.heap.size]? = some (.cells #[.int .i64 c1, .int .i64 s1, .string r1, .string l1, .slice a1 n1 k1] 38 (0, 0)) := by rw [hW0]; exact at_past w _ _
    have e2 : W0.heap[w.heap.size + 1]? = some (.cells #[.int .i64 c2, .int .i64 s2, .string r2, .string l2, .slice a2 n2 k2] 38 (0, 0)) := by rw [hW0]; exact at_second w _ _
    exact ⟨pfive (kept_block e1 hW), pfive (kept_block e2 hW)⟩)
  have HW0 := Lib.hid hW0
  clear hW0
  by_cases hcc : c1 = c2
  · subst hcc
    by_cases hsr : s1 = s2 ∧ r1 ≠ r2
    · have HF : Hid (R = true) := Lib.hid (by rw [HR.out, decide_eq_true hsr]; simp)
      have hst : (r1.toList == r2.toList) = false := by rw [same_str]; exact decide_eq_false hsr.2
      obtain ⟨rfl, _⟩ := hsr
      go_enter Tryz.func59, Tryz.ntmps59
      go_upto_region 1 with fail
      rw [← HW0.out]
      obtain ⟨⟨x0, x1, x2, x3, x4⟩, y0, y1, y2, y3, y4⟩ := HC.out W0 (Below.refl _ _)
      go_wp2
      go_ret
      exact ⟨by rw [HF.out]; rfl, HB0.out⟩
    · have HF : Hid (R = (ya.drop 0).any fun x => yb.any fun y => convPair x.1 y.1) := Lib.hid (by rw [HR.out, decide_eq_false hsr]; simp)
      clear HR
      go_enter Tryz.func59, Tryz.ntmps59
      go_upto_region 1 with fail
      rw [← HW0.out]
      obtain ⟨⟨x0, x1, x2, x3, x4⟩, y0, y1, y2, y3, y4⟩ := HC.out W0 (Below.refl _ _)
      go_upto_region 3 with fail
      go_cut [29] (fun t wx => t = .bool false ∧ wx = W0)
      case first =>
        by_cases hs : s1 = s2
        · subst hs
          have hrr : r1 = r2 := Classical.byContradiction fun e => hsr ⟨rfl, e⟩
          subst hrr
          have hst : (r1.toList == r1.toList) = true := by rw [same_str]; exact decide_eq_true rfl
          go_wp2
          go_meet
          exact ⟨rfl, rfl⟩
        · have hd : decide (s1 = s2) = false := decide_eq_false hs
          go_wp2
          go_meet
          exact ⟨rfl, rfl⟩
      case rest =>
      obtain ⟨ht, hw⟩ := hcut
      subst ht
      replace hw := hw.symm
      subst hw
      clear x0 x1 x2 x3 x4 y0 y1 y2 y3 y4 hsr
      have HBs : Hid (Below W0.heap.size W0 W0) := Lib.hid (Below.refl _ _)
      go_wp2
      go_loopw [5] (fun i wr => ∃ k : Nat, k ≤ n1 ∧ i = .int .i64 k ∧ Hid (R = (ya.drop k).any fun x => yb.any fun y => convPair x.1 y.1) ∧ Hid (Below W0.heap.size W0 wr)) (fun i _ => n1 - (intOf i).toNat)
      case atStart => exact ⟨0, by omega, rfl, HF, HBs⟩
      case round =>
        clear HF HBs
        obtain ⟨k, hk, rfl, hR, hB⟩ := hrel
        obtain ⟨⟨x0, x1, x2, x3, x4⟩, y0, y1, y2, y3, y4⟩ := HC.out wr hB.out
        by_cases hlt : k < n1
        · obtain ⟨x, ex⟩ : ∃ y, ya[k]? = some y := ⟨_, List.getElem?_eq_getElem (by rw [← HN1.out]; exact hlt)⟩
          obtain ⟨b, off, rfl, hb, d0, d1, _⟩ := HA3.out k x ex
          have HX := Lib.hid (fun W (hW : Below W0.heap.size W0 W) => And.intro (cell_keepB (HB0.out.trans (hW.mono HB0.out.size)) hb d0) (cell_keepB (HB0.out.trans (hW.mono HB0.out.size)) hb d1))
          have HR2 : Hid (R = ((yb.drop 0).any (fun y => convPair x.1 y.1) || (ya.drop (k + 1)).any fun x => yb.any fun y => convPair x.1 y.1)) := Lib.hid (by rw [hR.out, any_drop _ ex]; rfl)
          have tk : (k : Int) < (n1 : Int) := by omega
          have tk0 : (0 : Int) ≤ (k : Int) := by omega
          obtain ⟨⟨ix, en, pr⟩, pv⟩ := x
          simp only at HX HR2
          clear ex d0 d1 hR
          obtain ⟨RN, hRN⟩ : ∃ RN, RN = (ya.drop (k + 1)).any fun x => yb.any fun y => convPair x.1 y.1 := ⟨_, rfl⟩
          have HRN := Lib.hid hRN
          rw [← hRN] at HR2
          clear hRN
          go_wp2
          go_loopw [6] (fun i wr => ∃ q : Nat, q ≤ n2 ∧ i = .int .i64 q ∧ Hid (R = ((yb.drop q).any (fun y => convPair ⟨ix, en, pr⟩ y.1) || RN)) ∧ Hid (Below W0.heap.size W0 wr)) (fun i _ => n2 - (intOf i).toNat)
          case atStart => exact ⟨0, by omega, rfl, HR2, hB⟩
          case round =>
            clear HR2 hB x0 x1 x2 x3 x4 y0 y1 y2 y3 y4
            obtain ⟨q, hq, rfl, hR, hB⟩ := hrel
            obtain ⟨⟨x0, x1, x2, x3, x4⟩, y0, y1, y2, y3, y4⟩ := HC.out wr hB.out
            by_cases hlq : q < n2
            · obtain ⟨y, ey⟩ : ∃ y, yb[q]? = some y := ⟨_, List.getElem?_eq_getElem (by rw [← HN2.out]; exact hlq)⟩
              obtain ⟨b', off', rfl, hb', d0, d1, _⟩ := HB3.out q y ey
              have HL : Hid (∀ W, Below wr.heap.size wr W → (W.cell? ⟨w.heap.size, 4, none⟩ = some (.slice (some ⟨b, off, none⟩) n1 k1) ∧ W.cell? ⟨w.heap.size + 1, 4, none⟩ = some (.slice (some ⟨b', off', none⟩) n2 k2)) ∧ (W.cell? ⟨b, off + k * 3, none⟩ = some (.int .i64 ix) ∧ W.cell? ⟨b, off + k * 3 + 1, none⟩ = some (.string en)) ∧ (W.cell? ⟨b', off' + q * 3, none⟩ = some (.int .i64 y.1.idx) ∧ W.cell? ⟨b', off' + q * 3 + 1, none⟩ = some (.string y.1.ent))) := Lib.hid (fun W hW => by
                have h := below_next hB.out hW
                obtain ⟨⟨_, _, _, _, p4⟩, _, _, _, _, q4⟩ := HC.out W h
                exact ⟨⟨p4, q4⟩, HX.out W h, cell_keepB (HB0.out.trans (h.mono HB0.out.size)) hb' d0, cell_keepB (HB0.out.trans (h.mono HB0.out.size)) hb' d1⟩)
              have HR2 : Hid (R = (convPair ⟨ix, en, pr⟩ y.1 || ((yb.drop (q + 1)).any (fun y => convPair ⟨ix, en, pr⟩ y.1) || RN))) := Lib.hid (by rw [hR.out, any_drop _ ey, Bool.or_assoc])
              obtain ⟨⟨iy, ey2, py⟩, pw⟩ := y
              simp only at HL HR2
              have tq : (q : Int) < (n2 : Int) := by omega
              have tq0 : (0 : Int) ≤ (q : Int) := by omega
              have HBn : Hid (Below W0.heap.size W0 wr.drew) := Lib.hid (below_next hB.out (Below.drew (Below.refl _ _)))
              clear d0 d1 ey hR
              go_upto_region 11 with fail
              clear x0 x1 x2 x3 x4 y0 y1 y2 y3 y4
              refine wp_region_noPanic ?_
              refine wp_region_lexB [.q 0, .q 1, .q 2, .q 3, .q 4, .q 5, .q 6, .q 7, .q 8, .q 9, .q 10, .q 11, .q 12, .q 13, .q 14, .q 15, .q 16, .q 17, .q 18, .q 19, .q 20, .q 21, .q 22, .q 23, .q 24, .q 25, .q 26, .q 27] (by kernel_rfl) (by kernel_rfl) (fun _ _ _ _ h => h) ?_
              iterate 12 (refine wpFl_qL (v := ?_) rfl (Or.inl ⟨by rfl, ?_⟩) ?_; rotate_left; (focus (intro w' hSw; (try dsimp only [OldKept] at hSw); obtain ⟨⟨e0, e1⟩, ⟨f0, f1⟩, g0, g1'⟩ := HL.out w' hSw; go_simp; (try with_reducible rfl); done)); simp only [Act.put, List.setIfInBounds_toArray, List.set_cons_zero, List.set_cons_succ])
              by_cases hii : ix = iy
              · subst hii
                refine wpFl_qL (v := .bool true) rfl (Or.inl ⟨by rfl, ?_⟩) ?_
                focus (intro w' hSw; go_simp; done)
                simp only [Act.put, List.setIfInBounds_toArray, List.set_cons_zero, List.set_cons_succ]
                iterate 13 (refine wpFl_qL (v := ?_) rfl (Or.inl ⟨by rfl, ?_⟩) ?_; rotate_left; (focus (intro w' hSw; (try dsimp only [OldKept] at hSw); obtain ⟨⟨e0, e1⟩, ⟨f0, f1⟩, g0, g1'⟩ := HL.out w' hSw; go_simp; (try with_reducible rfl); done)); simp only [Act.put, List.setIfInBounds_toArray, List.set_cons_zero, List.set_cons_succ])
                by_cases hee : en = ey2
                · subst hee
                  have hst : (en.toList == en.toList) = true := by rw [same_str]; exact decide_eq_true rfl
                  have HF : Hid (R = ((yb.drop (q + 1)).any (fun y => convPair ⟨ix, en, pr⟩ y.1) || RN)) := Lib.hid (by rw [HR2.out]; unfold convPair; rw [decide_eq_false (fun h => h.2 rfl)]; rfl)
                  refine wpFl_qL (v := .bool false) rfl (Or.inl ⟨by rfl, ?_⟩) ?_
                  focus (intro w' hSw; go_simp; done)
                  simp only [Act.put, List.setIfInBounds_toArray, List.set_cons_zero, List.set_cons_succ]
                  refine wpFl_qL (v := ?_) rfl (Or.inl ⟨by rfl, ?_⟩) ?_
                  rotate_left
                  focus (intro w' hSw; (try dsimp only [OldKept] at hSw); go_simp; (try with_reducible rfl); done)
                  simp only [Act.put, List.setIfInBounds_toArray, List.set_cons_zero, List.set_cons_succ]
                  refine wpFl_nil ?_
                  refine NoPanic.normal ?_
                  go_wp2
                  go_roundw
                  case rel => exact ⟨q + 1, by omega, by go_num, HF, HBn⟩
                  case measure => simp [intOf]; omega
                · have hst : (en.toList == ey2.toList) = false := by rw [same_str]; exact decide_eq_false hee
                  have HF : Hid (R = true) := Lib.hid (by rw [HR2.out]; unfold convPair; rw [decide_eq_true ⟨rfl, hee⟩]; rfl)
                  refine wpFl_qL (v := .bool true) rfl (Or.inl ⟨by rfl, ?_⟩) ?_
                  focus (intro w' hSw; go_simp; done)
                  simp only [Act.put, List.setIfInBounds_toArray, List.set_cons_zero, List.set_cons_succ]
                  refine wpFl_qL (v := ?_) rfl (Or.inl ⟨by rfl, ?_⟩) ?_
                  rotate_left
                  focus (intro w' hSw; (try dsimp only [OldKept] at hSw); go_simp; (try with_reducible rfl); done)
                  simp only [Act.put, List.setIfInBounds_toArray, List.set_cons_zero, List.set_cons_succ]
                  refine wpFl_nil ?_
                  refine NoPanic.normal ?_
                  go_wp2
                  go_ret
                  exact ⟨by rw [HF.out]; rfl, HB0.out.trans (HBn.out.mono HB0.out.size)⟩
              · have hd : decide (ix = iy) = false := decide_eq_false hii
                have HF : Hid (R = ((yb.drop (q + 1)).any (fun y => convPair ⟨ix, en, pr⟩ y.1) || RN)) := Lib.hid (by rw [HR2.out]; unfold convPair; rw [decide_eq_false (fun h => hii h.1)]; rfl)
                refine wpFl_qL (v := .bool false) rfl (Or.inl ⟨by rfl, ?_⟩) ?_
                focus (intro w' hSw; go_simp; done)
                simp only [Act.put, List.setIfInBounds_toArray, List.set_cons_zero, List.set_cons_succ]
                refine wpFl_qL (v := ?_) rfl (Or.inl ⟨by rfl, ?_⟩) ?_
                rotate_left
                focus (intro w' hSw; (try dsimp only [OldKept] at hSw); go_simp; (try with_reducible rfl); done)
                simp only [Act.put, List.setIfInBounds_toArray, List.set_cons_zero, List.set_cons_succ]
                iterate 13 (refine wpFl_qL (v := undef) rfl (Or.inr ⟨by rfl, rfl⟩) ?_; simp only [Act.put, List.setIfInBounds_toArray, List.set_cons_zero, List.set_cons_succ])
                refine wpFl_qL (v := ?_) rfl (Or.inl ⟨by rfl, ?_⟩) ?_
                rotate_left
                focus (intro w' hSw; (try dsimp only [OldKept] at hSw); go_simp; (try with_reducible rfl); done)
                simp only [Act.put, List.setIfInBounds_toArray, List.set_cons_zero, List.set_cons_succ]
                refine wpFl_nil ?_
                refine NoPanic.normal ?_
                go_wp2
                go_roundw
                case rel => exact ⟨q + 1, by omega, by go_num, HF, HBn⟩
                case measure => simp [intOf]; omega
            · have tq : ¬ (q : Int) < (n2 : Int) := by omega
              have HF : Hid (R = RN) := Lib.hid (by rw [hR.out, any_drop_end _ (by rw [← HN2.out]; omega), Bool.false_or])
              go_wp2
              go_roundw
              case rel => exact ⟨k + 1, by omega, by go_num, Lib.hid (HF.out.trans HRN.out), hB⟩
              case measure => simp [intOf]; omega
        · have tk : ¬ (k : Int) < (n1 : Int) := by omega
          have HF : Hid (R = false) := Lib.hid (by rw [hR.out, any_drop_end _ (by rw [← HN1.out]; omega)])
          go_wp2
          go_ret
          exact ⟨by rw [HF.out]; rfl, HB0.out.trans (hB.out.mono HB0.out.size)⟩
  · have HF : Hid (R = false) := Lib.hid (by rw [HR.out, decide_eq_false hcc]; rfl)
    go_enter Tryz.func59, Tryz.ntmps59
    go_upto_region 1 with fail
    rw [← HW0.out]
    obtain ⟨⟨x0, x1, x2, x3, x4⟩, y0, y1, y2, y3, y4⟩ := HC.out W0 (Below.refl _ _)
    go_wp2
    go_ret
    exact ⟨by rw [HF.out]; rfl, HB0.out⟩
end Go.Proofs.YtinfpbkbnhcifaaGreatDoor
