/- slices.Clone at strings. The conditions: what the slice reads as, lengths. -/
import Derived.Test.YtinfpbkbnhcifaaGreatDoorQShelfB
import Derived.Test.YtinfpbkbnhcifaaGreatDoorQRS6
import Derived.Test.YtinfpbkbnhcifaaGreatDoorQMR3
import Derived.Deep.DeepCutAuto
import Derived.Test.YtinfpbkbnhcifaaGreatDoorQLX1
import Derived.Test.YtinfpbkbnhcifaaGreatDoorQJN2
namespace Go.Proofs.YtinfpbkbnhcifaaGreatDoor
open Go.RowKit Go.BigFrame

theorem clone_any {w : World} {v : Value} {xs : List ByteArray} (hv : SS w v xs) (hl : xs.length ≤ 100000) : Calls Tryz.prog 79 #[v] w fun e w' => ∃ v', e = .returned v' ∧ OwnS w' w.heap.size v' xs ∧ Below w.heap.size w w' := by
  obtain ⟨a, c, rfl, l1, l2, l3⟩ := hv.opened
  cases a with
  | none =>
    have h0 : xs = [] := by
      cases xs with
      | nil => rfl
      | cons x xs => obtain ⟨b, off, e, _⟩ := l3 0 x rfl; cases e
    subst h0
    exact (Tryz.slices_Clone_string_nil 0 c w).mono fun e w' ⟨h1, h2⟩ => by subst h2; exact ⟨_, h1, OwnE.nil _ _ _ _, Below.refl _ _⟩
  | some a =>
    rcases Nat.eq_zero_or_pos xs.length with h0 | h0
    · have h0 : xs = [] := List.eq_nil_of_length_eq_zero h0
      subst h0
      exact (Tryz.slices_Clone_string_zero a c w).mono fun e w' ⟨v', h1, h2, _, h4⟩ => ⟨v', h1, h2, h4⟩
    · obtain ⟨b, off, e, hb, _⟩ := l3 0 _ (List.getElem?_eq_getElem h0)
      cases e
      refine (Tryz.slices_Clone_string b off xs.length c xs w (Nat.le_refl _) (by omega) (fun j hj => ?_)).mono fun e w' ⟨v', h1, h2, _, h4⟩ => ⟨v', h1, ?_, h4⟩
      · obtain ⟨b', off', e, _, hc⟩ := l3 j _ (List.getElem?_eq_getElem hj)
        cases e
        rw [hc, List.getD_eq_getElem?_getD, List.getElem?_eq_getElem hj]
        rfl
      · rw [List.take_length] at h2
        unfold OwnS OwnE
        rw [scells_len, scells_flat]
        exact h2
end Go.Proofs.YtinfpbkbnhcifaaGreatDoor

/- The walk of register.Append. The conditions: what the slice reads as, its length. -/
namespace Go.Proofs.YtinfpbkbnhcifaaGreatDoor
open Go.RowKit Go.BigFrame

set_option maxHeartbeats 8000000 in
set_option maxRecDepth 100000 in
theorem append_b (b : Bool) (car : Int) {w : World} {v : Value} {xs : List ByteArray} (ent : ByteArray) (hvb : Hid (validB ⟨car, xs ++ [ent]⟩ = b)) (hv : SS w v xs) (hl : xs.length ≤ 1000) :
    Calls Tryz.prog 42 #[.agg #[.int .i64 car, v], .string ent] w fun e w' =>
      (if b = true then ∃ v', e = .returned (.tuple #[.agg #[.int .i64 car, v'], .int .i64 0]) ∧ SS w' v' (xs ++ [ent]) else e = .returned (.tuple #[.agg #[.int .i64 0, .slice none 0 0], .int .i64 180])) ∧ Below w.heap.size w w' := by
  obtain ⟨a, c, rfl, l1, l2, l3⟩ := hv.opened
  have HV := Lib.hid hv
  have HL := Lib.hid hl
  clear l3 hv hl
  generalize hn : xs.length = n at *
  have HN := Lib.hid hn
  clear hn
  go_enter Tryz.func42, Tryz.ntmps42
  go_upto_region 1 with fail
  have HB1 : Hid (Below w.heap.size w ((w.alloc (.cells #[.int .i64 car, .slice a n c] 26)).alloc (.cells #[.int .i64 0, .slice none 0 0] 26))) := Lib.hid (((Below.refl _ _).alloc (Nat.le_refl _) _).alloc (by simp) _)
  have HX1 : Hid (((w.alloc (.cells #[.int .i64 car, .slice a n c] 26)).alloc (.cells #[.int .i64 0, .slice none 0 0] 26)).heap[w.heap.size]? = some (.cells #[.int .i64 car, .slice a n c] 26 (0, 0))) := Lib.hid (at_past w _ _)
  have HR1 : Hid (((w.alloc (.cells #[.int .i64 car, .slice a n c] 26)).alloc (.cells #[.int .i64 0, .slice none 0 0] 26)).heap[w.heap.size + 1]? = some (.cells #[.int .i64 0, .slice none 0 0] 26 (0, 0))) := Lib.hid (at_second w _ _)
  obtain ⟨w1, hw1⟩ : ∃ W, W = (w.alloc (.cells #[.int .i64 car, .slice a n c] 26)).alloc (.cells #[.int .i64 0, .slice none 0 0] 26) := ⟨_, rfl⟩
  rw [← hw1] at HB1 HX1 HR1 ⊢
  clear hw1
  have HCl : Hid (∀ W, Below w1.heap.size w1 W → Calls Tryz.prog 79 #[.slice a n c] W fun e w' => ∃ v', e = .returned v' ∧ OwnS w' W.heap.size v' xs ∧ Below W.heap.size W w') := Lib.hid (fun W hW => clone_any (HV.out.below (HB1.out.trans (hW.mono HB1.out.size))) (by rw [HN.out]; have := HL.out; omega))
  have HKP : Hid (∀ W, Below w1.heap.size w1 W → W.cell? ⟨w.heap.size, 0, none⟩ = some (.int .i64 car) ∧ W.cell? ⟨w.heap.size, 1, none⟩ = some (.slice a n c)) := Lib.hid (fun W hW => by
    have h := kept_block HX1.out hW
    exact ⟨(two_cells h).1, (two_cells h).2.1⟩)
  refine wp_region_noPanic ?_
  refine wp_region_lexB [.q 0, .q 1, .q 2, .q 3, .q 5, .an 9, .an 6, .b 4, .co 6, .b 7, .q 8, .co 9, .b 10] (by kernel_rfl) (by kernel_rfl) (fun _ _ _ _ h => h) ?_
  refine wpFl_qL (v := ?_) rfl (Or.inl ⟨by rfl, ?_⟩) ?_
  rotate_left
  focus (intro w' hSw; (try dsimp only [OldKept] at hSw); obtain ⟨k0, k1⟩ := HKP.out w' hSw; go_simp; (try with_reducible rfl); done)
  simp only [Act.put, List.setIfInBounds_toArray, List.set_cons_zero, List.set_cons_succ]
  refine wpFl_qL (v := ?_) rfl (Or.inl ⟨by rfl, ?_⟩) ?_
  rotate_left
  focus (intro w' hSw; (try dsimp only [OldKept] at hSw); obtain ⟨k0, k1⟩ := HKP.out w' hSw; go_simp; (try with_reducible rfl); done)
  simp only [Act.put, List.setIfInBounds_toArray, List.set_cons_zero, List.set_cons_succ]
  refine wpFl_qL (v := ?_) rfl (Or.inl ⟨by rfl, ?_⟩) ?_
  rotate_left
  focus (intro w' hSw; (try dsimp only [OldKept] at hSw); obtain ⟨k0, k1⟩ := HKP.out w' hSw; go_simp; (try with_reducible rfl); done)
  simp only [Act.put, List.setIfInBounds_toArray, List.set_cons_zero, List.set_cons_succ]
  refine wpFl_qL (v := ?_) rfl (Or.inl ⟨by rfl, ?_⟩) ?_
  rotate_left
  focus (intro w' hSw; (try dsimp only [OldKept] at hSw); obtain ⟨k0, k1⟩ := HKP.out w' hSw; go_simp; (try with_reducible rfl); done)
  simp only [Act.put, List.setIfInBounds_toArray, List.set_cons_zero, List.set_cons_succ]
  refine wpFl_qL (v := ?_) rfl (Or.inl ⟨by rfl, ?_⟩) ?_
  rotate_left
  focus (intro w' hSw; (try dsimp only [OldKept] at hSw); obtain ⟨k0, k1⟩ := HKP.out w' hSw; go_simp; (try with_reducible rfl); done)
  simp only [Act.put, List.setIfInBounds_toArray, List.set_cons_zero, List.set_cons_succ]
  refine wpFl_anL rfl (.cells #[.int .i64 0, .slice none 0 0] 26 (0, 0)) (fun n => .pointer (some ⟨n, 0, none⟩)) ⟨by rfl, fun w' => ?_⟩ ?_
  focus (go_simp; done)
  refine wpFl_anL rfl (.cells #[.string ent] 9 (0, 0)) (fun n => .slice (some ⟨n, 0, none⟩) 1 1) ⟨by rfl, fun w' => ?_⟩ ?_
  focus (go_simp; done)
  refine wpFl_bL rfl (fun w4 hn4 hs4 K hK => ?_)
  go_simp
  go_at_call 79
  refine (HCl.out _ hs4).mono ?_
  rintro e w5 ⟨v5, rfl, ho5, hb5⟩
  have HO5 : Hid (OwnS w5 w1.heap.size v5 xs) := Lib.hid (OwnE.mono ho5 hs4.size)
  refine hK.out _ _ (below_next hs4 hb5) (Keeps.below hb5) ?_
  clear hK K
  refine wpFl_coL rfl (.cells #[.string ent] 9 (0, 0)) (fun n => .slice (some ⟨n, 0, none⟩) 1 1) (by rfl) (N' := [(9, .cells #[.int .i64 0, .slice none 0 0] 26 (0, 0), fun n => .pointer (some ⟨n, 0, none⟩))]) (by rfl) (fun b6 w6 hn_w6 hs_w6 hb_b6 hz_b6 => ?_)
  simp only [Act.put, List.setIfInBounds_toArray, List.set_cons_zero, List.set_cons_succ]
  have HO6 := Lib.hid (OwnE.far HO5.out hn_w6 (Nat.le_refl _))
  have HS6 := Lib.hid (SS.one hz_b6)
  clear HO5 ho5 hb5 hn4 hs4 hz_b6 hn_w6 hs_w6 hb_b6
  refine wpFl_bL rfl (fun w7 hn7 hs7 K hK => ?_)
  have HO7 := Lib.hid (OwnE.far HO6.out hn7 (Nat.le_refl _))
  have HS7 := Lib.hid (SS.below HS6.out hn7)
  refine step_append_strs rfl _ _ w1.heap.size v5 xs [ent] (.slice (some ⟨b6, 0, none⟩) 1 1) HO7.out HS7.out (by simp) (by rw [HN.out]; have := HL.out; simp; omega) hs7.size rfl rfl rfl ?_
  intro v8 w8 hown8 hgr8
  have HB8 : Hid (Below w1.heap.size w1 w8) := Lib.hid (Below.grown hs7 hgr8 hs7.size (fun j e => OwnE.ge HO7.out j e))
  refine hK.out _ _ HB8.out (Keeps.own HO7.out hgr8 (by intro x hx c e; rw [List.mem_singleton.1 hx] at e; cases e)) ?_
  clear hK K
  obtain ⟨a8, c8, hv8⟩ := OwnE.form hown8
  rw [scells_len, List.length_append, HN.out] at hv8
  have hv8 : v8 = .slice a8 (n + 1) c8 := hv8
  subst hv8
  have HO8 := Lib.hid hown8
  clear HO6 HO7 HS6 HS7 hown8 hgr8 hn7 hs7
  simp only [Act.put, List.setIfInBounds_toArray, List.set_cons_zero, List.set_cons_succ]
  refine wpFl_qL (v := ?_) rfl (Or.inl ⟨by rfl, ?_⟩) ?_
  rotate_left
  focus (intro w' hSw; (try dsimp only [OldKept] at hSw); go_simp; (try with_reducible rfl); done)
  simp only [Act.put, List.setIfInBounds_toArray, List.set_cons_zero, List.set_cons_succ]
  refine wpFl_coL rfl (.cells #[.int .i64 0, .slice none 0 0] 26 (0, 0)) (fun n => .pointer (some ⟨n, 0, none⟩)) (by rfl) (N' := []) (by rfl) (fun b9 w9 hn_w9 hs_w9 hb_b9 hz_b9 => ?_)
  simp only [Act.put, List.setIfInBounds_toArray, List.set_cons_zero, List.set_cons_succ]
  have HO9 := Lib.hid (OwnE.far HO8.out hn_w9 (Nat.le_refl _))
  clear HO8 hn_w9 hs_w9
  refine wpFl_bL rfl (fun w10 hn10 hs10 K hK => ?_)
  have HO10 := Lib.hid (OwnE.far HO9.out hn10 (Nat.le_refl _))
  have HZ10 := Lib.hid (kept_block hz_b9 hn10)
  obtain ⟨z0, z1, zf⟩ := two_cells HZ10.out
  clear HO9 hz_b9
  go_simp
  refine hK.out _ _ (two_below hs10 hb_b9 _ _) Keeps.nil ?_
  clear hK K
  have HF := Lib.hid (two_heap HZ10.out (.int .i64 car) (.slice a8 (n + 1) c8))
  have HO := Lib.hid (OwnS.two HO10.out HZ10.out (by decide) (.int .i64 car) (.slice a8 (n + 1) c8))
  have HBW : Hid (Below w.heap.size w ((w10.setCell ⟨b9, 0, none⟩ (.int .i64 car)).setCell ⟨b9, 1, none⟩ (.slice a8 (n + 1) c8))) := Lib.hid (HB1.out.trans ((two_below hs10 hb_b9 _ _).mono HB1.out.size))
  have HRW := Lib.hid (kept_block HR1.out (two_below hs10 hb_b9 (.int .i64 car) (.slice a8 (n + 1) c8)))
  generalize (w10.setCell ⟨b9, 0, none⟩ (.int .i64 car)).setCell ⟨b9, 1, none⟩ (.slice a8 (n + 1) c8) = W at *
  clear HO10 HZ10 z0 z1 zf hn10 hs10 hb_b9 HKP HCl HB8 HB1 HX1 HR1 HV
  refine wpFl_nil ?_
  refine NoPanic.normal ?_
  have HVa := Lib.hid (valid_any car HO.out.ss)
  rw [hvb.out] at HVa
  have HSS := Lib.hid (SS.below HO.out.ss ((Below.refl _ W).alloc (Nat.le_refl _) (.cells #[.int .i64 car, .slice a8 (n + 1) c8] 26)))
  have HBA := Lib.hid (HBW.out.alloc HBW.out.size (.cells #[.int .i64 car, .slice a8 (n + 1) c8] 26))
  have HFA := Lib.hid (alloc_at (o' := .cells #[.int .i64 car, .slice a8 (n + 1) c8] 26) HF.out)
  have HRA := Lib.hid (alloc_at (o' := .cells #[.int .i64 car, .slice a8 (n + 1) c8] 26) HRW.out)
  obtain ⟨g0, g1, _⟩ := two_cells HF.out
  obtain ⟨f0, f1, _⟩ := two_cells HFA.out
  obtain ⟨r0, r1, rf⟩ := two_cells HRA.out
  have hsz : w.heap.size ≤ w.heap.size + 1 := Nat.le_succ _
  cases b with
  | false =>
    have HF2 := Lib.hid (two_heap HRA.out (.int .i64 0) (.slice none 0 0))
    have HB2 := Lib.hid (two_below HBA.out hsz (.int .i64 0) (.slice none 0 0))
    go_wp2_with (go_at_call 44; refine HVa.out.mono ?_; rintro e w11 ⟨rfl, hw11⟩; subst hw11)
    exact bodyPost_ret (results_cellA_tmp rfl _ (w.heap.size + 1) 26 #[.int .i64 0, .slice none 0 0] (0, 0) _ rfl HF2.out Tryz.underlying26 rfl infoReg) rfl ⟨rfl, HB2.out⟩
  | true =>
    have HF2 := Lib.hid (two_heap HRA.out (.int .i64 car) (.slice a8 (n + 1) c8))
    have HB2 := Lib.hid (two_below HBA.out hsz (.int .i64 car) (.slice a8 (n + 1) c8))
    have HS2 := Lib.hid (OwnS.two (OwnE.alloc HO.out (.cells #[.int .i64 car, .slice a8 (n + 1) c8] 26)) HRA.out (by decide) (.int .i64 car) (.slice a8 (n + 1) c8))
    go_wp2_with (go_at_call 44; refine HVa.out.mono ?_; rintro e w11 ⟨rfl, hw11⟩; subst hw11)
    exact bodyPost_ret (results_cellA_tmp rfl _ (w.heap.size + 1) 26 #[.int .i64 car, .slice a8 (n + 1) c8] (0, 0) _ rfl HF2.out Tryz.underlying26 rfl infoReg) rfl ⟨⟨_, rfl, HS2.out.ss⟩, HB2.out⟩
theorem append_any (car : Int) {w : World} {v : Value} {xs : List ByteArray} (ent : ByteArray) (hv : SS w v xs) (hl : xs.length ≤ 1000) :
    Calls Tryz.prog 42 #[.agg #[.int .i64 car, v], .string ent] w fun e w' =>
      (if validB ⟨car, xs ++ [ent]⟩ = true then ∃ v', e = .returned (.tuple #[.agg #[.int .i64 car, v'], .int .i64 0]) ∧ SS w' v' (xs ++ [ent]) else e = .returned (.tuple #[.agg #[.int .i64 0, .slice none 0 0], .int .i64 180])) ∧ Below w.heap.size w w' :=
  append_b _ car ent (Lib.hid rfl) hv hl
end Go.Proofs.YtinfpbkbnhcifaaGreatDoor

/- The walk of RegisterAppends. The conditions: what the slices read as, ranges, the table of constants. -/
namespace Go.Proofs.YtinfpbkbnhcifaaGreatDoor
open Go.RowKit Go.BigFrame

/-- Strings survive a write into a box of a register. -/
theorem SS.offreg {W W' : World} {v : Value} {xs : List ByteArray} {b : Nat} {car : Int} {u : Value} {T : TypeId} (h : SS W v xs) (hu : ∀ s, u ≠ .string s) (hb : W.heap[b]? = some (.cells #[.int .i64 car, u] T (0, 0))) (hg : W.grownBy W' (some b)) : SS W' v xs := by
  obtain ⟨a, cap, e, h1, h2, h3⟩ := h
  refine ⟨a, cap, e, h1, h2, ?_⟩
  rcases h3 with h3 | ⟨b', off, ea, hlt, hc⟩
  · exact .inl h3
  · by_cases hx : xs = []
    · left; subst hx; rfl
    · right
      obtain ⟨x, xs', rfl⟩ := List.exists_cons_of_ne_nil hx
      have hne : b' ≠ b := by
        intro e'
        have h0 := hc 0 [.string x] rfl 0 (.string x) rfl
        rw [e', cell_of_row W b _ _ T (0, 0) hb] at h0
        generalize off + 0 * 1 + 0 = i at h0
        match i, h0 with
        | 0, h0 => simp at h0
        | 1, h0 => simp at h0; exact hu x h0
        | i + 2, h0 => simp at h0
      have hblk : W'.heap[b']? = W.heap[b']? := hg.block b' hlt (fun e' => hne (Option.some.inj e'))
      refine ⟨b', off, ea, Nat.lt_of_lt_of_le hlt hg.size, fun i c hi j u' hj => ?_⟩
      rw [← hc i c hi j u' hj]
      simp only [World.cell?, hblk]
theorem head_more (key : ByteArray) (car : Int) (xs ys : List ByteArray) (n : Nat) (h : n ≤ xs.length) : headS key car (xs ++ ys) n = headS key car xs n := by
  unfold headS
  rw [List.take_append_of_le_length h]

theorem valid_more {car : Int} {xs : List ByteArray} (h : validB ⟨car, xs⟩ = true) (zs : List Int) (hl : (xs ++ zs.map entryS).length ≤ 60) : validB ⟨car, xs ++ zs.map entryS⟩ = true := by
  obtain ⟨h1, h2, _, h4⟩ := valid_parts h
  unfold validB
  apply decide_eq_true
  refine ⟨h1, h2, hl, fun s hs => ?_⟩
  rcases List.mem_append.1 hs with e | e
  · exact h4 s e
  · obtain ⟨z, _, rfl⟩ := List.mem_map.1 e
    have := entryS_size z
    omega
theorem valid_full {car : Int} {xs : List ByteArray} (h : 60 < xs.length) : validB ⟨car, xs⟩ = false := by
  unfold validB
  apply decide_eq_false
  rintro ⟨_, _, h3, _⟩
  have : xs.length ≤ 60 := h3
  omega

set_option maxHeartbeats 12000000 in
set_option maxRecDepth 100000 in
theorem appends_law {w : World} (carrier n : Int) {vx vy : Value} {x ys : List Int} (hx : IL w vx x) (hy : IL w vy ys) (ic : I64 carrier) (ix : ∀ n ∈ x, I64 n) (iy : ∀ n ∈ ys, I64 n) (inn : I64 n) (he : Env w) (hg : 0 < w.heap.size) :
    Calls Tryz.prog 11 #[.int .i64 carrier, vx, vy, .int .i64 n] w fun e w' => e = .returned (.bool true) ∧ Below w.heap.size w w' := by
  have hpk := pickI_range carrier (n := 8) (by omega)
  obtain ⟨cn, hcn⟩ := Int.eq_ofNat_of_zero_le hpk.1
  have hc7 : cn ≤ 7 := by omega
  have HV : Hid (validB ⟨(cn : Int), madeL x⟩ = true) := Lib.hid (by rw [← hcn]; exact made_valid carrier x)
  obtain ⟨ad1, cy, rfl, s1, s2, s3⟩ := hy.opened
  unfold maxLen at s2
  have HY3 := Lib.hid s3
  have HIY := Lib.hid iy
  have HIX := Lib.hid ix
  have HX := Lib.hid hx
  have HIC := Lib.hid ic
  have K0 := Lib.hid (Know.start he hg)
  clear hpk s3 iy ix hx ic he hg hy
  obtain ⟨xs, hxs⟩ : ∃ xs, xs = madeL x := ⟨_, rfl⟩
  have hm12 : xs.length ≤ 12 := by rw [hxs]; exact madeL_len x
  rw [← hxs] at HV
  have HXS := Lib.hid hxs
  clear hxs
  obtain ⟨ns, hns⟩ : ∃ n, n = ys.length := ⟨_, rfl⟩
  rw [← hns] at s1 ⊢
  have HNS := Lib.hid hns
  clear hns
  obtain ⟨M, hM⟩ : ∃ M, M = min ns 70 := ⟨_, rfl⟩
  have HMM : Hid (∀ k : Nat, k ≤ M → (k < M ↔ (k < ns ∧ k < 70))) := Lib.hid (fun k hk => by omega)
  have hM5 : M ≤ 70 := by omega
  clear hM
  go_enter Tryz.func11, Tryz.ntmps11
  go_wp2_with fail
  refine (sane_at K0.out).mono ?_
  rintro e w1 ⟨rfl, k1⟩
  have K1 := Lib.hid k1
  clear k1 K0
  go_wp2_with fail
  refine (made_at K1.out (HX.out.below K1.out.below) HIX.out carrier HIC.out).mono ?_
  rintro e w2 ⟨vr, rfl, k2⟩
  rw [← HXS.out] at k2
  rw [hcn]
  obtain ⟨ar, cr, rfl⟩ := (k2.all 0 _ rfl : SS w2 vr xs).form2
  have K2 := Lib.hid k2
  clear k2 K1 HX HIX HIC hcn HXS
  go_upto_region 5 with fail
  have k3 := K2.out.box #[.int .i64 cn, .slice ar xs.length cr] 26
  obtain ⟨w3, hw3⟩ : ∃ W, W = w2.alloc (.cells #[.int .i64 cn, .slice ar xs.length cr] 26) := ⟨_, rfl⟩
  rw [← hw3] at k3 ⊢
  clear hw3
  generalize w2.heap.size = rb at k3 ⊢
  simp only [List.nil_append, List.cons_append] at k3
  obtain ⟨rc0, rc1⟩ := k3.duo (i := 1) rfl
  have K3 := Lib.hid k3
  clear k3 K2
  go_wp2_with fail
  clear rc0 rc1
  refine (key_at K3.out cn (by omega)).mono ?_
  rintro e w4 ⟨rfl, k4⟩
  have K4 := Lib.hid k4
  have HK32 := Lib.hid (keyS_size (cn : Int))
  generalize keyS (cn : Int) = key at *
  clear k4 K3
  have HX60 := Lib.hid (valid_parts HV.out).2.2.1
  obtain ⟨m, hm⟩ : ∃ m, m = xs.length := ⟨_, rfl⟩
  rw [← hm] at hm12 K4 ⊢
  have HM := Lib.hid hm
  clear hm
  have HPK := Lib.hid (fun W => lpick_any n ((m : Int) + 1) W inn (by omega) (by omega))
  obtain ⟨p0, p1⟩ := pickI_range n (n := (m : Int) + 1) (by omega)
  obtain ⟨sz, hsz⟩ := Int.eq_ofNat_of_zero_le p0
  rw [hsz] at HPK p1
  have hszm : sz ≤ m := by omega
  have f1 : IntKind.i64.wrap ((m : Int) + 1) = (m : Int) + 1 := IntWalk.i64_in _ (by omega)
  clear hsz p0 p1 inn
  obtain ⟨rc0, rc1⟩ := K4.out.duo (i := 1) rfl
  go_wp2_with (go_at_call 16; refine (HPK.out _).mono ?_; rintro e w' ⟨rfl, hw'⟩; replace hw' := hw'.symm; subst hw')
  refine (sign_at K4.out 0 rfl key cn sz HK32.out HV.out (by rw [← HM.out]; exact hszm)).mono ?_
  rintro e w5 ⟨rfl, k5⟩
  clear rc0 rc1 HPK
  obtain ⟨h, hh⟩ : ∃ h, h = headS key cn xs sz := ⟨_, rfl⟩
  rw [← hh]
  obtain ⟨h1, h2, h3, h4⟩ := h
  simp only [hbox]
  obtain ⟨rc0, rc1⟩ := k5.duo (i := 1) rfl
  have K5 := Lib.hid k5
  have HH := Lib.hid hh
  clear k5 K4 hh
  go_upto_region 8 with fail
  have k6 := K5.out.box #[.int .i64 h1, .int .i64 h2, .string h3, .string h4] 35
  obtain ⟨w6, hw6⟩ : ∃ W, W = w5.alloc (.cells #[.int .i64 h1, .int .i64 h2, .string h3, .string h4] 35) := ⟨_, rfl⟩
  rw [← hw6] at k6 ⊢
  clear hw6 rc0 rc1
  generalize w5.heap.size = hb at k6 ⊢
  simp only [List.nil_append, List.cons_append] at k6
  have K6 := Lib.hid k6
  obtain ⟨rc0, rc1⟩ := k6.duo (i := 1) rfl
  clear k6 K5 f1 hm12
  go_upto_region 9 with fail
  clear rc0 rc1
  have HSB0 : Hid ((w6.alloc (.cells #[.int .i64 cn, .slice ar m cr] 26)).heap[w6.heap.size]? = some (.cells #[.int .i64 cn, .slice ar m cr] 26 (0, 0))) := Lib.hid (heap_alloc_new _ _)
  have HBB0 : Hid (Below w6.heap.size w6 (w6.alloc (.cells #[.int .i64 cn, .slice ar m cr] 26))) := Lib.hid ((Below.refl _ _).alloc (Nat.le_refl _) _)
  have HSS0 : Hid (SS (w6.alloc (.cells #[.int .i64 cn, .slice ar m cr] 26)) (.slice ar m cr) xs) := Lib.hid (SS.below (K6.out.all 0 _ rfl) HBB0.out)
  generalize w6.alloc (.cells #[.int .i64 cn, .slice ar m cr] 26) = W0 at *
  go_wp2
  go_loopw [16] (fun i wr => ∃ (k : Nat) (S : List ByteArray) (vs : Value), k ≤ M ∧ i = .int .i64 k ∧ Hid (S = xs ++ (ys.take k).map entryS) ∧ Hid (S.length ≤ 60) ∧ Hid (wr.heap[w6.heap.size]? = some (.cells #[.int .i64 cn, vs] 26 (0, 0))) ∧ Hid (SS wr vs S) ∧ Hid (Below w6.heap.size w6 wr)) (fun i _ => M - (intOf i).toNat)
  case atStart => exact ⟨0, xs, _, by omega, rfl, Lib.hid (by simp), HX60, HSB0, HSS0, HBB0⟩
  case round =>
    clear HSB0 HSS0 HBB0
    obtain ⟨k, S, vs, hk, rfl, hS, hS60, hsb, hss, hB⟩ := hrel
    have HKM := Lib.hid (HMM.out k hk)
    have HKr := Lib.hid (K6.out.step hB.out)
    obtain ⟨va, vc, hvs⟩ := hss.out.form2'
    obtain ⟨L, hL⟩ : ∃ L, L = S.length := ⟨_, rfl⟩
    rw [← hL] at hvs
    have hL60 : L ≤ 60 := by rw [hL]; exact hS60.out
    have HL := Lib.hid hL
    subst hvs
    clear hL
    go_upto_region 10 with fail
    go_cut [51] from 44 to 123 (fun t wx => t = .bool (decide (k < M)) ∧ wx = wr)
    case first =>
      by_cases h1 : k < ns
      · have u1 : (k : Int) < (ns : Int) := by omega
        by_cases h3 : k < 70
        · have u3 : (k : Int) < 70 := by omega
          have HD : Hid (decide (k < M) = true) := Lib.hid (decide_eq_true (HKM.out.2 ⟨h1, h3⟩))
          go_wp2
          go_meet
          case rel => exact ⟨by rw [HD.out], rfl⟩
        · have u3 : ¬ (k : Int) < 70 := by omega
          have HD : Hid (decide (k < M) = false) := Lib.hid (decide_eq_false (fun h => h3 (HKM.out.1 h).2))
          go_wp2
          go_meet
          case rel => exact ⟨by rw [HD.out], rfl⟩
      · have u1 : ¬ (k : Int) < (ns : Int) := by omega
        have HD : Hid (decide (k < M) = false) := Lib.hid (decide_eq_false (fun h => h1 (HKM.out.1 h).1))
        go_wp2
        go_meet
        case rel => exact ⟨by rw [HD.out], rfl⟩
    case rest =>
    obtain ⟨ht51, hwc⟩ := hcut
    subst ht51 hwc
    obtain ⟨wr, hwr⟩ : ∃ wr, wr = wc := ⟨_, rfl⟩
    subst hwr
    by_cases hlt : k < M
    · obtain ⟨hkn, hk70⟩ := HKM.out.1 hlt
      obtain ⟨z, ez⟩ : ∃ z, ys[k]? = some z := ⟨_, List.getElem?_eq_getElem (by rw [← HNS.out]; exact hkn)⟩
      obtain ⟨bY, oY, rfl, hbY, d0⟩ := HY3.out k z ez
      have HE := Lib.hid (fun W => entry_any z (HIY.out z (List.mem_of_getElem? ez)) W)
      have HT : Hid (xs ++ (ys.take (k + 1)).map entryS = S ++ [entryS z]) := Lib.hid (by rw [madeL_take ez, ← List.append_assoc, ← hS.out])
      have HVm : Hid (L < 60 → validB ⟨cn, S ++ [entryS z]⟩ = true) := Lib.hid (fun h => by
        rw [← HT.out]
        exact valid_more HV.out _ (by rw [HT.out, List.length_append, ← HL.out]; simp; omega))
      have HVf : Hid (¬ L < 60 → validB ⟨cn, S ++ [entryS z]⟩ = false) := Lib.hid (fun h => valid_full (by rw [List.length_append, ← HL.out]; simp; omega))
      generalize entryS z = E at *
      have HD0 := Lib.hid d0
      have tkn : (k : Int) < (ns : Int) := by omega
      have tk0 : (0 : Int) ≤ (k : Int) := by omega
      have HKP : Hid (∀ W, Below wr.heap.size wr W → W.cell? ⟨w6.heap.size, 0, none⟩ = some (.int .i64 cn) ∧ W.cell? ⟨w6.heap.size, 1, none⟩ = some (.slice va L vc) ∧ W.cell? ⟨bY, oY + k, none⟩ = some (.int .i64 z)) := Lib.hid (fun W hW => by
        have h := two_cells (kept_block hsb.out hW)
        exact ⟨h.1, h.2.1, cell_keepB (HKr.out.step hW).below hbY HD0.out⟩)
      clear ez d0
      go_upto_region 12 with fail
      by_cases hfull : L < 60
      · have HVb := Lib.hid (HVm.out hfull)
        clear HVm HVf
        refine wp_region_noPanic ?_
        refine wp_region_lexB [.q 0, .q 1, .q 2, .q 3, .q 4, .an 10, .b 5, .b 6, .q 7, .q 8, .q 9, .co 10, .b 11, .q 12] (by kernel_rfl) (by kernel_rfl) (fun _ _ _ _ h => h) ?_
        refine wpFl_qL (v := ?_) rfl (Or.inl ⟨by rfl, ?_⟩) ?_
        rotate_left
        focus (intro w' hSw; (try dsimp only [OldKept] at hSw); obtain ⟨k0, k1, k2⟩ := HKP.out w' hSw; go_simp; (try with_reducible rfl); done)
        simp only [Act.put, List.setIfInBounds_toArray, List.set_cons_zero, List.set_cons_succ]
        refine wpFl_qL (v := ?_) rfl (Or.inl ⟨by rfl, ?_⟩) ?_
        rotate_left
        focus (intro w' hSw; (try dsimp only [OldKept] at hSw); obtain ⟨k0, k1, k2⟩ := HKP.out w' hSw; go_simp; (try with_reducible rfl); done)
        simp only [Act.put, List.setIfInBounds_toArray, List.set_cons_zero, List.set_cons_succ]
        refine wpFl_qL (v := ?_) rfl (Or.inl ⟨by rfl, ?_⟩) ?_
        rotate_left
        focus (intro w' hSw; (try dsimp only [OldKept] at hSw); obtain ⟨k0, k1, k2⟩ := HKP.out w' hSw; go_simp; (try with_reducible rfl); done)
        simp only [Act.put, List.setIfInBounds_toArray, List.set_cons_zero, List.set_cons_succ]
        refine wpFl_qL (v := ?_) rfl (Or.inl ⟨by rfl, ?_⟩) ?_
        rotate_left
        focus (intro w' hSw; (try dsimp only [OldKept] at hSw); obtain ⟨k0, k1, k2⟩ := HKP.out w' hSw; go_simp; (try with_reducible rfl); done)
        simp only [Act.put, List.setIfInBounds_toArray, List.set_cons_zero, List.set_cons_succ]
        refine wpFl_qL (v := ?_) rfl (Or.inl ⟨by rfl, ?_⟩) ?_
        rotate_left
        focus (intro w' hSw; (try dsimp only [OldKept] at hSw); obtain ⟨k0, k1, k2⟩ := HKP.out w' hSw; go_simp; (try with_reducible rfl); done)
        simp only [Act.put, List.setIfInBounds_toArray, List.set_cons_zero, List.set_cons_succ]
        refine wpFl_anL rfl (.cells #[.int .i64 0, .slice none 0 0] 26 (0, 0)) (fun n => .pointer (some ⟨n, 0, none⟩)) ⟨by rfl, fun w' => ?_⟩ ?_
        focus (go_simp; done)
        refine wpFl_bL rfl (fun w8 hn8 hs8 K hK => ?_)
        go_simp
        go_at_call 51
        refine (HE.out _).mono ?_
        rintro e w9 ⟨rfl, hb9⟩
        refine hK.out _ _ (below_next hs8 hb9) (Keeps.below hb9) ?_
        clear hK K hn8
        refine wpFl_bL rfl (fun w10 hn10 hs10 K hK => ?_)
        go_simp
        go_at_call 42
        refine (append_b true cn E HVb (SS.below hss.out hs10) (by rw [← HL.out]; omega)).mono ?_
        rintro e w11 ⟨h11, hb11⟩
        rw [if_pos rfl] at h11
        obtain ⟨v11, rfl, hs11⟩ := h11
        obtain ⟨a11, c11, hv11⟩ := hs11.form2'
        rw [List.length_append, ← HL.out] at hv11
        have hv11 : v11 = .slice a11 (L + 1) c11 := hv11
        subst hv11
        have HS11 := Lib.hid hs11
        refine hK.out _ _ (below_next hs10 hb11) (Keeps.below hb11) ?_
        clear hK K hn10 hs8 hb9 hs10 hb11 hs11
        refine wpFl_qL (v := ?_) rfl (Or.inl ⟨by rfl, ?_⟩) ?_
        rotate_left
        focus (intro w' hSw; (try dsimp only [OldKept] at hSw); go_simp; (try with_reducible rfl); done)
        simp only [Act.put, List.setIfInBounds_toArray, List.set_cons_zero, List.set_cons_succ]
        refine wpFl_qL (v := ?_) rfl (Or.inl ⟨by rfl, ?_⟩) ?_
        rotate_left
        focus (intro w' hSw; (try dsimp only [OldKept] at hSw); go_simp; (try with_reducible rfl); done)
        simp only [Act.put, List.setIfInBounds_toArray, List.set_cons_zero, List.set_cons_succ]
        refine wpFl_qL (v := ?_) rfl (Or.inl ⟨by rfl, ?_⟩) ?_
        rotate_left
        focus (intro w' hSw; (try dsimp only [OldKept] at hSw); go_simp; (try with_reducible rfl); done)
        simp only [Act.put, List.setIfInBounds_toArray, List.set_cons_zero, List.set_cons_succ]
        refine wpFl_coL rfl (.cells #[.int .i64 0, .slice none 0 0] 26 (0, 0)) (fun n => .pointer (some ⟨n, 0, none⟩)) (by rfl) (N' := []) (by rfl) (fun bt w12 hn_w12 hs_w12 hb_bt hz_bt => ?_)
        simp only [Act.put, List.setIfInBounds_toArray, List.set_cons_zero, List.set_cons_succ]
        have HS12 := Lib.hid (SS.below HS11.out hn_w12)
        clear HS11 hn_w12 hs_w12
        refine wpFl_bL rfl (fun w13 hn13 hs13 K hK => ?_)
        have HS13 := Lib.hid (SS.below HS12.out hn13)
        have HZ13 := Lib.hid (kept_block hz_bt hn13)
        obtain ⟨z0, z1, zf⟩ := two_cells HZ13.out
        go_simp
        refine hK.out _ _ (two_below hs13 hb_bt _ _) Keeps.nil ?_
        have HBW := Lib.hid (two_below hs13 hb_bt (.int .i64 cn) (.slice a11 (L + 1) c11))
        have HTB := Lib.hid (two_heap HZ13.out (.int .i64 cn) (.slice a11 (L + 1) c11))
        have HSW := Lib.hid (SS.offreg HS13.out (fun s e => by cases e) HZ13.out (two_grown w13 bt (.int .i64 cn) (.slice a11 (L + 1) c11)))
        have HNE : Hid (bt ≠ w6.heap.size) := Lib.hid (fun e => by
          have := (Array.getElem?_eq_some_iff.1 hsb.out).1
          omega)
        generalize (w13.setCell ⟨bt, 0, none⟩ (.int .i64 cn)).setCell ⟨bt, 1, none⟩ (.slice a11 (L + 1) c11) = W at *
        clear hK K HS12 HS13 HZ13 z0 z1 zf hn13 hs13 hz_bt hb_bt
        refine wpFl_qL (v := ?_) rfl (Or.inl ⟨by rfl, ?_⟩) ?_
        rotate_left
        focus (intro w' hSw; (try dsimp only [OldKept] at hSw); go_simp; (try with_reducible rfl); done)
        simp only [Act.put, List.setIfInBounds_toArray, List.set_cons_zero, List.set_cons_succ]
        refine wpFl_nil ?_
        refine NoPanic.normal ?_
        obtain ⟨ax, cx, ex, x1, x2, x3⟩ := HSW.out.opened
        obtain ⟨b', o', ea, hb', e0⟩ := x3 L E (by rw [HL.out]; simp)
        have eax : a11 = ax := by injection ex
        rw [← eax] at ea
        have g4 : L ≤ c11 := by
          have h1 : c11 = cx := by injection ex
          rw [List.length_append, ← HL.out] at x1
          simp at x1
          omega
        subst ea
        have HKQ : Hid (∀ W', Below W.heap.size W W' → W'.cell? ⟨w6.heap.size, 0, none⟩ = some (.int .i64 cn) ∧ W'.cell? ⟨w6.heap.size, 1, none⟩ = some (.slice va L vc) ∧ W'.cell? ⟨bY, oY + k, none⟩ = some (.int .i64 z) ∧ W'.cell? ⟨bt, 0, none⟩ = some (.int .i64 cn) ∧ W'.cell? ⟨bt, 1, none⟩ = some (.slice (some ⟨b', o', none⟩) (L + 1) c11) ∧ W'.cell? ⟨b', o' + L, none⟩ = some (.string E)) := Lib.hid (fun W' hW => by
          obtain ⟨q1, q2, q3⟩ := HKP.out W' (below_next HBW.out hW)
          have h := two_cells (kept_block HTB.out hW)
          exact ⟨q1, q2, q3, h.1, h.2.1, cell_keepB hW hb' e0⟩)
        obtain ⟨q1, q2, q3, q4, q5, q6⟩ := HKQ.out W (Below.refl _ _)
        clear HKP x1 x2 x3 ex eax e0
        have t60 : (L : Int) < 60 := by omega
        go_upto_region 17 with fail
        clear q1 q2 q3 q4 q5 q6
        have f2 : IntKind.i64.wrap ((L : Int) + 1) = (L : Int) + 1 := IntWalk.i64_in _ (by omega)
        have g1 : (L : Int) ≤ (L : Int) + 1 := by omega
        have g2 : (0 : Int) ≤ (L : Int) := by omega
        have g3 : (L : Int) < (L : Int) + 1 := by omega
        have HSM : Hid (∀ W', Below W.heap.size W W' → Calls Tryz.prog 39 #[.slice (some ⟨b', o', none⟩) L c11, .slice va L vc] W' fun e w' => e = .returned (.bool true) ∧ Below W'.heap.size W' w') := Lib.hid (fun W' hW => by
          have h1 := (SS.below HSW.out hW).cut L (by omega)
          have h2 := SS.below (SS.below hss.out HBW.out) hW
          rw [HL.out, List.take_left] at h1
          rw [← HL.out] at h1
          have := same2_any h1 h2
          rw [decide_eq_true rfl] at this
          exact this)
        refine wp_region_noPanic ?_
        refine wp_region_lexB [.q 0, .q 1, .q 2, .q 3, .q 4, .q 5, .q 6, .q 7, .q 8, .q 9, .q 10, .q 11, .q 12, .q 13, .q 14, .q 15, .q 16, .q 17, .q 18, .q 19, .q 20, .q 21, .q 22, .q 23, .b 24, .q 25, .q 26, .q 27, .q 28, .q 29, .q 30, .q 31, .q 32, .q 33, .q 34, .q 35, .q 36, .q 37, .q 38, .b 39, .q 40, .q 41] (by kernel_rfl) (by kernel_rfl) (fun _ _ _ _ h => h) ?_
        refine wpFl_qL (v := ?_) rfl (Or.inl ⟨by rfl, ?_⟩) ?_
        rotate_left
        focus (intro w' hSw; (try dsimp only [OldKept] at hSw); obtain ⟨q1, q2, q3, q4, q5, q6⟩ := HKQ.out w' hSw; go_simp; (try with_reducible rfl); done)
        simp only [Act.put, List.setIfInBounds_toArray, List.set_cons_zero, List.set_cons_succ]
        refine wpFl_qL (v := ?_) rfl (Or.inl ⟨by rfl, ?_⟩) ?_
        rotate_left
        focus (intro w' hSw; (try dsimp only [OldKept] at hSw); obtain ⟨q1, q2, q3, q4, q5, q6⟩ := HKQ.out w' hSw; go_simp; (try with_reducible rfl); done)
        simp only [Act.put, List.setIfInBounds_toArray, List.set_cons_zero, List.set_cons_succ]
        refine wpFl_qL (v := ?_) rfl (Or.inl ⟨by rfl, ?_⟩) ?_
        rotate_left
        focus (intro w' hSw; (try dsimp only [OldKept] at hSw); obtain ⟨q1, q2, q3, q4, q5, q6⟩ := HKQ.out w' hSw; go_simp; (try with_reducible rfl); done)
        simp only [Act.put, List.setIfInBounds_toArray, List.set_cons_zero, List.set_cons_succ]
        refine wpFl_qL (v := ?_) rfl (Or.inl ⟨by rfl, ?_⟩) ?_
        rotate_left
        focus (intro w' hSw; (try dsimp only [OldKept] at hSw); obtain ⟨q1, q2, q3, q4, q5, q6⟩ := HKQ.out w' hSw; go_simp; (try with_reducible rfl); done)
        simp only [Act.put, List.setIfInBounds_toArray, List.set_cons_zero, List.set_cons_succ]
        refine wpFl_qL (v := ?_) rfl (Or.inl ⟨by rfl, ?_⟩) ?_
        rotate_left
        focus (intro w' hSw; (try dsimp only [OldKept] at hSw); obtain ⟨q1, q2, q3, q4, q5, q6⟩ := HKQ.out w' hSw; go_simp; (try with_reducible rfl); done)
        simp only [Act.put, List.setIfInBounds_toArray, List.set_cons_zero, List.set_cons_succ]
        refine wpFl_qL (v := ?_) rfl (Or.inl ⟨by rfl, ?_⟩) ?_
        rotate_left
        focus (intro w' hSw; (try dsimp only [OldKept] at hSw); obtain ⟨q1, q2, q3, q4, q5, q6⟩ := HKQ.out w' hSw; go_simp; (try with_reducible rfl); done)
        simp only [Act.put, List.setIfInBounds_toArray, List.set_cons_zero, List.set_cons_succ]
        refine wpFl_qL (v := ?_) rfl (Or.inl ⟨by rfl, ?_⟩) ?_
        rotate_left
        focus (intro w' hSw; (try dsimp only [OldKept] at hSw); obtain ⟨q1, q2, q3, q4, q5, q6⟩ := HKQ.out w' hSw; go_simp; (try with_reducible rfl); done)
        simp only [Act.put, List.setIfInBounds_toArray, List.set_cons_zero, List.set_cons_succ]
        refine wpFl_qL (v := ?_) rfl (Or.inl ⟨by rfl, ?_⟩) ?_
        rotate_left
        focus (intro w' hSw; (try dsimp only [OldKept] at hSw); obtain ⟨q1, q2, q3, q4, q5, q6⟩ := HKQ.out w' hSw; go_simp; (try with_reducible rfl); done)
        simp only [Act.put, List.setIfInBounds_toArray, List.set_cons_zero, List.set_cons_succ]
        refine wpFl_qL (v := ?_) rfl (Or.inl ⟨by rfl, ?_⟩) ?_
        rotate_left
        focus (intro w' hSw; (try dsimp only [OldKept] at hSw); obtain ⟨q1, q2, q3, q4, q5, q6⟩ := HKQ.out w' hSw; go_simp; (try with_reducible rfl); done)
        simp only [Act.put, List.setIfInBounds_toArray, List.set_cons_zero, List.set_cons_succ]
        refine wpFl_qL (v := ?_) rfl (Or.inl ⟨by rfl, ?_⟩) ?_
        rotate_left
        focus (intro w' hSw; (try dsimp only [OldKept] at hSw); obtain ⟨q1, q2, q3, q4, q5, q6⟩ := HKQ.out w' hSw; go_simp; (try with_reducible rfl); done)
        simp only [Act.put, List.setIfInBounds_toArray, List.set_cons_zero, List.set_cons_succ]
        refine wpFl_qL (v := ?_) rfl (Or.inl ⟨by rfl, ?_⟩) ?_
        rotate_left
        focus (intro w' hSw; (try dsimp only [OldKept] at hSw); obtain ⟨q1, q2, q3, q4, q5, q6⟩ := HKQ.out w' hSw; go_simp; (try with_reducible rfl); done)
        simp only [Act.put, List.setIfInBounds_toArray, List.set_cons_zero, List.set_cons_succ]
        refine wpFl_qL (v := ?_) rfl (Or.inl ⟨by rfl, ?_⟩) ?_
        rotate_left
        focus (intro w' hSw; (try dsimp only [OldKept] at hSw); obtain ⟨q1, q2, q3, q4, q5, q6⟩ := HKQ.out w' hSw; go_simp; (try with_reducible rfl); done)
        simp only [Act.put, List.setIfInBounds_toArray, List.set_cons_zero, List.set_cons_succ]
        refine wpFl_qL (v := ?_) rfl (Or.inl ⟨by rfl, ?_⟩) ?_
        rotate_left
        focus (intro w' hSw; (try dsimp only [OldKept] at hSw); obtain ⟨q1, q2, q3, q4, q5, q6⟩ := HKQ.out w' hSw; go_simp; (try with_reducible rfl); done)
        simp only [Act.put, List.setIfInBounds_toArray, List.set_cons_zero, List.set_cons_succ]
        refine wpFl_qL (v := ?_) rfl (Or.inl ⟨by rfl, ?_⟩) ?_
        rotate_left
        focus (intro w' hSw; (try dsimp only [OldKept] at hSw); obtain ⟨q1, q2, q3, q4, q5, q6⟩ := HKQ.out w' hSw; go_simp; (try with_reducible rfl); done)
        simp only [Act.put, List.setIfInBounds_toArray, List.set_cons_zero, List.set_cons_succ]
        refine wpFl_qL (v := ?_) rfl (Or.inl ⟨by rfl, ?_⟩) ?_
        rotate_left
        focus (intro w' hSw; (try dsimp only [OldKept] at hSw); obtain ⟨q1, q2, q3, q4, q5, q6⟩ := HKQ.out w' hSw; go_simp; (try with_reducible rfl); done)
        simp only [Act.put, List.setIfInBounds_toArray, List.set_cons_zero, List.set_cons_succ]
        refine wpFl_qL (v := ?_) rfl (Or.inl ⟨by rfl, ?_⟩) ?_
        rotate_left
        focus (intro w' hSw; (try dsimp only [OldKept] at hSw); obtain ⟨q1, q2, q3, q4, q5, q6⟩ := HKQ.out w' hSw; go_simp; (try with_reducible rfl); done)
        simp only [Act.put, List.setIfInBounds_toArray, List.set_cons_zero, List.set_cons_succ]
        refine wpFl_qL (v := ?_) rfl (Or.inl ⟨by rfl, ?_⟩) ?_
        rotate_left
        focus (intro w' hSw; (try dsimp only [OldKept] at hSw); obtain ⟨q1, q2, q3, q4, q5, q6⟩ := HKQ.out w' hSw; go_simp; (try with_reducible rfl); done)
        simp only [Act.put, List.setIfInBounds_toArray, List.set_cons_zero, List.set_cons_succ]
        refine wpFl_qL (v := ?_) rfl (Or.inl ⟨by rfl, ?_⟩) ?_
        rotate_left
        focus (intro w' hSw; (try dsimp only [OldKept] at hSw); obtain ⟨q1, q2, q3, q4, q5, q6⟩ := HKQ.out w' hSw; go_simp; (try with_reducible rfl); done)
        simp only [Act.put, List.setIfInBounds_toArray, List.set_cons_zero, List.set_cons_succ]
        refine wpFl_qL (v := ?_) rfl (Or.inl ⟨by rfl, ?_⟩) ?_
        rotate_left
        focus (intro w' hSw; (try dsimp only [OldKept] at hSw); obtain ⟨q1, q2, q3, q4, q5, q6⟩ := HKQ.out w' hSw; go_simp; (try with_reducible rfl); done)
        simp only [Act.put, List.setIfInBounds_toArray, List.set_cons_zero, List.set_cons_succ]
        refine wpFl_qL (v := ?_) rfl (Or.inl ⟨by rfl, ?_⟩) ?_
        rotate_left
        focus (intro w' hSw; (try dsimp only [OldKept] at hSw); obtain ⟨q1, q2, q3, q4, q5, q6⟩ := HKQ.out w' hSw; go_simp; (try with_reducible rfl); done)
        simp only [Act.put, List.setIfInBounds_toArray, List.set_cons_zero, List.set_cons_succ]
        refine wpFl_qL (v := ?_) rfl (Or.inl ⟨by rfl, ?_⟩) ?_
        rotate_left
        focus (intro w' hSw; (try dsimp only [OldKept] at hSw); obtain ⟨q1, q2, q3, q4, q5, q6⟩ := HKQ.out w' hSw; go_simp; (try with_reducible rfl); done)
        simp only [Act.put, List.setIfInBounds_toArray, List.set_cons_zero, List.set_cons_succ]
        refine wpFl_qL (v := ?_) rfl (Or.inl ⟨by rfl, ?_⟩) ?_
        rotate_left
        focus (intro w' hSw; (try dsimp only [OldKept] at hSw); obtain ⟨q1, q2, q3, q4, q5, q6⟩ := HKQ.out w' hSw; go_simp; (try with_reducible rfl); done)
        simp only [Act.put, List.setIfInBounds_toArray, List.set_cons_zero, List.set_cons_succ]
        refine wpFl_qL (v := ?_) rfl (Or.inl ⟨by rfl, ?_⟩) ?_
        rotate_left
        focus (intro w' hSw; (try dsimp only [OldKept] at hSw); obtain ⟨q1, q2, q3, q4, q5, q6⟩ := HKQ.out w' hSw; go_simp; (try with_reducible rfl); done)
        simp only [Act.put, List.setIfInBounds_toArray, List.set_cons_zero, List.set_cons_succ]
        refine wpFl_qL (v := ?_) rfl (Or.inl ⟨by rfl, ?_⟩) ?_
        rotate_left
        focus (intro w' hSw; (try dsimp only [OldKept] at hSw); obtain ⟨q1, q2, q3, q4, q5, q6⟩ := HKQ.out w' hSw; go_simp; (try with_reducible rfl); done)
        simp only [Act.put, List.setIfInBounds_toArray, List.set_cons_zero, List.set_cons_succ]
        refine wpFl_bL rfl (fun w14 hn14 hs14 K hK => ?_)
        go_simp
        go_at_call 39
        refine (HSM.out _ hs14).mono ?_
        rintro e w15 ⟨rfl, hb15⟩
        refine hK.out _ _ (below_next hs14 hb15) (Keeps.below hb15) ?_
        clear hK K hn14
        refine wpFl_qL (v := ?_) rfl (Or.inl ⟨by rfl, ?_⟩) ?_
        rotate_left
        focus (intro w' hSw; (try dsimp only [OldKept] at hSw); obtain ⟨q1, q2, q3, q4, q5, q6⟩ := HKQ.out w' hSw; go_simp; (try with_reducible rfl); done)
        simp only [Act.put, List.setIfInBounds_toArray, List.set_cons_zero, List.set_cons_succ]
        refine wpFl_qL (v := ?_) rfl (Or.inl ⟨by rfl, ?_⟩) ?_
        rotate_left
        focus (intro w' hSw; (try dsimp only [OldKept] at hSw); obtain ⟨q1, q2, q3, q4, q5, q6⟩ := HKQ.out w' hSw; go_simp; (try with_reducible rfl); done)
        simp only [Act.put, List.setIfInBounds_toArray, List.set_cons_zero, List.set_cons_succ]
        refine wpFl_qL (v := ?_) rfl (Or.inl ⟨by rfl, ?_⟩) ?_
        rotate_left
        focus (intro w' hSw; (try dsimp only [OldKept] at hSw); obtain ⟨q1, q2, q3, q4, q5, q6⟩ := HKQ.out w' hSw; go_simp; (try with_reducible rfl); done)
        simp only [Act.put, List.setIfInBounds_toArray, List.set_cons_zero, List.set_cons_succ]
        refine wpFl_qL (v := ?_) rfl (Or.inl ⟨by rfl, ?_⟩) ?_
        rotate_left
        focus (intro w' hSw; (try dsimp only [OldKept] at hSw); obtain ⟨q1, q2, q3, q4, q5, q6⟩ := HKQ.out w' hSw; go_simp; (try with_reducible rfl); done)
        simp only [Act.put, List.setIfInBounds_toArray, List.set_cons_zero, List.set_cons_succ]
        refine wpFl_qL (v := ?_) rfl (Or.inl ⟨by rfl, ?_⟩) ?_
        rotate_left
        focus (intro w' hSw; (try dsimp only [OldKept] at hSw); obtain ⟨q1, q2, q3, q4, q5, q6⟩ := HKQ.out w' hSw; go_simp; (try with_reducible rfl); done)
        simp only [Act.put, List.setIfInBounds_toArray, List.set_cons_zero, List.set_cons_succ]
        refine wpFl_qL (v := ?_) rfl (Or.inl ⟨by rfl, ?_⟩) ?_
        rotate_left
        focus (intro w' hSw; (try dsimp only [OldKept] at hSw); obtain ⟨q1, q2, q3, q4, q5, q6⟩ := HKQ.out w' hSw; go_simp; (try with_reducible rfl); done)
        simp only [Act.put, List.setIfInBounds_toArray, List.set_cons_zero, List.set_cons_succ]
        refine wpFl_qL (v := ?_) rfl (Or.inl ⟨by rfl, ?_⟩) ?_
        rotate_left
        focus (intro w' hSw; (try dsimp only [OldKept] at hSw); obtain ⟨q1, q2, q3, q4, q5, q6⟩ := HKQ.out w' hSw; go_simp; (try with_reducible rfl); done)
        simp only [Act.put, List.setIfInBounds_toArray, List.set_cons_zero, List.set_cons_succ]
        refine wpFl_qL (v := ?_) rfl (Or.inl ⟨by rfl, ?_⟩) ?_
        rotate_left
        focus (intro w' hSw; (try dsimp only [OldKept] at hSw); obtain ⟨q1, q2, q3, q4, q5, q6⟩ := HKQ.out w' hSw; go_simp; (try with_reducible rfl); done)
        simp only [Act.put, List.setIfInBounds_toArray, List.set_cons_zero, List.set_cons_succ]
        refine wpFl_qL (v := ?_) rfl (Or.inl ⟨by rfl, ?_⟩) ?_
        rotate_left
        focus (intro w' hSw; (try dsimp only [OldKept] at hSw); obtain ⟨q1, q2, q3, q4, q5, q6⟩ := HKQ.out w' hSw; go_simp; (try with_reducible rfl); done)
        simp only [Act.put, List.setIfInBounds_toArray, List.set_cons_zero, List.set_cons_succ]
        refine wpFl_qL (v := ?_) rfl (Or.inl ⟨by rfl, ?_⟩) ?_
        rotate_left
        focus (intro w' hSw; (try dsimp only [OldKept] at hSw); obtain ⟨q1, q2, q3, q4, q5, q6⟩ := HKQ.out w' hSw; go_simp; (try with_reducible rfl); done)
        simp only [Act.put, List.setIfInBounds_toArray, List.set_cons_zero, List.set_cons_succ]
        refine wpFl_qL (v := ?_) rfl (Or.inl ⟨by rfl, ?_⟩) ?_
        rotate_left
        focus (intro w' hSw; (try dsimp only [OldKept] at hSw); obtain ⟨q1, q2, q3, q4, q5, q6⟩ := HKQ.out w' hSw; go_simp; (try with_reducible rfl); done)
        simp only [Act.put, List.setIfInBounds_toArray, List.set_cons_zero, List.set_cons_succ]
        refine wpFl_qL (v := ?_) rfl (Or.inl ⟨by rfl, ?_⟩) ?_
        rotate_left
        focus (intro w' hSw; (try dsimp only [OldKept] at hSw); obtain ⟨q1, q2, q3, q4, q5, q6⟩ := HKQ.out w' hSw; go_simp; (try with_reducible rfl); done)
        simp only [Act.put, List.setIfInBounds_toArray, List.set_cons_zero, List.set_cons_succ]
        refine wpFl_qL (v := ?_) rfl (Or.inl ⟨by rfl, ?_⟩) ?_
        rotate_left
        focus (intro w' hSw; (try dsimp only [OldKept] at hSw); obtain ⟨q1, q2, q3, q4, q5, q6⟩ := HKQ.out w' hSw; go_simp; (try with_reducible rfl); done)
        simp only [Act.put, List.setIfInBounds_toArray, List.set_cons_zero, List.set_cons_succ]
        refine wpFl_qL (v := ?_) rfl (Or.inl ⟨by rfl, ?_⟩) ?_
        rotate_left
        focus (intro w' hSw; (try dsimp only [OldKept] at hSw); obtain ⟨q1, q2, q3, q4, q5, q6⟩ := HKQ.out w' hSw; go_simp; (try with_reducible rfl); done)
        simp only [Act.put, List.setIfInBounds_toArray, List.set_cons_zero, List.set_cons_succ]
        refine wpFl_bL rfl (fun w16 hn16 hs16 K hK => ?_)
        go_simp
        go_at_call 51
        refine (HE.out _).mono ?_
        rintro e w17 ⟨rfl, hb17⟩
        have HB17 := Lib.hid (below_next hs16 hb17)
        refine hK.out _ _ HB17.out (Keeps.below hb17) ?_
        clear hK K hn16 hs14 hb15 hs16 hb17
        refine wpFl_qL (v := ?_) rfl (Or.inl ⟨by rfl, ?_⟩) ?_
        rotate_left
        focus (intro w' hSw; (try dsimp only [OldKept] at hSw); go_simp; (try with_reducible rfl); done)
        simp only [Act.put, List.setIfInBounds_toArray, List.set_cons_zero, List.set_cons_succ]
        refine wpFl_qL (v := ?_) rfl (Or.inl ⟨by rfl, ?_⟩) ?_
        rotate_left
        focus (intro w' hSw; (try dsimp only [OldKept] at hSw); go_simp; (try with_reducible rfl); done)
        simp only [Act.put, List.setIfInBounds_toArray, List.set_cons_zero, List.set_cons_succ]
        refine wpFl_nil ?_
        refine NoPanic.normal ?_
        obtain ⟨q1, q2, q3, q4, q5, q6⟩ := HKQ.out w17 HB17.out
        have HSB17 := Lib.hid (kept_block hsb.out (below_next HBW.out HB17.out))
        have HNB := Lib.hid (two_heap HSB17.out (.int .i64 cn) (.slice (some ⟨b', o', none⟩) (L + 1) c11))
        have HNS2 := Lib.hid (SS.offreg (SS.below HSW.out HB17.out) (fun s e => by cases e) HSB17.out (two_grown w17 w6.heap.size (.int .i64 cn) (.slice (some ⟨b', o', none⟩) (L + 1) c11)))
        have HNW := Lib.hid (two_below (hB.out.trans ((below_next HBW.out HB17.out).mono hB.out.size)) (Nat.le_refl _) (.int .i64 cn) (.slice (some ⟨b', o', none⟩) (L + 1) c11))
        obtain ⟨_, _, qf⟩ := two_cells HSB17.out
        clear HKQ HSM HBW HTB HSW HNE q3 q6 hB hss hsb HKr HB17
        go_wp2
        go_roundw
        case rel => exact ⟨k + 1, S ++ [E], _, by omega, by go_num, Lib.hid HT.out.symm, Lib.hid (by rw [List.length_append, ← HL.out]; simp; omega), HNB, HNS2, HNW⟩
        case measure => simp [intOf]; omega
      · have HVb := Lib.hid (HVf.out hfull)
        clear HVm HVf
        refine wp_region_noPanic ?_
        refine wp_region_lexB [.q 0, .q 1, .q 2, .q 3, .q 4, .an 10, .b 5, .b 6, .q 7, .q 8, .q 9, .co 10, .b 11, .q 12] (by kernel_rfl) (by kernel_rfl) (fun _ _ _ _ h => h) ?_
        refine wpFl_qL (v := ?_) rfl (Or.inl ⟨by rfl, ?_⟩) ?_
        rotate_left
        focus (intro w' hSw; (try dsimp only [OldKept] at hSw); obtain ⟨k0, k1, k2⟩ := HKP.out w' hSw; go_simp; (try with_reducible rfl); done)
        simp only [Act.put, List.setIfInBounds_toArray, List.set_cons_zero, List.set_cons_succ]
        refine wpFl_qL (v := ?_) rfl (Or.inl ⟨by rfl, ?_⟩) ?_
        rotate_left
        focus (intro w' hSw; (try dsimp only [OldKept] at hSw); obtain ⟨k0, k1, k2⟩ := HKP.out w' hSw; go_simp; (try with_reducible rfl); done)
        simp only [Act.put, List.setIfInBounds_toArray, List.set_cons_zero, List.set_cons_succ]
        refine wpFl_qL (v := ?_) rfl (Or.inl ⟨by rfl, ?_⟩) ?_
        rotate_left
        focus (intro w' hSw; (try dsimp only [OldKept] at hSw); obtain ⟨k0, k1, k2⟩ := HKP.out w' hSw; go_simp; (try with_reducible rfl); done)
        simp only [Act.put, List.setIfInBounds_toArray, List.set_cons_zero, List.set_cons_succ]
        refine wpFl_qL (v := ?_) rfl (Or.inl ⟨by rfl, ?_⟩) ?_
        rotate_left
        focus (intro w' hSw; (try dsimp only [OldKept] at hSw); obtain ⟨k0, k1, k2⟩ := HKP.out w' hSw; go_simp; (try with_reducible rfl); done)
        simp only [Act.put, List.setIfInBounds_toArray, List.set_cons_zero, List.set_cons_succ]
        refine wpFl_qL (v := ?_) rfl (Or.inl ⟨by rfl, ?_⟩) ?_
        rotate_left
        focus (intro w' hSw; (try dsimp only [OldKept] at hSw); obtain ⟨k0, k1, k2⟩ := HKP.out w' hSw; go_simp; (try with_reducible rfl); done)
        simp only [Act.put, List.setIfInBounds_toArray, List.set_cons_zero, List.set_cons_succ]
        refine wpFl_anL rfl (.cells #[.int .i64 0, .slice none 0 0] 26 (0, 0)) (fun n => .pointer (some ⟨n, 0, none⟩)) ⟨by rfl, fun w' => ?_⟩ ?_
        focus (go_simp; done)
        refine wpFl_bL rfl (fun w8 hn8 hs8 K hK => ?_)
        go_simp
        go_at_call 51
        refine (HE.out _).mono ?_
        rintro e w9 ⟨rfl, hb9⟩
        refine hK.out _ _ (below_next hs8 hb9) (Keeps.below hb9) ?_
        clear hK K hn8
        refine wpFl_bL rfl (fun w10 hn10 hs10 K hK => ?_)
        go_simp
        go_at_call 42
        refine (append_b false cn E HVb (SS.below hss.out hs10) (by rw [← HL.out]; omega)).mono ?_
        rintro e w11 ⟨h11, hb11⟩
        rw [if_neg (by decide)] at h11
        subst h11
        refine hK.out _ _ (below_next hs10 hb11) (Keeps.below hb11) ?_
        clear hK K hn10 hs8 hb9 hs10 hb11
        refine wpFl_qL (v := ?_) rfl (Or.inl ⟨by rfl, ?_⟩) ?_
        rotate_left
        focus (intro w' hSw; (try dsimp only [OldKept] at hSw); go_simp; (try with_reducible rfl); done)
        simp only [Act.put, List.setIfInBounds_toArray, List.set_cons_zero, List.set_cons_succ]
        refine wpFl_qL (v := ?_) rfl (Or.inl ⟨by rfl, ?_⟩) ?_
        rotate_left
        focus (intro w' hSw; (try dsimp only [OldKept] at hSw); go_simp; (try with_reducible rfl); done)
        simp only [Act.put, List.setIfInBounds_toArray, List.set_cons_zero, List.set_cons_succ]
        refine wpFl_qL (v := ?_) rfl (Or.inl ⟨by rfl, ?_⟩) ?_
        rotate_left
        focus (intro w' hSw; (try dsimp only [OldKept] at hSw); go_simp; (try with_reducible rfl); done)
        simp only [Act.put, List.setIfInBounds_toArray, List.set_cons_zero, List.set_cons_succ]
        refine wpFl_coL rfl (.cells #[.int .i64 0, .slice none 0 0] 26 (0, 0)) (fun n => .pointer (some ⟨n, 0, none⟩)) (by rfl) (N' := []) (by rfl) (fun bt w12 hn_w12 hs_w12 hb_bt hz_bt => ?_)
        simp only [Act.put, List.setIfInBounds_toArray, List.set_cons_zero, List.set_cons_succ]
        clear hn_w12 hs_w12
        refine wpFl_bL rfl (fun w13 hn13 hs13 K hK => ?_)
        have HZ13 := Lib.hid (kept_block hz_bt hn13)
        obtain ⟨z0, z1, zf⟩ := two_cells HZ13.out
        go_simp
        refine hK.out _ _ (two_below hs13 hb_bt _ _) Keeps.nil ?_
        have HBW := Lib.hid (two_below hs13 hb_bt (.int .i64 0) (.slice none 0 0))
        have HTB := Lib.hid (two_heap HZ13.out (.int .i64 0) (.slice none 0 0))
        generalize (w13.setCell ⟨bt, 0, none⟩ (.int .i64 0)).setCell ⟨bt, 1, none⟩ (.slice none 0 0) = W at *
        clear hK K HZ13 z0 z1 zf hn13 hs13 hz_bt hb_bt
        refine wpFl_qL (v := ?_) rfl (Or.inl ⟨by rfl, ?_⟩) ?_
        rotate_left
        focus (intro w' hSw; (try dsimp only [OldKept] at hSw); go_simp; (try with_reducible rfl); done)
        simp only [Act.put, List.setIfInBounds_toArray, List.set_cons_zero, List.set_cons_succ]
        refine wpFl_nil ?_
        refine NoPanic.normal ?_
        obtain ⟨q1, q2, q3⟩ := HKP.out W HBW.out
        obtain ⟨q4, q5, _⟩ := two_cells HTB.out
        have t60 : ¬ (L : Int) < 60 := by omega
        have HF : Hid (Below w.heap.size w W) := Lib.hid (HKr.out.step HBW.out).below
        clear HKP hB hss hsb HKr HBW HTB q3
        go_wp2
        go_ret
        exact ⟨rfl, HF.out⟩
    · obtain rfl : k = M := by omega
      have HVS : Hid (validB ⟨cn, S⟩ = true) := Lib.hid (by rw [hS.out]; exact valid_more HV.out _ (by rw [← hS.out]; exact hS60.out))
      have HHS : Hid ((⟨h1, h2, h3, h4⟩ : HeadP) = headS key cn S sz) := Lib.hid (by rw [hS.out, head_more _ _ _ _ _ (by rw [← HM.out]; exact hszm)]; exact HH.out)
      have HSL : Hid (sz ≤ S.length) := Lib.hid (by rw [hS.out, List.length_append, ← HM.out]; omega)
      have kS := (HKr.out.put (d := .S (.slice va L vc) S) hss.out).put (d := .B w6.heap.size #[.int .i64 cn, .slice va L vc] 26) hsb.out
      simp only [List.nil_append, List.cons_append] at kS
      have KS := Lib.hid kS
      obtain ⟨s0, s1, _⟩ := two_cells hsb.out
      clear kS hS hS60 hsb hss hB HKr HKM HMM HY3 HIY HNS HH HV
      generalize w6.heap.size = sb at *
      go_wp2_with fail
      refine (sign_at KS.out 3 rfl key cn sz HK32.out HVS.out HSL.out).mono ?_
      rintro e w20 ⟨rfl, k20⟩
      rw [← HHS.out]
      simp only [hbox]
      have K20 := Lib.hid k20
      clear k20 s0 s1 KS HHS
      go_upto_region 21 with fail
      have k21 := K20.out.box #[.int .i64 h1, .int .i64 h2, .string h3, .string h4] 35
      obtain ⟨w21, hw21⟩ : ∃ W, W = w20.alloc (.cells #[.int .i64 h1, .int .i64 h2, .string h3, .string h4] 35) := ⟨_, rfl⟩
      rw [← hw21] at k21 ⊢
      clear hw21
      generalize w20.heap.size = hc at k21 ⊢
      simp only [List.nil_append, List.cons_append] at k21
      have K21 := Lib.hid k21
      have b2 : w21.heap[hb]? = some (.cells #[.int .i64 h1, .int .i64 h2, .string h3, .string h4] 35 (0, 0)) := k21.all 2 _ rfl
      have b5 : w21.heap[hc]? = some (.cells #[.int .i64 h1, .int .i64 h2, .string h3, .string h4] 35 (0, 0)) := k21.all 5 _ rfl
      obtain ⟨s0, s1⟩ := k21.duo (i := 4) rfl
      have c0 := cell_of_row w21 hb 0 _ _ _ b2
      have c1 := cell_of_row w21 hb 1 _ _ _ b2
      have c2 := cell_of_row w21 hb 2 _ _ _ b2
      have c3 := cell_of_row w21 hb 3 _ _ _ b2
      have d0 := cell_of_row w21 hc 0 _ _ _ b5
      have d1 := cell_of_row w21 hc 1 _ _ _ b5
      have d2 := cell_of_row w21 hc 2 _ _ _ b5
      have d3 := cell_of_row w21 hc 3 _ _ _ b5
      have HVa := Lib.hid (valid_any (car := (cn : Int)) (K21.out.all 3 _ rfl : SS w21 (.slice va L vc) S))
      rw [HVS.out] at HVa
      have HF := Lib.hid (K21.out.alloc (.cells #[.int .i64 cn, .slice va L vc] 26)).below
      clear b2 b5 k21 K20
      go_wp2_with (go_at_call 44; refine HVa.out.mono ?_; rintro e w22 ⟨rfl, hw22⟩; subst hw22)
      go_ret
      exact ⟨rfl, HF.out⟩
end Go.Proofs.YtinfpbkbnhcifaaGreatDoor
