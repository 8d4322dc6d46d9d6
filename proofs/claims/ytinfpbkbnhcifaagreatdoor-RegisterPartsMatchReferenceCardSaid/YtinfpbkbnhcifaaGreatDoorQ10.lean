/- The walk of digest.Verify. The conditions: what the slice reads as, lengths, the table of constants. -/
import Derived.Test.YtinfpbkbnhcifaaGreatDoorQ09
namespace Go.Proofs.YtinfpbkbnhcifaaGreatDoor
open Go.RowKit Go.BigFrame Go.Shelf

attribute [local go_sem] Oper.semAt_some

set_option maxHeartbeats 1000000 in
theorem take_cut {w : World} {a : Option Addr} {m cap : Nat} {xs : List ByteArray} (x : ByteArray) (hr : SS w (.slice a m cap) (xs ++ [x])) :
    Calls Tryz.prog 92 #[.slice a m cap] w fun e w' => ∃ n, e = .returned (.tuple #[.string x, .slice a xs.length cap, .bool true]) ∧ w' = w.drewN n := by
  obtain ⟨a', cap', hv, l1, l2, l3⟩ := hr.opened
  have hl : (xs ++ [x]).length = xs.length + 1 := by simp
  rw [hl] at l1 hv
  cases hv
  obtain ⟨b, off, rfl, hb, c1⟩ := l3 xs.length x (by simp)
  clear l3 hr hl
  unfold maxLen at l2
  have b1 : (0 : Int) ≤ (xs.length : Int) := by omega
  generalize xs.length = n at *
  have b2 : (n : Int) < ((n + 1 : Nat) : Int) := by omega
  have f1 : IntKind.i64.wrap (((n + 1 : Nat) : Int) - 1) = (n : Int) := by rw [IntWalk.i64_in _ (by omega)]; omega
  go_enter Tryz.func92, Tryz.ntmps92
  go_wp2
  go_quiet (fail)
  go_wp2
  refine bodyPost_ret (results_tmp3 rfl _ _ _) rfl ?_
  exact ⟨_, rfl, rfl⟩

set_option maxHeartbeats 4000000 in
set_option maxRecDepth 100000 in
theorem verify_no {w : World} {v : Value} {pr : List ByteArray} (root s : ByteArray) (n i : Int) (hr : SS w v pr) (hi : i < 0 ∨ n ≤ i ∨ pr.all isDig = false) :
    Calls Tryz.prog 60 #[.string root, .int .i64 n, .int .i64 i, .string s, v] w fun e w' => e = .returned (.bool false) ∧ w' = w := by
  have HA := Lib.hid (allD_any hr)
  clear hr
  generalize pr.all isDig = al at *
  go_enter Tryz.func60, Tryz.ntmps60
  by_cases h1 : i < 0
  · go_wp2
    exact bodyPost_ret (results_tmp rfl _ _ _) rfl ⟨rfl, rfl⟩
  · by_cases h2 : n ≤ i
    · go_wp2
      exact bodyPost_ret (results_tmp rfl _ _ _) rfl ⟨rfl, rfl⟩
    · have h3 : al = false := by
        rcases hi with h | h | h
        · exact absurd h h1
        · exact absurd h h2
        · exact h
      subst h3
      go_wp2_with (go_at_call 91; refine HA.out.mono ?_; rintro e w1 ⟨rfl, rfl⟩)
      exact bodyPost_ret (results_tmp rfl _ _ _) rfl ⟨rfl, rfl⟩

set_option maxHeartbeats 4000000 in
set_option maxRecDepth 100000 in
theorem verify_any {w : World} {v : Value} {pr : List ByteArray} (root s : ByteArray) (n i : Nat) (hr : SS w v pr) (hl : pr.length ≤ 1000) (hs : s.size ≤ 100000) (he : Env w) (hg : 0 < w.heap.size) (hn : n ≤ 1000000) (hi : i < n) (ha : pr.all isDig = true) :
    Calls Tryz.prog 60 #[.string root, .int .i64 n, .int .i64 i, .string s, v] w fun e w' => e = .returned (.bool (verB root n i s pr)) ∧ Below w.heap.size w w' := by
  obtain ⟨a, cap, rfl, l1, l2, _⟩ := hr.opened
  have HA := Lib.hid (allD_any hr)
  rw [ha] at HA
  have HE := Lib.hid he
  have HG := Lib.hid hg
  have HW : Hid (WayI s pr n i [] pr n i ∧ pr.length = pr.length ∧ (∀ x ∈ pr, x.size = 32)) := Lib.hid ⟨WayI.start s pr n i, rfl, fun x hx => by
    have := List.all_eq_true.1 ha x hx
    exact of_decide_eq_true this⟩
  obtain ⟨RB, hRB⟩ : ∃ RB, RB = verB root n i s pr := ⟨_, rfl⟩
  rw [← hRB]
  have HRB := Lib.hid hRB
  have HR := Lib.hid hr
  clear hRB hr ha he hg
  unfold maxLen at l2
  obtain ⟨m, hm⟩ : ∃ m, m = pr.length := ⟨_, rfl⟩
  rw [← hm] at HR HA l1 hl ⊢
  have HM := Lib.hid hm
  clear hm
  have hd0 : ¬ ((i : Int) < 0) := by omega
  have hd1 : ¬ ((n : Int) ≤ (i : Int)) := by omega
  refine calls_of_callsIn (n := 8) Wide.wide (callsIn_of_wp_marks Tryz.func60 rfl trivial ?_)
  simp only [Tryz.ntmps60, List.size_toArray, List.length_cons, List.length_nil, Nat.reduceAdd, Nat.reduceSub, Array.replicate_succ, Array.replicate_zero, List.push_toArray, List.append_toArray, List.nil_append, List.cons_append]
  refine wpIn_wide.2 ?_
  go_wp2_with (go_at_call 91; refine HA.out.mono ?_; rintro e w1 ⟨rfl, rfl⟩)
  go_loopw [1, 2, 4, 11] (fun vn vi vp vw wr => ∃ (n' i' : Nat) (ps : List ByteArray) (ws : List (ByteArray × Bool)) (m' : Nat) (a' : Option Addr) (cap' : Nat), vn = .int .i64 n' ∧ vi = .int .i64 i' ∧ i' < n' ∧ n' ≤ n ∧ vp = .slice a' m' cap' ∧ Hid (WayI s pr n i ws ps n' i' ∧ ps.length = m' ∧ ws.length + m' ≤ 1000 ∧ (∀ x ∈ ps, x.size = 32) ∧ (∀ x ∈ ws, x.1.size = 32)) ∧ Hid (SS w (.slice a' m' cap') ps) ∧ Hid (OwnX wr w.heap.size vw ws ∧ Below w.heap.size w wr)) (fun vn _ _ _ wr => (intOf vn).toNat)
  case atStart => exact ⟨n, i, pr, [], m, a, cap, rfl, rfl, hi, Nat.le_refl _, rfl, Lib.hid ⟨HW.out.1, HM.out.symm, by simpa using hl, HW.out.2.2, fun x hx => absurd hx List.not_mem_nil⟩, HR, Lib.hid ⟨OwnE.nil _ _ _ _, Below.refl _ _⟩⟩
  case round =>
    obtain ⟨n', i', ps, ws, m', a', cap', rfl, rfl, hi', hn', rfl, HI, HS, HO⟩ := hrel
    obtain ⟨a3, cap3, hv3⟩ := HO.out.1.form
    subst hv3
    by_cases h1 : 1 < n'
    · have hlt : (1 : Int) < (n' : Int) := by omega
      rcases List.eq_nil_or_concat ps with rfl | ⟨ps', x, rfl⟩
      · have hF : Hid (RB = false) := Lib.hid (by rw [HRB.out]; exact HI.out.1.short h1 root)
        have hm0 : m' = 0 := HI.out.2.1.symm
        subst hm0
        go_wp2_with (go_at_call 92; refine (take_none _ _ _).mono ?_; rintro e w1 ⟨rfl, rfl⟩)
        refine leaves_marks (B := w.heap.size) [] _ ⟨List.nodup_nil, fun D h => absurd h List.not_mem_nil⟩ (fun W'' hT => ⟨_, results_tmp rfl _ _ _, ?_, HO.out.2.trans hT.below⟩)
        rw [hF.out]
        rfl
      · rw [List.concat_eq_append] at *
        have HT := Lib.hid (take_cut x (HS.out.below HO.out.2))
        have HL := Lib.hid (fun q => left_any n' (wr.drewN q) (by omega) (by omega))
        have hk1 := leftN_pos n'
        have hk2 := leftN_lt (n := n') (by omega)
        have HST := Lib.hid (HI.out.1.step h1)
        obtain ⟨k, hk⟩ : ∃ k, k = leftN n' := ⟨_, rfl⟩
        rw [← hk] at HL hk1 hk2 HST
        clear hk
        obtain ⟨p, hp⟩ : ∃ p, p = ps'.length := ⟨_, rfl⟩
        have hm1 : m' = p + 1 := by rw [← HI.out.2.1, hp]; simp
        subst hm1
        have HSC : Hid (SS w (.slice a' p cap') ps') := Lib.hid (by
          have := HS.out.cut p (by omega)
          rw [hp, List.take_left] at this
          rw [hp]
          exact this)
        rw [← hp] at HT
        have HP := Lib.hid hp
        clear hp
        have HJ : Hid ((ws.length + (p + 1) ≤ 1000) ∧ (∀ x ∈ ps', x.size = 32) ∧ x.size = 32 ∧ ∀ x ∈ ws, x.1.size = 32) := Lib.hid ⟨HI.out.2.2.1, fun y hy => HI.out.2.2.2.1 y (by simp [hy]), HI.out.2.2.2.1 x (by simp), HI.out.2.2.2.2⟩
        have HJ2 : ∀ (b : Bool), (ws ++ [(x, b)]).length + p ≤ 1000 ∧ (∀ y ∈ ws ++ [(x, b)], y.1.size = 32) := fun b => ⟨by have := HJ.out.1; rw [List.length_append]; simp; omega, fun y hy => by
          rcases List.mem_append.1 hy with h | h
          · exact HJ.out.2.2.2 y h
          · rw [List.mem_singleton] at h; subst h; exact HJ.out.2.2.1⟩
        have HJ2 := Lib.hid HJ2
        by_cases hik : k ≤ i'
        · have hd : (k : Int) ≤ (i' : Int) := by omega
          have f1 : IntKind.i64.wrap ((n' : Int) - (k : Int)) = ((n' - k : Nat) : Int) := by rw [IntWalk.i64_in _ (by omega)]; omega
          have f2 : IntKind.i64.wrap ((i' : Int) - (k : Int)) = ((i' - k : Nat) : Int) := by rw [IntWalk.i64_in _ (by omega)]; omega
          go_wp2_with (first | (go_at_call 92; refine HT.out.mono ?_; rintro e w1 ⟨q, rfl, rfl⟩) | (go_at_call 85; refine (HL.out _).mono ?_; rintro e w2 ⟨rfl, rfl⟩) | (go_quiet (fail)) | (at_builtin; refine wpList_append_side (.tmp 44) (.tmp 50) w.heap.size _ ws wr.heap.size (x, true) (0, 0) (OwnE.alloc (OwnE.drewN HO.out.1 _) _) (by have := HI.out.2.2.1; omega) (Nat.le_trans HO.out.2.size (by simp [World.drewN])) (heap_alloc_new _ _) rfl rfl rfl rfl ?_; intro v3 w3 ho3 hg3; have HO3 : Hid (OwnX w3 w.heap.size v3 (ws ++ [(x, true)]) ∧ Below w.heap.size w w3) := Lib.hid ⟨ho3, below_own ((below_drewN HO.out.2 _).alloc HO.out.2.size _) (OwnE.alloc (OwnE.drewN HO.out.1 _) _) hg3 (Nat.le_refl _)⟩; clear ho3 hg3))
          go_roundw
          case rel => exact ⟨n' - k, i' - k, ps', ws ++ [(x, true)], p, a', cap', rfl, rfl, by omega, by omega, rfl, Lib.hid ⟨HST.out.1 hik, HP.out.symm, (HJ2.out true).1, HJ.out.2.1, (HJ2.out true).2⟩, HSC, HO3⟩
          case measure => simp [intOf]; omega
        · have hd : ¬ (k : Int) ≤ (i' : Int) := by omega
          go_wp2_with (first | (go_at_call 92; refine HT.out.mono ?_; rintro e w1 ⟨q, rfl, rfl⟩) | (go_at_call 85; refine (HL.out _).mono ?_; rintro e w2 ⟨rfl, rfl⟩) | (go_quiet (fail)) | (at_builtin; refine wpList_append_side (.tmp 44) (.tmp 50) w.heap.size _ ws wr.heap.size (x, false) (0, 0) (OwnE.alloc (OwnE.drewN HO.out.1 _) _) (by have := HI.out.2.2.1; omega) (Nat.le_trans HO.out.2.size (by simp [World.drewN])) (heap_alloc_new _ _) rfl rfl rfl rfl ?_; intro v3 w3 ho3 hg3; have HO3 : Hid (OwnX w3 w.heap.size v3 (ws ++ [(x, false)]) ∧ Below w.heap.size w w3) := Lib.hid ⟨ho3, below_own ((below_drewN HO.out.2 _).alloc HO.out.2.size _) (OwnE.alloc (OwnE.drewN HO.out.1 _) _) hg3 (Nat.le_refl _)⟩; clear ho3 hg3))
          go_roundw
          case rel => exact ⟨k, i', ps', ws ++ [(x, false)], p, a', cap', rfl, rfl, by omega, by omega, rfl, Lib.hid ⟨HST.out.2 (by omega), HP.out.symm, (HJ2.out false).1, HJ.out.2.1, (HJ2.out false).2⟩, HSC, HO3⟩
          case measure => simp [intOf]; omega
    · have hn1 : n' ≤ 1 := by omega
      have hlt : ¬ (1 : Int) < (n' : Int) := by omega
      have HLf := Lib.hid (leaf_any s wr (by omega) (HE.out.below HO.out.2 HG.out) (Nat.lt_of_lt_of_le HG.out HO.out.2.size))
      have h0s : 0 < wr.heap.size := Nat.lt_of_lt_of_le (Nat.lt_of_le_of_lt (Nat.zero_le _) HG.out) HO.out.2.size
      go_wp2_with (first | (go_at_call 93; refine HLf.out.mono ?_; rintro e w1 ⟨rfl, hb1⟩; have HO1 : Hid (OwnX w1 w.heap.size _ ws ∧ Below w.heap.size w w1 ∧ wr.heap.size ≤ w1.heap.size) := Lib.hid ⟨HO.out.1.far hb1 (Nat.le_refl _), HO.out.2.trans (hb1.mono HO.out.2.size), hb1.size⟩; clear hb1) | (go_at_call 94; refine (backSide_any _ _ _ _).mono ?_; rintro e w' ⟨rfl, rfl⟩))
      obtain ⟨hwn, hnc, hcm, g, o, hgo, hcl⟩ := HO1.out.1.block (Nat.lt_of_lt_of_le h0s HO1.out.2.2)
      have hgl : g < w1.heap.size := (Array.getElem?_eq_some_iff.1 hgo).1
      have hsw := HO1.out.2.1.size
      have HBw : Hid (Below w.heap.size w ((w1.alloc (.cells #[.string (leafS s)] 9)).alloc (.cells #[.slice a3 ws.length cap3] 123))) := Lib.hid ((HO1.out.2.1.alloc (by omega) _).alloc (by simp; omega) _)
      obtain ⟨FB, hFB⟩ : ∃ FB : List DgX → ByteArray, FB = upF (leafS s) := ⟨_, rfl⟩
      have HFB : Hid (FB [] = leafS s ∧ (∀ pre x, FB (pre ++ [x]) = sideS x.1.2 (FB pre)) ∧ (∀ pre, (FB pre).size = 32) ∧ ∀ xs, xs.map (fun x => x.1.2) = ws.reverse → RB = (decide (m' = 0) && decide (FB xs = root))) := Lib.hid (by
        rw [hFB]
        refine ⟨rfl, fun pre x => upF_snoc _ pre x, fun pre => upF_size _ (leafS_size s) pre, fun xs h => ?_⟩
        rw [HRB.out, upF_all _ xs ws h]
        obtain ⟨i1, i2, _⟩ := HI.out
        rcases Nat.eq_zero_or_pos m' with h0 | h0
        · rw [h0] at i2
          obtain rfl := List.eq_nil_of_length_eq_zero i2
          rw [i1.done hn1 root, h0]
          simp
        · rw [i1.long hn1 (fun e => by rw [e] at i2; simp at i2; omega) root]
          rw [decide_eq_false (by omega)]
          rfl)
      have HBO : Hid (((w1.alloc (.cells #[.string (leafS s)] 9)).alloc (.cells #[.slice a3 ws.length cap3] 123)).heap[w1.heap.size]? = some (.cells #[.string (FB [])] 9 (0, 0))) := Lib.hid (by rw [HFB.out.1]; exact at_past w1 _ _)
      have HB1 : Hid (((w1.alloc (.cells #[.string (leafS s)] 9)).alloc (.cells #[.slice a3 ws.length cap3] 123)).heap[w1.heap.size + 1]? = some (.cells #[.slice a3 ws.length cap3] 123 (0, 0))) := Lib.hid (at_second w1 _ _)
      have HBG : Hid (((w1.alloc (.cells #[.string (leafS s)] 9)).alloc (.cells #[.slice a3 ws.length cap3] 123)).heap[g]? = some o) := Lib.hid ((Below.heap_alloc _ _ _ (by simp; omega)).trans ((Below.heap_alloc _ _ _ (by omega)).trans hgo))
      have hs5 : ((w1.alloc (.cells #[.string (leafS s)] 9)).alloc (.cells #[.slice a3 ws.length cap3] 123)).heap.size = w1.heap.size + 2 := by simp
      have HCL := Lib.hid hcl
      have H32 : Hid (∀ x ∈ ws, x.1.size = 32) := Lib.hid HI.out.2.2.2.2
      obtain ⟨b1, hb1⟩ : ∃ b1, b1 = w1.heap.size := ⟨_, rfl⟩
      generalize (w1.alloc (.cells #[.string (leafS s)] 9)).alloc (.cells #[.slice a3 ws.length cap3] 123) = W5 at *
      rw [← hb1] at HBO HB1 hs5 hgl hsw ⊢
      clear hb1
      clear hFB hcl hgo HLf HO HO1
      refine (wpIn_wide (n := 8)).1 ?_
      refine wpIn_rangeA (n := 8) Wide.wide rfl (gf := 120) (lb := #[.pointer (some ⟨b1 + 1, 0, none⟩)]) ?ev (fun args w => ?enter) (backSide1_iter (b1 + 1) g ws.length cap3 a3 o ws W5 rfl hcm hnc H32.out HB1.out HBG.out HCL.out) (Below.refl _ _) (fun x => rfl) (fun q e => by cases e) (fun h h' => ⟨h'.1.trans h.1, h'.2.trans h.2⟩) (fun W l o o' h1 h2 h3 h4 => ?kb)
        (fun pre W => W.heap[b1]? = some (.cells #[.string (FB pre)] 9 (0, 0)) ∧ (W.heap[b1 + 1]? = some (.cells #[.slice a3 ws.length cap3] 123 (0, 0)) ∧ (W.heap[g]? = some o ∧ Below w.heap.size w W)))
        (fun _ _ _ => False) ?abide (fun _ => abide_false _ _) ⟨HBO.out, HB1.out, HBG.out, HBw.out⟩
        (fun a x a' W => ∃ q, W.heap[q]? = some (.cells #[.string x.1.2.1, .bool x.1.2.2] 127 (0, 0)) ∧ a' = ⟨((a.tmps.setIfInBounds 66 (.int .i64 (x.1.1 : Nat))).setIfInBounds 67 (.agg #[.string x.1.2.1, .bool x.1.2.2])).setIfInBounds 18 (.pointer (some ⟨q, 0, none⟩)), []⟩)
        (fun x a' W l o o' h1 h2 h3 h4 => ?a1) (fun A C h1 h2 => ?kg) (fun l pre x W K hI hK => ?assign) (fun l pre x a' W hI hlen hA => ?body) (fun Dm xs W hDm hS hI hDd => ?done) (fun Dm c pre W hD hS hI => hI.elim)
      case a1 =>
        obtain ⟨q, hq, ha⟩ := h1
        exact ⟨q, (World.putObj_heap_other (fun e => by subst e; rw [h3] at hq; cases hq; cases h4)).trans hq, ha⟩
      case kg => exact ⟨h2.block _ (by omega) (by simp), h2.block _ (by omega) (by simp)⟩
      case assign =>
        simp only [List.zip_toArray, List.zip_cons_cons, List.zip_nil_right, List.foldl_toArray', List.foldl_cons, List.foldl_nil, List.setIfInBounds_toArray, List.set_cons_succ, List.set_cons_zero]
        gi_wp2
        exact hK _ _ ⟨W.heap.size, heap_alloc_new _ _, rfl⟩ (World.grownBy_alloc _ _ _)
      case ev => rfl
      case enter => kernel_rfl
      case kb => exact ⟨World.putObj_heap_other (fun e => by omega), World.putObj_heap_other (fun e => by omega)⟩
      case abide => exact abide_and (abide_cells (fun pre => .cells #[.string (FB pre)] 9) (fun _ => rfl) (by simp)) (abide_and (abide_old _ (by omega) (by simp)) (abide_and (abide_old _ (by omega) (by simp)) (abide_below (by omega) (Nat.le_refl _) (fun q e => by cases e))))
      case body =>
        obtain ⟨q, hq, rfl⟩ := hA
        obtain ⟨g1, g2, g3, g4⟩ := hI
        have hs7 := g4.size
        have hx32 := x.2
        have HN1 := Lib.hid (sideJoin_any x.1.2.1 x.1.2.2 (FB pre) W (by omega) (by have := HFB.out.2.2.1 pre; omega) (HE.out.below g4 HG.out) (Nat.lt_of_lt_of_le HG.out hs7))
        have c1 : W.cell? ⟨b1, 0, none⟩ = some (.string (FB pre)) := cell_of_row W _ 0 _ _ _ g1
        have c3 : W.cell? ⟨q, 0, none⟩ = some (.string x.1.2.1) := cell_of_row W _ 0 _ _ _ hq
        have c4 : W.cell? ⟨q, 1, none⟩ = some (.bool x.1.2.2) := cell_of_row W _ 1 _ _ _ hq
        have hb1W : b1 < W.heap.size := (Array.getElem?_eq_some_iff.1 g1).1
        have G1 := Lib.hid g1
        have G2 := Lib.hid g2
        have G3 := Lib.hid g3
        have G4 := Lib.hid g4
        clear g1 g2 g3 g4 hq
        have HFN := Lib.hid (HFB.out.2.1 pre x)
        simp only [List.setIfInBounds_toArray, List.set_cons_succ, List.set_cons_zero]
        gi_wp2_with (refine ⟨trivial, ?_⟩; gi_at_call 95; refine (callsIn_of_calls (Wide.inRound Wide.wide _) HN1.out).mono ?_; rintro e W' ⟨rfl, hb⟩; rw [← HFN.out]; have HG1' : Hid (W'.heap[b1]? = some (.cells #[.string (FB pre)] 9 (0, 0))) := Lib.hid ((hb.block _ (by omega)).trans G1.out); have c2 : W'.cell? ⟨b1, 0, none⟩ = some (.string (FB pre)) := cell_of_row W' _ 0 _ _ _ HG1'.out; have cf2 : W'.frozen? ⟨b1, 0, none⟩ = false := (by simp [World.frozen?, HG1'.out]); have HB' := Lib.hid hb; clear hb)
        have hset : W'.grownBy (W'.setCell ⟨b1, 0, none⟩ (.string (FB (pre ++ [x])))) (some b1) := grown_setCell (grown_refl _ _) _ (.inl rfl) _
        have keep : ∀ (q : Nat) (o : Obj), W.heap[q]? = some o → q ≠ b1 → (W'.setCell ⟨b1, 0, none⟩ (.string (FB (pre ++ [x])))).heap[q]? = some o := fun q o hq hne => by
          have hq1 := (HB'.out.block q (Array.getElem?_eq_some_iff.1 hq).1).trans hq
          exact (hset.block q (Array.getElem?_eq_some_iff.1 hq1).1 (fun e => hne (Option.some.inj e))).trans hq1
        refine ⟨⟨Nat.le_trans HB'.out.size hset.size, fun q o hB hq hnc => keep q o hq (by omega)⟩, ⟨(keep _ _ G2.out (by omega)).trans G2.out.symm, (keep _ _ G3.out (by omega)).trans G3.out.symm⟩, ?_, keep _ _ G2.out (by omega), keep _ _ G3.out (by omega), ?_⟩
        · show (World.setCell _ _ _).heap[b1]? = _
          rw [heap_setCell_same _ HG1'.out]
          rfl
        · exact ((G4.out.trans (HB'.out.mono hs7)).grown hset (Nat.le_trans hs7 HB'.out.size) (fun j e => by cases e; exact hsw))
      case done =>
        obtain ⟨g1, _, _, g4⟩ := hI
        have c1 : W.cell? ⟨b1, 0, none⟩ = some (.string (FB xs)) := cell_of_row W _ 0 _ _ _ g1
        have HRF := Lib.hid (HFB.out.2.2.2 xs hS)
        have G4 := Lib.hid g4
        have HDd := Lib.hid hDd
        have hsW := g4.size
        clear hS g1 g4 hDd
        show Exit.inBlock _ _ _ (Act.mk _ [{ target := .collected Dm, args := #[] }]) W
        have hM : Marks w.heap.size [Dm] W := ⟨by simp, fun D hD => by
          rw [List.mem_singleton] at hD
          subst hD
          exact ⟨by omega, HDd.out⟩⟩
        generalize FB xs = fb at *
        rcases Nat.eq_zero_or_pos m' with hm0 | hm0
        · subst hm0
          go_wp2
          refine leaves_marks (B := w.heap.size) [Dm] W hM (fun W'' hT => ⟨_, results_tmp rfl _ _ _, ?_, G4.out.trans hT.below⟩)
          rw [HRF.out, ← same_str, decide_eq_true trivial, Bool.true_and]
          rfl
        · have hd : ((m' : Int) == 0) = false := by simp; omega
          go_wp2
          refine leaves_marks (B := w.heap.size) [Dm] W hM (fun W'' hT => ⟨_, results_tmp rfl _ _ _, ?_, G4.out.trans hT.below⟩)
          rw [HRF.out, decide_eq_false (by omega)]
          rfl
end Go.Proofs.YtinfpbkbnhcifaaGreatDoor

/- digest.VerifyExtension: the plain side, and the walks of the short ways. -/
namespace Go.Proofs.YtinfpbkbnhcifaaGreatDoor
open Go.RowKit Go.BigFrame Go.Shelf

attribute [local go_sem] Oper.semAt_some

/-- Does a proof show growth. -/
def vexB (old : ByteArray) (m : Nat) (root : ByteArray) (n : Nat) (pr : List ByteArray) : Bool :=
  if m = 0 then decide (pr.length = 0) && decide (old = sumS ⟨#[]⟩) else decide (bothL nodeS old pr.reverse m n true = some (old, root))

/-- The steps of those that lie behind. -/
def firstsF (ws : List (ByteArray × Bool)) (v : ByteArray) : ByteArray := ws.foldr (fun x v => if x.2 then sideS x v else v) v
def WayE (old : ByteArray) (pr : List ByteArray) (m n : Nat) (ws : List (ByteArray × Bool)) (ps : List ByteArray) (m' n' : Nat) (wh : Bool) : Prop :=
  bothL nodeS old pr.reverse m n true = (bothL nodeS old ps.reverse m' n' wh).map fun v => (firstsF ws v.1, ws.foldr sideS v.2)
theorem WayE.start (old : ByteArray) (pr : List ByteArray) (m n : Nat) : WayE old pr m n [] pr m n true := by
  unfold WayE firstsF
  cases bothL nodeS old pr.reverse m n true <;> rfl
theorem WayE.step {old : ByteArray} {pr : List ByteArray} {m n : Nat} {ws : List (ByteArray × Bool)} {ps : List ByteArray} {x : ByteArray} {m' n' : Nat} {wh : Bool} (h : WayE old pr m n ws (ps ++ [x]) m' n' wh) (hn : m' < n') :
    (leftN n' < m' → WayE old pr m n (ws ++ [(x, true)]) ps (m' - leftN n') (n' - leftN n') false) ∧ (m' ≤ leftN n' → WayE old pr m n (ws ++ [(x, false)]) ps m' (leftN n') wh) := by
  unfold WayE at *
  rw [List.reverse_append, List.reverse_singleton, List.singleton_append, bothL, if_neg (by omega)] at h
  refine ⟨fun h1 => ?_, fun h1 => ?_⟩
  · rw [if_neg (by omega)] at h
    rw [h, Option.map_map]
    congr 1
    funext v
    simp [sideS, firstsF]
  · rw [if_pos h1] at h
    rw [h, Option.map_map]
    congr 1
    funext v
    simp [sideS, firstsF]
theorem vexB_pos {old : ByteArray} {m : Nat} {root : ByteArray} {n : Nat} {pr : List ByteArray} (hm : 1 ≤ m) : vexB old m root n pr = decide (bothL nodeS old pr.reverse m n true = some (old, root)) := by
  unfold vexB; rw [if_neg (by omega)]
theorem WayE.short {old : ByteArray} {pr : List ByteArray} {m n : Nat} {ws : List (ByteArray × Bool)} {m' n' : Nat} {wh : Bool} (h : WayE old pr m n ws [] m' n' wh) (hn : m' < n') (hm : 1 ≤ m) (root : ByteArray) : vexB old m root n pr = false := by
  unfold WayE at h
  rw [List.reverse_nil, bothL, if_neg (by omega)] at h
  rw [vexB_pos hm, h]
  simp
/-- At the foot. -/
theorem WayE.whole {old : ByteArray} {pr : List ByteArray} {m n : Nat} {ws : List (ByteArray × Bool)} {ps : List ByteArray} {m' n' : Nat} (h : WayE old pr m n ws ps m' n' true) (hn : n' ≤ m') (hm : 1 ≤ m) (root : ByteArray) :
    vexB old m root n pr = (decide (ps.length = 0) && (decide (firstsF ws old = old) && decide (ws.foldr sideS old = root))) := by
  unfold WayE at h
  rcases List.eq_nil_or_concat ps with rfl | ⟨ps', x, rfl⟩
  · rw [List.reverse_nil, bothL, if_pos ⟨hn, rfl⟩] at h
    rw [vexB_pos hm, h]
    simp
  · rw [List.concat_eq_append, List.reverse_append, List.reverse_singleton, List.singleton_append, bothL, if_pos hn, if_pos rfl] at h
    rw [vexB_pos hm, h]
    simp
theorem WayE.part {old : ByteArray} {pr : List ByteArray} {m n : Nat} {ws : List (ByteArray × Bool)} {ps : List ByteArray} {m' n' : Nat} (h : WayE old pr m n ws ps m' n' false) (hn : n' ≤ m') (hm : 1 ≤ m) (root : ByteArray) :
    (ps.length ≠ 1 → vexB old m root n pr = false) ∧ ∀ x, ps = [x] → vexB old m root n pr = (decide (firstsF ws x = old) && decide (ws.foldr sideS x = root)) := by
  unfold WayE at h
  refine ⟨fun h1 => ?_, fun x hx => ?_⟩
  · rcases List.eq_nil_or_concat ps with rfl | ⟨ps', x, rfl⟩
    · rw [List.reverse_nil, bothL, if_neg (by simp)] at h
      rw [vexB_pos hm, h]
      simp
    · rw [List.concat_eq_append] at h1 h
      rw [List.reverse_append, List.reverse_singleton, List.singleton_append, bothL, if_pos hn, if_neg (by simp), if_neg (by intro e; rw [List.reverse_eq_nil_iff] at e; subst e; exact h1 rfl)] at h
      rw [vexB_pos hm, h]
      simp
  · subst hx
    rw [List.reverse_singleton, bothL, if_pos hn, if_neg (by simp), if_pos rfl] at h
    rw [vexB_pos hm, h]
    simp
theorem vexB_same {old : ByteArray} {n : Nat} {root : ByteArray} {pr : List ByteArray} (hn : 1 ≤ n) : vexB old n root n pr = (decide (pr.length = 0) && decide (old = root)) := by
  rw [(WayE.start old pr n n).whole (Nat.le_refl _) hn root]
  show (_ && (decide (old = old) && _)) = _
  rw [decide_eq_true rfl, Bool.true_and]
  rfl
/-- What is reckoned from the foot up, in the first ones alone. -/
def upG (last : ByteArray) (xs : List DgX) : ByteArray := xs.foldl (fun out x => if x.1.2.2 then sideS x.1.2 out else out) last
theorem upG_snoc (last : ByteArray) (xs : List DgX) (x : DgX) : upG last (xs ++ [x]) = if x.1.2.2 then sideS x.1.2 (upG last xs) else upG last xs := by simp [upG]
theorem upG_size (last : ByteArray) (h : last.size = 32) (xs : List DgX) : (upG last xs).size = 32 := by
  induction xs generalizing last with
  | nil => exact h
  | cons x xs ih =>
    refine ih (if x.1.2.2 then sideS x.1.2 last else last) ?_
    split
    · exact sideS_size _ _
    · exact h
theorem upG_all (last : ByteArray) (xs : List DgX) (ws : List (ByteArray × Bool)) (h : xs.map (fun x => x.1.2) = ws.reverse) : upG last xs = firstsF ws last := by
  unfold firstsF
  rw [← List.foldl_reverse, ← h, List.foldl_map]
  rfl

set_option maxHeartbeats 4000000 in
set_option maxRecDepth 100000 in
theorem vex_no {w : World} {v : Value} {pr : List ByteArray} (old root : ByteArray) (m n : Nat) (hr : SS w v pr) (hi : n < m ∨ pr.all isDig = false) :
    Calls Tryz.prog 77 #[.string old, .int .i64 m, .string root, .int .i64 n, v] w fun e w' => e = .returned (.bool false) ∧ w' = w := by
  have HA := Lib.hid (allD_any hr)
  clear hr
  generalize pr.all isDig = al at *
  have h1 : ¬ ((m : Int) < 0) := by omega
  go_enter Tryz.func77, Tryz.ntmps77
  by_cases h2 : (n : Int) < (m : Int)
  · go_wp2
    exact bodyPost_ret (results_tmp rfl _ _ _) rfl ⟨rfl, rfl⟩
  · have h3 : al = false := by
      rcases hi with h | h
      · exact absurd (by omega) h2
      · exact h
    subst h3
    go_wp2_with (go_at_call 91; refine HA.out.mono ?_; rintro e w1 ⟨rfl, rfl⟩)
    exact bodyPost_ret (results_tmp rfl _ _ _) rfl ⟨rfl, rfl⟩

set_option maxHeartbeats 4000000 in
set_option maxRecDepth 100000 in
theorem vex_zero {w : World} {v : Value} {pr : List ByteArray} (old root : ByteArray) (n : Nat) (hr : SS w v pr) (ha : pr.all isDig = true) (h1 : old.size = 32) (h2 : root.size = 32) (he : Env w) (hg : 0 < w.heap.size) :
    Calls Tryz.prog 77 #[.string old, .int .i64 0, .string root, .int .i64 n, v] w fun e w' => e = .returned (.bool (vexB old 0 root n pr)) ∧ Below w.heap.size w w' := by
  have HA := Lib.hid (allD_any hr)
  rw [ha] at HA
  have e0 : vexB old 0 root n pr = (decide (pr.length = 0) && decide (old = sumS ⟨#[]⟩)) := rfl
  rw [e0]
  obtain ⟨a, cap, rfl, l1, l2, _⟩ := hr.opened
  have HD1 := Lib.hid (fun w => isDigest_any old w)
  have HD2 := Lib.hid (fun w => isDigest_any root w)
  have hz1 : isDig old = true := decide_eq_true h1
  have hz2 : isDig root = true := decide_eq_true h2
  rw [hz1] at HD1
  rw [hz2] at HD2
  have HS := Lib.hid (sum_any ⟨#[]⟩ w (by decide) he hg)
  clear hr ha he hg hz1 hz2 e0 h1 h2
  generalize pr.length = L at *
  have hd1 : ¬ ((n : Int) < 0) := by omega
  go_enter Tryz.func77, Tryz.ntmps77
  rcases Nat.eq_zero_or_pos L with h0 | h0
  · subst h0
    go_wp2_with (first | (go_at_call 91; refine HA.out.mono ?_; rintro e w1 ⟨rfl, rfl⟩) | (go_at_call 109; first | (refine (HD1.out _).mono ?_; rintro e w1 ⟨rfl, rfl⟩) | (refine (HD2.out _).mono ?_; rintro e w1 ⟨rfl, rfl⟩)) | (go_at_call 104; refine HS.out.mono ?_; rintro e w1 ⟨rfl, hb1⟩))
    refine bodyPost_ret (results_tmp rfl _ _ _) rfl ⟨?_, hb1⟩
    rw [← same_str]
    simp [Array.getD]
  · have hd : ((L : Int) == 0) = false := by simp; omega
    go_wp2_with (first | (go_at_call 91; refine HA.out.mono ?_; rintro e w1 ⟨rfl, rfl⟩) | (go_at_call 109; first | (refine (HD1.out _).mono ?_; rintro e w1 ⟨rfl, rfl⟩) | (refine (HD2.out _).mono ?_; rintro e w1 ⟨rfl, rfl⟩)))
    refine bodyPost_ret (results_tmp rfl _ _ _) rfl ⟨?_, Below.refl _ _⟩
    rw [decide_eq_false (by omega)]
    rfl

set_option maxHeartbeats 4000000 in
set_option maxRecDepth 100000 in
theorem vex_same {w : World} {v : Value} {pr : List ByteArray} (old root : ByteArray) (n : Nat) (hn : 1 ≤ n) (hr : SS w v pr) (ha : pr.all isDig = true) (h1 : old.size = 32) (h2 : root.size = 32) :
    Calls Tryz.prog 77 #[.string old, .int .i64 n, .string root, .int .i64 n, v] w fun e w' => e = .returned (.bool (vexB old n root n pr)) ∧ Below w.heap.size w w' := by
  have HA := Lib.hid (allD_any hr)
  rw [ha] at HA
  rw [vexB_same hn]
  obtain ⟨a, cap, rfl, l1, l2, _⟩ := hr.opened
  have HD1 := Lib.hid (fun w => isDigest_any old w)
  have HD2 := Lib.hid (fun w => isDigest_any root w)
  have hz1 : isDig old = true := decide_eq_true h1
  have hz2 : isDig root = true := decide_eq_true h2
  rw [hz1] at HD1
  rw [hz2] at HD2
  clear hr ha hz1 hz2 h1 h2
  generalize pr.length = L at *
  have hd1 : ¬ ((n : Int) < 0) := by omega
  have hd2 : ¬ ((n : Int) < (n : Int)) := by omega
  have hd3 : ((n : Int) == 0) = false := by simp; omega
  go_enter Tryz.func77, Tryz.ntmps77
  rcases Nat.eq_zero_or_pos L with h0 | h0
  · subst h0
    go_wp2_with (first | (go_at_call 91; refine HA.out.mono ?_; rintro e w1 ⟨rfl, rfl⟩) | (go_at_call 109; first | (refine (HD1.out _).mono ?_; rintro e w1 ⟨rfl, rfl⟩) | (refine (HD2.out _).mono ?_; rintro e w1 ⟨rfl, rfl⟩)))
    refine bodyPost_ret (results_tmp rfl _ _ _) rfl ⟨?_, Below.refl _ _⟩
    rw [← same_str]
    simp [Array.getD]
  · have hd : ((L : Int) == 0) = false := by simp; omega
    go_wp2_with (first | (go_at_call 91; refine HA.out.mono ?_; rintro e w1 ⟨rfl, rfl⟩) | (go_at_call 109; first | (refine (HD1.out _).mono ?_; rintro e w1 ⟨rfl, rfl⟩) | (refine (HD2.out _).mono ?_; rintro e w1 ⟨rfl, rfl⟩)))
    refine bodyPost_ret (results_tmp rfl _ _ _) rfl ⟨?_, Below.refl _ _⟩
    rw [decide_eq_false (by omega)]
    rfl
end Go.Proofs.YtinfpbkbnhcifaaGreatDoor
