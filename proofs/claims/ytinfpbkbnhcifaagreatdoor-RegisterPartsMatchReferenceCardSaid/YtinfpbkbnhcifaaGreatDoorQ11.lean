/- The walk of digest.VerifyExtension's long way. The conditions: what the slice reads as, lengths, the table of constants. (Printed by wip/gen_dg18.py.) -/
import Derived.Test.YtinfpbkbnhcifaaGreatDoorQ10
namespace Go.Proofs.YtinfpbkbnhcifaaGreatDoor
open Go.RowKit Go.BigFrame Go.Shelf

attribute [local go_sem] Oper.semAt_some

theorem at_three (w : World) (o1 o2 o3 : Obj) : ((((w.alloc o1).alloc o2).alloc o3).heap[w.heap.size]? = some o1) ∧ ((((w.alloc o1).alloc o2).alloc o3).heap[w.heap.size + 1]? = some o2) ∧ ((((w.alloc o1).alloc o2).alloc o3).heap[w.heap.size + 2]? = some o3) ∧
    ((((w.alloc o1).alloc o2).alloc o3).heap.size = w.heap.size + 3) ∧ ∀ g : Nat, g < w.heap.size → (((w.alloc o1).alloc o2).alloc o3).heap[g]? = w.heap[g]? := by
  have s1 : (w.alloc o1).heap.size = w.heap.size + 1 := by simp
  have s2 : ((w.alloc o1).alloc o2).heap.size = w.heap.size + 2 := by simp
  refine ⟨?_, ?_, ?_, by simp, fun g hg => ?_⟩
  · rw [Below.heap_alloc _ _ _ (by omega)]
    exact at_past w o1 o2
  · rw [Below.heap_alloc _ _ _ (by omega)]
    exact at_second w o1 o2
  · rw [← s2]; exact heap_alloc_new _ _
  · rw [Below.heap_alloc _ _ _ (by omega), Below.heap_alloc _ _ _ (by omega), Below.heap_alloc _ _ _ (by omega)]

theorem below_drew {B : Nat} {a w : World} (h : Below B a w) : Below B a w.drew := ⟨h.os, h.tape, h.output, h.size, h.block⟩

set_option maxHeartbeats 8000000 in
set_option maxRecDepth 100000 in
theorem vex_any {w : World} {v : Value} {pr : List ByteArray} (old root : ByteArray) (m n : Nat) (hr : SS w v pr) (hl : pr.length ≤ 1000) (he : Env w) (hg : 0 < w.heap.size) (hn : n ≤ 1000000) (hm1 : 1 ≤ m) (hmn : m < n) (ha : pr.all isDig = true) (h1 : old.size = 32) (h2 : root.size = 32) :
    Calls Tryz.prog 77 #[.string old, .int .i64 m, .string root, .int .i64 n, v] w fun e w' => e = .returned (.bool (vexB old m root n pr)) ∧ Below w.heap.size w w' := by
  obtain ⟨a, cap, rfl, l1, l2, _⟩ := hr.opened
  have HA := Lib.hid (allD_any hr)
  rw [ha] at HA
  have HE := Lib.hid he
  have HG := Lib.hid hg
  have HD1 := Lib.hid (fun w => isDigest_any old w)
  have HD2 := Lib.hid (fun w => isDigest_any root w)
  have hz1 : isDig old = true := decide_eq_true h1
  have hz2 : isDig root = true := decide_eq_true h2
  rw [hz1] at HD1
  rw [hz2] at HD2
  have HW : Hid (∀ x ∈ pr, x.size = 32) := Lib.hid (fun x hx => of_decide_eq_true (List.all_eq_true.1 ha x hx))
  obtain ⟨RB, hRB⟩ : ∃ RB, RB = vexB old m root n pr := ⟨_, rfl⟩
  rw [← hRB]
  have HRB := Lib.hid hRB
  have HR := Lib.hid hr
  have H1 := Lib.hid h1
  have H2 := Lib.hid h2
  clear hRB hr ha he hg hz1 hz2 h1 h2
  unfold maxLen at l2
  obtain ⟨L, hL⟩ : ∃ L, L = pr.length := ⟨_, rfl⟩
  rw [← hL] at HR HA l1 hl ⊢
  have HL0 := Lib.hid hL
  clear hL
  have hd0 : ¬ ((m : Int) < 0) := by omega
  have hd1 : ¬ ((n : Int) < (m : Int)) := by omega
  have hd2 : ((m : Int) == 0) = false := by simp; omega
  have hd3 : ((m : Int) == (n : Int)) = false := by simp; omega
  refine calls_of_callsIn (n := 8) Wide.wide (callsIn_of_wp_marks Tryz.func77 rfl trivial ?_)
  simp only [Tryz.ntmps77, List.size_toArray, List.length_cons, List.length_nil, Nat.reduceAdd, Nat.reduceSub, Array.replicate_succ, Array.replicate_zero, List.push_toArray, List.append_toArray, List.nil_append, List.cons_append]
  refine wpIn_wide.2 ?_
  go_wp2_with (first | (go_at_call 91; refine HA.out.mono ?_; rintro e w1 ⟨rfl, rfl⟩) | (go_at_call 109; first | (refine (HD1.out _).mono ?_; rintro e w1 ⟨rfl, rfl⟩) | (refine (HD2.out _).mono ?_; rintro e w1 ⟨rfl, rfl⟩)))
  clear hd0 hd1 hd2 hd3
  go_loopw [1, 3, 4, 11, 12] (fun vm vn vp vw vh wr => ∃ (m' n' : Nat) (ps : List ByteArray) (ws : List (ByteArray × Bool)) (L : Nat) (a' : Option Addr) (cap' : Nat) (wh : Bool), vm = .int .i64 m' ∧ vn = .int .i64 n' ∧ vh = .bool wh ∧ 1 ≤ m' ∧ m' ≤ n' ∧ n' ≤ n ∧ vp = .slice a' L cap' ∧ Hid (WayE old pr m n ws ps m' n' wh ∧ ps.length = L ∧ ws.length + L ≤ 1000 ∧ (∀ x ∈ ps, x.size = 32) ∧ (∀ x ∈ ws, x.1.size = 32)) ∧ Hid (SS w (.slice a' L cap') ps) ∧ Hid (OwnX wr w.heap.size vw ws ∧ Below w.heap.size w wr)) (fun _ vn _ _ _ wr => (intOf vn).toNat)
  case atStart => exact ⟨m, n, pr, [], L, a, cap, true, rfl, rfl, rfl, hm1, Nat.le_of_lt hmn, Nat.le_refl _, rfl, Lib.hid ⟨WayE.start old pr m n, HL0.out.symm, by simpa using hl, HW.out, fun x hx => absurd hx List.not_mem_nil⟩, HR, Lib.hid ⟨OwnE.nil _ _ _ _, Below.refl _ _⟩⟩
  case round =>
    obtain ⟨m', n', ps, ws, L', a', cap', wh, rfl, rfl, rfl, hj1, hj, hn', rfl, HI, HS, HO⟩ := hrel
    obtain ⟨a3, cap3, hv3⟩ := HO.out.1.form
    subst hv3
    by_cases h1 : m' < n'
    · have hlt : (m' : Int) < (n' : Int) := by omega
      rcases List.eq_nil_or_concat ps with rfl | ⟨ps', x, rfl⟩
      · have hF : Hid (RB = false) := Lib.hid (by rw [HRB.out]; exact HI.out.1.short h1 hm1 root)
        have hm0 : L' = 0 := HI.out.2.1.symm
        subst hm0
        go_wp2_with (go_at_call 92; refine (take_none _ _ _).mono ?_; rintro e w1 ⟨rfl, rfl⟩)
        refine leaves_marks (B := w.heap.size) [] _ ⟨List.nodup_nil, fun D h => absurd h List.not_mem_nil⟩ (fun W'' hT => ⟨_, results_tmp rfl _ _ _, ?_, HO.out.2.trans hT.below⟩)
        rw [hF.out]
        rfl
      · rw [List.concat_eq_append] at *
        have HT := Lib.hid (take_cut x (HS.out.below HO.out.2))
        have HL := Lib.hid (fun q => left_any n' (wr.drewN q) (by omega) (by omega))
        have hk1 := leftN_pos n'
        have hk2 := leftN_lt (n := n') (by omega)
        have HST := Lib.hid (HI.out.1.step h1)
        obtain ⟨k, hk⟩ : ∃ k, k = leftN n' := ⟨_, rfl⟩
        rw [← hk] at HL hk1 hk2 HST
        clear hk
        obtain ⟨p, hp⟩ : ∃ p, p = ps'.length := ⟨_, rfl⟩
        have hm1' : L' = p + 1 := by rw [← HI.out.2.1, hp]; simp
        subst hm1'
        have HSC : Hid (SS w (.slice a' p cap') ps') := Lib.hid (by
          have := HS.out.cut p (by omega)
          rw [hp, List.take_left] at this
          rw [hp]
          exact this)
        rw [← hp] at HT
        have HP := Lib.hid hp
        clear hp
        have HJ : Hid ((ws.length + (p + 1) ≤ 1000) ∧ (∀ x ∈ ps', x.size = 32) ∧ x.size = 32 ∧ ∀ x ∈ ws, x.1.size = 32) := Lib.hid ⟨HI.out.2.2.1, fun y hy => HI.out.2.2.2.1 y (by simp [hy]), HI.out.2.2.2.1 x (by simp), HI.out.2.2.2.2⟩
        have HJ2 : ∀ (b : Bool), (ws ++ [(x, b)]).length + p ≤ 1000 ∧ (∀ y ∈ ws ++ [(x, b)], y.1.size = 32) := fun b => ⟨by have := HJ.out.1; rw [List.length_append]; simp; omega, fun y hy => by
          rcases List.mem_append.1 hy with h | h
          · exact HJ.out.2.2.2 y h
          · rw [List.mem_singleton] at h; subst h; exact HJ.out.2.2.1⟩
        have HJ2 := Lib.hid HJ2
        by_cases hik : k < m'
        · have hd : (k : Int) < (m' : Int) := by omega
          have f1 : IntKind.i64.wrap ((n' : Int) - (k : Int)) = ((n' - k : Nat) : Int) := by rw [IntWalk.i64_in _ (by omega)]; omega
          have f2 : IntKind.i64.wrap ((m' : Int) - (k : Int)) = ((m' - k : Nat) : Int) := by rw [IntWalk.i64_in _ (by omega)]; omega
          go_wp2_with (first | (go_at_call 92; refine HT.out.mono ?_; rintro e w1 ⟨q, rfl, rfl⟩) | (go_at_call 85; refine (HL.out _).mono ?_; rintro e w2 ⟨rfl, rfl⟩) | (go_quiet (fail)) | (at_builtin; refine wpList_append_side (.tmp 81) (.tmp 87) w.heap.size _ ws wr.heap.size (x, true) (0, 0) (OwnE.alloc (OwnE.drewN HO.out.1 _) _) (by have := HI.out.2.2.1; omega) (Nat.le_trans HO.out.2.size (by simp [World.drewN])) (heap_alloc_new _ _) rfl rfl rfl rfl ?_; intro v3 w3 ho3 hg3; have HO3 : Hid (OwnX w3 w.heap.size v3 (ws ++ [(x, true)]) ∧ Below w.heap.size w w3) := Lib.hid ⟨ho3, below_own ((below_drewN HO.out.2 _).alloc HO.out.2.size _) (OwnE.alloc (OwnE.drewN HO.out.1 _) _) hg3 (Nat.le_refl _)⟩; clear ho3 hg3))
          go_roundw
          case rel => exact ⟨m' - k, n' - k, ps', ws ++ [(x, true)], p, a', cap', false, rfl, rfl, rfl, by omega, by omega, by omega, rfl, Lib.hid ⟨HST.out.1 hik, HP.out.symm, (HJ2.out true).1, HJ.out.2.1, (HJ2.out true).2⟩, HSC, HO3⟩
          case measure => simp [intOf]; omega
        · have hd : ¬ (k : Int) < (m' : Int) := by omega
          go_wp2_with (first | (go_at_call 92; refine HT.out.mono ?_; rintro e w1 ⟨q, rfl, rfl⟩) | (go_at_call 85; refine (HL.out _).mono ?_; rintro e w2 ⟨rfl, rfl⟩) | (go_quiet (fail)) | (at_builtin; refine wpList_append_side (.tmp 81) (.tmp 87) w.heap.size _ ws wr.heap.size (x, false) (0, 0) (OwnE.alloc (OwnE.drewN HO.out.1 _) _) (by have := HI.out.2.2.1; omega) (Nat.le_trans HO.out.2.size (by simp [World.drewN])) (heap_alloc_new _ _) rfl rfl rfl rfl ?_; intro v3 w3 ho3 hg3; have HO3 : Hid (OwnX w3 w.heap.size v3 (ws ++ [(x, false)]) ∧ Below w.heap.size w w3) := Lib.hid ⟨ho3, below_own ((below_drewN HO.out.2 _).alloc HO.out.2.size _) (OwnE.alloc (OwnE.drewN HO.out.1 _) _) hg3 (Nat.le_refl _)⟩; clear ho3 hg3))
          go_roundw
          case rel => exact ⟨m', k, ps', ws ++ [(x, false)], p, a', cap', wh, rfl, rfl, rfl, hj1, by omega, by omega, rfl, Lib.hid ⟨HST.out.2 (by omega), HP.out.symm, (HJ2.out false).1, HJ.out.2.1, (HJ2.out false).2⟩, HSC, HO3⟩
          case measure => simp [intOf]; omega
    · have hn1 : n' ≤ m' := by omega
      have hnl : ¬ (m' : Int) < (n' : Int) := by omega
      have h0s : 0 < wr.heap.size := Nat.lt_of_lt_of_le (Nat.lt_of_le_of_lt (Nat.zero_le _) HG.out) HO.out.2.size
      cases wh
      · by_cases hL1 : L' = 1
        · subst hL1
          obtain ⟨x, hpx⟩ : ∃ x, ps = [x] := List.length_eq_one_iff.1 HI.out.2.1
          obtain ⟨a'', cap'', hv', hc1, hc2, hc3⟩ := HS.out.opened
          rw [hpx] at hv' hc3
          cases hv'
          obtain ⟨bp, offp, rfl, hbp, cp⟩ := hc3 0 x rfl
          rw [Nat.add_zero] at cp
          have hsw := HO.out.2.size
          have hA := at_three wr (.cells #[.string old] 9 (0, 0)) (.cells #[.string old] 9 (0, 0)) (.cells #[.string old] 9 (0, 0))
          have cp1 : ((wr.alloc (.cells #[.string old] 9)).alloc (.cells #[.string old] 9)).cell? ⟨bp, offp, none⟩ = some (.string x) :=
            (cell_keepB ((HO.out.2.alloc (by omega) (.cells #[.string old] 9)).alloc (by simp; omega) (.cells #[.string old] 9)) hbp cp)
          have hcell := cp
          clear hc3 cp
          go_wp2
          have d1 : ((wr.alloc (.cells #[.string old] 9)).alloc (.cells #[.string old] 9)).cell? ⟨wr.heap.size, 0, none⟩ = some (.string old) := cell_of_row _ _ 0 _ _ _ (at_past wr _ _)
          have d2 : ((wr.alloc (.cells #[.string old] 9)).alloc (.cells #[.string old] 9)).cell? ⟨wr.heap.size + 1, 0, none⟩ = some (.string old) := cell_of_row _ _ 0 _ _ _ (at_second wr _ _)
          have cp2 : ((wr.alloc (.cells #[.string x] 9)).alloc (.cells #[.string old] 9)).cell? ⟨bp, offp, none⟩ = some (.string x) :=
            (cell_keepB ((HO.out.2.alloc (by omega) (.cells #[.string x] 9)).alloc (by simp; omega) (.cells #[.string old] 9)) hbp hcell)
          have cp3 : ((wr.alloc (.cells #[.string old] 9)).alloc (.cells #[.string x] 9)).cell? ⟨bp, offp, none⟩ = some (.string x) :=
            (cell_keepB ((HO.out.2.alloc (by omega) (.cells #[.string old] 9)).alloc (by simp; omega) (.cells #[.string x] 9)) hbp hcell)
          clear hcell
          go_region
          clear cp1 cp2 cp3 d1 d2 hA
          have h32f : x.size = 32 := HI.out.2.2.2.1 x (by rw [hpx]; simp)
          have hRBf : RB = (decide (firstsF ws x = old) && decide (ws.foldr sideS x = root)) := by
            rw [HRB.out, (HI.out.1.part hn1 hm1 root).2 x hpx]
          clear hsw
          obtain ⟨hwn, hnc, hcm, g, o, hgo, hcl⟩ := HO.out.1.block h0s
          have hgl : g < wr.heap.size := (Array.getElem?_eq_some_iff.1 hgo).1
          have hsw := HO.out.2.size
          have hA := at_three wr (.cells #[.string x] 9 (0, 0)) (.cells #[.string x] 9 (0, 0)) (.cells #[.slice a3 ws.length cap3] 123 (0, 0))
          obtain ⟨W5, hW5⟩ : ∃ W5, W5 = (((wr.alloc (.cells #[.string x] 9)).alloc (.cells #[.string x] 9)).alloc (.cells #[.slice a3 ws.length cap3] 123)).drew := ⟨_, rfl⟩
          have HBw : Hid (Below w.heap.size w W5) := Lib.hid (by rw [hW5]; exact below_drew (((HO.out.2.alloc (by omega) _).alloc (by simp; omega) _).alloc (by simp; omega) _))
          obtain ⟨FA, hFA⟩ : ∃ FA : List DgX → ByteArray, FA = upG x := ⟨_, rfl⟩
          obtain ⟨FB, hFB⟩ : ∃ FB : List DgX → ByteArray, FB = upF x := ⟨_, rfl⟩
          have HFB : Hid (FA [] = x ∧ FB [] = x ∧ (∀ pre x, FB (pre ++ [x]) = sideS x.1.2 (FB pre)) ∧ (∀ pre, (FB pre).size = 32) ∧ (∀ pre x, FA (pre ++ [x]) = if x.1.2.2 then sideS x.1.2 (FA pre) else FA pre) ∧ (∀ pre, (FA pre).size = 32) ∧ ∀ xs, xs.map (fun x => x.1.2) = ws.reverse → RB = (decide (FA xs = old) && decide (FB xs = root))) := Lib.hid (by
            rw [hFA, hFB]
            refine ⟨rfl, rfl, fun pre x => upF_snoc _ pre x, fun pre => upF_size _ h32f pre, fun pre x => upG_snoc _ pre x, fun pre => upG_size _ h32f pre, fun xs h => ?_⟩
            rw [upF_all _ xs ws h, upG_all _ xs ws h]
            exact hRBf)
          have HBO : Hid (W5.heap[wr.heap.size]? = some (.cells #[.string (FA [])] 9 (0, 0))) := Lib.hid (by rw [HFB.out.1, hW5]; exact hA.1)
          have HBP : Hid (W5.heap[wr.heap.size + 1]? = some (.cells #[.string (FB [])] 9 (0, 0))) := Lib.hid (by rw [HFB.out.2.1, hW5]; exact hA.2.1)
          have HB1 : Hid (W5.heap[wr.heap.size + 2]? = some (.cells #[.slice a3 ws.length cap3] 123 (0, 0))) := Lib.hid (by rw [hW5]; exact hA.2.2.1)
          have HBG : Hid (W5.heap[g]? = some o) := Lib.hid (by rw [hW5]; exact (hA.2.2.2.2 g hgl).trans hgo)
          have hs5 : W5.heap.size = wr.heap.size + 3 := by rw [hW5]; exact hA.2.2.2.1
          have HCL := Lib.hid hcl
          have H32 : Hid (∀ x ∈ ws, x.1.size = 32) := Lib.hid HI.out.2.2.2.2
          clear hRBf hcl hFA hFB hA
          go_wp2_with (go_at_call 94; refine (backSide_any _ _ _ _).mono ?_; rintro e w' ⟨rfl, rfl⟩)
          rw [← hW5]
          obtain ⟨b1, hb1⟩ : ∃ b1, b1 = wr.heap.size := ⟨_, rfl⟩
          rw [← hb1] at HBO HBP HB1 hs5 hgl hsw ⊢
          clear hb1 hW5 hgo HO
          refine (wpIn_wide (n := 8)).1 ?_
          refine wpIn_rangeA (n := 8) Wide.wide rfl (gf := 120) (lb := #[.pointer (some ⟨b1 + 2, 0, none⟩)]) ?ev (fun args w => ?enter) (backSide1_iter (b1 + 2) g ws.length cap3 a3 o ws W5 rfl hcm hnc H32.out HB1.out HBG.out HCL.out) (Below.refl _ _) (fun x => rfl) (fun q e => by cases e) (fun h h' => ⟨h'.1.trans h.1, h'.2.trans h.2⟩) (fun W l o o' h1 h2 h3 h4 => ?kb)
            (fun pre W => W.heap[b1]? = some (.cells #[.string (FA pre)] 9 (0, 0)) ∧ (W.heap[b1 + 1]? = some (.cells #[.string (FB pre)] 9 (0, 0)) ∧ (W.heap[b1 + 2]? = some (.cells #[.slice a3 ws.length cap3] 123 (0, 0)) ∧ (W.heap[g]? = some o ∧ Below w.heap.size w W))))
            (fun _ _ _ => False) ?abide (fun _ => abide_false _ _) ⟨HBO.out, HBP.out, HB1.out, HBG.out, HBw.out⟩
            (fun a x a' W => ∃ q, W.heap[q]? = some (.cells #[.string x.1.2.1, .bool x.1.2.2] 127 (0, 0)) ∧ b1 + 2 < q ∧ a' = ⟨((a.tmps.setIfInBounds 114 (.int .i64 (x.1.1 : Nat))).setIfInBounds 115 (.agg #[.string x.1.2.1, .bool x.1.2.2])).setIfInBounds 20 (.pointer (some ⟨q, 0, none⟩)), []⟩)
            (fun x a' W l o o' h1 h2 h3 h4 => ?a1) (fun A C h1 h2 => ?kg) (fun l pre x W K hI hK => ?assign) (fun l pre x a' W hI hlen hA => ?body) (fun Dm xs W hDm hS hI hDd => ?done) (fun Dm c pre W hD hS hI => hI.elim)
          case a1 =>
            obtain ⟨q, hq, hq2, ha⟩ := h1
            exact ⟨q, (World.putObj_heap_other (fun e => by subst e; rw [h3] at hq; cases hq; cases h4)).trans hq, hq2, ha⟩
          case kg => exact ⟨h2.block _ (by omega) (by simp), h2.block _ (by omega) (by simp)⟩
          case assign =>
            simp only [List.zip_toArray, List.zip_cons_cons, List.zip_nil_right, List.foldl_toArray', List.foldl_cons, List.foldl_nil, List.setIfInBounds_toArray, List.set_cons_succ, List.set_cons_zero]
            have hlt := (Array.getElem?_eq_some_iff.1 hI.2.2.1).1
            gi_wp2
            exact hK _ _ ⟨W.heap.size, heap_alloc_new _ _, hlt, rfl⟩ (World.grownBy_alloc _ _ _)
          case ev => rfl
          case enter => kernel_rfl
          case kb => exact ⟨World.putObj_heap_other (fun e => by omega), World.putObj_heap_other (fun e => by omega)⟩
          case abide => exact abide_and (abide_cells (fun pre => .cells #[.string (FA pre)] 9) (fun _ => rfl) (by simp)) (abide_and (abide_cells (fun pre => .cells #[.string (FB pre)] 9) (fun _ => rfl) (by simp)) (abide_and (abide_old _ (by omega) (by simp)) (abide_and (abide_old _ (by omega) (by simp)) (abide_below (by omega) (Nat.le_refl _) (fun q e => by cases e)))))
          case body =>
            obtain ⟨q, hq, hq2, rfl⟩ := hA
            obtain ⟨g1, g1', g2, g3, g4⟩ := hI
            have hs7 := g4.size
            obtain ⟨⟨xi, xr, xf⟩, hx⟩ := x
            have hx32 : xr.size = 32 := hx
            have hqW : q < W.heap.size := (Array.getElem?_eq_some_iff.1 hq).1
            have c1 : W.cell? ⟨b1, 0, none⟩ = some (.string (FA pre)) := cell_of_row W _ 0 _ _ _ g1
            have c2 : W.cell? ⟨b1 + 1, 0, none⟩ = some (.string (FB pre)) := cell_of_row W _ 0 _ _ _ g1'
            have c3 : W.cell? ⟨q, 0, none⟩ = some (.string xr) := cell_of_row W _ 0 _ _ _ hq
            have c4 : W.cell? ⟨q, 1, none⟩ = some (.bool xf) := cell_of_row W _ 1 _ _ _ hq
            have G1 := Lib.hid g1
            have G1' := Lib.hid g1'
            have G2 := Lib.hid g2
            have G3 := Lib.hid g3
            have G4 := Lib.hid g4
            have GQ := Lib.hid hq
            clear g1 g1' g2 g3 g4 hq
            have HFN := Lib.hid (HFB.out.2.2.1 pre ⟨(xi, xr, xf), hx⟩)
            have HGN := Lib.hid (HFB.out.2.2.2.2.1 pre ⟨(xi, xr, xf), hx⟩)
            have HA32 := HFB.out.2.2.2.2.2.1 pre
            have HB32 := HFB.out.2.2.2.1 pre
            simp only [List.setIfInBounds_toArray, List.set_cons_succ, List.set_cons_zero]
            cases xf
            · have HN1 := Lib.hid (sideJoin_any xr false (FB pre) W (by omega) (by omega) (HE.out.below G4.out HG.out) (Nat.lt_of_lt_of_le HG.out hs7))
              gi_wp2_with (refine ⟨trivial, ?_⟩; gi_at_call 95; refine (callsIn_of_calls (Wide.inRound Wide.wide _) HN1.out).mono ?_; rintro e W' ⟨rfl, hb⟩; rw [show sideS (xr, false) (FB pre) = FB (pre ++ [⟨(xi, xr, false), hx⟩]) from HFN.out.symm]; have HG1' : Hid (W'.heap[b1 + 1]? = some (.cells #[.string (FB pre)] 9 (0, 0))) := Lib.hid ((hb.block _ (by omega)).trans G1'.out); have d2 : W'.cell? ⟨b1 + 1, 0, none⟩ = some (.string (FB pre)) := cell_of_row W' _ 0 _ _ _ HG1'.out; have cf2 : W'.frozen? ⟨b1 + 1, 0, none⟩ = false := (by simp [World.frozen?, HG1'.out]); have HB' := Lib.hid hb; clear hb)
              have hset : W'.grownBy (W'.setCell ⟨b1 + 1, 0, none⟩ (.string (FB (pre ++ [⟨(xi, xr, false), hx⟩])))) (some (b1 + 1)) := grown_setCell (grown_refl _ _) _ (.inl rfl) _
              have keep : ∀ (q : Nat) (o : Obj), W.heap[q]? = some o → q ≠ b1 + 1 → (W'.setCell ⟨b1 + 1, 0, none⟩ (.string (FB (pre ++ [⟨(xi, xr, false), hx⟩])))).heap[q]? = some o := fun q o hq hne => by
                have hq1 := (HB'.out.block q (Array.getElem?_eq_some_iff.1 hq).1).trans hq
                exact (hset.block q (Array.getElem?_eq_some_iff.1 hq1).1 (fun e => hne (Option.some.inj e))).trans hq1
              have HGe : FA (pre ++ [⟨(xi, xr, false), hx⟩]) = FA pre := HGN.out
              refine ⟨⟨Nat.le_trans HB'.out.size hset.size, fun q o hB hq hnc => keep q o hq (by omega)⟩, ⟨(keep _ _ G2.out (by omega)).trans G2.out.symm, (keep _ _ G3.out (by omega)).trans G3.out.symm⟩, ?_, ?_, keep _ _ G2.out (by omega), keep _ _ G3.out (by omega), ?_⟩
              · rw [HGe]; exact keep _ _ G1.out (by omega)
              · show (World.setCell _ _ _).heap[b1 + 1]? = _
                rw [heap_setCell_same _ HG1'.out]
                rfl
              · exact ((G4.out.trans (HB'.out.mono hs7)).grown hset (Nat.le_trans hs7 HB'.out.size) (fun j e => by cases e; omega))
            · have HN1 := Lib.hid (sideJoin_any xr true (FA pre) W (by omega) (by omega) (HE.out.below G4.out HG.out) (Nat.lt_of_lt_of_le HG.out hs7))
              have HGe : sideS (xr, true) (FA pre) = FA (pre ++ [⟨(xi, xr, true), hx⟩]) := HGN.out.symm
              have HGE := Lib.hid HGe
              clear HGe
              gi_wp2
              refine ⟨trivial, (callsIn_of_calls (Wide.inRound Wide.wide _) HN1.out).mono ?_⟩
              rintro e W1 ⟨rfl, hb⟩
              rw [HGE.out]
              clear HN1
              obtain ⟨VA, hVA⟩ : ∃ VA, VA = FA (pre ++ [⟨(xi, xr, true), hx⟩]) := ⟨_, rfl⟩
              rw [← hVA]
              have HVA := Lib.hid hVA
              clear hVA
              have HG1 : Hid (W1.heap[b1]? = some (.cells #[.string (FA pre)] 9 (0, 0))) := Lib.hid ((hb.block _ (by omega)).trans G1.out)
              have d1 : W1.cell? ⟨b1, 0, none⟩ = some (.string (FA pre)) := cell_of_row W1 _ 0 _ _ _ HG1.out
              have cf1 : W1.frozen? ⟨b1, 0, none⟩ = false := by simp [World.frozen?, HG1.out]
              have HB1' := Lib.hid hb
              clear hb
              obtain ⟨W2, hW2⟩ : ∃ W2, W2 = W1.setCell ⟨b1, 0, none⟩ (.string VA) := ⟨_, rfl⟩
              have hset1 : W1.grownBy W2 (some b1) := by rw [hW2]; exact grown_setCell (grown_refl _ _) _ (.inl rfl) _
              have keep1 : ∀ (q : Nat) (o : Obj), W.heap[q]? = some o → q ≠ b1 → W2.heap[q]? = some o := fun q o hq hne => by
                have hq1 := (HB1'.out.block q (Array.getElem?_eq_some_iff.1 hq).1).trans hq
                exact (hset1.block q (Array.getElem?_eq_some_iff.1 hq1).1 (fun e => hne (Option.some.inj e))).trans hq1
              have e1 : W2.heap[b1]? = some (.cells #[.string VA] 9 (0, 0)) := by
                rw [hW2, heap_setCell_same _ HG1.out]
                rfl
              have hB1 : Below w.heap.size w W2 := (G4.out.trans (HB1'.out.mono hs7)).grown hset1 (Nat.le_trans hs7 HB1'.out.size) (fun j e => by cases e; omega)
              have hsz1 : W.heap.size ≤ W2.heap.size := Nat.le_trans HB1'.out.size hset1.size
              have KEEP1 := Lib.hid keep1
              have E1 := Lib.hid e1
              have HBB1 := Lib.hid hB1
              have f2 : W2.cell? ⟨b1 + 1, 0, none⟩ = some (.string (FB pre)) := cell_of_row _ _ 0 _ _ _ (keep1 _ _ G1'.out (by omega))
              have f3 : W2.cell? ⟨q, 0, none⟩ = some (.string xr) := cell_of_row _ _ 0 _ _ _ (keep1 _ _ GQ.out (by omega))
              have f4 : W2.cell? ⟨q, 1, none⟩ = some (.bool true) := cell_of_row _ _ 1 _ _ _ (keep1 _ _ GQ.out (by omega))
              have HN2 := Lib.hid (sideJoin_any xr true (FB pre) W2 (by omega) (by omega) (HE.out.below hB1 HG.out) (Nat.lt_of_lt_of_le HG.out hB1.size))
              have HF : Hid (sideS (xr, true) (FB pre) = FB (pre ++ [⟨(xi, xr, true), hx⟩])) := Lib.hid HFN.out.symm
              clear keep1 e1 hB1 hset1
              subst hW2
              clear c1 c2 c3 c4
              gi_wp2
              refine ⟨trivial, (callsIn_of_calls (Wide.inRound Wide.wide _) HN2.out).mono ?_⟩
              rintro e W' ⟨rfl, hb⟩
              rw [HF.out]
              have HG1' : Hid (W'.heap[b1 + 1]? = some (.cells #[.string (FB pre)] 9 (0, 0))) := Lib.hid ((hb.block _ (by omega)).trans (KEEP1.out _ _ G1'.out (by omega)))
              have d2 : W'.cell? ⟨b1 + 1, 0, none⟩ = some (.string (FB pre)) := cell_of_row W' _ 0 _ _ _ HG1'.out
              have cf2 : W'.frozen? ⟨b1 + 1, 0, none⟩ = false := by simp [World.frozen?, HG1'.out]
              have HB' := Lib.hid hb
              clear hb f2 f3 f4
              gi_wp2
              have hset : W'.grownBy (W'.setCell ⟨b1 + 1, 0, none⟩ (.string (FB (pre ++ [⟨(xi, xr, true), hx⟩])))) (some (b1 + 1)) := grown_setCell (grown_refl _ _) _ (.inl rfl) _
              have keep2 : ∀ (q : Nat) (o : Obj), (W1.setCell ⟨b1, 0, none⟩ (.string VA)).heap[q]? = some o → q ≠ b1 + 1 → (W'.setCell ⟨b1 + 1, 0, none⟩ (.string (FB (pre ++ [⟨(xi, xr, true), hx⟩])))).heap[q]? = some o := fun q o hq hne => by
                have hq1 := (HB'.out.block q (Array.getElem?_eq_some_iff.1 hq).1).trans hq
                exact (hset.block q (Array.getElem?_eq_some_iff.1 hq1).1 (fun e => hne (Option.some.inj e))).trans hq1
              have keep : ∀ (q : Nat) (o : Obj), W.heap[q]? = some o → q ≠ b1 → q ≠ b1 + 1 → (W'.setCell ⟨b1 + 1, 0, none⟩ (.string (FB (pre ++ [⟨(xi, xr, true), hx⟩])))).heap[q]? = some o := fun q o hq h1 h2 => keep2 q o (KEEP1.out q o hq h1) h2
              refine ⟨⟨Nat.le_trans hsz1 (Nat.le_trans HB'.out.size hset.size), fun q o hB hq hnc => keep q o hq (by omega) (by omega)⟩, ⟨(keep _ _ G2.out (by omega) (by omega)).trans G2.out.symm, (keep _ _ G3.out (by omega) (by omega)).trans G3.out.symm⟩, ?_, ?_, keep _ _ G2.out (by omega) (by omega), keep _ _ G3.out (by omega) (by omega), ?_⟩
              · rw [← HVA.out]; exact keep2 _ _ E1.out (by omega)
              · show (World.setCell _ _ _).heap[b1 + 1]? = _
                rw [heap_setCell_same _ HG1'.out]
                rfl
              · exact ((HBB1.out.trans (HB'.out.mono (Nat.le_trans hs7 hsz1))).grown hset (Nat.le_trans (Nat.le_trans hs7 hsz1) HB'.out.size) (fun j e => by cases e; omega))
          case done =>
            obtain ⟨g1, g1', _, _, g4⟩ := hI
            have c1 : W.cell? ⟨b1, 0, none⟩ = some (.string (FA xs)) := cell_of_row W _ 0 _ _ _ g1
            have c2 : W.cell? ⟨b1 + 1, 0, none⟩ = some (.string (FB xs)) := cell_of_row W _ 0 _ _ _ g1'
            have HRF := Lib.hid (HFB.out.2.2.2.2.2.2 xs hS)
            have G4 := Lib.hid g4
            have HDd := Lib.hid hDd
            have hsW := g4.size
            clear hS g1 g1' g4 hDd
            show Exit.inBlock _ _ _ (Act.mk _ [{ target := .collected Dm, args := #[] }]) W
            have hM : Marks w.heap.size [Dm] W := ⟨by simp, fun D hD => by
              rw [List.mem_singleton] at hD
              subst hD
              exact ⟨by omega, HDd.out⟩⟩
            generalize FA xs = fa at *
            generalize FB xs = fb at *
            cases hq : (fa.toList == old.toList)
            · go_wp2
              refine leaves_marks (B := w.heap.size) [Dm] W hM (fun W'' hT => ⟨_, results_tmp rfl _ _ _, ?_, G4.out.trans hT.below⟩)
              rw [HRF.out, ← same_str fa old, hq, Bool.false_and]
              rfl
            · go_wp2
              refine leaves_marks (B := w.heap.size) [Dm] W hM (fun W'' hT => ⟨_, results_tmp rfl _ _ _, ?_, G4.out.trans hT.below⟩)
              rw [HRF.out, ← same_str fa old, ← same_str fb root, hq, Bool.true_and]
              rfl
        · have hF : Hid (RB = false) := Lib.hid (by rw [HRB.out]; exact (HI.out.1.part hn1 hm1 root).1 (by rw [HI.out.2.1]; exact hL1))
          have hd : ((L' : Int) == 1) = false := by simp; omega
          go_wp2
          refine leaves_marks (B := w.heap.size) [] _ ⟨List.nodup_nil, fun D h => absurd h List.not_mem_nil⟩ (fun W'' hT => ⟨_, results_tmp rfl _ _ _, ?_, ((HO.out.2.alloc HO.out.2.size (.cells #[.string old] 9)).alloc (Nat.le_trans HO.out.2.size (by simp)) (.cells #[.string old] 9)).trans hT.below⟩)
          rw [hF.out]
          rfl
      · have h32f := H1.out
        have hRBf : RB = (decide (L' = 0) && (decide (firstsF ws old = old) && decide (ws.foldr sideS old = root))) := by
          rw [HRB.out, HI.out.1.whole hn1 hm1 root, HI.out.2.1]
        obtain ⟨hwn, hnc, hcm, g, o, hgo, hcl⟩ := HO.out.1.block h0s
        have hgl : g < wr.heap.size := (Array.getElem?_eq_some_iff.1 hgo).1
        have hsw := HO.out.2.size
        have hA := at_three wr (.cells #[.string old] 9 (0, 0)) (.cells #[.string old] 9 (0, 0)) (.cells #[.slice a3 ws.length cap3] 123 (0, 0))
        obtain ⟨W5, hW5⟩ : ∃ W5, W5 = (((wr.alloc (.cells #[.string old] 9)).alloc (.cells #[.string old] 9)).alloc (.cells #[.slice a3 ws.length cap3] 123)) := ⟨_, rfl⟩
        have HBw : Hid (Below w.heap.size w W5) := Lib.hid (by rw [hW5]; exact (((HO.out.2.alloc (by omega) _).alloc (by simp; omega) _).alloc (by simp; omega) _))
        obtain ⟨FA, hFA⟩ : ∃ FA : List DgX → ByteArray, FA = upG old := ⟨_, rfl⟩
        obtain ⟨FB, hFB⟩ : ∃ FB : List DgX → ByteArray, FB = upF old := ⟨_, rfl⟩
        have HFB : Hid (FA [] = old ∧ FB [] = old ∧ (∀ pre x, FB (pre ++ [x]) = sideS x.1.2 (FB pre)) ∧ (∀ pre, (FB pre).size = 32) ∧ (∀ pre x, FA (pre ++ [x]) = if x.1.2.2 then sideS x.1.2 (FA pre) else FA pre) ∧ (∀ pre, (FA pre).size = 32) ∧ ∀ xs, xs.map (fun x => x.1.2) = ws.reverse → RB = (decide (L' = 0) && (decide (FA xs = old) && decide (FB xs = root)))) := Lib.hid (by
          rw [hFA, hFB]
          refine ⟨rfl, rfl, fun pre x => upF_snoc _ pre x, fun pre => upF_size _ h32f pre, fun pre x => upG_snoc _ pre x, fun pre => upG_size _ h32f pre, fun xs h => ?_⟩
          rw [upF_all _ xs ws h, upG_all _ xs ws h]
          exact hRBf)
        have HBO : Hid (W5.heap[wr.heap.size]? = some (.cells #[.string (FA [])] 9 (0, 0))) := Lib.hid (by rw [HFB.out.1, hW5]; exact hA.1)
        have HBP : Hid (W5.heap[wr.heap.size + 1]? = some (.cells #[.string (FB [])] 9 (0, 0))) := Lib.hid (by rw [HFB.out.2.1, hW5]; exact hA.2.1)
        have HB1 : Hid (W5.heap[wr.heap.size + 2]? = some (.cells #[.slice a3 ws.length cap3] 123 (0, 0))) := Lib.hid (by rw [hW5]; exact hA.2.2.1)
        have HBG : Hid (W5.heap[g]? = some o) := Lib.hid (by rw [hW5]; exact (hA.2.2.2.2 g hgl).trans hgo)
        have hs5 : W5.heap.size = wr.heap.size + 3 := by rw [hW5]; exact hA.2.2.2.1
        have HCL := Lib.hid hcl
        have H32 : Hid (∀ x ∈ ws, x.1.size = 32) := Lib.hid HI.out.2.2.2.2
        clear hRBf hcl hFA hFB hA
        go_wp2_with (go_at_call 94; refine (backSide_any _ _ _ _).mono ?_; rintro e w' ⟨rfl, rfl⟩)
        rw [← hW5]
        obtain ⟨b1, hb1⟩ : ∃ b1, b1 = wr.heap.size := ⟨_, rfl⟩
        rw [← hb1] at HBO HBP HB1 hs5 hgl hsw ⊢
        clear hb1 hW5 hgo HO
        refine (wpIn_wide (n := 8)).1 ?_
        refine wpIn_rangeA (n := 8) Wide.wide rfl (gf := 120) (lb := #[.pointer (some ⟨b1 + 2, 0, none⟩)]) ?ev (fun args w => ?enter) (backSide1_iter (b1 + 2) g ws.length cap3 a3 o ws W5 rfl hcm hnc H32.out HB1.out HBG.out HCL.out) (Below.refl _ _) (fun x => rfl) (fun q e => by cases e) (fun h h' => ⟨h'.1.trans h.1, h'.2.trans h.2⟩) (fun W l o o' h1 h2 h3 h4 => ?kb)
          (fun pre W => W.heap[b1]? = some (.cells #[.string (FA pre)] 9 (0, 0)) ∧ (W.heap[b1 + 1]? = some (.cells #[.string (FB pre)] 9 (0, 0)) ∧ (W.heap[b1 + 2]? = some (.cells #[.slice a3 ws.length cap3] 123 (0, 0)) ∧ (W.heap[g]? = some o ∧ Below w.heap.size w W))))
          (fun _ _ _ => False) ?abide (fun _ => abide_false _ _) ⟨HBO.out, HBP.out, HB1.out, HBG.out, HBw.out⟩
          (fun a x a' W => ∃ q, W.heap[q]? = some (.cells #[.string x.1.2.1, .bool x.1.2.2] 127 (0, 0)) ∧ b1 + 2 < q ∧ a' = ⟨((a.tmps.setIfInBounds 114 (.int .i64 (x.1.1 : Nat))).setIfInBounds 115 (.agg #[.string x.1.2.1, .bool x.1.2.2])).setIfInBounds 20 (.pointer (some ⟨q, 0, none⟩)), []⟩)
          (fun x a' W l o o' h1 h2 h3 h4 => ?a1) (fun A C h1 h2 => ?kg) (fun l pre x W K hI hK => ?assign) (fun l pre x a' W hI hlen hA => ?body) (fun Dm xs W hDm hS hI hDd => ?done) (fun Dm c pre W hD hS hI => hI.elim)
        case a1 =>
          obtain ⟨q, hq, hq2, ha⟩ := h1
          exact ⟨q, (World.putObj_heap_other (fun e => by subst e; rw [h3] at hq; cases hq; cases h4)).trans hq, hq2, ha⟩
        case kg => exact ⟨h2.block _ (by omega) (by simp), h2.block _ (by omega) (by simp)⟩
        case assign =>
          simp only [List.zip_toArray, List.zip_cons_cons, List.zip_nil_right, List.foldl_toArray', List.foldl_cons, List.foldl_nil, List.setIfInBounds_toArray, List.set_cons_succ, List.set_cons_zero]
          have hlt := (Array.getElem?_eq_some_iff.1 hI.2.2.1).1
          gi_wp2
          exact hK _ _ ⟨W.heap.size, heap_alloc_new _ _, hlt, rfl⟩ (World.grownBy_alloc _ _ _)
        case ev => rfl
        case enter => kernel_rfl
        case kb => exact ⟨World.putObj_heap_other (fun e => by omega), World.putObj_heap_other (fun e => by omega)⟩
        case abide => exact abide_and (abide_cells (fun pre => .cells #[.string (FA pre)] 9) (fun _ => rfl) (by simp)) (abide_and (abide_cells (fun pre => .cells #[.string (FB pre)] 9) (fun _ => rfl) (by simp)) (abide_and (abide_old _ (by omega) (by simp)) (abide_and (abide_old _ (by omega) (by simp)) (abide_below (by omega) (Nat.le_refl _) (fun q e => by cases e)))))
        case body =>
          obtain ⟨q, hq, hq2, rfl⟩ := hA
          obtain ⟨g1, g1', g2, g3, g4⟩ := hI
          have hs7 := g4.size
          obtain ⟨⟨xi, xr, xf⟩, hx⟩ := x
          have hx32 : xr.size = 32 := hx
          have hqW : q < W.heap.size := (Array.getElem?_eq_some_iff.1 hq).1
          have c1 : W.cell? ⟨b1, 0, none⟩ = some (.string (FA pre)) := cell_of_row W _ 0 _ _ _ g1
          have c2 : W.cell? ⟨b1 + 1, 0, none⟩ = some (.string (FB pre)) := cell_of_row W _ 0 _ _ _ g1'
          have c3 : W.cell? ⟨q, 0, none⟩ = some (.string xr) := cell_of_row W _ 0 _ _ _ hq
          have c4 : W.cell? ⟨q, 1, none⟩ = some (.bool xf) := cell_of_row W _ 1 _ _ _ hq
          have G1 := Lib.hid g1
          have G1' := Lib.hid g1'
          have G2 := Lib.hid g2
          have G3 := Lib.hid g3
          have G4 := Lib.hid g4
          have GQ := Lib.hid hq
          clear g1 g1' g2 g3 g4 hq
          have HFN := Lib.hid (HFB.out.2.2.1 pre ⟨(xi, xr, xf), hx⟩)
          have HGN := Lib.hid (HFB.out.2.2.2.2.1 pre ⟨(xi, xr, xf), hx⟩)
          have HA32 := HFB.out.2.2.2.2.2.1 pre
          have HB32 := HFB.out.2.2.2.1 pre
          simp only [List.setIfInBounds_toArray, List.set_cons_succ, List.set_cons_zero]
          cases xf
          · have HN1 := Lib.hid (sideJoin_any xr false (FB pre) W (by omega) (by omega) (HE.out.below G4.out HG.out) (Nat.lt_of_lt_of_le HG.out hs7))
            gi_wp2_with (refine ⟨trivial, ?_⟩; gi_at_call 95; refine (callsIn_of_calls (Wide.inRound Wide.wide _) HN1.out).mono ?_; rintro e W' ⟨rfl, hb⟩; rw [show sideS (xr, false) (FB pre) = FB (pre ++ [⟨(xi, xr, false), hx⟩]) from HFN.out.symm]; have HG1' : Hid (W'.heap[b1 + 1]? = some (.cells #[.string (FB pre)] 9 (0, 0))) := Lib.hid ((hb.block _ (by omega)).trans G1'.out); have d2 : W'.cell? ⟨b1 + 1, 0, none⟩ = some (.string (FB pre)) := cell_of_row W' _ 0 _ _ _ HG1'.out; have cf2 : W'.frozen? ⟨b1 + 1, 0, none⟩ = false := (by simp [World.frozen?, HG1'.out]); have HB' := Lib.hid hb; clear hb)
            have hset : W'.grownBy (W'.setCell ⟨b1 + 1, 0, none⟩ (.string (FB (pre ++ [⟨(xi, xr, false), hx⟩])))) (some (b1 + 1)) := grown_setCell (grown_refl _ _) _ (.inl rfl) _
            have keep : ∀ (q : Nat) (o : Obj), W.heap[q]? = some o → q ≠ b1 + 1 → (W'.setCell ⟨b1 + 1, 0, none⟩ (.string (FB (pre ++ [⟨(xi, xr, false), hx⟩])))).heap[q]? = some o := fun q o hq hne => by
              have hq1 := (HB'.out.block q (Array.getElem?_eq_some_iff.1 hq).1).trans hq
              exact (hset.block q (Array.getElem?_eq_some_iff.1 hq1).1 (fun e => hne (Option.some.inj e))).trans hq1
            have HGe : FA (pre ++ [⟨(xi, xr, false), hx⟩]) = FA pre := HGN.out
            refine ⟨⟨Nat.le_trans HB'.out.size hset.size, fun q o hB hq hnc => keep q o hq (by omega)⟩, ⟨(keep _ _ G2.out (by omega)).trans G2.out.symm, (keep _ _ G3.out (by omega)).trans G3.out.symm⟩, ?_, ?_, keep _ _ G2.out (by omega), keep _ _ G3.out (by omega), ?_⟩
            · rw [HGe]; exact keep _ _ G1.out (by omega)
            · show (World.setCell _ _ _).heap[b1 + 1]? = _
              rw [heap_setCell_same _ HG1'.out]
              rfl
            · exact ((G4.out.trans (HB'.out.mono hs7)).grown hset (Nat.le_trans hs7 HB'.out.size) (fun j e => by cases e; omega))
          · have HN1 := Lib.hid (sideJoin_any xr true (FA pre) W (by omega) (by omega) (HE.out.below G4.out HG.out) (Nat.lt_of_lt_of_le HG.out hs7))
            have HGe : sideS (xr, true) (FA pre) = FA (pre ++ [⟨(xi, xr, true), hx⟩]) := HGN.out.symm
            have HGE := Lib.hid HGe
            clear HGe
            gi_wp2
            refine ⟨trivial, (callsIn_of_calls (Wide.inRound Wide.wide _) HN1.out).mono ?_⟩
            rintro e W1 ⟨rfl, hb⟩
            rw [HGE.out]
            clear HN1
            obtain ⟨VA, hVA⟩ : ∃ VA, VA = FA (pre ++ [⟨(xi, xr, true), hx⟩]) := ⟨_, rfl⟩
            rw [← hVA]
            have HVA := Lib.hid hVA
            clear hVA
            have HG1 : Hid (W1.heap[b1]? = some (.cells #[.string (FA pre)] 9 (0, 0))) := Lib.hid ((hb.block _ (by omega)).trans G1.out)
            have d1 : W1.cell? ⟨b1, 0, none⟩ = some (.string (FA pre)) := cell_of_row W1 _ 0 _ _ _ HG1.out
            have cf1 : W1.frozen? ⟨b1, 0, none⟩ = false := by simp [World.frozen?, HG1.out]
            have HB1' := Lib.hid hb
            clear hb
            obtain ⟨W2, hW2⟩ : ∃ W2, W2 = W1.setCell ⟨b1, 0, none⟩ (.string VA) := ⟨_, rfl⟩
            have hset1 : W1.grownBy W2 (some b1) := by rw [hW2]; exact grown_setCell (grown_refl _ _) _ (.inl rfl) _
            have keep1 : ∀ (q : Nat) (o : Obj), W.heap[q]? = some o → q ≠ b1 → W2.heap[q]? = some o := fun q o hq hne => by
              have hq1 := (HB1'.out.block q (Array.getElem?_eq_some_iff.1 hq).1).trans hq
              exact (hset1.block q (Array.getElem?_eq_some_iff.1 hq1).1 (fun e => hne (Option.some.inj e))).trans hq1
            have e1 : W2.heap[b1]? = some (.cells #[.string VA] 9 (0, 0)) := by
              rw [hW2, heap_setCell_same _ HG1.out]
              rfl
            have hB1 : Below w.heap.size w W2 := (G4.out.trans (HB1'.out.mono hs7)).grown hset1 (Nat.le_trans hs7 HB1'.out.size) (fun j e => by cases e; omega)
            have hsz1 : W.heap.size ≤ W2.heap.size := Nat.le_trans HB1'.out.size hset1.size
            have KEEP1 := Lib.hid keep1
            have E1 := Lib.hid e1
            have HBB1 := Lib.hid hB1
            have f2 : W2.cell? ⟨b1 + 1, 0, none⟩ = some (.string (FB pre)) := cell_of_row _ _ 0 _ _ _ (keep1 _ _ G1'.out (by omega))
            have f3 : W2.cell? ⟨q, 0, none⟩ = some (.string xr) := cell_of_row _ _ 0 _ _ _ (keep1 _ _ GQ.out (by omega))
            have f4 : W2.cell? ⟨q, 1, none⟩ = some (.bool true) := cell_of_row _ _ 1 _ _ _ (keep1 _ _ GQ.out (by omega))
            have HN2 := Lib.hid (sideJoin_any xr true (FB pre) W2 (by omega) (by omega) (HE.out.below hB1 HG.out) (Nat.lt_of_lt_of_le HG.out hB1.size))
            have HF : Hid (sideS (xr, true) (FB pre) = FB (pre ++ [⟨(xi, xr, true), hx⟩])) := Lib.hid HFN.out.symm
            clear keep1 e1 hB1 hset1
            subst hW2
            clear c1 c2 c3 c4
            gi_wp2
            refine ⟨trivial, (callsIn_of_calls (Wide.inRound Wide.wide _) HN2.out).mono ?_⟩
            rintro e W' ⟨rfl, hb⟩
            rw [HF.out]
            have HG1' : Hid (W'.heap[b1 + 1]? = some (.cells #[.string (FB pre)] 9 (0, 0))) := Lib.hid ((hb.block _ (by omega)).trans (KEEP1.out _ _ G1'.out (by omega)))
            have d2 : W'.cell? ⟨b1 + 1, 0, none⟩ = some (.string (FB pre)) := cell_of_row W' _ 0 _ _ _ HG1'.out
            have cf2 : W'.frozen? ⟨b1 + 1, 0, none⟩ = false := by simp [World.frozen?, HG1'.out]
            have HB' := Lib.hid hb
            clear hb f2 f3 f4
            gi_wp2
            have hset : W'.grownBy (W'.setCell ⟨b1 + 1, 0, none⟩ (.string (FB (pre ++ [⟨(xi, xr, true), hx⟩])))) (some (b1 + 1)) := grown_setCell (grown_refl _ _) _ (.inl rfl) _
            have keep2 : ∀ (q : Nat) (o : Obj), (W1.setCell ⟨b1, 0, none⟩ (.string VA)).heap[q]? = some o → q ≠ b1 + 1 → (W'.setCell ⟨b1 + 1, 0, none⟩ (.string (FB (pre ++ [⟨(xi, xr, true), hx⟩])))).heap[q]? = some o := fun q o hq hne => by
              have hq1 := (HB'.out.block q (Array.getElem?_eq_some_iff.1 hq).1).trans hq
              exact (hset.block q (Array.getElem?_eq_some_iff.1 hq1).1 (fun e => hne (Option.some.inj e))).trans hq1
            have keep : ∀ (q : Nat) (o : Obj), W.heap[q]? = some o → q ≠ b1 → q ≠ b1 + 1 → (W'.setCell ⟨b1 + 1, 0, none⟩ (.string (FB (pre ++ [⟨(xi, xr, true), hx⟩])))).heap[q]? = some o := fun q o hq h1 h2 => keep2 q o (KEEP1.out q o hq h1) h2
            refine ⟨⟨Nat.le_trans hsz1 (Nat.le_trans HB'.out.size hset.size), fun q o hB hq hnc => keep q o hq (by omega) (by omega)⟩, ⟨(keep _ _ G2.out (by omega) (by omega)).trans G2.out.symm, (keep _ _ G3.out (by omega) (by omega)).trans G3.out.symm⟩, ?_, ?_, keep _ _ G2.out (by omega) (by omega), keep _ _ G3.out (by omega) (by omega), ?_⟩
            · rw [← HVA.out]; exact keep2 _ _ E1.out (by omega)
            · show (World.setCell _ _ _).heap[b1 + 1]? = _
              rw [heap_setCell_same _ HG1'.out]
              rfl
            · exact ((HBB1.out.trans (HB'.out.mono (Nat.le_trans hs7 hsz1))).grown hset (Nat.le_trans (Nat.le_trans hs7 hsz1) HB'.out.size) (fun j e => by cases e; omega))
        case done =>
          obtain ⟨g1, g1', _, _, g4⟩ := hI
          have c1 : W.cell? ⟨b1, 0, none⟩ = some (.string (FA xs)) := cell_of_row W _ 0 _ _ _ g1
          have c2 : W.cell? ⟨b1 + 1, 0, none⟩ = some (.string (FB xs)) := cell_of_row W _ 0 _ _ _ g1'
          have HRF := Lib.hid (HFB.out.2.2.2.2.2.2 xs hS)
          have G4 := Lib.hid g4
          have HDd := Lib.hid hDd
          have hsW := g4.size
          clear hS g1 g1' g4 hDd
          show Exit.inBlock _ _ _ (Act.mk _ [{ target := .collected Dm, args := #[] }]) W
          have hM : Marks w.heap.size [Dm] W := ⟨by simp, fun D hD => by
            rw [List.mem_singleton] at hD
            subst hD
            exact ⟨by omega, HDd.out⟩⟩
          generalize FA xs = fa at *
          generalize FB xs = fb at *
          rcases Nat.eq_zero_or_pos L' with hm0 | hm0
          · subst hm0
            cases hq : (fa.toList == old.toList)
            · go_wp2
              refine leaves_marks (B := w.heap.size) [Dm] W hM (fun W'' hT => ⟨_, results_tmp rfl _ _ _, ?_, G4.out.trans hT.below⟩)
              rw [HRF.out, ← same_str fa old, hq, Bool.false_and, Bool.and_false]
              rfl
            · go_wp2
              refine leaves_marks (B := w.heap.size) [Dm] W hM (fun W'' hT => ⟨_, results_tmp rfl _ _ _, ?_, G4.out.trans hT.below⟩)
              rw [HRF.out, ← same_str fa old, ← same_str fb root, hq, decide_eq_true trivial, Bool.true_and, Bool.true_and]
              rfl
          · have hd : ((L' : Int) == 0) = false := by simp; omega
            go_wp2
            refine leaves_marks (B := w.heap.size) [Dm] W hM (fun W'' hT => ⟨_, results_tmp rfl _ _ _, ?_, G4.out.trans hT.below⟩)
            rw [HRF.out, decide_eq_false (by omega), Bool.false_and]
            rfl

end Go.Proofs.YtinfpbkbnhcifaaGreatDoor
