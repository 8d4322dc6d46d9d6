/- Walk of the reference: Bent. The conditions: the integers' ranges. -/
import Derived.Deep.DeepCutAuto
import Derived.Deep.CutBlock
import Derived.Test.YtggdcnjaofflbaaGreatDoorC18
import Derived.Test.YtggdcnjaofflbaaGreatDoorC12
import Derived.Test.YtggdcnjaofflbaaGreatDoorC20
import Derived.Test.YtggdcnjaofflbaaGreatDoorC13
import Derived.Test.YtggdcnjaofflbaaGreatDoorC07
import Derived.Test.YtggdcnjaofflbaaGreatDoorC08
import Derived.Test.YtggdcnjaofflbaaGreatDoorC17
import Derived.Test.YtggdcnjaofflbaaGreatDoorC06
import Derived.Test.YtggdcnjaofflbaaGreatDoorC05
import Derived.Test.YtggdcnjaofflbaaGreatDoorC04
namespace Go.Proofs.YtggdcnjaofflbaaGreatDoor
open Go.RowKit Go.BigFrame

def BnAt (w : World) (P : Array Value) (W : World) : Prop := Below w.heap.size w W ∧ W.heap[w.heap.size]? = some (.cells P 27 (0, 0)) ∧ W.heap[w.heap.size + 1]? = some (.cells #[.int .i64 0, .int .i64 0, .int .i64 0, .string ⟨#[]⟩, .string ⟨#[]⟩] 27 (0, 0))
theorem BnAt.far {w : World} {P : Array Value} {W W' : World} (h : BnAt w P W) (hb : Below W.heap.size W W') : BnAt w P W' :=
  ⟨q_next h.1 hb, (hb.block _ (Array.getElem?_eq_some_iff.1 h.2.1).1).trans h.2.1, (hb.block _ (Array.getElem?_eq_some_iff.1 h.2.2).1).trans h.2.2⟩
theorem BnAt.set {w : World} {P : Array Value} {W : World} (h : BnAt w P W) (k : Nat) (v : Value) {P' : Array Value} (e : P.setIfInBounds k v = P') : BnAt w P' (W.setCell ⟨w.heap.size, k, none⟩ v) := by
  subst e
  have hg : W.grownBy (W.setCell ⟨w.heap.size, k, none⟩ v) (some w.heap.size) := grown_setCell (grown_refl _ _) _ (.inl rfl) _
  exact ⟨h.1.setCell (p := ⟨w.heap.size, k, none⟩) (Nat.le_refl _) _, heap_setCell_same (i := k) _ h.2.1, (hg.block _ (Array.getElem?_eq_some_iff.1 h.2.2).1 (fun e => by have := Option.some.inj e; omega)).trans h.2.2⟩
theorem BnAt.free {w : World} {P : Array Value} {W : World} (h : BnAt w P W) : (∀ j, W.frozen? ⟨w.heap.size, j, none⟩ = false) ∧ ∀ j, W.frozen? ⟨w.heap.size + 1, j, none⟩ = false := by
  refine ⟨fun j => ?_, fun j => ?_⟩
  · unfold World.frozen?; rw [h.2.1]; simp
  · unfold World.frozen?; rw [h.2.2]; simp
theorem strOf_zeros (m : Nat) : strOf (List.replicate m 0) = zerosB m := by
  unfold strOf zerosB
  simp
theorem zeros_cells (W : World) (m : Nat) (j y : Nat) (h : (List.replicate m 0)[j]? = some y) : (W.alloc (.cells (Array.replicate m (.int .u8 0)) 5)).cell? ⟨W.heap.size, 0 + j, none⟩ = some (.int .u8 (y : Nat)) := by
  have hj : j < m := by
    have := (List.getElem?_eq_some_iff.1 h).1
    simpa using this
  rw [Nat.zero_add, cell_of_row _ _ j _ _ _ (heap_alloc_new W (.cells (Array.replicate m (.int .u8 0)) 5)), Array.getElem?_replicate, if_pos hj]
  rw [List.getElem?_replicate, if_pos hj] at h
  cases h
  rfl
set_option maxHeartbeats 2000000 in
set_option maxRecDepth 100000 in
theorem bent0 (car num stp : Int) (val sl : ByteArray) (how n : Int) (hh : I64 how) (hn : I64 n) (hk : pickI how 6 = 0) (w : World) :
    Calls Tryz.prog 17 #[.agg #[.int .i64 car, .int .i64 num, .int .i64 stp, .string val, .string sl], .int .i64 how, .int .i64 n] w fun e w' => e = .returned (.agg #[.int .i64 n, .int .i64 num, .int .i64 stp, .string val, .string sl]) ∧ Below w.heap.size w w' := by
  have HP := Lib.hid (fun W => pickQ_any how 6 W hh (by omega) (by omega))
  rw [hk] at HP
  have HV := Lib.hid (fun W => valN_any n hn W)
  have hpn := pickI_range n (show (0 : Int) < 3 by omega)
  have HP3 := Lib.hid (fun W => pickQ_any n 3 W hn (by omega) (by omega))
  obtain ⟨W2, hW2⟩ : ∃ W2, W2 = (w.alloc (.cells #[.int .i64 car, .int .i64 num, .int .i64 stp, .string val, .string sl] 27)).alloc (.cells #[.int .i64 0, .int .i64 0, .int .i64 0, .string ⟨#[]⟩, .string ⟨#[]⟩] 27) := ⟨_, rfl⟩
  have HA : Hid (BnAt w #[.int .i64 car, .int .i64 num, .int .i64 stp, .string val, .string sl] W2) := Lib.hid (by
    rw [hW2]
    exact ⟨((Below.refl _ _).alloc (Nat.le_refl _) _).alloc (by simp) _, at_past w _ _, at_second w _ _⟩)
  have HW2 := Lib.hid hW2
  clear hW2 hk hh
  
  go_enter Tryz.func17, Tryz.ntmps17
  go_upto_block 1 with fail
  rw [← HW2.out]
  obtain ⟨zf, ff⟩ := HA.out.free
  obtain ⟨d0, d1, d2, d3, d4⟩ := vcellsAt HA.out.2.1
  go_upto_region 13 with (go_at_call 54; (with_reducible refine (HP.out _).mono ?_); rintro e w3 ⟨rfl, hw3⟩; replace hw3 := hw3.symm; subst hw3)
  obtain ⟨WX, hWX⟩ : ∃ WX, WX = W2 := ⟨_, rfl⟩
  have HX := HA
  rw [← hWX] at HX ⊢
  clear hWX
  have HN : Hid (BnAt w #[.int .i64 n, .int .i64 num, .int .i64 stp, .string val, .string sl] (WX.setCell ⟨w.heap.size, 0, none⟩ (.int .i64 n))) := Lib.hid (HX.out.set 0 (.int .i64 n) rfl)
  generalize WX.setCell ⟨w.heap.size, 0, none⟩ (.int .i64 n) = WY at *
  clear zf ff HX HA d0 d1 d2 d3 d4
  have HEND := Lib.hid (HN.out)
  obtain ⟨zf, ff⟩ := HN.out.free
  obtain ⟨d0, d1, d2, d3, d4⟩ := vcellsAt HN.out.2.1
  obtain ⟨e0, e1, e2, e3, e4⟩ := vcellsAt HN.out.2.2
  go_wp2
  exact bodyPost_ret (results_cell_row rfl _ _ (w.heap.size + 1) 27 #[.int .i64 n, .int .i64 num, .int .i64 stp, .string val, .string sl] (0, 0) _ rfl (vfive_heap HN.out.2.2 _ _ _ _ _) Tryz.underlying27 rfl infoVote) rfl ⟨rfl, vfive_below HN.out.1 (Nat.le_succ _) _ _ _ _ _⟩
set_option maxHeartbeats 2000000 in
set_option maxRecDepth 100000 in
theorem bent1 (car num stp : Int) (val sl : ByteArray) (how n : Int) (hh : I64 how) (hn : I64 n) (hk : pickI how 6 = 1) (w : World) :
    Calls Tryz.prog 17 #[.agg #[.int .i64 car, .int .i64 num, .int .i64 stp, .string val, .string sl], .int .i64 how, .int .i64 n] w fun e w' => e = .returned (.agg #[.int .i64 car, .int .i64 n, .int .i64 stp, .string val, .string sl]) ∧ Below w.heap.size w w' := by
  have HP := Lib.hid (fun W => pickQ_any how 6 W hh (by omega) (by omega))
  rw [hk] at HP
  have HV := Lib.hid (fun W => valN_any n hn W)
  have hpn := pickI_range n (show (0 : Int) < 3 by omega)
  have HP3 := Lib.hid (fun W => pickQ_any n 3 W hn (by omega) (by omega))
  obtain ⟨W2, hW2⟩ : ∃ W2, W2 = (w.alloc (.cells #[.int .i64 car, .int .i64 num, .int .i64 stp, .string val, .string sl] 27)).alloc (.cells #[.int .i64 0, .int .i64 0, .int .i64 0, .string ⟨#[]⟩, .string ⟨#[]⟩] 27) := ⟨_, rfl⟩
  have HA : Hid (BnAt w #[.int .i64 car, .int .i64 num, .int .i64 stp, .string val, .string sl] W2) := Lib.hid (by
    rw [hW2]
    exact ⟨((Below.refl _ _).alloc (Nat.le_refl _) _).alloc (by simp) _, at_past w _ _, at_second w _ _⟩)
  have HW2 := Lib.hid hW2
  clear hW2 hk hh
  
  go_enter Tryz.func17, Tryz.ntmps17
  go_upto_block 1 with fail
  rw [← HW2.out]
  obtain ⟨zf, ff⟩ := HA.out.free
  obtain ⟨d0, d1, d2, d3, d4⟩ := vcellsAt HA.out.2.1
  go_upto_region 13 with (go_at_call 54; (with_reducible refine (HP.out _).mono ?_); rintro e w3 ⟨rfl, hw3⟩; replace hw3 := hw3.symm; subst hw3)
  obtain ⟨WX, hWX⟩ : ∃ WX, WX = W2 := ⟨_, rfl⟩
  have HX := HA
  rw [← hWX] at HX ⊢
  clear hWX
  have HN : Hid (BnAt w #[.int .i64 car, .int .i64 n, .int .i64 stp, .string val, .string sl] (WX.setCell ⟨w.heap.size, 1, none⟩ (.int .i64 n))) := Lib.hid (HX.out.set 1 (.int .i64 n) rfl)
  generalize WX.setCell ⟨w.heap.size, 1, none⟩ (.int .i64 n) = WY at *
  clear zf ff HX HA d0 d1 d2 d3 d4
  have HEND := Lib.hid (HN.out)
  obtain ⟨zf, ff⟩ := HN.out.free
  obtain ⟨d0, d1, d2, d3, d4⟩ := vcellsAt HN.out.2.1
  obtain ⟨e0, e1, e2, e3, e4⟩ := vcellsAt HN.out.2.2
  go_wp2
  exact bodyPost_ret (results_cell_row rfl _ _ (w.heap.size + 1) 27 #[.int .i64 car, .int .i64 n, .int .i64 stp, .string val, .string sl] (0, 0) _ rfl (vfive_heap HN.out.2.2 _ _ _ _ _) Tryz.underlying27 rfl infoVote) rfl ⟨rfl, vfive_below HN.out.1 (Nat.le_succ _) _ _ _ _ _⟩
set_option maxHeartbeats 2000000 in
set_option maxRecDepth 100000 in
theorem bent2 (car num stp : Int) (val sl : ByteArray) (how n : Int) (hh : I64 how) (hn : I64 n) (hk : pickI how 6 = 2) (w : World) :
    Calls Tryz.prog 17 #[.agg #[.int .i64 car, .int .i64 num, .int .i64 stp, .string val, .string sl], .int .i64 how, .int .i64 n] w fun e w' => e = .returned (.agg #[.int .i64 car, .int .i64 num, .int .i64 n, .string val, .string sl]) ∧ Below w.heap.size w w' := by
  have HP := Lib.hid (fun W => pickQ_any how 6 W hh (by omega) (by omega))
  rw [hk] at HP
  have HV := Lib.hid (fun W => valN_any n hn W)
  have hpn := pickI_range n (show (0 : Int) < 3 by omega)
  have HP3 := Lib.hid (fun W => pickQ_any n 3 W hn (by omega) (by omega))
  obtain ⟨W2, hW2⟩ : ∃ W2, W2 = (w.alloc (.cells #[.int .i64 car, .int .i64 num, .int .i64 stp, .string val, .string sl] 27)).alloc (.cells #[.int .i64 0, .int .i64 0, .int .i64 0, .string ⟨#[]⟩, .string ⟨#[]⟩] 27) := ⟨_, rfl⟩
  have HA : Hid (BnAt w #[.int .i64 car, .int .i64 num, .int .i64 stp, .string val, .string sl] W2) := Lib.hid (by
    rw [hW2]
    exact ⟨((Below.refl _ _).alloc (Nat.le_refl _) _).alloc (by simp) _, at_past w _ _, at_second w _ _⟩)
  have HW2 := Lib.hid hW2
  clear hW2 hk hh
  
  go_enter Tryz.func17, Tryz.ntmps17
  go_upto_block 1 with fail
  rw [← HW2.out]
  obtain ⟨zf, ff⟩ := HA.out.free
  obtain ⟨d0, d1, d2, d3, d4⟩ := vcellsAt HA.out.2.1
  go_upto_region 13 with (go_at_call 54; (with_reducible refine (HP.out _).mono ?_); rintro e w3 ⟨rfl, hw3⟩; replace hw3 := hw3.symm; subst hw3)
  obtain ⟨WX, hWX⟩ : ∃ WX, WX = W2 := ⟨_, rfl⟩
  have HX := HA
  rw [← hWX] at HX ⊢
  clear hWX
  have HN : Hid (BnAt w #[.int .i64 car, .int .i64 num, .int .i64 n, .string val, .string sl] (WX.setCell ⟨w.heap.size, 2, none⟩ (.int .i64 n))) := Lib.hid (HX.out.set 2 (.int .i64 n) rfl)
  generalize WX.setCell ⟨w.heap.size, 2, none⟩ (.int .i64 n) = WY at *
  clear zf ff HX HA d0 d1 d2 d3 d4
  have HEND := Lib.hid (HN.out)
  obtain ⟨zf, ff⟩ := HN.out.free
  obtain ⟨d0, d1, d2, d3, d4⟩ := vcellsAt HN.out.2.1
  obtain ⟨e0, e1, e2, e3, e4⟩ := vcellsAt HN.out.2.2
  go_wp2
  exact bodyPost_ret (results_cell_row rfl _ _ (w.heap.size + 1) 27 #[.int .i64 car, .int .i64 num, .int .i64 n, .string val, .string sl] (0, 0) _ rfl (vfive_heap HN.out.2.2 _ _ _ _ _) Tryz.underlying27 rfl infoVote) rfl ⟨rfl, vfive_below HN.out.1 (Nat.le_succ _) _ _ _ _ _⟩
set_option maxHeartbeats 2000000 in
set_option maxRecDepth 100000 in
theorem bent3 (car num stp : Int) (val sl : ByteArray) (how n : Int) (hh : I64 how) (hn : I64 n) (hk : pickI how 6 = 3) (w : World) :
    Calls Tryz.prog 17 #[.agg #[.int .i64 car, .int .i64 num, .int .i64 stp, .string val, .string sl], .int .i64 how, .int .i64 n] w fun e w' => e = .returned (.agg #[.int .i64 car, .int .i64 num, .int .i64 stp, .string (valN n), .string sl]) ∧ Below w.heap.size w w' := by
  have HP := Lib.hid (fun W => pickQ_any how 6 W hh (by omega) (by omega))
  rw [hk] at HP
  have HV := Lib.hid (fun W => valN_any n hn W)
  have hpn := pickI_range n (show (0 : Int) < 3 by omega)
  have HP3 := Lib.hid (fun W => pickQ_any n 3 W hn (by omega) (by omega))
  obtain ⟨W2, hW2⟩ : ∃ W2, W2 = (w.alloc (.cells #[.int .i64 car, .int .i64 num, .int .i64 stp, .string val, .string sl] 27)).alloc (.cells #[.int .i64 0, .int .i64 0, .int .i64 0, .string ⟨#[]⟩, .string ⟨#[]⟩] 27) := ⟨_, rfl⟩
  have HA : Hid (BnAt w #[.int .i64 car, .int .i64 num, .int .i64 stp, .string val, .string sl] W2) := Lib.hid (by
    rw [hW2]
    exact ⟨((Below.refl _ _).alloc (Nat.le_refl _) _).alloc (by simp) _, at_past w _ _, at_second w _ _⟩)
  have HW2 := Lib.hid hW2
  clear hW2 hk hh
  
  go_enter Tryz.func17, Tryz.ntmps17
  go_upto_block 1 with fail
  rw [← HW2.out]
  obtain ⟨zf, ff⟩ := HA.out.free
  obtain ⟨d0, d1, d2, d3, d4⟩ := vcellsAt HA.out.2.1
  clear zf ff d0 d1 d2 d3 d4
  go_upto_region 13 with (first | (go_at_call 54; (with_reducible refine (HP.out _).mono ?_); rintro e w3 ⟨rfl, hw3⟩; replace hw3 := hw3.symm; subst hw3) | (go_at_call 14; (with_reducible refine (HV.out _).mono ?_); rintro e w4 ⟨rfl, hb4⟩; have HX := Lib.hid (HA.out.far hb4); obtain ⟨zf, ff⟩ := HX.out.free; obtain ⟨d0, d1, d2, d3, d4⟩ := vcellsAt HX.out.2.1))
  obtain ⟨WX, hWX⟩ : ∃ WX, WX = w4 := ⟨_, rfl⟩
  rw [← hWX] at HX ⊢
  clear hWX
  have HN : Hid (BnAt w #[.int .i64 car, .int .i64 num, .int .i64 stp, .string (valN n), .string sl] (WX.setCell ⟨w.heap.size, 3, none⟩ (.string (valN n)))) := Lib.hid (HX.out.set 3 (.string (valN n)) rfl)
  generalize WX.setCell ⟨w.heap.size, 3, none⟩ (.string (valN n)) = WY at *
  clear zf ff HX HA d0 d1 d2 d3 d4
  have HEND := Lib.hid (HN.out)
  obtain ⟨zf, ff⟩ := HN.out.free
  obtain ⟨d0, d1, d2, d3, d4⟩ := vcellsAt HN.out.2.1
  obtain ⟨e0, e1, e2, e3, e4⟩ := vcellsAt HN.out.2.2
  go_wp2
  exact bodyPost_ret (results_cell_row rfl _ _ (w.heap.size + 1) 27 #[.int .i64 car, .int .i64 num, .int .i64 stp, .string (valN n), .string sl] (0, 0) _ rfl (vfive_heap HN.out.2.2 _ _ _ _ _) Tryz.underlying27 rfl infoVote) rfl ⟨rfl, vfive_below HN.out.1 (Nat.le_succ _) _ _ _ _ _⟩
set_option maxHeartbeats 2000000 in
set_option maxRecDepth 100000 in
theorem bent4 (car num stp : Int) (val sl : ByteArray) (how n : Int) (hh : I64 how) (hn : I64 n) (hk : pickI how 6 = 4) (w : World) :
    Calls Tryz.prog 17 #[.agg #[.int .i64 car, .int .i64 num, .int .i64 stp, .string val, .string sl], .int .i64 how, .int .i64 n] w fun e w' => e = .returned (.agg #[.int .i64 car, .int .i64 num, .int .i64 stp, .string val, .string (valN n)]) ∧ Below w.heap.size w w' := by
  have HP := Lib.hid (fun W => pickQ_any how 6 W hh (by omega) (by omega))
  rw [hk] at HP
  have HV := Lib.hid (fun W => valN_any n hn W)
  have hpn := pickI_range n (show (0 : Int) < 3 by omega)
  have HP3 := Lib.hid (fun W => pickQ_any n 3 W hn (by omega) (by omega))
  obtain ⟨W2, hW2⟩ : ∃ W2, W2 = (w.alloc (.cells #[.int .i64 car, .int .i64 num, .int .i64 stp, .string val, .string sl] 27)).alloc (.cells #[.int .i64 0, .int .i64 0, .int .i64 0, .string ⟨#[]⟩, .string ⟨#[]⟩] 27) := ⟨_, rfl⟩
  have HA : Hid (BnAt w #[.int .i64 car, .int .i64 num, .int .i64 stp, .string val, .string sl] W2) := Lib.hid (by
    rw [hW2]
    exact ⟨((Below.refl _ _).alloc (Nat.le_refl _) _).alloc (by simp) _, at_past w _ _, at_second w _ _⟩)
  have HW2 := Lib.hid hW2
  clear hW2 hk hh
  
  go_enter Tryz.func17, Tryz.ntmps17
  go_upto_block 1 with fail
  rw [← HW2.out]
  obtain ⟨zf, ff⟩ := HA.out.free
  obtain ⟨d0, d1, d2, d3, d4⟩ := vcellsAt HA.out.2.1
  clear zf ff d0 d1 d2 d3 d4
  go_upto_region 13 with (first | (go_at_call 54; (with_reducible refine (HP.out _).mono ?_); rintro e w3 ⟨rfl, hw3⟩; replace hw3 := hw3.symm; subst hw3) | (go_at_call 14; (with_reducible refine (HV.out _).mono ?_); rintro e w4 ⟨rfl, hb4⟩; have HX := Lib.hid (HA.out.far hb4); obtain ⟨zf, ff⟩ := HX.out.free; obtain ⟨d0, d1, d2, d3, d4⟩ := vcellsAt HX.out.2.1))
  obtain ⟨WX, hWX⟩ : ∃ WX, WX = w4 := ⟨_, rfl⟩
  rw [← hWX] at HX ⊢
  clear hWX
  have HN : Hid (BnAt w #[.int .i64 car, .int .i64 num, .int .i64 stp, .string val, .string (valN n)] (WX.setCell ⟨w.heap.size, 4, none⟩ (.string (valN n)))) := Lib.hid (HX.out.set 4 (.string (valN n)) rfl)
  generalize WX.setCell ⟨w.heap.size, 4, none⟩ (.string (valN n)) = WY at *
  clear zf ff HX HA d0 d1 d2 d3 d4
  have HEND := Lib.hid (HN.out)
  obtain ⟨zf, ff⟩ := HN.out.free
  obtain ⟨d0, d1, d2, d3, d4⟩ := vcellsAt HN.out.2.1
  obtain ⟨e0, e1, e2, e3, e4⟩ := vcellsAt HN.out.2.2
  go_wp2
  exact bodyPost_ret (results_cell_row rfl _ _ (w.heap.size + 1) 27 #[.int .i64 car, .int .i64 num, .int .i64 stp, .string val, .string (valN n)] (0, 0) _ rfl (vfive_heap HN.out.2.2 _ _ _ _ _) Tryz.underlying27 rfl infoVote) rfl ⟨rfl, vfive_below HN.out.1 (Nat.le_succ _) _ _ _ _ _⟩
set_option maxHeartbeats 2000000 in
set_option maxRecDepth 100000 in
theorem bent50 (car num stp : Int) (val sl : ByteArray) (how n : Int) (hh : I64 how) (hn : I64 n) (hk : pickI how 6 = 5) (ht : pickI n 3 = 0) (w : World) :
    Calls Tryz.prog 17 #[.agg #[.int .i64 car, .int .i64 num, .int .i64 stp, .string val, .string sl], .int .i64 how, .int .i64 n] w fun e w' => e = .returned (.agg #[.int .i64 car, .int .i64 num, .int .i64 stp, .string (zerosB 31), .string sl]) ∧ Below w.heap.size w w' := by
  have HP := Lib.hid (fun W => pickQ_any how 6 W hh (by omega) (by omega))
  rw [hk] at HP
  have HV := Lib.hid (fun W => valN_any n hn W)
  have hpn := pickI_range n (show (0 : Int) < 3 by omega)
  have HP3 := Lib.hid (fun W => pickQ_any n 3 W hn (by omega) (by omega))
  obtain ⟨W2, hW2⟩ : ∃ W2, W2 = (w.alloc (.cells #[.int .i64 car, .int .i64 num, .int .i64 stp, .string val, .string sl] 27)).alloc (.cells #[.int .i64 0, .int .i64 0, .int .i64 0, .string ⟨#[]⟩, .string ⟨#[]⟩] 27) := ⟨_, rfl⟩
  have HA : Hid (BnAt w #[.int .i64 car, .int .i64 num, .int .i64 stp, .string val, .string sl] W2) := Lib.hid (by
    rw [hW2]
    exact ⟨((Below.refl _ _).alloc (Nat.le_refl _) _).alloc (by simp) _, at_past w _ _, at_second w _ _⟩)
  have HW2 := Lib.hid hW2
  clear hW2 hk hh
  have HMK : Hid (∀ W, (Instr.makeSlice 80 (.int .i64 31) (.int .i64 31)).run Tryz.prog W = .ok (.slice (some ⟨W.heap.size, 0, none⟩) 31 31) (W.alloc (.cells (Array.replicate 31 (.int .u8 0)) 5))) := Lib.hid (fun _ => by kernel_rfl)
  rw [ht] at HP3
  have HS := Lib.hid (strOf_zeros 31)
  have HC : Hid (∀ W : World, ∀ j y, (List.replicate 31 0)[j]? = some y → (W.alloc (.cells (Array.replicate 31 (.int .u8 0)) 5)).cell? ⟨W.heap.size, 0 + j, none⟩ = some (.int .u8 (y : Nat))) := Lib.hid (fun W => zeros_cells W 31)
  have HZ : Hid (∀ y ∈ List.replicate 31 0, y < 256) := Lib.hid (fun y hy => by rw [List.eq_of_mem_replicate hy]; omega)
  have HL : Hid (31 = (List.replicate 31 0).length) := Lib.hid (by simp)
  obtain ⟨ZL, hZL⟩ : ∃ ZL, ZL = List.replicate 31 0 := ⟨_, rfl⟩
  rw [← hZL] at HS HC HZ HL
  clear hZL ht hpn
  have hmk := HMK.out
  go_enter Tryz.func17, Tryz.ntmps17
  go_upto_block 1 with fail
  rw [← HW2.out]
  obtain ⟨zf, ff⟩ := HA.out.free
  obtain ⟨d0, d1, d2, d3, d4⟩ := vcellsAt HA.out.2.1
  have HX : Hid (BnAt w #[.int .i64 car, .int .i64 num, .int .i64 stp, .string val, .string sl] (W2.alloc (.cells (Array.replicate 31 (.int .u8 0)) 5))) := Lib.hid (HA.out.far ((Below.refl _ _).alloc (Nat.le_refl _) _))
  clear zf ff d0 d1 d2 d3 d4
  obtain ⟨zf, ff⟩ := HX.out.free
  obtain ⟨d0, d1, d2, d3, d4⟩ := vcellsAt HX.out.2.1
  go_upto_region 13 with (first | (go_at_call 54; (with_reducible refine (HP.out _).mono ?_); rintro e w3 ⟨rfl, hw3⟩; replace hw3 := hw3.symm; subst hw3) | (go_at_call 54; (with_reducible refine (HP3.out _).mono ?_); rintro e w3 ⟨rfl, hw3⟩; replace hw3 := hw3.symm; subst hw3) | (refine wpList_convS ZL HZ.out 80 9 5 _ W2.heap.size 0 31 31 rfl rfl rfl HL.out (by kernel_rfl) (by kernel_rfl) (by kernel_rfl) (HC.out _) ?_; rw [HS.out]))
  obtain ⟨WX, hWX⟩ : ∃ WX, WX = W2.alloc (.cells (Array.replicate 31 (.int .u8 0)) 5) := ⟨_, rfl⟩
  rw [← hWX] at HX ⊢
  clear hWX
  have HN : Hid (BnAt w #[.int .i64 car, .int .i64 num, .int .i64 stp, .string (zerosB 31), .string sl] (WX.setCell ⟨w.heap.size, 3, none⟩ (.string (zerosB 31)))) := Lib.hid (HX.out.set 3 (.string (zerosB 31)) rfl)
  generalize WX.setCell ⟨w.heap.size, 3, none⟩ (.string (zerosB 31)) = WY at *
  clear zf ff HX HA d0 d1 d2 d3 d4
  have HEND := Lib.hid (HN.out)
  obtain ⟨zf, ff⟩ := HN.out.free
  obtain ⟨d0, d1, d2, d3, d4⟩ := vcellsAt HN.out.2.1
  obtain ⟨e0, e1, e2, e3, e4⟩ := vcellsAt HN.out.2.2
  go_wp2
  exact bodyPost_ret (results_cell_row rfl _ _ (w.heap.size + 1) 27 #[.int .i64 car, .int .i64 num, .int .i64 stp, .string (zerosB 31), .string sl] (0, 0) _ rfl (vfive_heap HN.out.2.2 _ _ _ _ _) Tryz.underlying27 rfl infoVote) rfl ⟨rfl, vfive_below HN.out.1 (Nat.le_succ _) _ _ _ _ _⟩
set_option maxHeartbeats 2000000 in
set_option maxRecDepth 100000 in
theorem bent51 (car num stp : Int) (val sl : ByteArray) (how n : Int) (hh : I64 how) (hn : I64 n) (hk : pickI how 6 = 5) (ht : pickI n 3 = 1) (w : World) :
    Calls Tryz.prog 17 #[.agg #[.int .i64 car, .int .i64 num, .int .i64 stp, .string val, .string sl], .int .i64 how, .int .i64 n] w fun e w' => e = .returned (.agg #[.int .i64 car, .int .i64 num, .int .i64 stp, .string (zerosB 32), .string sl]) ∧ Below w.heap.size w w' := by
  have HP := Lib.hid (fun W => pickQ_any how 6 W hh (by omega) (by omega))
  rw [hk] at HP
  have HV := Lib.hid (fun W => valN_any n hn W)
  have hpn := pickI_range n (show (0 : Int) < 3 by omega)
  have HP3 := Lib.hid (fun W => pickQ_any n 3 W hn (by omega) (by omega))
  obtain ⟨W2, hW2⟩ : ∃ W2, W2 = (w.alloc (.cells #[.int .i64 car, .int .i64 num, .int .i64 stp, .string val, .string sl] 27)).alloc (.cells #[.int .i64 0, .int .i64 0, .int .i64 0, .string ⟨#[]⟩, .string ⟨#[]⟩] 27) := ⟨_, rfl⟩
  have HA : Hid (BnAt w #[.int .i64 car, .int .i64 num, .int .i64 stp, .string val, .string sl] W2) := Lib.hid (by
    rw [hW2]
    exact ⟨((Below.refl _ _).alloc (Nat.le_refl _) _).alloc (by simp) _, at_past w _ _, at_second w _ _⟩)
  have HW2 := Lib.hid hW2
  clear hW2 hk hh
  have HMK : Hid (∀ W, (Instr.makeSlice 80 (.int .i64 32) (.int .i64 32)).run Tryz.prog W = .ok (.slice (some ⟨W.heap.size, 0, none⟩) 32 32) (W.alloc (.cells (Array.replicate 32 (.int .u8 0)) 5))) := Lib.hid (fun _ => by kernel_rfl)
  rw [ht] at HP3
  have HS := Lib.hid (strOf_zeros 32)
  have HC : Hid (∀ W : World, ∀ j y, (List.replicate 32 0)[j]? = some y → (W.alloc (.cells (Array.replicate 32 (.int .u8 0)) 5)).cell? ⟨W.heap.size, 0 + j, none⟩ = some (.int .u8 (y : Nat))) := Lib.hid (fun W => zeros_cells W 32)
  have HZ : Hid (∀ y ∈ List.replicate 32 0, y < 256) := Lib.hid (fun y hy => by rw [List.eq_of_mem_replicate hy]; omega)
  have HL : Hid (32 = (List.replicate 32 0).length) := Lib.hid (by simp)
  obtain ⟨ZL, hZL⟩ : ∃ ZL, ZL = List.replicate 32 0 := ⟨_, rfl⟩
  rw [← hZL] at HS HC HZ HL
  clear hZL ht hpn
  have hmk := HMK.out
  go_enter Tryz.func17, Tryz.ntmps17
  go_upto_block 1 with fail
  rw [← HW2.out]
  obtain ⟨zf, ff⟩ := HA.out.free
  obtain ⟨d0, d1, d2, d3, d4⟩ := vcellsAt HA.out.2.1
  have HX : Hid (BnAt w #[.int .i64 car, .int .i64 num, .int .i64 stp, .string val, .string sl] (W2.alloc (.cells (Array.replicate 32 (.int .u8 0)) 5))) := Lib.hid (HA.out.far ((Below.refl _ _).alloc (Nat.le_refl _) _))
  clear zf ff d0 d1 d2 d3 d4
  obtain ⟨zf, ff⟩ := HX.out.free
  obtain ⟨d0, d1, d2, d3, d4⟩ := vcellsAt HX.out.2.1
  go_upto_region 13 with (first | (go_at_call 54; (with_reducible refine (HP.out _).mono ?_); rintro e w3 ⟨rfl, hw3⟩; replace hw3 := hw3.symm; subst hw3) | (go_at_call 54; (with_reducible refine (HP3.out _).mono ?_); rintro e w3 ⟨rfl, hw3⟩; replace hw3 := hw3.symm; subst hw3) | (refine wpList_convS ZL HZ.out 80 9 5 _ W2.heap.size 0 32 32 rfl rfl rfl HL.out (by kernel_rfl) (by kernel_rfl) (by kernel_rfl) (HC.out _) ?_; rw [HS.out]))
  obtain ⟨WX, hWX⟩ : ∃ WX, WX = W2.alloc (.cells (Array.replicate 32 (.int .u8 0)) 5) := ⟨_, rfl⟩
  rw [← hWX] at HX ⊢
  clear hWX
  have HN : Hid (BnAt w #[.int .i64 car, .int .i64 num, .int .i64 stp, .string (zerosB 32), .string sl] (WX.setCell ⟨w.heap.size, 3, none⟩ (.string (zerosB 32)))) := Lib.hid (HX.out.set 3 (.string (zerosB 32)) rfl)
  generalize WX.setCell ⟨w.heap.size, 3, none⟩ (.string (zerosB 32)) = WY at *
  clear zf ff HX HA d0 d1 d2 d3 d4
  have HEND := Lib.hid (HN.out)
  obtain ⟨zf, ff⟩ := HN.out.free
  obtain ⟨d0, d1, d2, d3, d4⟩ := vcellsAt HN.out.2.1
  obtain ⟨e0, e1, e2, e3, e4⟩ := vcellsAt HN.out.2.2
  go_wp2
  exact bodyPost_ret (results_cell_row rfl _ _ (w.heap.size + 1) 27 #[.int .i64 car, .int .i64 num, .int .i64 stp, .string (zerosB 32), .string sl] (0, 0) _ rfl (vfive_heap HN.out.2.2 _ _ _ _ _) Tryz.underlying27 rfl infoVote) rfl ⟨rfl, vfive_below HN.out.1 (Nat.le_succ _) _ _ _ _ _⟩
set_option maxHeartbeats 2000000 in
set_option maxRecDepth 100000 in
theorem bent52 (car num stp : Int) (val sl : ByteArray) (how n : Int) (hh : I64 how) (hn : I64 n) (hk : pickI how 6 = 5) (ht : pickI n 3 = 2) (w : World) :
    Calls Tryz.prog 17 #[.agg #[.int .i64 car, .int .i64 num, .int .i64 stp, .string val, .string sl], .int .i64 how, .int .i64 n] w fun e w' => e = .returned (.agg #[.int .i64 car, .int .i64 num, .int .i64 stp, .string (zerosB 33), .string sl]) ∧ Below w.heap.size w w' := by
  have HP := Lib.hid (fun W => pickQ_any how 6 W hh (by omega) (by omega))
  rw [hk] at HP
  have HV := Lib.hid (fun W => valN_any n hn W)
  have hpn := pickI_range n (show (0 : Int) < 3 by omega)
  have HP3 := Lib.hid (fun W => pickQ_any n 3 W hn (by omega) (by omega))
  obtain ⟨W2, hW2⟩ : ∃ W2, W2 = (w.alloc (.cells #[.int .i64 car, .int .i64 num, .int .i64 stp, .string val, .string sl] 27)).alloc (.cells #[.int .i64 0, .int .i64 0, .int .i64 0, .string ⟨#[]⟩, .string ⟨#[]⟩] 27) := ⟨_, rfl⟩
  have HA : Hid (BnAt w #[.int .i64 car, .int .i64 num, .int .i64 stp, .string val, .string sl] W2) := Lib.hid (by
    rw [hW2]
    exact ⟨((Below.refl _ _).alloc (Nat.le_refl _) _).alloc (by simp) _, at_past w _ _, at_second w _ _⟩)
  have HW2 := Lib.hid hW2
  clear hW2 hk hh
  have HMK : Hid (∀ W, (Instr.makeSlice 80 (.int .i64 33) (.int .i64 33)).run Tryz.prog W = .ok (.slice (some ⟨W.heap.size, 0, none⟩) 33 33) (W.alloc (.cells (Array.replicate 33 (.int .u8 0)) 5))) := Lib.hid (fun _ => by kernel_rfl)
  rw [ht] at HP3
  have HS := Lib.hid (strOf_zeros 33)
  have HC : Hid (∀ W : World, ∀ j y, (List.replicate 33 0)[j]? = some y → (W.alloc (.cells (Array.replicate 33 (.int .u8 0)) 5)).cell? ⟨W.heap.size, 0 + j, none⟩ = some (.int .u8 (y : Nat))) := Lib.hid (fun W => zeros_cells W 33)
  have HZ : Hid (∀ y ∈ List.replicate 33 0, y < 256) := Lib.hid (fun y hy => by rw [List.eq_of_mem_replicate hy]; omega)
  have HL : Hid (33 = (List.replicate 33 0).length) := Lib.hid (by simp)
  obtain ⟨ZL, hZL⟩ : ∃ ZL, ZL = List.replicate 33 0 := ⟨_, rfl⟩
  rw [← hZL] at HS HC HZ HL
  clear hZL ht hpn
  have hmk := HMK.out
  go_enter Tryz.func17, Tryz.ntmps17
  go_upto_block 1 with fail
  rw [← HW2.out]
  obtain ⟨zf, ff⟩ := HA.out.free
  obtain ⟨d0, d1, d2, d3, d4⟩ := vcellsAt HA.out.2.1
  have HX : Hid (BnAt w #[.int .i64 car, .int .i64 num, .int .i64 stp, .string val, .string sl] (W2.alloc (.cells (Array.replicate 33 (.int .u8 0)) 5))) := Lib.hid (HA.out.far ((Below.refl _ _).alloc (Nat.le_refl _) _))
  clear zf ff d0 d1 d2 d3 d4
  obtain ⟨zf, ff⟩ := HX.out.free
  obtain ⟨d0, d1, d2, d3, d4⟩ := vcellsAt HX.out.2.1
  go_upto_region 13 with (first | (go_at_call 54; (with_reducible refine (HP.out _).mono ?_); rintro e w3 ⟨rfl, hw3⟩; replace hw3 := hw3.symm; subst hw3) | (go_at_call 54; (with_reducible refine (HP3.out _).mono ?_); rintro e w3 ⟨rfl, hw3⟩; replace hw3 := hw3.symm; subst hw3) | (refine wpList_convS ZL HZ.out 80 9 5 _ W2.heap.size 0 33 33 rfl rfl rfl HL.out (by kernel_rfl) (by kernel_rfl) (by kernel_rfl) (HC.out _) ?_; rw [HS.out]))
  obtain ⟨WX, hWX⟩ : ∃ WX, WX = W2.alloc (.cells (Array.replicate 33 (.int .u8 0)) 5) := ⟨_, rfl⟩
  rw [← hWX] at HX ⊢
  clear hWX
  have HN : Hid (BnAt w #[.int .i64 car, .int .i64 num, .int .i64 stp, .string (zerosB 33), .string sl] (WX.setCell ⟨w.heap.size, 3, none⟩ (.string (zerosB 33)))) := Lib.hid (HX.out.set 3 (.string (zerosB 33)) rfl)
  generalize WX.setCell ⟨w.heap.size, 3, none⟩ (.string (zerosB 33)) = WY at *
  clear zf ff HX HA d0 d1 d2 d3 d4
  have HEND := Lib.hid (HN.out)
  obtain ⟨zf, ff⟩ := HN.out.free
  obtain ⟨d0, d1, d2, d3, d4⟩ := vcellsAt HN.out.2.1
  obtain ⟨e0, e1, e2, e3, e4⟩ := vcellsAt HN.out.2.2
  go_wp2
  exact bodyPost_ret (results_cell_row rfl _ _ (w.heap.size + 1) 27 #[.int .i64 car, .int .i64 num, .int .i64 stp, .string (zerosB 33), .string sl] (0, 0) _ rfl (vfive_heap HN.out.2.2 _ _ _ _ _) Tryz.underlying27 rfl infoVote) rfl ⟨rfl, vfive_below HN.out.1 (Nat.le_succ _) _ _ _ _ _⟩
theorem rbent_any (v : VoteP) (how n : Int) (hh : I64 how) (hn : I64 n) (w : World) :
    Calls Tryz.prog 17 #[vagg v, .int .i64 how, .int .i64 n] w fun e w' => e = .returned (vagg (bentV v how n)) ∧ Below w.heap.size w w' := by
  obtain ⟨car, num, stp, val, sl⟩ := v
  have hp := pickI_range how (show (0 : Int) < 6 by omega)
  have hq := pickI_range n (show (0 : Int) < 3 by omega)
  have h6 : pickI how 6 = 0 ∨ pickI how 6 = 1 ∨ pickI how 6 = 2 ∨ pickI how 6 = 3 ∨ pickI how 6 = 4 ∨ pickI how 6 = 5 := by omega
  have h3 : pickI n 3 = 0 ∨ pickI n 3 = 1 ∨ pickI n 3 = 2 := by omega
  unfold bentV
  rcases h6 with h | h | h | h | h | h
  · rw [if_pos h]; exact bent0 car num stp val sl how n hh hn h w
  · rw [if_neg (by omega), if_pos h]; exact bent1 car num stp val sl how n hh hn h w
  · rw [if_neg (by omega), if_neg (by omega), if_pos h]; exact bent2 car num stp val sl how n hh hn h w
  · rw [if_neg (by omega), if_neg (by omega), if_neg (by omega), if_pos h]; exact bent3 car num stp val sl how n hh hn h w
  · rw [if_neg (by omega), if_neg (by omega), if_neg (by omega), if_neg (by omega), if_pos h]; exact bent4 car num stp val sl how n hh hn h w
  · rw [if_neg (by omega), if_neg (by omega), if_neg (by omega), if_neg (by omega), if_neg (by omega)]
    rcases h3 with h3 | h3 | h3
    · rw [h3]; exact bent50 car num stp val sl how n hh hn h h3 w
    · rw [h3]; exact bent51 car num stp val sl how n hh hn h h3 w
    · rw [h3]; exact bent52 car num stp val sl how n hh hn h h3 w
end Go.Proofs.YtggdcnjaofflbaaGreatDoor

/- Walk of the reference: Pool. The conditions: what the slice reads as, the integers' ranges. -/
namespace Go.Proofs.YtggdcnjaofflbaaGreatDoor
open Go.RowKit Go.BigFrame

def Int4 (q : R4) : Prop := I64 q.l ∧ I64 q.r ∧ I64 q.lo ∧ I64 q.hi
theorem RAt.keepQ {B : Nat} {w w' : World} {b o : Nat} {v : R4} (h : RAt w b o v) (hb : Below B w w') (hlt : b < B) : RAt w' b o v :=
  ⟨cell_keepB hb hlt h.1, cell_keepB hb hlt h.2.1, cell_keepB hb hlt h.2.2.1, cell_keepB hb hlt h.2.2.2⟩
def PlAt (w : World) (v : Value) (l : List VoteP) (W : World) : Prop := Below w.heap.size w W ∧ OwnV W w.heap.size v l
theorem PlAt.far {w : World} {v : Value} {l : List VoteP} {W W' : World} (h : PlAt w v l W) (hb : Below W.heap.size W W') : PlAt w v l W' := ⟨q_next h.1 hb, OwnE.far h.2 hb (Nat.le_refl _)⟩
theorem four_at {W : World} {b : Nat} {c0 c1 c2 c3 : Value} {T : TypeId} (h : W.heap[b]? = some (.cells #[c0, c1, c2, c3] T (0, 0))) : W.cell? ⟨b, 0, none⟩ = some c0 ∧ W.cell? ⟨b, 1, none⟩ = some c1 ∧ W.cell? ⟨b, 2, none⟩ = some c2 ∧ W.cell? ⟨b, 3, none⟩ = some c3 :=
  ⟨cell_of_row W _ 0 _ _ _ h, cell_of_row W _ 1 _ _ _ h, cell_of_row W _ 2 _ _ _ h, cell_of_row W _ 3 _ _ _ h⟩
theorem wrap64_I64 (x : Int) : I64 (wrap64 x) := by
  unfold I64 wrap64
  omega
set_option maxHeartbeats 4000000 in
set_option maxRecDepth 100000 in
theorem pool_own {w : World} {x : Value} {xs : List R4} (hx : RS w x xs) (hi : ∀ q ∈ xs, Int4 q) :
    Calls Tryz.prog 15 #[x] w fun e w' => ∃ v, e = .returned v ∧ OwnV w' w.heap.size v (poolN xs) ∧ Below w.heap.size w w' := by
  obtain ⟨xa, xc, rfl, hxl, hxm, hx3⟩ := hx.opened
  unfold maxLen at hxm
  have HI := Lib.hid hi
  have HX3 := Lib.hid hx3
  have HNX := Lib.hid (fun k (h : xs.length ≤ k ∨ 30 ≤ k) => poolN_done (xs := xs) h)
  obtain ⟨n, hn⟩ : ∃ n, n = xs.length := ⟨_, rfl⟩
  rw [← hn] at HNX ⊢
  rw [← hn] at hxl
  have hn9 : n ≤ 9223372036854775807 := by omega
  have HN := Lib.hid hn
  clear hx hi hx3 hn hxl hxm
  go_enter Tryz.func15, Tryz.ntmps15
  go_wp2
  go_loopw [3, 4] (fun v i wr => ∃ k : Nat, k ≤ 30 ∧ k ≤ n ∧ i = .int .i64 k ∧ Hid (PlAt w v (poolN (xs.take k)) wr)) (fun _ i _ => 30 - (intOf i).toNat)
  case atStart => exact ⟨0, by omega, by omega, rfl, Lib.hid ⟨Below.refl _ _, by rw [List.take_zero]; exact OwnE.nil _ _ _ _⟩⟩
  case round =>
    obtain ⟨k, hk, hkn, rfl, hP⟩ := hrel
    by_cases hlt : k < n ∧ k < 30
    · obtain ⟨hk1, hk2⟩ := hlt
      obtain ⟨y, ey⟩ : ∃ y, xs[k]? = some y := ⟨_, List.getElem?_eq_getElem (by rw [← HN.out]; exact hk1)⟩
      obtain ⟨xb, xo, rfl, hxb, hy⟩ := HX3.out k y ey
      have hI4 := HI.out y (List.mem_of_getElem? ey)
      have HSN := Lib.hid (poolN_snoc ey hk2)
      have hPL : (poolN (xs.take k)).length = k := by unfold poolN; rw [List.length_map, List.length_take, List.length_take, ← HN.out]; omega
      obtain ⟨y0, y1, y2, y3⟩ := y
      obtain ⟨i0, i1, i2, i3⟩ := hI4
      simp only at i0 i1 i2 i3 HSN
      obtain ⟨va, vc, hv⟩ := hP.out.2.form
      rw [hPL] at hv
      subst hv
      obtain ⟨PL, hPLe⟩ : ∃ PL, PL = poolN (xs.take k) := ⟨_, rfl⟩
      rw [← hPLe] at hP HSN hPL
      have HPL := Lib.hid hPL
      obtain ⟨g0, g1, g2, g3⟩ := RAt.keepQ hy hP.out.1 hxb
      have tk : (k : Int) < (n : Int) := by omega
      have tk0 : (0 : Int) ≤ (k : Int) := by omega
      have tk3 : (k : Int) < 30 := by omega
      clear HI HX3 HNX hPLe hPL ey hy
      have hpc := pickI_range y0 (show (0 : Int) < 7 by omega)
      obtain ⟨c, hc⟩ : ∃ c : Nat, pickI y0 7 = (c : Int) := ⟨(pickI y0 7).toNat, by omega⟩
      have HP7 := Lib.hid (fun W => pickQ_any y0 7 W i0 (by omega) (by omega))
      have HPD := Lib.hid (fun W => pickQ_any y3 16 W i3 (by omega) (by omega))
      have HAT := Lib.hid (fun W => at_any y1 i1 W)
      have HVL := Lib.hid (fun W => valN_any y2 i2 W)
      have HV1 := Lib.hid (fun W => valN_any (wrap64 (y2 + 1)) (wrap64_I64 _) W)
      have HKY := Lib.hid (fun W => keyQ_any c (by omega) W)
      have hnr := atNum_range y1
      have hsr := atStp_range y1
      have hvs := valN_size y2
      rw [hc] at HP7 hpc
      have HBV : Hid (baseV y0 y1 y2 = ⟨(c : Int), atNum y1, atStp y1, valN y2, sealV (keyQ c) ⟨(c : Int), atNum y1, atStp y1, valN y2, ⟨#[]⟩⟩⟩) := Lib.hid (by unfold baseV; rw [hc, Int.toNat_natCast])
      have HBP : Hid (poolV y0 y1 y2 y3 = if pickI y3 16 = 14 then { baseV y0 y1 y2 with val := valN (wrap64 (y2 + 1)) } else if pickI y3 16 = 15 then { baseV y0 y1 y2 with car := ((c : Int) + 1) % 8 } else baseV y0 y1 y2) := Lib.hid (by unfold poolV; rw [hc])
      have hkey := keyQ_size c
      generalize atNum y1 = num at *
      generalize atStp y1 = stp at *
      generalize valN y2 = val at *
      generalize valN (wrap64 (y2 + 1)) = val1 at *
      generalize keyQ c = key at *
      generalize poolV y0 y1 y2 y3 = PV at *
      generalize baseV y0 y1 y2 = BV at *
      have HCT := Lib.hid (fun W => rcontent_any ⟨(c : Int), num, stp, val, ⟨#[]⟩⟩ ⟨⟨by show (0 : Int) ≤ c; omega, by show (c : Int) ≤ 7; omega⟩, ⟨by show 0 ≤ num; omega, by show num ≤ 99999999; omega⟩, ⟨by show 0 ≤ stp; omega, by show stp ≤ 1000; omega⟩, hvs⟩ W)
      have hcl : (voteC ⟨(c : Int), num, stp, val, ⟨#[]⟩⟩).size ≤ 48 := voteC_le hvs
      obtain ⟨SL, hSL⟩ : ∃ SL, SL = sealV key ⟨(c : Int), num, stp, val, ⟨#[]⟩⟩ := ⟨_, rfl⟩
      rw [← hSL] at HBV
      have hSL2 : SL = nodeS key (leafS (voteC ⟨(c : Int), num, stp, val, ⟨#[]⟩⟩)) := hSL
      generalize voteC ⟨(c : Int), num, stp, val, ⟨#[]⟩⟩ = CT at *
      have HSE := Lib.hid (fun W => rseal_any key CT (by omega) (by omega) W)
      rw [← hSL2] at HSE
      clear hSL hSL2 hkey hcl hnr hsr hvs hc i0 i1 i2 i3
      go_upto_region 6 with fail
      obtain ⟨W5, hW5⟩ : ∃ W5, W5 = wr.alloc (.cells #[.int .i64 y0, .int .i64 y1, .int .i64 y2, .int .i64 y3] 103) := ⟨_, rfl⟩
      rw [← hW5]
      have HB5 : Hid (Below wr.heap.size wr W5) := Lib.hid (by rw [hW5]; exact (Below.refl _ _).alloc (Nat.le_refl _) _)
      have HY5 : Hid (W5.heap[wr.heap.size]? = some (.cells #[.int .i64 y0, .int .i64 y1, .int .i64 y2, .int .i64 y3] 103 (0, 0))) := Lib.hid (by rw [hW5]; exact heap_alloc_new wr _)
      obtain ⟨b5, hb5⟩ : ∃ b5, b5 = wr.heap.size := ⟨_, rfl⟩
      rw [← hb5] at HY5 ⊢
      have HY : Hid (∀ W, Below W5.heap.size W5 W → W.cell? ⟨b5, 0, none⟩ = some (.int .i64 y0) ∧ W.cell? ⟨b5, 1, none⟩ = some (.int .i64 y1) ∧ W.cell? ⟨b5, 2, none⟩ = some (.int .i64 y2) ∧ W.cell? ⟨b5, 3, none⟩ = some (.int .i64 y3)) := Lib.hid (fun W hW => by
        have h := (hW.block b5 (Array.getElem?_eq_some_iff.1 HY5.out).1).trans HY5.out
        exact ⟨cell_of_row W _ 0 _ _ _ h, cell_of_row W _ 1 _ _ _ h, cell_of_row W _ 2 _ _ _ h, cell_of_row W _ 3 _ _ _ h⟩)
      clear hW5 hb5 g0 g1 g2 g3
      refine wp_region_noPanic ?_
      refine wp_region_lexB [.q 0, .q 1, .q 3, .q 4, .q 6, .q 7, .an 10, .b 2, .b 5, .b 8, .q 9, .co 10, .l 11] (by kernel_rfl) (by kernel_rfl) (fun _ _ _ _ h => h) ?_
      iterate 6 (refine wpFl_qL (v := ?_) rfl (Or.inl ⟨by rfl, ?_⟩) ?_; rotate_left; (focus (intro w' hSw; (try dsimp only [OldKept] at hSw); obtain ⟨y0, y1, y2, y3⟩ := HY.out w' hSw; go_simp; (try with_reducible rfl); done)); simp only [Act.put, List.setIfInBounds_toArray, List.set_cons_zero, List.set_cons_succ])
      refine wpFl_anL rfl (.cells #[.int .i64 0, .int .i64 0, .int .i64 0, .string ⟨#[]⟩, .string ⟨#[]⟩] 27 (0, 0)) (fun n => .pointer (some ⟨n, 0, none⟩)) ⟨by rfl, fun w' => ?_⟩ ?_
      focus (go_simp; done)
      refine wpFl_bL rfl (fun waa hnaa hsaa K hK => ?_)
      go_simp
      go_at_call 54
      (with_reducible refine (HP7.out _).mono ?_)
      rintro e w' ⟨rfl, hw'⟩
      replace hw' := hw'.symm
      subst hw'
      refine hK.out _ _ hsaa (Keeps.below (Below.refl _ _)) ?_
      clear hK K hnaa hsaa
      refine wpFl_bL rfl (fun wab hnab hsab K hK => ?_)
      go_simp
      go_at_call 13
      (with_reducible refine (HAT.out _).mono ?_)
      rintro e wbb ⟨rfl, hbb⟩
      refine hK.out _ _ (q_next hsab hbb) (Keeps.below hbb) ?_
      clear hK K hnab hsab hbb
      refine wpFl_bL rfl (fun wac hnac hsac K hK => ?_)
      go_simp
      go_at_call 14
      (with_reducible refine (HVL.out _).mono ?_)
      rintro e wbc ⟨rfl, hbc⟩
      refine hK.out _ _ (q_next hsac hbc) (Keeps.below hbc) ?_
      clear hK K hnac hsac hbc
      refine wpFl_qL (v := ?_) rfl (Or.inl ⟨by rfl, ?_⟩) ?_
      rotate_left
      focus (intro w' hSw; (try dsimp only [OldKept] at hSw); go_simp; (try with_reducible rfl); done)
      simp only [Act.put, List.setIfInBounds_toArray, List.set_cons_zero, List.set_cons_succ]
      refine wpFl_coL rfl (.cells #[.int .i64 0, .int .i64 0, .int .i64 0, .string ⟨#[]⟩, .string ⟨#[]⟩] 27 (0, 0)) (fun n => .pointer (some ⟨n, 0, none⟩)) (by rfl) (N' := []) (by rfl) (fun bv w6 hn_w6 hs_w6 hb_bv hz_bv => ?_)
      simp only [Act.put, List.setIfInBounds_toArray, List.set_cons_zero, List.set_cons_succ]
      refine wpFl_lL rfl (fun w7 hn_w7 hs_w7 K hK => ?_)
      have HZ := Lib.hid ((hn_w7.block bv (Array.getElem?_eq_some_iff.1 hz_bv).1).trans hz_bv)
      obtain ⟨z0, z1, z2, z3, z4⟩ := vcellsAt HZ.out
      have zf : ∀ j, w7.frozen? ⟨bv, j, none⟩ = false := fun j => by unfold World.frozen?; rw [HZ.out]; simp
      go_simp
      refine hK.out _ _ (NoPanic.normal ?_)
      clear hK K
      have HV8 := Lib.hid (vfive_heap HZ.out (.int .i64 c) (.int .i64 num) (.int .i64 stp) (.string val) (.string ⟨#[]⟩))
      have HB8 := Lib.hid (vfive_below hs_w7 hb_bv (.int .i64 c) (.int .i64 num) (.int .i64 stp) (.string val) (.string ⟨#[]⟩))
      generalize (((((w7.setCell ⟨bv, 0, none⟩ (.int .i64 c)).setCell ⟨bv, 1, none⟩ (.int .i64 num)).setCell ⟨bv, 2, none⟩ (.int .i64 stp)).setCell ⟨bv, 3, none⟩ (.string val)).setCell ⟨bv, 4, none⟩ (.string ⟨#[]⟩)) = w8 at *
      clear z0 z1 z2 z3 z4 zf HZ hn_w7 hs_w7 hz_bv hn_w6 hs_w6
      have HVC : Hid (∀ W, Below w8.heap.size w8 W → _) := Lib.hid (fun W (hW : Below w8.heap.size w8 W) => And.intro (HY.out W (q_next HB8.out hW)) (vcellsAt ((hW.block _ (Array.getElem?_eq_some_iff.1 HV8.out).1).trans HV8.out)))
      go_upto_region 7 with fail
      refine wp_region_noPanic ?_
      refine wp_region_lexB [.q 0, .q 1, .q 3, .b 2, .b 4, .b 5, .q 6, .l 7] (by kernel_rfl) (by kernel_rfl) (fun _ _ _ _ h => h) ?_
      iterate 3 (refine wpFl_qL (v := ?_) rfl (Or.inl ⟨by rfl, ?_⟩) ?_; rotate_left; (focus (intro w' hSw; (try dsimp only [OldKept] at hSw); obtain ⟨-, v0, v1, v2, v3, v4⟩ := HVC.out w' hSw; go_simp; (try with_reducible rfl); done)); simp only [Act.put, List.setIfInBounds_toArray, List.set_cons_zero, List.set_cons_succ])
      refine wpFl_bL rfl (fun wad hnad hsad K hK => ?_)
      go_simp
      go_at_call 25
      (with_reducible refine (HKY.out _).mono ?_)
      rintro e wbd ⟨rfl, hbd⟩
      refine hK.out _ _ (q_next hsad hbd) (Keeps.below hbd) ?_
      clear hK K hnad hsad hbd
      refine wpFl_bL rfl (fun wae hnae hsae K hK => ?_)
      go_simp
      go_at_call 40
      (with_reducible refine (HCT.out _).mono ?_)
      rintro e wbe ⟨rfl, hbe⟩
      refine hK.out _ _ (q_next hsae hbe) (Keeps.below hbe) ?_
      clear hK K hnae hsae hbe
      refine wpFl_bL rfl (fun waf hnaf hsaf K hK => ?_)
      go_simp
      go_at_call 56
      (with_reducible refine (HSE.out _).mono ?_)
      rintro e wbf ⟨rfl, hbf⟩
      refine hK.out _ _ (q_next hsaf hbf) (Keeps.below hbf) ?_
      clear hK K hnaf hsaf hbf
      refine wpFl_qL (v := ?_) rfl (Or.inl ⟨by rfl, ?_⟩) ?_
      rotate_left
      focus (intro w' hSw; (try dsimp only [OldKept] at hSw); go_simp; (try with_reducible rfl); done)
      simp only [Act.put, List.setIfInBounds_toArray, List.set_cons_zero, List.set_cons_succ]
      refine wpFl_lL rfl (fun w9 hn_w9 hs_w9 K hK => ?_)
      obtain ⟨-, v0, v1, v2, v3, v4⟩ := HVC.out w9 hs_w9
      have HZ := Lib.hid ((hs_w9.block bv (Array.getElem?_eq_some_iff.1 HV8.out).1).trans HV8.out)
      have zf : ∀ j, w9.frozen? ⟨bv, j, none⟩ = false := fun j => by unfold World.frozen?; rw [HZ.out]; simp
      go_simp
      refine hK.out _ _ (NoPanic.normal ?_)
      clear hK K
      have HV10 := Lib.hid (heap_setCell_same (i := 4) (.string SL) HZ.out)
      have HB10 : Hid (Below wr.heap.size wr (w9.setCell ⟨bv, 4, none⟩ (.string SL))) := Lib.hid (((q_next HB5.out (q_next HB8.out hs_w9))).setCell (p := ⟨bv, 4, none⟩) (by have := HB5.out.size; show wr.heap.size ≤ bv; omega) _)
      have HY10 : Hid ((w9.setCell ⟨bv, 4, none⟩ (.string SL)).heap[b5]? = _) := Lib.hid ((Below.heap_setCell _ _ _ _ (by have := (Array.getElem?_eq_some_iff.1 HY5.out).1; show b5 ≠ bv; omega)).trans ((hs_w9.block b5 (by have := HB8.out.size; have := (Array.getElem?_eq_some_iff.1 HY5.out).1; omega)).trans ((HB8.out.block b5 (Array.getElem?_eq_some_iff.1 HY5.out).1).trans HY5.out)))
      have hb5v : b5 < bv := by have := (Array.getElem?_eq_some_iff.1 HY5.out).1; omega
      have hwbv : wr.heap.size ≤ bv := by have := HB5.out.size; omega
      generalize w9.setCell ⟨bv, 4, none⟩ (.string SL) = w10 at *
      clear v0 v1 v2 v3 v4 zf HZ hn_w9 hs_w9 HVC HV8 HB8 HY HY5 HB5 hb_bv
      obtain ⟨y0', y1', y2', y3'⟩ := four_at HY10.out
      obtain ⟨v0, v1, v2, v3, v4⟩ := vcellsAt HV10.out
      have zf : ∀ j, w10.frozen? ⟨bv, j, none⟩ = false := fun j => by unfold World.frozen?; rw [HV10.out]; simp
      have hpd := pickI_range y3 (show (0 : Int) < 16 by omega)
      obtain ⟨d, hd⟩ : ∃ d : Nat, pickI y3 16 = (d : Int) := ⟨(pickI y3 16).toNat, by omega⟩
      rw [hd] at HPD HBP
      clear hd hpd
      have hP14 : d = 14 ∨ d = 15 ∨ (d ≠ 14 ∧ d ≠ 15) := by omega
      rcases hP14 with h14 | h15 | ⟨h14, h15⟩
      · subst h14
        have HPX : Hid (PV = ⟨(c : Int), num, stp, val1, SL⟩) := Lib.hid (by rw [HBP.out, if_pos (show ((14 : Nat) : Int) = 14 from rfl), HBV.out])
        go_upto_region 13 with (first | (go_at_call 54; (with_reducible refine (HPD.out _).mono ?_); rintro e w' ⟨rfl, hw'⟩; replace hw' := hw'.symm; subst hw') | (go_at_call 14; (with_reducible refine (HV1.out _).mono ?_); rintro e w11 ⟨rfl, hb11⟩; clear v0 v1 v2 v3 v4 zf y0' y1' y2' y3'; have HV11 := Lib.hid ((hb11.block _ (Array.getElem?_eq_some_iff.1 HV10.out).1).trans HV10.out); obtain ⟨v0, v1, v2, v3, v4⟩ := vcellsAt HV11.out; have zf : ∀ j, w11.frozen? ⟨bv, j, none⟩ = false := (fun j => by unfold World.frozen?; rw [HV11.out]; simp)))
        obtain ⟨wx, hwx⟩ : ∃ wx, wx = w11.setCell ⟨bv, 3, none⟩ (.string val1) := ⟨_, rfl⟩
        have HVx : Hid (wx.heap[bv]? = some (.cells #[.int .i64 c, .int .i64 num, .int .i64 stp, .string val1, .string SL] 27 (0, 0))) := Lib.hid (by rw [hwx]; exact heap_setCell_same (i := 3) (.string val1) HV11.out)
        have HBx : Hid (Below wr.heap.size wr wx) := Lib.hid (by rw [hwx]; exact ((HB10.out.trans (hb11.mono HB10.out.size))).setCell (p := ⟨bv, 3, none⟩) (by show wr.heap.size ≤ bv; omega) _)
        rw [← hwx]
        clear hwx
        try clear v0 v1 v2 v3 v4 zf
        try clear y0' y1' y2' y3'
        obtain ⟨v0, v1, v2, v3, v4⟩ := vcellsAt HVx.out
        have HOx := Lib.hid (hP.out.far HBx.out)
        have HOA : Hid (OwnV (wx.alloc (.cells #[.int .i64 c, .int .i64 num, .int .i64 stp, .string val1, .string SL] 27)) w.heap.size (.slice va k vc) PL) := Lib.hid (OwnE.alloc HOx.out.2 _)
        have HNA := Lib.hid (heap_alloc_new wx (.cells #[.int .i64 c, .int .i64 num, .int .i64 stp, .string val1, .string SL] 27))
        have HBA := Lib.hid (HOx.out.1.alloc HOx.out.1.size (.cells #[.int .i64 c, .int .i64 num, .int .i64 stp, .string val1, .string SL] 27))
        have hl6 : Hid (PL.length ≤ 1000000) := Lib.hid (by rw [HPL.out]; omega)
        go_wp2_with (at_builtin; refine wpList_append_vote _ _ w.heap.size _ PL ⟨(c : Int), num, stp, val1, SL⟩ wx.heap.size _ HOA.out hl6.out HBA.out.size HNA.out rfl rfl rfl rfl ?_; intro v7 w12 hown7 hgr7; have HO7 := Lib.hid hown7; have HB7 := Lib.hid (HBA.out.grown hgr7 HBA.out.size (fun j e => OwnE.ge HOA.out j e)); clear hown7 hgr7)
        go_roundw
        case rel => exact ⟨k + 1, by omega, by omega, by go_num, Lib.hid (by rw [HSN.out, HPX.out]; exact ⟨HB7.out, HO7.out⟩)⟩
        case measure => simp [intOf]; omega
      · subst h15
        have HPX : Hid (PV = ⟨((c : Int) + 1) % 8, num, stp, val, SL⟩) := Lib.hid (by rw [HBP.out, if_neg (show ¬ ((15 : Nat) : Int) = 14 by decide), if_pos (show ((15 : Nat) : Int) = 15 from rfl), HBV.out])
        go_upto_region 13 with (go_at_call 54; (with_reducible refine (HPD.out _).mono ?_); rintro e w' ⟨rfl, hw'⟩; replace hw' := hw'.symm; subst hw')
        obtain ⟨wx, hwx⟩ : ∃ wx, wx = w10.setCell ⟨bv, 0, none⟩ (.int .i64 (((c : Int) + 1) % 8)) := ⟨_, rfl⟩
        have HVx : Hid (wx.heap[bv]? = some (.cells #[.int .i64 (((c : Int) + 1) % 8), .int .i64 num, .int .i64 stp, .string val, .string SL] 27 (0, 0))) := Lib.hid (by rw [hwx]; exact heap_setCell_same (i := 0) (.int .i64 (((c : Int) + 1) % 8)) HV10.out)
        have HBx : Hid (Below wr.heap.size wr wx) := Lib.hid (by rw [hwx]; exact HB10.out.setCell (p := ⟨bv, 0, none⟩) (by show wr.heap.size ≤ bv; omega) _)
        rw [← hwx]
        clear hwx
        try clear v0 v1 v2 v3 v4 zf
        try clear y0' y1' y2' y3'
        obtain ⟨v0, v1, v2, v3, v4⟩ := vcellsAt HVx.out
        have HOx := Lib.hid (hP.out.far HBx.out)
        have HOA : Hid (OwnV (wx.alloc (.cells #[.int .i64 (((c : Int) + 1) % 8), .int .i64 num, .int .i64 stp, .string val, .string SL] 27)) w.heap.size (.slice va k vc) PL) := Lib.hid (OwnE.alloc HOx.out.2 _)
        have HNA := Lib.hid (heap_alloc_new wx (.cells #[.int .i64 (((c : Int) + 1) % 8), .int .i64 num, .int .i64 stp, .string val, .string SL] 27))
        have HBA := Lib.hid (HOx.out.1.alloc HOx.out.1.size (.cells #[.int .i64 (((c : Int) + 1) % 8), .int .i64 num, .int .i64 stp, .string val, .string SL] 27))
        have hl6 : Hid (PL.length ≤ 1000000) := Lib.hid (by rw [HPL.out]; omega)
        go_wp2_with (at_builtin; refine wpList_append_vote _ _ w.heap.size _ PL ⟨(((c : Int) + 1) % 8 : Int), num, stp, val, SL⟩ wx.heap.size _ HOA.out hl6.out HBA.out.size HNA.out rfl rfl rfl rfl ?_; intro v7 w12 hown7 hgr7; have HO7 := Lib.hid hown7; have HB7 := Lib.hid (HBA.out.grown hgr7 HBA.out.size (fun j e => OwnE.ge HOA.out j e)); clear hown7 hgr7)
        go_roundw
        case rel => exact ⟨k + 1, by omega, by omega, by go_num, Lib.hid (by rw [HSN.out, HPX.out]; exact ⟨HB7.out, HO7.out⟩)⟩
        case measure => simp [intOf]; omega
      · have t14 : ¬ (d : Int) = 14 := by omega
        have t15 : ¬ (d : Int) = 15 := by omega
        have HPX : Hid (PV = ⟨(c : Int), num, stp, val, SL⟩) := Lib.hid (by rw [HBP.out, if_neg t14, if_neg t15, HBV.out])
        go_upto_region 13 with (go_at_call 54; (with_reducible refine (HPD.out _).mono ?_); rintro e w' ⟨rfl, hw'⟩; replace hw' := hw'.symm; subst hw')
        obtain ⟨wx, hwx⟩ : ∃ wx, wx = w10 := ⟨_, rfl⟩
        have HVx : Hid (wx.heap[bv]? = some (.cells #[.int .i64 c, .int .i64 num, .int .i64 stp, .string val, .string SL] 27 (0, 0))) := Lib.hid (by rw [hwx]; exact HV10.out)
        have HBx : Hid (Below wr.heap.size wr wx) := Lib.hid (by rw [hwx]; exact HB10.out)
        rw [← hwx]
        clear hwx
        try clear v0 v1 v2 v3 v4 zf
        try clear y0' y1' y2' y3'
        obtain ⟨v0, v1, v2, v3, v4⟩ := vcellsAt HVx.out
        have HOx := Lib.hid (hP.out.far HBx.out)
        have HOA : Hid (OwnV (wx.alloc (.cells #[.int .i64 c, .int .i64 num, .int .i64 stp, .string val, .string SL] 27)) w.heap.size (.slice va k vc) PL) := Lib.hid (OwnE.alloc HOx.out.2 _)
        have HNA := Lib.hid (heap_alloc_new wx (.cells #[.int .i64 c, .int .i64 num, .int .i64 stp, .string val, .string SL] 27))
        have HBA := Lib.hid (HOx.out.1.alloc HOx.out.1.size (.cells #[.int .i64 c, .int .i64 num, .int .i64 stp, .string val, .string SL] 27))
        have hl6 : Hid (PL.length ≤ 1000000) := Lib.hid (by rw [HPL.out]; omega)
        go_wp2_with (at_builtin; refine wpList_append_vote _ _ w.heap.size _ PL ⟨(c : Int), num, stp, val, SL⟩ wx.heap.size _ HOA.out hl6.out HBA.out.size HNA.out rfl rfl rfl rfl ?_; intro v7 w12 hown7 hgr7; have HO7 := Lib.hid hown7; have HB7 := Lib.hid (HBA.out.grown hgr7 HBA.out.size (fun j e => OwnE.ge HOA.out j e)); clear hown7 hgr7)
        go_roundw
        case rel => exact ⟨k + 1, by omega, by omega, by go_num, Lib.hid (by rw [HSN.out, HPX.out]; exact ⟨HB7.out, HO7.out⟩)⟩
        case measure => simp [intOf]; omega
    · have HF : Hid (poolN (xs.take k) = poolN xs) := Lib.hid (HNX.out k (by omega))
      rw [HF.out] at hP
      clear HF HNX HI HX3
      have HR := Lib.hid hP.out.2
      have hlt2 : ¬ (k < n ∧ k < 30) := hlt
      by_cases hkn2 : k < n
      · have tk : (k : Int) < (n : Int) := by omega
        have tk3 : ¬ (k : Int) < 30 := by omega
        go_wp2
        go_ret
        exact ⟨_, rfl, HR.out, hP.out.1⟩
      · have tk : ¬ (k : Int) < (n : Int) := by omega
        go_wp2
        go_ret
        exact ⟨_, rfl, HR.out, hP.out.1⟩
theorem pool_any {w : World} {x : Value} {xs : List R4} (hx : RS w x xs) (hi : ∀ q ∈ xs, Int4 q) :
    Calls Tryz.prog 15 #[x] w fun e w' => ∃ v, e = .returned v ∧ VS w' v (poolN xs) ∧ Below w.heap.size w w' :=
  (pool_own hx hi).mono fun _ _ ⟨v, h1, h2, h3⟩ => ⟨v, h1, h2.vs, h3⟩
end Go.Proofs.YtggdcnjaofflbaaGreatDoor

/- Walk of the law: faults. The condition: the committee's size. -/
namespace Go.Proofs.YtggdcnjaofflbaaGreatDoor
open Go.RowKit Go.BigFrame
theorem faults1 (ka : Option Addr) (kc : Nat) (w : World) : Calls Tryz.prog 36 #[.agg #[.slice ka 1 kc]] w fun e w' => e = .returned (.int .i64 0) ∧ Below w.heap.size w w' := by
  obtain ⟨W1, hW1⟩ : ∃ W1, W1 = w.alloc (.cells #[.slice ka 1 kc] 31) := ⟨_, rfl⟩
  have HB1 : Hid (Below w.heap.size w W1) := Lib.hid (by rw [hW1]; exact (Below.refl _ _).alloc (Nat.le_refl _) _)
  have c0 : W1.cell? ⟨w.heap.size, 0, none⟩ = some (.slice ka 1 kc) := cell_of_row W1 _ 0 _ _ _ (by rw [hW1]; exact heap_alloc_new w _)
  have HW1 := Lib.hid hW1
  clear hW1
  go_enter Tryz.func36, Tryz.ntmps36
  go_upto_region 1 with fail
  rw [← HW1.out]
  go_wp2
  go_ret
  exact ⟨rfl, HB1.out⟩
theorem faults4 (ka : Option Addr) (kc : Nat) (w : World) : Calls Tryz.prog 36 #[.agg #[.slice ka 4 kc]] w fun e w' => e = .returned (.int .i64 1) ∧ Below w.heap.size w w' := by
  obtain ⟨W1, hW1⟩ : ∃ W1, W1 = w.alloc (.cells #[.slice ka 4 kc] 31) := ⟨_, rfl⟩
  have HB1 : Hid (Below w.heap.size w W1) := Lib.hid (by rw [hW1]; exact (Below.refl _ _).alloc (Nat.le_refl _) _)
  have c0 : W1.cell? ⟨w.heap.size, 0, none⟩ = some (.slice ka 4 kc) := cell_of_row W1 _ 0 _ _ _ (by rw [hW1]; exact heap_alloc_new w _)
  have HW1 := Lib.hid hW1
  clear hW1
  go_enter Tryz.func36, Tryz.ntmps36
  go_upto_region 1 with fail
  rw [← HW1.out]
  go_wp2
  go_ret
  exact ⟨rfl, HB1.out⟩
theorem faults7 (ka : Option Addr) (kc : Nat) (w : World) : Calls Tryz.prog 36 #[.agg #[.slice ka 7 kc]] w fun e w' => e = .returned (.int .i64 2) ∧ Below w.heap.size w w' := by
  obtain ⟨W1, hW1⟩ : ∃ W1, W1 = w.alloc (.cells #[.slice ka 7 kc] 31) := ⟨_, rfl⟩
  have HB1 : Hid (Below w.heap.size w W1) := Lib.hid (by rw [hW1]; exact (Below.refl _ _).alloc (Nat.le_refl _) _)
  have c0 : W1.cell? ⟨w.heap.size, 0, none⟩ = some (.slice ka 7 kc) := cell_of_row W1 _ 0 _ _ _ (by rw [hW1]; exact heap_alloc_new w _)
  have HW1 := Lib.hid hW1
  clear hW1
  go_enter Tryz.func36, Tryz.ntmps36
  go_upto_region 1 with fail
  rw [← HW1.out]
  go_wp2
  go_ret
  exact ⟨rfl, HB1.out⟩
theorem faults_any {n : Nat} (hn : n = 1 ∨ n = 4 ∨ n = 7) (ka : Option Addr) (kc : Nat) (w : World) : Calls Tryz.prog 36 #[.agg #[.slice ka n kc]] w fun e w' => e = .returned (.int .i64 (((n - 1) / 3 : Nat) : Int)) ∧ Below w.heap.size w w' := by
  rcases hn with rfl | rfl | rfl
  · exact faults1 ka kc w
  · exact faults4 ka kc w
  · exact faults7 ka kc w
end Go.Proofs.YtggdcnjaofflbaaGreatDoor

/- The laws of the quorum in the form in which the walks end: QuorumSuffices, QuorumGrows. No condition. -/
namespace Go.Proofs.YtggdcnjaofflbaaGreatDoor

theorem castL_mk {n i : Nat} (hi : i < n) (hn : n ≤ 7) {num stp : Int} (h1 : 0 ≤ num ∧ num ≤ 99999999) (h2 : 0 ≤ stp ∧ stp ≤ 1000) {val : ByteArray} (hv : val.size = 32) : castL i num stp val = mkV (madeQ n) num stp val i := by
  have e : (madeQ n).getD i ⟨#[]⟩ = keyQ i := madeQ_get hi
  unfold castL
  rw [castV_yes (key := keyQ i) (car := (i : Int)) (num := num) (stp := stp) (val := val) (hist := []) (decide_eq_true ⟨⟨by show (0 : Int) ≤ (i : Int); omega, by show (i : Int) ≤ 7; omega⟩, h1, h2, hv, keyQ_size i⟩) rfl]
  unfold mkV
  rw [e]
  rfl
def honL (p n e : Nat) : List Nat := (List.range e).map fun j => (p + j) % n
theorem honL_len (p n e : Nat) : (honL p n e).length = e := by unfold honL; rw [List.length_map, List.length_range]
theorem honL_lt {p n e : Nat} (hn : 0 < n) : ∀ i ∈ honL p n e, i < n := by
  intro i hi
  obtain ⟨j, _, rfl⟩ := List.mem_map.1 hi
  exact Nat.mod_lt _ hn
theorem mod_apart {p n a b : Nat} (hb : b < n) (hab : a < b) : (p + a) % n ≠ (p + b) % n := by
  intro e
  have h1 := Nat.div_add_mod (p + a) n
  have h2 := Nat.div_add_mod (p + b) n
  rw [e] at h1
  generalize (p + b) % n = r at *
  generalize (p + a) / n = x at *
  generalize (p + b) / n = y at *
  rcases Nat.lt_or_ge x y with h | h
  · have : n * (x + 1) ≤ n * y := Nat.mul_le_mul_left n h
    rw [Nat.mul_add] at this
    omega
  · have : n * y ≤ n * x := Nat.mul_le_mul_left n h
    omega
theorem honL_nodup {p n e : Nat} (he : e ≤ n) : (honL p n e).Nodup := by
  unfold honL
  rw [List.nodup_iff_pairwise_ne, List.pairwise_map]
  have h := List.pairwise_lt_range (n := e)
  refine List.Pairwise.imp_of_mem ?_ h
  intro a b ha hb hab
  have := List.mem_range.1 hb
  exact mod_apart (by omega) hab
def leftIn (H : List Nat) (num stp : Int) (v : VoteP) : Bool := !(decide (v.car.toNat ∈ H)) || !decide (v.num = num ∧ v.stp = stp)
theorem suffices_made {n p : Nat} (hm : n = 1 ∨ n = 4 ∨ n = 7) {num stp : Int} (h1 : 0 ≤ num ∧ num ≤ 99999999) (h2 : 0 ≤ stp ∧ stp ≤ 1000) {u : ByteArray} (hu : u.size = 32) {others : List VoteP} (ho : others.length ≤ 30) (pool : List VoteP)
    (hp : pool = (honL p n (enoughC (madeQ n))).map (castL · num stp u) ++ others.filter (leftIn (honL p n (enoughC (madeQ n))) num stp)) :
    (∃ l, proveV (madeQ n) num stp u pool = some l ∧ checkV (madeQ n) num stp u l = true) ∧ decidedV (madeQ n) num stp pool = some u := by
  have hv := madeQ_valid hm
  have hl := madeQ_len n
  have h7 := valid_le hv
  obtain ⟨_, hel⟩ := enough_len hv
  rw [hl] at hel h7
  have hlt := honL_lt (p := p) (n := n) (e := enoughC (madeQ n)) (by omega)
  have hmk : (honL p n (enoughC (madeQ n))).map (castL · num stp u) = (honL p n (enoughC (madeQ n))).map (mkV (madeQ n) num stp u) := List.map_congr_left fun i hi => castL_mk (hlt i hi) h7 h1 h2 hu
  rw [hmk] at hp
  have hip : isPool (madeQ n) pool = true := pool_is hv (by
    rw [hp, List.length_append, List.length_map, honL_len]
    have := List.length_filter_le (leftIn (honL p n (enoughC (madeQ n))) num stp) others
    omega)
  have hs := suffices_law (u := u) hip (honL_nodup (p := p) hel) (fun i hi => by rw [hl]; exact hlt i hi) (by rw [honL_len]; exact Nat.le_refl _) (num := num) (stp := stp) (fun i hi => who_mem.2 ⟨by rw [hl]; exact hlt i hi, mkV (madeQ n) num stp u i, by
      rw [hp]
      exact List.mem_append_left _ (List.mem_map.2 ⟨i, hi, rfl⟩), genV_mk hv h1 h2 hu (by rw [hl]; exact hlt i hi), rfl⟩) (fun v hv' hg e1 e2 hc => by
      rw [hp] at hv'
      rcases List.mem_append.1 hv' with h | h
      · obtain ⟨i, _, rfl⟩ := List.mem_map.1 h
        rfl
      · have := (List.mem_filter.1 h).2
        unfold leftIn at this
        rw [decide_eq_true hc, decide_eq_true (And.intro e1 e2)] at this
        cases this)
  refine ⟨?_, hs.2⟩
  cases hpr : proveV (madeQ n) num stp u pool with
  | none => rw [hpr] at hs; cases hs.1
  | some l => exact ⟨l, rfl, prove_check hpr⟩

/-! ### QuorumGrows -/
theorem prove_same {ks : List ByteArray} {num stp : Int} {val : ByteArray} {pool more : List VoteP} (h : ∀ v, v ∈ pool ↔ v ∈ more) (hl : isPool ks pool = isPool ks more) : proveV ks num stp val pool = proveV ks num stp val more := by
  unfold proveV
  rw [who_same h, hl]
theorem prove_mono {ks : List ByteArray} {num stp : Int} {val : ByteArray} {pool more : List VoteP} (h : ∀ v ∈ pool, v ∈ more) (hm : isPool ks more = true) (hp : (proveV ks num stp val pool).isSome = true) : (proveV ks num stp val more).isSome = true := by
  unfold proveV at *
  split at hp
  · rename_i hc
    have := who_len_mono (ks := ks) (num := num) (stp := stp) (val := val) h
    rw [if_pos ⟨hm, by omega⟩]
    rfl
  · cases hp
theorem twice_same (l : List VoteP) : ∀ v, v ∈ l ↔ v ∈ l.reverse ++ l := by
  intro v
  rw [List.mem_append, List.mem_reverse]
  exact ⟨.inl, fun h => h.elim id id⟩
theorem back_same (l : List VoteP) : ∀ v, v ∈ l ↔ v ∈ l.reverse := fun _ => List.mem_reverse.symm
end Go.Proofs.YtggdcnjaofflbaaGreatDoor

/- The reference's Hashed. The conditions: what the slice reads as, lengths. -/
namespace Go.Proofs.YtggdcnjaofflbaaGreatDoor
open Go.RowKit Go.BigFrame

theorem scells_len (xs : List ByteArray) : (scells xs).length = xs.length := by unfold scells; rw [List.length_map]
theorem OwnE.mono {w : World} {base base' size : Nat} {e : TypeId} {v : Value} {css : List (List Value)} (h : OwnE w base e size v css) (hb : base' ≤ base) : OwnE w base' e size v css :=
  ⟨h.1, h.2.imp id fun ⟨g, cap, cur, e1, h1, r⟩ => ⟨g, cap, cur, e1, Nat.le_trans hb h1, r⟩⟩
section
variable {ops : Array Oper} {rest : List Oper} {o : Oper} {a : Act} {w : World} {Q : Exit → Act → World → Prop} {K : Act → World → Prop} {E : Prop}
end
end Go.Proofs.YtggdcnjaofflbaaGreatDoor
