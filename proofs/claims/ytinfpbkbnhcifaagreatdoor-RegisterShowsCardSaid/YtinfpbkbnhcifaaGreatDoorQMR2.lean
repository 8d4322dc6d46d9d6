/- The walks of the reference's makers: pick, Key, Entry. The conditions: the types' ranges. -/
import Derived.Test.YtinfpbkbnhcifaaGreatDoorQMSpec
import Derived.Test.YtinfpbkbnhcifaaGreatDoorQVR1
import Derived.Deep.RegionHeld3
namespace Go.Proofs.YtinfpbkbnhcifaaGreatDoor
open Go.RowKit Go.BigFrame


set_option maxHeartbeats 400000 in
theorem lpick_any (c n : Int) (w : World) (hc : I64 c) (hn : 0 < n) (hn' : n ≤ 9223372036854775807) :
    Calls Tryz.prog 16 #[.int .i64 c, .int .i64 n] w fun e w' => e = .returned (.int .i64 (pickI c n)) ∧ w' = w := by
  obtain ⟨hc1, hc2⟩ := hc
  by_cases h : c < 0
  · go_enter Tryz.func16, Tryz.ntmps16
    go_wp2
    go_ret
    exact ⟨ret_int (by rw [pickI, if_pos h, ← Int.tmod_eq_emod_of_nonneg (by omega), Int.neg_tmod]), rfl⟩
  · go_enter Tryz.func16, Tryz.ntmps16
    go_wp2
    go_ret
    exact ⟨ret_int (by rw [pickI, if_neg (by omega)]), rfl⟩
set_option maxHeartbeats 400000 in
theorem rpick_any (c n : Int) (w : World) (hc : I64 c) (hn : 0 < n) (hn' : n ≤ 9223372036854775807) :
    Calls Tryz.prog 53 #[.int .i64 c, .int .i64 n] w fun e w' => e = .returned (.int .i64 (pickI c n)) ∧ w' = w := by
  obtain ⟨hc1, hc2⟩ := hc
  by_cases h : c < 0
  · go_enter Tryz.func53, Tryz.ntmps53
    go_wp2
    go_ret
    exact ⟨ret_int (by rw [pickI, if_pos h, ← Int.tmod_eq_emod_of_nonneg (by omega), Int.neg_tmod]), rfl⟩
  · go_enter Tryz.func53, Tryz.ntmps53
    go_wp2
    go_ret
    exact ⟨ret_int (by rw [pickI, if_neg (by omega)]), rfl⟩

theorem full_block {w : World} {base g n : Nat} {e : TypeId} {xs : List Value} (h : w.ownsRow base e 1 (.slice (some ⟨g, 0, none⟩) n n) n xs) : w.heap[g]? = some (.cells xs.toArray e (0, 0)) := by
  rcases h.2 with ⟨h1, _⟩ | ⟨g', cap, cur, hv, _, hg, _, _, hs, ht⟩
  · cases h1
  · injection hv with e1 e2 e3
    injection e1 with e1
    injection e1 with e1 _ _
    subst e1 e3
    rw [hg]
    congr 2
    have : cur.toList.take (n * 1) = cur.toList := List.take_of_length_le (by rw [Array.length_toList, hs]; exact Nat.le_refl _)
    rw [this] at ht
    rw [← ht]
theorem keyS_str (c : Nat) : keyS (c : Int) = strOf (List.replicate 32 ((100 + c) % 256)) := by
  unfold keyS strOf
  rw [List.map_replicate, show ((100 : Int) + (c : Int)).toNat = 100 + c by omega]
theorem zero32 : (madeCells (Value.int .u8 0).cells (32 * 1)).toList.toArray = bytesC 32 (lg []) := by kernel_rfl

set_option maxHeartbeats 1000000 in
set_option maxRecDepth 100000 in
theorem key_any (c : Nat) (hc : c ≤ 1000) (w : World) : Calls Tryz.prog 15 #[.int .i64 c] w fun e w' => e = .returned (.string (keyS c)) ∧ Below w.heap.size w w' := by
  rw [keyS_str]
  obtain ⟨y, hy⟩ : ∃ y, y = (100 + c) % 256 := ⟨_, rfl⟩
  have hyl : y < 256 := by omega
  have HY : Hid (((100 : Int) + (c : Int)) % 256 = (y : Int)) := Lib.hid (by omega)
  rw [← hy]
  clear hy
  obtain ⟨i0, hi0, hz0, hz1, hz2⟩ := info_parts infoByte
  go_enter Tryz.func15, Tryz.ntmps15
  go_wp2_with (at_make; refine wpList_make_full _ rfl _ _ 88 rfl w.heap.size 5 i0 _ 1 (by kernel_rfl) hi0 hz0 hz1 _ _ 32 32 32 rfl rfl rfl rfl (by rw [hz2]; decide) (by decide) (Nat.le_refl _) ?_; intro w1 hown1 hgr1; have HO1 := Lib.hid (full_block hown1); have HB1 : Hid (Below w.heap.size w w1) := Lib.hid ((Below.refl w.heap.size w).grown hgr1 (Nat.le_refl _) (fun j e => by cases e)); clear hown1 hgr1)
  have HC0 : Hid (w1.heap[w.heap.size]? = some (.cells (bytesC 32 (lg (List.replicate 0 y))) 5 (0, 0))) := Lib.hid (by rw [HO1.out, zero32]; rfl)
  go_loopw [4] (fun i wr => ∃ k : Nat, k ≤ 32 ∧ i = .int .i64 k ∧ Hid (wr.heap[w.heap.size]? = some (.cells (bytesC 32 (lg (List.replicate k y))) 5 (0, 0))) ∧ Hid (Below w.heap.size w wr)) (fun i _ => 32 - (intOf i).toNat)
  case atStart => exact ⟨0, by omega, rfl, HC0, HB1⟩
  case round =>
    obtain ⟨k, hk, rfl, hC, hB⟩ := hrel
    by_cases hlt : k < 32
    · have b1 : (0 : Int) ≤ (k : Int) ∧ (k : Int) < 32 := by omega
      have c1 : wr.cell? ⟨w.heap.size, k, none⟩ = some (.int .u8 (lg (List.replicate k y) k : Nat)) := by rw [cell_of_row wr _ k _ _ _ hC.out, bytesC_get _ _ _ hlt]
      have g1 : wr.frozen? ⟨w.heap.size, k, none⟩ = false := by simp [World.frozen?, hC.out]
      have f1 : IntKind.i64.wrap (100 + (c : Int)) = 100 + (c : Int) := IntWalk.i64_in _ (by omega)
      obtain ⟨b11, b12⟩ := b1
      go_wp2
      go_roundw
      case rel =>
        refine ⟨k + 1, by omega, by go_num, ?_, ?_⟩
        · show (World.setCell _ _ _).heap[w.heap.size]? = _
          rw [heap_setCell_same _ hC.out, HY.out, bytesC_snoc 32 _ y k (by rw [List.length_replicate]) hlt, List.replicate_succ']
        · exact hB.out.grown (grown_setCell (grown_refl _ _) ⟨w.heap.size, k, none⟩ (.inl rfl) _) hB.out.size (fun j e => by cases e; exact Nat.le_refl _)
      case measure => simp [intOf]; omega
    · have ek : k = 32 := by omega
      subst ek
      have HCl : Hid (∀ j z, (List.replicate 32 y)[j]? = some z → wr.cell? ⟨w.heap.size, 0 + j, none⟩ = some (.int .u8 (z : Nat))) := Lib.hid (fun j z hj => by
        have hj32 : j < 32 := by
          have := (List.getElem?_eq_some_iff.1 hj).1
          rw [List.length_replicate] at this
          exact this
        rw [Nat.zero_add, cell_of_row wr _ j _ _ _ hC.out, bytesC_get _ _ _ hj32]
        unfold lg
        rw [List.getD_eq_getElem?_getD, hj]
        rfl)
      go_wp2_with (refine wpList_convS (List.replicate 32 y) (fun z hz => by rw [List.eq_of_mem_replicate hz]; exact hyl) 88 9 5 _ w.heap.size 0 32 32 rfl rfl rfl (by rw [List.length_replicate]) (by kernel_rfl) (by kernel_rfl) (by kernel_rfl) HCl.out ?_)
      go_ret
      exact ⟨rfl, hB.out⟩
end Go.Proofs.YtinfpbkbnhcifaaGreatDoor

/- The walk of the reference's Entry. The condition: the integer's range. -/
namespace Go.Proofs.YtinfpbkbnhcifaaGreatDoor
open Go.RowKit Go.BigFrame

theorem conv_one {W : World} {b : Nat} {v : Int} (h0 : 0 ≤ v) (h1 : v < 256) (hc : W.cell? ⟨b, 0, none⟩ = some (.int .u8 v)) : (convert 88 9 (.slice (some ⟨b, 0, none⟩) 1 1)).run Tryz.prog W = .ok (.string ⟨#[UInt8.ofNat v.toNat]⟩) W := by
  obtain ⟨n, rfl⟩ := Int.eq_ofNat_of_zero_le h0
  have := run_convert_bytes_back (P := Tryz.prog) W 88 9 5 ⟨b, 0, none⟩ 1 [UInt8.ofNat n] (by kernel_rfl) (by kernel_rfl) (by kernel_rfl) (fun j hj => by
    have hj0 : j = 0 := by simpa using hj
    subst hj0
    rw [Addr.add_mid, hc]
    have : n % 256 = n := by omega
    simp [UInt8.toNat_ofNat', this])
  simpa using this
theorem cell_new1 (W : World) (v : Value) (T : TypeId) : (W.alloc (.cells #[v] T)).cell? ⟨W.heap.size, 0, none⟩ = some v := cell_of_row _ _ 0 _ _ _ (heap_alloc_new W _)
theorem cell_old1 {W : World} {b : Nat} {v : Value} (o : Obj) (h : W.cell? ⟨b, 0, none⟩ = some v) (hb : b < W.heap.size) : (W.alloc o).cell? ⟨b, 0, none⟩ = some v := cell_keepB ((Below.refl _ _).alloc (Nat.le_refl _) o) hb h

set_option maxHeartbeats 2000000 in
set_option maxRecDepth 100000 in
theorem entry_any (x : Int) (hx : I64 x) (w : World) : Calls Tryz.prog 51 #[.int .i64 x] w fun e w' => e = .returned (.string (entryS x)) ∧ Below w.heap.size w w' := by
  obtain ⟨r0, r1⟩ := pickI_range x (n := 676) (by omega)
  have HP := Lib.hid (rpick_any x 676 w hx (by omega) (by omega))
  obtain ⟨c, hc⟩ : ∃ c, c = pickI x 676 := ⟨_, rfl⟩
  rw [← hc] at r0 r1 HP
  have HCx := Lib.hid hc
  clear hc
  obtain ⟨k, rfl⟩ := Int.eq_ofNat_of_zero_le r0
  go_enter Tryz.func51, Tryz.ntmps51
  go_wp2_with (go_at_call 53; refine HP.out.mono ?_; rintro e w1 ⟨rfl, rfl⟩)
  have k0 : (0 : Int) ≤ 97 + (k : Int) % 26 := by omega
  have k1 : (97 : Int) + (k : Int) % 26 < 256 := by omega
  have k2 : (0 : Int) ≤ 97 + (k : Int) / 26 := by omega
  have k3 : (97 : Int) + (k : Int) / 26 < 256 := by omega
  have e1 := conv_one (W := (w1.alloc (.cells #[.int .u8 (97 + (k : Int) % 26)] 5)).drew) k0 k1 (cell_new1 w1 _ _)
  have e2 := conv_one (W := (w1.alloc (.cells #[.int .u8 (97 + (k : Int) / 26)] 5)).drew) k2 k3 (cell_new1 w1 _ _)
  have e3 := conv_one (W := ((w1.alloc (.cells #[.int .u8 (97 + (k : Int) % 26)] 5)).alloc (.cells #[.int .u8 (97 + (k : Int) / 26)] 5)).drew) k0 k1 (cell_old1 _ (cell_new1 w1 _ _) (by simp))
  have e4 := conv_one (b := w1.heap.size + 1) (W := ((w1.alloc (.cells #[.int .u8 (97 + (k : Int) % 26)] 5)).alloc (.cells #[.int .u8 (97 + (k : Int) / 26)] 5)).drew) k2 k3 (by simp)
  have e5 := conv_one (W := ((w1.alloc (.cells #[.int .u8 (97 + (k : Int) / 26)] 5)).alloc (.cells #[.int .u8 (97 + (k : Int) % 26)] 5)).drew) k2 k3 (cell_old1 _ (cell_new1 w1 _ _) (by simp))
  have e6 := conv_one (b := w1.heap.size + 1) (W := ((w1.alloc (.cells #[.int .u8 (97 + (k : Int) / 26)] 5)).alloc (.cells #[.int .u8 (97 + (k : Int) % 26)] 5)).drew) k0 k1 (by simp)
  have hm2 : (k : Int) % 2 = 0 ∨ (k : Int) % 2 = 1 := by omega
  generalize hb1 : UInt8.ofNat (97 + (k : Int) % 26).toNat = b1 at *
  generalize hb2 : UInt8.ofNat (97 + (k : Int) / 26).toNat = b2 at *
  clear k0 k1 k2 k3 r0
  have HB1 := Lib.hid hb1
  have HB2 := Lib.hid hb2
  clear hb1 hb2
  have HE0 : Hid ((k : Int) % 2 = 0 → entryS x = ⟨#[b1]⟩) := Lib.hid (fun h => by
    unfold entryS
    rw [← HCx.out, if_neg (by omega), ← HB1.out]
    congr 3)
  have HE1 : Hid ((k : Int) % 2 = 1 → entryS x = ⟨#[b1]⟩ ++ (ByteArray.mk #[b2]).extract 0 1) := Lib.hid (fun h => by
    unfold entryS
    rw [← HCx.out, if_pos h]
    have e7 : UInt8.ofNat (97 + ((k : Int)).toNat % 26) = b1 := by rw [← HB1.out]; congr 1
    have e8 : UInt8.ofNat (97 + ((k : Int)).toNat / 26) = b2 := by rw [← HB2.out]; congr 1
    rw [e7, e8]
    rfl)
  have below2 : ∀ o o' : Obj, Below w1.heap.size w1 ((w1.alloc o).alloc o').drew := fun o o' => below_drewN (((Below.refl _ _).alloc (Nat.le_refl _) o).alloc (by simp) o') 1
  rcases hm2 with hm2 | hm2
  · go_region
    all_goals
      go_wp2
      go_ret
      clear e1 e2 e3 e4 e5 e6
      refine ⟨?_, below2 _ _⟩
      rw [HE0.out hm2]
      rfl
  · go_region
    all_goals
      go_wp2
      go_ret
      clear e1 e2 e3 e4 e5 e6
      refine ⟨?_, below2 _ _⟩
      rw [HE1.out hm2]
      rfl
end Go.Proofs.YtinfpbkbnhcifaaGreatDoor
