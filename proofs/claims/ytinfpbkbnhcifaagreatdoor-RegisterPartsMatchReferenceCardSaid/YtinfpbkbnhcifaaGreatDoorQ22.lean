/- The walk of the reference's Entry. The condition: the integer's range. -/
import Derived.Deep.RegionHeld3
import Derived.Test.YtinfpbkbnhcifaaGreatDoorQ21
import Derived.Test.YtinfpbkbnhcifaaGreatDoorQ16
import Derived.Deep.DeepCutAuto
import Derived.Test.YtinfpbkbnhcifaaGreatDoorQ18
namespace Go.Proofs.YtinfpbkbnhcifaaGreatDoor
open Go.RowKit Go.BigFrame

theorem conv_one {W : World} {b : Nat} {v : Int} (h0 : 0 ≤ v) (h1 : v < 256) (hc : W.cell? ⟨b, 0, none⟩ = some (.int .u8 v)) : (convert 88 9 (.slice (some ⟨b, 0, none⟩) 1 1)).run Tryz.prog W = .ok (.string ⟨#[UInt8.ofNat v.toNat]⟩) W := by
  obtain ⟨n, rfl⟩ := Int.eq_ofNat_of_zero_le h0
  have := run_convert_bytes_back (P := Tryz.prog) W 88 9 5 ⟨b, 0, none⟩ 1 [UInt8.ofNat n] (by kernel_rfl) (by kernel_rfl) (by kernel_rfl) (fun j hj => by
    have hj0 : j = 0 := by simpa using hj
    subst hj0
    rw [Addr.add_mid, hc]
    have : n % 256 = n := by omega
    simp [UInt8.toNat_ofNat', this])
  simpa using this
theorem cell_new1 (W : World) (v : Value) (T : TypeId) : (W.alloc (.cells #[v] T)).cell? ⟨W.heap.size, 0, none⟩ = some v := cell_of_row _ _ 0 _ _ _ (heap_alloc_new W _)
theorem cell_old1 {W : World} {b : Nat} {v : Value} (o : Obj) (h : W.cell? ⟨b, 0, none⟩ = some v) (hb : b < W.heap.size) : (W.alloc o).cell? ⟨b, 0, none⟩ = some v := cell_keepB ((Below.refl _ _).alloc (Nat.le_refl _) o) hb h

set_option maxHeartbeats 2000000 in
set_option maxRecDepth 100000 in
theorem entry_any (x : Int) (hx : I64 x) (w : World) : Calls Tryz.prog 51 #[.int .i64 x] w fun e w' => e = .returned (.string (entryS x)) ∧ Below w.heap.size w w' := by
  obtain ⟨r0, r1⟩ := pickI_range x (n := 676) (by omega)
  have HP := Lib.hid (rpick_any x 676 w hx (by omega) (by omega))
  obtain ⟨c, hc⟩ : ∃ c, c = pickI x 676 := ⟨_, rfl⟩
  rw [← hc] at r0 r1 HP
  have HCx := Lib.hid hc
  clear hc
  obtain ⟨k, rfl⟩ := Int.eq_ofNat_of_zero_le r0
  go_enter Tryz.func51, Tryz.ntmps51
  go_wp2_with (go_at_call 53; refine HP.out.mono ?_; rintro e w1 ⟨rfl, rfl⟩)
  have k0 : (0 : Int) ≤ 97 + (k : Int) % 26 := by omega
  have k1 : (97 : Int) + (k : Int) % 26 < 256 := by omega
  have k2 : (0 : Int) ≤ 97 + (k : Int) / 26 := by omega
  have k3 : (97 : Int) + (k : Int) / 26 < 256 := by omega
  have e1 := conv_one (W := (w1.alloc (.cells #[.int .u8 (97 + (k : Int) % 26)] 5)).drew) k0 k1 (cell_new1 w1 _ _)
  have e2 := conv_one (W := (w1.alloc (.cells #[.int .u8 (97 + (k : Int) / 26)] 5)).drew) k2 k3 (cell_new1 w1 _ _)
  have e3 := conv_one (W := ((w1.alloc (.cells #[.int .u8 (97 + (k : Int) % 26)] 5)).alloc (.cells #[.int .u8 (97 + (k : Int) / 26)] 5)).drew) k0 k1 (cell_old1 _ (cell_new1 w1 _ _) (by simp))
  have e4 := conv_one (b := w1.heap.size + 1) (W := ((w1.alloc (.cells #[.int .u8 (97 + (k : Int) % 26)] 5)).alloc (.cells #[.int .u8 (97 + (k : Int) / 26)] 5)).drew) k2 k3 (by simp)
  have e5 := conv_one (W := ((w1.alloc (.cells #[.int .u8 (97 + (k : Int) / 26)] 5)).alloc (.cells #[.int .u8 (97 + (k : Int) % 26)] 5)).drew) k2 k3 (cell_old1 _ (cell_new1 w1 _ _) (by simp))
  have e6 := conv_one (b := w1.heap.size + 1) (W := ((w1.alloc (.cells #[.int .u8 (97 + (k : Int) / 26)] 5)).alloc (.cells #[.int .u8 (97 + (k : Int) % 26)] 5)).drew) k0 k1 (by simp)
  have hm2 : (k : Int) % 2 = 0 ∨ (k : Int) % 2 = 1 := by omega
  generalize hb1 : UInt8.ofNat (97 + (k : Int) % 26).toNat = b1 at *
  generalize hb2 : UInt8.ofNat (97 + (k : Int) / 26).toNat = b2 at *
  clear k0 k1 k2 k3 r0
  have HB1 := Lib.hid hb1
  have HB2 := Lib.hid hb2
  clear hb1 hb2
  have HE0 : Hid ((k : Int) % 2 = 0 → entryS x = ⟨#[b1]⟩) := Lib.hid (fun h => by
    unfold entryS
    rw [← HCx.out, if_neg (by omega), ← HB1.out]
    congr 3)
  have HE1 : Hid ((k : Int) % 2 = 1 → entryS x = ⟨#[b1]⟩ ++ (ByteArray.mk #[b2]).extract 0 1) := Lib.hid (fun h => by
    unfold entryS
    rw [← HCx.out, if_pos h]
    have e7 : UInt8.ofNat (97 + ((k : Int)).toNat % 26) = b1 := by rw [← HB1.out]; congr 1
    have e8 : UInt8.ofNat (97 + ((k : Int)).toNat / 26) = b2 := by rw [← HB2.out]; congr 1
    rw [e7, e8]
    rfl)
  have below2 : ∀ o o' : Obj, Below w1.heap.size w1 ((w1.alloc o).alloc o').drew := fun o o' => below_drewN (((Below.refl _ _).alloc (Nat.le_refl _) o).alloc (by simp) o') 1
  rcases hm2 with hm2 | hm2
  · go_region
    all_goals
      go_wp2
      go_ret
      clear e1 e2 e3 e4 e5 e6
      refine ⟨?_, below2 _ _⟩
      rw [HE0.out hm2]
      rfl
  · go_region
    all_goals
      go_wp2
      go_ret
      clear e1 e2 e3 e4 e5 e6
      refine ⟨?_, below2 _ _⟩
      rw [HE1.out hm2]
      rfl
end Go.Proofs.YtinfpbkbnhcifaaGreatDoor

/- The walk of the reference's Made. The conditions: what the slice reads as, ranges. -/
namespace Go.Proofs.YtinfpbkbnhcifaaGreatDoor
open Go.RowKit Go.BigFrame

/-- What the loop of Made keeps: the boxed register. -/
def MadeAt (w W : World) (car : Int) (v : Value) (xs : List ByteArray) : Prop :=
  Below w.heap.size w W ∧ W.heap[w.heap.size]? = some (.cells #[.int .i64 0, .slice none 0 0] 26 (0, 0)) ∧ W.heap[w.heap.size + 1]? = some (.cells #[.int .i64 car, v] 26 (0, 0)) ∧ OwnS W w.heap.size v xs

theorem alloc_at {w : World} {k : Nat} {o o' : Obj} (h : w.heap[k]? = some o) : (w.alloc o').heap[k]? = some o := (Below.heap_alloc w o' k (Array.getElem?_eq_some_iff.1 h).1).trans h
theorem undrew {W w' : World} (h : Below W.drew.heap.size W.drew w') : Below W.heap.size W w' := ⟨h.os, h.tape, h.output, h.size, h.block⟩

theorem MadeAt.far {w W W' : World} {car : Int} {v : Value} {xs : List ByteArray} (h : MadeAt w W car v xs) (hb : Below W.heap.size W W') : MadeAt w W' car v xs :=
  ⟨h.1.trans (hb.mono h.1.size), (hb.block _ (Array.getElem?_eq_some_iff.1 h.2.1).1).trans h.2.1, (hb.block _ (Array.getElem?_eq_some_iff.1 h.2.2.1).1).trans h.2.2.1, OwnE.far h.2.2.2 hb (Nat.le_refl _)⟩
theorem MadeAt.append {w W w7 : World} {car : Int} {v : Value} {xs : List ByteArray} (h : MadeAt w W car v xs) {y : ByteArray} {o : Obj} (hg : (W.alloc o).grownBy w7 v.ownBlock) {v' : Value} (ho : OwnS w7 w.heap.size v' (xs ++ [y])) :
    MadeAt w (w7.setCell ⟨w.heap.size + 1, 1, none⟩ v') car v' (xs ++ [y]) := by
  obtain ⟨h1, h2, h3, h4⟩ := h
  have key : ∀ {k : Nat} {c : Array Value}, W.heap[k]? = some (.cells c 26 (0, 0)) → w7.heap[k]? = some (.cells c 26 (0, 0)) := fun {k c} hk =>
    (hg.block k (by have := (Array.getElem?_eq_some_iff.1 hk).1; simp; omega) (own_ne h4 hk (fun c' e => by cases e))).trans (alloc_at hk)
  have b7 : Below w.heap.size w w7 := (h1.alloc h1.size o).grown hg (by have := h1.size; simp; omega) (fun j e => OwnE.ge h4 j e)
  have g3 := key h3
  refine ⟨b7.setCell (p := ⟨w.heap.size + 1, 1, none⟩) (Nat.le_succ _) _, (Below.heap_setCell _ _ _ _ (by show w.heap.size ≠ w.heap.size + 1; omega)).trans (key h2), ?_, ?_⟩
  · rw [heap_setCell_same _ g3]; rfl
  · exact World.ownsRow.kept ho (grown_setCell (grown_refl _ _) ⟨w.heap.size + 1, 1, none⟩ (.inl rfl) _) (.inr (fun e' => own_ne ho g3 (fun c' e => by cases e) e'.symm))
theorem size_al {w : World} (W : World) (o : Obj) (h : w.heap.size ≤ W.heap.size) : w.heap.size ≤ (W.alloc o).heap.size := by simp; omega
theorem MadeAt.at7 {w W w7 : World} {car : Int} {v : Value} {xs : List ByteArray} (h : MadeAt w W car v xs) {o : Obj} (hg : (W.alloc o).grownBy w7 v.ownBlock) : w7.cell? ⟨w.heap.size + 1, 1, none⟩ = some v ∧ w7.frozen? ⟨w.heap.size + 1, 1, none⟩ = false := by
  obtain ⟨_, _, h3, h4⟩ := h
  have := (hg.block (w.heap.size + 1) (by have := (Array.getElem?_eq_some_iff.1 h3).1; simp; omega) (own_ne h4 h3 (fun c' e => by cases e))).trans (alloc_at h3)
  exact ⟨cell_of_row w7 _ 1 _ _ _ this, by simp [World.frozen?, this]⟩
theorem ownS_snoc {w : World} {B : Nat} {v : Value} {xs : List ByteArray} {y : ByteArray} (h : w.ownsRow B 9 1 v ((scells xs).length + 1) ((scells xs).flatten ++ [.string y])) : OwnS w B v (xs ++ [y]) := by
  have e : scells (xs ++ [y]) = scells xs ++ [[.string y]] := by unfold scells; rw [List.map_append]; rfl
  unfold OwnS OwnE
  rw [e, List.flatten_append, List.length_append]
  simpa using h
/-- The result's cells are written. -/
theorem set2 {w W : World} {car : Int} {v : Value} {xs : List ByteArray} (h : MadeAt w W car v xs) : ((W.setCell ⟨w.heap.size, 0, none⟩ (.int .i64 car)).setCell ⟨w.heap.size, 1, none⟩ v).heap[w.heap.size]? = some (.cells #[.int .i64 car, v] 26 (0, 0)) ∧ Below w.heap.size w ((W.setCell ⟨w.heap.size, 0, none⟩ (.int .i64 car)).setCell ⟨w.heap.size, 1, none⟩ v) ∧ OwnS ((W.setCell ⟨w.heap.size, 0, none⟩ (.int .i64 car)).setCell ⟨w.heap.size, 1, none⟩ v) w.heap.size v xs := by
  obtain ⟨h1, h2, _, h4⟩ := h
  have g1 := heap_setCell_same (i := 0) (.int .i64 car) h2
  have g2 := heap_setCell_same (i := 1) v g1
  have o1 : OwnS (W.setCell ⟨w.heap.size, 0, none⟩ (.int .i64 car)) w.heap.size v xs := World.ownsRow.kept h4 (grown_setCell (grown_refl _ _) ⟨w.heap.size, 0, none⟩ (.inl rfl) _) (.inr (fun e' => own_ne h4 h2 (fun c' e => by cases e) e'.symm))
  refine ⟨g2, (h1.setCell (p := ⟨w.heap.size, 0, none⟩) (Nat.le_refl _) _).setCell (p := ⟨w.heap.size, 1, none⟩) (Nat.le_refl _) _, ?_⟩
  exact World.ownsRow.kept o1 (grown_setCell (grown_refl _ _) ⟨w.heap.size, 1, none⟩ (.inl rfl) _) (.inr (fun e' => own_ne o1 g1 (fun c' e => by cases e) e'.symm))
theorem madeL_take {x : List Int} {k : Nat} {n : Int} (h : x[k]? = some n) : (x.take (k + 1)).map entryS = (x.take k).map entryS ++ [entryS n] := by
  rw [List.take_add_one, h, List.map_append]; rfl

set_option maxHeartbeats 4000000 in
set_option maxRecDepth 100000 in
theorem made_own (car : Int) (hcar : I64 car) {w : World} {v : Value} {x : List Int} (hx : IL w v x) (hr : ∀ n ∈ x, I64 n) :
    Calls Tryz.prog 13 #[.int .i64 car, v] w fun e w' => ∃ v', e = .returned (.agg #[.int .i64 (pickI car 8), v']) ∧ OwnS w' w.heap.size v' (madeL x) ∧ Below w.heap.size w w' := by
  obtain ⟨a, cap, rfl, l1, l2, l3⟩ := hx.opened
  have H3 := Lib.hid l3
  have HR := Lib.hid hr
  clear l3 hx hr
  unfold maxLen at l2
  obtain ⟨n, hn⟩ : ∃ n, n = x.length := ⟨_, rfl⟩
  rw [← hn] at l1 ⊢
  have HN := Lib.hid hn
  clear hn
  obtain ⟨m, hm⟩ : ∃ m, m = min n 12 := ⟨_, rfl⟩
  have hmn : m ≤ n := by omega
  have hm12 : m ≤ 12 := by omega
  have HM : Hid (madeL x = (x.take m).map entryS) := Lib.hid (by
    unfold madeL
    congr 1
    rw [hm, HN.out]
    by_cases h : x.length ≤ 12
    · rw [Nat.min_eq_left h, List.take_length, List.take_of_length_le h]
    · rw [Nat.min_eq_right (by omega)])
  have hmm : ∀ k : Nat, k < m ∨ (k < n → ¬ k < 12) ∨ n ≤ k := fun k => by omega
  have HMM : Hid (∀ k : Nat, k ≤ m → (k < m ↔ (k < n ∧ k < 12))) := Lib.hid (fun k hk => by omega)
  clear hm hmm
  have HP := Lib.hid (fun W => rpick_any car 8 W hcar (by omega) (by omega))
  generalize pickI car 8 = pc at *
  have hz2 : Hid (MadeAt w ((w.alloc (.cells #[.int .i64 0, .slice none 0 0] 26)).alloc (.cells #[.int .i64 pc, .slice none 0 0] 26)) pc (.slice none 0 0) ((x.take 0).map entryS)) := Lib.hid ⟨((Below.refl _ _).alloc (Nat.le_refl _) _).alloc (by simp) _, at_past w _ _, at_second w _ _, OwnE.nil _ _ _ _⟩
  go_enter Tryz.func13, Tryz.ntmps13
  go_wp2_with (go_at_call 53; refine (HP.out _).mono ?_; rintro e w1 ⟨rfl, rfl⟩)
  go_loopw [6] (fun i wr => ∃ (k : Nat) (u : Value), k ≤ m ∧ i = .int .i64 k ∧ Hid (MadeAt w wr pc u ((x.take k).map entryS))) (fun i _ => m - (intOf i).toNat)
  case atStart => exact ⟨0, _, by omega, rfl, hz2⟩
  case round =>
    obtain ⟨k, u, hk, rfl, hA⟩ := hrel
    clear hz2
    have HK := Lib.hid (HMM.out k hk)
    have c1 : wr.cell? ⟨w.heap.size + 1, 1, none⟩ = some u := cell_of_row wr _ 1 _ _ _ hA.out.2.2.1
    have hsw : w.heap.size + 1 < wr.heap.size := (Array.getElem?_eq_some_iff.1 hA.out.2.2.1).1
    by_cases hlt : k < m
    · obtain ⟨hkn, hk12⟩ := HK.out.1 hlt
      obtain ⟨z, ez⟩ : ∃ z, x[k]? = some z := ⟨_, List.getElem?_eq_getElem (by rw [← HN.out]; exact hkn)⟩
      obtain ⟨b, off, rfl, hb, c0⟩ := H3.out k z ez
      have d0 := cell_keepB hA.out.1 hb c0
      have HE := Lib.hid (fun W => entry_any z (HR.out z (List.mem_of_getElem? ez)) W)
      have HT := Lib.hid (madeL_take ez)
      obtain ⟨XS, hXS⟩ : ∃ XS, XS = (x.take k).map entryS := ⟨_, rfl⟩
      rw [← hXS] at hA HT
      have hXl : XS.length ≤ 12 := by rw [hXS, List.length_map, List.length_take]; omega
      clear c0 ez hXS
      generalize entryS z = E at *
      have HCL : Hid ((scells XS).length = XS.length) := Lib.hid (by unfold scells; rw [List.length_map])
      obtain ⟨i0, hi0, hz0, hz1, hz2⟩ := info_parts infoStr
      have t12 : (k : Int) < 12 := by omega
      have tkn : (k : Int) < (n : Int) := by omega
      go_wp2
      go_region_law (first | (go_simp; go_at_call 51; refine (HE.out _).mono ?_; rintro e w5 ⟨rfl, hb5⟩; have HA5 := Lib.hid (hA.out.far (undrew hb5)); have hs5 : w.heap.size + 1 < w5.heap.size := (Array.getElem?_eq_some_iff.1 HA5.out.2.2.1).1; have c5 : w5.cell? ⟨w.heap.size + 1, 1, none⟩ = some u := cell_of_row w5 _ 1 _ _ _ HA5.out.2.2.1; have HOA := Lib.hid (OwnE.alloc HA5.out.2.2.2 (.cells #[.string E] 9)); have HNW := Lib.hid (World.news_of_block (w := w5.alloc (.cells #[.string E] 9)) (heap_alloc_new w5 (.cells [Value.string E].toArray 9))); have HSZ := Lib.hid (size_al w5 (.cells #[.string E] 9) HA5.out.1.size); clear hb5) | (refine step_append_lies _ rfl (.tmp 21) (.tmp 27) 24 rfl w.heap.size 9 i0 _ 1 16 (by kernel_rfl) hi0 hz0 hz1 hz2 rfl (by decide) u (scells XS).length (scells XS).flatten rfl HOA.out ⟨w5.heap.size, 0, none⟩ 1 1 _ rfl rfl HNW.out (fun u hu => by simp at hu; subst hu; rfl) (by decide) (by rw [HCL.out]; unfold maxLen; omega) (by rw [HCL.out]; omega) HSZ.out _ rfl ?_; intro g7 cap7 w7 hown7 hgrow7 hat7 hlt7; obtain ⟨u4, uf⟩ := HA5.out.at7 hgrow7; have HSN := Lib.hid (HA5.out.append hgrow7 (ownS_snoc hown7)); clear hown7 hgrow7 hat7 hlt7))
      all_goals
        clear u4 uf
        go_wp2
        go_roundw
        case rel =>
          refine ⟨k + 1, .slice (some ⟨g7, 0, none⟩) ((scells XS).length + 1) cap7, by omega, by go_num, ?_⟩
          rw [HT.out]
          exact HSN
        case measure => simp [intOf]; omega
    · have ek : k = m := by omega
      subst ek
      obtain ⟨XS, hXS⟩ : ∃ XS, XS = (x.take k).map entryS := ⟨_, rfl⟩
      rw [← hXS] at hA HM
      clear hXS
      have HE := Lib.hid (set2 hA.out)
      have z0 : wr.cell? ⟨w.heap.size, 0, none⟩ = some (.int .i64 0) := cell_of_row wr _ 0 _ _ _ hA.out.2.1
      have z1 : wr.cell? ⟨w.heap.size, 1, none⟩ = some (.slice none 0 0) := cell_of_row wr _ 1 _ _ _ hA.out.2.1
      have zf : ∀ j, wr.frozen? ⟨w.heap.size, j, none⟩ = false := fun j => by simp [World.frozen?, hA.out.2.1]
      have c0 : wr.cell? ⟨w.heap.size + 1, 0, none⟩ = some (.int .i64 pc) := cell_of_row wr _ 0 _ _ _ hA.out.2.2.1
      obtain ⟨ua, uc, hu⟩ := OwnE.form hA.out.2.2.2
      by_cases hkn : k < n
      · have h12 : ¬ k < 12 := fun h => by have := HK.out.2 ⟨hkn, h⟩; omega
        have t12 : ¬ (k : Int) < 12 := by omega
        subst hu
        go_wp2
        exact bodyPost_ret (results_cell_row rfl _ _ w.heap.size 26 _ (0, 0) _ rfl HE.out.1 Tryz.underlying26 rfl infoReg) rfl ⟨_, rfl, by rw [HM.out]; exact HE.out.2.2, HE.out.2.1⟩
      · have tkn : ¬ (k : Int) < (n : Int) := by omega
        subst hu
        go_wp2
        exact bodyPost_ret (results_cell_row rfl _ _ w.heap.size 26 _ (0, 0) _ rfl HE.out.1 Tryz.underlying26 rfl infoReg) rfl ⟨_, rfl, by rw [HM.out]; exact HE.out.2.2, HE.out.2.1⟩
theorem made_any (car : Int) (hcar : I64 car) {w : World} {v : Value} {x : List Int} (hx : IL w v x) (hr : ∀ n ∈ x, I64 n) :
    Calls Tryz.prog 13 #[.int .i64 car, v] w fun e w' => ∃ v', e = .returned (.agg #[.int .i64 (pickI car 8), v']) ∧ SS w' v' (madeL x) ∧ Below w.heap.size w w' :=
  (made_own car hcar hx hr).mono fun _ _ ⟨v', h1, h2, h3⟩ => ⟨v', h1, h2.ss, h3⟩
end Go.Proofs.YtinfpbkbnhcifaaGreatDoor

/- Facts for walks in which memory is made at any time: own rows, boxes of registers. The conditions: what the blocks hold. -/
namespace Go.Proofs.YtinfpbkbnhcifaaGreatDoor
open Go.RowKit Go.BigFrame

/-- An append to an own row keeps what is announced, of other types. -/
theorem Keeps.own {base B size : Nat} {e : TypeId} {v : Value} {css : List (List Value)} {N : List Ann} {w w' : World} (ho : OwnE w B e size v css) (hg : w.grownBy w' v.ownBlock) (hN : ∀ x ∈ N, ∀ c, x.2.1 ≠ .cells c e (0, 0)) : Keeps base N w w' :=
  fun x hx i _ h => (hg.block i (Array.getElem?_eq_some_iff.1 h).1 (own_ne ho h (hN x hx))).trans h
theorem two_heap {W : World} {b : Nat} {c0 c1 : Value} {T : TypeId} (h : W.heap[b]? = some (.cells #[c0, c1] T (0, 0))) (x y : Value) : ((W.setCell ⟨b, 0, none⟩ x).setCell ⟨b, 1, none⟩ y).heap[b]? = some (.cells #[x, y] T (0, 0)) :=
  heap_setCell_same (i := 1) y (heap_setCell_same (i := 0) x h)
theorem two_below {w W : World} {b B : Nat} (h : Below B w W) (hb : B ≤ b) (x y : Value) : Below B w ((W.setCell ⟨b, 0, none⟩ x).setCell ⟨b, 1, none⟩ y) :=
  (h.setCell (p := ⟨b, 0, none⟩) hb x).setCell (p := ⟨b, 1, none⟩) hb y
theorem two_grown (W : World) (b : Nat) (x y : Value) : W.grownBy ((W.setCell ⟨b, 0, none⟩ x).setCell ⟨b, 1, none⟩ y) (some b) :=
  grown_setCell (grown_setCell (grown_refl _ _) ⟨b, 0, none⟩ (.inl rfl) x) ⟨b, 1, none⟩ (.inl rfl) y
/-- What the cells of a box read. -/
theorem two_cells {W : World} {b : Nat} {c0 c1 : Value} {T : TypeId} (h : W.heap[b]? = some (.cells #[c0, c1] T (0, 0))) : W.cell? ⟨b, 0, none⟩ = some c0 ∧ W.cell? ⟨b, 1, none⟩ = some c1 ∧ (∀ j, W.frozen? ⟨b, j, none⟩ = false) :=
  ⟨cell_of_row W _ 0 _ _ _ h, cell_of_row W _ 1 _ _ _ h, fun j => by unfold World.frozen?; rw [h]; simp⟩
theorem kept_block {w w' : World} {b : Nat} {o : Obj} (h : w.heap[b]? = some o) (hb : Below w.heap.size w w') : w'.heap[b]? = some o := (hb.block b (Array.getElem?_eq_some_iff.1 h).1).trans h
theorem OwnS.two {W : World} {b B : Nat} {c0 c1 v : Value} {xs : List ByteArray} {T : TypeId} (h : OwnS W B v xs) (hb : W.heap[b]? = some (.cells #[c0, c1] T (0, 0))) (hT : T ≠ 9) (x y : Value) : OwnS ((W.setCell ⟨b, 0, none⟩ x).setCell ⟨b, 1, none⟩ y) B v xs :=
  OwnE.grownT h hb (fun c e => hT (by injection e)) (two_grown W b x y)

theorem below_next {w W W' : World} (h : Below w.heap.size w W) (h' : Below W.heap.size W W') : Below w.heap.size w W' := h.trans (h'.mono h.size)
theorem SS.form2' {w : World} {v : Value} {xs : List ByteArray} (h : SS w v xs) : ∃ a c, v = .slice a xs.length c := by
  obtain ⟨a, c, h, _⟩ := h.opened
  exact ⟨a, c, h⟩

/-! ### Nothing appended -/
theorem run_append_zero {P : Program} {w : World} (base : Nat) (t ty e : TypeId) (i : TypeInfo) (size : Nat) (ht : P.underlying t = some (.slice e)) (hi : P.info? e = some i)
    (v : Value) (n : Nat) (xs : List Value) (hown : w.ownsRow base e size v n xs) (ad : Option Addr) (c : Nat) :
    (Builtin.append_ #[t, t] ty #[v, .slice ad 0 c]).run P w = .ok v w := by
  rcases hown.2 with ⟨rfl, rfl⟩ | ⟨g, cap, cur, rfl, _, _, hnc, _⟩
  · cases ad <;> simp [Builtin.append_, run_underlying ht, sizeOf, typeInfo, hi, Builtin.lenOf, Builtin.firstCells, loadCells, loadCellsFrom]
  · cases ad <;> simp [Builtin.append_, run_underlying ht, sizeOf, typeInfo, hi, Builtin.lenOf, Builtin.firstCells, hnc, storeCells, loadCells, loadCellsFrom]
section
variable {ops : Array Oper} {rest : List Oper} {o : Oper} {a : Act} {w : World} {Q : Exit → Act → World → Prop} {K : Act → World → Prop} {E : Prop}
theorem wp_append_zero (s x : Operand) (t e : TypeId) (i : TypeInfo) (ht : Tryz.prog.underlying t = some (.slice e)) (hi : Tryz.prog.info? e = some i) (base size n : Nat) (v : Value) (xs : List Value) (hown : w.ownsRow base e size v n xs) (ad : Option Addr) (c : Nat)
    (ho : o.op = .call { callee := .builtin .append, args := #[s, x], argTypes := #[t, t] }) (hs : a.eval s = v) (hx : a.eval x = .slice ad 0 c) (h : K (a.put o.dst v) w) : o.wp Tryz.prog a w K Q := by
  unfold Oper.wp execOp
  have hr := run_append_zero (P := Tryz.prog) (w := w) base t o.type e i size ht hi v n xs hown ad c
  simp only [ho, resolve, invoke, builtin, Sem.run_bind, Sem.run_pure, Result.andThen_ok, List.map_toArray, List.map_cons, List.map_nil, hs, hx, hr]
  exact h
/-- Strings appended, also none. -/
theorem step_append_all (hgd : o.guard = none) (s x : Operand) (base : Nat) (v : Value) (xs ys : List ByteArray) (vy : Value) (hown : OwnS w base v xs) (hy : SS w vy ys) (hlen : xs.length + ys.length ≤ 1000000) (hbase : base ≤ w.heap.size)
    (ho : o.op = .call { callee := .builtin .append, args := #[s, x], argTypes := #[24, 24] }) (hs : a.eval s = v) (hx : a.eval x = vy)
    (h : ∀ v' w', OwnS w' base v' (xs ++ ys) → w.grownBy w' v.ownBlock → K (a.put o.dst v') w') : if Region.wanted o (yielded ops a.tmps) = true then Oper.wp Tryz.prog o a w K Q else E := by
  rcases Nat.eq_zero_or_pos ys.length with h0 | h0
  · have hw : Region.wanted o (yielded ops a.tmps) = true := by simp [Region.wanted, hgd]
    rw [if_pos hw]
    obtain ⟨ad, c, e⟩ := hy.form2'
    have h1 : ys = [] := List.eq_nil_of_length_eq_zero h0
    subst h1
    subst e
    obtain ⟨i, i1, _⟩ := info_parts infoStr
    exact wp_append_zero s x 24 9 i (by kernel_rfl) i1 base 1 _ v _ hown ad c ho hs hx (h v w (by rw [List.append_nil]; exact hown) (grown_refl _ _))
  · exact step_append_strs hgd s x base v xs ys vy hown hy h0 hlen hbase ho hs hx h
theorem wpList_append_none (hgd : o.guard = none) (s x : Operand) (base : Nat) (v : Value) (xs : List ByteArray) (hown : OwnS w base v xs) (ad : Option Addr) (c : Nat)
    (ho : o.op = .call { callee := .builtin .append, args := #[s, x], argTypes := #[24, 24] }) (hs : a.eval s = v) (hx : a.eval x = .slice ad 0 c) (h : wpList Tryz.prog ops Q rest (a.put o.dst v) w) : wpList Tryz.prog ops Q (o :: rest) a w := by
  obtain ⟨i, i1, _⟩ := info_parts infoStr
  exact wpList_plain hgd fun _ hK => wp_append_zero s x 24 9 i (by kernel_rfl) i1 base 1 _ v _ hown ad c ho hs hx (hK _ _ h)
end
end Go.Proofs.YtinfpbkbnhcifaaGreatDoor

/- The walk of the reference's Other. The conditions: what the slices read as, lengths, ranges. -/
namespace Go.Proofs.YtinfpbkbnhcifaaGreatDoor
open Go.RowKit Go.BigFrame

theorem OwnS.zero {w : World} {b base : Nat} (h : w.heap[b]? = some (.cells #[] 9 (0, 0))) (hb : base ≤ b) : OwnS w base (.slice (some ⟨b, 0, none⟩) 0 0) [] :=
  ⟨rfl, .inr ⟨b, 0, #[], rfl, hb, h, Nat.le_refl _, by decide, rfl, rfl⟩⟩

/-- What the loop of Other keeps: the result's box, the boxed register, its own row. -/
def OtherAt (w w1 W : World) (b : Nat) (car : Int) (v : Value) (xs : List ByteArray) : Prop :=
  Below w.heap.size w W ∧ W.heap[w.heap.size + 1]? = some (.cells #[.int .i64 0, .slice none 0 0] 26 (0, 0)) ∧ W.heap[b]? = some (.cells #[.int .i64 car, v] 26 (0, 0)) ∧ OwnS W w1.heap.size v xs

set_option maxHeartbeats 8000000 in
set_option maxRecDepth 100000 in
theorem other_any (car : Int) {w : World} {v vy : Value} {xs : List ByteArray} {ys : List Int} (at' : Int) (ia : I64 at') (hv : SS w v xs) (hl : xs.length ≤ 12) (hy : IL w vy ys) (hr : ∀ n ∈ ys, I64 n) :
    Calls Tryz.prog 14 #[.agg #[.int .i64 car, v], .int .i64 at', vy] w fun e w' => ∃ v', e = .returned (.agg #[.int .i64 car, v']) ∧ OwnS w' w.heap.size v' (otherL xs at' ys) ∧ Below w.heap.size w w' := by
  obtain ⟨a, c, rfl, l1, l2, l3⟩ := hv.opened
  obtain ⟨ay, cy, rfl, y1, y2, y3⟩ := hy.opened
  unfold maxLen at l2 y2
  have HV := Lib.hid hv
  have HY3 := Lib.hid y3
  have HIY := Lib.hid hr
  have hp := pickI_range at' (n := (xs.length : Int) + 1) (by omega)
  have HPK := Lib.hid (fun W => rpick_any at' ((xs.length : Int) + 1) W ia (by omega) (by omega))
  obtain ⟨q, hq⟩ := Int.eq_ofNat_of_zero_le hp.1
  have HOT : Hid (otherL xs at' ys = xs.take q ++ (ys.take (12 - q)).map entryS) := Lib.hid (by unfold otherL; rw [hq]; rfl)
  rw [hq] at HPK hp
  have hqn : q ≤ xs.length := by omega
  clear hv hy hr ia y3 l3 hp hq
  generalize hn : xs.length = n at *
  have HN := Lib.hid hn
  clear hn
  obtain ⟨ny, hny⟩ : ∃ n, n = ys.length := ⟨_, rfl⟩
  rw [← hny] at y1 ⊢
  have HNY := Lib.hid hny
  clear hny
  obtain ⟨M, hM⟩ : ∃ M, M = min ny (12 - q) := ⟨_, rfl⟩
  have HMM : Hid (∀ k : Nat, k ≤ M → (k < M ↔ (k < ny ∧ q + k < 12))) := Lib.hid (fun k hk => by omega)
  have HME : Hid ((ys.take (12 - q)).map entryS = (ys.take M).map entryS) := Lib.hid (by
    congr 1
    rw [hM, HNY.out]
    by_cases h : ys.length ≤ 12 - q
    · rw [Nat.min_eq_left h, List.take_length, List.take_of_length_le h]
    · rw [Nat.min_eq_right (by omega)])
  have hM12 : q + M ≤ 12 := by omega
  have hMny : M ≤ ny := by omega
  clear hM
  have f1 : IntKind.i64.wrap ((n : Int) + 1) = (n : Int) + 1 := IntWalk.i64_in _ (by omega)
  have u1 : (q : Int) ≤ (n : Int) := by omega
  have u2 : (0 : Int) ≤ (q : Int) := by omega
  have u4 : q ≤ c := by omega
  go_enter Tryz.func14, Tryz.ntmps14
  go_upto_region 1 with fail
  have HB1 : Hid (Below w.heap.size w ((w.alloc (.cells #[.int .i64 car, .slice a n c] 26)).alloc (.cells #[.int .i64 0, .slice none 0 0] 26))) := Lib.hid (((Below.refl _ _).alloc (Nat.le_refl _) _).alloc (by simp) _)
  have HX1 : Hid (((w.alloc (.cells #[.int .i64 car, .slice a n c] 26)).alloc (.cells #[.int .i64 0, .slice none 0 0] 26)).heap[w.heap.size]? = some (.cells #[.int .i64 car, .slice a n c] 26 (0, 0))) := Lib.hid (at_past w _ _)
  have HR1 : Hid (((w.alloc (.cells #[.int .i64 car, .slice a n c] 26)).alloc (.cells #[.int .i64 0, .slice none 0 0] 26)).heap[w.heap.size + 1]? = some (.cells #[.int .i64 0, .slice none 0 0] 26 (0, 0))) := Lib.hid (at_second w _ _)
  obtain ⟨w1, hw1⟩ : ∃ W, W = (w.alloc (.cells #[.int .i64 car, .slice a n c] 26)).alloc (.cells #[.int .i64 0, .slice none 0 0] 26) := ⟨_, rfl⟩
  rw [← hw1] at HB1 HX1 HR1 ⊢
  clear hw1
  have HKP : Hid (∀ W, Below w1.heap.size w1 W → W.cell? ⟨w.heap.size, 0, none⟩ = some (.int .i64 car) ∧ W.cell? ⟨w.heap.size, 1, none⟩ = some (.slice a n c)) := Lib.hid (fun W hW => by
    have h := kept_block HX1.out hW
    exact ⟨(two_cells h).1, (two_cells h).2.1⟩)
  refine wp_region_noPanic ?_
  refine wp_region_lexB [.q 0, .q 1, .an 2, .q 3, .q 4, .q 5, .q 6, .q 7, .q 8, .q 9, .an 14, .b 10, .q 11, .co 2, .b 12, .q 13, .co 14, .b 15] (by kernel_rfl) (by kernel_rfl) (fun _ _ _ _ h => h) ?_
  refine wpFl_qL (v := ?_) rfl (Or.inl ⟨by rfl, ?_⟩) ?_
  rotate_left
  focus (intro w' hSw; (try dsimp only [OldKept] at hSw); obtain ⟨k0, k1⟩ := HKP.out w' hSw; go_simp; (try with_reducible rfl); done)
  simp only [Act.put, List.setIfInBounds_toArray, List.set_cons_zero, List.set_cons_succ]
  refine wpFl_qL (v := ?_) rfl (Or.inl ⟨by rfl, ?_⟩) ?_
  rotate_left
  focus (intro w' hSw; (try dsimp only [OldKept] at hSw); obtain ⟨k0, k1⟩ := HKP.out w' hSw; go_simp; (try with_reducible rfl); done)
  simp only [Act.put, List.setIfInBounds_toArray, List.set_cons_zero, List.set_cons_succ]
  refine wpFl_anL rfl (.cells #[] 9 (0, 0)) (fun n => .slice (some ⟨n, 0, none⟩) 0 0) ⟨by rfl, fun w' => ?_⟩ ?_
  focus (go_simp; done)
  refine wpFl_qL (v := ?_) rfl (Or.inl ⟨by rfl, ?_⟩) ?_
  rotate_left
  focus (intro w' hSw; (try dsimp only [OldKept] at hSw); obtain ⟨k0, k1⟩ := HKP.out w' hSw; go_simp; (try with_reducible rfl); done)
  simp only [Act.put, List.setIfInBounds_toArray, List.set_cons_zero, List.set_cons_succ]
  refine wpFl_qL (v := ?_) rfl (Or.inl ⟨by rfl, ?_⟩) ?_
  rotate_left
  focus (intro w' hSw; (try dsimp only [OldKept] at hSw); obtain ⟨k0, k1⟩ := HKP.out w' hSw; go_simp; (try with_reducible rfl); done)
  simp only [Act.put, List.setIfInBounds_toArray, List.set_cons_zero, List.set_cons_succ]
  refine wpFl_qL (v := ?_) rfl (Or.inl ⟨by rfl, ?_⟩) ?_
  rotate_left
  focus (intro w' hSw; (try dsimp only [OldKept] at hSw); obtain ⟨k0, k1⟩ := HKP.out w' hSw; go_simp; (try with_reducible rfl); done)
  simp only [Act.put, List.setIfInBounds_toArray, List.set_cons_zero, List.set_cons_succ]
  refine wpFl_qL (v := ?_) rfl (Or.inl ⟨by rfl, ?_⟩) ?_
  rotate_left
  focus (intro w' hSw; (try dsimp only [OldKept] at hSw); obtain ⟨k0, k1⟩ := HKP.out w' hSw; go_simp; (try with_reducible rfl); done)
  simp only [Act.put, List.setIfInBounds_toArray, List.set_cons_zero, List.set_cons_succ]
  refine wpFl_qL (v := ?_) rfl (Or.inl ⟨by rfl, ?_⟩) ?_
  rotate_left
  focus (intro w' hSw; (try dsimp only [OldKept] at hSw); obtain ⟨k0, k1⟩ := HKP.out w' hSw; go_simp; (try with_reducible rfl); done)
  simp only [Act.put, List.setIfInBounds_toArray, List.set_cons_zero, List.set_cons_succ]
  refine wpFl_qL (v := ?_) rfl (Or.inl ⟨by rfl, ?_⟩) ?_
  rotate_left
  focus (intro w' hSw; (try dsimp only [OldKept] at hSw); obtain ⟨k0, k1⟩ := HKP.out w' hSw; go_simp; (try with_reducible rfl); done)
  simp only [Act.put, List.setIfInBounds_toArray, List.set_cons_zero, List.set_cons_succ]
  refine wpFl_qL (v := ?_) rfl (Or.inl ⟨by rfl, ?_⟩) ?_
  rotate_left
  focus (intro w' hSw; (try dsimp only [OldKept] at hSw); obtain ⟨k0, k1⟩ := HKP.out w' hSw; go_simp; (try with_reducible rfl); done)
  simp only [Act.put, List.setIfInBounds_toArray, List.set_cons_zero, List.set_cons_succ]
  refine wpFl_anL rfl (.cells #[.int .i64 0, .slice none 0 0] 26 (0, 0)) (fun n => .pointer (some ⟨n, 0, none⟩)) ⟨by rfl, fun w' => ?_⟩ ?_
  focus (go_simp; done)
  refine wpFl_bL rfl (fun w4 hn4 hs4 K hK => ?_)
  go_simp
  go_at_call 53
  refine (HPK.out _).mono ?_
  rintro e w5 ⟨rfl, hw5⟩
  replace hw5 := hw5.symm
  subst hw5
  refine hK.out _ _ hs4 (Keeps.below (Below.refl _ _)) ?_
  clear hK K
  refine wpFl_qL (v := ?_) rfl (Or.inl ⟨by rfl, ?_⟩) ?_
  rotate_left
  focus (intro w' hSw; (try dsimp only [OldKept] at hSw); go_simp; (try with_reducible rfl); done)
  simp only [Act.put, List.setIfInBounds_toArray, List.set_cons_zero, List.set_cons_succ]
  refine wpFl_coL rfl (.cells #[] 9 (0, 0)) (fun n => .slice (some ⟨n, 0, none⟩) 0 0) (by rfl) (N' := [(14, .cells #[.int .i64 0, .slice none 0 0] 26 (0, 0), fun n => .pointer (some ⟨n, 0, none⟩))]) (by rfl) (fun b6 w6 hn_w6 hs_w6 hb_b6 hz_b6 => ?_)
  simp only [Act.put, List.setIfInBounds_toArray, List.set_cons_zero, List.set_cons_succ]
  have HO6 := Lib.hid (OwnS.zero hz_b6 hb_b6)
  clear hz_b6 hn_w6 hn4 hs4
  refine wpFl_bL rfl (fun w7 hn7 hs7 K hK => ?_)
  have HO7 := Lib.hid (OwnE.far HO6.out hn7 (Nat.le_refl _))
  have HS7 := Lib.hid ((HV.out.below (HB1.out.trans (hs7.mono HB1.out.size))).cut q hqn)
  refine step_append_all rfl _ _ w1.heap.size (.slice (some ⟨b6, 0, none⟩) 0 0) [] (xs.take q) (.slice a q c) HO7.out HS7.out (by rw [List.length_take]; simp; omega) hs7.size rfl rfl rfl ?_
  intro v8 w8 hown8 hgr8
  rw [List.nil_append] at hown8
  have HB8 : Hid (Below w1.heap.size w1 w8) := Lib.hid (Below.grown hs7 hgr8 hs7.size (fun j e => OwnE.ge HO7.out j e))
  refine hK.out _ _ HB8.out (Keeps.own HO7.out hgr8 (by intro x hx c e; rw [List.mem_singleton.1 hx] at e; cases e)) ?_
  clear hK K
  obtain ⟨a8, c8, hv8⟩ := OwnE.form hown8
  rw [scells_len, List.length_take, HN.out, Nat.min_eq_left hqn] at hv8
  subst hv8
  have HO8 := Lib.hid hown8
  clear HO6 HO7 HS7 hown8 hgr8 hn7 hs7 hs_w6 hb_b6
  simp only [Act.put, List.setIfInBounds_toArray, List.set_cons_zero, List.set_cons_succ]
  refine wpFl_qL (v := ?_) rfl (Or.inl ⟨by rfl, ?_⟩) ?_
  rotate_left
  focus (intro w' hSw; (try dsimp only [OldKept] at hSw); go_simp; (try with_reducible rfl); done)
  simp only [Act.put, List.setIfInBounds_toArray, List.set_cons_zero, List.set_cons_succ]
  refine wpFl_coL rfl (.cells #[.int .i64 0, .slice none 0 0] 26 (0, 0)) (fun n => .pointer (some ⟨n, 0, none⟩)) (by rfl) (N' := []) (by rfl) (fun b9 w9 hn_w9 hs_w9 hb_b9 hz_b9 => ?_)
  simp only [Act.put, List.setIfInBounds_toArray, List.set_cons_zero, List.set_cons_succ]
  have HO9 := Lib.hid (OwnE.far HO8.out hn_w9 (Nat.le_refl _))
  clear HO8 hn_w9 hs_w9
  refine wpFl_bL rfl (fun w10 hn10 hs10 K hK => ?_)
  have HO10 := Lib.hid (OwnE.far HO9.out hn10 (Nat.le_refl _))
  have HZ10 := Lib.hid (kept_block hz_b9 hn10)
  obtain ⟨z0, z1, zf⟩ := two_cells HZ10.out
  clear HO9 hz_b9
  go_simp
  refine hK.out _ _ (two_below hs10 hb_b9 _ _) Keeps.nil ?_
  clear hK K
  have HA : Hid (OtherAt w w1 ((w10.setCell ⟨b9, 0, none⟩ (.int .i64 car)).setCell ⟨b9, 1, none⟩ (.slice a8 q c8)) b9 car (.slice a8 q c8) (xs.take q ++ (ys.take 0).map entryS)) := Lib.hid (by
    refine ⟨HB1.out.trans ((two_below hs10 hb_b9 _ _).mono HB1.out.size), kept_block HR1.out (two_below hs10 hb_b9 _ _), two_heap HZ10.out _ _, ?_⟩
    rw [List.take_zero, List.map_nil, List.append_nil]
    exact OwnS.two HO10.out HZ10.out (by decide) _ _)
  have hw1s : w.heap.size + 1 < w1.heap.size := (Array.getElem?_eq_some_iff.1 HR1.out).1
  have hsw1 : w.heap.size ≤ w1.heap.size := by omega
  have hb9w : w.heap.size + 1 < b9 := Nat.lt_of_lt_of_le (Array.getElem?_eq_some_iff.1 HR1.out).1 hb_b9
  generalize (w10.setCell ⟨b9, 0, none⟩ (.int .i64 car)).setCell ⟨b9, 1, none⟩ (.slice a8 q c8) = W at *
  clear HO10 HZ10 z0 z1 zf hn10 hs10 HKP HB8 HB1 HX1 HR1 HV HPK
  refine wpFl_nil ?_
  refine NoPanic.normal ?_
  go_wp2
  go_loopw [8] (fun i wr => ∃ (k : Nat) (u : Value), k ≤ M ∧ i = .int .i64 k ∧ Hid (OtherAt w w1 wr b9 car u (xs.take q ++ (ys.take k).map entryS))) (fun i _ => M - (intOf i).toNat)
  case atStart => exact ⟨0, _, by omega, rfl, HA⟩
  case round =>
    obtain ⟨k, u, hk, rfl, hA⟩ := hrel
    clear HA
    have HK := Lib.hid (HMM.out k hk)
    obtain ⟨L, hL⟩ : ∃ L, L = q + k := ⟨_, rfl⟩
    obtain ⟨XS, hXS⟩ : ∃ XS, XS = xs.take q ++ (ys.take k).map entryS := ⟨_, rfl⟩
    have hXl : XS.length = L := by
      rw [hXS, List.length_append, List.length_map, List.length_take, List.length_take, HN.out, ← HNY.out]
      omega
    have HXS := Lib.hid hXS
    rw [← hXS] at hA
    obtain ⟨ua, uc, hu⟩ := OwnE.form hA.out.2.2.2
    rw [scells_len, hXl] at hu
    subst hu
    have HL := Lib.hid hL
    have hL12 : L ≤ 12 := by omega
    have hLk : (L < 12) ↔ (q + k < 12) := by rw [hL]
    clear hXS hL
    obtain ⟨c0, c1, cf⟩ := two_cells hA.out.2.2.1
    by_cases hlt : k < M
    · obtain ⟨hkn, hk12⟩ := HK.out.1 hlt
      obtain ⟨z, ez⟩ : ∃ z, ys[k]? = some z := ⟨_, List.getElem?_eq_getElem (by rw [← HNY.out]; exact hkn)⟩
      obtain ⟨bY, oY, rfl, hbY, d0⟩ := HY3.out k z ez
      have HE := Lib.hid (fun W => entry_any z (HIY.out z (List.mem_of_getElem? ez)) W)
      have HT : Hid (xs.take q ++ (ys.take (k + 1)).map entryS = XS ++ [entryS z]) := Lib.hid (by rw [madeL_take ez, ← List.append_assoc, ← HXS.out])
      have hEz := entryS_size z
      generalize entryS z = E at *
      have t12 : (L : Int) < 12 := by omega
      have tkn : (k : Int) < (ny : Int) := by omega
      have tk0 : (0 : Int) ≤ (k : Int) := by omega
      have hs1 : w1.heap.size ≤ wr.heap.size := by
        rcases hA.out.2.2.2.2 with ⟨e, _⟩ | ⟨g, cap, cur, e, hbg, hg, _⟩
        · have := (Array.getElem?_eq_some_iff.1 hA.out.2.2.1).1; omega
        · have := (Array.getElem?_eq_some_iff.1 hg).1; omega
      have HYC : Hid (∀ W, BoxKept wr w1.heap.size b9 (.cells #[.int .i64 car, .slice ua L uc] 26 (0, 0)) W → W.cell? ⟨bY, oY + k, none⟩ = some (.int .i64 z) ∧ W.cell? ⟨b9, 1, none⟩ = some (.slice ua L uc)) := Lib.hid (fun W hW => ⟨cell_keepB (hA.out.1.trans (hW.2.1.mono hsw1)) hbY d0, (two_cells hW.2.2).2.1⟩)
      have HS0 : Hid (BoxKept wr w1.heap.size b9 (.cells #[.int .i64 car, .slice ua L uc] 26 (0, 0)) wr.drew) := Lib.hid ⟨hs1, Below.drew (Below.refl _ _), hA.out.2.2.1⟩
      have HOr := Lib.hid (OwnE.drewN hA.out.2.2.2 1)
      clear ez d0
      go_upto_region 5 with fail
      refine wp_region_noPanic ?_
      refine wp_region_lexF [.q 0, .q 1, .q 2, .q 3, .q 4, .q 5, .b 6, .an 7, .co 7, .b 8, .q 9, .l 10] (BoxKept wr w1.heap.size b9 (.cells #[.int .i64 car, .slice ua L uc] 26 (0, 0))) (by kernel_rfl) (by kernel_rfl) (fun _ _ _ _ h => h) BoxKept.more HS0.out ?_
      refine wpFl_qL (v := ?_) rfl (Or.inl ⟨by rfl, ?_⟩) ?_
      rotate_left
      focus (intro w' hSw; (try dsimp only [OldKept] at hSw); obtain ⟨k0, k1⟩ := HYC.out w' hSw; go_simp; (try with_reducible rfl); done)
      simp only [Act.put, List.setIfInBounds_toArray, List.set_cons_zero, List.set_cons_succ]
      refine wpFl_qL (v := ?_) rfl (Or.inl ⟨by rfl, ?_⟩) ?_
      rotate_left
      focus (intro w' hSw; (try dsimp only [OldKept] at hSw); obtain ⟨k0, k1⟩ := HYC.out w' hSw; go_simp; (try with_reducible rfl); done)
      simp only [Act.put, List.setIfInBounds_toArray, List.set_cons_zero, List.set_cons_succ]
      refine wpFl_qL (v := ?_) rfl (Or.inl ⟨by rfl, ?_⟩) ?_
      rotate_left
      focus (intro w' hSw; (try dsimp only [OldKept] at hSw); obtain ⟨k0, k1⟩ := HYC.out w' hSw; go_simp; (try with_reducible rfl); done)
      simp only [Act.put, List.setIfInBounds_toArray, List.set_cons_zero, List.set_cons_succ]
      refine wpFl_qL (v := ?_) rfl (Or.inl ⟨by rfl, ?_⟩) ?_
      rotate_left
      focus (intro w' hSw; (try dsimp only [OldKept] at hSw); obtain ⟨k0, k1⟩ := HYC.out w' hSw; go_simp; (try with_reducible rfl); done)
      simp only [Act.put, List.setIfInBounds_toArray, List.set_cons_zero, List.set_cons_succ]
      refine wpFl_qL (v := ?_) rfl (Or.inl ⟨by rfl, ?_⟩) ?_
      rotate_left
      focus (intro w' hSw; (try dsimp only [OldKept] at hSw); obtain ⟨k0, k1⟩ := HYC.out w' hSw; go_simp; (try with_reducible rfl); done)
      simp only [Act.put, List.setIfInBounds_toArray, List.set_cons_zero, List.set_cons_succ]
      refine wpFl_qL (v := ?_) rfl (Or.inl ⟨by rfl, ?_⟩) ?_
      rotate_left
      focus (intro w' hSw; (try dsimp only [OldKept] at hSw); obtain ⟨k0, k1⟩ := HYC.out w' hSw; go_simp; (try with_reducible rfl); done)
      simp only [Act.put, List.setIfInBounds_toArray, List.set_cons_zero, List.set_cons_succ]
      refine wpFl_bS rfl (fun w4 hn4 hs4 K hK => ?_)
      go_simp
      go_at_call 51
      refine (HE.out _).mono ?_
      rintro e w5 ⟨rfl, hb5⟩
      have HO5 := Lib.hid (OwnE.far (OwnE.far HOr.out hn4 (Nat.le_refl _)) hb5 (Nat.le_refl _))
      refine hK.out _ _ (BoxKept.more _ _ hs4 hb5) (Nat.le_trans hs4.size hb5.size) (Keeps.below hb5) ?_
      clear hK K hn4 hs4 hb5 HOr
      refine wpFl_anL rfl (.cells #[.string E] 9 (0, 0)) (fun n => .slice (some ⟨n, 0, none⟩) 1 1) ⟨by rfl, fun w' => ?_⟩ ?_
      focus (go_simp; done)
      refine wpFl_coL rfl (.cells #[.string E] 9 (0, 0)) (fun n => .slice (some ⟨n, 0, none⟩) 1 1) (by rfl) (N' := []) (by rfl) (fun b7 w7 hn_w7 hs_w7 hb_b7 hz_b7 => ?_)
      simp only [Act.put, List.setIfInBounds_toArray, List.set_cons_zero, List.set_cons_succ]
      have HO7 := Lib.hid (OwnE.far HO5.out hn_w7 (Nat.le_refl _))
      have HS7 := Lib.hid (SS.one hz_b7)
      clear HO5 hn_w7 hz_b7 hs_w7 hb_b7
      refine wpFl_bS rfl (fun w8 hn8 hs8 K hK => ?_)
      have HO8 := Lib.hid (OwnE.far HO7.out hn8 (Nat.le_refl _))
      have HS8 := Lib.hid (SS.below HS7.out hn8)
      refine step_append_strs rfl _ _ w1.heap.size (.slice ua L uc) XS [E] (.slice (some ⟨b7, 0, none⟩) 1 1) HO8.out HS8.out (by simp) (by rw [hXl]; simp; omega) (Nat.le_trans hs1 hs8.size) rfl rfl rfl ?_
      intro v9 w9 hown9 hgr9
      have HK9 : Hid (BoxKept wr w1.heap.size b9 (.cells #[.int .i64 car, .slice ua L uc] 26 (0, 0)) w9) := Lib.hid ⟨hs1, Below.grown hs8.2.1 hgr9 (Nat.le_trans hs1 hs8.size) (fun j e => OwnE.ge HO8.out j e), (hgr9.block b9 (Array.getElem?_eq_some_iff.1 hs8.2.2).1 (own_ne HO8.out hs8.2.2 (fun c e => by cases e))).trans hs8.2.2⟩
      refine hK.out _ _ HK9.out (Nat.le_trans hs8.size hgr9.size) Keeps.nil ?_
      obtain ⟨a9, c9, hv9⟩ := OwnE.form hown9
      rw [scells_len, List.length_append, hXl] at hv9
      have hv9 : v9 = .slice a9 (L + 1) c9 := hv9
      subst hv9
      have HO9 := Lib.hid hown9
      clear hK K HO7 HO8 HS7 HS8 hn8 hs8 hown9 hgr9
      simp only [Act.put, List.setIfInBounds_toArray, List.set_cons_zero, List.set_cons_succ]
      refine wpFl_qL (v := ?_) rfl (Or.inl ⟨by rfl, ?_⟩) ?_
      rotate_left
      focus (intro w' hSw; (try dsimp only [OldKept] at hSw); go_simp; (try with_reducible rfl); done)
      simp only [Act.put, List.setIfInBounds_toArray, List.set_cons_zero, List.set_cons_succ]
      refine wpFl_lL rfl (fun w10 hn10 hs10 K hK => ?_)
      have HO10 := Lib.hid (OwnE.far HO9.out hn10 (Nat.le_refl _))
      obtain ⟨z0, z1, zf⟩ := two_cells hs10.2.2
      have HN10 : Hid (OtherAt w w1 (w10.setCell ⟨b9, 1, none⟩ (.slice a9 (L + 1) c9)) b9 car (.slice a9 (L + 1) c9) (XS ++ [E])) := Lib.hid (by
        have hB : Below w.heap.size w w10 := hA.out.1.trans (hs10.2.1.mono hsw1)
        refine ⟨hB.setCell (p := ⟨b9, 1, none⟩) (by show w.heap.size ≤ b9; omega) _, (Below.heap_setCell _ _ _ _ (by show w.heap.size + 1 ≠ b9; omega)).trans ((hs10.2.1.block _ (by omega)).trans hA.out.2.1), heap_setCell_same (i := 1) (.slice a9 (L + 1) c9) hs10.2.2, ?_⟩
        exact OwnE.grownT HO10.out hs10.2.2 (fun c e => by cases e) (grown_setCell (grown_refl _ _) ⟨b9, 1, none⟩ (.inl rfl) _))
      clear HO9 HO10 HK9
      go_simp
      refine hK.out _ _ (NoPanic.normal ?_)
      clear hK K z0 z1 zf hs10 hn10 HYC HS0 c0 c1 cf
      go_wp2
      go_roundw
      case rel => exact ⟨k + 1, _, by omega, by go_num, Lib.hid (by rw [HT.out]; exact HN10.out)⟩
      case measure => simp [intOf]; omega
    · have ek : k = M := by omega
      subst ek
      have HOX : Hid (XS = otherL xs at' ys) := Lib.hid (by rw [HXS.out, HOT.out, HME.out])
      have r1 := two_cells hA.out.2.1
      obtain ⟨r0, r1, rf⟩ := r1
      have HF2 := Lib.hid (two_heap hA.out.2.1 (.int .i64 car) (.slice ua L uc))
      have HB2 := Lib.hid (two_below hA.out.1 (Nat.le_succ _) (.int .i64 car) (.slice ua L uc))
      have HS2 := Lib.hid (OwnE.mono (OwnS.two hA.out.2.2.2 hA.out.2.1 (by decide) (.int .i64 car) (.slice ua L uc)) (base' := w.heap.size) (by omega))
      by_cases hkn : k < ny
      · have h12 : ¬ L < 12 := fun h => by have := HK.out.2 ⟨hkn, hLk.1 h⟩; omega
        have t12 : ¬ (L : Int) < 12 := by omega
        have tkn : (k : Int) < (ny : Int) := by omega
        go_wp2
        exact bodyPost_ret (results_cell_row rfl _ _ (w.heap.size + 1) 26 #[.int .i64 car, .slice ua L uc] (0, 0) _ rfl HF2.out Tryz.underlying26 rfl infoReg) rfl ⟨_, rfl, by rw [← HOX.out]; exact HS2.out, HB2.out⟩
      · have tkn : ¬ (k : Int) < (ny : Int) := by omega
        go_wp2
        exact bodyPost_ret (results_cell_row rfl _ _ (w.heap.size + 1) 26 #[.int .i64 car, .slice ua L uc] (0, 0) _ rfl HF2.out Tryz.underlying26 rfl infoReg) rfl ⟨_, rfl, by rw [← HOX.out]; exact HS2.out, HB2.out⟩
end Go.Proofs.YtinfpbkbnhcifaaGreatDoor
