/- The walk of rects: the rectangles of a grid. The conditions: the grid's cells, the table of bits.TrailingZeros64. -/
import Derived.Test.YtbpkfpkhnkcgkaaDoorRWA7
import Derived.Test.YtbpkfpkhnkcgkaaDoorRBSpec
import Derived.Test.YtbpkfpkhnkcgkaaDoorRLate
import Derived.OwnWalk
namespace Go.Proofs.YtbpkfpkhnkcgkaaDoorR
open Go.RowKit Go.BigFrame Go.Shelf

attribute [local go_sem] Oper.semAt_some

def bitsOf (g : Nat → Nat) : Nat → Nat → Bool := fun y x => (g y).testBit x

theorem infoRect : (Tryd.prog.info? 36).map (fun i => (i.zero, i.size, i.bytes)) = some (some (.agg #[.int .i64 0, .int .i64 0, .int .i64 0, .int .i64 0]), 4, 32) := by kernel_rfl
theorem onesQ_any (n : Nat) (w : World) (h1 : n < 18446744073709551616) :
    Calls Tryd.prog 41 #[.int .u64 n] w fun e w' => e = .returned (.int .i64 (bitsum 64 n : Nat)) ∧ ∃ m, w' = w.drewN m :=
  (ones_any n w h1).mono fun _ _ h => ⟨h.1, 0, h.2.symm⟩

set_option maxRecDepth 100000 in
set_option maxHeartbeats 4000000 in
theorem grects_any (b : Nat) (g : Nat → Nat) (w : World) (hb : w.heap[b]? = some (.cells (gcells g) 62 (0, 0))) (hg : Words g) (ht : Tab w) (hgt : 0 < w.heap.size) :
    Calls Tryd.prog 46 #[.pointer (some ⟨b, 0, none⟩)] w fun e w' => ∃ v, e = .returned v ∧ RS w' v (rectsS (bitsOf g)) ∧ Below w.heap.size w w' := by
  refine calls_of_callsIn (n := 8) Wide.wide (callsIn_of_wp_marks Tryd.func46 rfl trivial ?_)
  simp only [Tryd.ntmps46, List.size_toArray, List.length_cons, List.length_nil, Nat.reduceAdd, Nat.reduceSub, Array.replicate_succ, Array.replicate_zero, List.push_toArray, List.append_toArray, List.nil_append, List.cons_append]
  gi_wp2
  refine wpIn_loop (fun a' wr => ∃ (k n : Nat) (u4 u9 u10 u11 u12 u13 u14 u15 u16 u44 v : Value) (Ds : List Nat), k ≤ 64 ∧ n ≤ k * 64 ∧ a' = ⟨#[.pointer (some ⟨b, 0, none⟩), .pointer (some ⟨w.heap.size, 0, none⟩), .slice none 0 0, .pointer (some ⟨w.heap.size + 1, 0, none⟩), u4, undef, undef, undef, .int .i64 (k : Nat), u9, u10, u11, u12, u13, u14, u15, u16, undef, undef, undef, undef, undef, undef, undef, undef, undef, undef, undef, undef, undef, undef, undef, undef, undef, undef, undef, undef, undef, undef, undef, undef, undef, undef, undef, u44, undef], Ds.map mark⟩ ∧ Hid (wr.heap[w.heap.size]? = some (.cells #[.pointer (some ⟨b, 0, none⟩)] 73 (0, 0))) ∧ Hid (wr.heap[w.heap.size + 1]? = some (.cells #[v] 24 (0, 0))) ∧
    Hid (wr.ownsRow w.heap.size 36 4 v n (rcells (rectsUpto (bitsOf g) k))) ∧ Hid (n = (rectsUpto (bitsOf g) k).length) ∧ Hid (Marks w.heap.size Ds wr) ∧ Below w.heap.size w wr ∧ w.heap.size + 2 ≤ wr.heap.size)
    (fun a' _ => 64 - (intOf (a'.tmps.getD 8 undef)).toNat) ?start ?round
  case start =>
    refine ⟨0, 0, _, _, _, _, _, _, _, _, _, _, .slice none 0 0, [], by omega, by omega, rfl, ?_, ?_, ?_, rfl, ⟨List.nodup_nil, fun D h => absurd h List.not_mem_nil⟩, ?_, ?_⟩
    · exact (heap_alloc2_old w _ _)
    · exact (heap_alloc2_new w _ _)
    · exact ⟨rfl, .inl ⟨rfl, rfl⟩⟩
    · exact (Below.refl _ w).alloc (Nat.le_refl _) _ |>.alloc (by simp) _
    · simp
  case round =>
    rintro a' wr ⟨k, n, u4, u9, u10, u11, u12, u13, u14, u15, u16, u44, v, Ds, hk, hn, rfl, hp, ho, hv, hl, hM, hB, hsz⟩
    by_cases hk' : k < 64
    · gi_wp2
      obtain ⟨W1, hW1⟩ : ∃ W1, W1 = wr.alloc (.cells #[.int .i64 (k : Nat)] 3) := ⟨_, rfl⟩
      have hB1 : Below w.heap.size w W1 := by rw [hW1]; exact hB.alloc hB.size _
      have hg1 : wr.grownBy W1 none := by rw [hW1]; exact World.grownBy_alloc _ _ _
      have hs1 : W1.heap.size = wr.heap.size + 1 := by rw [hW1]; simp
      have hp1 : W1.heap[w.heap.size]? = some (.cells #[.pointer (some ⟨b, 0, none⟩)] 73 (0, 0)) := (hg1.block _ (by omega) (by simp)).trans hp.out
      have ho1 : W1.heap[w.heap.size + 1]? = some (.cells #[v] 24 (0, 0)) := (hg1.block _ (by omega) (by simp)).trans ho.out
      have hy1 : W1.heap[wr.heap.size]? = some (.cells #[.int .i64 (k : Nat)] 3 (0, 0)) := by rw [hW1]; exact heap_alloc_new _ _
      have hv1 := owns_any hv.out hg1
      have hsW : w.heap.size + 2 ≤ wr.heap.size := hsz
      have hM1 : Marks w.heap.size Ds W1 := hM.out.keep (fun q o hq _ => (hg1.block q (Array.getElem?_eq_some_iff.1 hq).1 (by simp)).trans hq)
      have hMl := hM.out.lt
      rw [← hW1]
      clear hp ho hv hM hB hg1 hW1
      have cP : W1.cell? ⟨w.heap.size, 0, none⟩ = some (.pointer (some ⟨b, 0, none⟩)) := cell_of_row W1 _ 0 _ _ _ hp1
      have cY : W1.cell? ⟨wr.heap.size, 0, none⟩ = some (.int .i64 (k : Nat)) := cell_of_row W1 _ 0 _ _ _ hy1
      have hbl : b < w.heap.size := (Array.getElem?_eq_some_iff.1 hb).1
      have hbW : W1.heap[b]? = some (.cells (gcells g) 62 (0, 0)) := (hB1.block b hbl).trans hb
      have cG : W1.cell? ⟨b, k, none⟩ = some (.int .u64 (g k : Nat)) := by rw [cell_of_row W1 _ k _ _ _ hbW, gcells_get _ _ hk']
      have HbW := Lib.hid hbW
      clear hbW
      refine wpIn_region_quiet_tail 5 (fun w' => ∃ n, w' = W1.drewN n) Wide.wide (by kernel_rfl) (by kernel_rfl) ⟨1, rfl⟩ ?_
      simp only [List.take_succ_cons, List.take_zero, List.drop_succ_cons, List.drop_zero]

      repeat (go_big_quiet_step (fail))
      refine wpQuiet_nil ?_
      rintro _ ⟨nq, rfl⟩
      gi_wp2_with (refine ⟨trivial, ?_⟩; gi_at_call 50; refine (callsIn_of_calls Wide.wide (ivs_any (g k) _)).mono ?_; rintro e wq ⟨rfl, rfl⟩)
      obtain ⟨W2, hW2⟩ : ∃ W2, W2 = (W1.drewN nq).alloc (.cells #[.int .u64 (g k : Nat)] 59) := ⟨_, rfl⟩
      have hg2 : W1.grownBy W2 none := by rw [hW2]; exact grown_trans (grown_drewN (grown_refl _ _) nq) (World.grownBy_alloc _ _ _)
      have hB2 : Below w.heap.size w W2 := hB1.grown hg2 hB1.size (by intro q e; cases e)
      have hs2 : W2.heap.size = W1.heap.size + 1 := by rw [hW2]; simp
      have hc2 : W2.heap[W1.heap.size]? = some (.cells #[.int .u64 (g k : Nat)] 59 (0, 0)) := by rw [hW2]; exact heap_alloc_new _ _
      have hp2 : W2.heap[w.heap.size]? = some (.cells #[.pointer (some ⟨b, 0, none⟩)] 73 (0, 0)) := (hg2.block _ (by omega) (by simp)).trans hp1
      have ho2 : W2.heap[w.heap.size + 1]? = some (.cells #[v] 24 (0, 0)) := (hg2.block _ (by omega) (by simp)).trans ho1
      have hy2 : W2.heap[wr.heap.size]? = some (.cells #[.int .i64 (k : Nat)] 3 (0, 0)) := (hg2.block _ (by omega) (by simp)).trans hy1
      have hv2 := owns_any hv1 hg2
      have hM2 : Marks w.heap.size Ds W2 := hM1.keep (fun q o hq _ => (hg2.block q (Array.getElem?_eq_some_iff.1 hq).1 (by simp)).trans hq)
      rw [← hW2]
      rw [hs1] at hs2 hc2
      clear hW2 hp1 ho1 hy1 hv1 hM1 hB1 hg2 cP cY cG HbW
      refine wpIn_range (n := 8) Wide.wide rfl (gf := 53) (lb := #[.pointer (some ⟨(wr.heap.size + 1), 0, none⟩)]) ?ev (fun args w => ?enter) (ivs1_iter (wr.heap.size + 1) (g k) W2 (hg k) hc2) (Below.refl _ _) (fun x => rfl) (fun q e => ?row) (fun h h' => h'.trans h) (fun W l o o' h1 h2 h3 h4 => ?kb)
        (fun pre W => ∃ vv, ((W.ownsRow w.heap.size 36 4 vv (rectsUpto (bitsOf g) k ++ (pre.map (·.1)).filterMap (rectOf (bitsOf g) k)).length (rcells (rectsUpto (bitsOf g) k ++ (pre.map (·.1)).filterMap (rectOf (bitsOf g) k))) ∧ ∃ c, W.heap[(wr.heap.size + 1)]? = some (.cells c 59 (0, 0))) ∧
          W.heap[w.heap.size + 1]? = some (.cells #[vv] 24 (0, 0))) ∧ (W.heap[w.heap.size]? = some (.cells #[.pointer (some ⟨b, 0, none⟩)] 73 (0, 0)) ∧ (W.heap[wr.heap.size]? = some (.cells #[.int .i64 (k : Nat)] 3 (0, 0)) ∧ (Marks w.heap.size Ds W ∧ Below w.heap.size w W))))
        (fun _ _ _ => False) ?abide (fun _ => abide_false _ _) ?here
        (fun x => ⟨#[.pointer (some ⟨b, 0, none⟩), .pointer (some ⟨w.heap.size, 0, none⟩), .slice none 0 0, .pointer (some ⟨w.heap.size + 1, 0, none⟩), .pointer (some ⟨wr.heap.size, 0, none⟩), .int .u64 (rowS x.1.1 x.1.2 : Nat), undef, undef, .int .i64 (k : Nat), .bool true, .int .i64 (k : Nat), .pointer (some ⟨b, 0, none⟩), .int .i64 (k : Nat), .pointer (some ⟨b, 0, none⟩), .pointer (some ⟨b, k, none⟩), .int .u64 (g k : Nat), .func (.func 53) #[] #[.pointer (some ⟨(wr.heap.size + 1), 0, none⟩)], .int .u64 (rowS x.1.1 x.1.2 : Nat), undef, undef, undef, undef, undef, undef, undef, undef, undef, undef, undef, undef, undef, undef, undef, undef, undef, undef, undef, undef, undef, undef, undef, undef, undef, undef, u44, undef], []⟩) (fun l x W K hK => ?assign) (fun l pre x W hI hlen => ?body) (fun D xs W hD hS hI hDm => ?done) (fun D c pre W hD hS hI => hI.elim)
      case ev => rfl
      case enter => kernel_rfl
      case row => cases e; rw [hs2]; omega
      case kb =>
        refine World.putObj_heap_other (fun e => ?_)
        omega
      case abide =>
        have hlt : ∀ D ∈ Ds, D < W2.heap.size ∧ some (wr.heap.size + 1) ≠ some D := fun D hD => by
          have := hMl D hD
          exact ⟨by omega, fun e => by cases e; omega⟩
        exact abide_ex fun vv => abide_and (abide_and (abide_owns vv _ _ (by decide)) (abide_cells (fun _ => .cells #[vv] 24 (0, 0)) (fun _ => rfl) (fun e => by have := Option.some.inj e; omega)))
          (abide_and (abide_old _ (by omega) (fun e => by have := Option.some.inj e; omega)) (abide_and (abide_old _ (by omega) (fun e => by have := Option.some.inj e; omega)) (abide_and (abide_marks hlt) (abide_below (by omega) (Nat.le_refl _) (fun q e => by cases e; omega)))))
      case here =>
        refine ⟨v, ⟨⟨?_, _, hc2⟩, ho2⟩, hp2, hy2, hM2, hB2⟩
        rw [hl.out] at hv2
        simpa using hv2
      case assign =>
        simp only [IV.enc, List.zip_toArray, List.zip_cons_cons, List.zip_nil_right, List.foldl_toArray', List.foldl_cons, List.foldl_nil, List.setIfInBounds_toArray, List.set_cons_succ, List.set_cons_zero]
        gi_wp2
        exact hK
      case body =>
        obtain ⟨vv, ⟨⟨h1, h2⟩, h3⟩, h4, h5, h6, h7⟩ := hI
        obtain ⟨⟨ll, rr⟩, hlr, hr64⟩ := x
        dsimp only at hlr hr64
        have HlenL : (rectsUpto (bitsOf g) k ++ (pre.map (·.1)).filterMap (rectOf (bitsOf g) k)).length ≤ 4160 := by
          have e1 := List.length_filterMap_le (rectOf (bitsOf g) k) (pre.map (·.1))
          rw [List.length_map] at e1
          rw [List.length_append, ← hl.out]
          omega
        have H1 := Lib.hid h1
        have H2 := Lib.hid h2
        have H3 := Lib.hid h3
        have H4 := Lib.hid h4
        have H5 := Lib.hid h5
        have H6 := Lib.hid h6
        have hbW : W.heap[b]? = some (.cells (gcells g) 62 (0, 0)) := (h7.block b hbl).trans hb
        have HbW := Lib.hid hbW
        have HT : Hid (Tab W) := ht.below h7 hgt
        have cP : W.cell? ⟨w.heap.size, 0, none⟩ = some (.pointer (some ⟨b, 0, none⟩)) := cell_of_row W _ 0 _ _ _ h4
        have cY : W.cell? ⟨wr.heap.size, 0, none⟩ = some (.int .i64 (k : Nat)) := cell_of_row W _ 0 _ _ _ h5
        have HCO : Hid (W.cell? ⟨w.heap.size + 1, 0, none⟩ = some vv) := cell_of_row W _ 0 _ _ _ h3
        have hu := rowS_lt ll rr hr64
        have HB7 := Lib.hid h7
        have hs7 := h7.size
        have hwW : wr.heap.size < W.heap.size := (Array.getElem?_eq_some_iff.1 h5).1
        clear h1 h2 h3 h4 h5 h6 h7 hbW hp2 ho2 hy2 hv2 hM2 hB2 hc2 hb

        have hiv : hasS g ((k : Int) - 1) (rowS ll rr) = decide (0 < k ∧ isIv (bitsOf g (k - 1)) ll rr = true) := by
          rw [hasS_iv g _ ll rr hlr hr64 hg]
          by_cases hk0 : 0 < k
          · have e1 : ((k : Int) - 1).toNat = k - 1 := by omega
            rw [e1, decide_eq_true (by omega : (0 : Int) ≤ (k : Int) - 1), decide_eq_true (by omega : (k : Int) - 1 < 64)]
            simp [hk0]
            rfl
          · rw [decide_eq_false (by omega : ¬ (0 : Int) ≤ (k : Int) - 1)]
            simp [hk0]
        have HIV := Lib.hid hiv
        clear hiv
        by_cases hc : 0 < k ∧ isIv (bitsOf g (k - 1)) ll rr = true
        · have HC := Lib.hid hc
          clear hc
          gi_wp2_with (refine ⟨trivial, ?_⟩; gi_at_call 51; refine (callsIn_of_calls (Wide.inRound Wide.wide _) (ghas_any b g _ _ _ HbW.out hg hu (by omega) (by omega))).mono ?_; rintro e wq ⟨he, rfl⟩; rw [HIV.out, decide_eq_true HC.out] at he; cases he)
          refine ⟨KeepsFrom.refl _ _, rfl, vv, ⟨⟨?_, H2.out⟩, H3.out⟩, H4.out, H5.out, H6.out, HB7.out⟩
          have e1 : rectOf (bitsOf g) k (ll, rr) = none := by unfold rectOf; rw [if_pos HC.out]
          rw [List.map_append, List.filterMap_append, List.map_cons, List.map_nil, List.filterMap_cons, e1, List.filterMap_nil, List.append_nil]
          exact H1.out
        · have HC := Lib.hid hc
          clear hc
          gi_wp2_with (refine ⟨trivial, ?_⟩; gi_at_call 51; refine (callsIn_of_calls (Wide.inRound Wide.wide _) (ghas_any b g _ _ _ HbW.out hg hu (by omega) (by omega))).mono ?_; rintro e wq ⟨he, rfl⟩; rw [HIV.out, decide_eq_false HC.out] at he; cases he)
          gi_loop [6] (fun h => ∃ y : Nat, k + 1 ≤ y ∧ y ≤ 64 ∧ h = .int .i64 y ∧ Hid (∀ z, k + 1 ≤ z → z < y → isIv (bitsOf g z) ll rr = true)) (fun h => 64 - (intOf h).toNat)
          case atStart => exact ⟨k + 1, Nat.le_refl _, by omega, by go_num, fun z h1 h2 => by omega⟩
          case round =>
            obtain ⟨y, hy1, hy2, rfl, hall⟩ := hrel
            have hiv : hasS g (y : Int) (rowS ll rr) = decide (y < 64 ∧ isIv (bitsOf g y) ll rr = true) := by
              rw [hasS_iv g _ ll rr hlr hr64 hg]
              by_cases hk0 : y < 64
              · rw [decide_eq_true (by omega : (0 : Int) ≤ (y : Int)), decide_eq_true (by omega : (y : Int) < 64)]
                simp [hk0]
                rfl
              · rw [decide_eq_false (by omega : ¬ (y : Int) < 64)]
                simp [hk0]
            have HIY := Lib.hid hiv
            clear hiv
            by_cases hc : y < 64 ∧ isIv (bitsOf g y) ll rr = true
            · have hy64 := hc.1
              have HC2 := Lib.hid hc
              clear hc
              gi_wp2_with (refine ⟨trivial, ?_⟩; gi_at_call 51; refine (callsIn_of_calls (Wide.inRound Wide.wide _) (ghas_any b g _ _ _ HbW.out hg hu (by omega) (by omega))).mono ?_; rintro e wq ⟨he, rfl⟩; rw [HIY.out, decide_eq_true HC2.out] at he; cases he)
              go_round
              case rel =>
                refine ⟨y + 1, by omega, by omega, by go_num, fun z h1 h2 => ?_⟩
                rcases Nat.lt_or_ge z y with h3 | h3
                · exact hall.out z h1 h3
                · obtain rfl : z = y := by omega
                  exact HC2.out.2
              case measure => simp [intOf]; omega
            · have hhi : hiOf (bitsOf g) ll rr k = y := by
                refine endOf_eq _ y hy2 ?_ 64 (k + 1) hy1 (by omega) (fun z h1 h2 => hall.out z h1 h2)
                by_cases h64 : y < 64
                · right
                  cases hh : isIv (bitsOf g y) ll rr
                  · rfl
                  · exact absurd ⟨h64, hh⟩ hc
                · left; omega
              have HHI := Lib.hid hhi
              have HC2 := Lib.hid hc
              clear hc hhi
              gi_wp2_with (first | (refine ⟨trivial, ?_⟩; gi_at_call 51; refine (callsIn_of_calls (Wide.inRound Wide.wide _) (ghas_any b g _ _ _ HbW.out hg hu (by omega) (by omega))).mono ?_; rintro e wq ⟨he, rfl⟩; rw [HIY.out, decide_eq_false HC2.out] at he; cases he) | (refine ⟨trivial, ?_⟩; gi_at_call 52; refine (callsIn_of_calls (Wide.inRound Wide.wide _) (tz_mask ll rr _ hlr hr64 HT.out)).mono ?_; rintro e wq ⟨rfl, rfl⟩))
              refine wpIn_region_late 9 1 [0] (fun w' => ∃ n, w' = W.drewN n) (fun w' => w'.cell? ⟨w.heap.size + 1, 0, none⟩ = some vv) (Wide.inRound Wide.wide _) (by kernel_rfl) (by kernel_rfl) ⟨1, rfl⟩ ?_
              simp only [List.take_succ_cons, List.take_zero, List.drop_succ_cons, List.drop_zero]
              have cO := HCO.out
              repeat (go_big_quiet_step ((go_at_call 41; exact Calls.quiet_of (onesQ_any _ _ hu))))
              refine wpQuiet_nil ?_
              refine ⟨fun w' hw' i o hi ho => ?late, ?_⟩
              case late =>
                have hi0 : i = 0 := by simpa using hi
                subst hi0
                simp only [List.getElem?_toArray, List.getElem?_cons_zero, Option.some.injEq] at ho
                subst ho
                refine ⟨vv, ?_, fun d hd => by simp at hd; subst hd; rfl⟩
                simp [execOp, go_sem, hw']
              rintro _ ⟨nq, rfl⟩
              refine ⟨cO, ?_⟩
              refine wpTail_step rfl ?_
              go_wp2
              have hrr : wrap64 ((ll : Int) + (bitsum 64 (rowS ll rr) : Nat)) = (rr : Int) := by
                rw [bitsum_mask ll rr (by omega) 64, Nat.min_eq_right hr64, Nat.min_eq_right (by omega : ll ≤ 64)]
                rw [show (ll : Int) + ((rr - ll : Nat) : Int) = (rr : Int) by omega]
                exact IntWalk.wrap64_in _ ⟨by omega, by omega⟩
              rw [hrr]
              obtain ⟨W3, hW3⟩ : ∃ W3, W3 = (W.drewN nq).alloc (.cells #[.int .i64 (ll : Nat), .int .i64 (rr : Nat), .int .i64 (k : Nat), .int .i64 (y : Nat)] 36) := ⟨_, rfl⟩
              have hg3 : W.grownBy W3 none := by rw [hW3]; exact grown_trans (grown_drewN (grown_refl _ _) nq) (World.grownBy_alloc _ _ _)
              have hs3 : W3.heap.size = W.heap.size + 1 := by rw [hW3]; simp
              have hn3 : W3.heap[W.heap.size]? = some (.cells #[.int .i64 (ll : Nat), .int .i64 (rr : Nat), .int .i64 (k : Nat), .int .i64 (y : Nat)] 36 (0, 0)) := by rw [hW3]; exact heap_alloc_new _ _
              have old3 : ∀ (q : Nat) (o : Obj), W.heap[q]? = some o → W3.heap[q]? = some o := fun q o hq => (hg3.block q (Array.getElem?_eq_some_iff.1 hq).1 (by simp)).trans hq
              rw [← hW3]
              clear hW3
              refine ⟨rfl, cell_of_row W3 _ 0 _ _ _ (old3 _ _ H3.out), ?_⟩
              unfold wpTail
              obtain ⟨i, i1, i2, i3, i4⟩ := info_parts infoRect
              have hown := owns_any H1.out hg3
              refine wpList_append_own W3 rfl (.tmp 33) (.tmp 42) 24 rfl w.heap.size 36 i _ 4 32 (by kernel_rfl) i1 i2 i3 i4 rfl (by decide) vv _ _ rfl hown ⟨W.heap.size, 0, none⟩ 1 1
                (R4.cells ⟨ll, rr, k, y⟩) rfl rfl ?_ ?_ ?_ ?_ (by omega) ?_
              · intro j u hj
                have ea : (⟨W.heap.size, 0, none⟩ : Addr).add j = ⟨W.heap.size, 0 + j, none⟩ := by
                  unfold Addr.add
                  split
                  · rename_i hj0; subst hj0; rfl
                  · rfl
                rw [ea]
                rw [cell_of_row W3 _ (0 + j) _ _ _ hn3, Nat.zero_add, List.getElem?_toArray]
                exact hj
              · intro u hu
                simp only [R4.cells, List.mem_cons, List.not_mem_nil, or_false] at hu
                rcases hu with rfl | rfl | rfl | rfl <;> rfl
              · unfold maxLen; omega
              · omega
              intro v' W4 hv4 hg4 _
              obtain ⟨sa, sn, sc, hsl⟩ := owns_slice hv4
              subst hsl
              have keep4 : ∀ (q : Nat) (o : Obj), W.heap[q]? = some o → (∀ c, o ≠ .cells c 36 (0, 0)) → W4.heap[q]? = some o := fun q o hq hne =>
                (hg4.block q (Array.getElem?_eq_some_iff.1 (old3 _ _ hq)).1 (own_ne hown (old3 _ _ hq) hne)).trans (old3 _ _ hq)
              have ho4 := keep4 _ _ H3.out (fun c => by simp)
              have hp4 := keep4 _ _ H4.out (fun c => by simp)
              have hy4 := keep4 _ _ H5.out (fun c => by simp)
              have hc4 : ∃ c, W4.heap[wr.heap.size + 1]? = some (.cells c 59 (0, 0)) := by
                obtain ⟨c, hc⟩ := H2.out
                exact ⟨c, keep4 _ _ hc (fun c => by simp)⟩
              have cO4 : W4.cell? ⟨w.heap.size + 1, 0, none⟩ = some vv := cell_of_row W4 _ 0 _ _ _ ho4
              have cF4 : W4.frozen? ⟨w.heap.size + 1, 0, none⟩ = false := frozen_of_row _ _ _ _ _ ho4
              have HO4 := Lib.hid ho4
              have HP4 := Lib.hid hp4
              have HY4 := Lib.hid hy4
              have HC4 := Lib.hid hc4
              have HG4 := Lib.hid hg4
              have HG3 := Lib.hid hg3
              have HV4 := Lib.hid hv4
              have HN3 := Lib.hid hn3
              clear ho4 hp4 hy4 hc4 hn3
              go_wp2
              have hg5 : W4.grownBy (W4.setCell ⟨w.heap.size + 1, 0, none⟩ (.slice sa sn sc)) (some (w.heap.size + 1)) := grown_setCell (grown_refl _ _) _ (.inl rfl) _
              have keep5 : ∀ (q : Nat) (o : Obj), W4.heap[q]? = some o → q ≠ w.heap.size + 1 → (W4.setCell ⟨w.heap.size + 1, 0, none⟩ (.slice sa sn sc)).heap[q]? = some o := fun q o hq hne =>
                (hg5.block q (Array.getElem?_eq_some_iff.1 hq).1 (fun e => hne (Option.some.inj e))).trans hq
              obtain ⟨cc, hcc⟩ := H2.out
              have hcc4 := keep4 _ _ hcc (fun c => by simp)
              refine ⟨rfl, ⟨?ksize, ?ksame⟩, ?kp, .slice sa sn sc, ⟨⟨?own, cc, ?cc⟩, ?ob⟩, ?pb, ?yb, ?marks, ?below⟩
              case ksize => exact Nat.le_trans (Nat.le_trans (by omega) hg4.size) hg5.size
              case ksame =>
                intro q o hB hq hnc
                refine keep5 q o (keep4 q o hq (fun c e => by rw [e] at hnc; cases hnc)) (fun e => ?_)
                rw [e, H3.out] at hq
                cases hq; cases hnc
              case kp => exact (keep5 _ _ hcc4 (by omega)).trans hcc.symm
              case own =>
                have e1 : rectOf (bitsOf g) k (ll, rr) = some ⟨ll, rr, k, y⟩ := by unfold rectOf; rw [if_neg (fun h => HC.out h), HHI.out]
                have e2 : rectsUpto (bitsOf g) k ++ ((pre ++ [⟨(ll, rr), hlr, hr64⟩] : List IV).map (·.1)).filterMap (rectOf (bitsOf g) k) = (rectsUpto (bitsOf g) k ++ (pre.map (·.1)).filterMap (rectOf (bitsOf g) k)) ++ [⟨ll, rr, k, y⟩] := by
                  rw [List.map_append, List.filterMap_append, List.map_cons, List.map_nil, List.filterMap_cons, e1, List.filterMap_nil, List.append_assoc]
                rw [e2, rcells_snoc, List.length_append]
                refine World.ownsRow.kept HV4.out hg5 (.inr (fun e => ?_))
                exact absurd e.symm (own_ne HV4.out HO4.out (fun c => by simp))
              case cc => exact keep5 _ _ hcc4 (by omega)
              case ob => exact heap_setCell_same _ HO4.out
              case pb => exact keep5 _ _ HP4.out (by omega)
              case yb => exact keep5 _ _ HY4.out (by omega)
              case marks =>
                refine H6.out.keep (fun q o hq hnc => keep5 q o (keep4 q o hq (fun c e => by rw [e] at hnc; cases hnc)) (fun e => ?_))
                rw [e, H3.out] at hq
                cases hq; cases hnc
              case below =>
                have h8 := HB7.out.grown hg3 HB7.out.size (by intro q e; cases e)
                have h9 := h8.grown hg4 h8.size (fun q e => (hown.lt q e).1)
                exact h9.grown hg5 h9.size (fun q e => by have := Option.some.inj e; omega)
      case done =>
        obtain ⟨vv, ⟨⟨h1, h2⟩, h3⟩, h4, h5, h6, h7⟩ := hI
        have hS' : xs.map (·.1) = ivs (bitsOf g k) := hS
        rw [hS'] at h1
        have h8 : rectsUpto (bitsOf g) k ++ (ivs (bitsOf g k)).filterMap (rectOf (bitsOf g) k) = rectsUpto (bitsOf g) (k + 1) := (rectsUpto_succ _ _).symm
        rw [h8] at h1
        have hsz7 := h7.size
        clear h8 h2 h5 hp2 ho2 hy2 hv2 hM2 hB2 hc2 hS hS'
        gi_wp2
        refine ⟨⟨k + 1, _, _, _, _, _, _, _, _, _, _, _, vv, D :: Ds, by omega, ?_, rfl, h4, h3, h1, rfl, ?_, h7, ?_⟩, ?_⟩
        · rw [rectsUpto_succ, List.length_append]
          have e1 := List.length_filterMap_le (rectOf (bitsOf g) k) (ivs (bitsOf g k))
          have e2 := ivsUpto_len (bitsOf g k) 64
          have e3 : (rowRects (bitsOf g) k).length ≤ 64 := Nat.le_trans e1 e2
          rw [← hl.out]
          omega
        · exact h6.cons hDm (by omega) (fun hh => by have := hMl D hh; omega)
        · have := (Array.getElem?_eq_some_iff.1 hDm).1
          omega
        · simp [intOf]
          omega
    · obtain rfl : k = 64 := by omega
      have cO : wr.cell? ⟨w.heap.size + 1, 0, none⟩ = some v := cell_of_row wr _ 0 _ _ _ ho.out
      gi_wp2
      refine leaves_marks (B := w.heap.size) Ds wr hM.out (fun W' hT => ⟨_, results_tmp rfl _ _ _, v, rfl, ?_, hB.trans hT.below⟩)
      refine RS.of_owns (base := w.heap.size) (e := 36) ?_
      have := hT.owns hv.out
      rw [hl.out] at this
      exact this
end Go.Proofs.YtbpkfpkhnkcgkaaDoorR
