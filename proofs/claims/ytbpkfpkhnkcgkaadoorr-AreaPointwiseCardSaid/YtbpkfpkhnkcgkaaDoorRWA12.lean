/- The walks of combine, Union, Common, Minus. The conditions: what the slices read as, the table of bits.TrailingZeros64. -/
import Derived.Test.YtbpkfpkhnkcgkaaDoorRWA11
import Derived.Test.YtbpkfpkhnkcgkaaDoorRPA2
namespace Go.Proofs.YtbpkfpkhnkcgkaaDoorR
open Go.RowKit Go.BigFrame

/-- A function of two rows. -/
def RowFn (F : Nat) (f : Nat → Nat → Nat) : Prop := (∀ (x y : Value) (w : World), (callFunc F #[x, y]).run Tryd.prog w = .ok (.enter F #[x, y]) w) ∧ ∀ (x y : Nat) (w : World), x < 18446744073709551616 → y < 18446744073709551616 →
  f x y < 18446744073709551616 ∧ Calls Tryd.prog F #[.int .u64 x, .int .u64 y] w fun e w' => e = .returned (.int .u64 (f x y : Nat)) ∧ w = w'

theorem union1_fn : RowFn 32 orF := ⟨fun _ _ _ => by kernel_rfl, fun x y w hx hy => ⟨or_lt _ _ hx hy, union1_any x y w hx hy⟩⟩
theorem common1_fn : RowFn 33 andF := ⟨fun _ _ _ => by kernel_rfl, fun x y w hx hy => ⟨by have : andF x y ≤ x := Nat.and_le_left; omega, common1_any x y w hx hy⟩⟩
theorem minus1_fn : RowFn 34 minF := ⟨fun _ _ _ => by kernel_rfl, fun x y w hx hy => ⟨minF_lt _ _ hx, minus1_any x y w hx hy⟩⟩

/-- The rows so far. -/
def mixG (f : Nat → Nat → Nat) (G H : Nat → Nat) (k : Nat) : Nat → Nat := fun y => if y < k then f (G y) (H y) else G y
theorem mixG_succ (f : Nat → Nat → Nat) (G H : Nat → Nat) (k : Nat) : upd (mixG f G H k) k (f (G k) (H k)) = mixG f G H (k + 1) := by
  funext y
  unfold upd mixG
  by_cases e : y = k
  · subst e; simp
  · rw [if_neg e]
    by_cases e2 : y < k
    · rw [if_pos e2, if_pos (by omega)]
    · rw [if_neg e2, if_neg (by omega)]

theorem gareaS_mix (f : Nat → Nat → Nat) (G H : Nat → Nat) : gareaS (mixG f G H 64) = gareaS (fun y => f (G y) (H y)) := by
  unfold gareaS
  have e : rectsS (bitsOf (mixG f G H 64)) = rectsS (bitsOf fun y => f (G y) (H y)) := rects_congr (fun y x hy _ => by
    unfold bitsOf mixG; rw [if_pos hy])
  rw [e]

theorem mixG_words {f : Nat → Nat → Nat} {G H : Nat → Nat} {F : Nat} (hF : RowFn F f) (hG : Words G) (hH : Words H) (k : Nat) (w : World) : Words (mixG f G H k) := by
  intro y
  unfold mixG
  split
  · exact (hF.2 _ _ w (hG y) (hH y)).1
  · exact hG y

set_option maxHeartbeats 2000000 in
set_option maxRecDepth 100000 in
theorem combine_any {w : World} {v v' : Value} {xs ys : List R4} (F : Nat) (f : Nat → Nat → Nat) (hF : RowFn F f) (hr : RS w v xs) (hr' : RS w v' ys) (he : Env w) :
    Calls Tryd.prog 31 #[v, v', .func (.func F) #[] #[]] w fun e w' => ∃ r, e = .returned (.tuple #[r, .int .i64 (combineS f xs ys).2]) ∧ RS w' r (combineS f xs ys).1 ∧ Below w.heap.size w w' := by
  have HR := Lib.hid hr
  have HR' := Lib.hid hr'
  have HE := Lib.hid he
  have HF := Lib.hid hF
  clear hr hr' he hF
  obtain ⟨G, hG⟩ : ∃ G, G = (openS xs).1 := ⟨_, rfl⟩
  obtain ⟨ok, hok⟩ : ∃ ok, ok = (openS xs).2 := ⟨_, rfl⟩
  obtain ⟨H, hH⟩ : ∃ H, H = (openS ys).1 := ⟨_, rfl⟩
  obtain ⟨also, halso⟩ : ∃ also, also = (openS ys).2 := ⟨_, rfl⟩
  have HWG : Hid (Words G) := Lib.hid (by rw [hG]; exact openS_words xs)
  have HWH : Hid (Words H) := Lib.hid (by rw [hH]; exact openS_words ys)
  have HC : Hid (combineS f xs ys = if ok = true ∧ also = true then gareaS (mixG f G H 64) else ([], 290)) := Lib.hid (by
    unfold combineS
    rw [gareaS_mix, hG, hH, hok, halso])
  have HG := Lib.hid hG
  have HO := Lib.hid hok
  have HH := Lib.hid hH
  have HA := Lib.hid halso
  clear hG hok hH halso
  go_enter Tryd.func31, Tryd.ntmps31
  go_wp2_with fail
  refine (open_any HR.out HE.out).mono ?_
  rintro e w2 ⟨rfl, hb2⟩
  rw [← HO.out, ← HG.out]
  have HB2 := Lib.hid hb2
  have hs2 := hb2.size
  clear hb2
  go_wp2_with (refine wpList_declA 62 (gcells zeroG) (gcells G) 8 (.tmp 16) zeroGrid rfl rfl rfl rfl rfl rfl rfl (gridSize _) (by simp only [gcells_size]) (gcells_one _) ?_)
  have HB3 := Lib.hid (HB2.out.alloc hs2 (.cells (gcells G) 62))
  have hg3 : (w2.alloc (.cells (gcells G) 62)).heap[w2.heap.size]? = some (.cells (gcells G) 62 (0, 0)) := heap_alloc_new _ _
  have hs3 : (w2.alloc (.cells (gcells G) 62)).heap.size = w2.heap.size + 1 := by simp
  generalize w2.alloc (.cells (gcells G) 62) = W3 at *
  refine (open_any (HR'.out.below HB3.out) (HE.out.below HB3.out (Nat.le_refl _))).mono ?_
  rintro e w4 ⟨rfl, hb4⟩
  rw [← HA.out, ← HH.out]
  have HG4 : Hid (w4.heap[w2.heap.size]? = some (.cells (gcells G) 62 (0, 0))) := Lib.hid ((hb4.block _ (by omega)).trans hg3)
  have hs4 := hb4.size
  have HB4 := Lib.hid (HB3.out.trans (hb4.mono (by omega)))
  clear hg3 hb4
  have HB5 := Lib.hid (HB4.out.alloc HB4.out.size (.cells (gcells H) 62))
  have HG5 : Hid ((w4.alloc (.cells (gcells H) 62)).heap[w2.heap.size]? = some (.cells (gcells G) 62 (0, 0))) := Lib.hid (by rw [Below.heap_alloc _ _ _ (by omega)]; exact HG4.out)
  have HH5 : Hid ((w4.alloc (.cells (gcells H) 62)).heap[w4.heap.size]? = some (.cells (gcells H) 62 (0, 0))) := Lib.hid (heap_alloc_new _ _)
  have hs5 : (w4.alloc (.cells (gcells H) 62)).heap.size = w4.heap.size + 1 := by simp
  have HE5 : Hid (Env (w4.alloc (.cells (gcells H) 62))) := Lib.hid (HE.out.below HB5.out (Nat.le_refl _))
  have HS5 := Lib.hid hs5
  clear HG4 hs5
  by_cases c : ok = true ∧ also = true
  · obtain ⟨rfl, rfl⟩ := c
    have HC' : Hid (combineS f xs ys = gareaS (mixG f G H 64)) := Lib.hid (by rw [HC.out, if_pos ⟨rfl, rfl⟩])
    clear HC
    go_wp2_with (refine wpList_declA 62 (gcells zeroG) (gcells H) 10 (.tmp 21) zeroGrid rfl rfl rfl rfl rfl rfl rfl (gridSize _) (by simp only [gcells_size]) (gcells_one _) ?_)
    have hs5 := HS5.out
    clear HS5
    generalize w4.alloc (.cells (gcells H) 62) = W5 at *
    go_loopw [29] (fun i wr => ∃ k : Nat, k ≤ 64 ∧ i = .int .i64 k ∧ Hid (wr.heap[w2.heap.size]? = some (.cells (gcells (mixG f G H k)) 62 (0, 0))) ∧ W5.grownBy wr (some w2.heap.size)) (fun i wr => 64 - (intOf i).toNat)
    case atStart =>
      refine ⟨0, by omega, rfl, ?_, grown_refl _ _⟩
      exact Lib.hid HG5.out
    case round =>
      obtain ⟨k, hk, rfl, hgr, hgw⟩ := hrel
      have HGW := Lib.hid hgw
      have hgs := hgw.size
      clear hgw
      by_cases hlt : k < 64
      · have hGk := HWG.out k
        have hHk := HWH.out k
        have cg : wr.cell? ⟨w2.heap.size, k, none⟩ = some (.int .u64 (G k : Nat)) := by
          rw [cell_of_row wr _ k _ _ _ hgr.out, gcells_get _ _ hlt]; simp [mixG]
        have ch : wr.cell? ⟨w4.heap.size, k, none⟩ = some (.int .u64 (H k : Nat)) := by
          rw [cell_of_row wr _ k _ _ _ ((HGW.out.block _ (by omega) (by simp; omega)).trans HH5.out), gcells_get _ _ hlt]
        have cf : wr.frozen? ⟨w2.heap.size, k, none⟩ = false := by
          simp [World.frozen?, hgr.out]
        have hcf := HF.out.1 (.int .u64 (G k : Nat)) (.int .u64 (H k : Nat))
        go_wp2
        refine wp_region_quiet_tail 10 (fun w' => ∃ n, w' = wr.drewN n) (by kernel_rfl) (by kernel_rfl) ⟨1, rfl⟩ ?_
        simp only [List.take_succ_cons, List.take_zero, List.drop_succ_cons, List.drop_zero]
        repeat (go_big_quiet_step (exact Calls.quiet_of_same ((HF.out.2 _ _ _ hGk hHk).2.mono fun _ _ h => ⟨h.1, h.2.symm⟩)))
        refine wpQuiet_nil ?_
        rintro _ ⟨nq, rfl⟩
        go_wp2
        go_roundw
        case rel =>
          have hfb := (HF.out.2 _ _ w hGk hHk).1
          refine ⟨k + 1, by omega, by go_num, ?_, grown_setCell (grown_drewN HGW.out _) _ (.inl rfl) _⟩
          have h1 : (wr.drewN nq).heap[w2.heap.size]? = wr.heap[w2.heap.size]? := rfl
          show (World.setCell _ _ _).heap[w2.heap.size]? = _
          rw [heap_setCell_same _ (h1.trans hgr.out), gcells_set _ _ _ hlt, mixG_succ]
        case measure => simp [intOf]; omega
      · obtain rfl : k = 64 := by omega
        have HBr : Hid (Below w.heap.size w wr) := Lib.hid (HB5.out.grown HGW.out (by omega) (fun j e => by cases e; omega))
        go_wp2_with (go_at_call 36; refine (garea_any w2.heap.size _ _ hgr.out (mixG_words HF.out HWG.out HWH.out 64 w) (HE.out.below HBr.out (Nat.le_refl _))).mono ?_; rintro e w6 ⟨r, rfl, hr6, hb6⟩; have HR6 := Lib.hid hr6; have HB6 := Lib.hid (HBr.out.trans (hb6.mono HBr.out.size)); clear hr6 hb6)
        refine bodyPost_ret (results_tmp2 rfl _ _ _) rfl ?_
        rw [HC'.out]
        exact ⟨_, rfl, HR6.out, HB6.out⟩
  · have HC' : Hid (combineS f xs ys = ([], 290)) := Lib.hid (by rw [HC.out, if_neg c])
    cases ok
    · clear c HC
      go_wp2_with (refine wpList_declA 62 (gcells zeroG) (gcells H) 10 (.tmp 21) zeroGrid rfl rfl rfl rfl rfl rfl rfl (gridSize _) (by simp only [gcells_size]) (gcells_one _) ?_)
      refine bodyPost_ret (results_tmp2 rfl _ _ _) rfl ?_
      rw [HC'.out]
      exact ⟨_, rfl, RS.nil _, HB5.out⟩
    · cases also
      · clear c HC
        go_wp2_with (refine wpList_declA 62 (gcells zeroG) (gcells H) 10 (.tmp 21) zeroGrid rfl rfl rfl rfl rfl rfl rfl (gridSize _) (by simp only [gcells_size]) (gcells_one _) ?_)
        refine bodyPost_ret (results_tmp2 rfl _ _ _) rfl ?_
        rw [HC'.out]
        exact ⟨_, rfl, RS.nil _, HB5.out⟩
      · exact absurd ⟨rfl, rfl⟩ c

set_option maxHeartbeats 400000 in
theorem union_any {w : World} {v v' : Value} {xs ys : List R4} (hr : RS w v xs) (hr' : RS w v' ys) (he : Env w) :
    Calls Tryd.prog 12 #[v, v'] w fun e w' => ∃ r, e = .returned (.tuple #[r, .int .i64 (unionS xs ys).2]) ∧ RS w' r (unionS xs ys).1 ∧ Below w.heap.size w w' := by
  have HR := Lib.hid hr
  have HR' := Lib.hid hr'
  have HE := Lib.hid he
  clear hr hr' he
  unfold unionS
  go_enter Tryd.func12, Tryd.ntmps12
  go_wp2_with (go_at_call 31; refine (combine_any _ orF union1_fn HR.out HR'.out HE.out).mono ?_; rintro e w2 ⟨r, rfl, h1, h2⟩)
  exact bodyPost_ret (results_tmp2 rfl _ _ _) rfl ⟨_, rfl, h1, h2⟩
set_option maxHeartbeats 400000 in
theorem common_any {w : World} {v v' : Value} {xs ys : List R4} (hr : RS w v xs) (hr' : RS w v' ys) (he : Env w) :
    Calls Tryd.prog 13 #[v, v'] w fun e w' => ∃ r, e = .returned (.tuple #[r, .int .i64 (commonS xs ys).2]) ∧ RS w' r (commonS xs ys).1 ∧ Below w.heap.size w w' := by
  have HR := Lib.hid hr
  have HR' := Lib.hid hr'
  have HE := Lib.hid he
  clear hr hr' he
  unfold commonS
  go_enter Tryd.func13, Tryd.ntmps13
  go_wp2_with (go_at_call 31; refine (combine_any _ andF common1_fn HR.out HR'.out HE.out).mono ?_; rintro e w2 ⟨r, rfl, h1, h2⟩)
  exact bodyPost_ret (results_tmp2 rfl _ _ _) rfl ⟨_, rfl, h1, h2⟩
set_option maxHeartbeats 400000 in
theorem minus_any {w : World} {v v' : Value} {xs ys : List R4} (hr : RS w v xs) (hr' : RS w v' ys) (he : Env w) :
    Calls Tryd.prog 14 #[v, v'] w fun e w' => ∃ r, e = .returned (.tuple #[r, .int .i64 (minusS xs ys).2]) ∧ RS w' r (minusS xs ys).1 ∧ Below w.heap.size w w' := by
  have HR := Lib.hid hr
  have HR' := Lib.hid hr'
  have HE := Lib.hid he
  clear hr hr' he
  unfold minusS
  go_enter Tryd.func14, Tryd.ntmps14
  go_wp2_with (go_at_call 31; refine (combine_any _ minF minus1_fn HR.out HR'.out HE.out).mono ?_; rintro e w2 ⟨r, rfl, h1, h2⟩)
  exact bodyPost_ret (results_tmp2 rfl _ _ _) rfl ⟨_, rfl, h1, h2⟩
end Go.Proofs.YtbpkfpkhnkcgkaaDoorR
