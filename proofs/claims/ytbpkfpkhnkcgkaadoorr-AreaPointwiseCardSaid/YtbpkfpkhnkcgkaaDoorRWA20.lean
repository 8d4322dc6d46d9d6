/- The walk of the reference's Made. The conditions: ranges, what the slice reads as. -/
import Derived.Test.YtbpkfpkhnkcgkaaDoorRWA19
namespace Go.Proofs.YtbpkfpkhnkcgkaaDoorR
open Go.RowKit Go.BigFrame

def emptyP : Nat → Nat → Bool := fun _ _ => false
theorem zeroGridB : ZeroIs Tryd.prog 54 (pcells emptyP) := fun w => by kernel_rfl
theorem gridDescB : Tryd.prog.underlying 54 = some (.array 64 52) := by kernel_rfl
theorem gridSizeB (p : Nat → Nat → Bool) : (Tryd.prog.info? 54).map (·.size) = some (pcells p).size := by
  rw [pcells_size]; kernel_rfl

/-- Places laid or taken away. -/
def lay (fl : Bool) (q : R4) (g : Nat → Nat → Bool) : Nat → Nat → Bool := fun y x => if inR x y q = true then fl else g y x
/-- .. those before a place in a row. -/
def layPart (fl : Bool) (q : R4) (g : Nat → Nat → Bool) (y x : Nat) : Nat → Nat → Bool := fun y' x' => if inR x' y' q = true ∧ (y' < y ∨ (y' = y ∧ x' < x)) then fl else g y' x'
theorem layPart_step (fl : Bool) (q : R4) (g : Nat → Nat → Bool) (y x : Nat) (h : inR x y q = true) : (fun y' x' => if y' = y ∧ x' = x then fl else layPart fl q g y x y' x') = layPart fl q g y (x + 1) := by
  funext y' x'
  unfold layPart
  by_cases e : y' = y ∧ x' = x
  · obtain ⟨rfl, rfl⟩ := e
    simp [h]
  · rw [if_neg e]
    by_cases h1 : inR x' y' q = true
    · by_cases h2 : y' < y ∨ (y' = y ∧ x' < x)
      · rw [if_pos ⟨h1, h2⟩, if_pos ⟨h1, by omega⟩]
      · rw [if_neg (fun k => h2 k.2), if_neg (fun k => h2 (by have := k.2; omega))]
    · rw [if_neg (fun k => h1 k.1), if_neg (fun k => h1 k.1)]
theorem layPart_start (fl : Bool) (q : R4) (g : Nat → Nat → Bool) (y : Nat) (hy : (y : Int) ≤ q.lo) (x : Nat) (hx : (x : Int) ≤ q.l) : layPart fl q g y x = g := by
  funext y' x'
  unfold layPart
  rw [if_neg]
  rintro ⟨h1, h2⟩
  have := (inR_iff _ _ _).1 h1
  omega
theorem layPart_row (fl : Bool) (q : R4) (g : Nat → Nat → Bool) (y x x2 : Nat) (hx : q.r ≤ (x : Int)) (hx2 : (x2 : Int) ≤ q.l) : layPart fl q g y x = layPart fl q g (y + 1) x2 := by
  funext y' x'
  unfold layPart
  by_cases h1 : inR x' y' q = true
  · have h3 := (inR_iff _ _ _).1 h1
    by_cases h2 : y' < y ∨ (y' = y ∧ x' < x)
    · rw [if_pos ⟨h1, h2⟩, if_pos ⟨h1, by omega⟩]
    · rw [if_neg (fun k => h2 k.2), if_neg (fun k => h2 (by have := k.2; omega))]
  · rw [if_neg (fun k => h1 k.1), if_neg (fun k => h1 k.1)]
theorem layPart_end (fl : Bool) (q : R4) (g : Nat → Nat → Bool) (y x : Nat) (hy : q.hi ≤ (y : Int)) : layPart fl q g y x = lay fl q g := by
  funext y' x'
  unfold layPart lay
  by_cases h1 : inR x' y' q = true
  · have h3 := (inR_iff _ _ _).1 h1
    rw [if_pos ⟨h1, by omega⟩, if_pos h1]
  · rw [if_neg (fun k => h1 k.1), if_neg h1]
theorem pcells_set (p : Nat → Nat → Bool) (y x : Nat) (v : Bool) (hy : y < 64) (hx : x < 64) : (pcells p).setIfInBounds (y * 64 + x) (.bool v) = pcells (fun y' x' => if y' = y ∧ x' = x then v else p y' x') := by
  apply Array.ext_getElem?
  intro i
  rw [Array.getElem?_setIfInBounds]
  by_cases hi : i < 4096
  · by_cases e : y * 64 + x = i
    · rw [if_pos e, if_pos (by rw [pcells_size]; omega), pcells_get _ _ hi]
      have h1 : i / 64 = y := by omega
      have h2 : i % 64 = x := by omega
      simp [h1, h2]
    · rw [if_neg e, pcells_get _ _ hi, pcells_get _ _ hi, if_neg (by omega)]
  · rw [Array.getElem?_eq_none (by rw [pcells_size]; omega), if_neg (by omega), Array.getElem?_eq_none (by rw [pcells_size]; omega)]

/-- What is laid by the first of the integers. -/
def madeUpto (xs : List R4) : Nat → Nat → Nat → Bool
  | 0 => emptyP
  | k + 1 => match xs[k]? with
    | some q => lay (k % 3 != 2) (oneR q) (madeUpto xs k)
    | none => madeUpto xs k
def madeP (xs : List R4) : Nat → Nat → Bool := madeUpto xs (min xs.length 6)
def madeS (xs : List R4) : List R4 := rectsS (madeP xs)
theorem madeUpto_succ (xs : List R4) (k : Nat) (q : R4) (h : xs[k]? = some q) : madeUpto xs (k + 1) = lay (k % 3 != 2) (oneR q) (madeUpto xs k) := by
  rw [madeUpto, h]

set_option maxHeartbeats 4000000 in
set_option maxRecDepth 100000 in
theorem made_any {w : World} {v : Value} {xs : List R4} (hr : RS w v xs) (hi : ∀ q ∈ xs, Int4 q) :
    Calls Tryd.prog 10 #[v] w fun e w' => ∃ r, e = .returned r ∧ RS w' r (madeS xs) ∧ Below w.heap.size w w' := by
  obtain ⟨a, cap, rfl, l1, l2, l3⟩ := hr.opened
  have H3 := Lib.hid l3
  have HI := Lib.hid hi
  clear l3 hr hi
  unfold maxLen at l2
  obtain ⟨n, hn⟩ : ∃ n, n = xs.length := ⟨_, rfl⟩
  rw [← hn] at l1 ⊢
  have HN := Lib.hid hn
  clear hn
  obtain ⟨Z, hZ⟩ : ∃ Z, Z = pcells emptyP := ⟨_, rfl⟩
  have hzz : ZeroIs Tryd.prog 54 Z := by rw [hZ]; exact zeroGridB
  have HZ := Lib.hid hZ
  have HZZ := Lib.hid hzz
  clear hZ hzz
  go_enter Tryd.func10, Tryd.ntmps10
  go_wp2_with (refine wpList_allocA 54 Z HZZ.out rfl rfl ?_)
  have hbx : Hid ((w.alloc (.cells Z 54)).heap[w.heap.size]? = some (.cells (pcells (madeUpto xs 0)) 54 (0, 0))) := Lib.hid (by rw [heap_alloc_new _ _, HZ.out]; rfl)
  have HB0 : Hid (Below w.heap.size w (w.alloc (.cells Z 54))) := Lib.hid ((Below.refl _ _).alloc (Nat.le_refl _) _)
  have hs0 : (w.alloc (.cells Z 54)).heap.size = w.heap.size + 1 := by simp
  generalize w.alloc (.cells Z 54) = W0 at *
  go_loopw [4] (fun i wr => ∃ k : Nat, k ≤ n ∧ k ≤ 6 ∧ i = .int .i64 k ∧ Hid (wr.heap[w.heap.size]? = some (.cells (pcells (madeUpto xs k)) 54 (0, 0))) ∧ Below w.heap.size w wr ∧ w.heap.size < wr.heap.size) (fun i wr => 6 - (intOf i).toNat)
  case atStart => exact ⟨0, by omega, by omega, rfl, hbx, HB0.out, by omega⟩
  case round =>
    obtain ⟨w1, rfl⟩ : ∃ x : World, x = wr := ⟨_, rfl⟩
    obtain ⟨k, hk, hk6, rfl, hbox, hB, hsz⟩ := hrel
    by_cases hlt : k < n
    · by_cases hlt6 : k < 6
      · obtain ⟨q, eq⟩ : ∃ q, xs[k]? = some q := ⟨_, List.getElem?_eq_getElem (by rw [← HN.out]; exact hlt)⟩
        obtain ⟨b, off, rfl, hb, c1, c2, c3, c4⟩ := H3.out k q eq
        obtain ⟨r1, r2, r3, r4⟩ := HI.out q (List.mem_of_getElem? eq)
        have R1 := Lib.hid r1
        have R2 := Lib.hid r2
        have R3 := Lib.hid r3
        have R4' := Lib.hid r4
        have EQ := Lib.hid (madeUpto_succ xs k q eq)
        obtain ⟨s, hs⟩ : ∃ s, s = oneR q := ⟨_, rfl⟩
        have hv : vrect s = true := by rw [hs]; exact oneS_valid _ _ _ _
        obtain ⟨q1, q2, q3, q4, q5, q6⟩ := (vrect_iff s).1 hv
        have HS : Hid (oneS q.l q.r q.lo q.hi = s) := Lib.hid (by rw [hs]; rfl)
        rw [← hs] at EQ
        clear eq r1 r2 r3 r4 hs hv
        have d1 := cell_keepB hB hb c1
        have d2 := cell_keepB hB hb c2
        have d3 := cell_keepB hB hb c3
        have d4 := cell_keepB hB hb c4
        clear c1 c2 c3 c4
        go_wp2_with (go_at_call 29; refine (one_any q.l q.r q.lo q.hi _ R1.out R2.out R3.out R4'.out).mono ?_; rintro e w2 ⟨rfl, hb2⟩; rw [HS.out])
        obtain ⟨sl, sr, slo, shi⟩ := s
        simp only [] at q1 q2 q3 q4 q5 q6
        obtain ⟨l, rfl⟩ := Int.eq_ofNat_of_zero_le q1
        obtain ⟨r, rfl⟩ := Int.eq_ofNat_of_zero_le (Int.le_trans q1 (Int.le_of_lt q2))
        obtain ⟨lo, rfl⟩ := Int.eq_ofNat_of_zero_le q4
        obtain ⟨hi, rfl⟩ := Int.eq_ofNat_of_zero_le (Int.le_trans q4 (Int.le_of_lt q5))
        generalize hg : madeUpto xs k = g at *
        obtain ⟨fl, hfl⟩ : ∃ fl, fl = (k % 3 != 2) := ⟨_, rfl⟩
        rw [← hfl] at EQ
        have hfl2 : ((k : Int) % 3 != 2) = fl := by
          rw [hfl, Bool.eq_iff_iff]; simp only [bne_iff_ne]; omega
        have HFL := Lib.hid hfl2
        clear hg hfl hfl2
        have HB2 := Lib.hid ((hB.trans (hb2.mono hB.size)).alloc (hB.trans (hb2.mono hB.size)).size (.cells #[.int .i64 (l : Nat), .int .i64 (r : Nat), .int .i64 (lo : Nat), .int .i64 (hi : Nat)] 36))
        have HG2 : Hid ((w2.alloc (.cells #[.int .i64 (l : Nat), .int .i64 (r : Nat), .int .i64 (lo : Nat), .int .i64 (hi : Nat)] 36)).heap[w.heap.size]? = some (.cells (pcells g) 54 (0, 0))) := Lib.hid (by
          have := hb2.size
          rw [Below.heap_alloc _ _ _ (by omega), hb2.block _ hsz]; exact hbox.out)
        have HX2 : Hid ((w2.alloc (.cells #[.int .i64 (l : Nat), .int .i64 (r : Nat), .int .i64 (lo : Nat), .int .i64 (hi : Nat)] 36)).heap[w2.heap.size]? = some (.cells #[.int .i64 (l : Nat), .int .i64 (r : Nat), .int .i64 (lo : Nat), .int .i64 (hi : Nat)] 36 (0, 0))) := Lib.hid (heap_alloc_new _ _)
        have hs2 : w.heap.size < w2.heap.size := by have := hb2.size; omega
        clear hb2 d1 d2 d3 d4
        generalize (w2.alloc (.cells #[.int .i64 (l : Nat), .int .i64 (r : Nat), .int .i64 (lo : Nat), .int .i64 (hi : Nat)] 36)) = W3 at *
        go_loopw [6] (fun i wr => ∃ y : Nat, lo ≤ y ∧ y ≤ hi ∧ i = .int .i64 y ∧ Hid (wr.heap[w.heap.size]? = some (.cells (pcells (layPart fl ⟨l, r, lo, hi⟩ g y l)) 54 (0, 0))) ∧ Hid (wr.heap[w2.heap.size]? = some (.cells #[.int .i64 (l : Nat), .int .i64 (r : Nat), .int .i64 (lo : Nat), .int .i64 (hi : Nat)] 36 (0, 0))) ∧ Below w.heap.size w wr) (fun i wr => hi - (intOf i).toNat)
        case atStart => exact ⟨lo, Nat.le_refl _, by omega, rfl, (by rw [layPart_start _ _ _ _ (by simp) _ (by simp)]; exact HG2), HX2, HB2.out⟩
        case round =>
          obtain ⟨w4, rfl⟩ : ∃ x : World, x = wr := ⟨_, rfl⟩
          obtain ⟨y, hy1, hy2, rfl, hgy, hxy, hBy⟩ := hrel
          have e0 : w4.cell? ⟨w2.heap.size, 0, none⟩ = some (.int .i64 (l : Nat)) := cell_of_row w4 _ 0 _ _ _ hxy.out
          have e1 : w4.cell? ⟨w2.heap.size, 1, none⟩ = some (.int .i64 (r : Nat)) := cell_of_row w4 _ 1 _ _ _ hxy.out
          have e3 : w4.cell? ⟨w2.heap.size, 3, none⟩ = some (.int .i64 (hi : Nat)) := cell_of_row w4 _ 3 _ _ _ hxy.out
          by_cases hyh : y < hi
          · go_wp2
            clear e0 e1 e3
            have hdy : decide ((y : Int) < (hi : Int)) = true := by simp; omega
            try rw [hdy]
            clear hdy
            go_loopw [7] (fun i wr => ∃ x : Nat, l ≤ x ∧ x ≤ r ∧ i = .int .i64 x ∧ Hid (wr.heap[w.heap.size]? = some (.cells (pcells (layPart fl ⟨l, r, lo, hi⟩ g y x)) 54 (0, 0))) ∧ Hid (wr.heap[w2.heap.size]? = some (.cells #[.int .i64 (l : Nat), .int .i64 (r : Nat), .int .i64 (lo : Nat), .int .i64 (hi : Nat)] 36 (0, 0))) ∧ Below w.heap.size w wr) (fun i wr => r - (intOf i).toNat)
            case atStart => exact ⟨l, Nat.le_refl _, by omega, rfl, hgy, hxy, hBy⟩
            case round =>
              obtain ⟨w5, rfl⟩ : ∃ x : World, x = wr := ⟨_, rfl⟩
              obtain ⟨x, hx1, hx2, rfl, hgx, hxx, hBx⟩ := hrel
              have e1 : w5.cell? ⟨w2.heap.size, 1, none⟩ = some (.int .i64 (r : Nat)) := cell_of_row w5 _ 1 _ _ _ hxx.out
              by_cases hxr : x < r
              · have hin : inR x y ⟨l, r, lo, hi⟩ = true := (inR_iff _ _ _).2 (by simp only []; omega)
                have HST := Lib.hid (layPart_step fl ⟨l, r, lo, hi⟩ g y x hin)
                have cg : w5.cell? ⟨w.heap.size, y * 64 + x, none⟩ = some (.bool (layPart fl ⟨l, r, lo, hi⟩ g y x y x)) := by
                  rw [cell_of_row w5 _ _ _ _ _ hgx.out, pcells_at _ _ _ (by omega) (by omega)]
                have cf : w5.frozen? ⟨w.heap.size, y * 64 + x, none⟩ = false := frozen_of_row _ _ _ _ _ hgx.out
                have hfl := HFL.out
                clear hin
                go_wp2
                go_roundw
                case rel =>
                  refine ⟨x + 1, by omega, by omega, by go_num, ?_, ?_, ?_⟩
                  · show (World.setCell _ _ _).heap[w.heap.size]? = _
                    rw [heap_setCell_same _ hgx.out, pcells_set _ _ _ _ (by omega) (by omega), HST.out]
                  · show (World.setCell _ _ _).heap[w2.heap.size]? = _
                    rw [Below.heap_setCell _ _ _ _ (by simp; omega)]
                    exact hxx.out
                  · exact hBx.setCell (by simp) _
                case measure => simp [intOf]; omega
              · have HRW := Lib.hid (layPart_row fl ⟨l, r, lo, hi⟩ g y x l (by simp only []; omega) (by simp))
                go_wp2
                go_roundw
                case rel => exact ⟨y + 1, by omega, by omega, by go_num, by rw [← HRW.out]; exact hgx, hxx, hBx⟩
                case measure => simp [intOf]; omega
          · have HEN := Lib.hid (layPart_end fl ⟨l, r, lo, hi⟩ g y l (by simp only []; omega))
            have hsz4 : w.heap.size < w4.heap.size := (Array.getElem?_eq_some_iff.1 hgy.out).1
            go_wp2
            go_roundw
            case rel => exact ⟨k + 1, by omega, by omega, by go_num, by rw [EQ.out, ← HEN.out]; exact hgy, hBy, hsz4⟩
            case measure => simp [intOf]; omega
      · have HM : Hid (madeS xs = rectsS (madeUpto xs k)) := Lib.hid (by
          unfold madeS madeP
          rw [show min xs.length 6 = k by rw [← HN.out]; omega])
        obtain ⟨Y, hY⟩ : ∃ Y, Y = pcells (madeUpto xs k) := ⟨_, rfl⟩
        rw [← hY] at hbox
        have hys : (Tryd.prog.info? 54).map (·.size) = some Y.size := by rw [hY]; exact gridSizeB _
        have HY := Lib.hid hY
        have HYS := Lib.hid hys
        clear hY hys
        go_wp2_with (first | (refine wpList_loadA 54 (.tmp 3) w.heap.size 54 Y (0, 0) _ rfl rfl rfl hbox.out gridDescB rfl HYS.out ?_) | (go_at_call 30; refine (rrects_any (madeUpto xs k) Y HY.out _).mono ?_; rintro e w6 ⟨r, rfl, hr6, hb6⟩; have HR6 := Lib.hid hr6; have HB6 := Lib.hid (hB.trans (hb6.mono hB.size)); clear hr6 hb6))
        go_ret
        exact ⟨_, rfl, by rw [HM.out]; exact HR6.out, HB6.out⟩
    · have HM : Hid (madeS xs = rectsS (madeUpto xs k)) := Lib.hid (by
        unfold madeS madeP
        rw [show min xs.length 6 = k by rw [← HN.out]; omega])
      obtain ⟨Y, hY⟩ : ∃ Y, Y = pcells (madeUpto xs k) := ⟨_, rfl⟩
      rw [← hY] at hbox
      have hys : (Tryd.prog.info? 54).map (·.size) = some Y.size := by rw [hY]; exact gridSizeB _
      have HY := Lib.hid hY
      have HYS := Lib.hid hys
      clear hY hys
      go_wp2_with (first | (refine wpList_loadA 54 (.tmp 3) w.heap.size 54 Y (0, 0) _ rfl rfl rfl hbox.out gridDescB rfl HYS.out ?_) | (go_at_call 30; refine (rrects_any (madeUpto xs k) Y HY.out _).mono ?_; rintro e w6 ⟨r, rfl, hr6, hb6⟩; have HR6 := Lib.hid hr6; have HB6 := Lib.hid (hB.trans (hb6.mono hB.size)); clear hr6 hb6))
      go_ret
      exact ⟨_, rfl, by rw [HM.out]; exact HR6.out, HB6.out⟩
end Go.Proofs.YtbpkfpkhnkcgkaaDoorR
