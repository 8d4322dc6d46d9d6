/- The walks of the grid's methods. The conditions: what the grid's block and the slices read as. -/
import Derived.Test.YtbpkfpkhnkcgkaaDoorRWA3
import Derived.Test.YtbpkfpkhnkcgkaaDoorRReg
import Derived.Test.YtbpkfpkhnkcgkaaDoorRArr
namespace Go.Proofs.YtbpkfpkhnkcgkaaDoorR
open Go.RowKit Go.BigFrame

/-- The cells of a grid: a row a word. -/
def gcells (g : Nat → Nat) : Array Value := ((List.range 64).map fun y => Value.int .u64 (g y)).toArray
theorem gcells_size (g : Nat → Nat) : (gcells g).size = 64 := by simp [gcells]
theorem gcells_get (g : Nat → Nat) (y : Nat) (h : y < 64) : (gcells g)[y]? = some (.int .u64 (g y)) := by
  simp [gcells, h]
def upd (g : Nat → Nat) (y : Nat) (v : Nat) : Nat → Nat := fun z => if z = y then v else g z
theorem gcells_set (g : Nat → Nat) (y : Nat) (v : Nat) (h : y < 64) : (gcells g).setIfInBounds y (.int .u64 v) = gcells (upd g y v) := by
  apply Array.ext_getElem?
  intro i
  rw [Array.getElem?_setIfInBounds]
  by_cases hi : i < 64
  · rw [gcells_get _ _ hi]
    by_cases e : y = i
    · subst e
      rw [if_pos rfl, if_pos (by rw [gcells_size]; exact h), gcells_get _ _ h]; simp [upd]
    · rw [if_neg e, gcells_get _ _ hi]; simp [upd, Ne.symm e]
  · rw [Array.getElem?_eq_none (by rw [gcells_size]; omega), if_neg (by omega), Array.getElem?_eq_none (by rw [gcells_size]; omega)]
theorem gridDesc : Tryd.prog.underlying 62 = some (.array 64 59) := by kernel_rfl
theorem gridSize (g : Nat → Nat) : (Tryd.prog.info? 62).map (·.size) = some (gcells g).size := by
  rw [gcells_size]; kernel_rfl
theorem gcells_one (g : Nat → Nat) : (gcells g).all (·.oneCell') = true := by
  rw [Array.all_eq_true_iff_forall_mem]
  intro v hv
  simp [gcells] at hv
  obtain ⟨y, _, rfl⟩ := hv
  rfl
/-- All rows are words. -/
def Words (g : Nat → Nat) : Prop := ∀ y, g y < 18446744073709551616

/-- The rows of a valid rectangle are laid. -/
def fillG (g : Nat → Nat) (x : R4) : Nat → Nat := fun y => if x.lo ≤ (y : Int) ∧ (y : Int) < x.hi then g y ||| rowS x.l.toNat x.r.toNat else g y
theorem or_lt (a b : Nat) (ha : a < 18446744073709551616) (hb : b < 18446744073709551616) : a ||| b < 18446744073709551616 := Nat.or_lt_two_pow (n := 64) ha hb
theorem fillG_words {g : Nat → Nat} (hg : Words g) {x : R4} (hx : vrect x = true) : Words (fillG g x) := by
  intro y
  obtain ⟨q1, q2, q3, q4, q5, q6⟩ := (vrect_iff x).1 hx
  unfold fillG
  split
  · exact or_lt _ _ (hg y) (rowS_lt _ _ (by omega))
  · exact hg y

set_option maxHeartbeats 1000000 in
theorem fill_any (b : Nat) (g : Nat → Nat) (x : R4) (w : World) (hx : vrect x = true) (hb : w.heap[b]? = some (.cells (gcells g) 62 (0, 0))) (hg : Words g) :
    Calls Tryd.prog 35 #[.pointer (some ⟨b, 0, none⟩), .agg #[.int .i64 x.l, .int .i64 x.r, .int .i64 x.lo, .int .i64 x.hi]] w fun e w' => e = .returned (.tuple #[]) ∧
      w'.heap[b]? = some (.cells (gcells (fillG g x)) 62 (0, 0)) ∧ w.grownBy w' (some b) := by
  obtain ⟨q1, q2, q3, q4, q5, q6⟩ := (vrect_iff x).1 hx
  clear hx
  obtain ⟨l, r, lo, hi⟩ := x
  simp only [] at q1 q2 q3 q4 q5 q6 ⊢
  obtain ⟨l, rfl⟩ := Int.eq_ofNat_of_zero_le q1
  obtain ⟨r, rfl⟩ := Int.eq_ofNat_of_zero_le (Int.le_trans q1 (Int.le_of_lt q2))
  obtain ⟨lo, rfl⟩ := Int.eq_ofNat_of_zero_le q4
  obtain ⟨hi, rfl⟩ := Int.eq_ofNat_of_zero_le (Int.le_trans q4 (Int.le_of_lt q5))
  have hbs := (Array.getElem?_eq_some_iff.1 hb).1
  have HB := Lib.hid hb
  have HG := Lib.hid hg
  clear hb hg
  go_enter Tryd.func35, Tryd.ntmps35
  go_wp2
  go_loopw [4] (fun i wr => ∃ k : Nat, lo ≤ k ∧ k ≤ hi ∧ i = .int .i64 k ∧ Hid (wr.heap[b]? = some (.cells (gcells (fun y => if lo ≤ y ∧ y < k then g y ||| rowS l r else g y)) 62 (0, 0))) ∧ Hid (wr.heap[w.heap.size]? = some (.cells #[.int .i64 l, .int .i64 r, .int .i64 lo, .int .i64 hi] 36 (0, 0))) ∧ w.grownBy wr (some b)) (fun i wr => hi - (intOf i).toNat)
  case atStart =>
    refine ⟨lo, Nat.le_refl _, by omega, rfl, ?_, heap_alloc_new w _, grown_alloc (grown_refl _ _) _⟩
    show (w.alloc _).heap[b]? = _
    rw [Below.heap_alloc _ _ _ hbs, HB.out]
    congr 2
    congr 1
    funext y
    rw [if_neg (by omega)]
  case round =>
    obtain ⟨k, hk1, hk2, rfl, hgr, hbox, hgw⟩ := hrel
    have c0 : wr.cell? ⟨w.heap.size, 0, none⟩ = some (.int .i64 l) := cell_of_row wr _ 0 _ _ _ hbox.out
    have c1 : wr.cell? ⟨w.heap.size, 1, none⟩ = some (.int .i64 r) := cell_of_row wr _ 1 _ _ _ hbox.out
    have c3 : wr.cell? ⟨w.heap.size, 3, none⟩ = some (.int .i64 hi) := cell_of_row wr _ 3 _ _ _ hbox.out
    by_cases hlt : k < hi
    · have hk64 : k < 64 := by omega
      have hgk := HG.out k
      have cg : wr.cell? ⟨b, k, none⟩ = some (.int .u64 (g k : Nat)) := by
        rw [cell_of_row wr _ k _ _ _ hgr.out, gcells_get _ _ hk64]; simp
      have cf : wr.frozen? ⟨b, k, none⟩ = false := by
        simp [World.frozen?, hgr.out]
      go_wp2
      refine wp_region_quiet_tail 13 (fun w' => ∃ n, w' = wr.drewN n) (by kernel_rfl) (by kernel_rfl) ⟨1, rfl⟩ ?_
      simp only [List.take_succ_cons, List.take_zero, List.drop_succ_cons, List.drop_zero]
      repeat (go_big_quiet_step ((go_at_call 45; exact Calls.quiet_of (row_any l r _ (by omega) (by omega)))))
      refine wpQuiet_nil ?_
      rintro _ ⟨nq, rfl⟩
      go_wp2
      go_roundw
      case rel =>
        refine ⟨k + 1, by omega, by omega, by go_num, ?_, ?_, ?_⟩
        · have h1 : (wr.drewN nq).heap[b]? = wr.heap[b]? := rfl
          show (World.setCell _ _ _).heap[b]? = _
          rw [heap_setCell_same _ (h1.trans hgr.out), u64_or_nat _ _ hgk (rowS_lt _ _ (by omega)), gcells_set _ _ _ hk64]
          congr 2
          congr 1
          funext y
          unfold upd
          by_cases e : y = k
          · subst e; simp [hk1]
          · by_cases e2 : lo ≤ y ∧ y < k
            · rw [if_neg e]; dsimp only; rw [if_pos e2, if_pos (by omega)]
            · rw [if_neg e]; dsimp only; rw [if_neg e2, if_neg (by omega)]
        · have h1 : (wr.drewN nq).heap[w.heap.size]? = wr.heap[w.heap.size]? := rfl
          show (World.setCell _ _ _).heap[w.heap.size]? = _
          rw [Below.heap_setCell _ _ _ _ (by simp; omega), h1]
          exact hbox.out
        · exact grown_setCell (grown_drewN hgw _) _ (.inl rfl) _
      case measure => simp [intOf]; omega
    · go_wp2
      go_end0
      refine ⟨rfl, ?_, hgw⟩
      rw [hgr.out]
      congr 2
      congr 1
      funext y
      unfold fillG
      simp only [Int.toNat_natCast]
      by_cases e : lo ≤ y ∧ y < k
      · rw [if_pos e, if_pos (by omega)]
      · rw [if_neg e, if_neg (by omega)]
end Go.Proofs.YtbpkfpkhnkcgkaaDoorR
