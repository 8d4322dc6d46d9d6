/- The iterator of pairs: its walk. The conditions: what its captured variable reads as, the length. -/
import Derived.Test.YtinfpbkbnhcifaaGreatDoorQVR9
import Derived.OwnWalkIn
import Derived.TacticsInMore
import Derived.LoopNIn
import Derived.LoopIn
namespace Go.Proofs.YtinfpbkbnhcifaaGreatDoor
open Go.RowKit Go.BigFrame Go.Shelf

attribute [local go_sem] Oper.semAt_some

/-! ### Plain: the pairs of n places -/
def partP (i j : Nat) : List (Nat × Nat) := (List.range' (i + 1) (j - (i + 1))).map fun k => (i, k)
def upP (n k : Nat) : List (Nat × Nat) := (List.range k).flatMap (pairsOf n)
theorem partP_start (i : Nat) : partP i (i + 1) = [] := by simp [partP]
theorem partP_snoc {i j : Nat} (h : i + 1 ≤ j) : partP i (j + 1) = partP i j ++ [(i, j)] := by
  unfold partP
  rw [show j + 1 - (i + 1) = (j - (i + 1)) + 1 by omega, List.range'_concat, List.map_append]
  congr 1
  simp
  omega
theorem partP_end {n i j : Nat} (h2 : n ≤ j) (h3 : j ≤ n) : partP i j = pairsOf n i := by
  have : j = n := by omega
  subst this
  rfl
theorem upP_zero (n : Nat) : upP n 0 = [] := rfl
theorem upP_succ (n k : Nat) : upP n (k + 1) = upP n k ++ pairsOf n k := by
  unfold upP
  rw [List.range_succ, List.flatMap_append]
  simp
theorem upP_all (n : Nat) : upP n n = pairsL n := rfl
theorem part_prefix {n i j : Nat} (hj : j ≤ n) (hij : i + 1 ≤ j) : ∃ t, partP i j ++ t = pairsOf n i := by
  refine ⟨(List.range' j (n - j)).map fun k => (i, k), ?_⟩
  unfold partP pairsOf
  rw [← List.map_append]
  congr 1
  have := List.range'_append_1 (s := i + 1) (m := j - (i + 1)) (n := n - j)
  rw [show i + 1 + (j - (i + 1)) = j by omega, show j - (i + 1) + (n - j) = n - (i + 1) by omega] at this
  exact this
theorem up_prefix {n k : Nat} (hk : k ≤ n) : ∃ t, upP n k ++ t = pairsL n := by
  refine ⟨(List.range' k (n - k)).flatMap (pairsOf n), ?_⟩
  unfold upP pairsL
  rw [← List.flatMap_append]
  congr 1
  rw [List.range_eq_range', List.range_eq_range']
  have := List.range'_append_1 (s := 0) (m := k) (n := n - k)
  rw [show 0 + k = k by omega, show k + (n - k) = n by omega] at this
  exact this
theorem pre_prefix {n i j : Nat} (hi : i < n) (hj : j ≤ n) (hij : i + 1 ≤ j) : (upP n i ++ partP i j) <+: pairsL n := by
  obtain ⟨t, ht⟩ := part_prefix hj hij
  obtain ⟨u, hu⟩ := up_prefix (n := n) (k := i + 1) (by omega)
  rw [upP_succ, ← ht] at hu
  exact ⟨t ++ u, by rw [← hu]; simp [List.append_assoc]⟩
theorem pre_lt {n i j : Nat} (hi : i < n) (hj : j < n) (hij : i + 1 ≤ j) : (upP n i ++ partP i j).length < (pairsL n).length := by
  have := (pre_prefix hi (show j + 1 ≤ n by omega) (by omega : i + 1 ≤ j + 1)).length_le
  rw [partP_snoc hij] at this
  simp only [List.length_append, List.length_cons, List.length_nil] at this ⊢
  omega

/-- A pair of different places among n, the lesser one first. -/
abbrev Pair (n : Nat) := { x : Nat × Nat // x.1 < x.2 ∧ x.2 < n }
def pairV (n : Nat) (x : Pair n) : Array Value := #[.int .i64 x.1.1, .int .i64 x.1.2]

set_option maxHeartbeats 400000 in
theorem pairs_any (a : Option Addr) (n c : Nat) (w : World) :
    Calls Tryz.prog 65 #[.slice a n c] w fun e w' => e = .returned (.func (.func 99) #[] #[.pointer (some ⟨w.heap.size, 0, none⟩)]) ∧ w' = w.alloc (.cells #[.slice a n c] 30) := by
  go_enter Tryz.func65, Tryz.ntmps65
  go_wp2
  go_ret
  exact ⟨rfl, rfl⟩

set_option maxRecDepth 100000 in
set_option maxHeartbeats 2000000 in
theorem pairs1_iter (bl n c : Nat) (a : Option Addr) (w0 : World) (hn : n ≤ 1000000) (h1 : w0.heap[bl]? = some (.cells #[.slice a n c] 30 (0, 0))) :
    Iter Tryz.prog 99 #[.pointer (some ⟨bl, 0, none⟩)] (pairV n) (fun A B => B.heap[bl]? = A.heap[bl]?) none (fun xs => xs.map (·.1) = pairsL n) (fun xs => (xs.map (·.1)) <+: pairsL n) (pairsL n).length w0 := by
  intro F m hF hro l J Jx W hW hJ hJx hY h0
  have hbl1 : bl < w0.heap.size := (Array.getElem?_eq_some_iff.1 h1).1
  have H1 : Hid (W.heap[bl]? = some (.cells #[.slice a n c] 30 (0, 0))) := Lib.hid ((hW.block bl hbl1).trans h1)
  clear h1 hW
  have HUP := Lib.hid (upP_zero n)
  refine callsIn_of_wp Tryz.func99 rfl (hF.1 _) ?_ hro
  simp only [Tryz.ntmps99, List.size_toArray, List.length_cons, List.length_nil, Nat.reduceAdd, Nat.reduceSub, Array.replicate_succ, Array.replicate_zero, List.push_toArray, List.append_toArray, List.nil_append, List.cons_append]
  have c1 : W.cell? ⟨bl, 0, none⟩ = some (.slice a n c) := cell_of_row W _ 0 _ _ _ H1.out
  gi_wp2
  clear c1
  gi_loopw [7] (fun i wr => ∃ (pre : List (Pair n)) (k : Nat), k ≤ n ∧ i = .int .i64 k ∧ Hid (pre.map (·.1) = upP n k) ∧ Hid (wr.heap[bl]? = some (.cells #[.slice a n c] 30 (0, 0))) ∧ J pre wr) (fun i wr => n - (intOf i).toNat)
  case atStart => exact ⟨[], 0, by omega, rfl, HUP, H1, h0⟩
  case round =>
    obtain ⟨pre, k, hk, rfl, hpre, g1, hJs⟩ := hrel
    clear HUP H1 h0
    by_cases hlt : k < n
    · have hw1 : wrap64 ((k : Int) + 1) = ((k + 1 : Nat) : Int) := by rw [IntWalk.wrap64_in _ ⟨by omega, by omega⟩]; omega
      have HS : Hid (pre.map (·.1) = upP n k ++ partP k (k + 1)) := Lib.hid (by rw [hpre.out, partP_start, List.append_nil])
      clear hpre
      gi_wp2
      gi_loopw [4] (fun i wr => ∃ (pre : List (Pair n)) (j : Nat), k + 1 ≤ j ∧ j ≤ n ∧ i = .int .i64 j ∧ Hid (pre.map (·.1) = upP n k ++ partP k j) ∧ Hid (wr.heap[bl]? = some (.cells #[.slice a n c] 30 (0, 0))) ∧ J pre wr) (fun i wr => n - (intOf i).toNat)
      case atStart => exact ⟨pre, k + 1, by omega, by omega, by first | rfl | go_num, HS, g1, hJs⟩
      case round =>
        clear HS g1 hJs
        obtain ⟨pre, j, hj1, hj2, rfl, hpre, g1, hJs⟩ := hrel
        have c1 : wr.cell? ⟨bl, 0, none⟩ = some (.slice a n c) := cell_of_row wr _ 0 _ _ _ g1.out
        by_cases hlt2 : j < n
        · obtain ⟨fn, tmps, assign, body, hy, hR⟩ := hY pre ⟨(k, j), by exact ⟨by omega, hlt2⟩⟩ wr hJs (by
            have := congrArg List.length hpre.out
            rw [List.length_map] at this
            rw [this]
            exact pre_lt hlt hlt2 hj1)
          have hy : Sem.run _ _ _ = _ := hy
          unfold pairV at hy
          simp only at hy
          have HP : Hid ((pre ++ [(⟨(k, j), by exact ⟨by omega, hlt2⟩⟩ : Pair n)]).map (·.1) = upP n k ++ partP k (j + 1)) := Lib.hid (by rw [List.map_append, hpre.out, partP_snoc hj1, List.append_assoc]; rfl)
          clear hpre
          gi_wp2
          refine ⟨fun h => (by rw [hF.2.1] at h; cases h), hR.mono ?_⟩
          clear c1
          rintro e W3 (⟨rfl, hJ3, hk3⟩ | ⟨rfl, hJx3⟩)
          · have h1 : Hid (W3.heap[bl]? = some (.cells #[.slice a n c] 30 (0, 0))) := Lib.hid (hk3.trans g1.out)
            clear hk3
            gi_wp2
            go_roundw
            case rel => exact ⟨_, j + 1, by omega, by omega, by go_num, HP, h1, hJ3⟩
            case measure => simp [intOf]; omega
          · gi_wp2
            refine bodyPost_ret (results_none rfl _ _ _) rfl ?_
            exact ⟨⟨_, rfl⟩, .inr ⟨_, by rw [HP.out]; exact pre_prefix hlt (by omega) (by omega), hJx3⟩⟩
        · have ej : j = n := by omega
          have HP : Hid (pre.map (·.1) = upP n (k + 1)) := Lib.hid (by rw [hpre.out, upP_succ, partP_end (by omega) hj2])
          clear hpre
          gi_wp2
          go_roundw
          case rel => exact ⟨pre, k + 1, by omega, by go_num, HP, g1, hJs⟩
          case measure => simp [intOf]; omega
    · have ek : k = n := by omega
      gi_wp2
      go_end0
      exact ⟨⟨_, rfl⟩, .inl ⟨pre, by rw [hpre.out, ek]; exact upP_all n, hJs⟩⟩
end Go.Proofs.YtinfpbkbnhcifaaGreatDoor
