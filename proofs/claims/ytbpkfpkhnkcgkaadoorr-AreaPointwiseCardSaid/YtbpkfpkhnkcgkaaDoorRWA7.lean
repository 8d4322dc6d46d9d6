/- The iterator over the intervals of a row: what intervals hands back, and the contract of its value. The condition: a word. -/
import Derived.Test.YtbpkfpkhnkcgkaaDoorRWA6
import Derived.Test.YtbpkfpkhnkcgkaaDoorRRF
import Derived.Shelf.Abstract
import Derived.OwnWalkIn
import Derived.TacticsInMore
import Derived.LoopNIn
import Derived.LoopIn
namespace Go.Proofs.YtbpkfpkhnkcgkaaDoorR
open Go.RowKit Go.BigFrame Go.Shelf

attribute [local go_sem] Oper.semAt_some

/-- An interval of a row. -/
abbrev IV := { p : Nat × Nat // p.1 < p.2 ∧ p.2 ≤ 64 }
def IV.enc (x : IV) : Array Value := #[.int .u64 (rowS x.1.1 x.1.2 : Nat)]

set_option maxHeartbeats 400000 in
theorem ivs_any (n : Nat) (w : World) :
    Calls Tryd.prog 50 #[.int .u64 n] w fun e w' => e = .returned (.func (.func 53) #[] #[.pointer (some ⟨w.heap.size, 0, none⟩)]) ∧ w' = w.alloc (.cells #[.int .u64 n] 59) := by
  go_enter Tryd.func50, Tryd.ntmps50
  go_wp2
  go_ret
  exact ⟨rfl, rfl⟩

theorem one_key (m l r : Nat) (hm : m < 18446744073709551616) (h : l < r) (h64 : r ≤ 64) (hz : ∀ x, x < l → m.testBit x = false) (hone : ∀ x, l ≤ x → x < r → m.testBit x = true) (he : r = 64 ∨ m.testBit r = false) :
    bits BinOp.andNot IntKind.u64 (m : Int) (IntKind.u64.wrap ((m : Int) + bits BinOp.and IntKind.u64 (m : Int) (IntKind.u64.wrap (-(m : Int))))) = ((rowS l r : Nat) : Int) := by
  have h0 : m ≠ 0 := by
    intro e
    have := hone l (Nat.le_refl _) h
    rw [e] at this; simp at this
  have e1 : IntKind.u64.wrap (-(m : Int)) = ((18446744073709551616 - m : Nat) : Int) := by rw [IntKind.wrap_u64]; omega
  rw [e1, u64_and_nat _ _ hm (by omega)]
  obtain ⟨t, ht⟩ : ∃ t, t = m &&& (18446744073709551616 - m) := ⟨_, rfl⟩
  have key := one_eq m l r hm h h64 hz hone he
  rw [← ht] at key ⊢
  have e2 : IntKind.u64.wrap ((m : Int) + (t : Int)) = (((m + t) % 18446744073709551616 : Nat) : Int) := by rw [IntKind.wrap_u64]; omega
  rw [e2, u64_andNot_nat _ _ hm (by omega), key]
  rfl

/-- The number in a cell, for a measure. -/
def cellNat (w : World) (b : Nat) : Nat := match w.cell? ⟨b, 0, none⟩ with
  | some (.int _ n) => n.toNat
  | _ => 0

set_option maxRecDepth 100000 in
set_option maxHeartbeats 1000000 in
theorem ivs1_iter (b n : Nat) (w0 : World) (hn : n < 18446744073709551616) (hb : w0.heap[b]? = some (.cells #[.int .u64 n] 59 (0, 0))) :
    Iter Tryd.prog 53 #[.pointer (some ⟨b, 0, none⟩)] IV.enc (fun A B => B.heap[b]? = A.heap[b]?) (some b) (fun xs => xs.map (·.1) = ivs (fun x => n.testBit x)) (fun _ => True) 64 w0 := by
  intro F m hF hro l J Jx W hW hJ hJx hY h0
  have hbl : b < w0.heap.size := (Array.getElem?_eq_some_iff.1 hb).1
  have hbW : W.heap[b]? = some (.cells #[.int .u64 n] 59 (0, 0)) := (hW.block b hbl).trans hb
  have HN := Lib.hid hn
  clear hn hb hW
  refine callsIn_of_wp Tryd.func53 rfl (hF.1 _) ?_ hro
  simp only [Tryd.ntmps53, List.size_toArray, List.length_cons, List.length_nil, Nat.reduceAdd, Nat.reduceSub, Array.replicate_succ, Array.replicate_zero, List.push_toArray, List.append_toArray, List.nil_append, List.cons_append]
  gi_wp2
  gi_loopw [3] (fun u wr => ∃ (pre : List IV) (c : Nat), c ≤ 64 ∧ Hid (wr.heap[b]? = some (.cells #[.int .u64 (above n c : Nat)] 59 (0, 0))) ∧ Hid (pre.map (·.1) = ivsUpto (fun x => n.testBit x) c) ∧ Hid (c = 0 ∨ n.testBit c = false) ∧ J pre wr) (fun u wr => cellNat wr b)
  case atStart =>
    exact ⟨[], 0, by omega, by rw [above_zero]; exact hbW, rfl, .inl rfl, h0⟩
  case round =>
    obtain ⟨pre, c, hc64, hcell, hpre, hcz, hJs⟩ := hrel
    have c0 : wr.cell? ⟨b, 0, none⟩ = some (.int .u64 (above n c : Nat)) := cell_of_row wr _ 0 _ _ _ hcell.out
    have cf : wr.frozen? ⟨b, 0, none⟩ = false := frozen_of_row _ _ _ _ _ hcell.out
    by_cases hz : above n c = 0
    · have hz' : (((above n c : Nat) : Int) != 0) = false := by simp [hz]
      have HZ := Lib.hid hz
      clear hz
      gi_wp2
      go_end0
      refine ⟨⟨_, rfl⟩, .inl ⟨pre, ?_, hJs⟩⟩
      rw [hpre.out]
      symm
      refine ivsUpto_skip _ c 64 hc64 (fun x hx hx' => ?_)
      have := congrArg (Nat.testBit · x) HZ.out
      simp only [testBit_above, Nat.zero_testBit] at this
      have hb : n.testBit x = false := by simpa [hx] using this
      show (n.testBit x && _) = false
      rw [hb]; rfl
    · have hz' : (((above n c : Nat) : Int) != 0) = true := by simp [hz]
      obtain ⟨lo, hi, g1, g2, g3, g4, g5, g6⟩ := lowest n c HN.out hz
      have hm : above n c < 18446744073709551616 := Nat.lt_of_le_of_lt (above_le n c) HN.out
      have z1 : ∀ x, x < lo → (above n c).testBit x = false := fun x hx => by
        rw [testBit_above]
        by_cases h : c ≤ x
        · rw [g4 x h hx]; simp
        · simp [h]
      have z2 : ∀ x, lo ≤ x → x < hi → (above n c).testBit x = true := fun x hx hx' => by
        rw [testBit_above, g5 x hx hx']
        have : c ≤ x := Nat.le_trans g1 hx
        simp [this]
      have z3 : hi = 64 ∨ (above n c).testBit hi = false := by
        rcases g6 with h | h
        · exact .inl h
        · right; rw [testBit_above, h]; simp
      have key := one_key (above n c) lo hi hm g2 g3 z1 z2 z3
      have z4 : c = 0 ∨ n.testBit (c - 1) = false ∨ n.testBit c = false := by
        rcases hcz.out with h | h
        · exact .inl h
        · exact .inr (.inr h)
      have rest : bits BinOp.andNot IntKind.u64 ((above n c : Nat) : Int) ((rowS lo hi : Nat) : Int) = ((above n hi : Nat) : Int) := by
        rw [u64_andNot_nat _ _ hm (rowS_lt _ _ g3)]; exact congrArg _ (rest_eq n c lo hi HN.out g1 g2 g3 g4)
      have hnext := ivsUpto_next (fun x => n.testBit x) c lo hi z4 g1 g2 g3 g4 g5 g6
      have hlt := above_lt n c hi (by omega) ⟨lo, g1, g2, g5 lo (Nat.le_refl _) g2⟩
      have HNX := Lib.hid hnext
      have HLT := Lib.hid hlt
      have G6 := Lib.hid g6
      have HM := Lib.hid hm
      clear hnext hlt g4 g5 g6 hz hm z1 z2 z3 z4
      have hlen : pre.length < 64 := by
        have h1 : pre.length = (ivsUpto (fun x => n.testBit x) c).length := by rw [← hpre.out, List.length_map]
        have h2 := ivsUpto_len (fun x => n.testBit x) c
        omega
      obtain ⟨fn, tmps, assign, body, hy, hR⟩ := hY pre ⟨(lo, hi), g2, g3⟩ wr hJs hlen
      dsimp only [IV.enc] at hy
      gi_wp2
      refine ⟨fun h => (by rw [hF.2.1] at h; cases h), hR.mono ?_⟩
      rintro e W3 (⟨rfl, hJ3, hk3⟩ | ⟨rfl, hJx3⟩)
      · have hcell3 : W3.heap[b]? = some (.cells #[.int .u64 (above n c : Nat)] 59 (0, 0)) := hk3.trans hcell.out
        have c3 : W3.cell? ⟨b, 0, none⟩ = some (.int .u64 (above n c : Nat)) := cell_of_row W3 _ 0 _ _ _ hcell3
        have cf3 : W3.frozen? ⟨b, 0, none⟩ = false := frozen_of_row _ _ _ _ _ hcell3
        have HC3 := Lib.hid hcell3
        clear hcell3 hk3
        gi_wp2
        go_roundw
        case rel =>
          refine ⟨pre ++ [⟨(lo, hi), g2, g3⟩], hi, g3, ?_, ?_, ?_, ?_⟩
          · exact heap_setCell_same _ HC3.out
          · show _ = _
            rw [List.map_append, hpre.out]; exact HNX.out.symm
          · rcases G6.out with h | h
            · right; rw [h]; exact testBit_big n 64 HN.out (Nat.le_refl _)
            · exact .inr h
          · exact hJ _ _ _ hJ3 (IStep.write HC3.out _)
        case measure =>
          have h1 : (W3.setCell ⟨b, 0, none⟩ (.int .u64 (above n hi : Nat))).cell? ⟨b, 0, none⟩ = some (.int .u64 (above n hi : Nat)) :=
            cell_of_row _ _ 0 _ _ _ (heap_setCell_same _ HC3.out)
          show cellNat _ b < cellNat _ b
          unfold cellNat
          rw [h1, c0]
          simpa using HLT.out
      · gi_wp2
        refine bodyPost_ret (results_none rfl _ _ _) rfl ?_
        exact ⟨⟨_, rfl⟩, .inr ⟨_, trivial, hJx3⟩⟩
end Go.Proofs.YtbpkfpkhnkcgkaaDoorR
