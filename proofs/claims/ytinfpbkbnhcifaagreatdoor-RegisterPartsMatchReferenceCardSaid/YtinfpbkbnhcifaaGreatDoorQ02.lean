/- The walk of (*words).add. The conditions: what the blocks and the slice read as, the table of constants. -/
import Derived.Deep.MidRow
import Derived.Laws.CopyOwn
import Derived.Test.YtinfpbkbnhcifaaGreatDoorQ01
import Derived.Laws.IdiomStrings
namespace Go.Proofs.YtinfpbkbnhcifaaGreatDoor
open Go.RowKit Go.BigFrame

/-- The table of the words k(0) to k(63) lies in its variable. -/
def Env (w : World) : Prop := w.rangeAt 0 0 (ucells 64 (lg kN)).toList
theorem Env.below {B : Nat} {w w' : World} (h : Env w) (hb : Below B w w') (hB : 0 < B) : Env w' := fun j v hj => by
  rw [hb.cell (p := ⟨0, 0 + j, none⟩) hB]; exact h j v hj

/-- The cells of eight words. -/
def hcells (v : H8) : Array Value := #[.int .u32 (v.a : Nat), .int .u32 (v.b : Nat), .int .u32 (v.c : Nat), .int .u32 (v.d : Nat), .int .u32 (v.e : Nat), .int .u32 (v.f : Nat), .int .u32 (v.g : Nat), .int .u32 (v.h : Nat)]
def H32 (v : H8) : Prop := v.a < 4294967296 ∧ v.b < 4294967296 ∧ v.c < 4294967296 ∧ v.d < 4294967296 ∧ v.e < 4294967296 ∧ v.f < 4294967296 ∧ v.g < 4294967296 ∧ v.h < 4294967296
theorem H32.round {v : H8} (h : H32 v) (k w : Nat) : H32 (roundH v k w) := by
  obtain ⟨h1, h2, h3, h4, h5, h6, h7, h8⟩ := h
  exact ⟨Nat.mod_lt _ (by omega), h1, h2, h3, Nat.mod_lt _ (by omega), h5, h6, h7⟩
theorem H32.add (x y : H8) : H32 (addH x y) := ⟨Nat.mod_lt _ (by omega), Nat.mod_lt _ (by omega), Nat.mod_lt _ (by omega), Nat.mod_lt _ (by omega), Nat.mod_lt _ (by omega), Nat.mod_lt _ (by omega), Nat.mod_lt _ (by omega), Nat.mod_lt _ (by omega)⟩

/-- The words behind k rounds. -/
def upH (W : List Nat) (v : H8) : Nat → H8
  | 0 => v
  | k + 1 => roundH (upH W v k) (kN.getD k 0) (W.getD k 0)
theorem roundsH_up (n : Nat) (K W : List Nat) (v : H8) (hK : K.length = n) (hW : W.length = n) (f : Nat → H8) (h0 : f 0 = v) (hs : ∀ k, k < n → f (k + 1) = roundH (f k) (K.getD k 0) (W.getD k 0)) : roundsH K W v = f n := by
  induction n generalizing K W v f with
  | zero =>
    obtain rfl := List.eq_nil_of_length_eq_zero hK
    exact h0.symm
  | succ n ih =>
    match K, W, hK, hW with
    | k :: K, w :: W, hK, hW =>
      unfold roundsH
      refine ih K W _ (by simpa using hK) (by simpa using hW) (fun j => f (j + 1)) ?_ ?_
      · have := hs 0 (by omega)
        rw [h0] at this
        simpa using this
      · intro j hj
        have := hs (j + 1) (by omega)
        simpa using this
theorem roundsH_upH (W : List Nat) (v : H8) (hW : W.length = 64) : roundsH kN W v = upH W v 64 := roundsH_up 64 kN W v rfl hW (upH W v) rfl (fun _ _ => rfl)
theorem upH_32 {W : List Nat} {v : H8} (h : H32 v) (k : Nat) : H32 (upH W v k) := by
  induction k with
  | zero => exact h
  | succ k ih => exact ih.round _ _
theorem sched_length (l : List Nat) : (sched l).length = 64 := by
  unfold sched
  rw [schedF_up, upW_length]
  simp [first16]
theorem sched_32 {l : List Nat} (hl : l.length = 64) (h8 : ∀ x ∈ l, x < 256) : All32 (sched l) := by
  unfold sched
  rw [schedF_up]
  refine upW_32 ?_ 48
  intro x hx
  unfold first16 at hx
  rw [List.mem_map] at hx
  obtain ⟨i, hi, rfl⟩ := hx
  have hi' := List.mem_range.1 hi
  have i0 := h8 _ (List.mem_of_getElem? (getD_lt (l := l) (i := 4 * i) (by omega)))
  have i1 := h8 _ (List.mem_of_getElem? (getD_lt (l := l) (i := 4 * i + 1) (by omega)))
  have i2 := h8 _ (List.mem_of_getElem? (getD_lt (l := l) (i := 4 * i + 2) (by omega)))
  have i3 := h8 _ (List.mem_of_getElem? (getD_lt (l := l) (i := 4 * i + 3) (by omega)))
  exact Nat.or_lt_two_pow (n := 32) (Nat.or_lt_two_pow (n := 32) (Nat.or_lt_two_pow (n := 32) (by omega) (by omega)) (by omega)) (by omega)
theorem kN_32 : All32 kN := by unfold All32; decide

theorem zeroWords : ZeroIs Tryz.prog 166 (hcells ⟨0, 0, 0, 0, 0, 0, 0, 0⟩) := fun w => by kernel_rfl
theorem wordsDesc : Tryz.prog.underlying 166 = some (.array 8 114) := by kernel_rfl
theorem wordsSize (v : H8) : (Tryz.prog.info? 166).map (·.size) = some (hcells v).size := by
  show _ = some 8
  kernel_rfl
theorem hcells_one (v : H8) : (hcells v).all (·.oneCell') = true := by simp [hcells, Value.oneCell']
theorem uindex (g : Nat → Nat) (k : Nat) (hk : k < 64) (w : World) : (Instr.index 187 (.agg (ucells 64 g)) (.int .i64 k)).run Tryz.prog w = .ok (.int .u32 (g k : Nat)) w := by
  have hn : 0 ≤ (k : Int) ∧ (k : Int) < ((64 : Nat) : Int) := by omega
  simp [Instr.index, run_underlying schedDesc, asIntOf, hn, go_sem, ucells_get _ _ _ hk]
  intro h; omega

theorem and_lt {a b : Nat} (ha : a < 4294967296) : a &&& b < 4294967296 := Nat.lt_of_le_of_lt Nat.and_le_left ha
theorem xor_max (e : Nat) (he : e < 4294967296) : bits BinOp.xor IntKind.u32 IntKind.u32.max (e : Int) = ((4294967295 - e : Nat) : Int) := by
  have h1 : IntKind.u32.max = ((4294967295 : Nat) : Int) := by decide
  rw [h1, u32_xor_nat _ _ (by omega) he]
  congr 1
  apply Nat.eq_of_testBit_eq
  intro i
  rw [Nat.testBit_xor, show 4294967295 - e = 2 ^ 32 - (e + 1) by omega, Nat.testBit_two_pow_sub_succ he, show 4294967295 = 2 ^ 32 - 1 by rfl, Nat.testBit_two_pow_sub_one]
  by_cases hi : i < 32
  · simp [hi]
  · have : e.testBit i = false := Nat.testBit_lt_two_pow (Nat.lt_of_lt_of_le he (Nat.pow_le_pow_right (n := 2) (by omega) (by omega : 32 ≤ i)))
    simp [hi, this]
theorem t1_int (a b c d e f g h k w : Nat) (he : e < 4294967296) (hf : f < 4294967296) (hg : g < 4294967296) :
    IntKind.u32.wrap (IntKind.u32.wrap (IntKind.u32.wrap (IntKind.u32.wrap ((h : Int) + (((rotr e 6 ^^^ rotr e 11) ^^^ rotr e 25 : Nat) : Int)) + bits BinOp.xor IntKind.u32 (bits BinOp.and IntKind.u32 (e : Int) (f : Int)) (bits BinOp.and IntKind.u32 (bits BinOp.xor IntKind.u32 IntKind.u32.max (e : Int)) (g : Int))) + (k : Int)) + (w : Int)) = ((t1 ⟨a, b, c, d, e, f, g, h⟩ k w : Nat) : Int) := by
  rw [xor_max e he, u32_and_nat _ _ he hf, u32_and_nat _ _ (by omega) hg, u32_xor_nat _ _ (and_lt he) (and_lt (by omega))]
  unfold t1 Sg1 chN
  simp only []
  generalize (rotr e 6 ^^^ rotr e 11) ^^^ rotr e 25 = p
  generalize (e &&& f) ^^^ ((4294967295 - e) &&& g) = q
  rw [IntKind.wrap_u32', IntKind.wrap_u32', IntKind.wrap_u32', IntKind.wrap_u32']
  omega
theorem t2_int (a b c d e f g h : Nat) (ha : a < 4294967296) (hb : b < 4294967296) (hc : c < 4294967296) :
    IntKind.u32.wrap ((((rotr a 2 ^^^ rotr a 13) ^^^ rotr a 22 : Nat) : Int) + bits BinOp.xor IntKind.u32 (bits BinOp.xor IntKind.u32 (bits BinOp.and IntKind.u32 (a : Int) (b : Int)) (bits BinOp.and IntKind.u32 (a : Int) (c : Int))) (bits BinOp.and IntKind.u32 (b : Int) (c : Int))) = ((t2 ⟨a, b, c, d, e, f, g, h⟩ : Nat) : Int) := by
  rw [u32_and_nat _ _ ha hb, u32_and_nat _ _ ha hc, u32_and_nat _ _ hb hc, u32_xor_nat _ _ (and_lt ha) (and_lt ha), u32_xor_nat _ _ (Nat.xor_lt_two_pow (n := 32) (and_lt ha) (and_lt ha)) (and_lt hb)]
  unfold t2 Sg0 majN
  simp only []
  generalize (rotr a 2 ^^^ rotr a 13) ^^^ rotr a 22 = p
  generalize ((a &&& b) ^^^ (a &&& c)) ^^^ (b &&& c) = q
  rw [IntKind.wrap_u32']
  omega

def hl (v : H8) : List Nat := [v.a, v.b, v.c, v.d, v.e, v.f, v.g, v.h]
theorem hcells_u (v : H8) : hcells v = ucells 8 (lg (hl v)) := rfl
/-- The first k words are added. -/
def addG (H v : H8) (k : Nat) : Nat → Nat := fun i => if i < k then (lg (hl H) i + lg (hl v) i) % 4294967296 else lg (hl H) i
theorem addG_zero (H v : H8) : ucells 8 (addG H v 0) = hcells H := by
  rw [hcells_u]
  exact ucells_congr (fun i _ => by unfold addG; rw [if_neg (by omega)])
theorem addG_succ (H v : H8) (k : Nat) : upd (addG H v k) k ((lg (hl H) k + lg (hl v) k) % 4294967296) = addG H v (k + 1) := by
  funext i
  unfold upd addG
  by_cases e : i = k
  · subst e; simp
  · rw [if_neg e]
    by_cases h : i < k
    · rw [if_pos h, if_pos (by omega)]
    · rw [if_neg h, if_neg (by omega)]
theorem addG_all (H v : H8) : ucells 8 (addG H v 8) = hcells (addH H v) := by
  rw [hcells_u]
  refine ucells_congr (fun i hi => ?_)
  unfold addG
  rw [if_pos hi]
  match i, hi with
  | 0, _ | 1, _ | 2, _ | 3, _ | 4, _ | 5, _ | 6, _ | 7, _ => rfl
theorem hl_lt {v : H8} (h : H32 v) (i : Nat) : lg (hl v) i < 4294967296 := by
  refine All32.get (l := hl v) ?_ i
  obtain ⟨h1, h2, h3, h4, h5, h6, h7, h8⟩ := h
  intro x hx
  simp only [hl, List.mem_cons, List.not_mem_nil, or_false] at hx
  rcases hx with rfl | rfl | rfl | rfl | rfl | rfl | rfl | rfl <;> assumption

set_option maxHeartbeats 4000000 in
set_option maxRecDepth 100000 in
theorem add_any {w : World} {bh : Nat} {v : Value} {H : H8} {l : List Nat} (hH : w.heap[bh]? = some (.cells (hcells H) 166 (0, 0))) (h32 : H32 H) (hv : SliceAt w v 1 (bcells l)) (hl : l.length = 64) (h8 : ∀ x ∈ l, x < 256) (he : Env w) (hg : 0 < w.heap.size) :
    Calls Tryz.prog 124 #[.pointer (some ⟨bh, 0, none⟩), v] w fun e w' => e = .returned (.tuple #[]) ∧ w'.heap[bh]? = some (.cells (hcells (blockH H l)) 166 (0, 0)) ∧ w.grownBy w' (some bh) := by
  obtain ⟨W, hW⟩ : ∃ W, W = sched l := ⟨_, rfl⟩
  have HWL : Hid (W.length = 64) := Lib.hid (by rw [hW]; exact sched_length l)
  have HW32 : Hid (All32 W) := Lib.hid (by rw [hW]; exact sched_32 hl h8)
  have HBL : Hid (blockH H l = addH H (roundsH kN W H)) := Lib.hid (by rw [hW]; rfl)
  have HSC : Hid (Calls Tryz.prog 143 #[v] w fun e w' => e = .returned (.agg (ucells 64 (lg W))) ∧ Below w.heap.size w w') := Lib.hid (by rw [hW]; exact schedule_any hv hl h8)
  clear hW hv hl h8
  have HH := Lib.hid hH
  have H32' := Lib.hid h32
  have HE := Lib.hid he
  have HG := Lib.hid hg
  have hbh : bh < w.heap.size := (Array.getElem?_eq_some_iff.1 hH).1
  clear hH h32 he hg
  obtain ⟨Z, hZ⟩ : ∃ Z, Z = ucells 64 (lg W) := ⟨_, rfl⟩
  have z1 : Hid ((Tryz.prog.info? 187).map (·.size) = some Z.size) := Lib.hid (by rw [hZ]; exact schedSize _)
  have z2 : Hid ((ucells 64 (lg [])).size = Z.size) := Lib.hid (by rw [hZ, ucells_size, ucells_size])
  have z3 : Hid (Z.all (·.oneCell') = true) := Lib.hid (by rw [hZ]; exact ucells_one _ _)
  rw [← hZ] at HSC
  have HZ := Lib.hid hZ
  clear hZ
  obtain ⟨KZ, hKZ⟩ : ∃ KZ, KZ = (ucells 64 (lg kN)).toList := ⟨_, rfl⟩
  have k1 : Hid ((Tryz.prog.info? 187).map (·.size) = some KZ.length) := Lib.hid (by rw [hKZ]; have := schedSize (lg kN); simpa using this)
  have HKZ := Lib.hid hKZ
  clear hKZ
  go_enter Tryz.func124, Tryz.ntmps124
  go_wp2_with (first | (go_at_call 143; refine HSC.out.mono ?_; rintro e w1 ⟨rfl, hb1⟩; have HB1 := Lib.hid (hb1.alloc hb1.size (.cells Z 187)); have HH1 : Hid ((w1.alloc (.cells Z 187)).heap[bh]? = some (.cells (hcells H) 166 (0, 0))) := Lib.hid ((HB1.out.block _ hbh).trans HH.out); have hs1 := hb1.size; clear hb1) | (refine wpList_declA 187 (ucells 64 (lg [])) Z 4 (.tmp 14) zeroSched rfl rfl rfl rfl rfl rfl rfl z1.out z2.out z3.out ?_) | (refine wpList_loadA 166 _ bh 166 (hcells H) (0, 0) _ rfl rfl rfl HH1.out wordsDesc rfl (wordsSize _) ?_) | (refine wpList_declA 166 (hcells ⟨0, 0, 0, 0, 0, 0, 0, 0⟩) (hcells H) 5 (.tmp 17) zeroWords rfl rfl rfl rfl rfl rfl rfl (wordsSize _) rfl (hcells_one _) ?_) | (refine wpList_load_mid rfl 187 _ rfl 0 0 rfl KZ _ ?_ schedDesc rfl k1.out ?_))
  · rw [HKZ.out]; exact HE.out.below (HB1.out.alloc (by simp; omega) _) HG.out
  have HB2 : Hid (Below w.heap.size w ((w1.alloc (.cells Z 187)).alloc (.cells (hcells H) 166))) := Lib.hid (HB1.out.alloc (by simp; omega) _)
  have h4 : Hid (((w1.alloc (.cells Z 187)).alloc (.cells (hcells H) 166)).heap[w1.heap.size]? = some (.cells Z 187 (0, 0))) := Lib.hid (at_past w1 _ _)
  have h5 : Hid (((w1.alloc (.cells Z 187)).alloc (.cells (hcells H) 166)).heap[w1.heap.size + 1]? = some (.cells (hcells H) 166 (0, 0))) := Lib.hid (at_second w1 _ _)
  generalize (w1.alloc (.cells Z 187)).alloc (.cells (hcells H) 166) = W2 at *
  clear HSC z1 z2 z3 k1 HB1 HH1
  obtain ⟨V, hV⟩ : ∃ V : Nat → H8, V = upH W H := ⟨_, rfl⟩
  have HV : Hid (V 0 = H ∧ (∀ k, V (k + 1) = roundH (V k) (kN.getD k 0) (W.getD k 0)) ∧ (∀ k, H32 (V k)) ∧ roundsH kN W H = V 64) := Lib.hid (by
    rw [hV]
    exact ⟨rfl, fun _ => rfl, fun k => upH_32 H32'.out k, roundsH_upH W H HWL.out⟩)
  clear hV
  go_loopw [6, 7, 8, 9, 10, 11, 19] (fun _ _ _ _ _ _ i wr => ∃ k : Nat, k ≤ 64 ∧ i = .int .i64 k ∧ Hid (wr.heap[w1.heap.size]? = some (.cells Z 187 (0, 0))) ∧ Hid (wr.heap[w1.heap.size + 1]? = some (.cells (hcells (V k)) 166 (0, 0))) ∧ Hid (Below w.heap.size w wr)) (fun _ _ _ _ _ _ i wr => 64 - (intOf i).toNat)
  case atStart => exact ⟨0, by omega, rfl, h4, Lib.hid (by rw [HV.out.1]; exact h5.out), HB2⟩
  case round =>
    obtain ⟨k, hk, rfl, g4, g5, hB⟩ := hrel
    by_cases hlt : k < 64
    · have hix := uindex (lg kN) k hlt wr
      have HIX : Hid ((Instr.index 187 (.agg KZ.toArray) (.int .i64 k)).run Tryz.prog wr = .ok (.int .u32 (kN.getD k 0 : Nat)) wr) := Lib.hid (by rw [HKZ.out]; exact hix)
      have rk := kN_32.get k
      have rw' := HW32.out.get k
      obtain ⟨ra, rb, rc, rd, re, rf, rg, rh⟩ := HV.out.2.2.1 k
      have CW : Hid (wr.cell? ⟨w1.heap.size, k, none⟩ = some (.int .u32 (W.getD k 0 : Nat))) := Lib.hid (by
        rw [cell_of_row wr _ k _ _ _ g4.out, HZ.out, ucells_get _ _ _ hlt]; rfl)
      have hc : ∀ i, wr.cell? ⟨w1.heap.size + 1, i, none⟩ = (hcells (V k))[i]? := fun i => cell_of_row wr _ i _ _ _ g5.out
      have C0 : Hid (wr.cell? ⟨w1.heap.size + 1, 0, none⟩ = some (.int .u32 ((V k).a : Nat))) := Lib.hid (hc 0)
      have C1 : Hid (wr.cell? ⟨w1.heap.size + 1, 1, none⟩ = some (.int .u32 ((V k).b : Nat))) := Lib.hid (hc 1)
      have C2 : Hid (wr.cell? ⟨w1.heap.size + 1, 2, none⟩ = some (.int .u32 ((V k).c : Nat))) := Lib.hid (hc 2)
      have C4 : Hid (wr.cell? ⟨w1.heap.size + 1, 4, none⟩ = some (.int .u32 ((V k).e : Nat))) := Lib.hid (hc 4)
      have C5 : Hid (wr.cell? ⟨w1.heap.size + 1, 5, none⟩ = some (.int .u32 ((V k).f : Nat))) := Lib.hid (hc 5)
      have C6 : Hid (wr.cell? ⟨w1.heap.size + 1, 6, none⟩ = some (.int .u32 ((V k).g : Nat))) := Lib.hid (hc 6)
      have C7 : Hid (wr.cell? ⟨w1.heap.size + 1, 7, none⟩ = some (.int .u32 ((V k).h : Nat))) := Lib.hid (hc 7)
      have HN : Hid (hcells (V (k + 1)) = hcells (roundH ⟨(V k).a, (V k).b, (V k).c, (V k).d, (V k).e, (V k).f, (V k).g, (V k).h⟩ (kN.getD k 0) (W.getD k 0))) := Lib.hid (by rw [HV.out.2.1 k])
      have g5 : Hid (wr.heap[w1.heap.size + 1]? = some (.cells (hcells ⟨(V k).a, (V k).b, (V k).c, (V k).d, (V k).e, (V k).f, (V k).g, (V k).h⟩) 166 (0, 0))) := g5
      clear hc hix
      generalize (V k).a = a at *
      generalize (V k).b = b at *
      generalize (V k).c = c at *
      generalize (V k).d = d at *
      generalize (V k).e = e at *
      generalize (V k).f = f at *
      generalize (V k).g = g at *
      generalize (V k).h = hh at *
      generalize W.getD k 0 = ww at *
      generalize kN.getD k 0 = kk at *
      go_wp2_with (refine wpList_indexA 187 _ _ KZ.toArray k _ rfl rfl rfl rfl HIX.out ?_)
      have c0 := C0.out
      have c4 := C4.out
      go_quiet (fail)
      clear c0 c4
      go_wp2
      have g4 : Hid ((wr.drewN nq).heap[w1.heap.size]? = some (.cells Z 187 (0, 0))) := g4
      have g5 : Hid ((wr.drewN nq).heap[w1.heap.size + 1]? = some (.cells (hcells ⟨a, b, c, d, e, f, g, hh⟩) 166 (0, 0))) := g5
      have c5 : (wr.drewN nq).cell? ⟨w1.heap.size + 1, 5, none⟩ = some (.int .u32 (f : Nat)) := C5.out
      have c6 : (wr.drewN nq).cell? ⟨w1.heap.size + 1, 6, none⟩ = some (.int .u32 (g : Nat)) := C6.out
      have c7 : (wr.drewN nq).cell? ⟨w1.heap.size + 1, 7, none⟩ = some (.int .u32 (hh : Nat)) := C7.out
      have cw : (wr.drewN nq).cell? ⟨w1.heap.size, k, none⟩ = some (.int .u32 (ww : Nat)) := CW.out
      have C1 : Hid ((wr.drewN nq).cell? ⟨w1.heap.size + 1, 1, none⟩ = some (.int .u32 (b : Nat))) := C1
      have C2 : Hid ((wr.drewN nq).cell? ⟨w1.heap.size + 1, 2, none⟩ = some (.int .u32 (c : Nat))) := C2
      have hB : Hid (Below w.heap.size w (wr.drewN nq)) := Lib.hid (below_drewN hB.out _)
      generalize wr.drewN nq = wq at *
      have M1 := Lib.hid (mixed3 e 6 11 25 6 11 25 re ⟨by decide, by decide, by decide⟩ ⟨by decide, by decide, by decide⟩ ⟨by decide, by decide, by decide⟩ (at_new wq (.cells #[.int .i64 6, .int .i64 11, .int .i64 25] 3)))
      go_region_held3 (fun w' => w'.cell? ⟨w1.heap.size + 1, 5, none⟩ = some (.int .u32 (f : Nat)) ∧ w'.cell? ⟨w1.heap.size + 1, 6, none⟩ = some (.int .u32 (g : Nat)) ∧ w'.cell? ⟨w1.heap.size + 1, 7, none⟩ = some (.int .u32 (hh : Nat)) ∧ w'.cell? ⟨w1.heap.size, k, none⟩ = some (.int .u32 (ww : Nat)))
        (simp [*, World.cell?_alloc_some]) ((first | (go_at_call 144; (with_reducible refine M1.out.mono ?_); rintro e w' ⟨rfl, rfl⟩)))
      have T1 := t1_int a b c d e f g hh kk ww re rf rg
      have T1l : t1 ⟨a, b, c, d, e, f, g, hh⟩ kk ww < 4294967296 := Nat.mod_lt _ (by omega)
      have HN : Hid (hcells (V (k + 1)) = #[.int .u32 ((t1 ⟨a, b, c, d, e, f, g, hh⟩ kk ww + t2 ⟨a, b, c, d, e, f, g, hh⟩) % 4294967296 : Nat), .int .u32 (a : Nat), .int .u32 (b : Nat), .int .u32 (c : Nat), .int .u32 ((d + t1 ⟨a, b, c, d, e, f, g, hh⟩ kk ww) % 4294967296 : Nat), .int .u32 (e : Nat), .int .u32 (f : Nat), .int .u32 (g : Nat)]) := HN
      rw [T1]
      clear T1
      generalize t1 ⟨a, b, c, d, e, f, g, hh⟩ kk ww = T at *
      have hsq : w1.heap.size + 1 < wq.heap.size := (Array.getElem?_eq_some_iff.1 g5.out).1
      have g4 : Hid ((wq.alloc (.cells #[.int .i64 6, .int .i64 11, .int .i64 25] 3)).drew.heap[w1.heap.size]? = some (.cells Z 187 (0, 0))) := Lib.hid ((Below.heap_alloc _ _ _ (by omega)).trans g4.out)
      have g5 : Hid ((wq.alloc (.cells #[.int .i64 6, .int .i64 11, .int .i64 25] 3)).drew.heap[w1.heap.size + 1]? = some (.cells (hcells ⟨a, b, c, d, e, f, g, hh⟩) 166 (0, 0))) := Lib.hid ((Below.heap_alloc _ _ _ (by omega)).trans g5.out)
      have hB : Hid (Below w.heap.size w (wq.alloc (.cells #[.int .i64 6, .int .i64 11, .int .i64 25] 3)).drew) := Lib.hid (below_drewN (hB.out.alloc (by omega) _) 1)
      clear C1 C2 M1 c5 c6 c7 cw hsq
      generalize (wq.alloc (.cells #[.int .i64 6, .int .i64 11, .int .i64 25] 3)).drew = wp at *
      go_wp2
      have c1 : wp.cell? ⟨w1.heap.size + 1, 1, none⟩ = some (.int .u32 (b : Nat)) := cell_of_row wp _ 1 _ _ _ g5.out
      have c2 : wp.cell? ⟨w1.heap.size + 1, 2, none⟩ = some (.int .u32 (c : Nat)) := cell_of_row wp _ 2 _ _ _ g5.out
      have M2 := Lib.hid (mixed3 a 2 13 22 2 13 22 ra ⟨by decide, by decide, by decide⟩ ⟨by decide, by decide, by decide⟩ ⟨by decide, by decide, by decide⟩ (at_new wp (.cells #[.int .i64 2, .int .i64 13, .int .i64 22] 3)))
      go_region_held3 (fun w' => w'.cell? ⟨w1.heap.size + 1, 1, none⟩ = some (.int .u32 (b : Nat)) ∧ w'.cell? ⟨w1.heap.size + 1, 2, none⟩ = some (.int .u32 (c : Nat)))
        (simp [*, World.cell?_alloc_some]) ((first | (go_at_call 144; (with_reducible refine M2.out.mono ?_); rintro e w' ⟨rfl, rfl⟩)))
      have T2 := t2_int a b c d e f g hh ra rb rc
      have T2l : t2 ⟨a, b, c, d, e, f, g, hh⟩ < 4294967296 := Nat.mod_lt _ (by omega)
      rw [T2]
      clear T2
      generalize t2 ⟨a, b, c, d, e, f, g, hh⟩ = U at *
      have hsq : w1.heap.size + 1 < wp.heap.size := (Array.getElem?_eq_some_iff.1 g5.out).1
      have g4 : Hid ((wp.alloc (.cells #[.int .i64 2, .int .i64 13, .int .i64 22] 3)).drew.heap[w1.heap.size]? = some (.cells Z 187 (0, 0))) := Lib.hid ((Below.heap_alloc _ _ _ (by omega)).trans g4.out)
      have g5 : Hid ((wp.alloc (.cells #[.int .i64 2, .int .i64 13, .int .i64 22] 3)).drew.heap[w1.heap.size + 1]? = some (.cells (hcells ⟨a, b, c, d, e, f, g, hh⟩) 166 (0, 0))) := Lib.hid ((Below.heap_alloc _ _ _ (by omega)).trans g5.out)
      have hB : Hid (Below w.heap.size w (wp.alloc (.cells #[.int .i64 2, .int .i64 13, .int .i64 22] 3)).drew) := Lib.hid (below_drewN (hB.out.alloc (by omega) _) 1)
      clear c1 c2 M2 hsq
      generalize (wp.alloc (.cells #[.int .i64 2, .int .i64 13, .int .i64 22] 3)).drew = wo at *
      go_wp2
      refine wp_region_quiet_tail 2 (fun w' => ∃ n, w' = wo.drewN n) (by kernel_rfl) (by kernel_rfl) ⟨1, rfl⟩ ?_
      simp only [List.take_succ_cons, List.take_zero, List.drop_succ_cons, List.drop_zero]
      repeat (go_big_quiet_step (fail))
      refine wpQuiet_nil ?_
      rintro _ ⟨nr, rfl⟩
      have g4 : Hid ((wo.drewN nr).heap[w1.heap.size]? = some (.cells Z 187 (0, 0))) := g4
      have g5 : Hid ((wo.drewN nr).heap[w1.heap.size + 1]? = some (.cells (hcells ⟨a, b, c, d, e, f, g, hh⟩) 166 (0, 0))) := g5
      have hB : Hid (Below w.heap.size w (wo.drewN nr)) := Lib.hid (below_drewN hB.out _)
      generalize wo.drewN nr = wn at *
      refine wpList_copy_own rfl (.tmp 69) (.tmp 70) 115 115 rfl 114 (by kernel_rfl) (by kernel_rfl) (w1.heap.size + 1) 1 7 7 ⟨w1.heap.size + 1, 0, none⟩ 7 8 rfl rfl (hcells ⟨a, b, c, d, e, f, g, hh⟩) 166 g5.out [.int .u32 (a : Nat), .int .u32 (b : Nat), .int .u32 (c : Nat), .int .u32 (d : Nat), .int .u32 (e : Nat), .int .u32 (f : Nat), .int .u32 (g : Nat)] rfl ?_ (by simp [hcells]) ?_ ?_
      · intro j u hj
        rw [Addr.add_mid, cell_of_row wn _ _ _ _ _ g5.out, Nat.zero_add]
        have hj7 : j < 7 := by simpa using (List.getElem?_eq_some_iff.1 hj).1
        match j, hj7, hj with
        | 0, _, hj | 1, _, hj | 2, _, hj | 3, _, hj | 4, _, hj | 5, _, hj | 6, _, hj => exact hj
      · intro u hu
        simp only [List.mem_cons, List.not_mem_nil, or_false] at hu
        rcases hu with rfl | rfl | rfl | rfl | rfl | rfl | rfl <;> rfl
      show wpList _ _ _ _ _ (wn.setRow (w1.heap.size + 1) (hcells ⟨a, a, b, c, d, e, f, g⟩))
      have g4 : Hid ((wn.setRow (w1.heap.size + 1) (hcells ⟨a, a, b, c, d, e, f, g⟩)).heap[w1.heap.size]? = some (.cells Z 187 (0, 0))) := Lib.hid ((setRow_other _ _ _ _ (by omega)).trans g4.out)
      have g5 : Hid ((wn.setRow (w1.heap.size + 1) (hcells ⟨a, a, b, c, d, e, f, g⟩)).heap[w1.heap.size + 1]? = some (.cells (hcells ⟨a, a, b, c, d, e, f, g⟩) 166 (0, 0))) := Lib.hid (setRow_heap _ _ _ _ _ _ g5.out)
      have hB : Hid (Below w.heap.size w (wn.setRow (w1.heap.size + 1) (hcells ⟨a, a, b, c, d, e, f, g⟩))) := Lib.hid (below_setRow hB.out (by omega) _)
      generalize wn.setRow (w1.heap.size + 1) (hcells ⟨a, a, b, c, d, e, f, g⟩) = wm at *
      have c0 : wm.cell? ⟨w1.heap.size + 1, 0, none⟩ = some (.int .u32 (a : Nat)) := cell_of_row wm _ 0 _ _ _ g5.out
      have c4 : wm.cell? ⟨w1.heap.size + 1, 4, none⟩ = some (.int .u32 (d : Nat)) := cell_of_row wm _ 4 _ _ _ g5.out
      have f0 : wm.frozen? ⟨w1.heap.size + 1, 0, none⟩ = false := by simp [World.frozen?, g5.out]
      have f4 : wm.frozen? ⟨w1.heap.size + 1, 4, none⟩ = false := by simp [World.frozen?, g5.out]
      go_wp2
      go_roundw
      case rel =>
        refine ⟨k + 1, by omega, by go_num, ?_, ?_, ?_⟩
        · show (World.setCell _ _ _).heap[w1.heap.size]? = _
          rw [Below.heap_setCell _ _ _ _ (by simp), Below.heap_setCell _ _ _ _ (by simp)]
          exact g4.out
        · show (World.setCell _ _ _).heap[w1.heap.size + 1]? = _
          rw [heap_setCell_same _ (heap_setCell_same _ g5.out), HN.out]
          have e1 : ((T : Int) + (U : Int)) % 4294967296 = (((T + U) % 4294967296 : Nat) : Int) := by omega
          have e2 : ((d : Int) + (T : Int)) % 4294967296 = (((d + T) % 4294967296 : Nat) : Int) := by omega
          rw [e1, e2]
          rfl
        · exact (hB.out.grown (grown_setCell (grown_setCell (grown_refl _ _) ⟨w1.heap.size + 1, 0, none⟩ (.inl rfl) _) ⟨w1.heap.size + 1, 4, none⟩ (.inl rfl) _) hB.out.size (fun j e => by cases e; show w.heap.size ≤ w1.heap.size + 1; omega))
      case measure => simp [intOf]; omega
    · have e64 : k = 64 := by omega
      rw [e64] at g5
      have HB : Hid (blockH H l = addH H (V 64)) := Lib.hid (by rw [HBL.out, HV.out.2.2.2])
      have rV := HV.out.2.2.1 64
      generalize V 64 = Y at *
      clear hk HV e64 g4 h4 h5 HB2 HWL HW32 HBL HZ HKZ HE HG
      go_wp2
      clear hlt
      have gh : Hid (wr.heap[bh]? = some (.cells (ucells 8 (addG H Y 0)) 166 (0, 0))) := Lib.hid (by rw [addG_zero]; exact (hB.out.block _ hbh).trans HH.out)
      have gy : Hid (wr.heap[w1.heap.size + 1]? = some (.cells (ucells 8 (lg (hl Y))) 166 (0, 0))) := g5
      have HW : Hid (w.grownBy wr (some bh)) := Lib.hid (by
        have := hB.out
        exact ⟨this.os, this.tape, this.output, this.size, fun i hi _ => this.block i hi⟩)
      clear g5 hB
      go_loopw [12, 82] (fun _ i wr => ∃ k : Nat, k ≤ 8 ∧ i = .int .i64 k ∧ Hid (wr.heap[bh]? = some (.cells (ucells 8 (addG H Y k)) 166 (0, 0))) ∧ Hid (wr.heap[w1.heap.size + 1]? = some (.cells (ucells 8 (lg (hl Y))) 166 (0, 0))) ∧ Hid (w.grownBy wr (some bh))) (fun _ i wr => 8 - (intOf i).toNat)
      case atStart => exact ⟨0, by omega, rfl, gh, gy, HW⟩
      case round =>
        obtain ⟨k, hk, rfl, gh, gy, HW⟩ := hrel
        by_cases hlt : k < 8
        · have r1 := hl_lt H32'.out k
          have r2 := hl_lt rV k
          have c1 : wr.cell? ⟨bh, k, none⟩ = some (.int .u32 (lg (hl H) k : Nat)) := by
            rw [cell_of_row wr _ k _ _ _ gh.out, ucells_get _ _ _ hlt]
            unfold addG
            rw [if_neg (by omega)]
          have c2 : wr.cell? ⟨w1.heap.size + 1, k, none⟩ = some (.int .u32 (lg (hl Y) k : Nat)) := by
            rw [cell_of_row wr _ k _ _ _ gy.out, ucells_get _ _ _ hlt]
          have f1 : wr.frozen? ⟨bh, k, none⟩ = false := by simp [World.frozen?, gh.out]
          have HS : Hid (upd (addG H Y k) k ((lg (hl H) k + lg (hl Y) k) % 4294967296) = addG H Y (k + 1)) := Lib.hid (addG_succ H Y k)
          generalize lg (hl H) k = p at *
          generalize lg (hl Y) k = q at *
          go_wp2
          refine wp_region_quiet_tail 11 (fun w' => ∃ n, w' = wr.drewN n) (by kernel_rfl) (by kernel_rfl) ⟨1, rfl⟩ ?_
          simp only [List.take_succ_cons, List.take_zero, List.drop_succ_cons, List.drop_zero]
          repeat (go_big_quiet_step (fail))
          refine wpQuiet_nil ?_
          rintro _ ⟨nr, rfl⟩
          go_wp2
          go_roundw
          case rel =>
            refine ⟨k + 1, by omega, by go_num, ?_, ?_, ?_⟩
            · show (World.setCell _ _ _).heap[bh]? = _
              have g' : (wr.drewN nr).heap[bh]? = some (.cells (ucells 8 (addG H Y k)) 166 (0, 0)) := gh.out
              rw [heap_setCell_same _ g']
              have e1 : ((p : Int) + (q : Int)) % 4294967296 = (((p + q) % 4294967296 : Nat) : Int) := by omega
              rw [e1, ucells_set _ _ _ _ hlt, HS.out]
            · show (World.setCell _ _ _).heap[w1.heap.size + 1]? = _
              rw [Below.heap_setCell _ _ _ _ (by simp; omega)]
              exact gy.out
            · exact grown_setCell (grown_drewN HW.out _) _ (.inl rfl) _
          case measure => simp [intOf]; omega
        · have e8 : k = 8 := by omega
          rw [e8] at gh
          go_wp2
          go_end0
          refine ⟨rfl, ?_, HW.out⟩
          rw [HB.out, ← addG_all]
          exact gh.out
end Go.Proofs.YtinfpbkbnhcifaaGreatDoor

/- The walk of words.digest. The condition: the words' range. -/
namespace Go.Proofs.YtinfpbkbnhcifaaGreatDoor
open Go.RowKit Go.BigFrame

/-- The cells of so many bytes. -/
def bytesC (n : Nat) (g : Nat → Nat) : Array Value := ((List.range n).map fun y => Value.int .u8 (g y)).toArray
theorem bytesC_size (n : Nat) (g : Nat → Nat) : (bytesC n g).size = n := by simp [bytesC]
theorem bytesC_get (n : Nat) (g : Nat → Nat) (y : Nat) (h : y < n) : (bytesC n g)[y]? = some (.int .u8 (g y)) := by
  simp [bytesC, h]
theorem bytesC_snoc (n : Nat) (l : List Nat) (x : Nat) (k : Nat) (hk : k = l.length) (h : k < n) : (bytesC n (lg l)).setIfInBounds k (.int .u8 x) = bytesC n (lg (l ++ [x])) := by
  subst hk
  rw [← lg_snoc]
  apply Array.ext_getElem?
  intro i
  rw [Array.getElem?_setIfInBounds]
  by_cases hi : i < n
  · rw [bytesC_get _ _ _ hi]
    by_cases e : l.length = i
    · subst e
      rw [if_pos rfl, if_pos (by rw [bytesC_size]; exact h), bytesC_get _ _ _ h]; simp [upd]
    · rw [if_neg e, bytesC_get _ _ _ hi]; simp [upd, Ne.symm e]
  · rw [Array.getElem?_eq_none (by rw [bytesC_size]; omega), if_neg (by omega), Array.getElem?_eq_none (by rw [bytesC_size]; omega)]

theorem zeroB32 : ZeroIs Tryz.prog 190 (bytesC 32 (lg [])) := fun w => by kernel_rfl

/-- The bytes of the first words. -/
def wordsB (l : List Nat) : List Nat := (l.map bytesOfW).flatten
theorem wordsB_snoc (l : List Nat) (x : Nat) : wordsB (l ++ [x]) = wordsB l ++ bytesOfW x := by simp [wordsB]
theorem wordsB_length (l : List Nat) : (wordsB l).length = 4 * l.length := by
  induction l with
  | nil => rfl
  | cons x l ih => simp only [wordsB, List.map_cons, List.flatten_cons, List.length_append, List.length_cons] at *; rw [ih]; simp [bytesOfW]; omega
theorem bytesOfH_words (v : H8) : bytesOfH v = wordsB (hl v) := by simp [bytesOfH, wordsB, hl]
theorem bytesOfW_get (x k : Nat) (h : k < 4) : (bytesOfW x)[k]? = some (x / 2 ^ (24 - 8 * k) % 256) := by
  match k, h with
  | 0, _ | 1, _ | 2, _ => rfl
  | 3, _ => simp [bytesOfW]
theorem bytesOfW_lt (x : Nat) : ∀ y ∈ bytesOfW x, y < 256 := by
  intro y hy
  simp only [bytesOfW, List.mem_cons, List.not_mem_nil, or_false] at hy
  rcases hy with rfl | rfl | rfl | rfl <;> omega
theorem bytesOfH_lt (v : H8) : ∀ y ∈ bytesOfH v, y < 256 := by
  intro y hy
  simp only [bytesOfH, List.mem_append] at hy
  rcases hy with h | h | h | h | h | h | h | h <;> exact bytesOfW_lt _ y h

/-- A string of bytes. -/
def strOf (l : List Nat) : ByteArray := ⟨(l.map UInt8.ofNat).toArray⟩
theorem strOf_size (l : List Nat) : (strOf l).size = l.length := by simp [strOf, ByteArray.size]

theorem wpList_convS {P : Program} {ops : Array Oper} {rest : List Oper} {o : Oper} {a : Act} {w : World} {Q : Exit → Act → World → Prop} (l : List Nat) (h8 : ∀ y ∈ l, y < 256) (src dst e : TypeId) (x : Operand) (b off n cap : Nat) (hg : o.guard = none) (ho : o.op = .convert src dst x) (hx : a.eval x = .slice (some ⟨b, off, none⟩) n cap) (hn : n = l.length)
    (hs : P.underlying src = some (.slice e)) (he : P.underlying e = some (.int .u8)) (hd : P.underlying dst = some .string)
    (hc : ∀ j y, l[j]? = some y → w.cell? ⟨b, off + j, none⟩ = some (.int .u8 (y : Nat))) (h : wpList P ops Q rest (a.put o.dst (.string (strOf l))) w) : wpList P ops Q (o :: rest) a w := by
  refine wpList_run hg ?_ h
  have hr := run_convert_bytes_back (P := P) w src dst e ⟨b, off, none⟩ cap (l.map UInt8.ofNat) hs he hd (fun j hj => by
    rw [List.length_map] at hj
    rw [Addr.add_mid, hc j l[j] (List.getElem?_eq_getElem hj)]
    have h1 := h8 _ (List.getElem_mem hj)
    simp only [List.getElem_map]
    rw [UInt8.toNat_ofNat_of_lt' (by simpa using h1)])
  rw [List.length_map, ← hn] at hr
  unfold execOp
  simp only [ho, hx]
  simp [hr, strOf]

theorem windex (v : H8) (k : Nat) (hk : k < 8) (w : World) : (Instr.index 166 (.agg (hcells v)) (.int .i64 k)).run Tryz.prog w = .ok (.int .u32 (lg (hl v) k : Nat)) w := by
  have hn : 0 ≤ (k : Int) ∧ (k : Int) < ((8 : Nat) : Int) := by omega
  have hg : (hcells v)[k]? = some (.int .u32 (lg (hl v) k : Nat)) := by rw [hcells_u, ucells_get _ _ _ hk]
  simp [Instr.index, run_underlying wordsDesc, asIntOf, hn, go_sem, hg]
  intro h; omega

set_option maxHeartbeats 4000000 in
set_option maxRecDepth 100000 in
theorem wdigest_any (v : H8) (w : World) (h32 : H32 v) :
    Calls Tryz.prog 125 #[.agg (hcells v)] w fun e w' => e = .returned (.string (strOf (bytesOfH v))) ∧ Below w.heap.size w w' := by
  have HR : Hid (bytesOfH v = wordsB (hl v)) := Lib.hid (bytesOfH_words v)
  have HL : Hid (∀ y ∈ bytesOfH v, y < 256) := Lib.hid (bytesOfH_lt v)
  generalize bytesOfH v = R at *
  have HS : Hid (∀ i, lg (hl v) i < 4294967296) := Lib.hid (hl_lt h32)
  have HI : Hid (∀ k : Nat, k < 8 → ∀ w, (Instr.index 166 (.agg (hcells v)) (.int .i64 k)).run Tryz.prog w = .ok (.int .u32 (lg (hl v) k : Nat)) w) := Lib.hid (windex v)
  have HT : Hid (∀ k, k < 8 → (hl v).take (k + 1) = (hl v).take k ++ [lg (hl v) k]) := Lib.hid (fun k hk => by
    rw [List.take_add_one, getD_lt (l := hl v) (by simpa [hl] using hk)]; rfl)
  have h1 := wordsSize v
  have h3 := hcells_one v
  obtain ⟨Z, hZ⟩ : ∃ Z, Z = hcells v := ⟨_, rfl⟩
  rw [← hZ] at h1 h3 HI ⊢
  have H1 := Lib.hid h1
  have H3 := Lib.hid h3
  clear h1 h3 hZ h32
  obtain ⟨L, hL⟩ : ∃ L, L = hl v := ⟨_, rfl⟩
  have HLn : Hid (L.length = 8) := Lib.hid (by rw [hL]; rfl)
  rw [← hL] at HR HS HI HT
  clear hL
  go_enter Tryz.func125, Tryz.ntmps125
  go_wp2_with (first | (refine wpList_boxA 166 (.tmp 0) Z rfl rfl rfl ?_) | (refine wpList_allocA 190 (bytesC 32 (lg [])) zeroB32 rfl rfl ?_) | (refine wpList_loadA 166 _ w.heap.size 166 Z (0, 0) _ rfl rfl rfl ?_ wordsDesc rfl H1.out ?_))
  · exact at_past w _ _
  have hb : Hid (((w.alloc (.cells Z 166)).alloc (.cells (bytesC 32 (lg [])) 190)).heap[w.heap.size + 1]? = some (.cells (bytesC 32 (lg [])) 190 (0, 0))) := Lib.hid (at_second w _ _)
  have hB : Hid (Below w.heap.size w ((w.alloc (.cells Z 166)).alloc (.cells (bytesC 32 (lg [])) 190))) := Lib.hid (((Below.refl _ _).alloc (Nat.le_refl _) _).alloc (by simp) _)
  generalize (w.alloc (.cells Z 166)).alloc (.cells (bytesC 32 (lg [])) 190) = W0 at *
  clear H1 H3
  go_loopw [4, 5, 6, 8] (fun _ _ _ i wr => ∃ k : Nat, k ≤ 8 ∧ i = .int .i64 k ∧ Hid (wr.heap[w.heap.size + 1]? = some (.cells (bytesC 32 (lg (wordsB (L.take k)))) 190 (0, 0))) ∧ Hid (Below w.heap.size w wr)) (fun _ _ _ i wr => 8 - (intOf i).toNat)
  case atStart => exact ⟨0, by omega, rfl, hb, hB⟩
  case round =>
    obtain ⟨k, hk, rfl, hg, hB'⟩ := hrel
    by_cases hlt : k < 8
    · have HIX := Lib.hid (HI.out k hlt wr)
      have hx := HS.out k
      have HTk : Hid (wordsB (L.take (k + 1)) = wordsB (L.take k) ++ bytesOfW (lg L k)) := Lib.hid (by rw [HT.out k hlt, wordsB_snoc])
      have HLk : Hid ((wordsB (L.take k)).length = 4 * k) := Lib.hid (by rw [wordsB_length, List.length_take, HLn.out, Nat.min_eq_left (by omega)])
      have HG : Hid (∀ j, j < 4 → (bytesOfW (lg L k)).take (j + 1) = (bytesOfW (lg L k)).take j ++ [lg L k / 2 ^ (24 - 8 * j) % 256]) := Lib.hid (fun j hj => by rw [List.take_add_one, bytesOfW_get _ _ hj]; rfl)
      generalize lg L k = x at *
      have HF : Hid ((bytesOfW x).take 4 = bytesOfW x) := Lib.hid rfl
      have hg0 : Hid (wr.heap[w.heap.size + 1]? = some (.cells (bytesC 32 (lg (wordsB (L.take k) ++ (bytesOfW x).take 0))) 190 (0, 0))) := Lib.hid (by rw [List.take_zero, List.append_nil]; exact hg.out)
      generalize wordsB (L.take k) = A at *
      obtain ⟨T, hT⟩ : ∃ T : Nat → List Nat, T = fun j => (bytesOfW x).take j := ⟨_, rfl⟩
      have HT0 : Hid ((∀ j, T j = (bytesOfW x).take j)) := Lib.hid (fun j => by rw [hT])
      have hg1 : Hid (wr.heap[w.heap.size + 1]? = some (.cells (bytesC 32 (lg (A ++ T 0))) 190 (0, 0))) := Lib.hid (by rw [HT0.out]; exact hg0.out)
      have HTs : Hid (∀ j, j < 4 → T (j + 1) = T j ++ [x / 2 ^ (24 - 8 * j) % 256]) := Lib.hid (fun j hj => by rw [HT0.out, HT0.out]; exact HG.out j hj)
      have HTl : Hid (∀ j, j ≤ 4 → (T j).length = j) := Lib.hid (fun j hj => by rw [HT0.out, List.length_take]; simp [bytesOfW]; omega)
      have HT4 : Hid (A ++ T 4 = wordsB (L.take (k + 1))) := Lib.hid (by rw [HT0.out, HF.out, HTk.out])
      clear hT hg hg0 HF HG HTk HT0
      go_wp2_with (refine wpList_indexA 166 _ _ Z k _ rfl rfl rfl rfl HIX.out ?_)
      go_loopw [6, 12] (fun _ i wr => ∃ j : Nat, j ≤ 4 ∧ i = .int .i64 j ∧ Hid (wr.heap[w.heap.size + 1]? = some (.cells (bytesC 32 (lg (A ++ T j))) 190 (0, 0))) ∧ Hid (Below w.heap.size w wr)) (fun _ i wr => 4 - (intOf i).toNat)
      case atStart => exact ⟨0, by omega, rfl, hg1, hB'⟩
      case round =>
        obtain ⟨j, hj, rfl, hg, hB2⟩ := hrel
        by_cases hltj : j < 4
        · obtain ⟨p, hp⟩ : ∃ p, p = 4 * k + j := ⟨_, rfl⟩
          obtain ⟨q, hq⟩ : ∃ q, q = 24 - 8 * j := ⟨_, rfl⟩
          have f1 : IntKind.i64.wrap (4 * (k : Int)) = 4 * (k : Int) := IntWalk.i64_in _ (by omega)
          have f2 : IntKind.i64.wrap (4 * (k : Int) + (j : Int)) = (p : Int) := by rw [IntWalk.i64_in _ (by omega)]; omega
          have f3 : IntKind.i64.wrap (8 * (j : Int)) = 8 * (j : Int) := IntWalk.i64_in _ (by omega)
          have f4 : IntKind.i64.wrap (24 - 8 * (j : Int)) = (q : Int) := by rw [IntWalk.i64_in _ (by omega)]; omega
          have b1 : (0 : Int) ≤ (p : Int) ∧ (p : Int) < 32 := by omega
          have b2 : p < 32 := by omega
          have b3 : q < 32 := by omega
          have c1 : wr.cell? ⟨w.heap.size + 1, p, none⟩ = some (.int .u8 (lg (A ++ T j) p : Nat)) := by
            rw [cell_of_row wr _ p _ _ _ hg.out, bytesC_get _ _ _ b2]
          have g1 : wr.frozen? ⟨w.heap.size + 1, p, none⟩ = false := by simp [World.frozen?, hg.out]
          have HTj : Hid (T (j + 1) = T j ++ [x / 2 ^ q % 256]) := Lib.hid (by rw [hq]; exact HTs.out j hltj)
          have HP : Hid (p = (A ++ T j).length) := Lib.hid (by rw [List.length_append, HLk.out, HTl.out j (by omega)]; exact hp)
          obtain ⟨b11, b12⟩ := b1
          clear hp hq
          go_wp2
          go_roundw
          case rel =>
            refine ⟨j + 1, by omega, by go_num, ?_, ?_⟩
            · show (World.setCell _ _ _).heap[w.heap.size + 1]? = _
              rw [heap_setCell_same _ hg.out]
              have e1 : (x : Int) / 2 ^ q % 256 = ((x / 2 ^ q % 256 : Nat) : Int) := by rw [Int.natCast_emod, Int.natCast_ediv, Int.natCast_pow]; rfl
              rw [e1, bytesC_snoc 32 _ _ p HP.out b2, List.append_assoc, HTj.out]
            · exact hB2.out.grown (grown_setCell (grown_refl _ _) ⟨w.heap.size + 1, p, none⟩ (.inl rfl) _) hB2.out.size (fun j e => by cases e; show w.heap.size ≤ w.heap.size + 1; omega)
          case measure => simp [intOf]; omega
        · have e4 : j = 4 := by omega
          rw [e4] at hg
          go_wp2
          go_roundw
          case rel => exact ⟨k + 1, by omega, by go_num, by rw [← HT4.out]; exact hg.out, hB2.out⟩
          case measure => simp [intOf]; omega
    · have e8 : k = 8 := by omega
      rw [e8] at hg
      have HC : Hid (∀ j y, R[j]? = some y → wr.cell? ⟨w.heap.size + 1, 0 + j, none⟩ = some (.int .u8 (y : Nat))) := Lib.hid (fun j y hj => by
        rw [Nat.zero_add, cell_of_row wr _ j _ _ _ hg.out]
        have h2 : L.take 8 = L := List.take_of_length_le (by rw [HLn.out]; omega)
        have h3 : j < 32 := by
          have h4 := (List.getElem?_eq_some_iff.1 hj).1
          rw [HR.out, wordsB_length, HLn.out] at h4
          omega
        rw [bytesC_get _ _ _ h3, h2, ← HR.out]
        unfold lg
        rw [List.getD_eq_getElem?_getD, hj]; rfl)
      have HN : Hid (32 = R.length) := Lib.hid (by rw [HR.out, wordsB_length, HLn.out])
      go_wp2_with (refine wpList_convS R HL.out 88 9 5 _ (w.heap.size + 1) 0 32 32 rfl rfl rfl HN.out (by kernel_rfl) (by kernel_rfl) (by kernel_rfl) HC.out ?_)
      go_ret
      exact ⟨rfl, hB'.out⟩
end Go.Proofs.YtinfpbkbnhcifaaGreatDoor
