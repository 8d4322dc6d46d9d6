/- The walk of words.digest. The condition: the words' range. -/
import Derived.Test.YtinfpbkbnhcifaaGreatDoorQDG3
import Derived.Laws.IdiomStrings
import Derived.ArgAppend
import Derived.Test.YtinfpbkbnhcifaaGreatDoorQRG
import Derived.Shelf.Abstract
import Derived.OwnWalkIn
import Derived.TacticsInMore
import Derived.LoopNIn
import Derived.LoopIn
namespace Go.Proofs.YtinfpbkbnhcifaaGreatDoor
open Go.RowKit Go.BigFrame

/-- The cells of so many bytes. -/
def bytesC (n : Nat) (g : Nat → Nat) : Array Value := ((List.range n).map fun y => Value.int .u8 (g y)).toArray
theorem bytesC_size (n : Nat) (g : Nat → Nat) : (bytesC n g).size = n := by simp [bytesC]
theorem bytesC_get (n : Nat) (g : Nat → Nat) (y : Nat) (h : y < n) : (bytesC n g)[y]? = some (.int .u8 (g y)) := by
  simp [bytesC, h]
theorem bytesC_snoc (n : Nat) (l : List Nat) (x : Nat) (k : Nat) (hk : k = l.length) (h : k < n) : (bytesC n (lg l)).setIfInBounds k (.int .u8 x) = bytesC n (lg (l ++ [x])) := by
  subst hk
  rw [← lg_snoc]
  apply Array.ext_getElem?
  intro i
  rw [Array.getElem?_setIfInBounds]
  by_cases hi : i < n
  · rw [bytesC_get _ _ _ hi]
    by_cases e : l.length = i
    · subst e
      rw [if_pos rfl, if_pos (by rw [bytesC_size]; exact h), bytesC_get _ _ _ h]; simp [upd]
    · rw [if_neg e, bytesC_get _ _ _ hi]; simp [upd, Ne.symm e]
  · rw [Array.getElem?_eq_none (by rw [bytesC_size]; omega), if_neg (by omega), Array.getElem?_eq_none (by rw [bytesC_size]; omega)]

theorem zeroB32 : ZeroIs Tryz.prog 190 (bytesC 32 (lg [])) := fun w => by kernel_rfl

/-- The bytes of the first words. -/
def wordsB (l : List Nat) : List Nat := (l.map bytesOfW).flatten
theorem wordsB_snoc (l : List Nat) (x : Nat) : wordsB (l ++ [x]) = wordsB l ++ bytesOfW x := by simp [wordsB]
theorem wordsB_length (l : List Nat) : (wordsB l).length = 4 * l.length := by
  induction l with
  | nil => rfl
  | cons x l ih => simp only [wordsB, List.map_cons, List.flatten_cons, List.length_append, List.length_cons] at *; rw [ih]; simp [bytesOfW]; omega
theorem bytesOfH_words (v : H8) : bytesOfH v = wordsB (hl v) := by simp [bytesOfH, wordsB, hl]
theorem bytesOfW_get (x k : Nat) (h : k < 4) : (bytesOfW x)[k]? = some (x / 2 ^ (24 - 8 * k) % 256) := by
  match k, h with
  | 0, _ | 1, _ | 2, _ => rfl
  | 3, _ => simp [bytesOfW]
theorem bytesOfW_lt (x : Nat) : ∀ y ∈ bytesOfW x, y < 256 := by
  intro y hy
  simp only [bytesOfW, List.mem_cons, List.not_mem_nil, or_false] at hy
  rcases hy with rfl | rfl | rfl | rfl <;> omega
theorem bytesOfH_lt (v : H8) : ∀ y ∈ bytesOfH v, y < 256 := by
  intro y hy
  simp only [bytesOfH, List.mem_append] at hy
  rcases hy with h | h | h | h | h | h | h | h <;> exact bytesOfW_lt _ y h

/-- A string of bytes. -/
def strOf (l : List Nat) : ByteArray := ⟨(l.map UInt8.ofNat).toArray⟩
theorem strOf_size (l : List Nat) : (strOf l).size = l.length := by simp [strOf, ByteArray.size]

theorem wpList_convS {P : Program} {ops : Array Oper} {rest : List Oper} {o : Oper} {a : Act} {w : World} {Q : Exit → Act → World → Prop} (l : List Nat) (h8 : ∀ y ∈ l, y < 256) (src dst e : TypeId) (x : Operand) (b off n cap : Nat) (hg : o.guard = none) (ho : o.op = .convert src dst x) (hx : a.eval x = .slice (some ⟨b, off, none⟩) n cap) (hn : n = l.length)
    (hs : P.underlying src = some (.slice e)) (he : P.underlying e = some (.int .u8)) (hd : P.underlying dst = some .string)
    (hc : ∀ j y, l[j]? = some y → w.cell? ⟨b, off + j, none⟩ = some (.int .u8 (y : Nat))) (h : wpList P ops Q rest (a.put o.dst (.string (strOf l))) w) : wpList P ops Q (o :: rest) a w := by
  refine wpList_run hg ?_ h
  have hr := run_convert_bytes_back (P := P) w src dst e ⟨b, off, none⟩ cap (l.map UInt8.ofNat) hs he hd (fun j hj => by
    rw [List.length_map] at hj
    rw [Addr.add_mid, hc j l[j] (List.getElem?_eq_getElem hj)]
    have h1 := h8 _ (List.getElem_mem hj)
    simp only [List.getElem_map]
    rw [UInt8.toNat_ofNat_of_lt' (by simpa using h1)])
  rw [List.length_map, ← hn] at hr
  unfold execOp
  simp only [ho, hx]
  simp [hr, strOf]

theorem windex (v : H8) (k : Nat) (hk : k < 8) (w : World) : (Instr.index 166 (.agg (hcells v)) (.int .i64 k)).run Tryz.prog w = .ok (.int .u32 (lg (hl v) k : Nat)) w := by
  have hn : 0 ≤ (k : Int) ∧ (k : Int) < ((8 : Nat) : Int) := by omega
  have hg : (hcells v)[k]? = some (.int .u32 (lg (hl v) k : Nat)) := by rw [hcells_u, ucells_get _ _ _ hk]
  simp [Instr.index, run_underlying wordsDesc, asIntOf, hn, go_sem, hg]
  intro h; omega

set_option maxHeartbeats 4000000 in
set_option maxRecDepth 100000 in
theorem wdigest_any (v : H8) (w : World) (h32 : H32 v) :
    Calls Tryz.prog 125 #[.agg (hcells v)] w fun e w' => e = .returned (.string (strOf (bytesOfH v))) ∧ Below w.heap.size w w' := by
  have HR : Hid (bytesOfH v = wordsB (hl v)) := Lib.hid (bytesOfH_words v)
  have HL : Hid (∀ y ∈ bytesOfH v, y < 256) := Lib.hid (bytesOfH_lt v)
  generalize bytesOfH v = R at *
  have HS : Hid (∀ i, lg (hl v) i < 4294967296) := Lib.hid (hl_lt h32)
  have HI : Hid (∀ k : Nat, k < 8 → ∀ w, (Instr.index 166 (.agg (hcells v)) (.int .i64 k)).run Tryz.prog w = .ok (.int .u32 (lg (hl v) k : Nat)) w) := Lib.hid (windex v)
  have HT : Hid (∀ k, k < 8 → (hl v).take (k + 1) = (hl v).take k ++ [lg (hl v) k]) := Lib.hid (fun k hk => by
    rw [List.take_add_one, getD_lt (l := hl v) (by simpa [hl] using hk)]; rfl)
  have h1 := wordsSize v
  have h3 := hcells_one v
  obtain ⟨Z, hZ⟩ : ∃ Z, Z = hcells v := ⟨_, rfl⟩
  rw [← hZ] at h1 h3 HI ⊢
  have H1 := Lib.hid h1
  have H3 := Lib.hid h3
  clear h1 h3 hZ h32
  obtain ⟨L, hL⟩ : ∃ L, L = hl v := ⟨_, rfl⟩
  have HLn : Hid (L.length = 8) := Lib.hid (by rw [hL]; rfl)
  rw [← hL] at HR HS HI HT
  clear hL
  go_enter Tryz.func125, Tryz.ntmps125
  go_wp2_with (first | (refine wpList_boxA 166 (.tmp 0) Z rfl rfl rfl ?_) | (refine wpList_allocA 190 (bytesC 32 (lg [])) zeroB32 rfl rfl ?_) | (refine wpList_loadA 166 _ w.heap.size 166 Z (0, 0) _ rfl rfl rfl ?_ wordsDesc rfl H1.out ?_))
  · exact at_past w _ _
  have hb : Hid (((w.alloc (.cells Z 166)).alloc (.cells (bytesC 32 (lg [])) 190)).heap[w.heap.size + 1]? = some (.cells (bytesC 32 (lg [])) 190 (0, 0))) := Lib.hid (at_second w _ _)
  have hB : Hid (Below w.heap.size w ((w.alloc (.cells Z 166)).alloc (.cells (bytesC 32 (lg [])) 190))) := Lib.hid (((Below.refl _ _).alloc (Nat.le_refl _) _).alloc (by simp) _)
  generalize (w.alloc (.cells Z 166)).alloc (.cells (bytesC 32 (lg [])) 190) = W0 at *
  clear H1 H3
  go_loopw [4, 5, 6, 8] (fun _ _ _ i wr => ∃ k : Nat, k ≤ 8 ∧ i = .int .i64 k ∧ Hid (wr.heap[w.heap.size + 1]? = some (.cells (bytesC 32 (lg (wordsB (L.take k)))) 190 (0, 0))) ∧ Hid (Below w.heap.size w wr)) (fun _ _ _ i wr => 8 - (intOf i).toNat)
  case atStart => exact ⟨0, by omega, rfl, hb, hB⟩
  case round =>
    obtain ⟨k, hk, rfl, hg, hB'⟩ := hrel
    by_cases hlt : k < 8
    · have HIX := Lib.hid (HI.out k hlt wr)
      have hx := HS.out k
      have HTk : Hid (wordsB (L.take (k + 1)) = wordsB (L.take k) ++ bytesOfW (lg L k)) := Lib.hid (by rw [HT.out k hlt, wordsB_snoc])
      have HLk : Hid ((wordsB (L.take k)).length = 4 * k) := Lib.hid (by rw [wordsB_length, List.length_take, HLn.out, Nat.min_eq_left (by omega)])
      have HG : Hid (∀ j, j < 4 → (bytesOfW (lg L k)).take (j + 1) = (bytesOfW (lg L k)).take j ++ [lg L k / 2 ^ (24 - 8 * j) % 256]) := Lib.hid (fun j hj => by rw [List.take_add_one, bytesOfW_get _ _ hj]; rfl)
      generalize lg L k = x at *
      have HF : Hid ((bytesOfW x).take 4 = bytesOfW x) := Lib.hid rfl
      have hg0 : Hid (wr.heap[w.heap.size + 1]? = some (.cells (bytesC 32 (lg (wordsB (L.take k) ++ (bytesOfW x).take 0))) 190 (0, 0))) := Lib.hid (by rw [List.take_zero, List.append_nil]; exact hg.out)
      generalize wordsB (L.take k) = A at *
      obtain ⟨T, hT⟩ : ∃ T : Nat → List Nat, T = fun j => (bytesOfW x).take j := ⟨_, rfl⟩
      have HT0 : Hid ((∀ j, T j = (bytesOfW x).take j)) := Lib.hid (fun j => by rw [hT])
      have hg1 : Hid (wr.heap[w.heap.size + 1]? = some (.cells (bytesC 32 (lg (A ++ T 0))) 190 (0, 0))) := Lib.hid (by rw [HT0.out]; exact hg0.out)
      have HTs : Hid (∀ j, j < 4 → T (j + 1) = T j ++ [x / 2 ^ (24 - 8 * j) % 256]) := Lib.hid (fun j hj => by rw [HT0.out, HT0.out]; exact HG.out j hj)
      have HTl : Hid (∀ j, j ≤ 4 → (T j).length = j) := Lib.hid (fun j hj => by rw [HT0.out, List.length_take]; simp [bytesOfW]; omega)
      have HT4 : Hid (A ++ T 4 = wordsB (L.take (k + 1))) := Lib.hid (by rw [HT0.out, HF.out, HTk.out])
      clear hT hg hg0 HF HG HTk HT0
      go_wp2_with (refine wpList_indexA 166 _ _ Z k _ rfl rfl rfl rfl HIX.out ?_)
      go_loopw [6, 12] (fun _ i wr => ∃ j : Nat, j ≤ 4 ∧ i = .int .i64 j ∧ Hid (wr.heap[w.heap.size + 1]? = some (.cells (bytesC 32 (lg (A ++ T j))) 190 (0, 0))) ∧ Hid (Below w.heap.size w wr)) (fun _ i wr => 4 - (intOf i).toNat)
      case atStart => exact ⟨0, by omega, rfl, hg1, hB'⟩
      case round =>
        obtain ⟨j, hj, rfl, hg, hB2⟩ := hrel
        by_cases hltj : j < 4
        · obtain ⟨p, hp⟩ : ∃ p, p = 4 * k + j := ⟨_, rfl⟩
          obtain ⟨q, hq⟩ : ∃ q, q = 24 - 8 * j := ⟨_, rfl⟩
          have f1 : IntKind.i64.wrap (4 * (k : Int)) = 4 * (k : Int) := IntWalk.i64_in _ (by omega)
          have f2 : IntKind.i64.wrap (4 * (k : Int) + (j : Int)) = (p : Int) := by rw [IntWalk.i64_in _ (by omega)]; omega
          have f3 : IntKind.i64.wrap (8 * (j : Int)) = 8 * (j : Int) := IntWalk.i64_in _ (by omega)
          have f4 : IntKind.i64.wrap (24 - 8 * (j : Int)) = (q : Int) := by rw [IntWalk.i64_in _ (by omega)]; omega
          have b1 : (0 : Int) ≤ (p : Int) ∧ (p : Int) < 32 := by omega
          have b2 : p < 32 := by omega
          have b3 : q < 32 := by omega
          have c1 : wr.cell? ⟨w.heap.size + 1, p, none⟩ = some (.int .u8 (lg (A ++ T j) p : Nat)) := by
            rw [cell_of_row wr _ p _ _ _ hg.out, bytesC_get _ _ _ b2]
          have g1 : wr.frozen? ⟨w.heap.size + 1, p, none⟩ = false := by simp [World.frozen?, hg.out]
          have HTj : Hid (T (j + 1) = T j ++ [x / 2 ^ q % 256]) := Lib.hid (by rw [hq]; exact HTs.out j hltj)
          have HP : Hid (p = (A ++ T j).length) := Lib.hid (by rw [List.length_append, HLk.out, HTl.out j (by omega)]; exact hp)
          obtain ⟨b11, b12⟩ := b1
          clear hp hq
          go_wp2
          go_roundw
          case rel =>
            refine ⟨j + 1, by omega, by go_num, ?_, ?_⟩
            · show (World.setCell _ _ _).heap[w.heap.size + 1]? = _
              rw [heap_setCell_same _ hg.out]
              have e1 : (x : Int) / 2 ^ q % 256 = ((x / 2 ^ q % 256 : Nat) : Int) := by rw [Int.natCast_emod, Int.natCast_ediv, Int.natCast_pow]; rfl
              rw [e1, bytesC_snoc 32 _ _ p HP.out b2, List.append_assoc, HTj.out]
            · exact hB2.out.grown (grown_setCell (grown_refl _ _) ⟨w.heap.size + 1, p, none⟩ (.inl rfl) _) hB2.out.size (fun j e => by cases e; show w.heap.size ≤ w.heap.size + 1; omega)
          case measure => simp [intOf]; omega
        · have e4 : j = 4 := by omega
          rw [e4] at hg
          go_wp2
          go_roundw
          case rel => exact ⟨k + 1, by omega, by go_num, by rw [← HT4.out]; exact hg.out, hB2.out⟩
          case measure => simp [intOf]; omega
    · have e8 : k = 8 := by omega
      rw [e8] at hg
      have HC : Hid (∀ j y, R[j]? = some y → wr.cell? ⟨w.heap.size + 1, 0 + j, none⟩ = some (.int .u8 (y : Nat))) := Lib.hid (fun j y hj => by
        rw [Nat.zero_add, cell_of_row wr _ j _ _ _ hg.out]
        have h2 : L.take 8 = L := List.take_of_length_le (by rw [HLn.out]; omega)
        have h3 : j < 32 := by
          have h4 := (List.getElem?_eq_some_iff.1 hj).1
          rw [HR.out, wordsB_length, HLn.out] at h4
          omega
        rw [bytesC_get _ _ _ h3, h2, ← HR.out]
        unfold lg
        rw [List.getD_eq_getElem?_getD, hj]; rfl)
      have HN : Hid (32 = R.length) := Lib.hid (by rw [HR.out, wordsB_length, HLn.out])
      go_wp2_with (refine wpList_convS R HL.out 88 9 5 _ (w.heap.size + 1) 0 32 32 rfl rfl rfl HN.out (by kernel_rfl) (by kernel_rfl) (by kernel_rfl) HC.out ?_)
      go_ret
      exact ⟨rfl, hB'.out⟩
end Go.Proofs.YtinfpbkbnhcifaaGreatDoor

/- A buffer of bytes of the call's own, whether its row is marked or not: a string's bytes, one byte more. The conditions: lengths. -/
namespace Go.Proofs.YtinfpbkbnhcifaaGreatDoor
open Go.RowKit Go.BigFrame

/-- A slice of the call's own that holds bytes; what lies behind them may be written. -/
def BufB (w : World) (base : Nat) (v : Value) (xs : List Nat) : Prop :=
  ∃ g cap, v = .slice (some ⟨g, 0, none⟩) xs.length cap ∧ xs.length ≤ cap ∧ cap ≤ maxLen ∧ base ≤ g ∧ g < w.heap.size ∧
    (∀ j y, xs[j]? = some y → w.cell? ⟨g, j, none⟩ = some (.int .u8 (y : Nat))) ∧ (∀ j, j < cap → (w.cell? ⟨g, j, none⟩).isSome = true ∧ w.frozen? ⟨g, j, none⟩ = false)

theorem BufB.keep {w w' : World} {base : Nat} {v : Value} {xs : List Nat} (h : BufB w base v xs) (hb : Below w.heap.size w w') : BufB w' base v xs := by
  obtain ⟨g, cap, rfl, h1, h2, h3, h4, h5, h6⟩ := h
  refine ⟨g, cap, rfl, h1, h2, h3, Nat.lt_of_lt_of_le h4 hb.size, fun j y hj => ?_, fun j hj => ?_⟩
  · rw [hb.cell (p := ⟨g, j, none⟩) h4]; exact h5 j y hj
  · rw [hb.cell (p := ⟨g, j, none⟩) h4, hb.frozen (p := ⟨g, j, none⟩) h4]; exact h6 j hj
theorem BufB.slice {w : World} {base : Nat} {v : Value} {xs : List Nat} (h : BufB w base v xs) : SliceAt w v 1 (bcells xs) := by
  obtain ⟨g, cap, rfl, h1, h2, h3, h4, h5, h6⟩ := h
  refine ⟨_, cap, by rw [bcells, List.length_map], by rw [bcells, List.length_map]; exact h1, h2, .inr ⟨g, 0, rfl, h4, fun i c hi j u hj => ?_⟩⟩
  unfold bcells at hi
  rw [List.getElem?_map] at hi
  cases hx : xs[i]? with
  | none => rw [hx] at hi; cases hi
  | some y =>
    rw [hx] at hi
    cases hi
    match j, hj with
    | 0, hj =>
      cases hj
      have := h5 i y hx
      simpa using this

/-- The bytes of a string. -/
def bytesS (s : ByteArray) : List Nat := s.data.toList.map UInt8.toNat
theorem bytesS_length (s : ByteArray) : (bytesS s).length = s.size := by
  unfold bytesS
  rw [List.length_map, Array.length_toList]
  rfl
theorem bytesS_lt (s : ByteArray) : ∀ y ∈ bytesS s, y < 256 := by
  intro y hy
  unfold bytesS at hy
  rw [List.mem_map] at hy
  obtain ⟨b, _, rfl⟩ := hy
  exact b.toNat_lt

section
variable {P : Program} {ops : Array Oper} {rest : List Oper} {o : Oper} {a : Act} {w : World} {Q : Exit → Act → World → Prop}

theorem wpList_strBytes (base : Nat) (s : ByteArray) (src dst e : TypeId) (x : Operand) (hg : o.guard = none) (ho : o.op = .convert src dst x) (hx : a.eval x = .string s) (hsz : s.size ≤ maxLen) (hbase : base ≤ w.heap.size)
    (hs : P.underlying src = some .string) (hd : P.underlying dst = some (.slice e)) (he : P.underlying e = some (.int .u8))
    (h : ∀ v w', BufB w' base v (bytesS s) → Below w.heap.size w w' → wpList P ops Q rest (a.put o.dst v) w') : wpList P ops Q (o :: rest) a w := by
  have hr := run_bytes_of_string (P := P) w src dst e s hs hd he
  have hcap := grownCap_ge w s.size 0 e
  have hcm := grownCap_le_maxLen w s.size 0 e hsz
  generalize grownCap w s.size 0 e = cap at *
  have hsize : (bytesRow s cap).size = cap := by
    unfold bytesRow
    rw [Array.size_append, Array.size_map, Array.size_replicate]
    have : s.data.size = s.size := rfl
    omega
  refine wpList_run hg (v := .slice (some ⟨w.heap.size, 0, none⟩) s.size cap) (w' := w.drew.alloc (.cells (bytesRow s cap) e ((bytesRow s cap).size, (bytesRow s cap).size + 1))) ?_ ?_
  · unfold execOp
    simp only [ho, hx]
    simp [hr]
  refine h _ _ ⟨w.heap.size, cap, by rw [bytesS_length], by rw [bytesS_length]; exact hcap, hcm, hbase, by simp, fun j y hj => ?_, fun j hj => ⟨?_, ?_⟩⟩ (below_drewN ((Below.refl _ _).alloc (Nat.le_refl _) _) 1)
  · have hj' : j < s.size := by have := (List.getElem?_eq_some_iff.1 hj).1; rwa [bytesS_length] at this
    show (w.drew.alloc _).cell? ⟨w.drew.heap.size, j, none⟩ = _
    rw [World.cell?_alloc_mark, bytesRow_at s cap j hj']
    unfold bytesS at hj
    rw [List.getElem?_map, Array.getElem?_toList, Array.getElem?_eq_getElem hj'] at hj
    cases hj
    rfl
  · show ((w.drew.alloc _).cell? ⟨w.drew.heap.size, j, none⟩).isSome = true
    rw [World.cell?_alloc_mark, Array.getElem?_eq_getElem (by rw [hsize]; exact hj)]
    rfl
  · show (w.drew.alloc _).frozen? ⟨w.drew.heap.size, j, none⟩ = false
    rw [World.frozen?_alloc_mark, hsize]
    simp
    omega

theorem wpList_appendB (t e : TypeId) (z : Value) (ht : P.underlying t = some (.slice e)) (hinfo : (P.info? e).map (fun i => (i.zero, i.size, i.bytes)) = some (some z, 1, 1)) (hz : z.cells.size = 1)
    (hgd : o.guard = none) (s x : Operand) (ho : o.op = .call { callee := .builtin .append, args := #[s, x], argTypes := #[t, t] })
    (base : Nat) (v : Value) (xs : List Nat) (hs : a.eval s = v) (hown : BufB w base v xs) (b : Nat) (y : Nat) (hx : a.eval x = .slice (some ⟨b, 0, none⟩) 1 1)
    (hb : w.cell? ⟨b, 0, none⟩ = some (.int .u8 (y : Nat))) (hlen : xs.length + 1 ≤ 140737488355328) (hbase : base ≤ w.heap.size)
    (h : ∀ v' w', BufB w' base v' (xs ++ [y]) → Below base w w' → wpList P ops Q rest (a.put o.dst v') w') : wpList P ops Q (o :: rest) a w := by
  obtain ⟨i, i1, i2, i3, i4⟩ := info_parts hinfo
  obtain ⟨g, cap, rfl, h1, h2, h3, h4, h5, h6⟩ := hown
  refine wpList_append_arg w hgd s x t ho e i z 1 1 ht i1 i2 i3 i4 hz (by decide) g 0 xs.length cap (xs.map fun y : Nat => Value.int .u8 (y : Nat)) hs (by simp) ?_ ⟨b, 0, none⟩ 1 1 [.int .u8 (y : Nat)] hx rfl ?_ ?_ ?_ ?_ ?_ ?_ ?_
  · intro j u hj
    rw [List.getElem?_map] at hj
    cases hq : xs[j]? with
    | none => rw [hq] at hj; cases hj
    | some q => rw [hq] at hj; cases hj; rw [Nat.zero_add]; exact h5 j q hq
  · intro j u hj
    match j, hj with
    | 0, hj => cases hj; exact hb
  · intro u hu
    simp only [List.mem_cons, List.not_mem_nil, or_false] at hu
    subst hu; rfl
  · intro hr j hj
    have hj0 : j = 0 := by simp at hj; exact hj
    subst hj0
    have := h6 xs.length (by omega)
    simpa using this
  · unfold maxLen; omega
  · omega
  · intro hr
    have e1 : (0 + xs.length * 1) = xs.length := by omega
    rw [e1]
    have e2 : w.setCells g xs.length [.int .u8 (y : Nat)] = w.setCell ⟨g, xs.length, none⟩ (.int .u8 (y : Nat)) := rfl
    rw [e2]
    have hset : (w.setCell ⟨g, xs.length, none⟩ (.int .u8 (y : Nat))).heap.size = w.heap.size := by simp [World.setCell]
    refine h _ _ ⟨g, cap, by rw [List.length_append]; rfl, by rw [List.length_append]; exact hr, h2, h3, by rw [hset]; exact h4, fun j q hj => ?_, fun j hj => ⟨?_, ?_⟩⟩ ((Below.refl base w).grown (grown_setCell (grown_refl _ _) ⟨g, xs.length, none⟩ (.inl rfl) _) hbase (fun j e => by cases e; exact h3))
    · by_cases e : j = xs.length
      · subst e
        simp at hj
        subst hj
        exact World.cell?_setCell_same' _ _ _ (h6 _ (by omega)).1
      · rw [setCell_off _ _ _ _ _ (fun e' => e e'.symm)]
        refine h5 j q ?_
        have hlt : j < (xs ++ [y]).length := (List.getElem?_eq_some_iff.1 hj).1
        rw [List.length_append] at hlt
        simp at hlt
        rwa [List.getElem?_append_left (by omega)] at hj
    · by_cases e : j = xs.length
      · subst e
        rw [setCell_isSome]
        exact (h6 _ (by omega)).1
      · rw [setCell_off _ _ _ _ _ (fun e' => e e'.symm)]
        exact (h6 j hj).1
    · rw [World.frozen?_setCell]
      exact (h6 j hj).2
  · intro hr v' w' ho2 hg2
    obtain ⟨hl, h7⟩ := ho2
    rcases h7 with ⟨_, h7⟩ | ⟨g', cap', cur, rfl, hbg, hgg, hnc, hcm, hcs, htake⟩
    · omega
    · have hc : ∀ j, w'.cell? ⟨g', j, none⟩ = cur[j]? := fun j => cell_of_row w' g' j cur e (0, 0) hgg
      refine h _ _ ⟨g', cap', by rw [List.length_append]; rfl, by rw [List.length_append]; exact hnc, hcm, Nat.le_trans hbase hbg, (Array.getElem?_eq_some_iff.1 hgg).1, fun j q hj => ?_, fun j hj => ⟨?_, ?_⟩⟩ ⟨hg2.os, hg2.tape, hg2.output, hg2.size, fun k hk => hg2.block k (by omega) (by simp)⟩
      · have hj' : ((xs ++ [y]).map fun y : Nat => Value.int .u8 (y : Nat))[j]? = some (.int .u8 (q : Nat)) := by rw [List.getElem?_map, hj]; rfl
        rw [List.map_append] at hj'
        have h8 : (cur.toList.take ((xs.length + 1) * 1))[j]? = some (.int .u8 (q : Nat)) := by rw [htake]; exact hj'
        rw [List.getElem?_take] at h8
        split at h8
        · rw [hc]; simpa using h8
        · cases h8
      · rw [hc, Array.getElem?_eq_getElem (by omega)]; rfl
      · simp [World.frozen?, hgg]
end
end Go.Proofs.YtinfpbkbnhcifaaGreatDoor

/- slices.Chunk and its iterator; the walk of digest.Sum. The conditions: lengths, the table of constants. -/
namespace Go.Proofs.YtinfpbkbnhcifaaGreatDoor
open Go.RowKit Go.BigFrame Go.Shelf

attribute [local go_sem] Oper.semAt_some

set_option maxHeartbeats 400000 in
theorem chunk_any (a : Option Addr) (n c : Nat) (w : World) :
    Calls Tryz.prog 123 #[.slice a n c, .int .i64 64] w fun e w' => e = .returned (.func (.func 142) #[] #[.pointer (some ⟨w.heap.size, 0, none⟩), .pointer (some ⟨w.heap.size + 1, 0, none⟩)]) ∧ w' = (w.alloc (.cells #[.slice a n c] 88)).alloc (.cells #[.int .i64 64] 3) := by
  go_enter Tryz.func123, Tryz.ntmps123
  go_wp2
  go_ret
  exact ⟨rfl, rfl⟩

/-- A chunk of the buffer at block g. -/
def chunkV (g k : Nat) : Array Value := #[.slice (some ⟨g, 64 * k, none⟩) 64 64]

set_option maxRecDepth 100000 in
set_option maxHeartbeats 1000000 in
theorem chunk1_iter (b1 b2 g cap N : Nat) (w0 : World) (hN : 64 * N ≤ cap) (hcap : cap ≤ maxLen) (h1 : w0.heap[b1]? = some (.cells #[.slice (some ⟨g, 0, none⟩) (64 * N) cap] 88 (0, 0))) (h2 : w0.heap[b2]? = some (.cells #[.int .i64 64] 3 (0, 0))) :
    Iter Tryz.prog 142 #[.pointer (some ⟨b1, 0, none⟩), .pointer (some ⟨b2, 0, none⟩)] (fun k : Fin N => chunkV g k.1) (fun A B => B.heap[b1]? = A.heap[b1]? ∧ B.heap[b2]? = A.heap[b2]?) none (fun xs => xs.map (fun x => x.1) = List.range N) (fun _ => True) N w0 := by
  intro F m hF hro l J Jx W hW hJ hJx hY h0
  have hbl1 : b1 < w0.heap.size := (Array.getElem?_eq_some_iff.1 h1).1
  have hbl2 : b2 < w0.heap.size := (Array.getElem?_eq_some_iff.1 h2).1
  have H1 : Hid (W.heap[b1]? = some (.cells #[.slice (some ⟨g, 0, none⟩) (64 * N) cap] 88 (0, 0))) := Lib.hid ((hW.block b1 hbl1).trans h1)
  have H2 : Hid (W.heap[b2]? = some (.cells #[.int .i64 64] 3 (0, 0))) := Lib.hid ((hW.block b2 hbl2).trans h2)
  clear h1 h2 hW
  unfold maxLen at hcap
  obtain ⟨n, hn⟩ : ∃ n, n = 64 * N := ⟨_, rfl⟩
  rw [← hn] at H1 hN
  have HNn := Lib.hid hn
  clear hn
  refine callsIn_of_wp Tryz.func142 rfl (hF.1 _) ?_ hro
  simp only [Tryz.ntmps142, List.size_toArray, List.length_cons, List.length_nil, Nat.reduceAdd, Nat.reduceSub, Array.replicate_succ, Array.replicate_zero, List.push_toArray, List.append_toArray, List.nil_append, List.cons_append]
  gi_wp2
  gi_loopw [4, 5] (fun i _ wr => ∃ (pre : List (Fin N)) (k p : Nat), k ≤ N ∧ Hid (pre.map (fun x => x.1) = List.range k) ∧ Hid (p = 64 * k) ∧ i = .int .i64 p ∧ Hid (wr.heap[b1]? = some (.cells #[.slice (some ⟨g, 0, none⟩) n cap] 88 (0, 0))) ∧ Hid (wr.heap[b2]? = some (.cells #[.int .i64 64] 3 (0, 0))) ∧ J pre wr) (fun i _ wr => n - (intOf i).toNat)
  case atStart => exact ⟨[], 0, 0, by omega, rfl, rfl, rfl, H1, H2, h0⟩
  case round =>
    obtain ⟨pre, k, p, hk, hpre, hp, rfl, g1, g2, hJs⟩ := hrel
    have c1 : wr.cell? ⟨b1, 0, none⟩ = some (.slice (some ⟨g, 0, none⟩) n cap) := cell_of_row wr _ 0 _ _ _ g1.out
    have c2 : wr.cell? ⟨b2, 0, none⟩ = some (.int .i64 64) := cell_of_row wr _ 0 _ _ _ g2.out
    by_cases hlt : k < N
    · have hpn : p + 64 ≤ n := by have := hp.out; have := HNn.out; omega
      have f1 : IntKind.i64.wrap ((p : Int) + 64) = ((p + 64 : Nat) : Int) := by rw [IntWalk.i64_in _ (by omega)]; omega
      gi_wp2
      refine wpIn_region_quiet_tail 6 (fun w' => ∃ q, w' = wr.drewN q) hF (by kernel_rfl) (by kernel_rfl) ⟨1, rfl⟩ ?_
      simp only [List.take_succ_cons, List.take_zero, List.drop_succ_cons, List.drop_zero]
      repeat (go_big_quiet_step (fail))
      refine wpQuiet_nil ?_
      rintro _ ⟨nq, rfl⟩
      have g1 : Hid ((wr.drewN nq).heap[b1]? = some (.cells #[.slice (some ⟨g, 0, none⟩) n cap] 88 (0, 0))) := g1
      have g2 : Hid ((wr.drewN nq).heap[b2]? = some (.cells #[.int .i64 64] 3 (0, 0))) := g2
      have hJs := hJ _ _ (wr.drewN nq) hJs ⟨grown_drewN (grown_refl _ _) nq, fun b hb => by cases hb⟩
      generalize wr.drewN nq = wz at *
      have c1 : wz.cell? ⟨b1, 0, none⟩ = some (.slice (some ⟨g, 0, none⟩) n cap) := cell_of_row wz _ 0 _ _ _ g1.out
      obtain ⟨fn, tmps, assign, body, hy, hR⟩ := hY pre ⟨k, hlt⟩ wz hJs (by have := congrArg List.length hpre.out; simp at this; omega)
      have hy : Sem.run _ _ _ = _ := hy
      unfold chunkV at hy
      rw [← hp.out] at hy
      gi_wp2
      refine ⟨fun h => (by rw [hF.2.1] at h; cases h), hR.mono ?_⟩
      clear c1 c2
      rintro e W3 (⟨rfl, hJ3, hk3⟩ | ⟨rfl, hJx3⟩)
      · have h1 : Hid (W3.heap[b1]? = some (.cells #[.slice (some ⟨g, 0, none⟩) n cap] 88 (0, 0))) := Lib.hid (hk3.1.trans g1.out)
        have h2 : Hid (W3.heap[b2]? = some (.cells #[.int .i64 64] 3 (0, 0))) := Lib.hid (hk3.2.trans g2.out)
        have c2 : W3.cell? ⟨b2, 0, none⟩ = some (.int .i64 64) := cell_of_row W3 _ 0 _ _ _ h2.out
        clear hk3
        gi_wp2
        go_roundw
        case rel => exact ⟨pre ++ [⟨k, hlt⟩], k + 1, p + 64, by omega, Lib.hid (by rw [List.map_append, hpre.out, List.range_succ]; rfl), Lib.hid (by rw [hp.out]; omega), rfl, h1, h2, hJ3⟩
        case measure => simp [intOf]; omega
      · gi_wp2
        refine bodyPost_ret (results_none rfl _ _ _) rfl ?_
        exact ⟨⟨_, rfl⟩, .inr ⟨_, trivial, hJx3⟩⟩
    · have ek : k = N := by omega
      rw [ek] at hpre
      have hpn : p = n := by rw [hp.out, HNn.out, ek]
      subst hpn
      clear ek
      gi_wp2
      go_end0
      exact ⟨⟨_, rfl⟩, .inl ⟨pre, hpre.out, hJs⟩⟩
end Go.Proofs.YtinfpbkbnhcifaaGreatDoor
