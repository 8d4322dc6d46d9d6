/- Slices of arrays of two integers. No condition. -/
import Derived.Test.YtggdcnjaofflbaaGreatDoorC00
import Derived.Test.YtggdcnjaofflbaaGreatDoorC22
import Derived.Deep.AppendLies
import Derived.Deep.Upon
import Derived.Test.YtggdcnjaofflbaaGreatDoorC13
import Derived.Deep.DeepCutAuto
import Derived.Deep.CutBlock
import Derived.Test.YtggdcnjaofflbaaGreatDoorC20
import Derived.Test.YtggdcnjaofflbaaGreatDoorC21
import Derived.Test.YtggdcnjaofflbaaGreatDoorC19
namespace Go.Proofs.YtggdcnjaofflbaaGreatDoor
open Go.RowKit

def p2cells (q : Int × Int) : List Value := [.int .i64 q.1, .int .i64 q.2]
def P2S (w : World) (x : Value) (l : List (Int × Int)) : Prop := SliceAt w x 2 (l.map p2cells)
def Int2 (q : Int × Int) : Prop := I64 q.1 ∧ I64 q.2
theorem P2S.below {w w' : World} {x : Value} {l : List (Int × Int)} (h : P2S w x l) (hb : Below w.heap.size w w') : P2S w' x l := SliceAt.below h hb
theorem P2S.opened {w : World} {x : Value} {l : List (Int × Int)} (h : P2S w x l) : ∃ a cap, x = .slice a l.length cap ∧ l.length ≤ cap ∧ cap ≤ maxLen ∧
    ∀ k q, l[k]? = some q → ∃ b off, a = some ⟨b, off, none⟩ ∧ b < w.heap.size ∧ w.cell? ⟨b, off + k * 2, none⟩ = some (.int .i64 q.1) ∧ w.cell? ⟨b, off + k * 2 + 1, none⟩ = some (.int .i64 q.2) := by
  obtain ⟨a, cap, hv, h1, h2, h3⟩ := h
  rw [List.length_map] at hv h1
  refine ⟨a, cap, hv, h1, h2, fun k q hz => ?_⟩
  rcases h3 with h3 | ⟨b, off, ha, hb, hc⟩
  · rw [List.map_eq_nil_iff] at h3
    rw [h3] at hz
    cases hz
  · have h4 := hc k (p2cells q) (by rw [List.getElem?_map, hz]; rfl)
    exact ⟨b, off, ha, hb, h4 0 _ rfl, h4 1 _ rfl⟩
end Go.Proofs.YtggdcnjaofflbaaGreatDoor

/- From the data of a row to what a walk asks: slices of arrays of two integers. The conditions are those of the row. -/
namespace Go.Proofs.YtggdcnjaofflbaaGreatDoor
open Go.RowKit Go.WideShapes Go.ChangeShapes

section
variable {H : Type} {enc : TypeId × Value → H} {P : Program}

theorem a2_open {W : World} {base : Nat} {sp : Nat → Bool} {held : Bool} {fuel : Nat} {t e : TypeId} {cs : List Value} {x : DataW H × List MemPlace}
    (ht : P.underlying t = some (.array 2 e)) (he : P.underlying e = some (.int .i64)) (hce : P.cellsOf e = 1) (hct : P.cellsOf t = 2) (h : DataW.trod enc P W base sp held fuel t cs = some x) :
    ∃ q : Int × Int, cs = p2cells q ∧ Int2 q := by
  obtain ⟨xs, m, _, _, hl, hxl, hi⟩ := DataW.trod_array ht h
  rw [hct] at hl
  rw [hce] at hi
  have key : ∀ i, i < 2 → ∃ n, cs[i]? = some (.int .i64 n) ∧ I64 n := by
    intro i h4
    have h1 := hi i h4
    rw [List.getElem?_eq_getElem (by omega)] at h1
    obtain ⟨n, hc, _, hw⟩ := DataW.trod_int he h1
    refine ⟨n, ?_, bounds_i64 hw⟩
    have := congrArg (·[0]?) hc
    simpa [List.getElem?_take, List.getElem?_drop] using this
  obtain ⟨a, ha, ia⟩ := key 0 (by omega)
  obtain ⟨b, hb, ib⟩ := key 1 (by omega)
  refine ⟨⟨a, b⟩, ?_, ia, ib⟩
  obtain ⟨w, x, rfl⟩ : ∃ w x, cs = [w, x] := by
    match cs, hl with
    | [w, x], _ => exact ⟨w, x, rfl⟩
  simp only [List.getElem?_cons_zero, List.getElem?_cons_succ, Option.some.injEq] at ha hb
  subst ha hb
  rfl

theorem a2s_open {W : World} {sp : Nat → Bool} {held : Bool} {ts t e : TypeId} {v : Value} {d : DataW H} {ps : List MemPlace}
    (hts : P.underlying ts = some (.slice t)) (ht : P.underlying t = some (.array 2 e)) (he : P.underlying e = some (.int .i64)) (hce : P.cellsOf e = 1) (hct : P.cellsOf t = 2)
    (hval : Value.okWide P W .any 0 ts v) (h : DataW.Trod enc P W 0 sp held ts v d ps) : ∃ xs : List (Int × Int), P2S W v xs ∧ ∀ q ∈ xs, Int2 q := by
  obtain ⟨a, len, cap, rfl⟩ := okWide_slice hts hval
  obtain ⟨fuel, h⟩ := h
  cases fuel with
  | zero => simp [DataW.trod] at h
  | succ fuel =>
    rw [show (Value.slice a len cap).cells.toList = [.slice a len cap] from rfl] at h
    cases a with
    | none =>
      unfold DataW.trod at h
      rw [hts] at h
      split at h
      all_goals simp_all
      exact ⟨[], SliceAt.nil _ _, by simp⟩
    | some a =>
      unfold DataW.trod at h
      simp only [hts] at h
      split at h
      · rename_i hc
        obtain ⟨_, h1, h2⟩ := hc
        rw [Option.bind_eq_some_iff] at h
        obtain ⟨elems, hel, _⟩ := h
        rw [hct] at hel
        have hlen : elems.length = len := by simpa using mapM_some_length hel
        have key : ∀ i, i < len → ∃ q : Int × Int, W.cells? 0 (a.add (i * 2)) 2 = some (p2cells q) ∧ Int2 q := by
          intro i hi
          have h3 := mapM_some_get hel i i (by simp [hi])
          rw [List.getElem?_eq_getElem (by omega), Option.bind_eq_some_iff] at h3
          obtain ⟨cs, hcs, htr⟩ := h3
          obtain ⟨q, rfl, hq⟩ := a2_open ht he hce hct htr
          exact ⟨q, hcs, hq⟩
        have hall : ∀ n, n ≤ len → ∃ xs : List (Int × Int), xs.length = n ∧ ∀ i q, xs[i]? = some q → W.cells? 0 (a.add (i * 2)) 2 = some (p2cells q) ∧ Int2 q := by
          intro n
          induction n with
          | zero => intro _; exact ⟨[], rfl, by simp⟩
          | succ n ih =>
            intro hn
            obtain ⟨xs, hx, hxs⟩ := ih (by omega)
            obtain ⟨q, hq⟩ := key n (by omega)
            refine ⟨xs ++ [q], by simp [hx], fun i q' hi => ?_⟩
            rcases Nat.lt_or_ge i n with h' | h'
            · rw [List.getElem?_append_left (by omega)] at hi
              exact hxs i q' hi
            · rw [List.getElem?_append_right (by omega)] at hi
              obtain rfl : i = n := by
                rcases Nat.eq_or_lt_of_le h' with h'' | h''
                · omega
                · rw [List.getElem?_eq_none (by simp; omega)] at hi; cases hi
              rw [hx, Nat.sub_self] at hi
              simp at hi
              subst hi
              exact hq
        obtain ⟨xs, hx, hxs⟩ := hall len (Nat.le_refl _)
        refine ⟨xs, ⟨some a, cap, by rw [List.length_map, hx], by rw [List.length_map, hx]; exact h1, h2, ?_⟩, fun q hq => ?_⟩
        · by_cases h0 : len = 0
          · left
            rw [List.map_eq_nil_iff]
            exact List.eq_nil_of_length_eq_zero (by omega)
          · right
            obtain ⟨q0, hq0⟩ : ∃ q, xs[0]? = some q := ⟨_, List.getElem?_eq_getElem (by omega)⟩
            obtain ⟨_, _, hc0⟩ := World.cells?_some (hxs 0 q0 hq0).1
            have h00 := hc0 0 (by omega)
            have hadd : (a.add (0 * 2)).add 0 = a := by simp [Addr.add]
            rw [hadd] at h00
            have hsp : a.spot = none := spot_none (v := .int .i64 q0.1) h00
            obtain ⟨b, off, spot⟩ := a
            dsimp only at hsp
            subst hsp
            refine ⟨b, off, rfl, World.block_lt_of_cell? W _ h00, fun i c hi j u hj => ?_⟩
            rw [List.getElem?_map] at hi
            obtain ⟨q, hq, rfl⟩ := Option.map_eq_some_iff.1 hi
            obtain ⟨_, _, hc⟩ := World.cells?_some (hxs i q hq).1
            have hj4 : j < 2 := by
              rcases Nat.lt_or_ge j 2 with h' | h'
              · exact h'
              · rw [List.getElem?_eq_none (by simpa [p2cells] using h')] at hj; cases hj
            have h4 := hc j hj4
            rw [hj] at h4
            have e1 : ((⟨b, off, none⟩ : Addr).add (i * 2)).add j = ⟨b, off + i * 2 + j, none⟩ := by
              unfold Addr.add
              split
              · split
                · rename_i h5 h6; rw [h5, h6]; simp
                · rename_i h5 h6; rw [h5]; simp
              · split
                · rename_i h5 h6; rw [h6]; simp
                · rfl
            rw [e1] at h4
            exact h4
        · obtain ⟨i, hi⟩ := List.getElem?_of_mem hq
          exact (hxs i q hi).2
      · cases h
end
end Go.Proofs.YtggdcnjaofflbaaGreatDoor

/- Append at votes: of one, where the row comes to lie; of a whole slice. The conditions: what the rows hold, lengths. -/
namespace Go.Proofs.YtggdcnjaofflbaaGreatDoor
open Go.RowKit Go.BigFrame

section
variable {ops : Array Oper} {rest : List Oper} {o : Oper} {a : Act} {w : World} {Q : Exit → Act → World → Prop}
theorem wpList_append_voteB (s x : Operand) (base : Nat) (v : Value) (l : List VoteP) (y : VoteP) (b : Nat) (fr : Nat × Nat) (hown : OwnV w base v l) (hlen : l.length ≤ 1000000) (hbase : base ≤ w.heap.size) (hb : w.heap[b]? = some (.cells #[.int .i64 y.car, .int .i64 y.num, .int .i64 y.stp, .string y.val, .string y.sl] 27 fr))
    (hgd : o.guard = none) (ho : o.op = .call { callee := .builtin .append, args := #[s, x], argTypes := #[35, 35] }) (hs : a.eval s = v) (hx : a.eval x = .slice (some ⟨b, 0, none⟩) 1 1)
    (h : ∀ g cap w', OwnV w' base (.slice (some ⟨g, 0, none⟩) (l.length + 1) cap) (l ++ [y]) → w.grownBy w' v.ownBlock → (v.ownBlock = some g ∨ g = w.heap.size) → wpList Tryz.prog ops Q rest (a.put o.dst (.slice (some ⟨g, 0, none⟩) (l.length + 1) cap)) w') : wpList Tryz.prog ops Q (o :: rest) a w := by
  obtain ⟨i, i1, i2, i3, i4⟩ := info_parts infoVote3
  have hlv : (l.map vcells).length = l.length := List.length_map ..
  refine wpList_append_lies w hgd s x 35 ho base 27 i _ 5 56 (by kernel_rfl) i1 i2 i3 i4 rfl (by decide) v _ _ hs hown ⟨b, 0, none⟩ 1 1 (vcells y) hx rfl ?_ ?_ (by decide) (by rw [hlv]; unfold maxLen; omega) (by rw [hlv]; omega) hbase w.heap.size rfl ?_
  · intro j u hj
    rw [Addr.add_mid, cell_of_row w _ (0 + j) _ _ _ hb, Nat.zero_add, List.getElem?_toArray]
    exact hj
  · intro u hu
    simp only [vcells, List.mem_cons, List.not_mem_nil, or_false] at hu
    rcases hu with rfl | rfl | rfl | rfl | rfl <;> rfl
  · intro g cap w' h1 h2 h3 _
    rw [hlv] at h1 ⊢
    refine h g cap w' ?_ h2 h3
    unfold OwnV OwnE
    rw [List.map_append, List.length_append, List.flatten_append, hlv]
    simpa using h1
end
end Go.Proofs.YtggdcnjaofflbaaGreatDoor

/- Walk of the law: QuorumSuffices. The conditions: what the row holds, the tables of constants. -/
namespace Go.Proofs.YtggdcnjaofflbaaGreatDoor
open Go.RowKit Go.BigFrame

def honA (H : List Nat) : Array Value := ((List.range 8).map fun j => Value.bool (decide (j ∈ H))).toArray
theorem honA_get (H : List Nat) {j : Nat} (h : j < 8) : (honA H)[j]? = some (.bool (decide (j ∈ H))) := by
  unfold honA
  rw [List.getElem?_toArray, List.getElem?_map, List.getElem?_range h]
  rfl
theorem honA_set (H : List Nat) (j : Nat) : (honA H).setIfInBounds j (.bool true) = honA (H ++ [j]) := by
  refine Array.ext_getElem? fun i => ?_
  rw [Array.getElem?_setIfInBounds]
  have hs : ∀ H, (honA H).size = 8 := fun H => by unfold honA; simp
  rcases Nat.lt_or_ge i 8 with hi | hi
  · rw [honA_get _ hi, honA_get _ hi]
    by_cases e : j = i
    · subst e
      rw [if_pos rfl, if_pos (by rw [hs]; exact hi)]
      simp
    · rw [if_neg e]
      have : i ≠ j := fun e' => e e'.symm
      simp [this]
  · rw [Array.getElem?_eq_none (by rw [hs]; exact hi), Array.getElem?_eq_none (by rw [hs]; exact hi)]
    split
    · rename_i e
      rw [if_neg (by rw [hs]; omega)]
    · rfl
def SuAt (w0 : World) (A : Array Value) (v : Value) (l : List VoteP) (W : World) : Prop := Below w0.heap.size w0 W ∧ W.heap[w0.heap.size]? = some (.cells A 4 (0, 0)) ∧ OwnV W (w0.heap.size + 1) v l
theorem SuAt.far {w0 : World} {A : Array Value} {v : Value} {l : List VoteP} {W W' : World} (h : SuAt w0 A v l W) (hb : Below W.heap.size W W') : SuAt w0 A v l W' :=
  ⟨q_next h.1 hb, (hb.block _ (Array.getElem?_eq_some_iff.1 h.2.1).1).trans h.2.1, OwnE.far h.2.2 hb (Nat.le_refl _)⟩
theorem SuAt.set {w0 : World} {H : List Nat} {v : Value} {l : List VoteP} {W : World} (h : SuAt w0 (honA H) v l W) (j : Nat) : SuAt w0 (honA (H ++ [j])) v l (W.setCell ⟨w0.heap.size, j, none⟩ (.bool true)) := by
  refine ⟨h.1.setCell (p := ⟨w0.heap.size, j, none⟩) (Nat.le_refl _) _, ?_, OwnE.grownT h.2.2 h.2.1 (fun c e => by cases e) (grown_setCell (grown_refl _ _) ⟨w0.heap.size, j, none⟩ (.inl rfl) _)⟩
  rw [← honA_set]
  exact heap_setCell_same (i := j) _ h.2.1
theorem SuAt.row {w0 : World} {A : Array Value} {v v' : Value} {l l' : List VoteP} {W W' : World} (h : SuAt w0 A v l W) {o : Obj} (hg : (W.alloc o).grownBy W' v.ownBlock) (ho : OwnV W' (w0.heap.size + 1) v' l') : SuAt w0 A v' l' W' := by
  have hs := (Array.getElem?_eq_some_iff.1 h.2.1).1
  refine ⟨(h.1.alloc h.1.size o).grown hg (by simp; omega) (fun j e => by have := OwnE.ge h.2.2 j e; omega), ?_, ho⟩
  refine (hg.block _ (by simp; omega) (fun e => ?_)).trans (alloc_at h.2.1)
  have := OwnE.ge h.2.2 _ e.symm
  omega
def KeepBut (g0 : Nat) (wq wr : World) : Prop := wq.heap.size ≤ wr.heap.size ∧ ∀ b, b < wq.heap.size → b ≠ g0 → wr.heap[b]? = wq.heap[b]?
theorem KeepBut.refl (g0 : Nat) (w : World) : KeepBut g0 w w := ⟨Nat.le_refl _, fun _ _ _ => rfl⟩
theorem KeepBut.far {g0 : Nat} {wq wr w' : World} (h : KeepBut g0 wq wr) (hb : Below wr.heap.size wr w') : KeepBut g0 wq w' :=
  ⟨Nat.le_trans h.1 hb.size, fun b h1 h2 => (hb.block b (Nat.lt_of_lt_of_le h1 h.1)).trans (h.2 b h1 h2)⟩
theorem KeepBut.row {g0 : Nat} {wq W W' : World} (h : KeepBut g0 wq W) {o : Obj} {g : Nat} (hg : (W.alloc o).grownBy W' (some g)) (hgg : g = g0 ∨ wq.heap.size ≤ g) : KeepBut g0 wq W' := by
  have hs := hg.size
  simp at hs
  refine ⟨by have := h.1; omega, fun b h1 h2 => ?_⟩
  have hb : b < W.heap.size := Nat.lt_of_lt_of_le h1 h.1
  exact (hg.block b (by simp; omega) (fun e => by have := Option.some.inj e; omega)).trans ((Below.heap_alloc _ _ _ hb).trans (h.2 b h1 h2))
theorem KeepBut.votes {g0 : Nat} {wq wr : World} (h : KeepBut g0 wq wr) {b o : Nat} {v : VoteP} (hb : b < wq.heap.size) (hne : b ≠ g0) (hv : VAt wq b o v) : VAt wr b o v := by
  have key : ∀ j, wr.cell? ⟨b, j, none⟩ = wq.cell? ⟨b, j, none⟩ := fun j => World.cell?_of_block (a := ⟨b, j, none⟩) (h.2 b hb hne)
  unfold VAt at *
  simp only [key]
  exact hv
theorem filter_snoc {α : Type} {l : List α} {k : Nat} {x : α} (p : α → Bool) (h : l[k]? = some x) : (l.take (k + 1)).filter p = (l.take k).filter p ++ (if p x then [x] else []) := by
  rw [List.take_add_one, h, List.filter_append]
  simp [List.filter_cons]
end Go.Proofs.YtggdcnjaofflbaaGreatDoor

/- The law QuorumHonest, plain: a carrier that votes by Cast alone. No condition. -/
namespace Go.Proofs.YtggdcnjaofflbaaGreatDoor

def otherH (num stp : Int) (u : ByteArray) (l : List VoteP) : Bool := l.any fun v => decide (v.num = num ∧ v.stp = stp) && decide (v.val ≠ u)
def honP (who : Nat) (l : List VoteP) : Prop := (∀ v ∈ l, v.car = (who : Int)) ∧ ∀ v ∈ l, ∀ w ∈ l, v.num = w.num → v.stp = w.stp → v.val = w.val
theorem honP_nil (who : Nat) : honP who [] := ⟨fun _ h => absurd h List.not_mem_nil, fun _ h => absurd h List.not_mem_nil⟩
theorem hon_cast {n who : Nat} (hm : n = 1 ∨ n = 4 ∨ n = 7) (hw : who < n) {num stp : Int} (h1 : 0 ≤ num ∧ num ≤ 99999999) (h2 : 0 ≤ stp ∧ stp ≤ 1000) {u : ByteArray} (hu : u.size = 32) {l : List VoteP} (h : honP who l) :
    (otherH num stp u l = true → castV (keyQ who) who num stp u l = none) ∧
    (otherH num stp u l = false → ∃ v : VoteP, castV (keyQ who) who num stp u l = some v ∧ genuineV (madeQ n) v = true ∧ (v.car = who ∧ v.num = num ∧ v.stp = stp ∧ v.val = u) ∧ honP who (l ++ [v])) := by
  have e : (madeQ n).getD who ⟨#[]⟩ = keyQ who := madeQ_get hw
  have ho : (l.any (otherV who num stp u)) = otherH num stp u l := by
    unfold otherH
    rw [Bool.eq_iff_iff, List.any_eq_true, List.any_eq_true]
    constructor
    · rintro ⟨v, hv, h3⟩
      obtain ⟨⟨a, b, c⟩, d⟩ := of_decide_eq_true h3
      exact ⟨v, hv, by rw [decide_eq_true ⟨b, c⟩, decide_eq_true d]; rfl⟩
    · rintro ⟨v, hv, h3⟩
      rw [Bool.and_eq_true] at h3
      have a := of_decide_eq_true h3.1
      exact ⟨v, hv, decide_eq_true ⟨⟨h.1 v hv, a.1, a.2⟩, of_decide_eq_true h3.2⟩⟩
  constructor
  · intro hot
    exact castV_no (Or.inr (by rw [ho]; exact hot))
  · intro hot
    have hc := castV_yes (key := keyQ who) (car := (who : Int)) (num := num) (stp := stp) (val := u) (hist := l) (decide_eq_true ⟨⟨by show (0 : Int) ≤ (who : Int); omega, by show (who : Int) ≤ 7; omega⟩, h1, h2, hu, keyQ_size who⟩) (by rw [ho]; exact hot)
    refine ⟨_, hc, ?_, ⟨rfl, rfl, rfl, rfl⟩, ?_⟩
    · have hg := cast_gen (ks := madeQ n) (i := who) (by rw [madeQ_len]; exact hw) (by rw [e]; exact hc)
      unfold genuineV
      rw [madeQ_valid hm, hg.1]
      rfl
    · have hno : ∀ v ∈ l, v.num = num → v.stp = stp → v.val = u := by
        intro v hv a b
        apply Classical.byContradiction
        intro hne
        have : otherH num stp u l = true := List.any_eq_true.2 ⟨v, hv, by rw [decide_eq_true ⟨a, b⟩, decide_eq_true hne]; rfl⟩
        rw [hot] at this
        cases this
      refine ⟨fun v hv => ?_, fun v hv w hw' a b => ?_⟩
      · rcases List.mem_append.1 hv with hv | hv
        · exact h.1 v hv
        · rw [List.mem_singleton.1 hv]
      · rcases List.mem_append.1 hv with hv | hv <;> rcases List.mem_append.1 hw' with hw' | hw'
        · exact h.2 v hv w hw' a b
        · have ew := List.mem_singleton.1 hw'
          subst ew
          exact hno v hv a b
        · have ev := List.mem_singleton.1 hv
          subst ev
          exact (hno w hw' a.symm b.symm).symm
        · rw [List.mem_singleton.1 hv, List.mem_singleton.1 hw']
def notW (who : Nat) (v : VoteP) : Bool := decide (v.car ≠ (who : Int))
theorem hon_doubles {n who : Nat} (hm : n = 1 ∨ n = 4 ∨ n = 7) {l : List VoteP} (h : honP who l) (os : List VoteP) {d : VoteP × VoteP} (hd : d ∈ doublesV (madeQ n) (l ++ os.filter (notW who))) :
    d.1.car ≠ (who : Int) ∧ d.2.car ≠ (who : Int) ∧ convictsV (madeQ n) d = true := by
  have hmem : ∀ v ∈ l ++ os.filter (notW who), v.car = (who : Int) → v ∈ l := by
    intro v hv e
    rcases List.mem_append.1 hv with hv | hv
    · exact hv
    · exact absurd e (of_decide_eq_true (List.mem_filter.1 hv).2)
  have h1 := honest_law (who := (who : Int)) (fun v hv w hw _ _ e1 e2 a b => h.2 v (hmem v hv e1) w (hmem w hw e2) a b) hd
  obtain ⟨⟨_, g1⟩, ⟨_, g2⟩, h3, h4⟩ := doubles_gen hd
  refine ⟨h1.1, h1.2, ?_⟩
  unfold convictsV genuineV
  rw [h3, decide_eq_true h4, madeQ_valid hm, g1, g2]
  rfl
end Go.Proofs.YtggdcnjaofflbaaGreatDoor
