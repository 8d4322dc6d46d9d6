/- From the data of a row to what a walk asks: slices of integers; the arguments read again behind a call that makes new memory alone. The conditions are those of the row. -/
import Derived.ProofKit
import Derived.OpenShut
import Derived.ChangeBears
import Derived.ReadAgain
import Derived.Deep.DeepHandedRow
import Derived.Lib.LaidTab
import Derived.Test.YtinfpbkbnhcifaaGreatDoorQ16
import Derived.SliceStrings
import Derived.ChangeSame
import Derived.Deep.RegionHeld3
namespace Go.Proofs.YtinfpbkbnhcifaaGreatDoor
open Go.RowKit Go.WideShapes Go.ChangeShapes

section
variable {H : Type} {enc : TypeId × Value → H} {P : Program}

/-! ### Arguments read again -/
theorem same_below {W W' : World} (hb : Below W.heap.size W W') (p : MemPlace) (hp : p.block < W.heap.size) : W.sameAt W' p := by
  cases p with
  | cell b off => exact hb.cell (p := ⟨b, off, none⟩) hp
  | map b => exact hb.block b hp
theorem trodAll_below {W W' : World} (hb : Below W.heap.size W W') {sp : Nat → Bool} {held : Bool} : ∀ {ts : List TypeId} {vs : List Value} {ds : List (DataW H)} {ps : List MemPlace}, DataW.TrodAll enc P W 0 sp held ts vs ds ps → (∀ p ∈ ps, p.block < W.heap.size) → DataW.TrodAll enc P W' 0 sp held ts vs ds ps
  | [], [], [], _, h, _ => h
  | _ :: _, _ :: _, _ :: _, _, ⟨p, q, ⟨n, h1⟩, h2, e⟩, hs =>
    ⟨p, q, ⟨n, DataW.trod_carry n _ _ _ h1 (fun x hx => same_below hb x (hs x (by rw [e]; exact List.mem_append_left _ hx)))⟩, trodAll_below hb h2 (fun x hx => hs x (by rw [e]; exact List.mem_append_right _ hx)), e⟩

/-- The row's last step where new memory was made. -/
theorem post_below {f : Func} {s : ChangeSpec} {apart fresh handsOn again : Bool} {W W' : World} {args : Array Value} {v : Value} {ds gs : List (DataW H)} {before pa pv : List MemPlace}
    (hW : DataW.Whole enc P f.params.toList s.vars apart W args.toList ds gs before)
    (hres : ∀ (b : Nat) (sp : Nat → Bool) (hd : Bool), DataW.TrodAll enc P W' b sp hd f.resultTypes.toList (v.resultList f.resultTypes.size) (s.fn H (ds ++ gs)).results [])
    (hargs : ∀ sp : Nat → Bool, (∀ p ∈ before, sp p.block = true) → DataW.TrodAll enc P W' 0 sp true f.params.toList args.toList (s.fn H (ds ++ gs)).args pa)
    (hvars : ∀ sp : Nat → Bool, (∀ p ∈ before, sp p.block = true) → DataW.TrodVars enc P W' sp s.vars (s.fn H (ds ++ gs)).vars pv)
    (hps : before = pa ++ pv) (hb : Below W.heap.size W W')
    (hok : ∀ (j : Nat) (t : TypeId) (r : Value), f.resultTypes[j]? = some t → (v.resultList f.resultTypes.size)[j]? = some r → Value.okWide P W' .any 0 t r) :
    s.post enc P f apart fresh handsOn again W args v W' := by
  have hlt : ∀ p ∈ before, p.block < W.heap.size := fun p hp => hW.lt p hp
  have hold : ∀ p ∈ before, (fun b => decide (b < W.heap.size)) p.block = true := fun p hp => by simpa using hlt p hp
  refine ⟨ds, gs, before, [], pa, pv, hW, hres _ _ _, hargs _ hold, hvars _ hold, World.keptBut_mono (fun p hp => ⟨hp, ?_⟩) (hb.frame (· ∈ before)), fun _ => ?_⟩
  · rw [hps, List.mem_append] at hp
    exact Or.inr hp
  · obtain ⟨_, _, _, _, _, hz, hn⟩ := hW
    refine ⟨hok, _, _, ([] ++ pa) ++ pv, ⟨[] ++ pa, pv, trodAll_append (hargs _ (fun _ _ => rfl)) (hres _ _ _), hvars _ (fun _ _ => rfl), rfl, ?_, ?_⟩, ?_⟩
    · intro b off hp
      have hin : MemPlace.cell b off ∈ before := by rw [hps]; simpa using hp
      rw [hb.frozen (hlt _ hin)]
      exact hz b off hin
    · intro ha
      have := hn ha
      rw [hps] at this
      simpa using this
    · intro p hp _
      rw [hps]
      simpa using hp

theorem open_i64 {W : World} {sp : Nat → Bool} {held : Bool} {r : Reach} {b0 : Nat} {t : TypeId} {v : Value} {d : DataW H} {ps : List MemPlace} (ht : P.underlying t = some (.int .i64)) (hval : Value.okWide P W r b0 t v) (hd : DataW.Trod enc P W 0 sp held t v d ps) :
    ∃ n, v = .int .i64 n ∧ d = .lit (.int .i64 n) ∧ ps = [] ∧ I64 n := by
  obtain ⟨n, h1, h2, h3, h4⟩ := open_int ht hval hd
  exact ⟨n, h1, h2, h3, bounds_i64 h4⟩
/-! ### A slice of integers -/
theorem spot_none {W : World} {a : Addr} {v : Value} (h : W.cell? a = some v) : a.spot = none := World.cell?_spot h

theorem ints_open {W : World} {sp : Nat → Bool} {held : Bool} {ts t : TypeId} {v : Value} {d : DataW H} {ps : List MemPlace}
    (hts : P.underlying ts = some (.slice t)) (ht : P.underlying t = some (.int .i64)) (hct : P.cellsOf t = 1)
    (hval : Value.okWide P W .any 0 ts v) (h : DataW.Trod enc P W 0 sp held ts v d ps) : ∃ xs : List Int, IL W v xs ∧ ∀ n ∈ xs, I64 n := by
  obtain ⟨a, len, cap, rfl⟩ := okWide_slice hts hval
  obtain ⟨fuel, h⟩ := h
  cases fuel with
  | zero => simp [DataW.trod] at h
  | succ fuel =>
    rw [show (Value.slice a len cap).cells.toList = [.slice a len cap] from rfl] at h
    cases a with
    | none =>
      unfold DataW.trod at h
      rw [hts] at h
      split at h
      all_goals simp_all
      exact ⟨[], SliceAt.nil _ _, by simp⟩
    | some a =>
      unfold DataW.trod at h
      simp only [hts] at h
      split at h
      · rename_i hc
        obtain ⟨_, h1, h2⟩ := hc
        rw [Option.bind_eq_some_iff] at h
        obtain ⟨elems, hel, _⟩ := h
        rw [hct] at hel
        have hlen : elems.length = len := by simpa using mapM_some_length hel
        have key : ∀ i, i < len → ∃ n : Int, W.cells? 0 (a.add (i * 1)) 1 = some [.int .i64 n] ∧ I64 n := by
          intro i hi
          have h3 := mapM_some_get hel i i (by simp [hi])
          rw [List.getElem?_eq_getElem (by omega), Option.bind_eq_some_iff] at h3
          obtain ⟨cs, hcs, htr⟩ := h3
          obtain ⟨n, hc, _, hw⟩ := DataW.trod_int ht htr
          exact ⟨n, by rw [hcs, hc], bounds_i64 hw⟩
        have hall : ∀ n, n ≤ len → ∃ xs : List Int, xs.length = n ∧ ∀ i q, xs[i]? = some q → W.cells? 0 (a.add (i * 1)) 1 = some [.int .i64 q] ∧ I64 q := by
          intro n
          induction n with
          | zero => intro _; exact ⟨[], rfl, by simp⟩
          | succ n ih =>
            intro hn
            obtain ⟨xs, hx, hxs⟩ := ih (by omega)
            obtain ⟨q, hq⟩ := key n (by omega)
            refine ⟨xs ++ [q], by simp [hx], fun i q' hi => ?_⟩
            rcases Nat.lt_or_ge i n with h' | h'
            · rw [List.getElem?_append_left (by omega)] at hi
              exact hxs i q' hi
            · rw [List.getElem?_append_right (by omega)] at hi
              obtain rfl : i = n := by
                rcases Nat.eq_or_lt_of_le h' with h'' | h''
                · omega
                · rw [List.getElem?_eq_none (by simp; omega)] at hi; cases hi
              rw [hx, Nat.sub_self] at hi
              simp at hi
              subst hi
              exact hq
        obtain ⟨xs, hx, hxs⟩ := hall len (Nat.le_refl _)
        refine ⟨xs, ⟨some a, cap, by unfold icells; rw [List.length_map, hx], by unfold icells; rw [List.length_map, hx]; exact h1, h2, ?_⟩, fun q hq => ?_⟩
        · by_cases h0 : len = 0
          · left
            unfold icells
            rw [List.map_eq_nil_iff]
            exact List.eq_nil_of_length_eq_zero (by omega)
          · right
            obtain ⟨q0, hq0⟩ : ∃ q, xs[0]? = some q := ⟨_, List.getElem?_eq_getElem (by omega)⟩
            obtain ⟨_, _, hc0⟩ := World.cells?_some (hxs 0 q0 hq0).1
            have h00 := hc0 0 (by omega)
            have hadd : (a.add (0 * 1)).add 0 = a := by simp [Addr.add]
            rw [hadd] at h00
            have hsp : a.spot = none := spot_none (v := .int .i64 q0) h00
            obtain ⟨b, off, spot⟩ := a
            dsimp only at hsp
            subst hsp
            refine ⟨b, off, rfl, World.block_lt_of_cell? W _ h00, fun i c hi j u hj => ?_⟩
            unfold icells at hi
            rw [List.getElem?_map] at hi
            obtain ⟨q, hq, rfl⟩ := Option.map_eq_some_iff.1 hi
            obtain ⟨_, _, hc⟩ := World.cells?_some (hxs i q hq).1
            have hj1 : j < 1 := by
              rcases Nat.lt_or_ge j 1 with h' | h'
              · exact h'
              · rw [List.getElem?_eq_none (by simpa using h')] at hj; cases hj
            have h4 := hc j hj1
            rw [hj] at h4
            have e1 : ((⟨b, off, none⟩ : Addr).add (i * 1)).add j = ⟨b, off + i * 1 + j, none⟩ := by
              unfold Addr.add
              (repeat' split) <;> simp_all
              all_goals omega
            rw [e1] at h4
            exact h4
        · obtain ⟨i, hi⟩ := List.getElem?_of_mem hq
          exact (hxs i q hi).2
      · cases h
/-! ### A pair of integers -/
end
end Go.Proofs.YtinfpbkbnhcifaaGreatDoor

/- From the data of a row: a slice of strings, a register. The conditions are those of the row. -/
namespace Go.Proofs.YtinfpbkbnhcifaaGreatDoor
open Go.RowKit Go.WideShapes Go.ChangeShapes

section
variable {H : Type} {enc : TypeId × Value → H} {P : Program}
theorem strs_cells {W : World} {sp : Nat → Bool} {held : Bool} {ts t : TypeId} {fuel : Nat} {cs : List Value} {x : DataW H × List MemPlace}
    (hts : P.underlying ts = some (.slice t)) (ht : P.underlying t = some .string) (hct : P.cellsOf t = 1)
    (h : DataW.trod enc P W 0 sp held fuel ts cs = some x) : ∃ (v : Value) (xs : List ByteArray), cs = [v] ∧ SS W v xs ∧ ∀ s ∈ xs, s.size ≤ maxLen := by
  rcases open_strings hts ht hct h with ⟨rfl, _⟩ | ⟨a, len, cap, ss, rfl, _, hl, hm, hsl, _, hc, hw⟩
  · exact ⟨_, [], rfl, SliceAt.nil _ _, fun s hs => absurd hs List.not_mem_nil⟩
  · have hle : len ≤ ss.length := by
      rw [hsl]
      split <;> omega
    refine ⟨_, ss.take len, rfl, ⟨some a, cap, ?_, ?_, hm, ?_⟩, fun s hs => hw s (List.mem_of_mem_take hs)⟩
    · unfold scells; rw [List.length_map, List.length_take, Nat.min_eq_left hle]
    · unfold scells; rw [List.length_map, List.length_take, Nat.min_eq_left hle]; exact hl
    · by_cases h0 : len = 0
      · left
        rw [h0]
        rfl
      · right
        have h00 := hc 0 (by omega)
        have hadd : a.add 0 = a := by simp [Addr.add]
        rw [hadd] at h00
        have hsp : a.spot = none := spot_none h00
        obtain ⟨b, off, spot⟩ := a
        dsimp only at hsp
        subst hsp
        refine ⟨b, off, rfl, World.block_lt_of_cell? W _ h00, fun i c hi j u hj => ?_⟩
        unfold scells at hi
        rw [List.getElem?_map] at hi
        obtain ⟨q, hq, rfl⟩ := Option.map_eq_some_iff.1 hi
        have hil : i < len := by
          have := (List.getElem?_eq_some_iff.1 hq).1
          rw [List.length_take] at this
          omega
        have hj1 : j < 1 := by
          rcases Nat.lt_or_ge j 1 with h' | h'
          · exact h'
          · rw [List.getElem?_eq_none (by simpa using h')] at hj; cases hj
        have ej : j = 0 := by omega
        subst ej
        have hu : u = .string q := by simp at hj; exact hj.symm
        subst hu
        have h4 := hc i (by omega)
        rw [List.getElem?_take] at hq
        rw [if_pos hil] at hq
        rw [List.getD_eq_getElem?_getD, hq] at h4
        have e1 : (⟨b, off, none⟩ : Addr).add i = ⟨b, off + i * 1 + 0, none⟩ := by
          unfold Addr.add
          (repeat' split) <;> simp_all
        rw [e1] at h4
        exact h4
/-- A register. -/
theorem reg_open {W : World} {sp : Nat → Bool} {held : Bool} {r : Reach} {b0 : Nat} {tr ti ts t : TypeId} {f0 f1 : Field} {v : Value} {d : DataW H} {ps : List MemPlace}
    (htr : P.underlying tr = some (.struct #[f0, f1])) (e0 : f0.type = ti ∧ f0.offset = 0) (e1 : f1.type = ts ∧ f1.offset = 1) (hti : P.underlying ti = some (.int .i64)) (hts : P.underlying ts = some (.slice t)) (ht : P.underlying t = some .string) (hci : P.cellsOf ti = 1) (hcs : P.cellsOf ts = 1) (hct : P.cellsOf t = 1) (hcr : P.cellsOf tr = 2)
    (hval : Value.okWide P W r b0 tr v) (h : DataW.Trod enc P W 0 sp held tr v d ps) : ∃ (n : Int) (u : Value) (xs : List ByteArray), v = .agg #[.int .i64 n, u] ∧ I64 n ∧ SS W u xs := by
  obtain ⟨cs, rfl, hsize⟩ := okWide_struct htr hval
  rw [hcr] at hsize
  obtain ⟨fuel, h⟩ := h
  obtain ⟨y0, y1, n, _, _, h0, h1⟩ := trod_struct2 htr h
  rw [show (Value.agg cs).cells.toList = cs.toList from rfl] at h0 h1
  rw [e0.1, e0.2, hci] at h0
  rw [e1.1, e1.2, hcs] at h1
  obtain ⟨a, hc0, _, hw⟩ := DataW.trod_int hti h0
  obtain ⟨u, xs, hc1, hss, _⟩ := strs_cells hts ht hct h1
  refine ⟨a, u, xs, ?_, bounds_i64 hw, hss⟩
  have g0 : cs[0]? = some (.int .i64 a) := by
    have := congrArg (·[0]?) hc0
    simpa [List.getElem?_take, List.getElem?_drop] using this
  have g1 : cs[1]? = some u := by
    have := congrArg (·[0]?) hc1
    simpa [List.getElem?_take, List.getElem?_drop] using this
  congr 1
  apply Array.ext
  · simpa using hsize
  · intro i h1 h2
    match i, h1 with
    | 0, h1 => rw [Array.getElem?_eq_getElem h1] at g0; exact Option.some.inj g0
    | 1, h1 => rw [Array.getElem?_eq_getElem h1] at g1; exact Option.some.inj g1
    | i + 2, h1 => omega
end
end Go.Proofs.YtinfpbkbnhcifaaGreatDoor

/- A region that draws its order, in which calls wait for one another and all else only looks at cells that are kept: one walk in the text's order serves. The conditions are closed facts of the region. -/
namespace Go.Proofs.YtinfpbkbnhcifaaGreatDoor

/-- Which operations have come up: the first k. -/
def firstK (s k : Nat) : Array Bool := ((List.range s).map fun j => decide (j < k)).toArray
theorem firstK_zero (s : Nat) : firstK s 0 = Array.replicate s false := by
  apply Array.ext
  · simp [firstK]
  · intro i h1 h2
    simp [firstK]
theorem firstK_succ (s k : Nat) : (firstK s k).setIfInBounds k true = firstK s (k + 1) := by
  apply Array.ext
  · simp [firstK]
  · intro i h1 h2
    rw [Array.getElem_setIfInBounds (by simpa using h1)]
    by_cases h : k = i
    · subst h; simp [firstK]
    · rw [if_neg h]
      simp only [firstK, List.getElem_toArray, List.getElem_map, List.getElem_range, decide_eq_decide]
      omega

theorem firstK_getD (s k j : Nat) (d : Bool) : (firstK s k).getD j d = if j < s then decide (j < k) else d := by
  unfold firstK Array.getD
  by_cases h : j < s
  · simp [h]
  · simp [h]

/-- What is asked of the region: closed facts. 'bigs': the calls. -/
def lexHB (md : Region.Mode) (ops : Array Oper) (bigs : List Nat) : Bool :=
  Region.noSelect ops && ((List.range ops.size).all fun k => match ops[k]? with
    | none => false
    | some ok => (ok.after.all fun e => !Region.binds md e || decide (e.on < k)) && ((List.range ops.size).all fun j => decide (j ≤ k) || match ops[j]? with
      | none => true
      | some oj => if bigs.contains k = true then oj.after.any (fun e => Region.binds md e && decide (k ≤ e.on)) else (oj.after.any (fun e => Region.binds md e && e.on == k) || ok.apart ops oj)))

section
variable {P : Program} {ops : Array Oper} {Q : Exit → Act → World → Prop} {md : Region.Mode} {S : World → Prop} {bigs : List Nat}

/-- The walk in the text's order. -/
def wpLex (P : Program) (ops : Array Oper) (bigs : List Nat) (S : World → Prop) (Q : Exit → Act → World → Prop) : Nat → List Oper → Act → World → Prop
  | _, [], a, w => Q .normal a w
  | k, o :: rest, a, w => if bigs.contains k = true then wpOp P ops Q k (fun a' w' => S w' ∧ wpLex P ops bigs S Q (k + 1) rest a' w') a w else ∃ v, YieldsIf P ops S o v a ∧ wpLex P ops bigs S Q (k + 1) rest (a.put o.dst v) w

theorem wpLex_take {k : Nat} {o : Oper} {rest : List Oper} {v : Value} {a : Act} {w : World} (hk : bigs.contains k = false) (hy : YieldsIf P ops S o v a) (h : wpLex P ops bigs S Q (k + 1) rest (a.put o.dst v) w) : wpLex P ops bigs S Q k (o :: rest) a w := by
  unfold wpLex
  rw [if_neg (by rw [hk]; simp)]
  exact ⟨v, hy, h⟩
theorem wpLex_big {k : Nat} {o : Oper} {rest : List Oper} {a : Act} {w : World} (hk : bigs.contains k = true) (ho : ops[k]? = some o)
    (h : ∀ K' : Act → World → Prop, Shut (∀ a w, S w → (S w → wpLex P ops bigs S Q (k + 1) rest a w) → K' a w) → if Region.wanted o (yielded ops a.tmps) = true then Oper.wp P o a w K' Q else K' (a.put o.dst undef) w) : wpLex P ops bigs S Q k (o :: rest) a w := by
  unfold wpLex
  rw [if_pos hk]
  exact wpOp_step ho (fun K' hK => h K' (fun a w hS hW => hK a w ⟨hS, hW hS⟩))

theorem wpLex_nil {k : Nat} {a : Act} {w : World} (h : Q .normal a w) : wpLex P ops bigs S Q k [] a w := by
  unfold wpLex
  exact h
theorem wpAnyH_of_lex (hB : lexHB md ops bigs = true) (hQ : ∀ (c : _) (a : Act) (d : Option Tmp) (v : Value) (w : World), Q (.panic c) (a.put d v) w → Q (.panic c) a w) : ∀ (l : List Oper) (k : Nat) (a : Act) (w : World), ops.toList.drop k = l → k ≤ ops.size → S w → wpLex P ops bigs S Q k l a w → wpAnyH P md ops Q S (ops.size - k) (firstK ops.size k) a w := by
  simp only [lexHB, Bool.and_eq_true] at hB
  obtain ⟨hs, hall⟩ := hB
  rw [List.all_eq_true] at hall
  intro l
  induction l with
  | nil =>
    intro k a w hl hk hS h
    have hk' : k = ops.size := by
      have := congrArg List.length hl
      simp at this
      omega
    subst hk'
    unfold wpLex at h
    rw [Nat.sub_self]
    refine ⟨?_, h⟩
    apply List.eq_nil_iff_forall_not_mem.2
    intro i hi
    obtain ⟨h1, o, ho, _⟩ := mem_ready.1 hi
    have hlt := (Array.getElem?_eq_some_iff.1 ho).1
    rw [firstK_getD, if_pos hlt] at h1
    simp at h1
    omega
  | cons o rest ih =>
    intro k a w hl hk hS h
    have hk' : k < ops.size := by
      have := congrArg List.length hl
      simp at this
      omega
    have ho : ops[k]? = some o := by
      have h1 : (ops.toList.drop k)[0]? = some o := by rw [hl]; rfl
      rw [List.getElem?_drop] at h1
      simpa using h1
    have hr : ops.toList.drop (k + 1) = rest := by
      have : (ops.toList.drop k).drop 1 = rest := by rw [hl]; rfl
      rwa [List.drop_drop] at this
    have hc := hall k (List.mem_range.2 hk')
    rw [ho] at hc
    simp only [Bool.and_eq_true] at hc
    obtain ⟨hc1, hc2⟩ := hc
    rw [List.all_eq_true] at hc2
    have hin : k ∈ Region.ready md ops (firstK ops.size k) := by
      refine mem_ready.2 ⟨by rw [firstK_getD, if_pos hk']; simp, o, ho, fun e he hb => ?_⟩
      have h2 := (Array.all_eq_true'.1 hc1) e he
      rw [hb] at h2
      simp only [Bool.not_true, Bool.false_or, decide_eq_true_eq] at h2
      rw [firstK_getD, if_pos (by omega)]
      simpa using h2
    rw [show ops.size - k = (ops.size - (k + 1)) + 1 by omega]
    unfold wpLex at h
    cases hb : bigs.contains k
    · rw [hb, if_neg (by simp)] at h
      obtain ⟨v, hy, h⟩ := h
      refine wpAnyH_first ho (Region.noSelect_spec hs) (fun c a w hq => hQ c a _ _ w hq) _ _ a w ?_ hin hy hS ?_
      · intro j oj hoj hne hun hno
        have hlt := (Array.getElem?_eq_some_iff.1 hoj).1
        rw [firstK_getD, if_pos hlt] at hun
        have hjk : ¬ j < k := by simpa using hun
        have h2 := hc2 j (List.mem_range.2 hlt)
        rw [hoj] at h2
        simp only [hb, Bool.false_eq_true, if_false, Bool.or_eq_true, decide_eq_true_eq] at h2
        rcases h2 with h2 | h2 | h2
        · omega
        · obtain ⟨e, he, hbe⟩ := Array.any_eq_true'.1 h2
          simp only [Bool.and_eq_true, beq_iff_eq] at hbe
          exact absurd hbe.2 (hno e he hbe.1)
        · exact h2
      · rw [firstK_succ]
        exact ih (k + 1) _ w hr (by omega) hS h
    · rw [hb, if_pos rfl] at h
      have hne : Region.ready md ops (firstK ops.size k) = [] → Q .normal a w := by
        intro h0
        rw [h0] at hin
        cases hin
      refine ⟨hne, fun i hi => ?_⟩
      have hik : i = k := by
        obtain ⟨h1, oi, hoi, h3⟩ := mem_ready.1 hi
        have hlt := (Array.getElem?_eq_some_iff.1 hoi).1
        rw [firstK_getD, if_pos hlt] at h1
        have hjk : ¬ i < k := by simpa using h1
        have h2 := hc2 i (List.mem_range.2 hlt)
        rw [hoi] at h2
        simp only [hb, if_true, Bool.or_eq_true, decide_eq_true_eq] at h2
        rcases h2 with h2 | h2
        · omega
        · obtain ⟨e, he, hbe⟩ := Array.any_eq_true'.1 h2
          simp only [Bool.and_eq_true, decide_eq_true_eq] at hbe
          have h4 := h3 e he hbe.1
          rw [firstK_getD] at h4
          split at h4
          · simp at h4; omega
          · cases h4
      subst hik
      refine wpOp_mono (fun a' w' hh => ⟨hh.1, ?_⟩) h
      rw [firstK_succ]
      exact ih (i + 1) a' w' hr (by omega) hh.1 hh.2

theorem wp_region_lex {id : Nat} {l : List Oper} {a : Act} {w : World} (bigs : List Nat) (S : World → Prop) (hm : P.follows .mixedOrders = true) (hB : lexHB .any l.toArray bigs = true) (hQ : ∀ (c : _) (a : Act) (d : Option Tmp) (v : Value) (w : World), Q (.panic c) (a.put d v) w → Q (.panic c) a w)
    (hS : S w.drew) (h : wpLex P l.toArray bigs S Q 0 l a w.drew) : (Code.region id l.toArray true).wp P Q a w := by
  refine wp_region_held_drew (S := S) hm hS (fun hS => ?_)
  have := wpAnyH_of_lex (P := P) hB hQ l 0 a w.drew (by simp) (by omega) hS h
  rw [firstK_zero] at this
  exact this
end
end Go.Proofs.YtinfpbkbnhcifaaGreatDoor

/- A region that draws its order, in which calls wait for one another and all else only looks at cells that are kept: one walk in a given order serves. The conditions are closed facts of the region. -/
namespace Go.Proofs.YtinfpbkbnhcifaaGreatDoor

/-- Which operations have come up. -/
def tookA (s : Nat) (t : List Nat) : Array Bool := ((List.range s).map fun j => t.contains j).toArray
theorem tookA_nil (s : Nat) : tookA s [] = Array.replicate s false := by
  apply Array.ext
  · simp [tookA]
  · intro i h1 h2
    simp [tookA]
theorem tookA_cons (s k : Nat) (t : List Nat) : (tookA s t).setIfInBounds k true = tookA s (k :: t) := by
  apply Array.ext
  · simp [tookA]
  · intro i h1 h2
    rw [Array.getElem_setIfInBounds (by simpa using h1)]
    by_cases h : k = i
    · subst h; simp [tookA]
    · rw [if_neg h]
      simp [tookA]
      exact fun e => absurd e.symm h
theorem tookA_getD (s j : Nat) (t : List Nat) (d : Bool) : (tookA s t).getD j d = if j < s then t.contains j else d := by
  unfold tookA Array.getD
  by_cases h : j < s
  · simp [h]
  · simp [h]

/-- What is asked of the region: closed facts. 'bigs': the calls. 'ord': the order. -/
def lexOC (md : Region.Mode) (ops : Array Oper) (bigs : List Nat) : List Nat → List Nat → Bool
  | t, [] => (List.range ops.size).all fun j => t.contains j
  | t, k :: rest => (match ops[k]? with
    | none => false
    | some ok => !t.contains k && (ok.after.all fun e => !Region.binds md e || (t.contains e.on && decide (e.on < ops.size))) && ((List.range ops.size).all fun j => t.contains j || j == k || match ops[j]? with
      | none => true
      | some oj => if bigs.contains k = true then oj.after.any (fun e => Region.binds md e && !t.contains e.on) else (oj.after.any (fun e => Region.binds md e && e.on == k) || ok.apart ops oj))) && lexOC md ops bigs (k :: t) rest
def lexOB (md : Region.Mode) (ops : Array Oper) (bigs ord : List Nat) : Bool := Region.noSelect ops && lexOC md ops bigs [] ord

section
variable {P : Program} {ops : Array Oper} {Q : Exit → Act → World → Prop} {md : Region.Mode} {S : World → Prop} {bigs : List Nat}

/-- The walk in the given order. -/
def wpLexO (P : Program) (ops : Array Oper) (bigs : List Nat) (S : World → Prop) (Q : Exit → Act → World → Prop) : List Nat → Act → World → Prop
  | [], a, w => Q .normal a w
  | k :: rest, a, w => ∃ o, ops[k]? = some o ∧ if bigs.contains k = true then wpOp P ops Q k (fun a' w' => S w' ∧ wpLexO P ops bigs S Q rest a' w') a w else ∃ v, YieldsIf P ops S o v a ∧ wpLexO P ops bigs S Q rest (a.put o.dst v) w

theorem wpLexO_take {k : Nat} {o : Oper} {rest : List Nat} {v : Value} {a : Act} {w : World} (ho : ops[k]? = some o) (hk : bigs.contains k = false) (hy : YieldsIf P ops S o v a) (h : wpLexO P ops bigs S Q rest (a.put o.dst v) w) : wpLexO P ops bigs S Q (k :: rest) a w := by
  unfold wpLexO
  refine ⟨o, ho, ?_⟩
  rw [if_neg (by rw [hk]; simp)]
  exact ⟨v, hy, h⟩
theorem wpLexO_big {k : Nat} {o : Oper} {rest : List Nat} {a : Act} {w : World} (ho : ops[k]? = some o) (hk : bigs.contains k = true)
    (h : ∀ K' : Act → World → Prop, Shut (∀ a w, S w → (S w → wpLexO P ops bigs S Q rest a w) → K' a w) → if Region.wanted o (yielded ops a.tmps) = true then Oper.wp P o a w K' Q else K' (a.put o.dst undef) w) : wpLexO P ops bigs S Q (k :: rest) a w := by
  unfold wpLexO
  refine ⟨o, ho, ?_⟩
  rw [if_pos hk]
  exact wpOp_step ho (fun K' hK => h K' (fun a w hS hW => hK a w ⟨hS, hW hS⟩))
/-- The same, the operations a list: so that 'rfl' finds the operation written out. -/
theorem wpLexO_takeL {l : List Oper} {k : Nat} {o : Oper} {rest : List Nat} {v : Value} {a : Act} {w : World} (ho : l[k]? = some o) (hk : bigs.contains k = false) (hy : YieldsIf P l.toArray S o v a) (h : wpLexO P l.toArray bigs S Q rest (a.put o.dst v) w) : wpLexO P l.toArray bigs S Q (k :: rest) a w :=
  wpLexO_take (by rw [List.getElem?_toArray]; exact ho) hk hy h
theorem wpLexO_bigL {l : List Oper} {k : Nat} {o : Oper} {rest : List Nat} {a : Act} {w : World} (ho : l[k]? = some o) (hk : bigs.contains k = true)
    (h : ∀ K' : Act → World → Prop, Shut (∀ a w, S w → (S w → wpLexO P l.toArray bigs S Q rest a w) → K' a w) → if Region.wanted o (yielded l.toArray a.tmps) = true then Oper.wp P o a w K' Q else K' (a.put o.dst undef) w) : wpLexO P l.toArray bigs S Q (k :: rest) a w :=
  wpLexO_big (by rw [List.getElem?_toArray]; exact ho) hk h
theorem wpLexO_nil {a : Act} {w : World} (h : Q .normal a w) : wpLexO P ops bigs S Q [] a w := by
  unfold wpLexO
  exact h
theorem wpAnyH_of_lexO (hs : Region.noSelect ops = true) (hQ : ∀ (c : _) (a : Act) (d : Option Tmp) (v : Value) (w : World), Q (.panic c) (a.put d v) w → Q (.panic c) a w) : ∀ (l t : List Nat) (a : Act) (w : World), lexOC md ops bigs t l = true → S w → wpLexO P ops bigs S Q l a w → wpAnyH P md ops Q S l.length (tookA ops.size t) a w := by
  intro l
  induction l with
  | nil =>
    intro t a w hc hS h
    unfold wpLexO at h
    unfold lexOC at hc
    rw [List.all_eq_true] at hc
    refine ⟨?_, h⟩
    apply List.eq_nil_iff_forall_not_mem.2
    intro i hi
    obtain ⟨h1, o, ho, _⟩ := mem_ready.1 hi
    have hlt := (Array.getElem?_eq_some_iff.1 ho).1
    rw [tookA_getD, if_pos hlt] at h1
    have h2 := hc i (List.mem_range.2 hlt)
    rw [h1] at h2
    cases h2
  | cons k rest ih =>
    intro t a w hc hS h
    unfold lexOC at hc
    unfold wpLexO at h
    obtain ⟨o, ho, h⟩ := h
    have hk' : k < ops.size := (Array.getElem?_eq_some_iff.1 ho).1
    rw [ho] at hc
    simp only [Bool.and_eq_true] at hc
    obtain ⟨⟨⟨hc0, hc1⟩, hc2⟩, hc3⟩ := hc
    rw [List.all_eq_true] at hc2
    have hin : k ∈ Region.ready md ops (tookA ops.size t) := by
      refine mem_ready.2 ⟨by rw [tookA_getD, if_pos hk']; simpa using hc0, o, ho, fun e he hb => ?_⟩
      have h2 := (Array.all_eq_true'.1 hc1) e he
      rw [hb] at h2
      simp only [Bool.not_true, Bool.false_or, Bool.and_eq_true, decide_eq_true_eq] at h2
      rw [tookA_getD, if_pos h2.2]
      exact h2.1
    show wpAnyH P md ops Q S (rest.length + 1) (tookA ops.size t) a w
    cases hb : bigs.contains k
    · rw [hb, if_neg (by simp)] at h
      obtain ⟨v, hy, h⟩ := h
      refine wpAnyH_first ho (Region.noSelect_spec hs) (fun c a w hq => hQ c a _ _ w hq) _ _ a w ?_ hin hy hS ?_
      · intro j oj hoj hne hun hno
        have hlt := (Array.getElem?_eq_some_iff.1 hoj).1
        rw [tookA_getD, if_pos hlt] at hun
        have h2 := hc2 j (List.mem_range.2 hlt)
        rw [hoj, hun] at h2
        simp only [hb, Bool.false_eq_true, if_false, Bool.or_eq_true, beq_iff_eq, false_or] at h2
        rcases h2 with h2 | h2 | h2
        · exact absurd h2 hne
        · obtain ⟨e, he, hbe⟩ := Array.any_eq_true'.1 h2
          simp only [Bool.and_eq_true, beq_iff_eq] at hbe
          exact absurd hbe.2 (hno e he hbe.1)
        · exact h2
      · rw [tookA_cons]
        exact ih (k :: t) _ w hc3 hS h
    · rw [hb, if_pos rfl] at h
      have hne : Region.ready md ops (tookA ops.size t) = [] → Q .normal a w := by
        intro h0
        rw [h0] at hin
        cases hin
      refine ⟨hne, fun i hi => ?_⟩
      have hik : i = k := by
        obtain ⟨h1, oi, hoi, h3⟩ := mem_ready.1 hi
        have hlt := (Array.getElem?_eq_some_iff.1 hoi).1
        rw [tookA_getD, if_pos hlt] at h1
        have h2 := hc2 i (List.mem_range.2 hlt)
        rw [hoi, h1] at h2
        simp only [hb, if_true, Bool.or_eq_true, beq_iff_eq, Bool.false_eq_true, false_or] at h2
        rcases h2 with h2 | h2
        · exact h2
        · obtain ⟨e, he, hbe⟩ := Array.any_eq_true'.1 h2
          simp only [Bool.and_eq_true] at hbe
          have h4 := h3 e he hbe.1
          rw [tookA_getD] at h4
          have h5 := hbe.2
          split at h4
          · rw [h4] at h5; cases h5
          · cases h4
      subst hik
      refine wpOp_mono (fun a' w' hh => ⟨hh.1, ?_⟩) h
      rw [tookA_cons]
      exact ih (i :: t) a' w' hc3 hh.1 hh.2

theorem wp_region_lexO {id : Nat} {l : List Oper} {a : Act} {w : World} (bigs ord : List Nat) (S : World → Prop) (hm : P.follows .mixedOrders = true) (hB : lexOB .any l.toArray bigs ord = true) (hl : ord.length = l.length) (hQ : ∀ (c : _) (a : Act) (d : Option Tmp) (v : Value) (w : World), Q (.panic c) (a.put d v) w → Q (.panic c) a w)
    (hS : S w.drew) (h : wpLexO P l.toArray bigs S Q ord a w.drew) : (Code.region id l.toArray true).wp P Q a w := by
  unfold lexOB at hB
  rw [Bool.and_eq_true] at hB
  refine wp_region_held_drew (S := S) hm hS (fun hS => ?_)
  have := wpAnyH_of_lexO (P := P) hB.1 hQ ord [] a w.drew hB.2 hS h
  rw [tookA_nil, hl] at this
  simpa using this
end
end Go.Proofs.YtinfpbkbnhcifaaGreatDoor
