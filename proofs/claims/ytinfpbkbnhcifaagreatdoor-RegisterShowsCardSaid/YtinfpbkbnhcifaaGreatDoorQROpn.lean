/- From the data of a row to what a walk asks: slices of integers; the arguments read again behind a call that makes new memory alone. The conditions are those of the row. -/
import Derived.Test.YtinfpbkbnhcifaaGreatDoorQVR7
import Derived.ProofKit
import Derived.OpenShut
import Derived.ChangeBears
import Derived.ReadAgain
import Derived.Deep.DeepHandedRow
import Derived.Lib.LaidTab
namespace Go.Proofs.YtinfpbkbnhcifaaGreatDoor
open Go.RowKit Go.WideShapes Go.ChangeShapes

section
variable {H : Type} {enc : TypeId × Value → H} {P : Program}

/-! ### Arguments read again -/
theorem same_below {W W' : World} (hb : Below W.heap.size W W') (p : MemPlace) (hp : p.block < W.heap.size) : W.sameAt W' p := by
  cases p with
  | cell b off => exact hb.cell (p := ⟨b, off, none⟩) hp
  | map b => exact hb.block b hp
theorem trodAll_below {W W' : World} (hb : Below W.heap.size W W') {sp : Nat → Bool} {held : Bool} : ∀ {ts : List TypeId} {vs : List Value} {ds : List (DataW H)} {ps : List MemPlace}, DataW.TrodAll enc P W 0 sp held ts vs ds ps → (∀ p ∈ ps, p.block < W.heap.size) → DataW.TrodAll enc P W' 0 sp held ts vs ds ps
  | [], [], [], _, h, _ => h
  | _ :: _, _ :: _, _ :: _, _, ⟨p, q, ⟨n, h1⟩, h2, e⟩, hs =>
    ⟨p, q, ⟨n, DataW.trod_carry n _ _ _ h1 (fun x hx => same_below hb x (hs x (by rw [e]; exact List.mem_append_left _ hx)))⟩, trodAll_below hb h2 (fun x hx => hs x (by rw [e]; exact List.mem_append_right _ hx)), e⟩

/-- The row's last step where new memory was made. -/
theorem post_below {f : Func} {s : ChangeSpec} {apart fresh handsOn again : Bool} {W W' : World} {args : Array Value} {v : Value} {ds gs : List (DataW H)} {before pa pv : List MemPlace}
    (hW : DataW.Whole enc P f.params.toList s.vars apart W args.toList ds gs before)
    (hres : ∀ (b : Nat) (sp : Nat → Bool) (hd : Bool), DataW.TrodAll enc P W' b sp hd f.resultTypes.toList (v.resultList f.resultTypes.size) (s.fn H (ds ++ gs)).results [])
    (hargs : ∀ sp : Nat → Bool, (∀ p ∈ before, sp p.block = true) → DataW.TrodAll enc P W' 0 sp true f.params.toList args.toList (s.fn H (ds ++ gs)).args pa)
    (hvars : ∀ sp : Nat → Bool, (∀ p ∈ before, sp p.block = true) → DataW.TrodVars enc P W' sp s.vars (s.fn H (ds ++ gs)).vars pv)
    (hps : before = pa ++ pv) (hb : Below W.heap.size W W')
    (hok : ∀ (j : Nat) (t : TypeId) (r : Value), f.resultTypes[j]? = some t → (v.resultList f.resultTypes.size)[j]? = some r → Value.okWide P W' .any 0 t r) :
    s.post enc P f apart fresh handsOn again W args v W' := by
  have hlt : ∀ p ∈ before, p.block < W.heap.size := fun p hp => hW.lt p hp
  have hold : ∀ p ∈ before, (fun b => decide (b < W.heap.size)) p.block = true := fun p hp => by simpa using hlt p hp
  refine ⟨ds, gs, before, [], pa, pv, hW, hres _ _ _, hargs _ hold, hvars _ hold, World.keptBut_mono (fun p hp => ⟨hp, ?_⟩) (hb.frame (· ∈ before)), fun _ => ?_⟩
  · rw [hps, List.mem_append] at hp
    exact Or.inr hp
  · obtain ⟨_, _, _, _, _, hz, hn⟩ := hW
    refine ⟨hok, _, _, ([] ++ pa) ++ pv, ⟨[] ++ pa, pv, trodAll_append (hargs _ (fun _ _ => rfl)) (hres _ _ _), hvars _ (fun _ _ => rfl), rfl, ?_, ?_⟩, ?_⟩
    · intro b off hp
      have hin : MemPlace.cell b off ∈ before := by rw [hps]; simpa using hp
      rw [hb.frozen (hlt _ hin)]
      exact hz b off hin
    · intro ha
      have := hn ha
      rw [hps] at this
      simpa using this
    · intro p hp _
      rw [hps]
      simpa using hp

theorem open_i64 {W : World} {sp : Nat → Bool} {held : Bool} {r : Reach} {b0 : Nat} {t : TypeId} {v : Value} {d : DataW H} {ps : List MemPlace} (ht : P.underlying t = some (.int .i64)) (hval : Value.okWide P W r b0 t v) (hd : DataW.Trod enc P W 0 sp held t v d ps) :
    ∃ n, v = .int .i64 n ∧ d = .lit (.int .i64 n) ∧ ps = [] ∧ I64 n := by
  obtain ⟨n, h1, h2, h3, h4⟩ := open_int ht hval hd
  exact ⟨n, h1, h2, h3, bounds_i64 h4⟩
/-! ### A slice of integers -/
theorem spot_none {W : World} {a : Addr} {v : Value} (h : W.cell? a = some v) : a.spot = none := World.cell?_spot h

theorem ints_open {W : World} {sp : Nat → Bool} {held : Bool} {ts t : TypeId} {v : Value} {d : DataW H} {ps : List MemPlace}
    (hts : P.underlying ts = some (.slice t)) (ht : P.underlying t = some (.int .i64)) (hct : P.cellsOf t = 1)
    (hval : Value.okWide P W .any 0 ts v) (h : DataW.Trod enc P W 0 sp held ts v d ps) : ∃ xs : List Int, IL W v xs ∧ ∀ n ∈ xs, I64 n := by
  obtain ⟨a, len, cap, rfl⟩ := okWide_slice hts hval
  obtain ⟨fuel, h⟩ := h
  cases fuel with
  | zero => simp [DataW.trod] at h
  | succ fuel =>
    rw [show (Value.slice a len cap).cells.toList = [.slice a len cap] from rfl] at h
    cases a with
    | none =>
      unfold DataW.trod at h
      rw [hts] at h
      split at h
      all_goals simp_all
      exact ⟨[], SliceAt.nil _ _, by simp⟩
    | some a =>
      unfold DataW.trod at h
      simp only [hts] at h
      split at h
      · rename_i hc
        obtain ⟨_, h1, h2⟩ := hc
        rw [Option.bind_eq_some_iff] at h
        obtain ⟨elems, hel, _⟩ := h
        rw [hct] at hel
        have hlen : elems.length = len := by simpa using mapM_some_length hel
        have key : ∀ i, i < len → ∃ n : Int, W.cells? 0 (a.add (i * 1)) 1 = some [.int .i64 n] ∧ I64 n := by
          intro i hi
          have h3 := mapM_some_get hel i i (by simp [hi])
          rw [List.getElem?_eq_getElem (by omega), Option.bind_eq_some_iff] at h3
          obtain ⟨cs, hcs, htr⟩ := h3
          obtain ⟨n, hc, _, hw⟩ := DataW.trod_int ht htr
          exact ⟨n, by rw [hcs, hc], bounds_i64 hw⟩
        have hall : ∀ n, n ≤ len → ∃ xs : List Int, xs.length = n ∧ ∀ i q, xs[i]? = some q → W.cells? 0 (a.add (i * 1)) 1 = some [.int .i64 q] ∧ I64 q := by
          intro n
          induction n with
          | zero => intro _; exact ⟨[], rfl, by simp⟩
          | succ n ih =>
            intro hn
            obtain ⟨xs, hx, hxs⟩ := ih (by omega)
            obtain ⟨q, hq⟩ := key n (by omega)
            refine ⟨xs ++ [q], by simp [hx], fun i q' hi => ?_⟩
            rcases Nat.lt_or_ge i n with h' | h'
            · rw [List.getElem?_append_left (by omega)] at hi
              exact hxs i q' hi
            · rw [List.getElem?_append_right (by omega)] at hi
              obtain rfl : i = n := by
                rcases Nat.eq_or_lt_of_le h' with h'' | h''
                · omega
                · rw [List.getElem?_eq_none (by simp; omega)] at hi; cases hi
              rw [hx, Nat.sub_self] at hi
              simp at hi
              subst hi
              exact hq
        obtain ⟨xs, hx, hxs⟩ := hall len (Nat.le_refl _)
        refine ⟨xs, ⟨some a, cap, by unfold icells; rw [List.length_map, hx], by unfold icells; rw [List.length_map, hx]; exact h1, h2, ?_⟩, fun q hq => ?_⟩
        · by_cases h0 : len = 0
          · left
            unfold icells
            rw [List.map_eq_nil_iff]
            exact List.eq_nil_of_length_eq_zero (by omega)
          · right
            obtain ⟨q0, hq0⟩ : ∃ q, xs[0]? = some q := ⟨_, List.getElem?_eq_getElem (by omega)⟩
            obtain ⟨_, _, hc0⟩ := World.cells?_some (hxs 0 q0 hq0).1
            have h00 := hc0 0 (by omega)
            have hadd : (a.add (0 * 1)).add 0 = a := by simp [Addr.add]
            rw [hadd] at h00
            have hsp : a.spot = none := spot_none (v := .int .i64 q0) h00
            obtain ⟨b, off, spot⟩ := a
            dsimp only at hsp
            subst hsp
            refine ⟨b, off, rfl, World.block_lt_of_cell? W _ h00, fun i c hi j u hj => ?_⟩
            unfold icells at hi
            rw [List.getElem?_map] at hi
            obtain ⟨q, hq, rfl⟩ := Option.map_eq_some_iff.1 hi
            obtain ⟨_, _, hc⟩ := World.cells?_some (hxs i q hq).1
            have hj1 : j < 1 := by
              rcases Nat.lt_or_ge j 1 with h' | h'
              · exact h'
              · rw [List.getElem?_eq_none (by simpa using h')] at hj; cases hj
            have h4 := hc j hj1
            rw [hj] at h4
            have e1 : ((⟨b, off, none⟩ : Addr).add (i * 1)).add j = ⟨b, off + i * 1 + j, none⟩ := by
              unfold Addr.add
              (repeat' split) <;> simp_all
              all_goals omega
            rw [e1] at h4
            exact h4
        · obtain ⟨i, hi⟩ := List.getElem?_of_mem hq
          exact (hxs i q hi).2
      · cases h
/-! ### A pair of integers -/
theorem pair_open {W : World} {sp : Nat → Bool} {held : Bool} {r : Reach} {b0 : Nat} {ts t : TypeId} {v : Value} {d : DataW H} {ps : List MemPlace}
    (hts : P.underlying ts = some (.array 2 t)) (ht : P.underlying t = some (.int .i64)) (hct : P.cellsOf t = 1) (hcs : P.cellsOf ts = 2)
    (hval : Value.okWide P W r b0 ts v) (h : DataW.Trod enc P W 0 sp held ts v d ps) : ∃ a b : Int, v = .agg #[.int .i64 a, .int .i64 b] ∧ I64 a ∧ I64 b := by
  unfold Value.okWide at hval
  rw [hts] at hval
  obtain ⟨cs, rfl, hsize, _⟩ := hval
  rw [hcs] at hsize
  obtain ⟨fuel, h⟩ := h
  obtain ⟨xs, m, _, _, hl, hxl, hi⟩ := DataW.trod_array hts h
  rw [hct] at hi
  rw [show (Value.agg cs).cells.toList = cs.toList from rfl] at hi
  have key : ∀ i, i < 2 → ∃ n, cs[i]? = some (.int .i64 n) ∧ I64 n := by
    intro i h2
    have h1 := hi i h2
    rw [List.getElem?_eq_getElem (by omega)] at h1
    obtain ⟨n, hc, _, hw⟩ := DataW.trod_int ht h1
    refine ⟨n, ?_, bounds_i64 hw⟩
    have := congrArg (·[0]?) hc
    simpa [List.getElem?_take, List.getElem?_drop] using this
  obtain ⟨a, ha, ia⟩ := key 0 (by omega)
  obtain ⟨b, hb, ib⟩ := key 1 (by omega)
  refine ⟨a, b, ?_, ia, ib⟩
  congr 1
  apply Array.ext
  · simpa using hsize
  · intro i h1 h2
    match i, h1 with
    | 0, h1 => rw [Array.getElem?_eq_getElem h1] at ha; exact Option.some.inj ha
    | 1, h1 => rw [Array.getElem?_eq_getElem h1] at hb; exact Option.some.inj hb
    | i + 2, h1 => omega
end
end Go.Proofs.YtinfpbkbnhcifaaGreatDoor
