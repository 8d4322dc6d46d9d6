/- Walk: slices.Compact at votes. The conditions: what the slice owns. -/
import Derived.Lib.SliceRun
import Derived.Test.YtggdcnjaofflbaaGreatDoorC13
import Derived.Test.YtggdcnjaofflbaaGreatDoorC10
import Derived.Deep.DeepCutAuto
import Derived.Test.YtggdcnjaofflbaaGreatDoorC08
import Derived.Sort.Walk0
import Derived.Test.YtggdcnjaofflbaaGreatDoorC07
namespace Go.Proofs.YtggdcnjaofflbaaGreatDoor
open Go.RowKit Go.BigFrame Go.Shelf Go.Sort Go.Lib

theorem flat_setV : ∀ (xs : List VoteP) (k : Nat) (v : VoteP), k < xs.length →
    ((xs.set k v).map vcells).flatten = ((((((xs.map vcells).flatten.set (k * 5) (.int .i64 v.car)).set (k * 5 + 1) (.int .i64 v.num)).set (k * 5 + 2) (.int .i64 v.stp)).set (k * 5 + 3) (.string v.val)).set (k * 5 + 4) (.string v.sl))
  | [], k, v, h => by simp at h
  | x :: xs, 0, v, _ => by
    simp [vcells]
  | x :: xs, k + 1, v, h => by
    have ih := flat_setV xs k v (by simpa using h)
    have hl : (vcells x).length = 5 := rfl
    simp only [List.set_cons_succ, List.map_cons, List.flatten_cons]
    rw [ih]
    rw [List.set_append_right _ _ (by rw [hl]; omega), List.set_append_right _ _ (by rw [hl]; omega), List.set_append_right _ _ (by rw [hl]; omega), List.set_append_right _ _ (by rw [hl]; omega), List.set_append_right _ _ (by rw [hl]; omega), hl]
    rw [show (k + 1) * 5 - 5 = k * 5 by omega, show (k + 1) * 5 + 1 - 5 = k * 5 + 1 by omega, show (k + 1) * 5 + 2 - 5 = k * 5 + 2 by omega, show (k + 1) * 5 + 3 - 5 = k * 5 + 3 by omega, show (k + 1) * 5 + 4 - 5 = k * 5 + 4 by omega]
theorem OwnV.set {w : World} {base g n cap : Nat} {xs : List VoteP} (h : OwnV w base (.slice (some ⟨g, 0, none⟩) n cap) xs) (k : Nat) (hk : k < xs.length) (v : VoteP) :
    OwnV (((((w.setCell ⟨g, k * 5, none⟩ (.int .i64 v.car)).setCell ⟨g, k * 5 + 1, none⟩ (.int .i64 v.num)).setCell ⟨g, k * 5 + 2, none⟩ (.int .i64 v.stp)).setCell ⟨g, k * 5 + 3, none⟩ (.string v.val)).setCell ⟨g, k * 5 + 4, none⟩ (.string v.sl)) base (.slice (some ⟨g, 0, none⟩) n cap) (xs.set k v) := by
  obtain ⟨h0, h1⟩ := h
  rcases h1 with ⟨h2, _⟩ | ⟨g', cap', cur, hv, hb, hg, hn, hm, hs, ht⟩
  · cases h2
  · cases hv
    refine ⟨?_, .inr ⟨g, cap, ((((cur.setIfInBounds (k * 5) (.int .i64 v.car)).setIfInBounds (k * 5 + 1) (.int .i64 v.num)).setIfInBounds (k * 5 + 2) (.int .i64 v.stp)).setIfInBounds (k * 5 + 3) (.string v.val)).setIfInBounds (k * 5 + 4) (.string v.sl), ?_, hb, ?_, ?_, hm, ?_, ?_⟩⟩
    · rw [flat_setV xs k v hk]
      simp only [List.length_set, List.length_map] at h0 ⊢
      exact h0
    · simp only [List.length_map, List.length_set]
    · exact heap_setCell_same _ (heap_setCell_same _ (heap_setCell_same _ (heap_setCell_same _ (heap_setCell_same _ hg))))
    · simpa using hn
    · simpa using hs
    · rw [flat_setV xs k v hk]
      simp only [Array.toList_setIfInBounds, List.take_set, List.length_map, List.length_set]
      rw [List.length_map] at ht
      rw [ht]
theorem OwnV.cells {w : World} {base g n cap : Nat} {xs : List VoteP} (h : OwnV w base (.slice (some ⟨g, 0, none⟩) n cap) xs) : (∀ j, w.frozen? ⟨g, j, none⟩ = false) ∧ n = xs.length ∧ n ≤ cap ∧ cap ≤ maxLen ∧ ∀ (k : Nat) (v : VoteP), xs[k]? = some v → w.cell? ⟨g, k * 5, none⟩ = some (.int .i64 v.car) ∧ w.cell? ⟨g, k * 5 + 1, none⟩ = some (.int .i64 v.num) ∧ w.cell? ⟨g, k * 5 + 2, none⟩ = some (.int .i64 v.stp) ∧ w.cell? ⟨g, k * 5 + 3, none⟩ = some (.string v.val) ∧ w.cell? ⟨g, k * 5 + 4, none⟩ = some (.string v.sl) := by
  have hv := OwnV.vs h
  obtain ⟨a, c, he, h1, h2, h3⟩ := hv.opened
  have hf : ∀ j, w.frozen? ⟨g, j, none⟩ = false := by
    rcases h.2 with ⟨h2, _⟩ | ⟨g', cap', cur, hv', hb, hg, _⟩
    · cases h2
    · injection hv' with e1 _ _
      injection e1 with e1
      injection e1 with e1 _ _
      subst e1
      intro j
      simp [World.frozen?, hg]
  injection he with e1 e2 e3
  subst e2 e3
  refine ⟨hf, rfl, h1, h2, fun k v hk => ?_⟩
  · obtain ⟨b, o, hb, hbl, d⟩ := h3 k v hk
    rw [← e1] at hb
    injection hb with hb
    injection hb with e4 e5 _
    subst e4 e5
    obtain ⟨d0, d1, d2, d3, d4⟩ := d
    simp only [Nat.zero_add] at d0 d1 d2 d3 d4
    exact ⟨d0, d1, d2, d3, d4⟩
theorem run_clear_k {P : Program} (w : World) (t e : TypeId) (z : Value) (k : Nat) (ht : P.underlying t = some (.slice e)) (hv : ∀ w, (zeroValue e).run P w = .ok z w) (hz : z.cells.size = k) (h1 : ∀ u ∈ z.cells, u.oneCell' = true) (b o n c : Nat) (hn : 0 < n) (hk : 0 < k)
    (hc : ∀ j, j < n * k → (w.cell? ⟨b, o + j, none⟩).isSome = true) (hf : ∀ j, j < n * k → w.frozen? ⟨b, o + j, none⟩ = false) :
    ∃ vs : List Value, ∀ ty, (Builtin.clear_ #[t] ty #[.slice (some ⟨b, o, none⟩) n c]).run P w = .ok (.tuple #[]) (w.setCells b o vs) := by
  refine ⟨(Builtin.zeroCells z.cells n).toList, fun ty => ?_⟩
  have hlen : (Builtin.zeroCells z.cells n).toList.length = n * k := by simp [Builtin.zeroCells, hz]
  have hst := run_storeCells_cells (P := P) b o (Builtin.zeroCells z.cells n).toList 0 w (by rw [hlen]; simpa using hc) (by rw [hlen]; simpa using hf) (by
    intro v hv'
    simp only [Builtin.zeroCells, hz, Array.toList_map, List.mem_map] at hv'
    obtain ⟨i, _, rfl⟩ := hv'
    have hi : i % k < z.cells.size := by rw [hz]; exact Nat.mod_lt _ hk
    first
      | (rw [getElem!_pos z.cells _ hi]; exact h1 _ (Array.getElem_mem hi))
      | (simp only [Array.getElem?_eq_getElem hi]; exact h1 _ (Array.getElem_mem hi)))
  simp only [Nat.add_zero] at hst
  obtain ⟨m, rfl⟩ : ∃ m, n = m + 1 := ⟨n - 1, by omega⟩
  simp [Builtin.clear_, run_underlying ht, hv, hst]
theorem setCells_block {g : Nat} {e : TypeId} {fr : Nat × Nat} : ∀ (vs : List Value) (o : Nat) (w : World) (cur : Array Value), w.heap[g]? = some (.cells cur e fr) →
    w.grownBy (w.setCells g o vs) (some g) ∧ ∃ cur' : Array Value, (w.setCells g o vs).heap[g]? = some (.cells cur' e fr) ∧ cur'.size = cur.size ∧ ∀ j, j < o → cur'[j]? = cur[j]?
  | [], o, w, cur, h => ⟨grown_refl _ _, cur, h, rfl, fun _ _ => rfl⟩
  | v :: r, o, w, cur, h => by
    have hs : w.grownBy (w.setCell ⟨g, o, none⟩ v) (some g) := grown_setCell (grown_refl _ _) _ (.inl rfl) _
    obtain ⟨h1, cur', h2, h3, h4⟩ := setCells_block r (o + 1) (w.setCell ⟨g, o, none⟩ v) (cur.setIfInBounds o v) (heap_setCell_same _ h)
    refine ⟨⟨h1.os.trans hs.os, h1.tape.trans hs.tape, h1.output.trans hs.output, Nat.le_trans hs.size h1.size, fun k hk hne => (h1.block k (Nat.lt_of_lt_of_le hk hs.size) hne).trans (hs.block k hk hne)⟩, cur', h2, by rw [h3]; simp, fun j hj => ?_⟩
    rw [h4 j (by omega), Array.getElem?_setIfInBounds, if_neg (by omega)]
theorem OwnV.cut {w : World} {base g n cap : Nat} {xs : List VoteP} (h : OwnV w base (.slice (some ⟨g, 0, none⟩) n cap) xs) (k : Nat) (hk : k ≤ n) (vs : List Value) :
    OwnV (w.setCells g (k * 5) vs) base (.slice (some ⟨g, 0, none⟩) k cap) (xs.take k) ∧ w.grownBy (w.setCells g (k * 5) vs) (some g) := by
  have hn := (OwnV.cells h).2.1
  obtain ⟨h0, h1⟩ := h
  rcases h1 with ⟨h2, _⟩ | ⟨g', cap', cur, hv, hb, hg, hn', hm, hs, ht⟩
  · cases h2
  · cases hv
    obtain ⟨e1, cur', e2, e3, e4⟩ := setCells_block vs (k * 5) w cur hg
    have hlk : ((xs.take k).map vcells).length = k := by rw [List.length_map, List.length_take]; omega
    refine ⟨⟨?_, .inr ⟨g, cap, cur', ?_, hb, e2, by omega, hm, by rw [e3, hs], ?_⟩⟩, e1⟩
    · rw [flat_lenQ _ (vcells_len _)]
    · rw [hlk]
    · rw [hlk]
      have hcur : cur'.toList.take (k * 5) = cur.toList.take (k * 5) := by
        refine List.ext_getElem? fun j => ?_
        by_cases hj : j < k * 5
        · rw [List.getElem?_take_of_lt hj, List.getElem?_take_of_lt hj, Array.getElem?_toList, Array.getElem?_toList]
          exact e4 j hj
        · rw [List.getElem?_take_eq_none (by omega), List.getElem?_take_eq_none (by omega)]
      rw [hcur]
      have h5 : cur.toList.take (k * 5) = (cur.toList.take ((xs.map vcells).length * 5)).take (k * 5) := by
        rw [List.take_take, Nat.min_eq_left]
        rw [List.length_map]
        omega
      rw [h5, ht]
      have h6 : ((xs.map vcells).flatten) = ((xs.take k).map vcells).flatten ++ ((xs.drop k).map vcells).flatten := by
        rw [← List.flatten_append, ← List.map_append, List.take_append_drop]
      rw [h6, List.take_append_of_le_length (by rw [flat_lenQ _ (vcells_len _), hlk]; exact Nat.le_refl _)]
      rw [List.take_of_length_le]
      rw [flat_lenQ _ (vcells_len _), hlk]
      exact Nat.le_refl _
end Go.Proofs.YtggdcnjaofflbaaGreatDoor

/- Walk: slices.Compact at votes. The conditions: what the slice owns. -/
namespace Go.Proofs.YtggdcnjaofflbaaGreatDoor
open Go.RowKit Go.BigFrame Go.Shelf Go.Sort Go.Lib

structure RowIs (w : World) (base g n cap : Nat) (dk : Array VoteP) (W : World) : Prop where
  own : OwnV W base (.slice (some ⟨g, 0, none⟩) n cap) dk.toList
  grow : w.grownBy W (some g)
theorem RowIs.drew {w : World} {base g n cap : Nat} {dk : Array VoteP} {W : World} (h : RowIs w base g n cap dk W) (q : Nat) : RowIs w base g n cap dk (W.drewN q) := ⟨OwnE.drewN h.own q, grown_drewN h.grow q⟩
theorem RowIs.el {w : World} {base g n cap : Nat} {dk : Array VoteP} {W : World} (h : RowIs w base g n cap dk W) (j : Nat) (hj : j < dk.size) : W.cell? ⟨g, j * 5, none⟩ = some (.int .i64 dk[j]!.car) ∧ W.cell? ⟨g, j * 5 + 1, none⟩ = some (.int .i64 dk[j]!.num) ∧ W.cell? ⟨g, j * 5 + 2, none⟩ = some (.int .i64 dk[j]!.stp) ∧ W.cell? ⟨g, j * 5 + 3, none⟩ = some (.string dk[j]!.val) ∧ W.cell? ⟨g, j * 5 + 4, none⟩ = some (.string dk[j]!.sl) :=
  (OwnV.cells h.own).2.2.2.2 j dk[j]! (by rw [Array.getElem?_toList, Array.getElem?_eq_getElem hj, getElem!_pos dk j hj])
theorem RowIs.old {w : World} {base g n cap : Nat} {dk : Array VoteP} {W : World} (h : RowIs w base g n cap dk W) : n = dk.size ∧ (∀ j, W.frozen? ⟨g, j, none⟩ = false) ∧ ∀ j, j < n * 5 → (W.cell? ⟨g, j, none⟩).isSome = true := by
  obtain ⟨h1, h2, h3, h4, h5⟩ := OwnV.cells h.own
  rw [Array.length_toList] at h2
  refine ⟨h2, h1, fun j hj => ?_⟩
  obtain ⟨a0, a1, a2, a3, a4⟩ := h.el (j / 5) (by omega)
  have e : j = j / 5 * 5 + j % 5 := by omega
  have hr : j % 5 < 5 := Nat.mod_lt _ (by omega)
  generalize j / 5 = q at *
  generalize j % 5 = r at *
  subst e
  match r, hr with
  | 0, _ => rw [Nat.add_zero, a0]; rfl
  | 1, _ => rw [a1]; rfl
  | 2, _ => rw [a2]; rfl
  | 3, _ => rw [a3]; rfl
  | 4, _ => rw [a4]; rfl
theorem RowIs.clr {w : World} {base g n cap : Nat} {dk : Array VoteP} {W : World} (h : RowIs w base g n cap dk W) (k : Nat) (hk : k < n) : ∃ vs : List Value, (∀ ty, (Builtin.clear_ #[35] ty #[.slice (some ⟨g, k * 5, none⟩) (n - k) (cap - k)]).run Tryz.prog W = .ok (.tuple #[]) (W.setCells g (k * 5) vs)) ∧ OwnV (W.setCells g (k * 5) vs) base (.slice (some ⟨g, 0, none⟩) k cap) (dk.toList.take k) ∧ w.grownBy (W.setCells g (k * 5) vs) (some g) := by
  obtain ⟨h1, h2, h3⟩ := h.old
  obtain ⟨vs, hv⟩ := run_clear_k (P := Tryz.prog) W 35 27 (.agg #[.int .i64 0, .int .i64 0, .int .i64 0, .string ⟨#[]⟩, .string ⟨#[]⟩]) 5 (by kernel_rfl) Tryz.zeroValue27 rfl (by
    intro u hu
    simp only [Value.cells, Array.mem_def] at hu
    simp at hu
    rcases hu with rfl | rfl <;> rfl) g (k * 5) (n - k) (cap - k) (by omega) (by omega) (fun j hj => h3 _ (by have := Nat.sub_mul n k 5; omega)) (fun j _ => h2 _)
  obtain ⟨h4, h5⟩ := OwnV.cut h.own k (Nat.le_of_lt hk) vs
  have hg := h.grow
  exact ⟨vs, hv, h4, ⟨h5.os.trans hg.os, h5.tape.trans hg.tape, h5.output.trans hg.output, Nat.le_trans hg.size h5.size, fun i hi hne => (h5.block i (Nat.lt_of_lt_of_le hi hg.size) hne).trans (hg.block i hi hne)⟩⟩
theorem compInv_take {d dk : Array VoteP} {k : Nat} (h : CompInv d d.size k dk) : dk.toList.take k = compactUpTo d d.size := by
  refine List.ext_getElem? fun j => ?_
  have hk := h.lt
  have hs := h.size
  by_cases hj : j < k
  · rw [List.getElem?_take_of_lt hj, h.low j hj, Array.getElem?_toList, Array.getElem?_eq_getElem (by omega), getElem!_pos dk j (by omega)]
  · rw [List.getElem?_take_eq_none (by omega), List.getElem?_eq_none (by rw [h.len]; omega)]
theorem RowIs.put {w : World} {base g n cap : Nat} {dk : Array VoteP} {W : World} (h : RowIs w base g n cap dk W) (k : Nat) (hk : k < dk.size) (v : VoteP) :
    RowIs w base g n cap (dk.setIfInBounds k v) (((((W.setCell ⟨g, k * 5, none⟩ (.int .i64 v.car)).setCell ⟨g, k * 5 + 1, none⟩ (.int .i64 v.num)).setCell ⟨g, k * 5 + 2, none⟩ (.int .i64 v.stp)).setCell ⟨g, k * 5 + 3, none⟩ (.string v.val)).setCell ⟨g, k * 5 + 4, none⟩ (.string v.sl)) := by
  refine ⟨?_, ?_⟩
  · have := OwnV.set h.own k (by rw [Array.length_toList]; exact hk) v
    rwa [← Array.toList_setIfInBounds] at this
  · exact grown_setCell (grown_setCell (grown_setCell (grown_setCell (grown_setCell h.grow _ (.inl rfl) _) _ (.inl rfl) _) _ (.inl rfl) _) _ (.inl rfl) _) _ (.inl rfl) _
def CompIs (w : World) (base : Nat) (v : Value) (d : Array VoteP) (e : Ending) (w' : World) : Prop := ∃ v', e = .returned v' ∧ OwnV w' base v' (compactUpTo d d.size) ∧ w.grownBy w' v.ownBlock

set_option maxHeartbeats 8000000 in
set_option maxRecDepth 100000 in
theorem compact_any {w : World} {base : Nat} {v : Value} {d : Array VoteP} (h : OwnV w base v d.toList) (hl6 : d.size ≤ 1000000) :
    Calls Tryz.prog 113 #[v] w (CompIs w base v d) := by
  have HS : Hid ((∀ j, j < d.size → keeps d j = true) → compactUpTo d d.size = d.toList) := Lib.hid fun hall => by rw [compactUpTo_all d _ hall, range_map_get]
  obtain ⟨va, vc, hv⟩ := OwnV.form h
  rw [Array.length_toList] at hv
  subst hv
  by_cases h2 : d.size < 2
  · have HH := Lib.hid h
    clear h
    obtain ⟨n, hn⟩ : ∃ n, n = d.size := ⟨_, rfl⟩
    have HN := Lib.hid hn
    rw [← hn] at h2 hl6 HH ⊢
    clear hn
    go_enter Tryz.func113, Tryz.ntmps113
    go_wp2
    go_ret
    refine ⟨_, rfl, ?_, grown_refl _ _⟩
    rw [HS.out (fun j hj => keeps_lt_one d j (by rw [← HN.out] at hj; omega))]
    exact HH.out
  · obtain ⟨g, hg⟩ : ∃ g, va = some ⟨g, 0, none⟩ := by
      rcases h.2 with ⟨h3, _⟩ | ⟨g, cap, cur, h3, _⟩
      · injection h3 with _ h4 _
        omega
      · injection h3 with h4 _ _
        exact ⟨g, h4⟩
    subst hg
    have HRW : Hid (RowIs w base g d.size vc d w) := Lib.hid ⟨h, grown_refl _ _⟩
    obtain ⟨-, -, hc1, hc2, -⟩ := OwnV.cells h
    unfold maxLen at hc2
    have HGW := (h.lt g rfl).2
    clear h
    obtain ⟨n, hn⟩ : ∃ n, n = d.size := ⟨_, rfl⟩
    rw [← hn] at h2 hl6 HRW HS hc1
    have HN := Lib.hid hn
    show Calls Tryz.prog 113 #[.slice _ d.size _] w _
    rw [← hn]
    clear hn
    go_enter Tryz.func113, Tryz.ntmps113
    go_wp2
    go_loopw [3] (fun i wr => ∃ k : Nat, 1 ≤ k ∧ k ≤ n ∧ i = .int .i64 k ∧ Hid (∀ j, j < k → keeps d j = true) ∧ Hid (RowIs w base g n vc d wr)) (fun i _ => n - (intOf i).toNat)
    case atStart => exact ⟨1, Nat.le_refl _, by omega, rfl, Lib.hid (keeps_lt_one d), HRW⟩
    case round =>
      obtain ⟨k, hk1, hkn, rfl, hall, HR⟩ := hrel
      by_cases hlt : k < n
      · obtain ⟨p, rfl⟩ : ∃ p, k = p + 1 := ⟨k - 1, by omega⟩
        obtain ⟨a0, a1, a2, a3, a4⟩ := HR.out.el (p + 1) (by rw [← HN.out]; exact hlt)
        obtain ⟨b0, b1, b2, b3, b4⟩ := HR.out.el p (by rw [← HN.out]; omega)
        have HE := Lib.hid (fun W => eqlVote d[p + 1]! d[p]! W)
        have HX : Hid (d[p + 1]! = d[p]! → keeps d (p + 1) = false) := Lib.hid fun h => keeps_neg (by omega) h
        have HY : Hid (d[p + 1]! ≠ d[p]! → keeps d (p + 1) = true) := Lib.hid fun h => keeps_pos h
        generalize d[p + 1]! = x at *
        generalize d[p]! = y at *
        have hpk : ((p + 1 : Nat) : Int) < (n : Int) := by omega
        have hpk0 : (0 : Int) ≤ ((p + 1 : Nat) : Int) := by omega
        have hp1 : IntKind.i64.wrap (((p + 1 : Nat) : Int) - 1) = (p : Int) := by rw [IntWalk.i64_in _ (by omega)]; omega
        by_cases hdup : x = y
        · subst hdup
          have HK := Lib.hid (HX.out rfl)
          obtain ⟨xc, xn, xs, xv, xl⟩ := x
          have he := HE.out
          rw [decide_eq_true rfl] at he
          unfold vagg at he
          simp only at a0 a1 a2 a3 a4 b0 b1 b2 b3 b4 he
          have HST := Lib.hid (show CompInv d (p + 1 + 1) (p + 1) d from CompInv.start hall.out HK.out)
          clear HE HX HY HK hall
          go_wp2
          go_quiet (fail)
          clear he a0 a1 a2 a3 a4 b0 b1 b2 b3 b4
          have HR1 := Lib.hid (HR.out.drew nq)
          clear HR
          generalize wr.drewN nq = W1 at *
          go_wp2
          obtain ⟨L, hL⟩ : ∃ L, L = n - (p + 1) := ⟨_, rfl⟩
          obtain ⟨C, hC⟩ : ∃ C, C = vc - (p + 1) := ⟨_, rfl⟩
          rw [← hL, ← hC]
          have HC := Lib.hid hC
          have HL := Lib.hid hL
          clear hC hL
          go_loopw [3, 5] (fun s i wr => ∃ (kk m : Nat) (dk : Array VoteP), s = .int .i64 kk ∧ i = .int .i64 (m + 1) ∧ p + 1 + (m + 1) ≤ n ∧ kk < p + 1 + (m + 1) ∧ Hid (CompInv d (p + 1 + (m + 1)) kk dk) ∧ Hid (RowIs w base g n vc dk wr)) (fun _ i _ => n - (intOf i).toNat)
          case atStart => exact ⟨p + 1, 0, d, rfl, rfl, by omega, by omega, HST, HR1⟩
          case round =>
            obtain ⟨kk, m, dk, rfl, rfl, hle, hkk, hI, HR2⟩ := hrel
            have hds : dk.size = n := by rw [hI.out.size, HN.out]
            by_cases hlt2 : p + 1 + (m + 1) < n
            · obtain ⟨c0, c1, c2, c3, c4⟩ := HR2.out.el (p + 1 + (m + 1)) (by rw [hds]; exact hlt2)
              obtain ⟨b0, b1, b2, b3, b4⟩ := HR2.out.el (p + 1 + m) (by rw [hds]; omega)
              obtain ⟨k0, k1, k2, k3, k4⟩ := HR2.out.el kk (by rw [hds]; omega)
              rw [hI.out.high (p + 1 + (m + 1)) (by omega)] at c0 c1 c2 c3 c4
              rw [hI.out.high (p + 1 + m) (by omega)] at b0 b1 b2 b3 b4
              obtain ⟨hfz, -⟩ := OwnV.cells HR2.out.own
              have HE := Lib.hid (fun W => neqVote d[p + 1 + (m + 1)]! d[p + 1 + m]! W)
              have HX : Hid (d[p + 1 + (m + 1)]! = d[p + 1 + m]! → CompInv d (p + 1 + (m + 1) + 1) kk dk) := Lib.hid fun h => hI.out.skip (keeps_neg (by omega) h)
              have HY : Hid (d[p + 1 + (m + 1)]! ≠ d[p + 1 + m]! → CompInv d (p + 1 + (m + 1) + 1) (kk + 1) (dk.setIfInBounds kk d[p + 1 + (m + 1)]!)) := Lib.hid fun h => hI.out.keep (by rw [← HN.out]; exact hlt2) (keeps_pos h)
              have e1 : (p + 1 + (m + 1)) * 5 = (p + 1) * 5 + (m + 1) * 5 := Nat.add_mul _ _ _
              have e2 : (p + 1 + m) * 5 = (p + 1) * 5 + m * 5 := Nat.add_mul _ _ _
              rw [e1] at c0 c1 c2 c3 c4
              rw [e2] at b0 b1 b2 b3 b4
              clear e1 e2
              generalize d[p + 1 + (m + 1)]! = x at *
              generalize d[p + 1 + m]! = y at *
              generalize dk[kk]! = z at *
              have hm0 : (0 : Int) ≤ ((m : Int) + 1) := by omega
              have hml : ((m : Int) + 1) < (L : Int) := by have := HL.out; omega
              have hml' : (m : Int) < (L : Int) := by have := HL.out; omega
              have hm1 : IntKind.i64.wrap ((m : Int) + 1 - 1) = (m : Int) := by rw [IntWalk.i64_in _ (by omega)]; omega
              have hkn2 : (kk : Int) < (n : Int) := by omega
              have hkn3 : (0 : Int) ≤ (kk : Int) := by omega
              have hkn4 : kk < n := by omega
              by_cases hdup : x = y
              · have HK := Lib.hid (HX.out hdup)
                subst hdup
                obtain ⟨xc, xn, xs, xv, xl⟩ := x
                have he := HE.out
                rw [decide_eq_true rfl] at he
                unfold vagg at he
                simp only at c0 c1 c2 c3 c4 b0 b1 b2 b3 b4 he
                clear HE HX HY k0 k1 k2 k3 k4 hfz hI
                go_wp2
                go_quiet (fail)
                go_wp2
                go_roundw
                case rel => exact ⟨kk, m + 1, dk, rfl, by go_num, by omega, by omega, HK, Lib.hid (HR2.out.drew _)⟩
                case measure => simp [intOf]; omega
              · have HK := Lib.hid (HY.out hdup)
                have hd : decide (x = y) = false := decide_eq_false hdup
                obtain ⟨xc, xn, xs, xv, xl⟩ := x
                obtain ⟨yc, yn, ys, yv, yl⟩ := y
                obtain ⟨zc, zn, zs, zv, zl⟩ := z
                have he := HE.out
                rw [hd] at he
                unfold vagg at he
                simp only at c0 c1 c2 c3 c4 b0 b1 b2 b3 b4 k0 k1 k2 k3 k4 he
                clear HE HX HY hI hd hdup
                go_wp2
                go_quiet (fail)
                go_wp2
                go_roundw
                case rel => exact ⟨kk + 1, m + 1, _, by go_num, by go_num, by omega, by omega, HK, Lib.hid ((HR2.out.drew _).put kk (by rw [hds]; omega) _)⟩
                case measure => simp [intOf]; omega
            · have hend : p + 1 + (m + 1) = n := by omega
              obtain rfl : L = m + 1 := by have := HL.out; omega
              have hkk2 : kk < n := by omega
              obtain ⟨vs, hcl, hown, hgr⟩ := HR2.out.clr kk hkk2
              have HO := Lib.hid hown
              have HG := Lib.hid hgr
              have HT := Lib.hid (show dk.toList.take kk = compactUpTo d n by
                have h := hI.out
                rw [hend] at h
                rw [HN.out] at h ⊢
                exact compInv_take h)
              have h0 : (0 : Int) ≤ (kk : Int) := by omega
              have h1 : (kk : Int) ≤ (n : Int) := by omega
              have h3 : (kk : Int) ≤ (vc : Int) := by omega
              clear hown hgr hend HC HL hI HR2 hds
              generalize wr.setCells g (kk * 5) vs = W9 at *
              go_wp2
              go_ret
              refine ⟨_, rfl, ?_, HG.out⟩
              have h := HO.out
              rw [HT.out] at h
              rw [← HN.out]
              exact h
        · have HK := Lib.hid (HY.out hdup)
          have hd : decide (x = y) = false := decide_eq_false hdup
          obtain ⟨xc, xn, xs, xv, xl⟩ := x
          obtain ⟨yc, yn, ys, yv, yl⟩ := y
          have he := HE.out
          rw [hd] at he
          unfold vagg at he
          simp only at a0 a1 a2 a3 a4 b0 b1 b2 b3 b4 he
          clear HE HX HY hd hdup
          go_wp2
          go_quiet (fail)
          clear he a0 a1 a2 a3 a4 b0 b1 b2 b3 b4
          go_wp2
          go_roundw
          case rel =>
            refine ⟨p + 1 + 1, by omega, by omega, by go_num, Lib.hid fun j hj => ?_, Lib.hid (HR.out.drew _)⟩
            by_cases e : j = p + 1
            · subst e; exact HK.out
            · exact hall.out j (by omega)
          case measure => simp [intOf]; omega
      · obtain rfl : k = n := by omega
        go_wp2
        go_ret
        refine ⟨_, rfl, ?_, ?_⟩
        · rw [← HN.out, HS.out (fun j hj => hall.out j hj)]
          exact HR.out.own
        · exact HR.out.grow
end Go.Proofs.YtggdcnjaofflbaaGreatDoor

/- Walk of package quorum: sorted. The conditions: what the slices read as, lengths of keys, the table of constants. -/
namespace Go.Proofs.YtggdcnjaofflbaaGreatDoor
open Go.RowKit Go.BigFrame Go.Shelf Go.Sort Go.Lib

theorem OwnV.lower {w : World} {base base' : Nat} {v : Value} {l : List VoteP} (h : OwnV w base v l) (hb : base' ≤ base) : OwnV w base' v l := by
  obtain ⟨h1, h2⟩ := h
  refine ⟨h1, ?_⟩
  rcases h2 with h2 | ⟨g, cap, cur, a, b, c⟩
  · exact .inl h2
  · exact .inr ⟨g, cap, cur, a, Nat.le_trans hb b, c⟩
set_option maxHeartbeats 1000000 in
theorem sorted_any {w : World} {kv x : Value} {ks : List ByteArray} {l : List VoteP} (hr : SS w kv ks) (hks : ∀ k ∈ ks, k.size ≤ 1000) (hl : VS w x l) (hl6 : l.length ≤ 1000000) (he : Env w) (hg : 3 < w.heap.size) :
    Calls Tryz.prog 81 #[.agg #[kv], x] w fun e w' => ∃ v, e = .returned v ∧ OwnV w' w.heap.size v (sortedV ks l) ∧ Below w.heap.size w w' := by
  obtain ⟨ka, kn, kc, rfl⟩ : ∃ a n c, kv = .slice a n c := by obtain ⟨a, c, h, _⟩ := hr.opened; exact ⟨_, _, _, h⟩
  obtain ⟨a, cap, rfl, -, -, -⟩ := hl.opened
  obtain ⟨n, hn⟩ : ∃ n, n = l.length := ⟨_, rfl⟩
  rw [← hn] at hl ⊢
  clear hn
  obtain ⟨W1, hW1⟩ : ∃ W1, W1 = w.alloc (.cells #[.slice ka kn kc] 31) := ⟨_, rfl⟩
  have HB1 : Hid (Below w.heap.size w W1) := Lib.hid (by rw [hW1]; exact (Below.refl _ _).alloc (Nat.le_refl _) _)
  obtain ⟨W2, hW2⟩ : ∃ W2, W2 = (W1.alloc (.cells #[.slice ka kn kc] 31)).alloc (.cells #[.slice a n cap] 35) := ⟨_, rfl⟩
  have HB2 : Hid (Below w.heap.size w W2) := Lib.hid (by rw [hW2]; exact (HB1.out.alloc HB1.out.size _).alloc (by have := HB1.out.size; simp; omega) _)
  have HF := Lib.hid (genuine_fn ka kn kc a n cap W1)
  have HG := Lib.hid (sortedFunc_any hr hks hl hl6 he hg HB2.out (W1.heap.size + 1) W1.heap.size (by rw [hW2]; exact heap_alloc2_new _ _ _) (by rw [hW2]; exact heap_alloc2_old _ _ _))
  have HR : Hid (∀ d' : Array VoteP, PermIn 0 (l.filter (genV ks)).length (l.filter (genV ks)).toArray d' → SortedIn (fun a b => decide (cmpV a b < 0)) 0 (l.filter (genV ks)).length d' → compactUpTo d' d'.size = sortedV ks l ∧ d'.size ≤ 1000000) := Lib.hid fun d' h1 h2 => ⟨compact_sorted ks l (l.filter (genV ks)).toArray d' rfl (by rw [List.size_toArray]; exact h1) (by rw [List.size_toArray]; exact h2), by
    rw [h1.1, List.size_toArray]
    exact Nat.le_trans (List.length_filter_le _ _) hl6⟩
  have hc : W1.cell? ⟨w.heap.size, 0, none⟩ = some (.slice ka kn kc) := cell_of_row W1 _ 0 _ _ _ (by rw [hW1]; exact heap_alloc_new w _)
  have HW1 := Lib.hid hW1
  have HW2 := Lib.hid hW2
  generalize sortedV ks l = R at *
  generalize l.filter (genV ks) = F at *
  clear hW1 hW2 hr hks hl he hg
  go_enter Tryz.func81, Tryz.ntmps81
  go_upto_region 1 with fail
  rw [← HW1.out]
  go_wp2_with (first | (go_at_call 108; refine HF.out.mono ?_; rintro e w2 ⟨rfl, hw2⟩; rw [← HW2.out] at hw2; replace hw2 := hw2.symm; subst hw2) | (go_at_call 114; refine HG.out.mono ?_; rintro e w3 ⟨v, rfl, d', hp, hs, h5, h6⟩; have HD := Lib.hid (HR.out d' hp hs); have H5 := Lib.hid h5; have H6 := Lib.hid h6; clear hp hs h5 h6) | (go_at_call 113; refine (compact_any H5.out HD.out.2).mono ?_; rintro e w4 ⟨v', rfl, h7, h8⟩; have H7 := Lib.hid h7; have H8 := Lib.hid h8; clear h7 h8))
  go_ret
  refine ⟨_, rfl, ?_, ?_⟩
  · have h := H7.out
    rw [HD.out.1] at h
    exact OwnV.lower h HB2.out.size
  · exact (HB2.out.trans (H6.out.mono HB2.out.size)).grown H8.out (by have := HB2.out.size; have := H6.out.size; omega) (fun j e => Nat.le_trans HB2.out.size (OwnE.ge H5.out j e))
end Go.Proofs.YtggdcnjaofflbaaGreatDoor

/- What a walk keeps that stores into blocks of its own: nothing below a base is changed. No condition. -/
namespace Go.Proofs.YtggdcnjaofflbaaGreatDoor
open Go.RowKit Go.BigFrame

def LowKept (w0 : World) (B : Nat) (W : World) : Prop := B ≤ w0.heap.size ∧ Below B w0 W
theorem LowKept.more {w0 : World} {B : Nat} (w w' : World) (h : LowKept w0 B w) (h' : Below w.heap.size w w') : LowKept w0 B w' :=
  ⟨h.1, h.2.trans (h'.mono (Nat.le_trans h.1 h.2.size))⟩
theorem LowKept.set {w0 W : World} {B : Nat} (h : LowKept w0 B W) {b : Nat} (hb : B ≤ b) (j : Nat) (v : Value) : LowKept w0 B (W.setCell ⟨b, j, none⟩ v) := ⟨h.1, h.2.setCell (p := ⟨b, j, none⟩) hb v⟩
end Go.Proofs.YtggdcnjaofflbaaGreatDoor

/- Walk of package quorum: Prove. The conditions: what the slices read as, the tables of constants. -/
namespace Go.Proofs.YtggdcnjaofflbaaGreatDoor
open Go.RowKit Go.BigFrame

def PrAt (w : World) (kv : Value) (num stp : Int) (v : Value) (l : List VoteP) (W : World) : Prop :=
  Below w.heap.size w W ∧ W.heap[w.heap.size]? = some (.cells #[kv] 31 (0, 0)) ∧ W.heap[w.heap.size + 1]? = some (.cells #[.int .i64 num, .int .i64 stp] 25 (0, 0)) ∧ OwnV W w.heap.size v l
theorem PrAt.far {w W W' : World} {kv : Value} {num stp : Int} {v : Value} {l : List VoteP} (h : PrAt w kv num stp v l W) (hb : Below W.heap.size W W') : PrAt w kv num stp v l W' :=
  ⟨q_next h.1 hb, (hb.block _ (Array.getElem?_eq_some_iff.1 h.2.1).1).trans h.2.1, (hb.block _ (Array.getElem?_eq_some_iff.1 h.2.2.1).1).trans h.2.2.1, OwnE.far h.2.2.2 hb (Nat.le_refl _)⟩
theorem PrAt.cells {w W : World} {kv : Value} {num stp : Int} {v : Value} {l : List VoteP} (h : PrAt w kv num stp v l W) : W.cell? ⟨w.heap.size, 0, none⟩ = some kv ∧ W.cell? ⟨w.heap.size + 1, 0, none⟩ = some (.int .i64 num) ∧ W.cell? ⟨w.heap.size + 1, 1, none⟩ = some (.int .i64 stp) :=
  ⟨cell_of_row W _ 0 _ _ _ h.2.1, cell_of_row W _ 0 _ _ _ h.2.2.1, cell_of_row W _ 1 _ _ _ h.2.2.1⟩
theorem PrAt.append {w W W' : World} {kv : Value} {num stp : Int} {v v' : Value} {l l' : List VoteP} (h : PrAt w kv num stp v l W) {o : Obj} (hg : (W.alloc o).grownBy W' v.ownBlock) (ho : OwnV W' w.heap.size v' l') : PrAt w kv num stp v' l' W' := by
  have hlt1 := (Array.getElem?_eq_some_iff.1 h.2.1).1
  have hlt2 := (Array.getElem?_eq_some_iff.1 h.2.2.1).1
  refine ⟨(h.1.alloc h.1.size o).grown hg (by simp; omega) (fun j e => OwnE.ge h.2.2.2 j e), ?_, ?_, ho⟩
  · exact (hg.block _ (by simp; omega) (own_ne h.2.2.2 h.2.1 (fun c e => by cases e))).trans ((Below.heap_alloc W o _ hlt1).trans h.2.1)
  · exact (hg.block _ (by simp; omega) (own_ne h.2.2.2 h.2.2.1 (fun c e => by cases e))).trans ((Below.heap_alloc W o _ hlt2).trans h.2.2.1)
theorem PrAt.set {w W : World} {kv : Value} {num stp : Int} {v : Value} {l : List VoteP} (h : PrAt w kv num stp v l W) {vb : Nat} (hvb : w.heap.size + 2 ≤ vb) (hne : v.ownBlock ≠ some vb) (x : Value) : PrAt w kv num stp v l (W.setCell ⟨vb, 4, none⟩ x) := by
  have hg : W.grownBy (W.setCell ⟨vb, 4, none⟩ x) (some vb) := grown_setCell (grown_refl _ _) _ (.inl rfl) _
  exact ⟨h.1.grown hg h.1.size (fun j e => by cases e; omega), (hg.block _ (Array.getElem?_eq_some_iff.1 h.2.1).1 (fun e => by have := Option.some.inj e; omega)).trans h.2.1, (hg.block _ (Array.getElem?_eq_some_iff.1 h.2.2.1).1 (fun e => by have := Option.some.inj e; omega)).trans h.2.2.1, World.ownsRow.kept h.2.2.2 hg (.inr (fun e => hne e))⟩
def PrKept (w : World) (kv : Value) (num stp : Int) (v : Value) (l : List VoteP) (vb i : Nat) (val : ByteArray) (n7 : Nat) (W : World) : Prop :=
  n7 ≤ W.heap.size ∧ PrAt w kv num stp v l W ∧ ∃ u, W.heap[vb]? = some (.cells #[.int .i64 (i : Nat), .int .i64 num, .int .i64 stp, .string val, u] 27 (0, 0))
theorem PrKept.more {w : World} {kv : Value} {num stp : Int} {v : Value} {l : List VoteP} {vb i : Nat} {val : ByteArray} {n7 : Nat} (W W' : World) (h : PrKept w kv num stp v l vb i val n7 W) (hb : Below W.heap.size W W') : PrKept w kv num stp v l vb i val n7 W' :=
  ⟨Nat.le_trans h.1 hb.size, h.2.1.far hb, let ⟨u, hu⟩ := h.2.2; ⟨u, (hb.block _ (Array.getElem?_eq_some_iff.1 hu).1).trans hu⟩⟩
theorem take_snocQ {α : Type} {l : List α} {k : Nat} {x : α} (h : l[k]? = some x) : l.take (k + 1) = l.take k ++ [x] := by
  rw [List.take_add_one, h]; rfl

set_option maxHeartbeats 8000000 in
set_option maxRecDepth 100000 in
theorem prove_any {w : World} {kv x : Value} {ks : List ByteArray} {l : List VoteP} (hr : SS w kv ks) (hl : VS w x l) (num stp : Int) (val : ByteArray) (hval : val.size ≤ maxLen) (he : Env w) (hg : 3 < w.heap.size) (ht : Tab w) (hgt : 1 < w.heap.size) :
    Calls Tryz.prog 34 #[.agg #[kv], .agg #[.int .i64 num, .int .i64 stp], .string val, x] w (ProveIs w (proveV ks num stp val l)) := by
  obtain ⟨ka, kcap, rfl, kl1, kl2, kl3⟩ := hr.opened
  obtain ⟨a, n, cap, rfl⟩ := hl.form
  obtain ⟨W2, hW2⟩ : ∃ W2, W2 = (w.alloc (.cells #[.slice ka ks.length kcap] 31)).alloc (.cells #[.int .i64 num, .int .i64 stp] 25) := ⟨_, rfl⟩
  have HP2 : Hid (PrAt w (.slice ka ks.length kcap) num stp (.slice none 0 0) [] W2) := Lib.hid ⟨by rw [hW2]; exact ((Below.refl _ _).alloc (Nat.le_refl _) _).alloc (by simp) _, by rw [hW2]; exact at_past w _ _, by rw [hW2]; exact at_second w _ _, OwnE.nil _ _ _ _⟩
  have HR := Lib.hid hr
  have HL := Lib.hid hl
  have HE := Lib.hid he
  have HG := Lib.hid hg
  have HT := Lib.hid ht
  have HGT := Lib.hid hgt
  have HVL := Lib.hid hval
  have HK3 := Lib.hid kl3
  have HIP := Lib.hid (isPool_any (HR.out.below HP2.out.1) (HL.out.below HP2.out.1))
  have HW2 := Lib.hid hW2
  clear hr hl he hg ht hgt hval hW2 kl3
  obtain ⟨kn, hkn⟩ : ∃ kn, kn = ks.length := ⟨_, rfl⟩
  rw [← hkn] at HP2 HR HIP HW2 kl1 ⊢
  have HKN := Lib.hid hkn
  clear hkn
  obtain ⟨c0, c1, c2⟩ := HP2.out.cells
  cases hip : isPool ks l with
  | false =>
    have HRes := Lib.hid (proveV_no1 (num := num) (stp := stp) (val := val) hip)
    rw [hip] at HIP
    rw [HRes.out]
    clear hip HRes
    go_enter Tryz.func34, Tryz.ntmps34
    go_upto_region 1 with fail
    rw [← HW2.out]
    go_wp2_with (go_at_call 76; refine HIP.out.mono ?_; rintro e w1 ⟨rfl, hb1⟩)
    go_ret2
    exact proveIs_none rfl (q_next HP2.out.1 hb1)
  | true =>
    rw [hip] at HIP
    have hvc : validC ks = true := by unfold isPool at hip; rw [Bool.and_eq_true] at hip; exact hip.1
    have HKS := Lib.hid (valid_sizes hvc)
    have hk7 := valid_le hvc
    have henl := enough_len hvc
    go_enter Tryz.func34, Tryz.ntmps34
    go_upto_region 1 with fail
    rw [← HW2.out]
    go_upto_region 3 with (go_at_call 76; refine HIP.out.mono ?_; rintro e w1 ⟨rfl, hb1⟩)
    have HP3 := Lib.hid (HP2.out.far hb1)
    clear hb1 c0 c1 c2 HIP
    obtain ⟨c0, c1, c2⟩ := HP3.out.cells
    go_wp2_with fail
    refine (votes_any (HR.out.below HP3.out.1) HKS.out (HL.out.below HP3.out.1) num stp (HE.out.below HP3.out.1 HG.out) (Nat.lt_of_lt_of_le HG.out HP3.out.1.size)).mono ?_
    rintro e w3 ⟨B, mm, D, rfl, hM, hRd, _, hb3⟩
    have HP4 := Lib.hid (HP3.out.far hb3)
    have hlk := MapU.look hM hRd val HVL.out
    have hM256 := mask_lt ks num stp val l 0 (by decide)
    have hA := mask_who (show ks.length ≤ 8 by omega) num stp val l
    obtain ⟨M, hMe⟩ : ∃ M, M = maskV ks num stp val l 0 := ⟨_, rfl⟩
    simp only [← hMe] at hlk hM256 hA
    obtain ⟨A, hAe⟩ : ∃ A, A = bitsL M := ⟨_, rfl⟩
    have HA : Hid (bitsL M = A.drop 0) := Lib.hid (by rw [hAe]; rfl)
    have HAW : Hid (A = whoL ks num stp val l) := Lib.hid (by rw [hAe, hA])
    obtain ⟨cnt, hcnt⟩ : ∃ cnt, cnt = A.length := ⟨_, rfl⟩
    obtain ⟨en, hen⟩ : ∃ en, en = 2 * ((kn - 1) / 3) + 1 := ⟨_, rfl⟩
    have HEN : Hid (en = enoughC ks) := Lib.hid (by rw [hen]; unfold enoughC; rw [HKN.out])
    have hen7 : en ≤ 7 := by rw [HEN.out]; omega
    have HON : Hid (∀ W, _) := Lib.hid (fun W => onesU_any M W hM256)
    rw [← hAe, ← hcnt] at HON
    have hk1000 : kn ≤ 1000 := by rw [HKN.out]; omega
    have HENC : Hid (∀ W, Calls Tryz.prog 79 #[.agg #[.slice ka kn kcap]] W fun e w' => e = .returned (.int .i64 ((en : Nat) : Int)) ∧ Below W.heap.size W w') := Lib.hid (fun W => by
      refine (enough_any ka kn kcap W hk1000).mono ?_
      rintro e w' ⟨rfl, rfl⟩
      rw [hen]
      exact ⟨rfl, (Below.refl _ _).alloc (Nat.le_refl _) _⟩)
    have HNO : Hid (cnt < en → proveV ks num stp val l = none) := Lib.hid (fun h => proveV_no2 (by rw [← HAW.out, ← hcnt, ← HEN.out]; exact h))
    have HYES : Hid (en ≤ cnt → proveV ks num stp val l = some ((A.take en).map (mkV ks num stp val))) := Lib.hid (fun h => by
      rw [proveV_yes hip (by rw [← HAW.out, ← hcnt, ← HEN.out]; exact h), HAW.out, HEN.out])
    have HCNT := Lib.hid hcnt
    clear hM hRd hb3 hA hMe hAe hcnt hen hk1000 henl HVL c0 c1 c2 HP3 hip
    go_upto_region 4 with fail
    have HC4 : Hid (∀ W, Below w3.heap.size w3 W → W.cell? ⟨w.heap.size, 0, none⟩ = some (.slice ka kn kcap)) := Lib.hid (fun W hW => (HP4.out.far hW).cells.1)
    go_cut [10, 27] (fun r t wx => r = .int .u64 M ∧ t = .bool (decide (cnt < en)) ∧ Hid (PrAt w (.slice ka kn kcap) num stp (.slice none 0 0) [] wx))
    case first =>
      refine wp_region_noPanic ?_
      refine wp_region_lexB [.q 0, .q 2, .b 1, .b 3, .q 4] (by kernel_rfl) (by kernel_rfl) (fun _ _ _ _ h => h) ?_
      iterate 2 (refine wpFl_qL (v := ?_) rfl (Or.inl ⟨by rfl, ?_⟩) ?_; rotate_left; (focus (intro w' hSw; (try dsimp only [OldKept] at hSw); have d0 := HC4.out w' hSw; go_simp; (try with_reducible rfl); done)); simp only [Act.put, List.setIfInBounds_toArray, List.set_cons_zero, List.set_cons_succ])
      refine wpFl_bL rfl (fun wa hna hsa K hK => ?_)
      go_simp
      go_at_call 78
      refine (HON.out wa).mono ?_
      rintro e wb ⟨rfl, rfl⟩
      refine hK.out _ _ hsa (Keeps.below (Below.refl _ _)) ?_
      clear hK K hna
      refine wpFl_bL rfl (fun wc hnc hsc K hK => ?_)
      go_simp
      go_at_call 79
      refine (HENC.out wc).mono ?_
      rintro e wd ⟨rfl, hbd⟩
      have HPd := Lib.hid (HP4.out.far (q_next hsc hbd))
      refine hK.out _ _ (q_next hsc hbd) (Keeps.below hbd) ?_
      clear hK K hnc hsc hbd hsa
      refine wpFl_qL (v := ?_) rfl (Or.inl ⟨by rfl, ?_⟩) ?_
      rotate_left
      focus (intro w' hSw; (try dsimp only [OldKept] at hSw); go_simp; (try with_reducible rfl); done)
      simp only [Act.put, List.setIfInBounds_toArray, List.set_cons_zero, List.set_cons_succ]
      refine wpFl_nil ?_
      refine NoPanic.normal ?_
      go_wp2
      go_meet
      case rel => exact ⟨rfl, rfl, HPd⟩
    case rest =>
      obtain ⟨ht10, ht27, HP5⟩ := hcut
      subst ht10
      clear HON HC4
      obtain ⟨w5, hw5⟩ : ∃ W, W = wc := ⟨_, rfl⟩
      rw [← hw5] at HP5 ⊢
      clear hw5 wc HP4
      by_cases hce : cnt < en
      · have hd : decide (cnt < en) = true := decide_eq_true (by omega)
        rw [hd] at ht27
        subst ht27
        have HRes := Lib.hid (HNO.out hce)
        clear HNO HYES
        go_wp2
        go_ret2
        rw [HRes.out]
        exact proveIs_none rfl HP5.out.1
      · have hd : decide (cnt < en) = false := decide_eq_false (by omega)
        have HRes := Lib.hid (HYES.out (by omega))
        rw [hd] at ht27
        subst ht27
        clear HNO HYES hd
        go_wp2
        go_loopw [10, 11] (fun who out wr => ∃ (j r : Nat) (va : Option Addr) (vc : Nat), j ≤ en ∧ who = .int .u64 r ∧ out = .slice va j vc ∧ r < 256 ∧ Hid (bitsL r = A.drop j) ∧ Hid (PrAt w (.slice ka kn kcap) num stp (.slice va j vc) ((A.take j).map (mkV ks num stp val)) wr)) (fun _ out _ => en - lenOf out)
        case atStart => exact ⟨0, M, none, 0, by omega, rfl, rfl, hM256, HA, HP5⟩
        case round =>
          obtain ⟨j, r, va, vc, hj, rfl, rfl, hr256, hbr, hP⟩ := hrel
          obtain ⟨c0, c1, c2⟩ := hP.out.cells
          by_cases hje : j < en
          · have hde : decide (j < en) = true := decide_eq_true hje
            obtain ⟨i, rst, b1, b2, b3, b4, b5⟩ := bits_take 0 r hr256 (by rw [hbr.out, List.length_drop, ← HCNT.out]; omega)
            have hr0 : r ≠ 0 := fun e => by rw [e, bits_zero] at b1; cases b1
            have hiA : A[j]? = some i := by
              have e := congrArg (·[0]?) (hbr.out.symm.trans b1)
              simpa using e
            have hiW : i ∈ whoL ks num stp val l := by rw [← HAW.out]; exact List.mem_of_getElem? hiA
            have hgm := who_gen hiW
            have hgf := gen_facts hgm
            have hikn : i < kn := by rw [HKN.out]; exact who_lt hiW
            obtain ⟨key, hkey⟩ : ∃ key, ks[i]? = some key := ⟨_, List.getElem?_eq_getElem (by rw [← HKN.out]; exact hikn)⟩
            obtain ⟨kb, koff, hka, hkb, hkc⟩ := HK3.out i key hkey
            have hk1000 := HKS.out key (List.mem_of_getElem? hkey)
            have hget : ks.getD i ⟨#[]⟩ = key := by
              rw [List.getD_eq_getElem?_getD, hkey]
              rfl
            have HTK := Lib.hid (take_snocQ hiA)
            have HMK : Hid (mkV ks num stp val i = ⟨(i : Int), num, stp, val, sealV key ⟨(i : Int), num, stp, val, ⟨#[]⟩⟩⟩) := Lib.hid (by
              unfold mkV
              rw [hget])
            have HSL : Hid (∀ W, Below w.heap.size w W → Calls Tryz.prog 68 #[.string key, .agg #[.int .i64 (i : Nat), .int .i64 num, .int .i64 stp, .string val, .string ⟨#[]⟩]] W fun e w' => e = .returned (.string (sealV key ⟨(i : Int), num, stp, val, ⟨#[]⟩⟩)) ∧ Below W.heap.size W w') := Lib.hid (fun W hW =>
              qseal_any key ⟨(i : Int), num, stp, val, ⟨#[]⟩⟩ ⟨hgf.1, hgf.2.2.1, hgf.2.2.2.1, hgf.2.2.2.2⟩ hk1000 W (HE.out.below hW HG.out) (Nat.lt_of_lt_of_le HG.out hW.size))
            generalize sealV key ⟨(i : Int), num, stp, val, ⟨#[]⟩⟩ = S at *
            have HTZ : Hid (∀ W, Below w.heap.size w W → Calls Tryz.prog 80 #[.int .u64 r] W fun e w' => e = .returned (.int .i64 i) ∧ W = w') := Lib.hid (fun W hW => tzU_any r i W (by omega) hr0 b4 (by omega) (HT.out.below hW HGT.out))
            have HKC : Hid (∀ W, Below w.heap.size w W → W.cell? ⟨kb, koff + i, none⟩ = some (.string key)) := Lib.hid (fun W hW => cell_keepB hW hkb hkc)
            have HB2 : Hid (bitsL (r &&& (r - 1)) = A.drop (j + 1) ∧ r &&& (r - 1) < 256) := Lib.hid ⟨by
              have e := congrArg List.tail (hbr.out.symm.trans b1)
              rw [List.tail_drop] at e
              rw [b2, e]
              rfl, b3⟩
            have hin : (i : Int) < (kn : Int) := by omega
            have hi0 : (0 : Int) ≤ (i : Int) := by omega
            have hsub : IntKind.u64.wrap ((r : Int) - 1) = ((r - 1 : Nat) : Int) := by rw [IntKind.wrap_u64]; omega
            have hand : bits BinOp.and IntKind.u64 (r : Int) ((r - 1 : Nat) : Int) = ((r &&& (r - 1) : Nat) : Int) := u64_and_nat r (r - 1) (by omega) (by omega)
            have HAN := Lib.hid (And.intro hsub hand)
            have hi8 : i < 8 := b5
            clear b1 b2 b3 b4 b5 hgm hgf hiW hiA hget hkey hkb hkc hr0 hbr hsub hand hk1000
            subst hka
            go_upto_region 9 with (go_at_call 79; refine (HENC.out _).mono ?_; rintro e w6 ⟨rfl, hb6⟩)
            have HP6 := Lib.hid (hP.out.far hb6)
            clear hP hb6 c0 c1 c2
            have HC6 : Hid (∀ W, Below w6.heap.size w6 W → W.cell? ⟨w.heap.size, 0, none⟩ = some (.slice (some ⟨kb, koff, none⟩) kn kcap) ∧ W.cell? ⟨w.heap.size + 1, 0, none⟩ = some (.int .i64 num) ∧ W.cell? ⟨w.heap.size + 1, 1, none⟩ = some (.int .i64 stp)) := Lib.hid (fun W hW => (HP6.out.far hW).cells)
            refine wp_region_noPanic ?_
            refine wp_region_lexB [.q 0, .q 2, .q 3, .an 5, .b 1, .q 4, .co 5, .b 6] (by kernel_rfl) (by kernel_rfl) (fun _ _ _ _ h => h) ?_
            iterate 3 (refine wpFl_qL (v := ?_) rfl (Or.inl ⟨by rfl, ?_⟩) ?_; rotate_left; (focus (intro w' hSw; (try dsimp only [OldKept] at hSw); obtain ⟨d0, d1, d2⟩ := HC6.out w' hSw; go_simp; (try with_reducible rfl); done)); simp only [Act.put, List.setIfInBounds_toArray, List.set_cons_zero, List.set_cons_succ])
            refine wpFl_anL rfl (.cells #[.int .i64 0, .int .i64 0, .int .i64 0, .string ⟨#[]⟩, .string ⟨#[]⟩] 27 (0, 0)) (fun n => .pointer (some ⟨n, 0, none⟩)) ⟨by rfl, fun w' => ?_⟩ ?_
            focus (go_simp; done)
            refine wpFl_bL rfl (fun wa hna hsa K hK => ?_)
            go_simp
            go_at_call 80
            refine (HTZ.out wa (q_next HP6.out.1 hsa)).mono ?_
            rintro e wb ⟨rfl, rfl⟩
            refine hK.out _ _ hsa (Keeps.below (Below.refl _ _)) ?_
            clear hK K hna hsa
            refine wpFl_qL (v := ?_) rfl (Or.inl ⟨by rfl, ?_⟩) ?_
            rotate_left
            focus (intro w' hSw; (try dsimp only [OldKept] at hSw); go_simp; (try with_reducible rfl); done)
            simp only [Act.put, List.setIfInBounds_toArray, List.set_cons_zero, List.set_cons_succ]
            refine wpFl_coL rfl (.cells #[.int .i64 0, .int .i64 0, .int .i64 0, .string ⟨#[]⟩, .string ⟨#[]⟩] 27 (0, 0)) (fun n => .pointer (some ⟨n, 0, none⟩)) (by rfl) (N' := []) (by rfl) (fun vb wc hn_wc hs_wc hb_vb hz_vb => ?_)
            simp only [Act.put, List.setIfInBounds_toArray, List.set_cons_zero, List.set_cons_succ]
            refine wpFl_bL rfl (fun wd hnd hsd K hK => ?_)
            have HZ := Lib.hid ((hnd.block vb (Array.getElem?_eq_some_iff.1 hz_vb).1).trans hz_vb)
            obtain ⟨z0, z1, z2, z3, z4⟩ := vcellsAt HZ.out
            have zf : ∀ j, wd.frozen? ⟨vb, j, none⟩ = false := fun j => by unfold World.frozen?; rw [HZ.out]; simp
            go_simp
            refine hK.out _ _ (vfive_below hsd hb_vb _ _ _ _ _) Keeps.nil ?_
            clear hK K
            have HV7 := Lib.hid (vfive_heap HZ.out (.int .i64 (i : Nat)) (.int .i64 num) (.int .i64 stp) (.string val) (.string ⟨#[]⟩))
            have HP7 := Lib.hid (HP6.out.far (vfive_below hsd hb_vb (.int .i64 (i : Nat)) (.int .i64 num) (.int .i64 stp) (.string val) (.string ⟨#[]⟩)))
            generalize (((((wd.setCell ⟨vb, 0, none⟩ (.int .i64 (i : Nat))).setCell ⟨vb, 1, none⟩ (.int .i64 num)).setCell ⟨vb, 2, none⟩ (.int .i64 stp)).setCell ⟨vb, 3, none⟩ (.string val)).setCell ⟨vb, 4, none⟩ (.string ⟨#[]⟩)) = w7 at *
            clear z0 z1 z2 z3 z4 zf HZ hnd hsd hn_wc hs_wc hz_vb HC6 HTZ
            refine wpFl_nil ?_
            refine NoPanic.normal ?_
            go_upto_region 10 with fail
            have HNE : Hid ((Value.slice va j vc).ownBlock ≠ some vb) := Lib.hid (fun e => by
              have := (World.ownsRow.lt HP6.out.2.2.2 vb e).2
              omega)
            have hvb2 : w.heap.size + 2 ≤ vb := by have := (Array.getElem?_eq_some_iff.1 HP6.out.2.2.1).1; omega
            have HS7 : Hid (PrKept w (.slice (some ⟨kb, koff, none⟩) kn kcap) num stp (.slice va j vc) ((A.take j).map (mkV ks num stp val)) vb i val w7.heap.size w7.drew) := Lib.hid ⟨Nat.le_refl _, HP7.out.far (below_drewN (Below.refl _ _) 1), _, HV7.out⟩
            have HC7 : Hid (∀ W, PrKept w (.slice (some ⟨kb, koff, none⟩) kn kcap) num stp (.slice va j vc) ((A.take j).map (mkV ks num stp val)) vb i val w7.heap.size W → W.cell? ⟨w.heap.size, 0, none⟩ = some (.slice (some ⟨kb, koff, none⟩) kn kcap) ∧ W.cell? ⟨kb, koff + i, none⟩ = some (.string key) ∧ W.cell? ⟨vb, 0, none⟩ = some (.int .i64 (i : Nat))) := Lib.hid (fun W hW =>
              ⟨hW.2.1.cells.1, HKC.out W hW.2.1.1, let ⟨u, hu⟩ := hW.2.2; cell_of_row W _ 0 _ _ _ hu⟩)
            refine wp_region_noPanic ?_
            refine wp_region_lexF [.q 0, .q 1, .q 2, .q 3, .q 4, .q 5, .b 6, .b 7, .q 8, .b 9] (PrKept w (.slice (some ⟨kb, koff, none⟩) kn kcap) num stp (.slice va j vc) ((A.take j).map (mkV ks num stp val)) vb i val w7.heap.size) (by kernel_rfl) (by kernel_rfl) (fun _ _ _ _ h => h) PrKept.more HS7.out ?_
            iterate 6 (refine wpFl_qL (v := ?_) rfl (Or.inl ⟨by rfl, ?_⟩) ?_; rotate_left; (focus (intro w' hSw; (try dsimp only [OldKept] at hSw); obtain ⟨d0, k0, e0⟩ := HC7.out w' hSw; go_simp; (try with_reducible rfl); done)); simp only [Act.put, List.setIfInBounds_toArray, List.set_cons_zero, List.set_cons_succ])
            refine wpFl_bS rfl (fun wa hna hsa K hK => ?_)
            have HVa := Lib.hid ((hna.block vb (Array.getElem?_eq_some_iff.1 HV7.out).1).trans HV7.out)
            obtain ⟨z0, z1, z2, z3, z4⟩ := vcellsAt HVa.out
            go_simp
            refine hK.out _ _ hsa hsa.1 (Keeps.below (Below.refl _ _)) ?_
            clear hK K hna z0 z1 z2 z3 z4
            refine wpFl_bS rfl (fun wb hnb hsb K hK => ?_)
            have HVb := Lib.hid ((hnb.block vb (Array.getElem?_eq_some_iff.1 HVa.out).1).trans HVa.out)
            go_simp
            go_at_call 68
            refine (HSL.out wb hsb.2.1.1).mono ?_
            rintro e wc2 ⟨rfl, hbc⟩
            have HVc := Lib.hid ((hbc.block vb (Array.getElem?_eq_some_iff.1 HVb.out).1).trans HVb.out)
            refine hK.out _ _ (PrKept.more _ _ hsb hbc) (Nat.le_trans hsb.1 hbc.size) (Keeps.below hbc) ?_
            clear hK K hnb hsb hbc hsa HVa HVb
            refine wpFl_qL (v := ?_) rfl (Or.inl ⟨by rfl, ?_⟩) ?_
            rotate_left
            focus (intro w' hSw; (try dsimp only [OldKept] at hSw); go_simp; (try with_reducible rfl); done)
            simp only [Act.put, List.setIfInBounds_toArray, List.set_cons_zero, List.set_cons_succ]
            refine wpFl_bS rfl (fun wd2 hnd hsd2 K hK => ?_)
            have HVd := Lib.hid ((hnd.block vb (Array.getElem?_eq_some_iff.1 HVc.out).1).trans HVc.out)
            obtain ⟨z0, z1, z2, z3, z4⟩ := vcellsAt HVd.out
            have zf : ∀ j, wd2.frozen? ⟨vb, j, none⟩ = false := fun j => by unfold World.frozen?; rw [HVd.out]; simp
            have HV8 := Lib.hid (heap_setCell_same (i := 4) (.string S) HVd.out)
            have HP8 := Lib.hid (hsd2.2.1.set hvb2 HNE.out (.string S))
            have hsz8 : (wd2.setCell ⟨vb, 4, none⟩ (.string S)).heap.size = wd2.heap.size := by simp [World.setCell]
            go_simp
            refine hK.out _ _ ⟨by rw [hsz8]; exact hsd2.1, HP8.out, _, HV8.out⟩ (by rw [hsz8]; exact hsd2.1) Keeps.nil ?_
            clear hK K z0 z1 z2 z3 z4 zf hnd hsd2 HVc HVd hsz8
            generalize wd2.setCell ⟨vb, 4, none⟩ (.string S) = w8 at *
            have HV9 : Hid (w8.heap[vb]? = some (.cells #[.int .i64 (i : Nat), .int .i64 num, .int .i64 stp, .string val, .string S] 27 (0, 0))) := Lib.hid HV8.out
            clear HV8 HC7 HS7 HP7 HV7 HNE HSL
            refine wpFl_nil ?_
            refine NoPanic.normal ?_
            go_upto_region 11 with fail
            obtain ⟨z0, z1, z2, z3, z4⟩ := vcellsAt HV9.out
            have hlen : ((A.take j).map (mkV ks num stp val)).length = j := by
              rw [List.length_map, List.length_take, ← HCNT.out]
              omega
            go_wp2_with (at_builtin; refine wpList_append_vote (.tmp 51) (.tmp 53) w.heap.size (.slice va j vc) ((A.take j).map (mkV ks num stp val)) ⟨(i : Int), num, stp, val, S⟩ w8.heap.size (0, 0) (OwnE.alloc HP8.out.2.2.2 _) (by rw [hlen]; omega) (by have := HP8.out.1.size; simp; omega) (heap_alloc_new _ _) rfl rfl rfl rfl ?_; intro v9 w9 ho9 hg9; have HP9 := Lib.hid (HP8.out.append hg9 ho9); clear hg9; obtain ⟨va9, vc9, hv9⟩ := ho9.form; rw [List.length_append, hlen] at hv9; simp only [List.length_cons, List.length_nil, Nat.zero_add] at hv9; clear ho9; subst hv9)
            refine ⟨⟨j + 1, r &&& (r - 1), va9, vc9, by omega, by rw [HAN.out.1, HAN.out.2], rfl, HB2.out.2, Lib.hid HB2.out.1, Lib.hid ?_⟩, by simp only [lenOf]; omega⟩
            have e : (A.take (j + 1)).map (mkV ks num stp val) = (A.take j).map (mkV ks num stp val) ++ [⟨(i : Int), num, stp, val, S⟩] := by
              rw [HTK.out, List.map_append]
              simp only [List.map_cons, List.map_nil, HMK.out]
            rw [e]
            exact HP9.out
          · obtain rfl : j = en := by omega
            have hde : decide (j < j) = false := decide_eq_false (by omega)
            go_wp2_with (go_at_call 79; refine (HENC.out _).mono ?_; rintro e w6 ⟨rfl, hb6⟩; have HP6 := Lib.hid (hP.out.far hb6); clear hb6)
            go_ret2
            rw [HRes.out]
            exact ⟨_, rfl, HP6.out.2.2.2.vs, HP6.out.1⟩
end Go.Proofs.YtggdcnjaofflbaaGreatDoor

/- Walks of package quorum: Convicts, Check. The conditions: what the slices read as, the table of constants. -/
namespace Go.Proofs.YtggdcnjaofflbaaGreatDoor
open Go.RowKit Go.BigFrame

def dagg (d : VoteP × VoteP) : Value := .agg #[.int .i64 d.1.car, .int .i64 d.1.num, .int .i64 d.1.stp, .string d.1.val, .string d.1.sl, .int .i64 d.2.car, .int .i64 d.2.num, .int .i64 d.2.stp, .string d.2.val, .string d.2.sl]
set_option maxHeartbeats 4000000 in
set_option maxRecDepth 100000 in
theorem qconvicts_any {w : World} {kv : Value} {ks : List ByteArray} (hr : SS w kv ks) (d : VoteP × VoteP) (he : Env w) (hg : 3 < w.heap.size) :
    Calls Tryz.prog 26 #[.agg #[kv], dagg d] w fun e w' => e = .returned (.bool (convictsV ks d)) ∧ Below w.heap.size w w' := by
  obtain ⟨ka, kn, kc, rfl⟩ : ∃ a n c, kv = .slice a n c := by obtain ⟨a, c, h, _⟩ := hr.opened; exact ⟨_, _, _, h⟩
  obtain ⟨u, v⟩ := d
  unfold dagg
  obtain ⟨W2, hW2⟩ : ∃ W2, W2 = (w.alloc (.cells #[.slice ka kn kc] 31)).alloc (.cells #[.int .i64 u.car, .int .i64 u.num, .int .i64 u.stp, .string u.val, .string u.sl, .int .i64 v.car, .int .i64 v.num, .int .i64 v.stp, .string v.val, .string v.sl] 45) := ⟨_, rfl⟩
  have HB2 : Hid (Below w.heap.size w W2) := Lib.hid (by rw [hW2]; exact ((Below.refl _ _).alloc (Nat.le_refl _) _).alloc (by simp) _)
  have hs2 : w.heap.size + 1 < W2.heap.size := by rw [hW2]; simp
  have HH : Hid (W2.heap[w.heap.size]? = some (.cells #[.slice ka kn kc] 31 (0, 0)) ∧ W2.heap[w.heap.size + 1]? = some (.cells #[.int .i64 u.car, .int .i64 u.num, .int .i64 u.stp, .string u.val, .string u.sl, .int .i64 v.car, .int .i64 v.num, .int .i64 v.stp, .string v.val, .string v.sl] 45 (0, 0))) := Lib.hid (by rw [hW2]; exact ⟨at_past w _ _, at_second w _ _⟩)
  have HC : Hid (∀ W, Below W2.heap.size W2 W → W.cell? ⟨w.heap.size, 0, none⟩ = some (.slice ka kn kc) ∧ (∀ j x, #[.int .i64 u.car, .int .i64 u.num, .int .i64 u.stp, .string u.val, .string u.sl, .int .i64 v.car, .int .i64 v.num, .int .i64 v.stp, .string v.val, .string v.sl][j]? = some x → W.cell? ⟨w.heap.size + 1, j, none⟩ = some x)) := Lib.hid (fun W hW =>
    ⟨cell_of_row W _ 0 _ _ _ ((hW.block w.heap.size (by omega)).trans HH.out.1), fun j x hj => (cell_of_row W _ j _ _ _ ((hW.block _ hs2).trans HH.out.2)).trans hj⟩)
  have HA := Lib.hid (fun W => areOne_any u v W)
  have HG1 : Hid (∀ W, Below W2.heap.size W2 W → Calls Tryz.prog 21 #[.agg #[.slice ka kn kc], .agg #[.int .i64 u.car, .int .i64 u.num, .int .i64 u.stp, .string u.val, .string u.sl]] W fun e w' => e = .returned (.bool (genuineV ks u)) ∧ Below W.heap.size W w') := Lib.hid (fun W hW => gen_any (hr.below (q_next HB2.out hW)) u (he.below (q_next HB2.out hW) hg) (Nat.lt_of_lt_of_le hg (q_next HB2.out hW).size))
  have HG2 : Hid (∀ W, Below W2.heap.size W2 W → Calls Tryz.prog 21 #[.agg #[.slice ka kn kc], .agg #[.int .i64 v.car, .int .i64 v.num, .int .i64 v.stp, .string v.val, .string v.sl]] W fun e w' => e = .returned (.bool (genuineV ks v)) ∧ Below W.heap.size W w') := Lib.hid (fun W hW => gen_any (hr.below (q_next HB2.out hW)) v (he.below (q_next HB2.out hW) hg) (Nat.lt_of_lt_of_le hg (q_next HB2.out hW).size))
  have HR : Hid (convictsV ks (u, v) = (((oneV u v && decide (u.val.toList < v.val.toList)) && genuineV ks u) && genuineV ks v)) := Lib.hid rfl
  generalize convictsV ks (u, v) = R at *
  obtain ⟨D2, hD2⟩ : ∃ D2, D2 = decide (u.val.toList < v.val.toList) := ⟨_, rfl⟩
  rw [← hD2] at HR
  have hlt : Op.bytesLess u.val.toList v.val.toList = D2 := by rw [hD2]; exact bytesLess_eq _ _
  clear hD2
  have HW2 := Lib.hid hW2
  clear hr he hg hW2
  unfold vagg at HA
  generalize oneV u v = D1 at *
  generalize genuineV ks u = D3 at *
  generalize genuineV ks v = D4 at *
  obtain ⟨c1, n1, s1, v1, l1⟩ := u
  obtain ⟨c2, n2, s2, v2, l2⟩ := v
  simp only at HC HA HG1 HG2 HW2 hlt
  cases D1
  · go_enter Tryz.func26, Tryz.ntmps26
    go_wp2_with fail
    rw [← HW2.out]
    refine (HA.out W2).mono ?_
    rintro e w3 ⟨rfl, hb3⟩
    have HB3 := Lib.hid (q_next HB2.out hb3)
    clear hb3
    go_wp2_with fail
    go_ret
    exact ⟨ret_bool HR.out.symm, HB3.out⟩
  · go_enter Tryz.func26, Tryz.ntmps26
    go_wp2_with fail
    rw [← HW2.out]
    refine (HA.out W2).mono ?_
    rintro e w3 ⟨rfl, hb3⟩
    have HB3 := Lib.hid hb3
    clear hb3
    obtain ⟨e0, e⟩ := HC.out w3 HB3.out
    have d0 := e 0 _ rfl
    have d1 := e 1 _ rfl
    have d2 := e 2 _ rfl
    have d3 := e 3 _ rfl
    have d4 := e 4 _ rfl
    have d8 := e 8 _ rfl
    clear e
    cases D2
    · go_wp2_with fail
      go_ret
      exact ⟨ret_bool HR.out.symm, q_next HB2.out HB3.out⟩
    · go_wp2_with fail
      refine (HG1.out w3 HB3.out).mono ?_
      rintro e w4 ⟨rfl, hb4⟩
      have HB4 := Lib.hid (q_next HB3.out hb4)
      clear hb4 e0 d0 d1 d2 d3 d4 d8
      obtain ⟨e0, e⟩ := HC.out w4 HB4.out
      have d5 := e 5 _ rfl
      have d6 := e 6 _ rfl
      have d7 := e 7 _ rfl
      have d8 := e 8 _ rfl
      have d9 := e 9 _ rfl
      clear e
      cases D3
      · go_wp2_with fail
        go_ret
        exact ⟨ret_bool HR.out.symm, q_next HB2.out HB4.out⟩
      · go_wp2_with fail
        refine (HG2.out w4 HB4.out).mono ?_
        rintro e w5 ⟨rfl, hb5⟩
        go_wp2_with fail
        go_ret
        exact ⟨ret_bool HR.out.symm, q_next HB2.out (q_next HB4.out hb5)⟩
end Go.Proofs.YtggdcnjaofflbaaGreatDoor
