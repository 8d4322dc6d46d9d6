/- What the entries of a part are by their indices: plain facts on maps; slices of parts; the walk of register.entries. The conditions: what the slices read as, ranges of indices, lengths. -/
import Derived.Maps.OwnSet
import Derived.Maps.RangeWalk
import Derived.Maps.StringElems
import Derived.Carry
import Derived.Test.YtinfpbkbnhcifaaGreatDoorQ15
import Derived.Test.YtinfpbkbnhcifaaGreatDoorQ21
namespace Go.Proofs.YtinfpbkbnhcifaaGreatDoor
open Go.RowKit Go.BigFrame Go.WideShapes

/-! ### Plain: a map of entries -/
abbrev DU := DataW Unit
def putI (D : DU) (x : ItemP) : DU := D.put (.int .i64 x.idx) (.lit (.string x.ent.data.toList))
def mapD (xs : List ItemP) : DU := xs.foldl putI (.map [])
theorem mapD_snoc (xs : List ItemP) (x : ItemP) : mapD (xs ++ [x]) = putI (mapD xs) x := by simp [mapD, List.foldl_append]
theorem keyLit (i : Int) : WideAt.IsKeyLit (.int .i64 i) := by
  constructor <;> simp
/-- A map that reads as what is known. -/
def Reads (D : DU) (K : Int → Option ByteArray) : Prop := Maps.IsMap D ∧ ∀ i, Maps.has D (.int .i64 i) = (K i).isSome ∧ ∀ s, K i = some s → ∀ z, D.atKey (.int .i64 i) z = .lit (.string s.data.toList)
theorem reads_put {D : DU} {K : Int → Option ByteArray} (h : Reads D K) (x : ItemP) : Reads (putI D x) (fun i => if x.idx = i then some x.ent else K i) := by
  refine ⟨h.1.put _ _, fun i => ?_⟩
  show Maps.has (putI D x) (.int .i64 i) = (if x.idx = i then some x.ent else K i).isSome ∧ ∀ s, (if x.idx = i then some x.ent else K i) = some s → ∀ z, (putI D x).atKey (.int .i64 i) z = .lit (.string s.data.toList)
  by_cases e : x.idx = i
  · subst e
    rw [if_pos rfl]
    refine ⟨Maps.has_put_same h.1 (keyLit _) _, fun s hs z => ?_⟩
    cases hs
    exact Maps.atKey_put_same h.1 (keyLit _) _ _
  · have hne : (Lit.int .i64 i) ≠ .int .i64 x.idx := fun h => by cases h; exact e rfl
    rw [if_neg e]
    refine ⟨(Maps.has_put_other hne _).trans (h.2 i).1, fun s hs z => ?_⟩
    exact (Maps.atKey_put_other hne _ _).trans ((h.2 i).2 s hs z)
theorem reads_nil : Reads (.map []) (fun _ => none) := ⟨Maps.isMap_empty, fun i => ⟨rfl, fun s h => by cases h⟩⟩
theorem reads_fold (xs : List ItemP) : ∀ (D : DU) (K : Int → Option ByteArray), Reads D K → Reads (xs.foldl putI D) (fun i => match knownB xs i with | some s => some s | none => K i) := by
  induction xs with
  | nil => intro D K h; exact h
  | cons x xs ih =>
    intro D K h
    have := ih _ _ (reads_put h x)
    have e : (fun i => match knownB (x :: xs) i with | some s => some s | none => K i) = (fun i => match knownB xs i with | some s => some s | none => if x.idx = i then some x.ent else K i) := by
      funext i
      rw [knownB]
      cases knownB xs i with
      | some s => rfl
      | none =>
        show (match (if x.idx = i then some x.ent else none) with | some s => some s | none => K i) = if x.idx = i then some x.ent else K i
        by_cases h : x.idx = i
        · rw [if_pos h, if_pos h]
        · rw [if_neg h, if_neg h]
    rw [e]
    exact this
theorem reads_mapD (xs : List ItemP) : Reads (mapD xs) (knownB xs) := by
  have := reads_fold xs (.map []) (fun _ => none) reads_nil
  have e : (fun i => match knownB xs i with | some s => some s | none => none) = knownB xs := by
    funext i
    cases knownB xs i <;> rfl
  rw [e] at this
  exact this

/-! ### Maps of entries in memory -/
/-- A block is a map of at most n entries that reads as D. -/
def MapAt (w : World) (B n : Nat) (D : DU) : Prop := w.ownsMap Tryz.prog 3 (plainElem Tryz.prog 9) B n D
theorem lawI : Maps.Keyed Tryz.prog 3 := Maps.int_keyed Tryz.underlying3
theorem zeroStr (w : World) : (zeroValue 9).run Tryz.prog w = .ok (.string ⟨#[]⟩) w := by kernel_rfl
theorem wf_small {i : Int} (h0 : 0 ≤ i) (h1 : i ≤ 1000000) : (Lit.int IntKind.i64 i).wf = true := WalkArith.wf_i64 (by omega)
theorem keyI {i : Int} (h0 : 0 ≤ i) (h1 : i ≤ 1000000) : keyOf Tryz.prog 3 (.int .i64 i) = some (.int .i64 i) := Maps.keyOf_int_mk Tryz.underlying3 (wf_small h0 h1)
theorem MapAt.below {w w' : World} {B n : Nat} {D : DU} (h : MapAt w B n D) (hb : Below w.heap.size w w') : MapAt w' B n D := World.ownsMap.kept h (below_grown hb) (by simp)
theorem MapAt.look {w : World} {B n : Nat} {D : DU} {K : Int → Option ByteArray} (h : MapAt w B n D) (hr : Reads D K) {i : Int} (h0 : 0 ≤ i) (h1 : i ≤ 1000000) :
    ∃ s : ByteArray, (∀ t, K i = some t → s = t) ∧ (Instr.lookup 98 (.map (some B)) (.int .i64 i) true).run Tryz.prog w = .ok (.tuple #[.string s, .bool (K i).isSome]) w := by
  obtain ⟨v, ps, hrun, hv⟩ := World.ownsMap.look_ok h lawI (t := 98) (e := 9) Tryz.underlying98 (zeroStr w) (plainElem_string Tryz.underlying9 (by show (0 : Nat) ≤ maxLen; omega)) (keyI h0 h1)
  obtain ⟨s, rfl, hz, _⟩ := plainElem_string_inv Tryz.underlying9 hv
  refine ⟨s, fun t ht => ?_, ?_⟩
  · have := (hr.2 i).2 t ht (.lit (.string (ByteArray.mk #[]).data.toList))
    have e := congrArg Prod.fst hz
    simp only at e
    rw [this] at e
    exact ByteArray.ext (Array.toList_inj.1 (Lit.string.inj (DataW.lit.inj e)).symm)
  · rw [hrun, (hr.2 i).1]
theorem MapAt.look1 {w : World} {B n : Nat} {D : DU} {K : Int → Option ByteArray} (h : MapAt w B n D) (hr : Reads D K) {i : Int} (h0 : 0 ≤ i) (h1 : i ≤ 1000000) {t : ByteArray} (ht : K i = some t) :
    (Instr.lookup 98 (.map (some B)) (.int .i64 i) false).run Tryz.prog w = .ok (.string t) w := by
  obtain ⟨v, ps, hrun, hv⟩ := World.ownsMap.lookup h lawI (t := 98) (e := 9) Tryz.underlying98 (zeroStr w) (plainElem_string Tryz.underlying9 (by show (0 : Nat) ≤ maxLen; omega)) (keyI h0 h1)
  obtain ⟨s, rfl, hz, _⟩ := plainElem_string_inv Tryz.underlying9 hv
  have := (hr.2 i).2 t ht (.lit (.string (ByteArray.mk #[]).data.toList))
  have e := congrArg Prod.fst hz
  simp only at e
  rw [this] at e
  have e2 : t = s := ByteArray.ext (Array.toList_inj.1 (Lit.string.inj (DataW.lit.inj e)))
  rw [hrun, e2]
theorem mapD_take {ys : List (ItemP × Value)} {k : Nat} {y : ItemP × Value} (h : ys[k]? = some y) : mapD ((ys.take (k + 1)).map (·.1)) = (mapD ((ys.take k).map (·.1))).put (.int .i64 y.1.idx) (.lit (.string y.1.ent.data.toList)) := by
  rw [List.take_add_one, h, List.map_append]
  show mapD (_ ++ [y.1]) = _
  rw [mapD_snoc]
  rfl

/-- Items whose numbers and entries are small. -/
def SmallI (ys : List (ItemP × Value)) : Prop := ∀ y ∈ ys, 0 ≤ y.1.idx ∧ y.1.idx < 60 ∧ y.1.ent.size ≤ 1000
theorem smallI_of {key : ByteArray} {h : HeadP} {ys : List (ItemP × Value)} (hc : checkB key ⟨h, ys.map (·.1)⟩ = true) : SmallI ys := fun y hy => check_mem hc y.1 (List.mem_map.2 ⟨y, hy, rfl⟩)

set_option maxHeartbeats 2000000 in
set_option maxRecDepth 100000 in
theorem entries_any (car siz : Int) (root sl : ByteArray) {w : World} {v : Value} {ys : List (ItemP × Value)} (hi : IS w v ys) (hl : ys.length ≤ 100000) (hs : SmallI ys) :
    Calls Tryz.prog 67 #[.agg #[.int .i64 car, .int .i64 siz, .string root, .string sl, v]] w fun e w' => ∃ B, e = .returned (.map (some B)) ∧ MapAt w' B ys.length (mapD (ys.map (·.1))) ∧ w.heap.size ≤ B ∧ Below w.heap.size w w' := by
  obtain ⟨a, cap, rfl, l1, l2, l3⟩ := hi.opened
  have H3 := Lib.hid l3
  have HI := Lib.hid hi
  have HS := Lib.hid hs
  clear l3 hi hs
  unfold maxLen at l2
  have HD : Hid (mapD (ys.map (·.1)) = mapD ((ys.take ys.length).map (·.1))) := Lib.hid (by rw [List.take_length])
  obtain ⟨DD, hDD⟩ : ∃ DD, DD = mapD (ys.map (·.1)) := ⟨_, rfl⟩
  rw [← hDD] at HD ⊢
  clear hDD
  obtain ⟨n, hn⟩ : ∃ n, n = ys.length := ⟨_, rfl⟩
  rw [← hn] at l1 hl HD ⊢
  have HN := Lib.hid hn
  clear hn
  have hmm := @run_makeMap Tryz.prog
  have HM0 : Hid (MapAt ((w.alloc (.cells #[.int .i64 car, .int .i64 siz, .string root, .string sl, .slice a n cap] 38)).alloc (.map #[] 0)) (w.heap.size + 1) 0 (.map [])) := Lib.hid (by
    have := World.ownsMap_made (w.alloc (.cells #[.int .i64 car, .int .i64 siz, .string root, .string sl, .slice a n cap] 38)) Tryz.prog 3 (plainElem (H := Unit) Tryz.prog 9)
    unfold MapAt
    simpa using this)
  have HB0 : Hid (Below w.heap.size w ((w.alloc (.cells #[.int .i64 car, .int .i64 siz, .string root, .string sl, .slice a n cap] 38)).alloc (.map #[] 0))) := Lib.hid (((Below.refl _ _).alloc (Nat.le_refl _) _).alloc (by simp) _)
  go_enter Tryz.func67, Tryz.ntmps67
  go_wp2
  go_loopw [10] (fun i wr => ∃ k : Nat, k ≤ n ∧ i = .int .i64 k ∧ Hid (MapAt wr (w.heap.size + 1) k (mapD ((ys.take k).map (·.1)))) ∧ Hid (Below w.heap.size w wr)) (fun i _ => n - (intOf i).toNat)
  case atStart => exact ⟨0, by omega, rfl, HM0, HB0⟩
  case round =>
    obtain ⟨k, hk, rfl, hM, hB⟩ := hrel
    clear HM0 HB0
    by_cases hlt : k < n
    · obtain ⟨y, ey⟩ : ∃ y, ys[k]? = some y := ⟨_, List.getElem?_eq_getElem (by rw [← HN.out]; exact hlt)⟩
      obtain ⟨b, off, rfl, hb, c0, c1, c2⟩ := H3.out k y ey
      have d0 := cell_keepB hB.out hb c0
      have d1 := cell_keepB hB.out hb c1
      have d2 := cell_keepB hB.out hb c2
      clear c0 c1 c2
      have hmem := List.mem_of_getElem? ey
      obtain ⟨s1, s2, s3⟩ := HS.out y hmem
      have hss := HI.out.2 y hmem
      have HE := Lib.hid (mapD_take ey)
      clear ey hmem
      obtain ⟨⟨ix, en, pr⟩, pv⟩ := y
      simp only at d0 d1 d2 s1 s2 s3 hss HE
      obtain ⟨pa, pc, rfl, _, _, _⟩ := hss.opened
      obtain ⟨pm, hpm⟩ : ∃ pm, pm = pr.length := ⟨_, rfl⟩
      rw [← hpm] at d2
      clear hss hpm
      have HK := Lib.hid (keyI s1 (by omega : ix ≤ 1000000))
      have HV := Lib.hid (plainElem_string (H := Unit) Tryz.underlying9 (s := en) (by unfold maxLen; omega))
      have hwr := hB.out.size
      have HO := Lib.hid (hM.out.below ((Below.refl _ _).alloc (Nat.le_refl _) (.cells #[.int .i64 ix, .string en, .slice pa pm pc] 53)))
      have HBo := Lib.hid (hB.out.alloc hwr (.cells #[.int .i64 ix, .string en, .slice pa pm pc] 53))
      clear s1 s2 s3
      go_wp2_with (at_mapUpdate; refine wpList_mapUpdate_own _ rfl _ _ _ 98 rfl 3 9 lawI Tryz.underlying98 _ (w.heap.size + 1) k _ rfl HO.out (by unfold maxLen; omega) _ _ _ rfl rfl HK.out _ [] HV.out ?_; intro w1 hown1 hgrow1; have HO1 := Lib.hid hown1; have HG1 := Lib.hid hgrow1; clear hown1 hgrow1)
      go_roundw
      case rel =>
        refine ⟨k + 1, by omega, by go_num, ?_, ?_⟩
        · rw [HE.out]
          exact HO1
        · exact HBo.out.grown HG1.out HBo.out.size (fun j e => by cases e; omega)
      case measure => simp [intOf]; omega
    · have ek : k = n := by omega
      go_wp2
      go_ret
      refine ⟨_, rfl, ?_, by omega, hB.out⟩
      rw [HD.out, ← ek]
      exact hM.out

/-! ### The test of an item -/
set_option maxHeartbeats 1000000 in
theorem differs_any (ix : Int) (en : ByteArray) (pr : List ByteArray) (pa : Option Addr) (pm pc : Nat) (bm B n : Nat) (D : DU) (K : Int → Option ByteArray) (w : World) (hm : w.cell? ⟨bm, 0, none⟩ = some (.map (some B))) (hb : bm < w.heap.size) (hown : MapAt w B n D) (hr : Reads D K) (h0 : 0 ≤ ix) (h1 : ix ≤ 1000000) :
    Calls Tryz.prog 89 #[.agg #[.int .i64 ix, .string en, .slice pa pm pc], .pointer (some ⟨bm, 0, none⟩)] w fun e w' => e = .returned (.bool (differs K ⟨ix, en, pr⟩)) ∧ Below w.heap.size w w' := by
  have HB : Hid (Below w.heap.size w (w.alloc (.cells #[.int .i64 ix, .string en, .slice pa pm pc] 53))) := Lib.hid ((Below.refl _ _).alloc (Nat.le_refl _) _)
  obtain ⟨s, hs, hrun⟩ := (hown.below HB.out).look hr h0 h1
  have HR : Hid (differs K ⟨ix, en, pr⟩ = ((K ix).isSome && decide (s ≠ en))) := Lib.hid (by
    unfold differs
    cases h : K ix with
    | none => rfl
    | some t => rw [hs t h]; simp)
  have e1 := same_str s en
  obtain ⟨R, hR⟩ : ∃ R, R = differs K ⟨ix, en, pr⟩ := ⟨_, rfl⟩
  rw [← hR] at HR ⊢
  clear hR hs hown hr
  generalize (K ix).isSome = is at *
  cases is
  · have HF : Hid (R = false) := Lib.hid (by rw [HR.out]; rfl)
    clear HR e1
    go_enter Tryz.func89, Tryz.ntmps89
    go_wp2
    go_ret
    exact ⟨ret_bool HF.out.symm, HB.out⟩
  · have HF : Hid (R = decide (s ≠ en)) := Lib.hid (by rw [HR.out]; rfl)
    have E1 := Lib.hid e1
    clear HR e1
    go_enter Tryz.func89, Tryz.ntmps89
    go_wp2
    go_ret
    refine ⟨ret_bool ?_, HB.out⟩
    rw [HF.out]
    simp [E1.out]

set_option maxHeartbeats 1000000 in
theorem indexI_any (bm : Nat) (p : ItemP × Value → Bool) {w : World} {v : Value} {ys : List (ItemP × Value)} (hi : IS w v ys)
    (ht : ∀ (W : World) (y : ItemP × Value), Below w.heap.size w W → y ∈ ys → Calls Tryz.prog 89 #[.agg #[.int .i64 y.1.idx, .string y.1.ent, y.2], .pointer (some ⟨bm, 0, none⟩)] W fun e w' => e = .returned (.bool (p y)) ∧ Below W.heap.size W w') :
    Calls Tryz.prog 117 #[v, .func (.func 89) #[] #[.pointer (some ⟨bm, 0, none⟩)]] w fun e w' => e = .returned (.int .i64 (firstIdx p ys 0)) ∧ Below w.heap.size w w' := by
  obtain ⟨a, cap, rfl, l1, l2, l3⟩ := hi.opened
  have H3 := Lib.hid l3
  have HI := Lib.hid hi
  have HT := Lib.hid ht
  clear l3 hi ht
  unfold maxLen at l2
  obtain ⟨n, hn⟩ : ∃ n, n = ys.length := ⟨_, rfl⟩
  rw [← hn] at l1 ⊢
  have HN := Lib.hid hn
  clear hn
  go_enter Tryz.func117, Tryz.ntmps117
  go_wp2
  go_loopw [8] (fun i wr => ∃ k : Nat, k ≤ n ∧ i = .int .i64 k ∧ Hid (∀ j q, j < k → ys[j]? = some q → p q = false) ∧ Hid (Below w.heap.size w wr)) (fun i wr => n - (intOf i).toNat)
  case atStart => exact ⟨0, by omega, rfl, (by intro j q hj; omega), Below.refl _ _⟩
  case round =>
    obtain ⟨k, hk, rfl, hall, hB⟩ := hrel
    by_cases hlt : k < n
    · obtain ⟨y, ey⟩ : ∃ y, ys[k]? = some y := ⟨_, List.getElem?_eq_getElem (by rw [← HN.out]; exact hlt)⟩
      obtain ⟨b, off, rfl, hb, c0, c1, c2⟩ := H3.out k y ey
      have d0 := cell_keepB hB.out hb c0
      have d1 := cell_keepB hB.out hb c1
      have d2 := cell_keepB hB.out hb c2
      clear c0 c1 c2
      have hmem := List.mem_of_getElem? ey
      have HC := Lib.hid (HT.out wr y hB.out hmem)
      have hss := HI.out.2 y hmem
      have EY := Lib.hid ey
      obtain ⟨P0, hP0⟩ : ∃ P0, P0 = p y := ⟨_, rfl⟩
      rw [← hP0] at HC
      have HP0 := Lib.hid hP0
      clear ey hmem hP0
      obtain ⟨⟨ix, en, pr⟩, pv⟩ := y
      simp only at d0 d1 d2 hss HC
      obtain ⟨pa, pc, rfl, _, _, _⟩ := hss.opened
      obtain ⟨pm, hpm⟩ : ∃ pm, pm = pr.length := ⟨_, rfl⟩
      rw [← hpm] at d2 HC
      rw [← hpm] at EY HP0
      clear hss hpm
      have s1 := hB.out.size
      cases P0
      · go_wp2_with (go_at_call 89; refine HC.out.mono ?_; rintro e w1 ⟨rfl, hb1⟩)
        go_roundw
        case rel =>
          refine ⟨k + 1, by omega, by go_num, ?_, hB.out.trans (hb1.mono s1)⟩
          intro j q' hj hq
          by_cases hjk : j = k
          · subst hjk; rw [EY.out] at hq; cases hq; exact HP0.out.symm
          · exact hall.out j q' (by omega) hq
        case measure => simp [intOf]; omega
      · go_wp2_with (go_at_call 89; refine HC.out.mono ?_; rintro e w1 ⟨rfl, hb1⟩)
        go_ret
        refine ⟨ret_int ?_, hB.out.trans (hb1.mono s1)⟩
        rw [firstIdx_drop p ys k 0 hall.out (by rw [← HN.out]; omega)]
        rw [drop_get EY.out, firstIdx, if_pos HP0.out.symm]; omega
    · go_wp2
      go_ret
      refine ⟨ret_int ?_, hB.out⟩
      rw [firstIdx_drop p ys k 0 hall.out (by rw [← HN.out]; omega), List.drop_eq_nil_of_le (by rw [← HN.out]; omega), firstIdx]

set_option maxHeartbeats 400000 in
theorem containsI_any (bm : Nat) (p : ItemP × Value → Bool) {w : World} {v : Value} {ys : List (ItemP × Value)} (hi : IS w v ys)
    (ht : ∀ (W : World) (y : ItemP × Value), Below w.heap.size w W → y ∈ ys → Calls Tryz.prog 89 #[.agg #[.int .i64 y.1.idx, .string y.1.ent, y.2], .pointer (some ⟨bm, 0, none⟩)] W fun e w' => e = .returned (.bool (p y)) ∧ Below W.heap.size W w') :
    Calls Tryz.prog 90 #[v, .func (.func 89) #[] #[.pointer (some ⟨bm, 0, none⟩)]] w fun e w' => e = .returned (.bool (ys.any p)) ∧ Below w.heap.size w w' := by
  have hf := firstIdx_neg p ys 0 (by omega)
  have HF := Lib.hid hf
  clear hf
  generalize hi' : firstIdx p ys 0 = i at *
  have hc := indexI_any bm p hi ht
  rw [hi'] at hc
  clear hi'
  have HC := Lib.hid hc
  clear hc hi ht
  go_enter Tryz.func90, Tryz.ntmps90
  go_wp2_with (go_at_call 117; refine HC.out.mono ?_; rintro e w1 ⟨rfl, hb1⟩)
  go_ret
  exact ⟨ret_bool HF.out, hb1⟩

set_option maxHeartbeats 2000000 in
set_option maxRecDepth 100000 in
theorem convicts_any (c1 s1 : Int) (r1 l1 : ByteArray) (c2 s2 : Int) (r2 l2 : ByteArray) {w : World} {v1 v2 : Value} {ya yb : List (ItemP × Value)} (ha : IS w v1 ya) (hb : IS w v2 yb) (hla : ya.length ≤ 100000) (hsa : SmallI ya) (hsb : SmallI yb) :
    Calls Tryz.prog 58 #[.agg #[.int .i64 c1, .int .i64 s1, .string r1, .string l1, v1], .agg #[.int .i64 c2, .int .i64 s2, .string r2, .string l2, v2]] w fun e w' => e = .returned (.bool (convB ⟨⟨c1, s1, r1, l1⟩, ya.map (·.1)⟩ ⟨⟨c2, s2, r2, l2⟩, yb.map (·.1)⟩)) ∧ Below w.heap.size w w' := by
  obtain ⟨a1, n1, k1, rfl⟩ : ∃ a n c, v1 = .slice a n c := by obtain ⟨a, c, h, _⟩ := ha.opened; exact ⟨_, _, _, h⟩
  obtain ⟨a2, n2, k2, rfl⟩ : ∃ a n c, v2 = .slice a n c := by obtain ⟨a, c, h, _⟩ := hb.opened; exact ⟨_, _, _, h⟩
  obtain ⟨W2, hW2⟩ : ∃ W2, W2 = (w.alloc (.cells #[.int .i64 c1, .int .i64 s1, .string r1, .string l1, .slice a1 n1 k1] 38)).alloc (.cells #[.int .i64 c2, .int .i64 s2, .string r2, .string l2, .slice a2 n2 k2] 38) := ⟨_, rfl⟩
  have HB2 : Hid (Below w.heap.size w W2) := Lib.hid (by rw [hW2]; exact ((Below.refl _ _).alloc (Nat.le_refl _) _).alloc (by simp) _)
  have HX2 : Hid (W2.heap[w.heap.size]? = some (.cells #[.int .i64 c1, .int .i64 s1, .string r1, .string l1, .slice a1 n1 k1] 38 (0, 0))) := Lib.hid (by rw [hW2]; exact at_past w _ _)
  have HY2 : Hid (W2.heap[w.heap.size + 1]? = some (.cells #[.int .i64 c2, .int .i64 s2, .string r2, .string l2, .slice a2 n2 k2] 38 (0, 0))) := Lib.hid (by rw [hW2]; exact at_second w _ _)
  have HE := Lib.hid (entries_any c1 s1 r1 l1 (ha.below HB2.out) hla hsa)
  have HR : Hid (convB ⟨⟨c1, s1, r1, l1⟩, ya.map (·.1)⟩ ⟨⟨c2, s2, r2, l2⟩, yb.map (·.1)⟩ = (decide (c1 = c2) && (decide (s1 = s2 ∧ r1 ≠ r2) || yb.any (fun y => differs (knownB (ya.map (·.1))) y.1)))) := Lib.hid (by
    unfold convB
    rw [List.any_map]
    rfl)
  obtain ⟨KK, hKK⟩ : ∃ KK, KK = knownB (ya.map (·.1)) := ⟨_, rfl⟩
  rw [← hKK] at HR
  have HRD : Hid (Reads (mapD (ya.map (·.1))) KK) := Lib.hid (by rw [hKK]; exact reads_mapD _)
  obtain ⟨DD, hDD⟩ : ∃ DD, DD = mapD (ya.map (·.1)) := ⟨_, rfl⟩
  rw [← hDD] at HRD HE
  generalize convB ⟨⟨c1, s1, r1, l1⟩, ya.map (·.1)⟩ ⟨⟨c2, s2, r2, l2⟩, yb.map (·.1)⟩ = RR at *
  have HBI := Lib.hid hb
  have HSB := Lib.hid hsb
  clear hKK hDD ha hb hsa hsb hla
  have HW2 := Lib.hid hW2
  clear hW2
  have fin : ∀ w3, Below W2.heap.size W2 w3 → Below w.heap.size w w3 ∧ w3.heap[w.heap.size]? = some (.cells #[.int .i64 c1, .int .i64 s1, .string r1, .string l1, .slice a1 n1 k1] 38 (0, 0)) ∧ w3.heap[w.heap.size + 1]? = some (.cells #[.int .i64 c2, .int .i64 s2, .string r2, .string l2, .slice a2 n2 k2] 38 (0, 0)) := fun w3 hb => ⟨HB2.out.trans (hb.mono HB2.out.size), (hb.block _ (Array.getElem?_eq_some_iff.1 HX2.out).1).trans HX2.out, (hb.block _ (Array.getElem?_eq_some_iff.1 HY2.out).1).trans HY2.out⟩
  have FIN := Lib.hid fin
  clear fin
  by_cases hcc : c1 = c2
  · have dc : (c1 != c2) = false := by simp [hcc]
    have HRc : Hid (RR = (decide (s1 = s2 ∧ r1 ≠ r2) || yb.any (fun y => differs KK y.1))) := Lib.hid (by rw [HR.out, decide_eq_true hcc, Bool.true_and])
    clear hcc HR
    go_enter Tryz.func58, Tryz.ntmps58
    go_wp2_with fail
    rw [← HW2.out]
    refine HE.out.mono ?_
    rintro e w3 ⟨B, rfl, hmap, hBB, hb3⟩
    have hf := FIN.out ((w3.alloc (.cells #[.map (some B)] 98))) (hb3.alloc hb3.size _)
    obtain ⟨hb4, hx4, hy4⟩ := hf
    have HM4 := Lib.hid (hmap.below ((Below.refl _ _).alloc (Nat.le_refl _) (.cells #[.map (some B)] 98)))
    have HC4 := Lib.hid (heap_alloc_new w3 (.cells #[.map (some B)] 98))
    obtain ⟨W4, hW4⟩ : ∃ W4, W4 = w3.alloc (.cells #[.map (some B)] 98) := ⟨_, rfl⟩
    rw [← hW4] at hb4 hx4 hy4 HM4 HC4
    have hsz : W4.heap.size = w3.heap.size + 1 := by rw [hW4]; simp
    have HB4 := Lib.hid hb4
    have HX4 := Lib.hid hx4
    have HY4 := Lib.hid hy4
    have hs3 : w.heap.size + 1 < w3.heap.size := Nat.lt_of_lt_of_le (Array.getElem?_eq_some_iff.1 HY2.out).1 hb3.size
    have hs30 : w.heap.size < w3.heap.size := by omega
    obtain ⟨hb3', hx3, hy3⟩ := FIN.out w3 hb3
    have HX3 := Lib.hid hx3
    have HY3 := Lib.hid hy3
    clear hb4 hx4 hy4 hmap hb3 hBB hb3' hx3 hy3 HX4 HY4
    have HCF := Lib.hid (containsI_any w3.heap.size (fun y => differs KK y.1) (HBI.out.below HB4.out) (fun W y hW hy => by
      obtain ⟨t1, t2, t3⟩ := HSB.out y hy
      have hss := HBI.out.2 y hy
      obtain ⟨⟨ix, en, pr⟩, pv⟩ := y
      simp only at t1 t2 t3 hss ⊢
      obtain ⟨pa, pc, rfl, _, _, _⟩ := hss.opened
      refine differs_any ix en pr pa _ pc w3.heap.size B _ DD KK W ?_ (Nat.lt_of_lt_of_le (by omega) hW.size) (HM4.out.below hW) HRD.out t1 (by omega)
      exact cell_of_row W _ 0 _ _ _ ((hW.block _ (by omega)).trans HC4.out)))
    clear HM4 HC4 hsz
    subst hW4
    by_cases hh : s1 = s2
    · have ds : (s1 == s2) = true := by simpa using hh
      by_cases hr : r1 = r2
      · have HRd : Hid (RR = yb.any (fun y => differs KK y.1)) := Lib.hid (by rw [HRc.out, decide_eq_false (fun h => h.2 hr), Bool.false_or])
        have dr : (r1.toList == r2.toList) = true := by rw [same_str]; exact decide_eq_true hr
        clear hh hr
        have x1 : w3.cell? ⟨w.heap.size, 1, none⟩ = some (.int .i64 s1) := cell_of_row w3 _ 1 _ _ _ HX3.out
        have x2 : w3.cell? ⟨w.heap.size, 2, none⟩ = some (.string r1) := cell_of_row w3 _ 2 _ _ _ HX3.out
        have y1 : w3.cell? ⟨w.heap.size + 1, 1, none⟩ = some (.int .i64 s2) := cell_of_row w3 _ 1 _ _ _ HY3.out
        have y2 : w3.cell? ⟨w.heap.size + 1, 2, none⟩ = some (.string r2) := cell_of_row w3 _ 2 _ _ _ HY3.out
        have y4 : w3.cell? ⟨w.heap.size + 1, 4, none⟩ = some (.slice a2 n2 k2) := cell_of_row w3 _ 4 _ _ _ HY3.out
        go_wp2_with (go_at_call 90; refine HCF.out.mono ?_; rintro e w5 ⟨rfl, hb5⟩)
        go_ret
        exact ⟨ret_bool HRd.out.symm, HB4.out.trans (hb5.mono HB4.out.size)⟩
      · have HRd : Hid (RR = true) := Lib.hid (by rw [HRc.out, decide_eq_true ⟨hh, hr⟩, Bool.true_or])
        have dr : (r1.toList == r2.toList) = false := by rw [same_str]; exact decide_eq_false hr
        clear hh hr
        have x1 : w3.cell? ⟨w.heap.size, 1, none⟩ = some (.int .i64 s1) := cell_of_row w3 _ 1 _ _ _ HX3.out
        have x2 : w3.cell? ⟨w.heap.size, 2, none⟩ = some (.string r1) := cell_of_row w3 _ 2 _ _ _ HX3.out
        have y1 : w3.cell? ⟨w.heap.size + 1, 1, none⟩ = some (.int .i64 s2) := cell_of_row w3 _ 1 _ _ _ HY3.out
        have y2 : w3.cell? ⟨w.heap.size + 1, 2, none⟩ = some (.string r2) := cell_of_row w3 _ 2 _ _ _ HY3.out
        go_wp2
        go_ret
        exact ⟨ret_bool HRd.out.symm, HB4.out⟩
    · have ds : (s1 == s2) = false := by simpa using hh
      have HRd : Hid (RR = yb.any (fun y => differs KK y.1)) := Lib.hid (by rw [HRc.out, decide_eq_false (fun h => hh h.1), Bool.false_or])
      clear hh
      have x1 : w3.cell? ⟨w.heap.size, 1, none⟩ = some (.int .i64 s1) := cell_of_row w3 _ 1 _ _ _ HX3.out
      have y1 : w3.cell? ⟨w.heap.size + 1, 1, none⟩ = some (.int .i64 s2) := cell_of_row w3 _ 1 _ _ _ HY3.out
      have y4 : w3.cell? ⟨w.heap.size + 1, 4, none⟩ = some (.slice a2 n2 k2) := cell_of_row w3 _ 4 _ _ _ HY3.out
      go_wp2_with (go_at_call 90; refine HCF.out.mono ?_; rintro e w5 ⟨rfl, hb5⟩)
      go_ret
      exact ⟨ret_bool HRd.out.symm, HB4.out.trans (hb5.mono HB4.out.size)⟩
  · have dc : (c1 != c2) = true := by simp [hcc]
    have HRc : Hid (RR = false) := Lib.hid (by rw [HR.out, decide_eq_false hcc, Bool.false_and])
    have HBa := HB2.out
    rw [HW2.out] at HBa
    have HBb := Lib.hid HBa
    clear hcc HR HBa
    go_enter Tryz.func58, Tryz.ntmps58
    go_wp2
    go_ret
    exact ⟨ret_bool HRc.out.symm, HBb.out⟩

set_option maxHeartbeats 2000000 in
set_option maxRecDepth 100000 in
theorem convicts2_any (key : ByteArray) (c1 s1 : Int) (r1 l1 : ByteArray) (c2 s2 : Int) (r2 l2 : ByteArray) {w : World} {v1 v2 : Value} {ya yb : List (ItemP × Value)} (ha : IS w v1 ya) (hb : IS w v2 yb) (hla : ya.length ≤ 100000) (hlb : yb.length ≤ 100000) (hk : key.size ≤ 1000) (hr1 : r1.size ≤ 1000) (hr2 : r2.size ≤ 1000) (hpa : ∀ y ∈ ya, y.1.prf.length ≤ 1000) (hpb : ∀ y ∈ yb, y.1.prf.length ≤ 1000) (he : Env w) (hg : 0 < w.heap.size) :
    Calls Tryz.prog 22 #[.string key, .agg #[.int .i64 c1, .int .i64 s1, .string r1, .string l1, v1], .agg #[.int .i64 c2, .int .i64 s2, .string r2, .string l2, v2]] w fun e w' => e = .returned (.bool (convictsB key ⟨⟨c1, s1, r1, l1⟩, ya.map (·.1)⟩ ⟨⟨c2, s2, r2, l2⟩, yb.map (·.1)⟩)) ∧ Below w.heap.size w w' := by
  obtain ⟨a1, n1, k1, rfl⟩ : ∃ a n c, v1 = .slice a n c := by obtain ⟨a, c, h, _⟩ := ha.opened; exact ⟨_, _, _, h⟩
  obtain ⟨a2, n2, k2, rfl⟩ : ∃ a n c, v2 = .slice a n c := by obtain ⟨a, c, h, _⟩ := hb.opened; exact ⟨_, _, _, h⟩
  obtain ⟨W2, hW2⟩ : ∃ W2, W2 = (w.alloc (.cells #[.int .i64 c1, .int .i64 s1, .string r1, .string l1, .slice a1 n1 k1] 38)).alloc (.cells #[.int .i64 c2, .int .i64 s2, .string r2, .string l2, .slice a2 n2 k2] 38) := ⟨_, rfl⟩
  have HB2 : Hid (Below w.heap.size w W2) := Lib.hid (by rw [hW2]; exact ((Below.refl _ _).alloc (Nat.le_refl _) _).alloc (by simp) _)
  have HX2 : Hid (W2.heap[w.heap.size]? = some (.cells #[.int .i64 c1, .int .i64 s1, .string r1, .string l1, .slice a1 n1 k1] 38 (0, 0))) := Lib.hid (by rw [hW2]; exact at_past w _ _)
  have HY2 : Hid (W2.heap[w.heap.size + 1]? = some (.cells #[.int .i64 c2, .int .i64 s2, .string r2, .string l2, .slice a2 n2 k2] 38 (0, 0))) := Lib.hid (by rw [hW2]; exact at_second w _ _)
  have HCa : Hid (∀ W : World, Below w.heap.size w W → Calls Tryz.prog 24 #[.string key, .agg #[.int .i64 c1, .int .i64 s1, .string r1, .string l1, .slice a1 n1 k1]] W fun e w' => e = .returned (.bool (checkB key ⟨⟨c1, s1, r1, l1⟩, ya.map (·.1)⟩)) ∧ Below W.heap.size W w') := Lib.hid (fun W hW => check_any key c1 s1 r1 l1 (ha.below hW) hk hr1 hla hpa (he.below hW hg) (Nat.lt_of_lt_of_le hg hW.size))
  have HCb : Hid (∀ W : World, Below w.heap.size w W → Calls Tryz.prog 24 #[.string key, .agg #[.int .i64 c2, .int .i64 s2, .string r2, .string l2, .slice a2 n2 k2]] W fun e w' => e = .returned (.bool (checkB key ⟨⟨c2, s2, r2, l2⟩, yb.map (·.1)⟩)) ∧ Below W.heap.size W w') := Lib.hid (fun W hW => check_any key c2 s2 r2 l2 (hb.below hW) hk hr2 hlb hpb (he.below hW hg) (Nat.lt_of_lt_of_le hg hW.size))
  have HCv : Hid (checkB key ⟨⟨c1, s1, r1, l1⟩, ya.map (·.1)⟩ = true → checkB key ⟨⟨c2, s2, r2, l2⟩, yb.map (·.1)⟩ = true → ∀ W : World, Below w.heap.size w W → Calls Tryz.prog 58 #[.agg #[.int .i64 c1, .int .i64 s1, .string r1, .string l1, .slice a1 n1 k1], .agg #[.int .i64 c2, .int .i64 s2, .string r2, .string l2, .slice a2 n2 k2]] W fun e w' => e = .returned (.bool (convB ⟨⟨c1, s1, r1, l1⟩, ya.map (·.1)⟩ ⟨⟨c2, s2, r2, l2⟩, yb.map (·.1)⟩)) ∧ Below W.heap.size W w') := Lib.hid (fun g1 g2 W hW => convicts_any c1 s1 r1 l1 c2 s2 r2 l2 (ha.below hW) (hb.below hW) hla (smallI_of g1) (smallI_of g2))
  have HR : Hid (convictsB key ⟨⟨c1, s1, r1, l1⟩, ya.map (·.1)⟩ ⟨⟨c2, s2, r2, l2⟩, yb.map (·.1)⟩ = (checkB key ⟨⟨c1, s1, r1, l1⟩, ya.map (·.1)⟩ && (checkB key ⟨⟨c2, s2, r2, l2⟩, yb.map (·.1)⟩ && convB ⟨⟨c1, s1, r1, l1⟩, ya.map (·.1)⟩ ⟨⟨c2, s2, r2, l2⟩, yb.map (·.1)⟩))) := Lib.hid rfl
  generalize convictsB key ⟨⟨c1, s1, r1, l1⟩, ya.map (·.1)⟩ ⟨⟨c2, s2, r2, l2⟩, yb.map (·.1)⟩ = RR at *
  generalize checkB key ⟨⟨c1, s1, r1, l1⟩, ya.map (·.1)⟩ = g1 at *
  generalize checkB key ⟨⟨c2, s2, r2, l2⟩, yb.map (·.1)⟩ = g2 at *
  generalize convB ⟨⟨c1, s1, r1, l1⟩, ya.map (·.1)⟩ ⟨⟨c2, s2, r2, l2⟩, yb.map (·.1)⟩ = g3 at *
  clear ha hb hla hlb hk hr1 hr2 hpa hpb he hg
  have fin : ∀ w3, Below W2.heap.size W2 w3 → Below w.heap.size w w3 ∧ w3.heap[w.heap.size]? = some (.cells #[.int .i64 c1, .int .i64 s1, .string r1, .string l1, .slice a1 n1 k1] 38 (0, 0)) ∧ w3.heap[w.heap.size + 1]? = some (.cells #[.int .i64 c2, .int .i64 s2, .string r2, .string l2, .slice a2 n2 k2] 38 (0, 0)) := fun w3 hb => ⟨HB2.out.trans (hb.mono HB2.out.size), (hb.block _ (Array.getElem?_eq_some_iff.1 HX2.out).1).trans HX2.out, (hb.block _ (Array.getElem?_eq_some_iff.1 HY2.out).1).trans HY2.out⟩
  have FIN := Lib.hid fin
  clear fin
  have HW2 := Lib.hid hW2
  clear hW2
  cases g1 with
  | false =>
    go_enter Tryz.func22, Tryz.ntmps22
    go_wp2_with fail
    rw [← HW2.out]
    refine (HCa.out W2 HB2.out).mono ?_
    rintro e w3 ⟨rfl, hb3⟩
    go_wp2
    go_ret
    exact ⟨ret_bool (by rw [HR.out]; rfl), HB2.out.trans (hb3.mono HB2.out.size)⟩
  | true =>
    go_enter Tryz.func22, Tryz.ntmps22
    go_wp2_with fail
    rw [← HW2.out]
    refine (HCa.out W2 HB2.out).mono ?_
    rintro e w3 ⟨rfl, hb3⟩
    obtain ⟨hb, hx, hy⟩ := FIN.out w3 hb3
    have y0 : w3.cell? ⟨w.heap.size + 1, 0, none⟩ = some (.int .i64 c2) := cell_of_row w3 _ 0 _ _ _ hy
    have y1 : w3.cell? ⟨w.heap.size + 1, 1, none⟩ = some (.int .i64 s2) := cell_of_row w3 _ 1 _ _ _ hy
    have y2 : w3.cell? ⟨w.heap.size + 1, 2, none⟩ = some (.string r2) := cell_of_row w3 _ 2 _ _ _ hy
    have y3 : w3.cell? ⟨w.heap.size + 1, 3, none⟩ = some (.string l2) := cell_of_row w3 _ 3 _ _ _ hy
    have y4 : w3.cell? ⟨w.heap.size + 1, 4, none⟩ = some (.slice a2 n2 k2) := cell_of_row w3 _ 4 _ _ _ hy
    have HB3 := Lib.hid hb
    have HB32 := Lib.hid hb3
    clear hb hx hy hb3
    cases g2 with
    | false =>
      go_wp2_with fail
      refine (HCb.out w3 HB3.out).mono ?_
      rintro e w4 ⟨rfl, hb4⟩
      go_wp2
      go_ret
      exact ⟨ret_bool (by rw [HR.out]; rfl), HB3.out.trans (hb4.mono HB3.out.size)⟩
    | true =>
      go_wp2_with fail
      refine (HCb.out w3 HB3.out).mono ?_
      rintro e w4 ⟨rfl, hb4⟩
      clear y0 y1 y2 y3 y4
      obtain ⟨hb, hx, hy⟩ := FIN.out w4 (HB32.out.trans (hb4.mono HB32.out.size))
      have x0 : w4.cell? ⟨w.heap.size, 0, none⟩ = some (.int .i64 c1) := cell_of_row w4 _ 0 _ _ _ hx
      have x1 : w4.cell? ⟨w.heap.size, 1, none⟩ = some (.int .i64 s1) := cell_of_row w4 _ 1 _ _ _ hx
      have x2 : w4.cell? ⟨w.heap.size, 2, none⟩ = some (.string r1) := cell_of_row w4 _ 2 _ _ _ hx
      have x3 : w4.cell? ⟨w.heap.size, 3, none⟩ = some (.string l1) := cell_of_row w4 _ 3 _ _ _ hx
      have x4 : w4.cell? ⟨w.heap.size, 4, none⟩ = some (.slice a1 n1 k1) := cell_of_row w4 _ 4 _ _ _ hx
      have y0 : w4.cell? ⟨w.heap.size + 1, 0, none⟩ = some (.int .i64 c2) := cell_of_row w4 _ 0 _ _ _ hy
      have y1 : w4.cell? ⟨w.heap.size + 1, 1, none⟩ = some (.int .i64 s2) := cell_of_row w4 _ 1 _ _ _ hy
      have y2 : w4.cell? ⟨w.heap.size + 1, 2, none⟩ = some (.string r2) := cell_of_row w4 _ 2 _ _ _ hy
      have y3 : w4.cell? ⟨w.heap.size + 1, 3, none⟩ = some (.string l2) := cell_of_row w4 _ 3 _ _ _ hy
      have y4 : w4.cell? ⟨w.heap.size + 1, 4, none⟩ = some (.slice a2 n2 k2) := cell_of_row w4 _ 4 _ _ _ hy
      have HB4 := Lib.hid hb
      clear hb hx hy hb4
      go_wp2_with fail
      refine (HCv.out trivial trivial w4 HB4.out).mono ?_
      rintro e w5 ⟨rfl, hb5⟩
      go_wp2
      go_ret
      exact ⟨ret_bool (by rw [HR.out]; simp), HB4.out.trans (hb5.mono HB4.out.size)⟩
end Go.Proofs.YtinfpbkbnhcifaaGreatDoor
