/- Contracts of the library laid at this program by hand, after the kit's own layings: maps.Copy, maps.Keys, slices.Sorted at integers. No condition. -/
import Derived.Test.YtinfpbkbnhcifaaGreatDoorQShelfB
import Derived.Shelf.SlIterI.Sorted
import Derived.Shelf.SlMaps.Copy
import Derived.Test.YtinfpbkbnhcifaaGreatDoorQVR10
namespace Go.Proofs.YtinfpbkbnhcifaaGreatDoor
open Go.Shelf Go.Sort Go.RowKit Go.Maps

def copyR : Go.Shelf.Ren := ⟨fun | 5 => 66 | n => n, fun | 0 => 0 | 4 => 4 | 23 => 98 | 24 => 98 | 26 => 3 | 27 => 9 | n => n, fun | n => n⟩
theorem copyL : Go.Proofs.SlLaysX.n5 Tryz.prog copyR := {
  mixed := by kernel_rfl
  f5 := ⟨Tryz.f66.name, by decide, Tryz.func66.trans (congrArg some (by kernel_rfl))⟩
  t0 := Tryz.underlying0
  a0 := Tryz.isAgg0
  z0 := Tryz.sizeOf0
  v0 := Tryz.zeroValue0
  t4 := Tryz.underlying4
  a4 := Tryz.isAgg4
  z4 := Tryz.sizeOf4
  v4 := Tryz.zeroValue4
  t23 := Tryz.underlying98
  a23 := Tryz.isAgg98
  z23 := Tryz.sizeOf98
  v23 := Tryz.zeroValue98
  t24 := Tryz.underlying98
  a24 := Tryz.isAgg98
  z24 := Tryz.sizeOf98
  v24 := Tryz.zeroValue98
  a26 := Tryz.isAgg3
  z26 := Tryz.sizeOf3
  a27 := Tryz.isAgg9
  z27 := Tryz.sizeOf9 }
def keysR : Go.Shelf.Ren := ⟨fun | 7 => 69 | 10 => 102 | n => n, fun | 0 => 0 | 4 => 4 | 23 => 98 | 26 => 3 | 3 => 9 | 27 => 102 | 28 => 103 | 33 => 135 | n => n, fun | n => n⟩
theorem keysL : Go.Proofs.SlLaysZI.n7 Tryz.prog keysR := {
  mixed := by kernel_rfl
  f7 := ⟨Tryz.f69.name, by decide, Tryz.func69.trans (congrArg some (by kernel_rfl))⟩
  f10 := ⟨Tryz.f102.name, by decide, Tryz.func102.trans (congrArg some (by kernel_rfl))⟩
  t0 := Tryz.underlying0
  a0 := Tryz.isAgg0
  z0 := Tryz.sizeOf0
  v0 := Tryz.zeroValue0
  t4 := Tryz.underlying4
  a4 := Tryz.isAgg4
  z4 := Tryz.sizeOf4
  v4 := Tryz.zeroValue4
  t23 := Tryz.underlying98
  a23 := Tryz.isAgg98
  z23 := Tryz.sizeOf98
  v23 := Tryz.zeroValue98
  t26 := Tryz.underlying3
  a26 := Tryz.isAgg3
  z26 := Tryz.sizeOf3
  v26 := Tryz.zeroValue3
  t27 := Tryz.underlying102
  a27 := Tryz.isAgg102
  z27 := Tryz.sizeOf102
  v27 := Tryz.zeroValue102
  t28 := Tryz.underlying103
  a28 := Tryz.isAgg103
  z28 := Tryz.sizeOf103
  v28 := Tryz.zeroValue103
  t33 := Tryz.underlying135
  a33 := Tryz.isAgg135
  z33 := Tryz.sizeOf135
  v33 := Tryz.zeroValue135 }
def sortedR : Go.Shelf.Ren := ⟨fun | 6 => 68 | 8 => 100 | 9 => 101 | 11 => 121 | n => n, fun | 0 => 0 | 24 => 22 | 26 => 3 | 28 => 103 | 33 => 135 | n => n, fun | n => n⟩
theorem sortedL : Go.Proofs.SlLaysZI.n6 Tryz.prog sortedR := {
  mixed := by kernel_rfl
  f6 := ⟨Tryz.f68.name, by decide, Tryz.func68.trans (congrArg some (by kernel_rfl))⟩
  f8 := ⟨Tryz.f100.name, by decide, Tryz.func100.trans (congrArg some (by kernel_rfl))⟩
  f11 := ⟨Tryz.f121.name, by decide, Tryz.func121.trans (congrArg some (by kernel_rfl))⟩
  t0 := Tryz.underlying0
  a0 := Tryz.isAgg0
  z0 := Tryz.sizeOf0
  v0 := Tryz.zeroValue0
  t24 := Tryz.underlying22
  a24 := Tryz.isAgg22
  z24 := Tryz.sizeOf22
  v24 := Tryz.zeroValue22
  t26 := Tryz.underlying3
  a26 := Tryz.isAgg3
  z26 := Tryz.sizeOf3
  v26 := Tryz.zeroValue3
  t28 := Tryz.underlying103
  a28 := Tryz.isAgg103
  z28 := Tryz.sizeOf103
  v28 := Tryz.zeroValue103
  i26 := by kernel_rfl }

/-- slices.Sort's two contracts, inside whatever fence that asks nothing. -/
theorem sortsI (m : Nat) : AnyZI.SortsIn Tryz.prog sortedR Fence.wide m :=
  ⟨fun blk off cap ss W hH hblk hsz => callsIn_wide.2 (Tryz.slices_Sort_int blk off cap ss W hH hblk hsz),
   fun p cap W => callsIn_wide.2 (Tryz.slices_Sort_int_none p cap W)⟩
end Go.Proofs.YtinfpbkbnhcifaaGreatDoor

/- Maps of entries: merged by maps.Copy, their keys sorted. The conditions: what the maps read as. -/
namespace Go.Proofs.YtinfpbkbnhcifaaGreatDoor
open Go.RowKit Go.BigFrame Go.Shelf Go.WideShapes

theorem isMap_fold (es : List (Lit × DU)) : ∀ D : DU, Maps.IsMap D → Maps.IsMap (es.foldl (fun D p => D.put p.1 p.2) D) := by
  induction es with
  | nil => intro D h; exact h
  | cons a es ih => intro D h; exact ih _ (h.put _ _)
theorem reads_merge {w : World} {B n : Nat} {Dd Ds : DU} {Kd Ks : Int → Option ByteArray} (hs : MapAt w B n Ds) (h1 : Reads Dd Kd) (h2 : Reads Ds Ks) : Reads (Lib.mergeD Dd Ds) (fun i => match Ks i with | some s => some s | none => Kd i) := by
  obtain ⟨es, rfl, hp, hk⟩ := World.ownsMap.entries hs lawI
  refine ⟨isMap_fold es Dd h1.1, fun i => ?_⟩
  show Maps.has (es.foldl (fun D p => D.put p.1 p.2) Dd) (.int .i64 i) = (match Ks i with | some s => some s | none => Kd i).isSome ∧ ∀ s, (match Ks i with | some s => some s | none => Kd i) = some s → ∀ z, (es.foldl (fun D p => D.put p.1 p.2) Dd).atKey (.int .i64 i) z = .lit (.string s.data.toList)
  have e1 : Maps.has (DataW.map es) (.int .i64 i) = es.any (fun p => p.1.sameKey (.int .i64 i)) := Maps.has_eq es _
  have e3 := (h2.2 i).1
  rw [e1] at e3
  refine ⟨?_, fun s hs' z => ?_⟩
  · rw [Maps.has_foldPut _ es Dd h1.1 hk, e3, (h1.2 i).1]
    cases Ks i <;> simp
  · rw [Maps.atKey_foldPut _ z es Dd h1.1 hk hp]
    cases hKs : Ks i with
    | some t =>
      rw [hKs] at hs'
      cases hs'
      have h3 := (h2.2 i).2 s hKs z
      rw [hKs] at e3
      cases hf : es.find? (fun p => p.1.sameKey (.int .i64 i)) with
      | none =>
        rw [List.any_eq_false.2 (fun p hp' => by simpa using List.find?_eq_none.1 hf p hp')] at e3
        cases e3
      | some p =>
        have hmem := List.mem_of_find?_eq_some hf
        have hsame := List.find?_some (p := fun (q : Lit × DU) => q.1.sameKey (.int .i64 i)) hf
        have h4 := WideAt.atKey_mem z (hk p hmem) hp hmem
        rw [WideAt.sameKey_eq hsame] at h4
        exact h4.symm.trans h3
    | none =>
      rw [hKs] at hs' e3
      have hf : es.find? (fun p => p.1.sameKey (.int .i64 i)) = none := by
        rw [List.find?_eq_none]
        intro p hp'
        have := List.any_eq_false.1 e3 p hp'
        exact this
      rw [hf]
      exact (h1.2 i).2 s hs' z

/-- The indices that are known, in order. -/
def keysK (K : Int → Option ByteArray) : List Int := ((List.range 60).filter fun i => (K (i : Nat)).isSome).map fun i : Nat => (i : Int)
theorem keysK_asc (K : Int → Option ByteArray) : (keysK K).Pairwise (· < ·) := by
  unfold keysK
  rw [List.pairwise_map]
  exact (List.Pairwise.filter _ List.pairwise_lt_range).imp (fun h => by omega)
theorem mem_keysK {K : Int → Option ByteArray} (hK : ∀ i s, K i = some s → 0 ≤ i ∧ i < 60) (x : Int) : x ∈ keysK K ↔ (K x).isSome = true := by
  unfold keysK
  rw [List.mem_map]
  constructor
  · rintro ⟨i, hi, rfl⟩
    exact (List.mem_filter.1 hi).2
  · intro h
    obtain ⟨s, hs⟩ := Option.isSome_iff_exists.1 h
    obtain ⟨h0, h1⟩ := hK x s hs
    obtain ⟨i, rfl⟩ := Int.eq_ofNat_of_zero_le h0
    exact ⟨i, List.mem_filter.2 ⟨List.mem_range.2 (by omega), h⟩, rfl⟩
theorem itemsK_keys (K : Int → Option ByteArray) : itemsK K = (keysK K).map fun i => { idx := i, ent := (K i).getD ⟨#[]⟩, prf := [] } := by
  unfold itemsK keysK
  rw [List.map_map]
  induction List.range 60 with
  | nil => rfl
  | cons i l ih =>
    rw [List.filterMap_cons, List.filter_cons]
    cases h : K (i : Nat) with
    | none => simpa using ih
    | some s => simp [h, ih]
theorem keys_perm {w : World} {B n : Nat} {D : DU} {K : Int → Option ByteArray} (hm : MapAt w B n D) (hr : Reads D K) (hK : ∀ i s, K i = some s → 0 ≤ i ∧ i < 60) : (keysK K).Perm (intKeys D) := by
  obtain ⟨es, hD, hp, _⟩ := World.ownsMap.entries hm lawI
  obtain ⟨es', hD', hk⟩ := World.ownsMap.keysOf hm
  obtain rfl : es = es' := by rw [hD] at hD'; simpa using hD'
  subst hD
  refine perm_intKeys hp (fun p hp' => ?_) ((keysK_asc K).imp (fun h e => by omega)) (fun x => ?_)
  · obtain ⟨v, hv⟩ := hk p hp'
    obtain ⟨x, _, hx, _⟩ := Maps.keyOf_i64 Tryz.underlying3 hv
    exact ⟨x, hx⟩
  · rw [mem_keysK hK, (hr.2 x).1]
theorem keys_sorted {w : World} {B n : Nat} {D : DU} {K : Int → Option ByteArray} {ss : List Int} (hm : MapAt w B n D) (hr : Reads D K) (hK : ∀ i s, K i = some s → 0 ≤ i ∧ i < 60) (hs : ss.Perm (intKeys D)) : ss.mergeSort (fun x y => decide (x ≤ y)) = keysK K :=
  (mergeSort_of_perm_i (hs.trans (keys_perm hm hr hK).symm)).trans (List.mergeSort_of_pairwise ((keysK_asc K).imp (fun h => decide_eq_true (by omega))))

/-- maps.Copy at two maps of entries. -/
theorem copyM_any {w : World} {bd bs nd ns : Nat} {Dd Ds : DU} (hd : MapAt w bd nd Dd) (hs : MapAt w bs ns Ds) (hne : bd ≠ bs) (hroom : nd + Maps.size Ds ≤ maxLen) :
    Calls Tryz.prog 66 #[.map (some bd), .map (some bs)] w fun e w' => e = .returned (.tuple #[]) ∧ MapAt w' bd (nd + Maps.size Ds) (Lib.mergeD Dd Ds) ∧ w.grownBy w' (some bd) :=
  (AnyX.maps_Copy copyL lawI (plainElem Tryz.prog 9) bd bs nd ns Dd Ds w hd hs hne hroom).mono fun _ _ ⟨h1, h2, _, h4⟩ => ⟨h1, h2, h4⟩
theorem keysM_any (mb : Option Nat) (w : World) : Calls Tryz.prog 69 #[.map mb] w fun e w' => e = .returned (.func (.func 102) #[] #[.pointer (some ⟨w.heap.size, 0, none⟩)]) ∧ w' = w.alloc (.cells #[.map mb] 98) :=
  (callsIn_wide (n := 6)).1 (AnyZI.keys_in keysL Fence.wide 6 trivial rfl mb w)
theorem sortedM_any {w : World} {Bm B n : Nat} {D : DU} {K : Int → Option ByteArray} (hm : w.cell? ⟨Bm, 0, none⟩ = some (.map (some B))) (hb : Bm < w.heap.size) (hown : MapAt w B n D) (hn : n ≤ 1000000000) (hr : Reads D K) (hK : ∀ i s, K i = some s → 0 ≤ i ∧ i < 60) :
    Calls Tryz.prog 68 #[.func (.func 102) #[] #[.pointer (some ⟨Bm, 0, none⟩)]] w fun e w' => ∃ v, e = .returned v ∧ OwnI w' w.heap.size v (keysK K) ∧ Below w.heap.size w w' := by
  have hsz : Maps.size D ≤ 1000000000 := Nat.le_trans (World.ownsMap.size_le hown) hn
  have hseq : SeqGives Fence.wide 3 Tryz.prog 102 #[.pointer (some ⟨Bm, 0, none⟩)] encZ (fun ss => ss.Perm (intKeys D)) (Maps.size D) w :=
    AnyZI.keys_gives (ρ := keysR) { keysL with } Fence.wide _ trivial rfl (by omega) Bm B n D _ hb hm hown
  have cS := AnyZI.sorted_in sortedL Fence.wide 6 trivial trivial trivial trivial rfl (by omega) (sortsI _) (enters_of Tryz.func101 (by kernel_rfl) rfl) 102 #[.pointer (some ⟨Bm, 0, none⟩)] trivial (enters_of Tryz.func102 (by kernel_rfl) rfl) _ _ (by unfold maxLen; omega) (by omega) w hseq
  refine ((callsIn_wide (n := 6)).1 cS).mono ?_
  rintro e w' ⟨v, ss, rfl, hS, hrow, _, hb'⟩
  refine ⟨v, rfl, ?_, hb'⟩
  have e1 := keys_sorted hown hr hK hS
  have e2 : ss.length = (keysK K).length := by rw [← e1, List.length_mergeSort]
  rw [e1, e2] at hrow
  unfold OwnI OwnE icells
  rw [List.length_map]
  have e3 : ((keysK K).map fun n => [Value.int .i64 n]).flatten = (keysK K).map encZ := by
    induction keysK K with
    | nil => rfl
    | cons a l ih => simp [ih, encZ]
  rw [e3]
  exact hrow
end Go.Proofs.YtinfpbkbnhcifaaGreatDoor
