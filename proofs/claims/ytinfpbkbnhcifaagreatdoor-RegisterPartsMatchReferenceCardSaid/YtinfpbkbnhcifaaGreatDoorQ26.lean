/- Contracts of the library (laid by the kit's tool; plain Lean): sorting, cloning, reversing. No condition. -/
import Derived.Shelf.Strings.Builder1
import Derived.Shelf.Strings.Builder2
import Derived.Shelf.Strings.OnBuilder
import Derived.Shelf.Small.Bits
import Derived.Shelf.Strings.BuilderF
import Derived.Shelf.Strconv.Itoa0
import Derived.Shelf.Sort.Plain
import Derived.Ground.Names2Prog
import Derived.Shelf.Slices.ReverseS
import Derived.Shelf.Slices.Clone
import Derived.Shelf.Slices.SearchI
import Derived.Shelf.Slices.Cells
import Derived.Shelf.Slices.In.SortNone
import Derived.Ground.SlgnProg
import Derived.Shelf.SlicesE.Clone
import Derived.Test.YtinfpbkbnhcifaaGreatDoorQ04
import Derived.Shelf.SlIterI.Sorted
import Derived.Shelf.SlMaps.Copy
import Derived.Test.YtinfpbkbnhcifaaGreatDoorQ25
import Derived.Test.YtinfpbkbnhcifaaGreatDoorQ16
namespace Go.Proofs
open Go.Shelf
def Tryz.lays189_ren : Go.Shelf.Ren := ⟨fun | 189 => 101 | 125 => 114 | 257 => 122 | 128 => 129 | 129 => 130 | 294 => 133 | 295 => 134 | 296 => 135 | 297 => 136 | 298 => 137 | 299 => 138 | 216 => 139 | 300 => 140 | 301 => 141 | 328 => 148 | 329 => 149 | 330 => 150 | 331 => 151 | 332 => 152 | 215 => 153 | 343 => 157 | n => n, fun | 28 => 22 | 3 => 3 | 46 => 118 | 0 => 0 | 51 => 114 | 53 => 150 | 4 => 4 | 183 => 179 | 182 => 178 | 131 => 183 | 5 => 5 | 9 => 9 | 218 => 196 | 222 => 200 | 228 => 203 | 229 => 204 | n => n, fun | n => n⟩
theorem Tryz.lays189 : Go.Proofs.Lays.n189 Tryz.prog Tryz.lays189_ren := {
  mixed := by kernel_rfl
  f125 := Tryz.func114.trans (congrArg some (by kernel_rfl))
  f128 := Tryz.func129.trans (congrArg some (by kernel_rfl))
  f129 := Tryz.func130.trans (congrArg some (by kernel_rfl))
  f189 := Tryz.func101.trans (congrArg some (by kernel_rfl))
  f215 := Tryz.func153.trans (congrArg some (by kernel_rfl))
  f216 := Tryz.func139.trans (congrArg some (by kernel_rfl))
  f257 := Tryz.func122.trans (congrArg some (by kernel_rfl))
  f294 := Tryz.func133.trans (congrArg some (by kernel_rfl))
  f295 := Tryz.func134.trans (congrArg some (by kernel_rfl))
  f296 := Tryz.func135.trans (congrArg some (by kernel_rfl))
  f297 := Tryz.func136.trans (congrArg some (by kernel_rfl))
  f298 := Tryz.func137.trans (congrArg some (by kernel_rfl))
  f299 := Tryz.func138.trans (congrArg some (by kernel_rfl))
  f300 := Tryz.func140.trans (congrArg some (by kernel_rfl))
  f301 := Tryz.func141.trans (congrArg some (by kernel_rfl))
  f328 := Tryz.func148.trans (congrArg some (by kernel_rfl))
  f329 := Tryz.func149.trans (congrArg some (by kernel_rfl))
  f330 := Tryz.func150.trans (congrArg some (by kernel_rfl))
  f331 := Tryz.func151.trans (congrArg some (by kernel_rfl))
  f332 := Tryz.func152.trans (congrArg some (by kernel_rfl))
  f343 := Tryz.func157.trans (congrArg some (by kernel_rfl))
  t0 := Tryz.underlying0
  a0 := Tryz.isAgg0
  z0 := Tryz.sizeOf0
  v0 := Tryz.zeroValue0
  t3 := Tryz.underlying3
  a3 := Tryz.isAgg3
  z3 := Tryz.sizeOf3
  v3 := Tryz.zeroValue3
  t4 := Tryz.underlying4
  a4 := Tryz.isAgg4
  z4 := Tryz.sizeOf4
  v4 := Tryz.zeroValue4
  t5 := Tryz.underlying5
  a5 := Tryz.isAgg5
  z5 := Tryz.sizeOf5
  v5 := Tryz.zeroValue5
  t9 := Tryz.underlying9
  a9 := Tryz.isAgg9
  z9 := Tryz.sizeOf9
  v9 := Tryz.zeroValue9
  t28 := Tryz.underlying22
  a28 := Tryz.isAgg22
  z28 := Tryz.sizeOf22
  v28 := Tryz.zeroValue22
  t46 := Tryz.underlying118
  a46 := Tryz.isAgg118
  z46 := Tryz.sizeOf118
  v46 := Tryz.zeroValue118
  t51 := Tryz.underlying114
  a51 := Tryz.isAgg114
  z51 := Tryz.sizeOf114
  v51 := Tryz.zeroValue114
  t53 := Tryz.underlying150
  a53 := Tryz.isAgg150
  z53 := Tryz.sizeOf150
  v53 := Tryz.zeroValue150
  t131 := Tryz.underlying183
  a131 := Tryz.isAgg183
  z131 := Tryz.sizeOf183
  v131 := Tryz.zeroValue183
  t182 := Tryz.underlying178
  a182 := Tryz.isAgg178
  z182 := Tryz.sizeOf178
  v182 := Tryz.zeroValue178
  t183 := Tryz.underlying179
  a183 := Tryz.isAgg179
  z183 := Tryz.sizeOf179
  v183 := Tryz.zeroValue179
  t218 := Tryz.underlying196
  a218 := Tryz.isAgg196
  z218 := Tryz.sizeOf196
  v218 := Tryz.zeroValue196
  t222 := Tryz.underlying200
  a222 := Tryz.isAgg200
  z222 := Tryz.sizeOf200
  v222 := Tryz.zeroValue200
  t228 := Tryz.underlying203
  a228 := Tryz.isAgg203
  z228 := Tryz.sizeOf203
  v228 := Tryz.zeroValue203
  t229 := Tryz.underlying204
  a229 := Tryz.isAgg204
  z229 := Tryz.sizeOf204
  v229 := Tryz.zeroValue204 }
open Go.Sort Go.RowKit in
theorem Tryz.slices_Sort_int (blk off cap : Nat) (zs : List Int) (w : World) (hH : Holds (Value.int .i64) w blk off zs.toArray) (hblk : blk < w.heap.size) (hsz : zs.length < 4611686018427387904) :
    Calls Tryz.prog 101 #[.slice (some ⟨blk, off, none⟩) zs.length cap] w fun e w' =>
      e = .returned (.tuple #[]) ∧ ∃ n os, w' = grow (putRow (Value.int .i64) (Sort.ahead w n) blk off (zs.mergeSort fun x y => decide (x ≤ y)).toArray) os := Any.slices_Sort_int Tryz.lays189 blk off cap zs w hH hblk hsz
def Tryz.laysNm216_ren : Go.Shelf.Ren := ⟨fun | 16 => 79 | n => n, fun | 24 => 24 | 9 => 9 | 4 => 4 | n => n, fun | n => n⟩
theorem Tryz.laysNm216 : Go.Proofs.Lays2.n16 Tryz.prog Tryz.laysNm216_ren := {
  mixed := by kernel_rfl
  f16 := Tryz.func79.trans (congrArg some (by kernel_rfl))
  t4 := Tryz.underlying4
  a4 := Tryz.isAgg4
  z4 := Tryz.sizeOf4
  v4 := Tryz.zeroValue4
  t9 := Tryz.underlying9
  a9 := Tryz.isAgg9
  z9 := Tryz.sizeOf9
  v9 := Tryz.zeroValue9
  t24 := Tryz.underlying24
  a24 := Tryz.isAgg24
  z24 := Tryz.sizeOf24
  v24 := Tryz.zeroValue24
  i9 := by kernel_rfl }
open Go.RowKit Go.Lib in
/-- slices.Clone at []string: "Clone returns a copy of the slice. The elements are copied using assignment, so this is a shallow clone. The result may have additional unused capacity. The result preserves the nilness of s.": OF A SLICE THAT IS NOT nil IT RETURNS A SLICE THAT IS NOT nil, OF THE SAME ELEMENTS, IN MEMORY OF THE CALL's OWN: in the how-to's words (6f): 'w'.ownsRow B e 1 v' n cells': v' begins at the head of a row among the blocks from B on (B: the heap's size at the call), not frozen, whose first cells are the elements · 'Below B w w'': below B all is as it was. The capacity is whatever the run-time gives. 'zs': what the cells behind the slice's address hold; 'zs.take n': its elements. (LAID: no walk: one application.) -/
theorem Tryz.slices_Clone_string (b off n c : Nat) (zs : List ByteArray) (w : World) (hz : n ≤ zs.length) (hbig : n * 16 ≤ 140737488355328) (hc : ∀ j, j < zs.length → w.cell? ⟨b, off + j, none⟩ = some (.string (zs.getD j ByteArray.empty))) :
    Calls Tryz.prog 79 #[.slice (some ⟨b, off, none⟩) n c] w fun e w' => ∃ v', e = .returned v' ∧ w'.ownsRow w.heap.size 9 1 v' n ((zs.take n).map (Value.string)) ∧ v' ≠ .slice none 0 0 ∧ Below w.heap.size w w' := Any.slices_Clone_string Tryz.laysNm216 b off n c zs w hz hbig hc
open Go.RowKit Go.Lib in
/-- The same at nil: nil comes back; the world is as it was. (LAID: no walk: one application.) -/
theorem Tryz.slices_Clone_string_nil (n c : Nat) (w : World) :
    Calls Tryz.prog 79 #[.slice none n c] w fun e w' => e = .returned (.slice none 0 0) ∧ w' = w := Any.slices_Clone_string_nil Tryz.laysNm216 n c w
open Go.RowKit Go.Lib in
/-- The same at a slice of length 0 that is not nil, WHATEVER ITS ADDRESS (no cell is asked for): a slice that is not nil and owns nothing comes back. (LAID: no walk: one application.) -/
theorem Tryz.slices_Clone_string_zero (a : Addr) (c : Nat) (w : World) :
    Calls Tryz.prog 79 #[.slice (some a) 0 c] w fun e w' => ∃ v', e = .returned v' ∧ w'.ownsRow w.heap.size 9 1 v' 0 [] ∧ v' ≠ .slice none 0 0 ∧ Below w.heap.size w w' := Any.slices_Clone_string_zero Tryz.laysNm216 a c w
open Go.RowKit Go.Sort in
/-- .. and plain. (LAID: no walk: one application.) -/
theorem Tryz.slices_Sort_int_none (p : Option Addr) (cap : Nat) (w : World) :
    Calls Tryz.prog 101 #[.slice p 0 cap] w fun e w' => e = .returned (.tuple #[]) ∧ w' = w := Any.slices_Sort_int_none Tryz.lays189 p cap w
end Go.Proofs

/- Contracts of the library laid at this program by hand, after the kit's own layings: maps.Copy, maps.Keys, slices.Sorted at integers. No condition. -/
namespace Go.Proofs.YtinfpbkbnhcifaaGreatDoor
open Go.Shelf Go.Sort Go.RowKit Go.Maps

def copyR : Go.Shelf.Ren := ⟨fun | 5 => 66 | n => n, fun | 0 => 0 | 4 => 4 | 23 => 98 | 24 => 98 | 26 => 3 | 27 => 9 | n => n, fun | n => n⟩
theorem copyL : Go.Proofs.SlLaysX.n5 Tryz.prog copyR := {
  mixed := by kernel_rfl
  f5 := ⟨Tryz.f66.name, by decide, Tryz.func66.trans (congrArg some (by kernel_rfl))⟩
  t0 := Tryz.underlying0
  a0 := Tryz.isAgg0
  z0 := Tryz.sizeOf0
  v0 := Tryz.zeroValue0
  t4 := Tryz.underlying4
  a4 := Tryz.isAgg4
  z4 := Tryz.sizeOf4
  v4 := Tryz.zeroValue4
  t23 := Tryz.underlying98
  a23 := Tryz.isAgg98
  z23 := Tryz.sizeOf98
  v23 := Tryz.zeroValue98
  t24 := Tryz.underlying98
  a24 := Tryz.isAgg98
  z24 := Tryz.sizeOf98
  v24 := Tryz.zeroValue98
  a26 := Tryz.isAgg3
  z26 := Tryz.sizeOf3
  a27 := Tryz.isAgg9
  z27 := Tryz.sizeOf9 }
def keysR : Go.Shelf.Ren := ⟨fun | 7 => 69 | 10 => 102 | n => n, fun | 0 => 0 | 4 => 4 | 23 => 98 | 26 => 3 | 3 => 9 | 27 => 102 | 28 => 103 | 33 => 135 | n => n, fun | n => n⟩
theorem keysL : Go.Proofs.SlLaysZI.n7 Tryz.prog keysR := {
  mixed := by kernel_rfl
  f7 := ⟨Tryz.f69.name, by decide, Tryz.func69.trans (congrArg some (by kernel_rfl))⟩
  f10 := ⟨Tryz.f102.name, by decide, Tryz.func102.trans (congrArg some (by kernel_rfl))⟩
  t0 := Tryz.underlying0
  a0 := Tryz.isAgg0
  z0 := Tryz.sizeOf0
  v0 := Tryz.zeroValue0
  t4 := Tryz.underlying4
  a4 := Tryz.isAgg4
  z4 := Tryz.sizeOf4
  v4 := Tryz.zeroValue4
  t23 := Tryz.underlying98
  a23 := Tryz.isAgg98
  z23 := Tryz.sizeOf98
  v23 := Tryz.zeroValue98
  t26 := Tryz.underlying3
  a26 := Tryz.isAgg3
  z26 := Tryz.sizeOf3
  v26 := Tryz.zeroValue3
  t27 := Tryz.underlying102
  a27 := Tryz.isAgg102
  z27 := Tryz.sizeOf102
  v27 := Tryz.zeroValue102
  t28 := Tryz.underlying103
  a28 := Tryz.isAgg103
  z28 := Tryz.sizeOf103
  v28 := Tryz.zeroValue103
  t33 := Tryz.underlying135
  a33 := Tryz.isAgg135
  z33 := Tryz.sizeOf135
  v33 := Tryz.zeroValue135 }
def sortedR : Go.Shelf.Ren := ⟨fun | 6 => 68 | 8 => 100 | 9 => 101 | 11 => 121 | n => n, fun | 0 => 0 | 24 => 22 | 26 => 3 | 28 => 103 | 33 => 135 | n => n, fun | n => n⟩
theorem sortedL : Go.Proofs.SlLaysZI.n6 Tryz.prog sortedR := {
  mixed := by kernel_rfl
  f6 := ⟨Tryz.f68.name, by decide, Tryz.func68.trans (congrArg some (by kernel_rfl))⟩
  f8 := ⟨Tryz.f100.name, by decide, Tryz.func100.trans (congrArg some (by kernel_rfl))⟩
  f11 := ⟨Tryz.f121.name, by decide, Tryz.func121.trans (congrArg some (by kernel_rfl))⟩
  t0 := Tryz.underlying0
  a0 := Tryz.isAgg0
  z0 := Tryz.sizeOf0
  v0 := Tryz.zeroValue0
  t24 := Tryz.underlying22
  a24 := Tryz.isAgg22
  z24 := Tryz.sizeOf22
  v24 := Tryz.zeroValue22
  t26 := Tryz.underlying3
  a26 := Tryz.isAgg3
  z26 := Tryz.sizeOf3
  v26 := Tryz.zeroValue3
  t28 := Tryz.underlying103
  a28 := Tryz.isAgg103
  z28 := Tryz.sizeOf103
  v28 := Tryz.zeroValue103
  i26 := by kernel_rfl }

/-- slices.Sort's two contracts, inside whatever fence that asks nothing. -/
theorem sortsI (m : Nat) : AnyZI.SortsIn Tryz.prog sortedR Fence.wide m :=
  ⟨fun blk off cap ss W hH hblk hsz => callsIn_wide.2 (Tryz.slices_Sort_int blk off cap ss W hH hblk hsz),
   fun p cap W => callsIn_wide.2 (Tryz.slices_Sort_int_none p cap W)⟩
end Go.Proofs.YtinfpbkbnhcifaaGreatDoor

/- Maps of entries: merged by maps.Copy, their keys sorted. The conditions: what the maps read as. -/
namespace Go.Proofs.YtinfpbkbnhcifaaGreatDoor
open Go.RowKit Go.BigFrame Go.Shelf Go.WideShapes

theorem isMap_fold (es : List (Lit × DU)) : ∀ D : DU, Maps.IsMap D → Maps.IsMap (es.foldl (fun D p => D.put p.1 p.2) D) := by
  induction es with
  | nil => intro D h; exact h
  | cons a es ih => intro D h; exact ih _ (h.put _ _)
theorem reads_merge {w : World} {B n : Nat} {Dd Ds : DU} {Kd Ks : Int → Option ByteArray} (hs : MapAt w B n Ds) (h1 : Reads Dd Kd) (h2 : Reads Ds Ks) : Reads (Lib.mergeD Dd Ds) (fun i => match Ks i with | some s => some s | none => Kd i) := by
  obtain ⟨es, rfl, hp, hk⟩ := World.ownsMap.entries hs lawI
  refine ⟨isMap_fold es Dd h1.1, fun i => ?_⟩
  show Maps.has (es.foldl (fun D p => D.put p.1 p.2) Dd) (.int .i64 i) = (match Ks i with | some s => some s | none => Kd i).isSome ∧ ∀ s, (match Ks i with | some s => some s | none => Kd i) = some s → ∀ z, (es.foldl (fun D p => D.put p.1 p.2) Dd).atKey (.int .i64 i) z = .lit (.string s.data.toList)
  have e1 : Maps.has (DataW.map es) (.int .i64 i) = es.any (fun p => p.1.sameKey (.int .i64 i)) := Maps.has_eq es _
  have e3 := (h2.2 i).1
  rw [e1] at e3
  refine ⟨?_, fun s hs' z => ?_⟩
  · rw [Maps.has_foldPut _ es Dd h1.1 hk, e3, (h1.2 i).1]
    cases Ks i <;> simp
  · rw [Maps.atKey_foldPut _ z es Dd h1.1 hk hp]
    cases hKs : Ks i with
    | some t =>
      rw [hKs] at hs'
      cases hs'
      have h3 := (h2.2 i).2 s hKs z
      rw [hKs] at e3
      cases hf : es.find? (fun p => p.1.sameKey (.int .i64 i)) with
      | none =>
        rw [List.any_eq_false.2 (fun p hp' => by simpa using List.find?_eq_none.1 hf p hp')] at e3
        cases e3
      | some p =>
        have hmem := List.mem_of_find?_eq_some hf
        have hsame := List.find?_some (p := fun (q : Lit × DU) => q.1.sameKey (.int .i64 i)) hf
        have h4 := WideAt.atKey_mem z (hk p hmem) hp hmem
        rw [WideAt.sameKey_eq hsame] at h4
        exact h4.symm.trans h3
    | none =>
      rw [hKs] at hs' e3
      have hf : es.find? (fun p => p.1.sameKey (.int .i64 i)) = none := by
        rw [List.find?_eq_none]
        intro p hp'
        have := List.any_eq_false.1 e3 p hp'
        exact this
      rw [hf]
      exact (h1.2 i).2 s hs' z

/-- The indices that are known, in order. -/
def keysK (K : Int → Option ByteArray) : List Int := ((List.range 60).filter fun i => (K (i : Nat)).isSome).map fun i : Nat => (i : Int)
theorem keysK_asc (K : Int → Option ByteArray) : (keysK K).Pairwise (· < ·) := by
  unfold keysK
  rw [List.pairwise_map]
  exact (List.Pairwise.filter _ List.pairwise_lt_range).imp (fun h => by omega)
theorem mem_keysK {K : Int → Option ByteArray} (hK : ∀ i s, K i = some s → 0 ≤ i ∧ i < 60) (x : Int) : x ∈ keysK K ↔ (K x).isSome = true := by
  unfold keysK
  rw [List.mem_map]
  constructor
  · rintro ⟨i, hi, rfl⟩
    exact (List.mem_filter.1 hi).2
  · intro h
    obtain ⟨s, hs⟩ := Option.isSome_iff_exists.1 h
    obtain ⟨h0, h1⟩ := hK x s hs
    obtain ⟨i, rfl⟩ := Int.eq_ofNat_of_zero_le h0
    exact ⟨i, List.mem_filter.2 ⟨List.mem_range.2 (by omega), h⟩, rfl⟩
theorem itemsK_keys (K : Int → Option ByteArray) : itemsK K = (keysK K).map fun i => { idx := i, ent := (K i).getD ⟨#[]⟩, prf := [] } := by
  unfold itemsK keysK
  rw [List.map_map]
  induction List.range 60 with
  | nil => rfl
  | cons i l ih =>
    rw [List.filterMap_cons, List.filter_cons]
    cases h : K (i : Nat) with
    | none => simpa using ih
    | some s => simp [h, ih]
theorem keys_perm {w : World} {B n : Nat} {D : DU} {K : Int → Option ByteArray} (hm : MapAt w B n D) (hr : Reads D K) (hK : ∀ i s, K i = some s → 0 ≤ i ∧ i < 60) : (keysK K).Perm (intKeys D) := by
  obtain ⟨es, hD, hp, _⟩ := World.ownsMap.entries hm lawI
  obtain ⟨es', hD', hk⟩ := World.ownsMap.keysOf hm
  obtain rfl : es = es' := by rw [hD] at hD'; simpa using hD'
  subst hD
  refine perm_intKeys hp (fun p hp' => ?_) ((keysK_asc K).imp (fun h e => by omega)) (fun x => ?_)
  · obtain ⟨v, hv⟩ := hk p hp'
    obtain ⟨x, _, hx, _⟩ := Maps.keyOf_i64 Tryz.underlying3 hv
    exact ⟨x, hx⟩
  · rw [mem_keysK hK, (hr.2 x).1]
theorem keys_sorted {w : World} {B n : Nat} {D : DU} {K : Int → Option ByteArray} {ss : List Int} (hm : MapAt w B n D) (hr : Reads D K) (hK : ∀ i s, K i = some s → 0 ≤ i ∧ i < 60) (hs : ss.Perm (intKeys D)) : ss.mergeSort (fun x y => decide (x ≤ y)) = keysK K :=
  (mergeSort_of_perm_i (hs.trans (keys_perm hm hr hK).symm)).trans (List.mergeSort_of_pairwise ((keysK_asc K).imp (fun h => decide_eq_true (by omega))))

/-- maps.Copy at two maps of entries. -/
theorem copyM_any {w : World} {bd bs nd ns : Nat} {Dd Ds : DU} (hd : MapAt w bd nd Dd) (hs : MapAt w bs ns Ds) (hne : bd ≠ bs) (hroom : nd + Maps.size Ds ≤ maxLen) :
    Calls Tryz.prog 66 #[.map (some bd), .map (some bs)] w fun e w' => e = .returned (.tuple #[]) ∧ MapAt w' bd (nd + Maps.size Ds) (Lib.mergeD Dd Ds) ∧ w.grownBy w' (some bd) :=
  (AnyX.maps_Copy copyL lawI (plainElem Tryz.prog 9) bd bs nd ns Dd Ds w hd hs hne hroom).mono fun _ _ ⟨h1, h2, _, h4⟩ => ⟨h1, h2, h4⟩
theorem keysM_any (mb : Option Nat) (w : World) : Calls Tryz.prog 69 #[.map mb] w fun e w' => e = .returned (.func (.func 102) #[] #[.pointer (some ⟨w.heap.size, 0, none⟩)]) ∧ w' = w.alloc (.cells #[.map mb] 98) :=
  (callsIn_wide (n := 6)).1 (AnyZI.keys_in keysL Fence.wide 6 trivial rfl mb w)
theorem sortedM_any {w : World} {Bm B n : Nat} {D : DU} {K : Int → Option ByteArray} (hm : w.cell? ⟨Bm, 0, none⟩ = some (.map (some B))) (hb : Bm < w.heap.size) (hown : MapAt w B n D) (hn : n ≤ 1000000000) (hr : Reads D K) (hK : ∀ i s, K i = some s → 0 ≤ i ∧ i < 60) :
    Calls Tryz.prog 68 #[.func (.func 102) #[] #[.pointer (some ⟨Bm, 0, none⟩)]] w fun e w' => ∃ v, e = .returned v ∧ OwnI w' w.heap.size v (keysK K) ∧ Below w.heap.size w w' := by
  have hsz : Maps.size D ≤ 1000000000 := Nat.le_trans (World.ownsMap.size_le hown) hn
  have hseq : SeqGives Fence.wide 3 Tryz.prog 102 #[.pointer (some ⟨Bm, 0, none⟩)] encZ (fun ss => ss.Perm (intKeys D)) (Maps.size D) w :=
    AnyZI.keys_gives (ρ := keysR) { keysL with } Fence.wide _ trivial rfl (by omega) Bm B n D _ hb hm hown
  have cS := AnyZI.sorted_in sortedL Fence.wide 6 trivial trivial trivial trivial rfl (by omega) (sortsI _) (enters_of Tryz.func101 (by kernel_rfl) rfl) 102 #[.pointer (some ⟨Bm, 0, none⟩)] trivial (enters_of Tryz.func102 (by kernel_rfl) rfl) _ _ (by unfold maxLen; omega) (by omega) w hseq
  refine ((callsIn_wide (n := 6)).1 cS).mono ?_
  rintro e w' ⟨v, ss, rfl, hS, hrow, _, hb'⟩
  refine ⟨v, rfl, ?_, hb'⟩
  have e1 := keys_sorted hown hr hK hS
  have e2 : ss.length = (keysK K).length := by rw [← e1, List.length_mergeSort]
  rw [e1, e2] at hrow
  unfold OwnI OwnE icells
  rw [List.length_map]
  have e3 : ((keysK K).map fun n => [Value.int .i64 n]).flatten = (keysK K).map encZ := by
    induction keysK K with
    | nil => rfl
    | cons a l ih => simp [ih, encZ]
  rw [e3]
  exact hrow
end Go.Proofs.YtinfpbkbnhcifaaGreatDoor

/- The walk of register.Join where no part is bad. The conditions: what the slices read as, lengths, the table of constants. -/
namespace Go.Proofs.YtinfpbkbnhcifaaGreatDoor
open Go.RowKit Go.BigFrame Go.Shelf

attribute [local go_sem] Oper.semAt_some

def partV (z : PartP × Value) : Value := .agg #[.int .i64 z.1.head.car, .int .i64 z.1.head.siz, .string z.1.head.root, .string z.1.head.sl, z.2]
theorem good_parts {key : ByteArray} {l : List PartP} (h : joinBad key l = false) : key.size = 32 ∧ l.any (badP key (firstCar l)) = false ∧ ∀ p ∈ l, checkB key p = true := by
  unfold joinBad at h
  rw [Bool.or_eq_false_iff] at h
  refine ⟨by simpa using h.1, h.2, fun p hp => ?_⟩
  have := List.any_eq_false.1 h.2 p hp
  unfold badP at this
  cases hc : checkB key p with
  | true => rfl
  | false => rw [hc] at this; simp at this
theorem smallI_part {key : ByteArray} {p : PartP} {ys : List (ItemP × Value)} (hc : checkB key p = true) (hy : ys.map (·.1) = p.items) : SmallI ys := fun y hm => check_mem hc y.1 (by rw [← hy]; exact List.mem_map.2 ⟨y, hm, rfl⟩)
theorem conv_at {key : ByteArray} {w W : World} {v : Value} {zs : List (PartP × Value)} (hz : PS w v zs) (hf : FitP zs) (hc : ∀ p ∈ zs.map (·.1), checkB key p = true) {i k : Nat} {zi zk : PartP × Value} (hi : zs[i]? = some zi) (hk : zs[k]? = some zk) (hW : Below w.heap.size w W) :
    Calls Tryz.prog 58 #[partV zi, partV zk] W fun e w' => e = .returned (.bool (pairAt (zs.map (·.1)) (i, k))) ∧ Below W.heap.size W w' := by
  have e : pairAt (zs.map (·.1)) (i, k) = convB zi.1 zk.1 := by
    unfold pairAt
    simp only [List.getElem?_map, hi, hk, Option.map_some]
  rw [e]
  have mi := List.mem_of_getElem? hi
  have mk := List.mem_of_getElem? hk
  obtain ⟨yi, hyi, si⟩ := (hz.below hW).2 zi mi
  obtain ⟨yk, hyk, sk⟩ := (hz.below hW).2 zk mk
  replace si := si.is
  replace sk := sk.is
  have ci := hc zi.1 (List.mem_map.2 ⟨zi, mi, rfl⟩)
  have ck := hc zk.1 (List.mem_map.2 ⟨zk, mk, rfl⟩)
  obtain ⟨_, q2, _⟩ := hf.2 zi mi
  obtain ⟨⟨⟨a1, a2, a3, a4⟩, its1⟩, v1⟩ := zi
  obtain ⟨⟨⟨b1, b2, b3, b4⟩, its2⟩, v2⟩ := zk
  simp only at hyi hyk si sk q2
  subst hyi hyk
  exact convicts_any a1 a2 a3 a4 b1 b2 b3 b4 si sk (by rw [List.length_map] at q2; exact q2) (smallI_part ci rfl) (smallI_part ck rfl)

theorem pair_mem {n i k : Nat} (h1 : i < k) (h2 : k < n) : (i, k) ∈ pairsL n := by
  unfold pairsL pairsOf
  rw [List.mem_flatMap]
  refine ⟨i, List.mem_range.2 (by omega), ?_⟩
  rw [List.mem_map]
  refine ⟨k, ?_, rfl⟩
  rw [List.mem_range'_1]
  omega
theorem abide_join {α : Type} {w : World} {B : Nat} {key : ByteArray} {v r1 r2 r3 r4 : Value} (hB : w.heap.size + 6 ≤ B) : Abide (α := α) none B (fun _ W => JoinAt w W key v r1 r2 r3 r4) :=
  abide_and (abide_below (by omega) (Nat.le_refl _) (fun k e => by cases e)) (abide_and (abide_old _ (by omega) (by simp)) (abide_and (abide_old _ (by omega) (by simp)) (abide_and (abide_old _ (by omega) (by simp)) (abide_and (abide_old _ (by omega) (by simp)) (abide_and (abide_old _ (by omega) (by simp)) (abide_old _ (by omega) (by simp)))))))
theorem knownB_app (xs ys : List ItemP) (i : Int) : knownB (xs ++ ys) i = match knownB ys i with | some s => some s | none => knownB xs i := by
  induction xs with
  | nil => rw [List.nil_append]; cases knownB ys i <;> rfl
  | cons x xs ih =>
    rw [List.cons_append, knownB, ih, knownB]
    cases knownB ys i <;> rfl
theorem knownL_snoc (l : List PartP) (p : PartP) : knownL (l ++ [p]) = fun i => match knownB p.items i with | some s => some s | none => knownL l i := by
  funext i
  unfold knownL
  rw [List.flatMap_append]
  simp only [List.flatMap_cons, List.flatMap_nil, List.append_nil]
  exact knownB_app _ _ _
theorem known_small {l : List PartP} (hl : ∀ p ∈ l, ∀ x ∈ p.items, 0 ≤ x.idx ∧ x.idx < 60) : ∀ i s, knownL l i = some s → 0 ≤ i ∧ i < 60 := by
  have key : ∀ (xs : List ItemP), (∀ x ∈ xs, 0 ≤ x.idx ∧ x.idx < 60) → ∀ i s, knownB xs i = some s → 0 ≤ i ∧ i < 60 := by
    intro xs
    induction xs with
    | nil => intro _ i s h; cases h
    | cons x xs ih =>
      intro hx i s h
      rw [knownB] at h
      cases hk : knownB xs i with
      | some t => exact ih (fun y hy => hx y (by simp [hy])) i t hk
      | none =>
        rw [hk] at h
        by_cases e : x.idx = i
        · rw [← e]; exact hx x (by simp)
        · simp only [e, if_false] at h
          cases h
  intro i s h
  exact key _ (fun x hx => by
    obtain ⟨p, hp, hx⟩ := List.mem_flatMap.1 hx
    exact hl p hp x hx) i s h

theorem OwnE.low {w : World} {base : Nat} {e : TypeId} {size : Nat} {v : Value} {css : List (List Value)} (h : OwnE w base e size v css) {k : Nat} (hk : k < base) (x : Value) : OwnE (w.setCell ⟨k, 0, none⟩ x) base e size v css :=
  World.ownsRow.kept h (grown_setCell (grown_refl _ _) ⟨k, 0, none⟩ (.inl rfl) x) (.inr (fun e' => by have := h.ge k e'; omega))
theorem JoinAt.taken {w W W' : World} {B : Nat} {key : ByteArray} {v r1 r2 r3 r4 : Value} (h : JoinAt w W key v r1 r2 r3 r4) (ht : Taken B W W') (hB : w.heap.size ≤ B) : JoinAt w W' key v r1 r2 r3 r4 := by
  obtain ⟨h0, h1, h2, h3, h4, h5, h6⟩ := h
  exact ⟨h0.trans (ht.below.mono hB), ht.cells _ _ h1 rfl, ht.cells _ _ h2 rfl, ht.cells _ _ h3 rfl, ht.cells _ _ h4 rfl, ht.cells _ _ h5 rfl, ht.cells _ _ h6 rfl⟩
/-- The cells of items with known entries. -/
def kcell (K : Int → Option ByteArray) (i : Int) : List Value := [.int .i64 i, .string ((K i).getD ⟨#[]⟩), .slice none 0 0]
def kcells (K : Int → Option ByteArray) (l : List Int) : List (List Value) := l.map (kcell K)
theorem kcells_take {K : Int → Option ByteArray} {l : List Int} {k : Nat} {i : Int} (h : l[k]? = some i) : kcells K (l.take (k + 1)) = kcells K (l.take k) ++ [kcell K i] := by
  unfold kcells
  rw [List.take_add_one, h, List.map_append]
  rfl
theorem kcells_it {w : World} {base : Nat} {v : Value} {K : Int → Option ByteArray} (h : OwnE w base 53 3 v (kcells K (keysK K))) : IT w v (itemsK K) := by
  refine ⟨(keysK K).map fun i => ({ idx := i, ent := (K i).getD ⟨#[]⟩, prf := [] }, .slice none 0 0), ?_, ⟨?_, ?_⟩, rowTy_own h, fun y hy => ?_⟩
  · rw [List.map_map, itemsK_keys]
    rfl
  · have e : itcells ((keysK K).map fun i => (({ idx := i, ent := (K i).getD ⟨#[]⟩, prf := [] } : ItemP), Value.slice none 0 0)) = kcells K (keysK K) := by
      unfold itcells kcells
      rw [List.map_map]
      rfl
    rw [e]
    refine h.slice (fun c hc => ?_)
    unfold kcells at hc
    rw [List.mem_map] at hc
    obtain ⟨i, _, rfl⟩ := hc
    rfl
  · intro y hy
    rw [List.mem_map] at hy
    obtain ⟨i, _, rfl⟩ := hy
    exact SliceAt.nil w 1
  · rw [List.mem_map] at hy
    obtain ⟨i, _, rfl⟩ := hy
    exact rowTy_nil w _

theorem keys_open {w : World} {base : Nat} {v : Value} {l : List Int} (h : OwnI w base v l) : ∃ a n cap, v = .slice a n cap ∧ n = l.length ∧ n ≤ cap ∧ ∀ k s, l[k]? = some s → ∃ b off, a = some ⟨b, off, none⟩ ∧ b < w.heap.size ∧ w.cell? ⟨b, off + k, none⟩ = some (.int .i64 s) := by
  obtain ⟨a, cap, h1, h2, _, h4⟩ := IL.opened h.is
  exact ⟨a, l.length, cap, h1, rfl, h2, h4⟩

theorem keysK_len (K : Int → Option ByteArray) : (keysK K).length ≤ 60 := by
  unfold keysK
  rw [List.length_map]
  exact Nat.le_trans (List.length_filter_le _ _) (by rw [List.length_range]; exact Nat.le_refl _)

set_option maxHeartbeats 8000000 in
set_option maxRecDepth 100000 in
theorem join_yes {key : ByteArray} {w : World} {v : Value} {zs : List (PartP × Value)} (hz : PS w v zs) (hf : FitP zs) (he : Env w) (hg : 0 < w.heap.size) (hgood : joinBad key (zs.map (·.1)) = false) (hnone : (pairsL zs.length).find? (pairAt (zs.map (·.1))) = none) :
    Calls Tryz.prog 26 #[.string key, v] w fun e w' => ∃ v', e = .returned (.tuple #[v', .int .i64 (-1), .int .i64 (-1), .int .i64 0]) ∧ IT w' v' (itemsK (knownL (zs.map (·.1)))) ∧ Below w.heap.size w w' := by
  obtain ⟨hk32, hany, hck⟩ := good_parts hgood
  obtain ⟨a, cap, rfl, l1, l2, l3⟩ := hz.opened
  have HL3 := Lib.hid l3
  have HJ := Lib.hid (JoinAt.start w key (.slice a zs.length cap))
  have HBd := Lib.hid (bad_at hz hf (by omega) he hg HJ.out)
  rw [hany] at HBd
  have HNo : Hid (∀ x ∈ pairsL zs.length, pairAt (zs.map (·.1)) x = false) := Lib.hid (fun x hx => by
    have := List.find?_eq_none.1 hnone x hx
    simpa using this)
  have HCv : Hid (∀ (W : World) (i k : Nat) (zi zk : PartP × Value), Below w.heap.size w W → zs[i]? = some zi → zs[k]? = some zk → Calls Tryz.prog 58 #[partV zi, partV zk] W fun e w' => e = .returned (.bool (pairAt (zs.map (·.1)) (i, k))) ∧ Below W.heap.size W w') := Lib.hid (fun W i k zi zk hW hi hk => conv_at hz hf hck hi hk hW)
  obtain ⟨W6, hW6⟩ : ∃ W6, W6 = joinW w key (.slice a zs.length cap) := ⟨_, rfl⟩
  rw [← hW6] at HJ HBd
  unfold joinW at hW6
  have HW6 := Lib.hid hW6
  have HI := Lib.hid (isKey_any key W6)
  rw [decide_eq_true hk32] at HI
  have HZ := Lib.hid hz
  have HCK := Lib.hid hck
  have HF := Lib.hid hf
  have hzl := hf.1
  obtain ⟨PA, hPA⟩ : ∃ PA, PA = pairAt (zs.map (·.1)) := ⟨_, rfl⟩
  rw [← hPA] at HNo HCv
  clear hPA
  obtain ⟨n, hn⟩ : ∃ n, n = zs.length := ⟨_, rfl⟩
  rw [← hn] at HJ HBd HW6 HNo l1 hzl ⊢
  have HN := Lib.hid hn
  clear hW6 hz hf he hg hgood hnone hany hck l3 hn hk32
  obtain ⟨c1, c2⟩ := HJ.out.cells
  have hmm := @run_makeMap Tryz.prog
  refine calls_of_callsIn (n := 8) Wide.wide (callsIn_of_wp_marks Tryz.func26 rfl trivial ?_)
  simp only [Tryz.ntmps26, List.size_toArray, List.length_cons, List.length_nil, Nat.reduceAdd, Nat.reduceSub, Array.replicate_succ, Array.replicate_zero, List.push_toArray, List.append_toArray, List.nil_append, List.cons_append]
  refine wpIn_wide.2 ?_
  go_wp2_with (first | (go_at_call 63; rw [← HW6.out]; refine HI.out.mono ?_; rintro e w3 ⟨rfl, rfl⟩) | (go_at_call 64; refine HBd.out.mono ?_; rintro e w4 ⟨rfl, hb4⟩; have HJ4 := Lib.hid (HJ.out.far hb4); obtain ⟨c1, c2⟩ := HJ4.out.cells; clear hb4) | (go_at_call 65; refine (pairs_any _ _ _ _).mono ?_; rintro e w5 ⟨rfl, rfl⟩))
  have hs4 := HJ4.out.size
  have HJ5 := Lib.hid (HJ4.out.far ((Below.refl _ _).alloc (Nat.le_refl _) (.cells #[.slice a n cap] 30)))
  have HP5 := Lib.hid (heap_alloc_new w4 (.cells #[.slice a n cap] 30))
  have hs5 : (w4.alloc (.cells #[.slice a n cap] 30)).heap.size = w4.heap.size + 1 := by simp
  generalize w4.alloc (.cells #[.slice a n cap] 30) = W5 at *
  clear c1 c2 HI HBd HJ HW6 HJ4
  refine (wpIn_wide (n := 8)).1 ?_
  refine wpIn_range (n := 8) Wide.wide rfl (gf := 99) (lb := #[.pointer (some ⟨w4.heap.size, 0, none⟩)]) ?ev (fun args w => ?enter) (pairs1_iter w4.heap.size n cap a W5 (by omega) HP5.out) (Below.refl _ _) (fun x => rfl) (fun q e => by cases e) (fun h h' => h'.trans h) (fun W l o o' h1 h2 h3 h4 => ?kb)
    (fun pre W => JoinAt w W key (.slice a n cap) (.slice none 0 0) (.int .i64 0) (.int .i64 0) (.int .i64 0) ∧ (W.heap[w4.heap.size]? = some (.cells #[.slice a n cap] 30 (0, 0)) ∧ ∀ x ∈ pre, PA x.1 = false))
    (fun _ _ _ => False) ?abide (fun _ => abide_false _ _) ⟨HJ5.out, HP5.out, by simp⟩ (fun x => ⟨#[.string key, .slice a n cap, .pointer (some ⟨w.heap.size, 0, none⟩), .pointer (some ⟨w.heap.size + 1, 0, none⟩), .pointer (some ⟨w.heap.size + 1 + 1, 0, none⟩), .pointer (some ⟨w.heap.size + 1 + 1 + 1, 0, none⟩), .pointer (some ⟨w.heap.size + 1 + 1 + 1 + 1, 0, none⟩), .pointer (some ⟨w.heap.size + 1 + 1 + 1 + 1 + 1, 0, none⟩), .func (.func 62) #[] #[.pointer (some ⟨w.heap.size, 0, none⟩), .pointer (some ⟨w.heap.size + 1, 0, none⟩)], .int .i64 (x.1.1 : Nat), .int .i64 (x.1.2 : Nat), undef, undef, undef, undef, undef, undef, .func (.func 62) #[] #[.pointer (some ⟨w.heap.size, 0, none⟩), .pointer (some ⟨w.heap.size + 1, 0, none⟩)], .string key, .bool true, .bool false, .bool false, .slice a n cap, .func (.func 62) #[] #[.pointer (some ⟨w.heap.size, 0, none⟩), .pointer (some ⟨w.heap.size + 1, 0, none⟩)], .bool false, .bool false, .slice a n cap, .func (.func 99) #[] #[.pointer (some ⟨w4.heap.size, 0, none⟩)], .int .i64 (x.1.1 : Nat), .int .i64 (x.1.2 : Nat), undef, undef, undef, undef, undef, undef, undef, undef, undef, undef, undef, undef, undef, undef, undef, undef, undef, undef, undef, undef, undef, undef, undef, undef, undef, undef, undef, undef, undef, undef, undef, undef, undef, undef, undef, undef, undef, undef, undef, undef, undef], []⟩) (fun l x W K hK => ?assign) (fun l pre x W hI hlen => ?body) (fun Dm xs W hDm hS hI hDd => ?done) (fun Dm c pre W hD hS hI => hI.elim)
  case assign =>
    simp only [pairV, List.zip_toArray, List.zip_cons_cons, List.zip_nil_right, List.foldl_toArray', List.foldl_cons, List.foldl_nil, List.setIfInBounds_toArray, List.set_cons_succ, List.set_cons_zero]
    gi_wp2
    exact hK
  case ev => rfl
  case enter => kernel_rfl
  case kb => exact World.putObj_heap_other (fun e => by omega)
  case abide => exact abide_and (abide_join (by omega)) (abide_and (abide_old _ (by omega) (by simp)) (abide_pure (α := Pair n) _ _ (fun pre => ∀ x ∈ pre, PA x.1 = false)))
  case body =>
    obtain ⟨hJ, hP, hpre⟩ := hI
    obtain ⟨⟨i, k⟩, hik, hkn⟩ := x
    simp only at hik hkn
    obtain ⟨zi, ei⟩ : ∃ z, zs[i]? = some z := ⟨_, List.getElem?_eq_getElem (by rw [← HN.out]; omega)⟩
    obtain ⟨zk, ek⟩ : ∃ z, zs[k]? = some z := ⟨_, List.getElem?_eq_getElem (by rw [← HN.out]; omega)⟩
    obtain ⟨b, off, rfl, hb, hpi⟩ := HL3.out i zi ei
    obtain ⟨b', off', eb, hb', hpk⟩ := HL3.out k zk ek
    injection eb with eb
    injection eb with e1 e2 _
    subst e1 e2
    obtain ⟨p0, p1, p2, p3, p4⟩ := hpi.keep hJ.1 hb
    obtain ⟨q0, q1, q2, q3, q4⟩ := hpk.keep hJ.1 hb
    obtain ⟨fa, fn, fc, hf1⟩ := (HZ.out.2 zi (List.mem_of_getElem? ei)).form
    obtain ⟨fa', fn', fc', hf2⟩ := (HZ.out.2 zk (List.mem_of_getElem? ek)).form
    have hni : i < n := by omega
    have u1 : (0 : Int) ≤ (i : Int) := by omega
    have u2 : (i : Int) < (n : Int) := by omega
    have u3 : (0 : Int) ≤ (k : Int) := by omega
    have u4 : (k : Int) < (n : Int) := by omega
    have HC : Hid (∀ q, Calls Tryz.prog 58 #[partV zi, partV zk] (W.drewN q) fun e w' => e = .returned (.bool (PA (i, k))) ∧ Below (W.drewN q).heap.size (W.drewN q) w') := Lib.hid (fun q => HCv.out (W.drewN q) i k zi zk (below_drewN hJ.1 q) ei ek)
    obtain ⟨⟨⟨a1, a2, a3, a4⟩, its1⟩, v1⟩ := zi
    obtain ⟨⟨⟨b1, b2, b3, b4⟩, its2⟩, v2⟩ := zk
    simp only at p0 p1 p2 p3 p4 q0 q1 q2 q3 q4 hf1 hf2
    subst hf1 hf2
    unfold partV at HC
    simp only at HC
    obtain ⟨c1, c2⟩ := hJ.cells
    have HJW := Lib.hid hJ
    have HPW := Lib.hid hP
    have HPre := Lib.hid hpre
    clear ei ek hJ hP hpre hpi hpk
    gi_wp2
    refine wpIn_region_quiet_tail 8 (fun w' => ∃ q, w' = W.drewN q) (Wide.inRound Wide.wide _) (by kernel_rfl) (by kernel_rfl) ⟨1, rfl⟩ ?_
    simp only [List.take_succ_cons, List.take_zero, List.drop_succ_cons, List.drop_zero]
    repeat (go_big_quiet_step (fail))
    refine wpQuiet_nil ?_
    rintro _ ⟨nq, rfl⟩
    have HC1 := Lib.hid (HC.out nq)
    clear p0 p1 p2 p3 p4 q0 q1 q2 q3 q4 c1 c2 HC
    have HJq : Hid (JoinAt w (W.drewN nq) key (.slice (some ⟨b, off, none⟩) n cap) (.slice none 0 0) (.int .i64 0) (.int .i64 0) (.int .i64 0)) := Lib.hid (HJW.out.far (below_drewN (Below.refl _ _) nq))
    have hWq : (W.drewN nq).heap = W.heap := rfl

    have HPf : Hid (PA (i, k) = false) := Lib.hid (HNo.out _ (pair_mem hik hkn))
    rw [HPf.out] at HC1

    gi_wp2_with (refine ⟨trivial, ?_⟩; gi_at_call 58; refine (callsIn_of_calls (Wide.inRound Wide.wide _) HC1.out).mono ?_; rintro e W' ⟨rfl, hb2⟩)
    have hJ' := HJq.out.far hb2
    have hkp : ∀ (q : Nat) (o : Obj), W.heap[q]? = some o → W'.heap[q]? = some o := fun q o hq => (hb2.block q (Array.getElem?_eq_some_iff.1 hq).1).trans hq
    refine ⟨⟨hb2.size, fun q o _ hq _ => hkp q o hq⟩, (hkp _ _ HPW.out).trans HPW.out.symm, hJ', hkp _ _ HPW.out, fun x hx => ?_⟩
    rcases List.mem_append.1 hx with hx | hx
    · exact HPre.out x hx
    · rw [List.mem_singleton] at hx
      subst hx
      exact HPf.out
  case done =>
    obtain ⟨hJ, _, _⟩ := hI
    have HJW := Lib.hid hJ
    have HDd := Lib.hid hDd
    have hsW := hJ.size
    have hDl : Dm < W.heap.size := (Array.getElem?_eq_some_iff.1 hDd).1
    obtain ⟨c1, c2⟩ := hJ.cells
    have hsW1 : w.heap.size + 1 < W.heap.size := by omega
    have HM0 : Hid (MapAt (W.alloc (.map #[] 0)) W.heap.size 0 (.map [])) := Lib.hid (World.ownsMap_made W _ _ _)
    have HB0 : Hid (Below W.heap.size W (W.alloc (.map #[] 0))) := Lib.hid ((Below.refl _ _).alloc (Nat.le_refl _) _)
    have hDm6 : w.heap.size + 6 ≤ Dm := by omega
    clear hJ hS hDd hDm HCv HNo HP5 HJ5 hs5 hs4
    show Exit.inBlock _ _ _ (Act.mk _ [{ target := .collected Dm, args := #[] }]) W
    go_wp2
    clear c1 c2
    go_loopw [44] (fun i wr => ∃ (k nd : Nat) (D : DU), k ≤ n ∧ i = .int .i64 k ∧ Hid (Below W.heap.size W wr) ∧ Hid (MapAt wr W.heap.size nd D) ∧ Hid (Reads D (knownL ((zs.take k).map (·.1)))) ∧ nd ≤ k * 100000) (fun i _ => n - (intOf i).toNat)
    case atStart => exact ⟨0, 0, _, by omega, rfl, HB0, HM0, reads_nil, by omega⟩
    case round =>
      obtain ⟨k, nd, D, hk, rfl, hB, hM, hR, hnd⟩ := hrel
      clear HM0 HB0
      have hMl := World.ownsMap.lt hM.out
      by_cases hlt : k < n
      · obtain ⟨z, ez⟩ : ∃ z, zs[k]? = some z := ⟨_, List.getElem?_eq_getElem (by rw [← HN.out]; exact hlt)⟩
        obtain ⟨b, off, rfl, hb, hpt⟩ := HL3.out k z ez
        have HBw := Lib.hid (HJW.out.1.trans (hB.out.mono HJW.out.1.size))
        obtain ⟨p0, p1, p2, p3, p4⟩ := hpt.keep HBw.out hb
        have hmem := List.mem_of_getElem? ez
        have hch := HCK.out z.1 (List.mem_map.2 ⟨z, hmem, rfl⟩)
        obtain ⟨_, q2, _⟩ := HF.out.2 z hmem
        obtain ⟨ys, hys, his⟩ := (HZ.out.below HBw.out).2 z hmem
        replace his := his.is
        obtain ⟨fa, fn, fc, hf1⟩ := (HZ.out.2 z hmem).form
        have HT : Hid (knownL ((zs.take (k + 1)).map (·.1)) = fun i => match knownB z.1.items i with | some s => some s | none => knownL ((zs.take k).map (·.1)) i) := Lib.hid (by
          rw [List.take_add_one, ez, List.map_append]
          exact knownL_snoc _ _)
        obtain ⟨⟨⟨a1, a2, a3, a4⟩, its⟩, iv⟩ := z
        simp only at p0 p1 p2 p3 p4 q2 hys his hf1 HT
        subst hf1 hys
        rw [List.length_map] at q2
        have hsm : SmallI ys := smallI_part hch rfl
        have hal : Below wr.heap.size wr (wr.alloc (.cells #[.int .i64 a1, .int .i64 a2, .string a3, .string a4, .slice fa fn fc] 38)) := (Below.refl _ _).alloc (Nat.le_refl _) _
        have HE := Lib.hid (entries_any a1 a2 a3 a4 (his.below hal) q2 hsm)
        have HMa := Lib.hid (hM.out.below hal)
        have HBa := Lib.hid (hB.out.trans (hal.mono hB.out.size))
        have hsz := hB.out.size
        clear hpt ez hmem hch his hsm hal HBw hM hB
        go_wp2_with (first | (go_at_call 67; refine HE.out.mono ?_; rintro e w8 ⟨B', rfl, hmap, hBB, hb8⟩; have HM8 := Lib.hid (HMa.out.below hb8); have HB8 := Lib.hid (HBa.out.trans (hb8.mono HBa.out.size)); have HMp := Lib.hid hmap; have hds := Nat.le_trans (World.ownsMap.size_le hmap) q2; have HCp := Lib.hid (copyM_any HM8.out hmap (by simp at hBB; omega) (by unfold maxLen; omega)); clear hmap hb8) | (go_at_call 66; refine HCp.out.mono ?_; rintro e w9 ⟨rfl, hm9, hg9⟩; have HM9 := Lib.hid hm9; have HG9 := Lib.hid hg9; clear hm9 hg9))
        go_roundw
        case rel =>
          refine ⟨k + 1, _, _, by omega, by go_num, HB8.out.grown HG9.out HB8.out.size (fun j e => by cases e; exact Nat.le_refl _), HM9, ?_, by omega⟩
          rw [HT.out]
          exact reads_merge HMp.out hR.out (reads_mapD _)
        case measure => simp [intOf]; omega
      · have ek : k = n := by omega
        have HRn : Hid (Reads D (knownL (zs.map (·.1)))) := Lib.hid (by
          have := hR.out
          rwa [ek, HN.out, List.take_length] at this)
        have HKs : Hid (∀ i s, knownL (zs.map (·.1)) i = some s → 0 ≤ i ∧ i < 60) := Lib.hid (known_small (fun p hp x hx => by
          obtain ⟨h1, h2, _⟩ := check_mem (HCK.out p hp) x hx
          exact ⟨h1, h2⟩))
        obtain ⟨KK, hKK⟩ : ∃ KK, KK = knownL (zs.map (·.1)) := ⟨_, rfl⟩
        rw [← hKK] at HRn HKs
        have HKK := Lib.hid hKK
        clear hKK
        have hnd2 : nd ≤ 100000000 := by
          have : k * 100000 ≤ 1000 * 100000 := Nat.mul_le_mul_right _ (by omega)
          omega
        have hal : Below wr.heap.size wr (wr.alloc (.cells #[.map (some W.heap.size)] 98)) := (Below.refl _ _).alloc (Nat.le_refl _) _
        have HMa := Lib.hid (hM.out.below hal)
        have HBa := Lib.hid (hB.out.trans (hal.mono hB.out.size))
        have HCa := Lib.hid (heap_alloc_new wr (.cells #[.map (some W.heap.size)] 98))
        have HSo := Lib.hid (sortedM_any (Bm := wr.heap.size) (cell_of_row _ _ 0 _ _ _ HCa.out) (by simp) HMa.out (by omega : nd ≤ 1000000000) HRn.out HKs.out)
        clear hal hM hB hR hnd hk hlt HCa
        go_wp2_with (first | (go_at_call 69; refine (keysM_any _ _).mono ?_; rintro e w8 ⟨rfl, rfl⟩) | (go_at_call 68; refine HSo.out.mono ?_; rintro e w9 ⟨kv, rfl, hkv, hb9⟩; have HM9 := Lib.hid (HMa.out.below hb9); have HB9 := Lib.hid (HBa.out.trans (hb9.mono HBa.out.size)); obtain ⟨ka, kn, kc, rfl, hkl, hkc, hko⟩ := keys_open hkv; have HKO := Lib.hid hko; have HKL := Lib.hid hkl; clear hkv hb9 hko hkl))
        go_loopw [14, 57] (fun v i wr2 => ∃ k2 : Nat, k2 ≤ kn ∧ i = .int .i64 k2 ∧ Hid (Below w9.heap.size w9 wr2) ∧ Hid (OwnE wr2 w9.heap.size 53 3 v (kcells KK ((keysK KK).take k2)))) (fun _ i _ => kn - (intOf i).toNat)
        case atStart => exact ⟨0, by omega, rfl, Below.refl _ _, OwnE.nil _ _ _ _⟩
        case round =>
          obtain ⟨k2, hk2, rfl, hB2, hO⟩ := hrel
          have hsz2 := hB2.out.size
          have hkn : kn ≤ 60 := by rw [HKL.out]; exact keysK_len KK
          have hol : (kcells KK ((keysK KK).take k2)).length = k2 := by
            unfold kcells
            rw [List.length_map, List.length_take, ← HKL.out]
            omega
          obtain ⟨va, vc, hv⟩ := OwnE.form hO.out
          rw [hol] at hv
          by_cases hlt : k2 < kn
          · obtain ⟨x, ex⟩ : ∃ x, (keysK KK)[k2]? = some x := ⟨_, List.getElem?_eq_getElem (by rw [← HKL.out]; exact hlt)⟩
            obtain ⟨b, off, rfl, hb, hc0⟩ := HKO.out k2 x ex
            have d0 := cell_keepB hB2.out hb hc0
            obtain ⟨t, ht⟩ := Option.isSome_iff_exists.1 ((mem_keysK HKs.out x).1 (List.mem_of_getElem? ex))
            obtain ⟨x0, x1⟩ := HKs.out x t ht
            have hlk := (HM9.out.below hB2.out).look1 HRn.out x0 (by omega) ht
            have HT := Lib.hid (kcells_take (K := KK) ex)
            have HKC : Hid (kcell KK x = [.int .i64 x, .string t, .slice none 0 0]) := Lib.hid (by unfold kcell; rw [ht]; rfl)
            have HOa := Lib.hid (OwnE.alloc hO.out (.cells #[.int .i64 x, .string t, .slice none 0 0] 53))
            have HNa := Lib.hid (heap_alloc_new wr (.cells #[.int .i64 x, .string t, .slice none 0 0] 53))
            have HBa2 := Lib.hid (hB2.out.alloc hsz2 (.cells #[.int .i64 x, .string t, .slice none 0 0] 53))
            have HOL := Lib.hid hol
            subst hv
            clear hc0 ex ht hol hO hB2
            go_wp2_with (at_builtin; refine wpList_append_el 36 53 3 48 _ (by kernel_rfl) infoItem rfl (by decide) rfl _ _ rfl w9.heap.size _ _ rfl HOa.out wr.heap.size [.int .i64 x, .string t, .slice none 0 0] rfl (fun u hu => by simp at hu; rcases hu with rfl | rfl | rfl <;> rfl) rfl _ HNa.out (by rw [HOL.out]; unfold maxLen; omega) (by rw [HOL.out]; omega) HBa2.out.size ?_; intro v7 w7 hown7 hgr7; have HO7 := Lib.hid hown7; have HB7 := Lib.hid (HBa2.out.grown hgr7 HBa2.out.size (fun j e => OwnE.ge HOa.out j e)); clear hown7 hgr7)
            go_roundw
            case rel =>
              refine ⟨k2 + 1, by omega, by go_num, HB7, ?_⟩
              rw [HT.out, HKC.out]
              exact HO7
            case measure => simp [intOf]; omega
          · have ek2 : k2 = kn := by omega
            have HOn : Hid (OwnE wr w9.heap.size 53 3 (.slice va k2 vc) (kcells KK (keysK KK))) := Lib.hid (by
              have := hO.out
              rwa [hv, ek2, HKL.out, List.take_length, ← HKL.out, ← ek2] at this)
            have HB9w := Lib.hid (HB9.out.trans (hB2.out.mono HB9.out.size))
            have HJe := Lib.hid (HJW.out.far HB9w.out)
            obtain ⟨f1, f2, f3, f4, g1, g2, g3, g4⟩ := HJe.out.rets
            have HDe := Lib.hid ((HB9w.out.block _ hDl).trans HDd.out)
            have HE := Lib.hid (HJe.out.set (.slice va k2 vc) (.int .i64 (-1)) (.int .i64 (-1)) (.int .i64 0))
            have h9 : w.heap.size + 6 ≤ w9.heap.size := by have := HB9.out.size; omega
            have HOe := Lib.hid ((((HOn.out.low (k := w.heap.size + 2) (by omega) (.slice va k2 vc)).low (k := w.heap.size + 3) (by omega) (.int .i64 (-1))).low (k := w.heap.size + 4) (by omega) (.int .i64 (-1))).low (k := w.heap.size + 5) (by omega) (.int .i64 0))
            subst hv
            clear hO hol
            subst ek2
            go_wp2
            have hM : Marks w.heap.size [Dm] ((((wr.setCell ⟨w.heap.size + 2, 0, none⟩ (.slice va k2 vc)).setCell ⟨w.heap.size + 3, 0, none⟩ (.int .i64 (-1))).setCell ⟨w.heap.size + 4, 0, none⟩ (.int .i64 (-1))).setCell ⟨w.heap.size + 5, 0, none⟩ (.int .i64 0)) := ⟨by simp, fun D hD => by
              rw [List.mem_singleton] at hD
              rw [hD]
              exact ⟨by omega, (Below.heap_setCell _ _ _ _ (by show Dm ≠ w.heap.size + 5; omega)).trans ((Below.heap_setCell _ _ _ _ (by show Dm ≠ w.heap.size + 4; omega)).trans ((Below.heap_setCell _ _ _ _ (by show Dm ≠ w.heap.size + 3; omega)).trans ((Below.heap_setCell _ _ _ _ (by show Dm ≠ w.heap.size + 2; omega)).trans HDe.out)))⟩⟩
            refine leaves_marks (B := w.heap.size) [Dm] _ hM (fun W'' hT => ⟨_, (HE.out.taken hT (Nat.le_refl _)).results _ rfl rfl rfl rfl, _, rfl, (by rw [← HKK.out]; exact kcells_it (hT.owns HOe.out)), (HE.out.taken hT (Nat.le_refl _)).1⟩)
end Go.Proofs.YtinfpbkbnhcifaaGreatDoor
