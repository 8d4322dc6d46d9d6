/- Owned slices of votes; walks of package quorum: isPool, Prove. The conditions: what the slices read as, the tables of constants. -/
import Derived.Test.YtggdcnjaofflbaaGreatDoorC12
import Derived.Test.YtggdcnjaofflbaaGreatDoorC10
import Derived.Shelf.Small.Strs
import Derived.Shelf.Sort.Plain
import Derived.Shelf.Slices.In.SortNone
import Derived.Shelf.SlIter.Sorted
import Derived.Shelf.SlSortCmp.WholeK
import Derived.Shelf.SlicesG.Cmp
import Derived.Test.YtggdcnjaofflbaaGreatDoorProg
import Derived.Shelf.SlSortCmp.NoneTotal
import Derived.Test.YtggdcnjaofflbaaGreatDoorC11
import Derived.OwnWalkIn
import Derived.Sort.OwnSorted
namespace Go.Proofs.YtggdcnjaofflbaaGreatDoor
open Go.RowKit Go.BigFrame

def OwnV (w : World) (base : Nat) (v : Value) (l : List VoteP) : Prop := OwnE w base 27 5 v (l.map vcells)
theorem vcells_len (l : List VoteP) : ∀ c ∈ l.map vcells, c.length = 5 := by
  intro c hc
  obtain ⟨v, _, rfl⟩ := List.mem_map.1 hc
  rfl
theorem OwnV.vs {w : World} {base : Nat} {v : Value} {l : List VoteP} (h : OwnV w base v l) : VS w v l := OwnE.slice h (vcells_len l)
theorem OwnV.form {w : World} {base : Nat} {v : Value} {l : List VoteP} (h : OwnV w base v l) : ∃ a cap, v = .slice a l.length cap := by
  obtain ⟨a, c, h⟩ := OwnE.form h
  rw [List.length_map] at h
  exact ⟨a, c, h⟩
theorem infoVote3 : (Tryz.prog.info? 27).map (fun i => (i.zero, i.size, i.bytes)) = some (some (.agg #[.int .i64 0, .int .i64 0, .int .i64 0, .string ⟨#[]⟩, .string ⟨#[]⟩]), 5, 56) := by kernel_rfl
section
variable {ops : Array Oper} {rest : List Oper} {o : Oper} {a : Act} {w : World} {Q : Exit → Act → World → Prop}
theorem wpList_append_vote (s x : Operand) (base : Nat) (v : Value) (l : List VoteP) (y : VoteP) (b : Nat) (fr : Nat × Nat) (hown : OwnV w base v l) (hlen : l.length ≤ 1000000) (hbase : base ≤ w.heap.size) (hb : w.heap[b]? = some (.cells #[.int .i64 y.car, .int .i64 y.num, .int .i64 y.stp, .string y.val, .string y.sl] 27 fr))
    (hgd : o.guard = none) (ho : o.op = .call { callee := .builtin .append, args := #[s, x], argTypes := #[35, 35] }) (hs : a.eval s = v) (hx : a.eval x = .slice (some ⟨b, 0, none⟩) 1 1)
    (h : ∀ v' w', OwnV w' base v' (l ++ [y]) → w.grownBy w' v.ownBlock → wpList Tryz.prog ops Q rest (a.put o.dst v') w') : wpList Tryz.prog ops Q (o :: rest) a w :=
  wpList_append_el 35 27 5 56 _ (by kernel_rfl) infoVote3 rfl (by decide) hgd s x ho base v (l.map vcells) hs hown b (vcells y) rfl (fun u hu => by simp only [vcells, List.mem_cons, List.not_mem_nil, or_false] at hu; rcases hu with rfl | rfl | rfl | rfl | rfl <;> rfl) hx fr hb
    (by rw [List.length_map]; unfold maxLen; omega) (by rw [List.length_map]; omega) hbase (fun v' w' h1 h2 => h v' w' (by unfold OwnV; rw [List.map_append]; exact h1) h2)
end

set_option maxHeartbeats 1000000 in
theorem isPool_any {w : World} {kv x : Value} {ks : List ByteArray} {l : List VoteP} (hr : SS w kv ks) (hl : VS w x l) :
    Calls Tryz.prog 76 #[.agg #[kv], x] w fun e w' => e = .returned (.bool (isPool ks l)) ∧ Below w.heap.size w w' := by
  obtain ⟨ka, kn, kc, rfl⟩ : ∃ a n c, kv = .slice a n c := by obtain ⟨a, c, h, _⟩ := hr.opened; exact ⟨_, _, _, h⟩
  obtain ⟨a, cap, rfl, l1, l2, _⟩ := hl.opened
  have HB1 : Hid (Below w.heap.size w (w.alloc (.cells #[.slice ka kn kc] 31))) := Lib.hid ((Below.refl _ _).alloc (Nat.le_refl _) _)
  have HV := Lib.hid (qvalid_any (hr.below HB1.out))
  have HR : Hid (isPool ks l = (validC ks && decide ((l.length : Int) ≤ 60))) := Lib.hid (by
    unfold isPool
    refine congrArg _ ?_
    rw [Bool.eq_iff_iff, decide_eq_true_iff, decide_eq_true_iff]
    omega)
  generalize isPool ks l = R at *
  generalize validC ks = V at *
  generalize l.length = n at *
  clear hr hl
  cases V
  all_goals
    go_enter Tryz.func76, Tryz.ntmps76
    go_wp2_with (go_at_call 53; refine HV.out.mono ?_; rintro e w1 ⟨rfl, hb1⟩)
    go_ret
    exact ⟨ret_bool HR.out.symm, q_next HB1.out hb1⟩

/-! ### Prove -/
theorem proveV_no1 {ks : List ByteArray} {num stp : Int} {val : ByteArray} {l : List VoteP} (h : isPool ks l = false) : proveV ks num stp val l = none := by
  unfold proveV
  rw [if_neg (fun h' => by rw [h] at h'; cases h'.1)]
theorem proveV_no2 {ks : List ByteArray} {num stp : Int} {val : ByteArray} {l : List VoteP} (h : (whoL ks num stp val l).length < enoughC ks) : proveV ks num stp val l = none := by
  unfold proveV
  rw [if_neg (fun h' => by omega)]
theorem proveV_yes {ks : List ByteArray} {num stp : Int} {val : ByteArray} {l : List VoteP} (h : isPool ks l = true) (h' : enoughC ks ≤ (whoL ks num stp val l).length) : proveV ks num stp val l = some (((whoL ks num stp val l).take (enoughC ks)).map (mkV ks num stp val)) := by
  unfold proveV
  rw [if_pos ⟨h, h'⟩]
def ProveIs (w : World) (o : Option (List VoteP)) (e : Ending) (w' : World) : Prop := ∃ v, e = .returned (.tuple #[v, .bool o.isSome]) ∧ VS w' v (o.getD []) ∧ Below w.heap.size w w'
theorem proveIs_none {w w' : World} {e : Ending} (h : e = .returned (.tuple #[.slice none 0 0, .bool false])) (hb : Below w.heap.size w w') : ProveIs w none e w' := ⟨_, h, VS.nil _, hb⟩
end Go.Proofs.YtggdcnjaofflbaaGreatDoor

/- Votes, doubles and tallies appended to own rows. The conditions: what the slices read as, lengths. -/
namespace Go.Proofs.YtggdcnjaofflbaaGreatDoor
open Go.RowKit Go.BigFrame

def OwnD (w : World) (base : Nat) (v : Value) (l : List (VoteP × VoteP)) : Prop := OwnE w base 45 10 v (l.map dcells)
theorem dcells_len (l : List (VoteP × VoteP)) : ∀ c ∈ l.map dcells, c.length = 10 := by
  intro c hc
  obtain ⟨v, _, rfl⟩ := List.mem_map.1 hc
  rfl
theorem OwnD.ds {w : World} {base : Nat} {v : Value} {l : List (VoteP × VoteP)} (h : OwnD w base v l) : DS w v l := OwnE.slice h (dcells_len l)
theorem OwnD.form {w : World} {base : Nat} {v : Value} {l : List (VoteP × VoteP)} (h : OwnD w base v l) : ∃ a cap, v = .slice a l.length cap := by
  obtain ⟨a, c, h⟩ := OwnE.form h
  rw [List.length_map] at h
  exact ⟨a, c, h⟩
def OwnT (w : World) (base : Nat) (v : Value) (l : List (ByteArray × Nat)) : Prop := OwnE w base 68 2 v (l.map tcells)
theorem tcells_len (l : List (ByteArray × Nat)) : ∀ c ∈ l.map tcells, c.length = 2 := by
  intro c hc
  obtain ⟨v, _, rfl⟩ := List.mem_map.1 hc
  rfl
theorem OwnT.ts {w : World} {base : Nat} {v : Value} {l : List (ByteArray × Nat)} (h : OwnT w base v l) : TS w v l := OwnE.slice h (tcells_len l)
theorem OwnT.form {w : World} {base : Nat} {v : Value} {l : List (ByteArray × Nat)} (h : OwnT w base v l) : ∃ a cap, v = .slice a l.length cap := by
  obtain ⟨a, c, h⟩ := OwnE.form h
  rw [List.length_map] at h
  exact ⟨a, c, h⟩
theorem infoDouble3 : (Tryz.prog.info? 45).map (fun i => (i.zero, i.size, i.bytes)) = some (some (.agg #[.int .i64 0, .int .i64 0, .int .i64 0, .string ⟨#[]⟩, .string ⟨#[]⟩, .int .i64 0, .int .i64 0, .int .i64 0, .string ⟨#[]⟩, .string ⟨#[]⟩]), 10, 112) := by kernel_rfl
theorem infoTally3 : (Tryz.prog.info? 68).map (fun i => (i.zero, i.size, i.bytes)) = some (some (.agg #[.string ⟨#[]⟩, .int .i64 0]), 2, 24) := by kernel_rfl
theorem row_one {w : World} {b : Nat} {c : List Value} {e : TypeId} {fr : Nat × Nat} {size : Nat} (h : w.heap[b]? = some (.cells c.toArray e fr)) : SliceAt w (.slice (some ⟨b, 0, none⟩) 1 1) size [c] := by
  refine ⟨_, 1, rfl, Nat.le_refl _, by decide, .inr ⟨b, 0, rfl, (Array.getElem?_eq_some_iff.1 h).1, fun i cs hi j u hj => ?_⟩⟩
  match i, hi with
  | 0, hi =>
    cases hi
    rw [cell_of_row w _ _ _ _ _ h, List.getElem?_toArray]
    simpa using hj
theorem vcells_one (v : VoteP) : ∀ u ∈ vcells v, u.oneCell' = true := by
  intro u hu
  simp only [vcells, List.mem_cons, List.not_mem_nil, or_false] at hu
  rcases hu with rfl | rfl | rfl | rfl | rfl <;> rfl
theorem dcells_one (d : VoteP × VoteP) : ∀ u ∈ dcells d, u.oneCell' = true := by
  intro u hu
  unfold dcells at hu
  rcases List.mem_append.1 hu with hu | hu
  · exact vcells_one _ u hu
  · exact vcells_one _ u hu
section
variable {ops : Array Oper} {rest : List Oper} {o : Oper} {a : Act} {w : World} {Q : Exit → Act → World → Prop} {K : Act → World → Prop} {E : Prop}
theorem step_append_double (s x : Operand) (base : Nat) (v : Value) (l : List (VoteP × VoteP)) (d : VoteP × VoteP) (b : Nat) (fr : Nat × Nat) (hown : OwnD w base v l) (hlen : l.length ≤ 100000) (hbase : base ≤ w.heap.size) (hb : w.heap[b]? = some (.cells (dcells d).toArray 45 fr))
    (hgd : o.guard = none) (ho : o.op = .call { callee := .builtin .append, args := #[s, x], argTypes := #[54, 54] }) (hs : a.eval s = v) (hx : a.eval x = .slice (some ⟨b, 0, none⟩) 1 1)
    (h : ∀ v' w', OwnD w' base v' (l ++ [d]) → w.grownBy w' v.ownBlock → K (a.put o.dst v') w') : if Region.wanted o (yielded ops a.tmps) = true then Oper.wp Tryz.prog o a w K Q else E :=
  step_append_rowsQ 54 45 10 112 _ (by kernel_rfl) infoDouble3 rfl (by decide) (by decide) hgd s x base v (l.map dcells) [dcells d] _ hown (row_one hb) (fun c hc => by
    rw [List.mem_singleton] at hc
    subst hc
    exact ⟨rfl, dcells_one d⟩) (by rw [List.length_map]; simp; omega) hbase ho hs hx (fun v' w' h1 h2 => h v' w' (by unfold OwnD; rw [List.map_append]; exact h1) h2)
theorem wpList_append_tally (s x : Operand) (base : Nat) (v : Value) (l : List (ByteArray × Nat)) (y : ByteArray × Nat) (b : Nat) (fr : Nat × Nat) (hown : OwnT w base v l) (hlen : l.length ≤ 1000000) (hbase : base ≤ w.heap.size) (hb : w.heap[b]? = some (.cells #[.string y.1, .int .i64 (y.2 : Int)] 68 fr))
    (hgd : o.guard = none) (ho : o.op = .call { callee := .builtin .append, args := #[s, x], argTypes := #[65, 65] }) (hs : a.eval s = v) (hx : a.eval x = .slice (some ⟨b, 0, none⟩) 1 1)
    (h : ∀ v' w', OwnT w' base v' (l ++ [y]) → w.grownBy w' v.ownBlock → wpList Tryz.prog ops Q rest (a.put o.dst v') w') : wpList Tryz.prog ops Q (o :: rest) a w :=
  wpList_append_el 65 68 2 24 _ (by kernel_rfl) infoTally3 rfl (by decide) hgd s x ho base v (l.map tcells) hs hown b (tcells y) rfl (fun u hu => by simp only [tcells, List.mem_cons, List.not_mem_nil, or_false] at hu; rcases hu with rfl | rfl <;> rfl) hx fr hb
    (by rw [List.length_map]; unfold maxLen; omega) (by rw [List.length_map]; omega) hbase (fun v' w' h1 h2 => h v' w' (by unfold OwnT; rw [List.map_append]; exact h1) h2)
end
end Go.Proofs.YtggdcnjaofflbaaGreatDoor

/- The library's contracts laid at this program: strings.Compare, slices.Sort at strings, maps.Keys, slices.Sorted, slices.SortFunc at votes, cmp.Compare at int (written by the kit's tool). No condition. -/
namespace Go.Proofs
open Go.Shelf
def Tryz.qlays106_ren : Go.Shelf.Ren := ⟨fun | 106 => 118 | 213 => 150 | 265 => 170 | n => n, fun | 9 => 9 | 3 => 3 | n => n, fun | n => n⟩
theorem Tryz.qlays106 : Go.Proofs.Lays.n106 Tryz.prog Tryz.qlays106_ren := {
  mixed := by kernel_rfl
  f106 := Tryz.func118.trans (congrArg some (by kernel_rfl))
  f213 := Tryz.func150.trans (congrArg some (by kernel_rfl))
  f265 := Tryz.func170.trans (congrArg some (by kernel_rfl))
  t3 := Tryz.underlying3
  a3 := Tryz.isAgg3
  z3 := Tryz.sizeOf3
  v3 := Tryz.zeroValue3
  t9 := Tryz.underlying9
  a9 := Tryz.isAgg9
  z9 := Tryz.sizeOf9
  v9 := Tryz.zeroValue9 }
open Go.RowKit in
/-- strings.Compare: "Compare returns an integer comparing two strings lexicographically. The result will be 0 if a == b, -1 if a < b, and +1 if a > b.": IT RETURNS 'Lib.compareBytes a b'; the world is as it was. (LAID: no walk: one application.) -/
theorem Tryz.strings_Compare (a b : ByteArray) (w : World) :
    Calls Tryz.prog 118 #[.string a, .string b] w fun e w' => e = .returned (.int .i64 (Lib.compareBytes a.data.toList b.data.toList)) ∧ w' = w := Any.strings_Compare Tryz.qlays106 a b w
def Tryz.qlays190_ren : Go.Shelf.Ren := ⟨fun | 190 => 120 | 125 => 153 | 258 => 152 | 128 => 180 | 129 => 181 | 302 => 171 | 303 => 172 | 304 => 173 | 305 => 174 | 306 => 175 | 307 => 176 | 308 => 177 | 309 => 178 | 310 => 179 | 333 => 198 | 329 => 199 | 330 => 200 | 334 => 201 | 335 => 202 | 336 => 203 | 344 => 211 | n => n, fun | 31 => 29 | 9 => 9 | 3 => 3 | 46 => 117 | 0 => 0 | 51 => 139 | 53 => 144 | 4 => 4 | 183 => 208 | 182 => 207 | 131 => 213 | 5 => 5 | 218 => 232 | 222 => 109 | 228 => 244 | 229 => 245 | n => n, fun | n => n⟩
theorem Tryz.qlays190 : Go.Proofs.Lays.n190 Tryz.prog Tryz.qlays190_ren := {
  mixed := by kernel_rfl
  f125 := Tryz.func153.trans (congrArg some (by kernel_rfl))
  f128 := Tryz.func180.trans (congrArg some (by kernel_rfl))
  f129 := Tryz.func181.trans (congrArg some (by kernel_rfl))
  f190 := Tryz.func120.trans (congrArg some (by kernel_rfl))
  f258 := Tryz.func152.trans (congrArg some (by kernel_rfl))
  f302 := Tryz.func171.trans (congrArg some (by kernel_rfl))
  f303 := Tryz.func172.trans (congrArg some (by kernel_rfl))
  f304 := Tryz.func173.trans (congrArg some (by kernel_rfl))
  f305 := Tryz.func174.trans (congrArg some (by kernel_rfl))
  f306 := Tryz.func175.trans (congrArg some (by kernel_rfl))
  f307 := Tryz.func176.trans (congrArg some (by kernel_rfl))
  f308 := Tryz.func177.trans (congrArg some (by kernel_rfl))
  f309 := Tryz.func178.trans (congrArg some (by kernel_rfl))
  f310 := Tryz.func179.trans (congrArg some (by kernel_rfl))
  f329 := Tryz.func199.trans (congrArg some (by kernel_rfl))
  f330 := Tryz.func200.trans (congrArg some (by kernel_rfl))
  f333 := Tryz.func198.trans (congrArg some (by kernel_rfl))
  f334 := Tryz.func201.trans (congrArg some (by kernel_rfl))
  f335 := Tryz.func202.trans (congrArg some (by kernel_rfl))
  f336 := Tryz.func203.trans (congrArg some (by kernel_rfl))
  f344 := Tryz.func211.trans (congrArg some (by kernel_rfl))
  t0 := Tryz.underlying0
  a0 := Tryz.isAgg0
  z0 := Tryz.sizeOf0
  v0 := Tryz.zeroValue0
  t3 := Tryz.underlying3
  a3 := Tryz.isAgg3
  z3 := Tryz.sizeOf3
  v3 := Tryz.zeroValue3
  t4 := Tryz.underlying4
  a4 := Tryz.isAgg4
  z4 := Tryz.sizeOf4
  v4 := Tryz.zeroValue4
  t5 := Tryz.underlying5
  a5 := Tryz.isAgg5
  z5 := Tryz.sizeOf5
  v5 := Tryz.zeroValue5
  t9 := Tryz.underlying9
  a9 := Tryz.isAgg9
  z9 := Tryz.sizeOf9
  v9 := Tryz.zeroValue9
  t31 := Tryz.underlying29
  a31 := Tryz.isAgg29
  z31 := Tryz.sizeOf29
  v31 := Tryz.zeroValue29
  t46 := Tryz.underlying117
  a46 := Tryz.isAgg117
  z46 := Tryz.sizeOf117
  v46 := Tryz.zeroValue117
  t51 := Tryz.underlying139
  a51 := Tryz.isAgg139
  z51 := Tryz.sizeOf139
  v51 := Tryz.zeroValue139
  t53 := Tryz.underlying144
  a53 := Tryz.isAgg144
  z53 := Tryz.sizeOf144
  v53 := Tryz.zeroValue144
  t131 := Tryz.underlying213
  a131 := Tryz.isAgg213
  z131 := Tryz.sizeOf213
  v131 := Tryz.zeroValue213
  t182 := Tryz.underlying207
  a182 := Tryz.isAgg207
  z182 := Tryz.sizeOf207
  v182 := Tryz.zeroValue207
  t183 := Tryz.underlying208
  a183 := Tryz.isAgg208
  z183 := Tryz.sizeOf208
  v183 := Tryz.zeroValue208
  t218 := Tryz.underlying232
  a218 := Tryz.isAgg232
  z218 := Tryz.sizeOf232
  v218 := Tryz.zeroValue232
  t222 := Tryz.underlying109
  a222 := Tryz.isAgg109
  z222 := Tryz.sizeOf109
  v222 := Tryz.zeroValue109
  t228 := Tryz.underlying244
  a228 := Tryz.isAgg244
  z228 := Tryz.sizeOf244
  v228 := Tryz.zeroValue244
  t229 := Tryz.underlying245
  a229 := Tryz.isAgg245
  z229 := Tryz.sizeOf245
  v229 := Tryz.zeroValue245 }
open Go.Sort Go.RowKit in
theorem Tryz.slices_Sort_string (blk off cap : Nat) (ss : List (List UInt8)) (w : World) (hH : Holds encStr w blk off ss.toArray) (hblk : blk < w.heap.size) (hsz : ss.length < 4611686018427387904) :
    Calls Tryz.prog 120 #[.slice (some ⟨blk, off, none⟩) ss.length cap] w fun e w' =>
      e = .returned (.tuple #[]) ∧ ∃ n os, w' = grow (putRow encStr (Sort.ahead w n) blk off (ss.mergeSort fun x y => decide (x ≤ y)).toArray) os := Any.slices_Sort_string Tryz.qlays190 blk off cap ss w hH hblk hsz
open Go.RowKit Go.Sort in
/-- .. and plain. (LAID: no walk: one application.) -/
theorem Tryz.slices_Sort_string_none (p : Option Addr) (cap : Nat) (w : World) :
    Calls Tryz.prog 120 #[.slice p 0 cap] w fun e w' => e = .returned (.tuple #[]) ∧ w' = w := Any.slices_Sort_string_none Tryz.qlays190 p cap w
def Tryz.keysA_ren : Go.Shelf.Ren := ⟨fun | 7 => 83 | 10 => 121 | n => n, fun | 23 => 118 | 26 => 9 | 3 => 117 | 28 => 124 | 0 => 0 | 27 => 123 | 33 => 136 | 4 => 4 | n => n, fun | n => n⟩
theorem Tryz.keysA : Go.Proofs.SlLaysZ.n7 Tryz.prog Tryz.keysA_ren := {
  mixed := by kernel_rfl
  f7 := ⟨Tryz.f83.name, by decide, Tryz.func83.trans (congrArg some (by kernel_rfl))⟩
  f10 := ⟨Tryz.f121.name, by decide, Tryz.func121.trans (congrArg some (by kernel_rfl))⟩
  t0 := Tryz.underlying0
  a0 := Tryz.isAgg0
  z0 := Tryz.sizeOf0
  v0 := Tryz.zeroValue0
  t4 := Tryz.underlying4
  a4 := Tryz.isAgg4
  z4 := Tryz.sizeOf4
  v4 := Tryz.zeroValue4
  t23 := Tryz.underlying118
  a23 := Tryz.isAgg118
  z23 := Tryz.sizeOf118
  v23 := Tryz.zeroValue118
  t26 := Tryz.underlying9
  a26 := Tryz.isAgg9
  z26 := Tryz.sizeOf9
  v26 := Tryz.zeroValue9
  t27 := Tryz.underlying123
  a27 := Tryz.isAgg123
  z27 := Tryz.sizeOf123
  v27 := Tryz.zeroValue123
  t28 := Tryz.underlying124
  a28 := Tryz.isAgg124
  z28 := Tryz.sizeOf124
  v28 := Tryz.zeroValue124
  t33 := Tryz.underlying136
  a33 := Tryz.isAgg136
  z33 := Tryz.sizeOf136
  v33 := Tryz.zeroValue136 }
def Tryz.sortedA_ren : Go.Shelf.Ren := ⟨fun | 6 => 82 | 8 => 119 | 9 => 120 | 11 => 151 | 13 => 153 | 12 => 152 | 23 => 180 | 24 => 181 | 14 => 171 | 15 => 172 | 16 => 173 | 17 => 174 | 18 => 175 | 19 => 176 | 20 => 177 | 21 => 178 | 22 => 179 | 25 => 198 | 26 => 199 | 27 => 200 | 28 => 201 | 29 => 202 | 30 => 203 | 31 => 211 | n => n, fun | 26 => 9 | 28 => 124 | 24 => 29 | 0 => 0 | 3 => 3 | 37 => 117 | 48 => 139 | 50 => 144 | 4 => 4 | 40 => 208 | 39 => 207 | 45 => 213 | 5 => 5 | 9 => 9 | 51 => 232 | 55 => 109 | 57 => 244 | 58 => 245 | 33 => 136 | n => n, fun | n => n⟩
theorem Tryz.sortedA : Go.Proofs.SlLaysZ.n6 Tryz.prog Tryz.sortedA_ren := {
  mixed := by kernel_rfl
  f6 := ⟨Tryz.f82.name, by decide, Tryz.func82.trans (congrArg some (by kernel_rfl))⟩
  f8 := ⟨Tryz.f119.name, by decide, Tryz.func119.trans (congrArg some (by kernel_rfl))⟩
  f11 := ⟨Tryz.f151.name, by decide, Tryz.func151.trans (congrArg some (by kernel_rfl))⟩
  t0 := Tryz.underlying0
  a0 := Tryz.isAgg0
  z0 := Tryz.sizeOf0
  v0 := Tryz.zeroValue0
  t24 := Tryz.underlying29
  a24 := Tryz.isAgg29
  z24 := Tryz.sizeOf29
  v24 := Tryz.zeroValue29
  t26 := Tryz.underlying9
  a26 := Tryz.isAgg9
  z26 := Tryz.sizeOf9
  v26 := Tryz.zeroValue9
  t28 := Tryz.underlying124
  a28 := Tryz.isAgg124
  z28 := Tryz.sizeOf124
  v28 := Tryz.zeroValue124
  i26 := by kernel_rfl }
def Tryz.sortF_ren : Go.Shelf.Ren := ⟨fun | 6 => 148 | 15 => 153 | 14 => 169 | 28 => 180 | 29 => 181 | 20 => 190 | 21 => 191 | 22 => 192 | 23 => 193 | 24 => 194 | 25 => 195 | 26 => 196 | 27 => 197 | 46 => 208 | 47 => 199 | 48 => 200 | 49 => 209 | 50 => 210 | 57 => 214 | n => n, fun | 22 => 35 | 24 => 27 | 25 => 154 | 3 => 3 | 39 => 117 | 0 => 0 | 53 => 139 | 55 => 144 | 4 => 4 | 46 => 208 | 45 => 207 | 50 => 213 | 5 => 5 | 9 => 9 | 66 => 232 | 70 => 109 | 76 => 244 | 77 => 245 | n => n, fun | n => n⟩
theorem Tryz.sortF : Go.Proofs.SlLaysF0.n6 Tryz.prog Tryz.sortF_ren := {
  mixed := by kernel_rfl
  f6 := ⟨Tryz.f148.name, by decide, Tryz.func148.trans (congrArg some (by kernel_rfl))⟩
  f14 := ⟨Tryz.f169.name, by decide, Tryz.func169.trans (congrArg some (by kernel_rfl))⟩
  f15 := Tryz.func153.trans (congrArg some (by kernel_rfl))
  f20 := ⟨Tryz.f190.name, by decide, Tryz.func190.trans (congrArg some (by kernel_rfl))⟩
  f21 := ⟨Tryz.f191.name, by decide, Tryz.func191.trans (congrArg some (by kernel_rfl))⟩
  f22 := ⟨Tryz.f192.name, by decide, Tryz.func192.trans (congrArg some (by kernel_rfl))⟩
  f23 := ⟨Tryz.f193.name, by decide, Tryz.func193.trans (congrArg some (by kernel_rfl))⟩
  f24 := ⟨Tryz.f194.name, by decide, Tryz.func194.trans (congrArg some (by kernel_rfl))⟩
  f25 := ⟨Tryz.f195.name, by decide, Tryz.func195.trans (congrArg some (by kernel_rfl))⟩
  f26 := ⟨Tryz.f196.name, by decide, Tryz.func196.trans (congrArg some (by kernel_rfl))⟩
  f27 := ⟨Tryz.f197.name, by decide, Tryz.func197.trans (congrArg some (by kernel_rfl))⟩
  f28 := Tryz.func180.trans (congrArg some (by kernel_rfl))
  f29 := Tryz.func181.trans (congrArg some (by kernel_rfl))
  f46 := ⟨Tryz.f208.name, by decide, Tryz.func208.trans (congrArg some (by kernel_rfl))⟩
  f47 := Tryz.func199.trans (congrArg some (by kernel_rfl))
  f48 := Tryz.func200.trans (congrArg some (by kernel_rfl))
  f49 := ⟨Tryz.f209.name, by decide, Tryz.func209.trans (congrArg some (by kernel_rfl))⟩
  f50 := ⟨Tryz.f210.name, by decide, Tryz.func210.trans (congrArg some (by kernel_rfl))⟩
  f57 := ⟨Tryz.f214.name, by decide, Tryz.func214.trans (congrArg some (by kernel_rfl))⟩
  t0 := Tryz.underlying0
  a0 := Tryz.isAgg0
  z0 := Tryz.sizeOf0
  v0 := Tryz.zeroValue0
  t3 := Tryz.underlying3
  a3 := Tryz.isAgg3
  z3 := Tryz.sizeOf3
  v3 := Tryz.zeroValue3
  t4 := Tryz.underlying4
  a4 := Tryz.isAgg4
  z4 := Tryz.sizeOf4
  v4 := Tryz.zeroValue4
  t5 := Tryz.underlying5
  a5 := Tryz.isAgg5
  z5 := Tryz.sizeOf5
  v5 := Tryz.zeroValue5
  t9 := Tryz.underlying9
  a9 := Tryz.isAgg9
  z9 := Tryz.sizeOf9
  v9 := Tryz.zeroValue9
  t22 := Tryz.underlying35
  a22 := Tryz.isAgg35
  z22 := Tryz.sizeOf35
  v22 := Tryz.zeroValue35
  t25 := Tryz.underlying154
  a25 := Tryz.isAgg154
  z25 := Tryz.sizeOf154
  v25 := Tryz.zeroValue154
  t39 := Tryz.underlying117
  a39 := Tryz.isAgg117
  z39 := Tryz.sizeOf117
  v39 := Tryz.zeroValue117
  t45 := Tryz.underlying207
  a45 := Tryz.isAgg207
  z45 := Tryz.sizeOf207
  v45 := Tryz.zeroValue207
  t46 := Tryz.underlying208
  a46 := Tryz.isAgg208
  z46 := Tryz.sizeOf208
  v46 := Tryz.zeroValue208
  t50 := Tryz.underlying213
  a50 := Tryz.isAgg213
  z50 := Tryz.sizeOf213
  v50 := Tryz.zeroValue213
  t53 := Tryz.underlying139
  a53 := Tryz.isAgg139
  z53 := Tryz.sizeOf139
  v53 := Tryz.zeroValue139
  t55 := Tryz.underlying144
  a55 := Tryz.isAgg144
  z55 := Tryz.sizeOf144
  v55 := Tryz.zeroValue144
  t66 := Tryz.underlying232
  a66 := Tryz.isAgg232
  z66 := Tryz.sizeOf232
  v66 := Tryz.zeroValue232
  t70 := Tryz.underlying109
  a70 := Tryz.isAgg109
  z70 := Tryz.sizeOf109
  v70 := Tryz.zeroValue109
  t76 := Tryz.underlying244
  a76 := Tryz.isAgg244
  z76 := Tryz.sizeOf244
  v76 := Tryz.zeroValue244
  t77 := Tryz.underlying245
  a77 := Tryz.isAgg245
  z77 := Tryz.sizeOf245
  v77 := Tryz.zeroValue245 }
def Tryz.cmpC_ren : Go.Shelf.Ren := ⟨fun | 5 => 117 | 7 => 149 | n => n, fun | 22 => 3 | 3 => 3 | 4 => 4 | n => n, fun | n => n⟩
theorem Tryz.cmpC : Go.Proofs.SlLaysC2.n5 Tryz.prog Tryz.cmpC_ren := {
  mixed := by kernel_rfl
  f5 := ⟨Tryz.f117.name, by decide, Tryz.func117.trans (congrArg some (by kernel_rfl))⟩
  f7 := ⟨Tryz.f149.name, by decide, Tryz.func149.trans (congrArg some (by kernel_rfl))⟩
  t3 := Tryz.underlying3
  a3 := Tryz.isAgg3
  z3 := Tryz.sizeOf3
  v3 := Tryz.zeroValue3
  t4 := Tryz.underlying4
  a4 := Tryz.isAgg4
  z4 := Tryz.sizeOf4
  v4 := Tryz.zeroValue4
  t22 := Tryz.underlying3
  a22 := Tryz.isAgg3
  z22 := Tryz.sizeOf3
  v22 := Tryz.zeroValue3 }
end Go.Proofs

/- The keys of the map of votes, sorted. The conditions: what the map reads as. -/
namespace Go.Proofs.YtggdcnjaofflbaaGreatDoor
open Go.RowKit Go.BigFrame Go.Shelf Go.Sort Go.Maps

theorem sortsU (m : Nat) : AnyZ.SortsIn Tryz.prog Tryz.sortedA_ren Fence.wide m :=
  ⟨fun blk off cap ss W hH hblk hsz => callsIn_wide.2 (Tryz.slices_Sort_string blk off cap ss W hH hblk hsz),
   fun p cap W => callsIn_wide.2 (Tryz.slices_Sort_string_none p cap W)⟩
theorem keysU_any (mb : Option Nat) (w : World) : Calls Tryz.prog 83 #[.map mb] w fun e w' => e = .returned (.func (.func 121) #[] #[.pointer (some ⟨w.heap.size, 0, none⟩)]) ∧ w' = w.alloc (.cells #[.map mb] 118) :=
  (callsIn_wide (n := 6)).1 (AnyZ.keys_in Tryz.keysA Fence.wide 6 trivial rfl mb w)

def valL (ks : List ByteArray) (num stp : Int) (l : List VoteP) : List (List UInt8) := (valsV ks num stp l).map fun s => s.data.toList
theorem valL_sorted (ks : List ByteArray) (num stp : Int) (l : List VoteP) : (valL ks num stp l).Pairwise (· < ·) := by
  unfold valL
  rw [List.pairwise_map]
  exact (valsV_ok ks num stp l).imp (fun h => by rw [ByteArray.toList_eq, ByteArray.toList_eq] at h; exact h)
theorem mask_zero {ks : List ByteArray} (hk : ks.length ≤ 8) (num stp : Int) (val : ByteArray) (l : List VoteP) : maskV ks num stp val l 0 ≠ 0 ↔ val ∈ valsV ks num stp l := by
  have h := mask_who hk num stp val l
  have hlt := mask_lt ks num stp val l 0 (by decide)
  rw [valsV_mem]
  generalize maskV ks num stp val l 0 = M at *
  rw [← h]
  constructor
  · intro hm
    obtain ⟨i, _, h2, _⟩ := bits_drop M hlt hm
    exact ⟨i, by rw [h2]; simp⟩
  · rintro ⟨i, hi⟩ e
    rw [e, bits_zero] at hi
    cases hi
theorem valL_perm {w : World} {B n : Nat} {D : DW} {ks : List ByteArray} (hk : ks.length ≤ 8) {num stp : Int} {l : List VoteP} (hm : MapU w B n D) (hr : ReadsU D (fun s => maskV ks num stp s l 0)) : (valL ks num stp l).Perm (strKeys D) := by
  obtain ⟨es, hD, hp, _⟩ := World.ownsMap.entries hm lawU
  obtain ⟨es', hD', hk'⟩ := World.ownsMap.keysOf hm
  obtain rfl : es = es' := by rw [hD] at hD'; simpa using hD'
  subst hD
  refine perm_strKeys hp (fun p hp' => ?_) (show List.Pairwise (· ≠ ·) _ from (valL_sorted ks num stp l).imp (fun {a b} (h : a < b) => fun (e : a = b) => List.lt_irrefl b (by rw [e] at h; exact h))) (fun x => ?_)
  · obtain ⟨v, hv⟩ := hk' p hp'
    obtain ⟨x, _, hx, _⟩ := Maps.keyOf_str Tryz.underlying9 hv
    exact ⟨x, hx⟩
  · have h1 := (hr.2 ⟨x.toArray⟩).1
    have e : keyL ⟨x.toArray⟩ = .string x := by unfold keyL; simp
    rw [e] at h1
    rw [h1, decide_eq_true_iff, mask_zero hk]
    unfold valL
    rw [List.mem_map]
    constructor
    · rintro ⟨s, hs, rfl⟩
      simpa using hs
    · intro hs
      exact ⟨_, hs, by simp⟩
theorem valL_mergeSort {w : World} {B n : Nat} {D : DW} {ks : List ByteArray} (hk : ks.length ≤ 8) {num stp : Int} {l : List VoteP} {ss : List (List UInt8)} (hm : MapU w B n D) (hr : ReadsU D (fun s => maskV ks num stp s l 0)) (hs : ss.Perm (strKeys D)) : ss.mergeSort (fun x y => decide (x ≤ y)) = valL ks num stp l :=
  (mergeSort_of_perm (hs.trans (valL_perm hk hm hr).symm)).trans (List.mergeSort_of_pairwise ((valL_sorted ks num stp l).imp (fun h => decide_eq_true (List.le_of_lt h))))
theorem insB_len (x : ByteArray) : ∀ L : List ByteArray, (insB x L).length ≤ L.length + 1
  | [] => Nat.le_refl _
  | y :: L => by
    unfold insB
    have := insB_len x L
    split
    · simp only [List.length_cons]
      omega
    · split
      · simp
      · simp
theorem insBs_len : ∀ (xs L : List ByteArray), (insBs L xs).length ≤ L.length + xs.length
  | [], L => by simp [insBs]
  | x :: xs, L => by
    unfold insBs
    have h1 := insBs_len xs (insB x L)
    have h2 := insB_len x L
    simp only [List.length_cons]
    omega
theorem valsV_len (ks : List ByteArray) (num stp : Int) (l : List VoteP) : (valsV ks num stp l).length ≤ l.length := by
  unfold valsV
  refine Nat.le_trans (insBs_len _ _) ?_
  rw [List.length_nil, Nat.zero_add, List.length_map]
  exact List.length_filter_le _ _
theorem size_strKeys : ∀ D : DW, Maps.IsMap D → Maps.size D = (strKeys D).length
  | .map es, _ => by simp [Maps.size, strKeys]
theorem sortedU_any {w : World} {Bm B n : Nat} {D : DW} {ks : List ByteArray} (hk : ks.length ≤ 8) {num stp : Int} {l : List VoteP} (hm : w.cell? ⟨Bm, 0, none⟩ = some (.map (some B))) (hb : Bm < w.heap.size) (hown : MapU w B n D) (hn : l.length ≤ 1000000000) (hr : ReadsU D (fun s => maskV ks num stp s l 0)) :
    Calls Tryz.prog 82 #[.func (.func 121) #[] #[.pointer (some ⟨Bm, 0, none⟩)]] w fun e w' => ∃ v, e = .returned v ∧ OwnS w' w.heap.size v (valsV ks num stp l) ∧ Below w.heap.size w w' := by
  have hsz : Maps.size D ≤ 1000000000 := by
    rw [size_strKeys D hr.1, ← (valL_perm hk hown hr).length_eq]
    unfold valL
    rw [List.length_map]
    exact Nat.le_trans (valsV_len _ _ _ _) hn
  have hseq : SeqGives Fence.wide 3 Tryz.prog 121 #[.pointer (some ⟨Bm, 0, none⟩)] encStr (fun ss => ss.Perm (strKeys D)) (Maps.size D) w :=
    AnyZ.keys_gives (ρ := Tryz.keysA_ren) { Tryz.keysA with } Fence.wide _ trivial rfl (by omega) Bm B n D _ hb hm hown
  have cS := AnyZ.sorted_in Tryz.sortedA Fence.wide 6 trivial trivial trivial trivial rfl (by omega) (sortsU _) (enters_of Tryz.func120 (by kernel_rfl) rfl) 121 #[.pointer (some ⟨Bm, 0, none⟩)] trivial (enters_of Tryz.func121 (by kernel_rfl) rfl) _ _ (by unfold maxLen; omega) (by omega) w hseq
  refine ((callsIn_wide (n := 6)).1 cS).mono ?_
  rintro e w' ⟨v, ss, rfl, hS, hrow, _, hb'⟩
  refine ⟨v, rfl, ?_, hb'⟩
  have e1 := valL_mergeSort hk hown hr hS
  have e2 : ss.length = (valsV ks num stp l).length := by
    have := congrArg List.length e1
    rw [List.length_mergeSort] at this
    rw [this]
    unfold valL
    rw [List.length_map]
  rw [e1, e2] at hrow
  unfold OwnS OwnE scells
  rw [List.length_map]
  have e3 : ((valsV ks num stp l).map fun s => [Value.string s]).flatten = (valL ks num stp l).map encStr := by
    unfold valL
    induction valsV ks num stp l with
    | nil => rfl
    | cons a l ih => rw [List.map_cons, List.flatten_cons, ih]; rfl
  rw [e3]
  exact hrow
end Go.Proofs.YtggdcnjaofflbaaGreatDoor

/- Walks: cmp.Or at int, the comparison of votes. The conditions: what the slice reads as. -/
namespace Go.Proofs.YtggdcnjaofflbaaGreatDoor
open Go.RowKit Go.BigFrame

theorem orL_drop (l : List Int) : ∀ (k : Nat), k ≤ l.length → (∀ j q, j < k → l[j]? = some q → q = 0) → orL l = orL (l.drop k)
  | 0, _, _ => rfl
  | k + 1, hk, h => by
    rw [orL_drop l k (by omega) (fun j q hj hq => h j q (by omega) hq)]
    obtain ⟨x, hx⟩ : ∃ x, l[k]? = some x := ⟨_, List.getElem?_eq_getElem (by omega)⟩
    rw [drop_get hx, h k x (by omega) hx]
    rfl
set_option maxHeartbeats 1000000 in
theorem or_any {w : World} {v : Value} {l : List Int} (hi : SliceAt w v 1 (icells l)) :
    Calls Tryz.prog 116 #[v] w fun e w' => e = .returned (.int .i64 (orL l)) ∧ w' = w := by
  obtain ⟨a, cap, rfl, l1, l2, l3⟩ := hi
  have hlen : (icells l).length = l.length := by unfold icells; rw [List.length_map]
  rw [hlen] at l1
  rw [hlen]
  have H3 : Hid (∀ k x, l[k]? = some x → ∃ b off, a = some ⟨b, off, none⟩ ∧ w.cell? ⟨b, off + k, none⟩ = some (.int .i64 x)) := Lib.hid (fun k x hx => by
    rcases l3 with l3 | ⟨b, off, ha, _, hc⟩
    · unfold icells at l3
      rw [List.map_eq_nil_iff] at l3
      subst l3
      cases hx
    · refine ⟨b, off, ha, ?_⟩
      have hk : (icells l)[k]? = some [.int .i64 x] := by unfold icells; rw [List.getElem?_map, hx]; rfl
      have := hc k _ hk 0 _ rfl
      simpa using this)
  clear l3 hlen
  unfold maxLen at l2
  obtain ⟨m, hm⟩ : ∃ m, m = l.length := ⟨_, rfl⟩
  rw [← hm] at l1 ⊢
  have HM := Lib.hid hm
  clear hm
  go_enter Tryz.func116, Tryz.ntmps116
  go_wp2
  go_loop [5, 8] (fun _ i => ∃ k : Nat, k ≤ m ∧ i = .int .i64 k ∧ Hid (∀ j q, j < k → l[j]? = some q → q = 0)) (fun _ i => m - (intOf i).toNat)
  case atStart => exact ⟨0, by omega, rfl, (by intro j q hj; omega)⟩
  case round =>
    obtain ⟨k, hk, rfl, hall⟩ := hrel
    by_cases hlt : k < m
    · obtain ⟨q, eq⟩ : ∃ q, l[k]? = some q := ⟨_, List.getElem?_eq_getElem (by rw [← HM.out]; exact hlt)⟩
      obtain ⟨b, off, rfl, c1⟩ := H3.out k q eq
      have EQ := Lib.hid eq
      clear eq
      by_cases hp : q = 0
      · have HP := Lib.hid hp
        have hp' : (q != 0) = false := by simp [hp]
        clear hp
        go_wp2
        go_round
        case rel =>
          refine ⟨k + 1, by omega, by go_num, ?_⟩
          intro j q' hj hq
          by_cases hjk : j = k
          · subst hjk; rw [EQ.out] at hq; cases hq; exact HP.out
          · exact hall.out j q' (by omega) hq
        case measure => simp [intOf]; omega
      · have HP := Lib.hid hp
        have hp' : (q != 0) = true := by simp [hp]
        clear hp
        go_wp2
        go_ret
        refine ⟨ret_int ?_, rfl⟩
        rw [orL_drop l k (by rw [← HM.out]; omega) hall.out, drop_get EQ.out, orL, if_neg HP.out]
    · go_wp2
      go_ret
      refine ⟨ret_int ?_, rfl⟩
      rw [orL_drop l k (by rw [← HM.out]; omega) hall.out, List.drop_eq_nil_of_le (by rw [← HM.out]; omega), orL]
end Go.Proofs.YtggdcnjaofflbaaGreatDoor

/- Walk: the comparison of votes that slices.SortFunc is given. No condition. -/
namespace Go.Proofs.YtggdcnjaofflbaaGreatDoor
open Go.RowKit Go.BigFrame Go.Sort

theorem row5 (w : World) (b : Nat) (c0 c1 c2 c3 c4 : Int) (h : w.heap[b]? = some (.cells #[.int .i64 c0, .int .i64 c1, .int .i64 c2, .int .i64 c3, .int .i64 c4] 3 (0, 0))) : SliceAt w (.slice (some ⟨b, 0, none⟩) 5 5) 1 (icells [c0, c1, c2, c3, c4]) := by
  refine ⟨_, 5, rfl, Nat.le_refl _, by decide, .inr ⟨b, 0, rfl, (Array.getElem?_eq_some_iff.1 h).1, fun i cs hi j u hj => ?_⟩⟩
  have hc : ∀ k x, ([.int .i64 c0, .int .i64 c1, .int .i64 c2, .int .i64 c3, .int .i64 c4] : List Value)[k]? = some x → w.cell? ⟨b, k, none⟩ = some x := fun k x hx => by
    rw [cell_of_row w _ k _ _ _ h, List.getElem?_toArray]
    exact hx
  match i, hi with
  | 0, hi =>
    cases hi
    match j, hj with
    | 0, hj => cases hj; exact hc 0 _ rfl
  | 1, hi =>
    cases hi
    match j, hj with
    | 0, hj => cases hj; exact hc 1 _ rfl
  | 2, hi =>
    cases hi
    match j, hj with
    | 0, hj => cases hj; exact hc 2 _ rfl
  | 3, hi =>
    cases hi
    match j, hj with
    | 0, hj => cases hj; exact hc 3 _ rfl
  | 4, hi =>
    cases hi
    match j, hj with
    | 0, hj => cases hj; exact hc 4 _ rfl
theorem cmpC_any (x y : Int) (w : World) : Calls Tryz.prog 117 #[.int .i64 x, .int .i64 y] w fun e w' => e = .returned (.int .i64 (Lib.compareInt x y)) ∧ w' = w := AnyG.cmp_Compare_int Tryz.cmpC x y w
theorem cmpS_any (a b : ByteArray) (w : World) : Calls Tryz.prog 118 #[.string a, .string b] w fun e w' => e = .returned (.int .i64 (Lib.compareBytes a.toList b.toList)) ∧ w' = w := by
  rw [ByteArray.toList_eq, ByteArray.toList_eq]
  exact Tryz.strings_Compare a b w
set_option maxHeartbeats 4000000 in
set_option maxRecDepth 100000 in
theorem cmpfn_any (u v : VoteP) (w : World) : Calls Tryz.prog 115 #[.agg #[.int .i64 u.car, .int .i64 u.num, .int .i64 u.stp, .string u.val, .string u.sl], .agg #[.int .i64 v.car, .int .i64 v.num, .int .i64 v.stp, .string v.val, .string v.sl]] w fun e w' => e = .returned (.int .i64 (cmpV u v)) ∧ ∃ q os, w' = grow (w.drewN q) os := by
  obtain ⟨W2, hW2⟩ : ∃ W2, W2 = (w.alloc (.cells #[.int .i64 u.car, .int .i64 u.num, .int .i64 u.stp, .string u.val, .string u.sl] 27)).alloc (.cells #[.int .i64 v.car, .int .i64 v.num, .int .i64 v.stp, .string v.val, .string v.sl] 27) := ⟨_, rfl⟩
  obtain ⟨a0, a1, a2, a3, a4⟩ := vcellsAt (show W2.heap[w.heap.size]? = some (.cells #[.int .i64 u.car, .int .i64 u.num, .int .i64 u.stp, .string u.val, .string u.sl] 27 (0, 0)) by rw [hW2]; exact at_past w _ _)
  obtain ⟨b0, b1, b2, b3, b4⟩ := vcellsAt (show W2.heap[w.heap.size + 1]? = some (.cells #[.int .i64 v.car, .int .i64 v.num, .int .i64 v.stp, .string v.val, .string v.sl] 27 (0, 0)) by rw [hW2]; exact at_second w _ _)
  have HR : Hid (cmpV u v = orL [Lib.compareInt u.car v.car, Lib.compareInt u.num v.num, Lib.compareInt u.stp v.stp, Lib.compareBytes u.val.toList v.val.toList, Lib.compareBytes u.sl.toList v.sl.toList]) := Lib.hid rfl
  have HW2 := Lib.hid hW2
  have H1 := Lib.hid (fun W => cmpC_any u.car v.car W)
  have H2 := Lib.hid (fun W => cmpC_any u.num v.num W)
  have H3 := Lib.hid (fun W => cmpC_any u.stp v.stp W)
  have H4 := Lib.hid (fun W => cmpS_any u.val v.val W)
  have H5 := Lib.hid (fun W => cmpS_any u.sl v.sl W)
  generalize cmpV u v = R at *
  generalize Lib.compareInt u.car v.car = r1 at *
  generalize Lib.compareInt u.num v.num = r2 at *
  generalize Lib.compareInt u.stp v.stp = r3 at *
  generalize Lib.compareBytes u.val.toList v.val.toList = r4 at *
  generalize Lib.compareBytes u.sl.toList v.sl.toList = r5 at *
  clear hW2
  obtain ⟨uc, un, us, uv, ul⟩ := u
  obtain ⟨vc, vn, vs, vv, vl⟩ := v
  simp only at a0 a1 a2 a3 a4 b0 b1 b2 b3 b4 H1 H2 H3 H4 H5 HW2
  go_enter Tryz.func115, Tryz.ntmps115
  go_upto_region 1 with fail
  rw [← HW2.out]
  refine wp_region_quiet_tail 29 (fun w' => ∃ q, w' = W2.drewN q) (by kernel_rfl) (by kernel_rfl) ⟨1, rfl⟩ ?_
  simp only [List.take_succ_cons, List.take_zero, List.drop_succ_cons, List.drop_zero]
  repeat (go_big_quiet_step (first | ((with_reducible refine (H1.out _).mono ?_); rintro e w1 ⟨rfl, rfl⟩; exact ⟨rfl, _, rfl⟩) | ((with_reducible refine (H2.out _).mono ?_); rintro e w1 ⟨rfl, rfl⟩; exact ⟨rfl, _, rfl⟩) | ((with_reducible refine (H3.out _).mono ?_); rintro e w1 ⟨rfl, rfl⟩; exact ⟨rfl, _, rfl⟩) | ((with_reducible refine (H4.out _).mono ?_); rintro e w1 ⟨rfl, rfl⟩; exact ⟨rfl, _, rfl⟩) | ((with_reducible refine (H5.out _).mono ?_); rintro e w1 ⟨rfl, rfl⟩; exact ⟨rfl, _, rfl⟩)))
  refine wpQuiet_nil ?_
  rintro _ ⟨nq, rfl⟩
  clear a0 a1 a2 a3 a4 b0 b1 b2 b3 b4 H1 H2 H3 H4 H5
  have HO := Lib.hid (or_any (row5 ((W2.drewN nq).alloc (.cells #[.int .i64 r1, .int .i64 r2, .int .i64 r3, .int .i64 r4, .int .i64 r5] 3)) (W2.drewN nq).heap.size r1 r2 r3 r4 r5 (heap_alloc_new _ _)))
  rw [← HR.out] at HO
  go_wp2_with (go_at_call 116; refine HO.out.mono ?_; rintro e w3 ⟨rfl, rfl⟩)
  go_ret
  refine ⟨rfl, nq, #[.cells #[.int .i64 uc, .int .i64 un, .int .i64 us, .string uv, .string ul] 27, .cells #[.int .i64 vc, .int .i64 vn, .int .i64 vs, .string vv, .string vl] 27, .cells #[.int .i64 r1, .int .i64 r2, .int .i64 r3, .int .i64 r4, .int .i64 r5] 3], ?_⟩
  rw [HW2.out]
  rw [alloc_eq_grow, alloc_eq_grow, alloc_eq_grow]
  show grow (grow (grow (w.drewN nq) _) _) _ = _
  rw [grow_grow, grow_grow]
  rfl
end Go.Proofs.YtggdcnjaofflbaaGreatDoor

/- Walks: slices.AppendSeq, Collect at the genuine votes. The conditions: what the slices read as, lengths of keys, the table of constants. -/
namespace Go.Proofs.YtggdcnjaofflbaaGreatDoor
open Go.RowKit Go.BigFrame Go.Shelf

attribute [local go_sem] Oper.semAt_some

theorem abide_ownE {α : Type} {B base size : Nat} {e : TypeId} (v : Value) (f : List α → List (List Value)) : Abide (α := α) none B (fun pre W => OwnE W base e size v (f pre)) :=
  ⟨fun pre A C h hs => owns_any h hs.1,
   fun pre A C r h hg hr => World.ownsRow.kept h hg (by
    rcases hr with hr | ⟨k, o, hr, _, ho, hc⟩
    · rw [hr]
      cases hv : v.ownBlock with
      | none => exact .inl rfl
      | some x => exact .inr (by simp)
    · rcases h.2 with ⟨rfl, _⟩ | ⟨g, cap, cur, rfl, _, hgg, _⟩
      · exact .inl rfl
      · refine .inr (fun e' => ?_)
        rw [hr] at e'
        have e2 : g = k := by simpa [Value.ownBlock] using e'
        subst e2
        rw [hgg] at ho
        cases ho
        cases hc)⟩

set_option maxHeartbeats 4000000 in
set_option maxRecDepth 100000 in
theorem appendSeq_any {wd w : World} {kv x : Value} {ks : List ByteArray} {l : List VoteP} (hr : SS wd kv ks) (hks : ∀ k ∈ ks, k.size ≤ 1000) (hl : VS wd x l) (hl6 : l.length ≤ 1000000) (he : Env wd) (hg : 3 < wd.heap.size) (hb : Below wd.heap.size wd w) (b1 b2 : Nat)
    (h1 : w.heap[b1]? = some (.cells #[x] 35 (0, 0))) (h2 : w.heap[b2]? = some (.cells #[kv] 31 (0, 0))) :
    Calls Tryz.prog 168 #[.slice none 0 0, .func (.func 146) #[] #[.pointer (some ⟨b1, 0, none⟩), .pointer (some ⟨b2, 0, none⟩)]] w fun e w' => ∃ v, e = .returned v ∧ OwnV w' w.heap.size v (l.filter (genV ks)) ∧ Below w.heap.size w w' := by
  have hl1 := (Array.getElem?_eq_some_iff.1 h1).1
  have hl2 := (Array.getElem?_eq_some_iff.1 h2).1
  obtain ⟨W1, hW1⟩ : ∃ W1, W1 = w.alloc (.cells #[.slice none 0 0] 35) := ⟨_, rfl⟩
  have HB1 : Hid (Below w.heap.size w W1) := Lib.hid (by rw [hW1]; exact (Below.refl _ _).alloc (Nat.le_refl _) _)
  have HP1 : Hid (W1.heap[w.heap.size]? = some (.cells #[.slice none 0 0] 35 (0, 0))) := Lib.hid (by rw [hW1]; exact heap_alloc_new w _)
  have hs1 : W1.heap.size = w.heap.size + 1 := by rw [hW1]; simp
  have HI := Lib.hid (gen_iter wd W1 hr hks hl he hg (hb.trans (HB1.out.mono hb.size)) b1 b2 ((HB1.out.block b1 hl1).trans h1) ((HB1.out.block b2 hl2).trans h2))
  have hwd := hb.size
  have HW1 := Lib.hid hW1
  clear hr hks he hg hb h1 h2 hW1
  refine calls_of_callsIn (n := 8) Wide.wide (callsIn_of_wp_marks Tryz.func168 rfl trivial ?_)
  simp only [Tryz.ntmps168, List.size_toArray, List.length_cons, List.length_nil, Nat.reduceAdd, Nat.reduceSub, Array.replicate_succ, Array.replicate_zero, List.push_toArray, List.append_toArray, List.nil_append, List.cons_append]
  refine wpIn_wide.2 ?_
  go_wp2
  rw [← HW1.out]
  refine (wpIn_wide (n := 8)).1 ?_
  refine wpIn_rangeA (n := 8) Wide.wide rfl (gf := 146) (lb := #[.pointer (some ⟨b1, 0, none⟩), .pointer (some ⟨b2, 0, none⟩)]) ?ev (fun args w => ?enter) HI.out (Below.refl _ _) (fun x => rfl) (fun q e => by cases e) (fun h h' => h.trans h') (fun W l o o' h1 h2 h3 h4 => ?kb)
    (fun pre W => (∃ v, W.heap[w.heap.size]? = some (.cells #[v] 35 (0, 0)) ∧ OwnE W w.heap.size 27 5 v ((pre.map (·.1)).map vcells)) ∧ Below w.heap.size w W) (fun _ _ _ => False) ?abide (fun _ => abide_false _ _) ⟨⟨_, HP1.out, OwnE.nil _ _ _ _⟩, HB1.out⟩
    (fun a x a' W => ∃ q, W.heap[q]? = some (.cells #[.int .i64 x.1.car, .int .i64 x.1.num, .int .i64 x.1.stp, .string x.1.val, .string x.1.sl] 27 (0, 0)) ∧ a' = ⟨(a.tmps.setIfInBounds 7 (vagg x.1)).setIfInBounds 5 (.pointer (some ⟨q, 0, none⟩)), []⟩)
    (fun x a' W l o o' h1 h2 h3 h4 => ?a1) (fun A C h1 h2 => ?kg) (fun l pre x W K hI hK => ?assign) (fun lr pre x a' W hI hlen hA => ?body) (fun Dm xs W hDm hS hI hDd => ?done) (fun Dm c pre W hD hS hI => hI.elim)
  case a1 =>
    obtain ⟨q, hq, ha⟩ := h1
    exact ⟨q, (World.putObj_heap_other (fun e => by subst e; rw [h3] at hq; cases hq; cases h4)).trans hq, ha⟩
  case kg => exact ⟨(Below.refl _ _).grown h2 (by omega) (fun j e => by cases e), h2.block _ (by omega) (by simp), h2.block _ (by omega) (by simp)⟩
  case assign =>
    unfold GV.enc vagg at *
    simp only [List.zip_toArray, List.zip_cons_cons, List.zip_nil_right, List.foldl_toArray', List.foldl_cons, List.foldl_nil, List.setIfInBounds_toArray, List.set_cons_succ, List.set_cons_zero]
    gi_wp2
    exact hK _ _ ⟨W.heap.size, heap_alloc_new _ _, rfl⟩ (World.grownBy_alloc _ _ _)
  case ev => rfl
  case enter => kernel_rfl
  case kb => exact ⟨(Below.refl _ _).grown (grownBy_putObj' W l o') (by have := (Array.getElem?_eq_some_iff.1 h2).1; omega) (fun j e => by cases e; omega), World.putObj_heap_other (fun e => by omega), World.putObj_heap_other (fun e => by omega)⟩
  case abide => exact abide_and (abide_ex fun v => abide_and (abide_cells (fun _ => .cells #[v] 35) (fun _ => rfl) (by simp)) (abide_ownE (α := GV ks) v (fun pre => (pre.map (·.1)).map vcells))) (abide_below (by omega) (Nat.le_refl _) (fun q e => by cases e))
  case body =>
    obtain ⟨q, hq, rfl⟩ := hA
    obtain ⟨⟨v, g1, g2⟩, g3⟩ := hI
    obtain ⟨y, hy⟩ := x
    simp only at hq
    obtain ⟨v0, v1, v2, v3, v4⟩ := vcellsAt hq
    have c1 : W.cell? ⟨w.heap.size, 0, none⟩ = some v := cell_of_row W _ 0 _ _ _ g1
    have hsW := (Array.getElem?_eq_some_iff.1 g1).1
    have hqW := (Array.getElem?_eq_some_iff.1 hq).1
    obtain ⟨L, hL⟩ : ∃ L, L = pre.map (·.1) := ⟨_, rfl⟩
    have HMP : Hid (((pre ++ [(⟨y, hy⟩ : GV ks)]).map (·.1)) = L ++ [y]) := Lib.hid (by rw [List.map_append, hL]; rfl)
    have hLl : L.length < l.length := by rw [hL, List.length_map]; exact hlen
    rw [← hL] at g2
    clear hL
    obtain ⟨X, hX⟩ : ∃ X : GV ks, X = ⟨y, hy⟩ := ⟨_, rfl⟩
    rw [← hX] at HMP ⊢
    have hXv : X.1 = y := by rw [hX]
    rw [hXv]
    clear hX hXv hq
    obtain ⟨va, vc, hv⟩ := OwnV.form g2
    subst hv
    have G1 := Lib.hid g1
    have G2 := Lib.hid g2
    have G3 := Lib.hid g3
    clear g1 g2 g3
    have hcl : (L.map vcells).length < l.length := by rw [List.length_map]; exact hLl
    obtain ⟨yc, yn, ys, yv, yl⟩ := y
    unfold vagg
    simp only at v0 v1 v2 v3 v4
    simp only [List.setIfInBounds_toArray, List.set_cons_succ, List.set_cons_zero]
    gi_wp2_with (refine wpListIn_append_el 35 27 5 56 _ (by kernel_rfl) infoVote3 rfl (by decide) rfl (.tmp 8) (.tmp 10) rfl w.heap.size (.slice va L.length vc) (L.map vcells) rfl (OwnE.alloc G2.out _) W.heap.size (vcells ⟨yc, yn, ys, yv, yl⟩) rfl (vcells_one _) rfl (0, 0) (heap_alloc_new _ _) (by unfold maxLen; omega) (by omega) (by simp; omega) ?_; intro v3 w3 ho3 hg3; have HG3 := Lib.hid hg3; have HO3 := Lib.hid ho3; clear ho3 hg3; have HC3 : Hid (w3.heap[w.heap.size]? = some (.cells #[.slice va L.length vc] 35 (0, 0))) := Lib.hid ((HG3.out.block _ (by simp; omega) (own_ne G2.out G1.out (fun c e => by cases e))).trans ((Below.heap_alloc _ _ _ hsW).trans G1.out)); have d1 : w3.cell? ⟨w.heap.size, 0, none⟩ = some (.slice va L.length vc) := cell_of_row w3 _ 0 _ _ _ HC3.out; have cf1 : w3.frozen? ⟨w.heap.size, 0, none⟩ = false := (by simp [World.frozen?, HC3.out]); obtain ⟨a3, cp3, hv3⟩ := HO3.out.form; generalize (L.map vcells ++ [vcells ⟨yc, yn, ys, yv, yl⟩]).length = M3 at hv3; subst hv3)
    have hset : w3.grownBy (w3.setCell ⟨w.heap.size, 0, none⟩ (.slice a3 M3 cp3)) (some w.heap.size) := grown_setCell (grown_refl _ _) _ (.inl rfl) _
    have hbw3 : Below w.heap.size w w3 := (G3.out.alloc G3.out.size _).grown HG3.out (by simp; omega) (fun j e => OwnE.ge G2.out j e)
    have hbW3 : Below w.heap.size W w3 := ((Below.refl _ W).alloc (Nat.le_of_lt hsW) _).grown HG3.out (by simp; omega) (fun j e => OwnE.ge G2.out j e)
    have hbW4 : Below w.heap.size W (w3.setCell ⟨w.heap.size, 0, none⟩ (.slice a3 M3 cp3)) := hbW3.grown hset (by have := hbW3.size; omega) (fun j e => by cases e; exact Nat.le_refl _)
    refine ⟨⟨hbW4.size, fun k o hk ho hnc => ?_⟩, ⟨hbW4.mono hwd, hbW4.block _ hl1, hbW4.block _ hl2⟩, ?_⟩
    · have hkl := (Array.getElem?_eq_some_iff.1 ho).1
      have h3 : w3.heap[k]? = some o := (HG3.out.block k (by simp; omega) (own_ne G2.out ho (fun c e => by subst e; cases hnc))).trans ((Below.heap_alloc _ _ _ hkl).trans ho)
      exact (hset.block k (Array.getElem?_eq_some_iff.1 h3).1 (fun e => by
        have := Option.some.inj e
        subst this
        rw [G1.out] at ho
        cases ho
        cases hnc)).trans h3
    · show (∃ v, _ ∧ OwnE _ _ _ _ _ ((List.map _ _).map vcells)) ∧ _
      rw [HMP.out, List.map_append]
      refine ⟨⟨_, ?_, HO3.out.grownX HC3.out (fun c e => by cases e) hset⟩, hbw3.grown hset (by have := hbw3.size; omega) (fun j e => by cases e; exact Nat.le_refl _)⟩
      rw [heap_setCell_same _ HC3.out]
      rfl
  case done =>
    obtain ⟨⟨v, g1, g2⟩, g3⟩ := hI
    have c1 : W.cell? ⟨w.heap.size, 0, none⟩ = some v := cell_of_row W _ 0 _ _ _ g1
    have G1 := Lib.hid g1
    have G2 : Hid (OwnV W w.heap.size v (l.filter (genV ks))) := Lib.hid (by rw [← hS]; exact g2)
    have G3 := Lib.hid g3
    have HDd := Lib.hid hDd
    have hsW := (Array.getElem?_eq_some_iff.1 g1).1
    have hDm' : w.heap.size + 1 ≤ Dm := by omega
    obtain ⟨va, vc, hv⟩ := G2.out.form
    subst hv
    clear hS g1 g2 g3 hDd hDm
    show Exit.inBlock _ _ _ (Act.mk _ [{ target := .collected Dm, args := #[] }]) W
    go_wp2
    have hM : Marks (w.heap.size + 1) [Dm] W := ⟨by simp, fun D' hD => by
      rw [List.mem_singleton] at hD
      subst hD
      exact ⟨hDm', HDd.out⟩⟩
    refine leaves_marks (B := w.heap.size + 1) [Dm] W hM (fun W'' hT => ⟨_, results_tmp rfl _ _ _, .slice va (l.filter (genV ks)).length vc, rfl, Taken.owns hT G2.out, G3.out.trans (hT.below.mono (by omega))⟩)
end Go.Proofs.YtggdcnjaofflbaaGreatDoor

/- Walks: slices.Collect, SortFunc, SortedFunc at the genuine votes. The conditions: what the slices read as, lengths of keys, the table of constants. -/
namespace Go.Proofs.YtggdcnjaofflbaaGreatDoor
open Go.RowKit Go.BigFrame Go.Shelf Go.Sort Go.Lib

theorem flat_votes (d : Array VoteP) : (flatK vcells 5 d).toList = (d.toList.map vcells).flatten := by
  symm
  have hl : ((d.toList.map vcells).flatten).length = d.size * 5 := by
    rw [flat_lenQ _ (vcells_len _), List.length_map, Array.length_toList]
  refine List.ext_getElem? fun j => ?_
  by_cases hj : j < d.size * 5
  · obtain ⟨u, hu⟩ : ∃ u, ((d.toList.map vcells).flatten)[j]? = some u := ⟨_, List.getElem?_eq_getElem (by rw [hl]; exact hj)⟩
    obtain ⟨i, r, c, h1, h2, h3⟩ := flat_atQ _ (vcells_len _) j u hu
    rw [List.getElem?_map] at h1
    obtain ⟨x, hx, rfl⟩ := Option.map_eq_some_iff.1 h1
    have hr : r < 5 := (List.getElem?_eq_some_iff.1 h2).1
    have hi := (List.getElem?_eq_some_iff.1 hx).1
    rw [Array.length_toList] at hi
    rw [Array.getElem?_toList] at hx
    have hdx : d[i]! = x := by
      rw [getElem!_pos d i hi]
      rw [Array.getElem?_eq_getElem hi] at hx
      exact Option.some.inj hx
    have e1 : j / 5 = i := by omega
    have e2 : j % 5 = r := by omega
    have h4 := get_flatK vcells 5 d j hj
    rw [e1, e2, hdx] at h4
    have h5 : j < (flatK vcells 5 d).size := by rw [size_flatK]; exact hj
    rw [hu, Array.getElem?_toList, Array.getElem?_eq_getElem h5, ← getElem!_pos _ j h5, h4]
    rw [List.getElem!_eq_getElem?_getD, h2]
    rfl
  · rw [List.getElem?_eq_none (by rw [hl]; omega), List.getElem?_eq_none (by rw [Array.length_toList, size_flatK]; omega)]
theorem holdsK_of_block {w : World} {g : Nat} {cur : Array Value} {e : TypeId} {d : Array VoteP} (hb : w.heap[g]? = some (.cells cur e (0, 0))) (ht : cur.toList.take (d.size * 5) = (d.toList.map vcells).flatten) : HoldsK vcells 5 w g 0 d := by
  intro j hj
  rw [size_flatK] at hj
  refine ⟨?_, by simp [World.frozen?, hb]⟩
  have h1 : (cur.toList.take (d.size * 5))[j]? = (flatK vcells 5 d).toList[j]? := by rw [ht, flat_votes]
  rw [List.getElem?_take_of_lt hj, Array.getElem?_toList, Array.getElem?_toList] at h1
  have h5 : j < (flatK vcells 5 d).size := by rw [size_flatK]; exact hj
  rw [Nat.zero_add, cell_of_row w g j _ _ _ hb, h1, Array.getElem?_eq_getElem h5, getElem!_pos _ j h5]
  rfl
theorem heap_putRowK {w : World} {g : Nat} {cur : Array Value} {e : TypeId} {fr : Nat × Nat} (d : Array VoteP) (hb : w.heap[g]? = some (.cells cur e fr)) :
    (putRowK vcells 5 w g 0 d).heap[g]? = some (.cells (putCells id 0 (flatK vcells 5 d) cur) e fr) := by
  simp [putRowK, putRow, mapBlock, Array.getElem?_modify, hb, onCells]
theorem grownBy_putRowK (w : World) (g : Nat) (d : Array VoteP) : w.grownBy (putRowK vcells 5 w g 0 d) (some g) := by
  refine ⟨rfl, rfl, rfl, by simp [putRowK, putRow, mapBlock], fun k hk hne => ?_⟩
  have : g ≠ k := fun e => hne (by rw [e])
  simp [putRowK, putRow, mapBlock, Array.getElem?_modify, this]
theorem take_putK (cur : Array Value) (d : Array VoteP) (h : d.size * 5 ≤ cur.size) : (putCells id 0 (flatK vcells 5 d) cur).toList.take (d.size * 5) = (d.toList.map vcells).flatten := by
  rw [← flat_votes]
  apply List.ext_getElem?
  intro j
  by_cases hj : j < d.size * 5
  · have h5 : j < (flatK vcells 5 d).size := by rw [size_flatK]; exact hj
    rw [List.getElem?_take_of_lt hj, Array.getElem?_toList, Array.getElem?_toList, Array.getElem?_eq_getElem h5]
    rw [← getElem!_pos _ j h5]
    simp [putCells, hj, show j < cur.size by omega]
  · rw [List.getElem?_take_eq_none (by omega), List.getElem?_eq_none (by rw [Array.length_toList, size_flatK]; omega)]
theorem ownV_put {w : World} {base g cap : Nat} {cur : Array Value} {n : Nat} {d : Array VoteP} (hbase : base ≤ g) (hb : w.heap[g]? = some (.cells cur 27 (0, 0)))
    (hn : n = d.size) (h1 : n ≤ cap) (h2 : cap ≤ maxLen) (h3 : cur.size = cap * 5) : OwnV (putRowK vcells 5 w g 0 d) base (.slice (some ⟨g, 0, none⟩) n cap) d.toList := by
  subst hn
  refine ⟨?_, .inr ⟨g, cap, _, ?_, hbase, heap_putRowK d hb, by rw [List.length_map, Array.length_toList]; exact h1, h2, by simp [putCells, h3], ?_⟩⟩
  · rw [flat_lenQ _ (vcells_len _)]
  · rw [List.length_map, Array.length_toList]
  · rw [List.length_map, Array.length_toList]
    exact take_putK cur d (by rw [h3]; exact Nat.mul_le_mul_right 5 h1)
theorem sortFunc_any {w : World} {base : Nat} {v : Value} {l : List VoteP} (h : OwnV w base v l) (hl6 : l.length ≤ 1000000) :
    Calls Tryz.prog 148 #[v, .func (.func 115) #[] #[]] w fun e w' => e = .returned (.tuple #[]) ∧ ∃ d' : Array VoteP, PermIn 0 l.length l.toArray d' ∧ SortedIn (fun a b => decide (cmpV a b < 0)) 0 l.length d' ∧ OwnV w' base v d'.toList ∧ w.grownBy w' v.ownBlock := by
  rcases h.2 with ⟨rfl, h0⟩ | ⟨g, cap, cur, rfl, hg, hb, h1, h2, h3, h4⟩
  · rw [List.length_map] at h0
    obtain rfl := List.length_eq_zero_iff.1 h0
    refine (AnyF.slices_SortFunc_none { Tryz.sortF with } none 0 _ w).mono ?_
    rintro e w' ⟨he, rfl⟩
    exact ⟨he, #[], ⟨rfl, fun _ _ => rfl, List.Perm.refl _⟩, fun i j _ _ hj => by simp at hj, h, grown_refl _ _⟩
  · rw [List.length_map] at h1 h4 ⊢
    have eg : ∀ args w, (callFunc 115 args).run Tryz.prog w = .ok (.enter 115 args) w := enters_of Tryz.func115 (by kernel_rfl) rfl
    have hH : HoldsK vcells 5 w g 0 l.toArray := holdsK_of_block hb (by simpa using h4)
    have hc := AnyQ.slices_SortFunc Tryz.sortF 5 Tryz.isAgg27 Tryz.sizeOf27 vcells (fun _ => rfl) vcells_one cmpV cmpV_swo 115 #[] g 0 cap l.toArray w eg (fun m os dk hdk x y => cmpfn_any x y _) hH (Array.getElem?_eq_some_iff.1 hb).1 (by rw [List.size_toArray]; omega)
    rw [List.size_toArray] at hc
    refine hc.mono ?_
    rintro e w' ⟨he, d', n, os, hp, hs, rfl⟩
    refine ⟨he, d', hp, hs, ?_, ?_⟩
    · have hd : d'.size = l.length := by rw [hp.1, List.size_toArray]
      have o1 : OwnV (putRowK vcells 5 (Sort.ahead w n) g 0 d') base (.slice (some ⟨g, 0, none⟩) l.length cap) d'.toList := ownV_put hg hb hd.symm h1 h2 h3
      refine owns_any o1 ⟨rfl, rfl, rfl, by simp [sortWorldK, grow], fun k hk _ => ?_⟩
      exact heap_grow_old _ _ hk
    · have g1 : w.grownBy (putRowK vcells 5 (Sort.ahead w n) g 0 d') (some g) := by
        have := grownBy_putRowK (Sort.ahead w n) g d'
        exact ⟨this.os, this.tape, this.output, this.size, this.block⟩
      exact ⟨g1.os, g1.tape, g1.output, by simp [sortWorldK, grow]; have := g1.size; omega, fun k hk hne => (heap_grow_old _ _ (by have := g1.size; omega)).trans (g1.block k hk hne)⟩
set_option maxHeartbeats 1000000 in
theorem collect_any {wd w : World} {kv x : Value} {ks : List ByteArray} {l : List VoteP} (hr : SS wd kv ks) (hks : ∀ k ∈ ks, k.size ≤ 1000) (hl : VS wd x l) (hl6 : l.length ≤ 1000000) (he : Env wd) (hg : 3 < wd.heap.size) (hb : Below wd.heap.size wd w) (b1 b2 : Nat)
    (h1 : w.heap[b1]? = some (.cells #[x] 35 (0, 0))) (h2 : w.heap[b2]? = some (.cells #[kv] 31 (0, 0))) :
    Calls Tryz.prog 147 #[.func (.func 146) #[] #[.pointer (some ⟨b1, 0, none⟩), .pointer (some ⟨b2, 0, none⟩)]] w fun e w' => ∃ v, e = .returned v ∧ OwnV w' w.heap.size v (l.filter (genV ks)) ∧ Below w.heap.size w w' := by
  have H := Lib.hid (appendSeq_any hr hks hl hl6 he hg hb b1 b2 h1 h2)
  generalize l.filter (genV ks) = R at *
  clear hr hks hl he hg hb h1 h2
  go_enter Tryz.func147, Tryz.ntmps147
  go_wp2_with (go_at_call 168; refine H.out.mono ?_; rintro e w1 ⟨v, rfl, h5, h6⟩; have H5 := Lib.hid h5; have H6 := Lib.hid h6; clear h5 h6)
  go_ret
  exact ⟨v, rfl, H5.out, H6.out⟩
set_option maxHeartbeats 1000000 in
theorem sortedFunc_any {wd w : World} {kv x : Value} {ks : List ByteArray} {l : List VoteP} (hr : SS wd kv ks) (hks : ∀ k ∈ ks, k.size ≤ 1000) (hl : VS wd x l) (hl6 : l.length ≤ 1000000) (he : Env wd) (hg : 3 < wd.heap.size) (hb : Below wd.heap.size wd w) (b1 b2 : Nat)
    (h1 : w.heap[b1]? = some (.cells #[x] 35 (0, 0))) (h2 : w.heap[b2]? = some (.cells #[kv] 31 (0, 0))) :
    Calls Tryz.prog 114 #[.func (.func 146) #[] #[.pointer (some ⟨b1, 0, none⟩), .pointer (some ⟨b2, 0, none⟩)], .func (.func 115) #[] #[]] w fun e w' => ∃ v, e = .returned v ∧ ∃ d' : Array VoteP, PermIn 0 (l.filter (genV ks)).length (l.filter (genV ks)).toArray d' ∧ SortedIn (fun a b => decide (cmpV a b < 0)) 0 (l.filter (genV ks)).length d' ∧ OwnV w' w.heap.size v d'.toList ∧ Below w.heap.size w w' := by
  have H := Lib.hid (collect_any hr hks hl hl6 he hg hb b1 b2 h1 h2)
  have hR6 : (l.filter (genV ks)).length ≤ 1000000 := Nat.le_trans (List.length_filter_le _ _) hl6
  generalize l.filter (genV ks) = R at *
  clear hr hks hl he hg hb h1 h2
  go_enter Tryz.func114, Tryz.ntmps114
  go_wp2_with (first | (go_at_call 147; refine H.out.mono ?_; rintro e w1 ⟨v, rfl, h5, h6⟩; have H5 := Lib.hid h5; have H6 := Lib.hid h6; clear h5 h6) | (go_at_call 148; refine (sortFunc_any H5.out hR6).mono ?_; rintro e w2 ⟨rfl, d', hp, hs, h7, h8⟩; have HP := Lib.hid hp; have HS := Lib.hid hs; have H7 := Lib.hid h7; have H8 := Lib.hid h8; clear hp hs h7 h8))
  go_ret
  exact ⟨v, rfl, d', HP.out, HS.out, H7.out, below_own H6.out H5.out H8.out (Nat.le_refl _)⟩
end Go.Proofs.YtggdcnjaofflbaaGreatDoor

/- Two votes compared. No condition. -/
namespace Go.Proofs.YtggdcnjaofflbaaGreatDoor
open Go.RowKit Go.BigFrame

theorem eqVote_iff (u v : VoteP) : u = v ↔ u.car = v.car ∧ u.num = v.num ∧ u.stp = v.stp ∧ u.val = v.val ∧ u.sl = v.sl := by
  obtain ⟨a, b, c, d, e⟩ := u
  obtain ⟨a', b', c', d', e'⟩ := v
  simp
theorem eqlVote (u v : VoteP) (w : World) : (binOp .eql 27 (vagg u) (vagg v)).run Tryz.prog w = .ok (.bool (decide (u = v))) w := by
  obtain ⟨a, b, c, d, f⟩ := u
  obtain ⟨a', b', c', d', f'⟩ := v
  have h1 := run_equalIn_struct (P := Tryz.prog) w 9999 27 #[.int .i64 a, .int .i64 b, .int .i64 c, .string d, .string f] #[.int .i64 a', .int .i64 b', .int .i64 c', .string d', .string f'] (by kernel_rfl) (by kernel_rfl)
  have e : decide ((⟨a, b, c, d, f⟩ : VoteP) = ⟨a', b', c', d', f'⟩) = (a == a' && b == b' && c == c' && decide (d = d') && decide (f = f')) := by
    rw [Bool.eq_iff_iff, decide_eq_true_iff, eqVote_iff]; simp [and_assoc]
  have g1 := same_str d d'
  have g2 := same_str f f'
  rw [e]
  unfold vagg
  rw [run_eql_struct, show (10000 : Nat) = 9999 + 1 from rfl, h1]
  simp only [go_sem, Program.fieldsOf]
  by_cases e1 : a = a' <;> by_cases e2 : b = b' <;> by_cases e3 : c = c' <;> by_cases e4 : d = d' <;> by_cases e5 : f = f' <;> simp [go_sem, e1, e2, e3, e4, e5, g1, g2]
theorem neqVote (u v : VoteP) (w : World) : (binOp .neq 27 (vagg u) (vagg v)).run Tryz.prog w = .ok (.bool (!decide (u = v))) w := by
  have h := eqlVote u v w
  unfold vagg at *
  rw [run_eql_struct] at h
  rw [run_neq_struct]
  generalize (Op.equalIn 10000 27 _ _).run Tryz.prog w = r at *
  cases r with
  | ok b w' =>
    simp only [Result.andThen_ok] at h ⊢
    injection h with h1 h2
    injection h1 with h1
    subst h1 h2
    rfl
  | _ => cases h
end Go.Proofs.YtggdcnjaofflbaaGreatDoor
