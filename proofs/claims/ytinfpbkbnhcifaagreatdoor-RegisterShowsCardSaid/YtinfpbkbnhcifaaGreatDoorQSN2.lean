/- What a law's walk keeps, grown by slices that are written out; a pair of items opened. No condition. -/
import Derived.Test.YtinfpbkbnhcifaaGreatDoorQSH1
namespace Go.Proofs.YtinfpbkbnhcifaaGreatDoor
open Go.RowKit Go.BigFrame

section
variable {w0 w : World} {ls : List Dat}
theorem Know.strs (k : Know w0 w ls) (T : TypeId) (xs : List ByteArray) {cs : Array Value} (n : Nat) (hc : cs = (xs.map Value.string).toArray) (hn : n = xs.length) (hm : xs.length ≤ 1000) : Know w0 (w.alloc (.cells cs T)) (ls ++ [.S (.slice (some ⟨w.heap.size, 0, none⟩) n n) xs]) :=
  (k.alloc _).put (d := .S _ xs) (SS.lit xs (by rw [heap_alloc_new, hc]) hn hm)
theorem Know.ints (k : Know w0 w ls) (T : TypeId) (xs : List Int) {cs : Array Value} (n : Nat) (hc : cs = (xs.map (Value.int .i64)).toArray) (hn : n = xs.length) (hm : xs.length ≤ 1000) : Know w0 (w.alloc (.cells cs T)) (ls ++ [.N (.slice (some ⟨w.heap.size, 0, none⟩) n n) xs]) :=
  (k.alloc _).put (d := .N _ xs) (IL.lit xs (by rw [heap_alloc_new, hc]) hn hm)
theorem Know.parts (k : Know w0 w ls) (T : TypeId) (zs : List (PartP × Value)) {cs : Array Value} (n : Nat) (hc : cs = (ptcells zs).flatten.toArray) (hn : n = zs.length) (hm : zs.length ≤ 1000) (hz : ∀ z ∈ zs, ∃ i : Nat, ls[i]? = some (Dat.I z.2 z.1.items)) : Know w0 (w.alloc (.cells cs T)) (ls ++ [.P (.slice (some ⟨w.heap.size, 0, none⟩) n n) (zs.map (·.1))]) := by
  refine (k.alloc _).put (d := .P _ (zs.map (·.1))) ⟨zs, rfl, ?_, fun z hz' => ?_⟩
  · refine slice_lit (cs := ptcells zs) (T := T) (by rw [heap_alloc_new, hc]) (fun c hc' => ?_) (by unfold ptcells; rw [List.length_map]; exact hn) (by unfold ptcells; rw [List.length_map]; exact hm)
    unfold ptcells at hc'
    obtain ⟨z, _, rfl⟩ := List.mem_map.1 hc'
    rfl
  · obtain ⟨i, hi⟩ := hz z hz'
    exact (k.alloc (.cells cs T)).all i _ hi
theorem Know.five (k : Know w0 w ls) {i b : Nat} {c0 c1 c2 c3 c4 : Value} {T : TypeId} (hi : ls[i]? = some (.B b #[c0, c1, c2, c3, c4] T)) :
    w.cell? ⟨b, 0, none⟩ = some c0 ∧ w.cell? ⟨b, 1, none⟩ = some c1 ∧ w.cell? ⟨b, 2, none⟩ = some c2 ∧ w.cell? ⟨b, 3, none⟩ = some c3 ∧ w.cell? ⟨b, 4, none⟩ = some c4 := by
  have h : w.heap[b]? = some (.cells #[c0, c1, c2, c3, c4] T (0, 0)) := k.all i _ hi
  exact ⟨cell_of_row w _ 0 _ _ _ h, cell_of_row w _ 1 _ _ _ h, cell_of_row w _ 2 _ _ _ h, cell_of_row w _ 3 _ _ _ h, cell_of_row w _ 4 _ _ _ h⟩
theorem Know.duo (k : Know w0 w ls) {i b : Nat} {c0 c1 : Value} {T : TypeId} (hi : ls[i]? = some (.B b #[c0, c1] T)) :
    w.cell? ⟨b, 0, none⟩ = some c0 ∧ w.cell? ⟨b, 1, none⟩ = some c1 := by
  have h : w.heap[b]? = some (.cells #[c0, c1] T (0, 0)) := k.all i _ hi
  exact ⟨cell_of_row w _ 0 _ _ _ h, cell_of_row w _ 1 _ _ _ h⟩
/-- A pair of items. -/
def PairAt2 (w : World) (b o : Nat) (x y : ItemP) (v u : Value) : Prop :=
  b < w.heap.size ∧ w.cell? ⟨b, o, none⟩ = some (.int .i64 x.idx) ∧ w.cell? ⟨b, o + 1, none⟩ = some (.string x.ent) ∧ w.cell? ⟨b, o + 2, none⟩ = some v ∧ w.cell? ⟨b, o + 3, none⟩ = some (.int .i64 y.idx) ∧ w.cell? ⟨b, o + 4, none⟩ = some (.string y.ent) ∧ w.cell? ⟨b, o + 5, none⟩ = some u
theorem Know.pair (k : Know w0 w ls) {i : Nat} {iv : Value} {x y : ItemP} (hi : ls[i]? = some (.I iv [x, y])) :
    ∃ b o c v u, iv = .slice (some ⟨b, o, none⟩) 2 c ∧ ISt w iv [(x, v), (y, u)] ∧ PairAt2 w b o x y v u := by
  obtain ⟨ys, hys, h⟩ := (k.all i _ hi : IT w iv [x, y])
  match ys, hys with
  | [(x', v), (y', u)], hys =>
    simp at hys
    obtain ⟨rfl, rfl⟩ := hys
    obtain ⟨a, c, h1, _, _, h2⟩ := h.is.opened
    obtain ⟨b, o, rfl, hb, e1, e2, e3⟩ := h2 0 _ rfl
    obtain ⟨b', o', e, _, f1, f2, f3⟩ := h2 1 _ rfl
    cases e
    refine ⟨b, o, c, v, u, h1, h, hb, ?_, ?_, ?_, ?_, ?_, ?_⟩
    · simpa using e1
    · simpa using e2
    · simpa using e3
    · simpa using f1
    · simpa using f2
    · simpa using f3
/-- Items that are built of the proofs of others. -/
theorem IT.two {W : World} {iv : Value} {x y : ItemP} {v u : Value} (h : ISt W iv [(x, v), (y, u)]) (x' y' : ItemP) (hx : x'.prf = x.prf) (hy : y'.prf = y.prf) {b : Nat} {fr : Nat × Nat} (hb : W.heap[b]? = some (.cells #[.int .i64 x'.idx, .string x'.ent, v, .int .i64 y'.idx, .string y'.ent, u] 53 fr)) : IT W (.slice (some ⟨b, 0, none⟩) 2 2) [x', y'] := by
  refine ⟨[(x', v), (y', u)], rfl, ⟨slice_lit (cs := itcells [(x', v), (y', u)]) (T := 53) (fz := fr) hb (fun c hc => ?_) rfl (by simp [itcells]), fun z hz => ?_⟩, fun a n c e => ?_, fun z hz => ?_⟩
  · unfold itcells at hc
    obtain ⟨z, _, rfl⟩ := List.mem_map.1 hc
    rfl
  · simp at hz
    rcases hz with rfl | rfl
    · show SS W v x'.prf
      rw [hx]; exact h.is.2 (x, v) (by simp)
    · show SS W u y'.prf
      rw [hy]; exact h.is.2 (y, u) (by simp)
  · cases e
    exact .inr ⟨_, _, hb⟩
  · simp at hz
    rcases hz with rfl | rfl
    · exact h.tp (x, v) (by simp)
    · exact h.tp (y, u) (by simp)
/-- A new part whose items are built of the proofs of others: the items first, or the part's box first. -/
theorem Know.newPart1 (k : Know w0 w ls) {iv : Value} {x y : ItemP} {v u : Value} (h : ISt w iv [(x, v), (y, u)]) (x' y' : ItemP) (hx : x'.prf = x.prf) (hy : y'.prf = y.prf) (c0 c1 c2 c3 : Value) :
    Know w0 ((w.alloc (.cells #[.int .i64 x'.idx, .string x'.ent, v, .int .i64 y'.idx, .string y'.ent, u] 53)).alloc (.cells #[c0, c1, c2, c3, .slice (some ⟨w.heap.size, 0, none⟩) 2 2] 38)).drew (ls ++ [.I (.slice (some ⟨w.heap.size, 0, none⟩) 2 2) [x', y']] ++ [.B (w.heap.size + 1) #[c0, c1, c2, c3, .slice (some ⟨w.heap.size, 0, none⟩) 2 2] 38]) := by
  have k1 := (k.alloc (.cells #[.int .i64 x'.idx, .string x'.ent, v, .int .i64 y'.idx, .string y'.ent, u] 53)).put (d := .I (.slice (some ⟨w.heap.size, 0, none⟩) 2 2) [x', y']) (IT.two (h.below ((Below.refl _ _).alloc (Nat.le_refl _) _)) x' y' hx hy (heap_alloc_new w _))
  have k2 := k1.box #[c0, c1, c2, c3, .slice (some ⟨w.heap.size, 0, none⟩) 2 2] 38
  have e : (w.alloc (.cells #[.int .i64 x'.idx, .string x'.ent, v, .int .i64 y'.idx, .string y'.ent, u] 53)).heap.size = w.heap.size + 1 := by simp
  rw [e] at k2
  exact k2.drew
theorem Know.newPart2 (k : Know w0 w ls) {iv : Value} {x y : ItemP} {v u : Value} (h : ISt w iv [(x, v), (y, u)]) (x' y' : ItemP) (hx : x'.prf = x.prf) (hy : y'.prf = y.prf) (c0 c1 c2 c3 : Value) :
    Know w0 ((w.alloc (.cells #[c0, c1, c2, c3, .slice (some ⟨w.heap.size + 1, 0, none⟩) 2 2] 38)).alloc (.cells #[.int .i64 x'.idx, .string x'.ent, v, .int .i64 y'.idx, .string y'.ent, u] 53)).drew (ls ++ [.I (.slice (some ⟨w.heap.size + 1, 0, none⟩) 2 2) [x', y']] ++ [.B w.heap.size #[c0, c1, c2, c3, .slice (some ⟨w.heap.size + 1, 0, none⟩) 2 2] 38]) := by
  have b1 : Below w.heap.size w (w.alloc (.cells #[c0, c1, c2, c3, .slice (some ⟨w.heap.size + 1, 0, none⟩) 2 2] 38)) := (Below.refl _ _).alloc (Nat.le_refl _) _
  have e : (w.alloc (.cells #[c0, c1, c2, c3, .slice (some ⟨w.heap.size + 1, 0, none⟩) 2 2] 38)).heap.size = w.heap.size + 1 := by simp
  have hB : (w.alloc (.cells #[c0, c1, c2, c3, .slice (some ⟨w.heap.size + 1, 0, none⟩) 2 2] 38)).heap[w.heap.size]? = some (.cells #[c0, c1, c2, c3, .slice (some ⟨w.heap.size + 1, 0, none⟩) 2 2] 38 (0, 0)) := heap_alloc_new w _
  have k1 := k.alloc (.cells #[c0, c1, c2, c3, .slice (some ⟨w.heap.size + 1, 0, none⟩) 2 2] 38)
  generalize w.alloc (.cells #[c0, c1, c2, c3, .slice (some ⟨w.heap.size + 1, 0, none⟩) 2 2] 38) = w1 at *
  have k2 := (k1.alloc (.cells #[.int .i64 x'.idx, .string x'.ent, v, .int .i64 y'.idx, .string y'.ent, u] 53)).put (d := .I (.slice (some ⟨w1.heap.size, 0, none⟩) 2 2) [x', y']) (IT.two ((h.below b1).below ((Below.refl _ _).alloc (Nat.le_refl _) _)) x' y' hx hy (heap_alloc_new w1 _))
  rw [e] at k2
  exact (k2.put (d := .B w.heap.size #[c0, c1, c2, c3, .slice (some ⟨w.heap.size + 1, 0, none⟩) 2 2] 38) (alloc_at hB)).drew
end
theorem get_new {α : Type} {ls : List α} {x : α} : (ls ++ [x])[ls.length]? = some x := by simp
end Go.Proofs.YtinfpbkbnhcifaaGreatDoor

/- The facts of the examples with which each statement of the register layer begins, with the examples' parts behind letters. Conditions: none besides those of shown. -/
namespace Go.Proofs.YtinfpbkbnhcifaaGreatDoor
open Go.RowKit Go.BigFrame

/-- What the law's shown does for a part. -/
def Shows (X : PartP) (xs : List ByteArray) (n : Nat) (l : List Int) : Prop :=
  ∀ {w W : World} {ls : List Dat} (_ : Know w W ls) (i j : Nat) {v vl : Value}, ls[i]? = some (Dat.S v xs) → ls[j]? = some (Dat.N vl l) → Calls Tryz.prog 52 #[v, .int .i64 n, vl] W fun e w' => ∃ iv, e = .returned (.tuple #[.agg (pbox X iv), .bool true]) ∧ Know w w' (ls ++ [.I iv X.items])
theorem shows_part (xs : List ByteArray) (is : List Nat) (n : Nat) (hv : validB ⟨2, xs⟩ = true) (hn : n ≤ xs.length) (hp : is.Pairwise (· < ·)) (hl : ∀ i ∈ is, i < n) (hll : is.length ≤ 1000) (l : List Int) (hll' : l = is.map fun i : Nat => (i : Int)) : Shows (partS key2 2 xs n is) xs n l := by
  subst hll'
  exact fun k i j _ _ hi hj => shown_at k i j hi is hj n hv hn hp hl hll

structure Facts (P F S A B Wh E : PartP) (x0 x1 : ItemP) (g1 g2 g3 : List ByteArray) : Prop where
  hP : P.items = [x0, x1]
  fP : FitOne P
  fF : FitOne F
  fS : FitOne S
  fA : FitOne A
  fB : FitOne B
  fWh : FitOne Wh
  fE : FitOne E
  shP : Shows P oneL 3 [0, 2]
  shF : Shows F oneL 2 [1]
  shS : Shows S twoL 3 [1]
  shA : Shows A oneL 2 [0]
  shB : Shows B twoL 3 [0]
  shWh : Shows Wh oneL 3 [0]
  shE : Shows E oneL 1 [0]
  l1 : g1.length ≤ 1000
  l2 : g2.length ≤ 1000
  l3 : g3.length ≤ 1000
  bad : checkB key2 ⟨P.head, [x0, ⟨2, sD, x1.prf⟩]⟩ = false
  fbad : FitOne ⟨P.head, [x0, ⟨2, sD, x1.prf⟩]⟩
  e1 : extendsB key2 E.head P.head g1 = true
  e2 : extendsB key2 E.head S.head g2 = true
  e3 : extendsB key2 F.head S.head g3 = false
  c1 : convictsB key2 F S = true
  c2 : convictsB key2 A B = false
  c3 : convictsB key2 Wh B = true
  c4 : convictsB key2 P F = false
  n1 : genuineB key2 P.head = true
  n2 : genuineB key3 P.head = false
  j1 : joinR key2 [E, P] = some ([⟨0, sA, []⟩, ⟨2, sC, []⟩], -1, -1)
  j2 : joinR key2 [E, F, S] = some ([], 1, 2)
  r1 : grownB ⟨2, oneL⟩ 1 3 = some g1
  r2 : grownB ⟨2, twoL⟩ 1 3 = some g2
  r3 : grownB ⟨2, twoL⟩ 2 3 = some g3
theorem facts_are : Facts pP firstP secondP aP bP wholeP earlyP (idxItem oneL 3 0) (idxItem oneL 3 2) gOne gTwo gWrong where
  hP := rfl
  fP := fit_part key2 2 oneL 3 [0, 2] (by decide) (by decide)
  fF := fit_part key2 2 oneL 2 [1] (by decide) (by decide)
  fS := fit_part key2 2 twoL 3 [1] (by decide) (by decide)
  fA := fit_part key2 2 oneL 2 [0] (by decide) (by decide)
  fB := fit_part key2 2 twoL 3 [0] (by decide) (by decide)
  fWh := fit_part key2 2 oneL 3 [0] (by decide) (by decide)
  fE := fit_part key2 2 oneL 1 [0] (by decide) (by decide)
  shP := shows_part oneL [0, 2] 3 one_valid (by decide) (by decide) (by decide) (by decide) _ rfl
  shF := shows_part oneL [1] 2 one_valid (by decide) (by decide) (by decide) (by decide) _ rfl
  shS := shows_part twoL [1] 3 two_valid (by decide) (by decide) (by decide) (by decide) _ rfl
  shA := shows_part oneL [0] 2 one_valid (by decide) (by decide) (by decide) (by decide) _ rfl
  shB := shows_part twoL [0] 3 two_valid (by decide) (by decide) (by decide) (by decide) _ rfl
  shWh := shows_part oneL [0] 3 one_valid (by decide) (by decide) (by decide) (by decide) _ rfl
  shE := shows_part oneL [0] 1 one_valid (by decide) (by decide) (by decide) (by decide) _ rfl
  l1 := by unfold gOne; rw [List.length_reverse]; decide +kernel
  l2 := by unfold gTwo; rw [List.length_reverse]; decide +kernel
  l3 := by unfold gWrong; rw [List.length_reverse]; decide +kernel
  bad := s_bad
  fbad := by
    have h := fit_part key2 2 oneL 3 [0, 2] (by decide) (by decide)
    obtain ⟨h1, h2, h3⟩ := h
    refine ⟨h1, by decide, fun x hx => ?_⟩
    simp at hx
    rcases hx with rfl | rfl
    · exact h3 (idxItem oneL 3 0) (List.mem_cons_self ..)
    · exact h3 (idxItem oneL 3 2) (List.mem_cons_of_mem _ (List.mem_cons_self ..))
  e1 := s_ext1
  e2 := s_ext2
  e3 := s_ext3
  c1 := s_conv1
  c2 := s_conv2
  c3 := s_conv3
  c4 := s_conv4
  n1 := s_gen1
  n2 := s_gen2
  j1 := s_join1
  j2 := s_join2
  r1 := s_grown1
  r2 := s_grown2
  r3 := s_grown3
end Go.Proofs.YtinfpbkbnhcifaaGreatDoor
