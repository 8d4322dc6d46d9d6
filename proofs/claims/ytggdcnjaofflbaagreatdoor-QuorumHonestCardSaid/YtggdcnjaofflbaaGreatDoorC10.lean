/- The walk of register.Show. The conditions: what the slices read as, lengths, the table of constants. -/
import Derived.Deep.AppendLies
import Derived.Deep.RegionLaw
import Derived.Test.YtggdcnjaofflbaaGreatDoorC09
import Derived.Test.YtggdcnjaofflbaaGreatDoorC08
import Derived.Test.YtggdcnjaofflbaaGreatDoorC02
import Derived.Test.YtggdcnjaofflbaaGreatDoorC07
import Derived.Test.YtggdcnjaofflbaaGreatDoorC05
import Derived.Test.YtggdcnjaofflbaaGreatDoorC06
import Derived.Deep.DeepCutAuto
import Derived.Test.YtggdcnjaofflbaaGreatDoorC04
namespace Go.Proofs.YtggdcnjaofflbaaGreatDoor
open Go.RowKit Go.BigFrame

def IL (w : World) (v : Value) (l : List Int) : Prop := SliceAt w v 1 (icells l)
theorem IL.below {w w' : World} {v : Value} {l : List Int} (h : IL w v l) (hb : Below w.heap.size w w') : IL w' v l := SliceAt.below h hb
theorem IL.opened {w : World} {v : Value} {l : List Int} (h : IL w v l) : ∃ a cap, v = .slice a l.length cap ∧ l.length ≤ cap ∧ cap ≤ maxLen ∧
    ∀ k s, l[k]? = some s → ∃ b off, a = some ⟨b, off, none⟩ ∧ b < w.heap.size ∧ w.cell? ⟨b, off + k, none⟩ = some (.int .i64 s) := by
  obtain ⟨a, cap, hv, h1, h2, h3⟩ := h
  unfold icells at *
  rw [List.length_map] at hv h1
  refine ⟨a, cap, hv, h1, h2, fun k x hx => ?_⟩
  rcases h3 with h3 | ⟨b, off, ha, hb, hc⟩
  · simp at h3; subst h3; simp at hx
  · refine ⟨b, off, ha, hb, ?_⟩
    have := hc k [.int .i64 x] (by rw [List.getElem?_map, hx]; rfl) 0 _ rfl
    simpa using this

structure ISt (w : World) (v : Value) (ys : List (ItemP × Value)) : Prop where
  is : IS w v ys
  ty : RowTy w 98 v
  tp : ∀ y ∈ ys, RowTy w 9 y.2
theorem rowTy_nil (w : World) (T : TypeId) : RowTy w T (.slice none 0 0) := fun a n c e => by cases e
theorem ISt.nil (w : World) : ISt w (.slice none 0 0) [] := ⟨IS.nil w, rowTy_nil _ _, fun _ h => absurd h List.not_mem_nil⟩
theorem ISt.below {w w' : World} {v : Value} {ys : List (ItemP × Value)} (h : ISt w v ys) (hb : Below w.heap.size w w') : ISt w' v ys := ⟨h.is.below hb, h.ty.below hb, fun y hy => (h.tp y hy).below hb⟩
theorem SS.grownT {w w' : World} {v : Value} {xs : List ByteArray} (h : SS w v xs) (ht : RowTy w 9 v) {r : Option Nat} (hg : w.grownBy w' r) (hr : ∀ k, r = some k → ∀ cs fr, w.heap[k]? ≠ some (.cells cs 9 fr)) : SS w' v xs ∧ RowTy w' 9 v := by
  have key : ∀ (a : Addr) (n c : Nat), v = .slice (some a) n c → n = 0 ∨ w'.heap[a.block]? = w.heap[a.block]? := fun a n c e => by
    rcases ht a n c e with h0 | ⟨cs, fr, h0⟩
    · exact .inl h0
    · refine .inr (hg.block _ (Array.getElem?_eq_some_iff.1 h0).1 (fun e' => ?_))
      exact hr _ e'.symm cs fr h0
  refine ⟨?_, fun a n c e => ?_⟩
  · obtain ⟨a, cap, hv, h1, h2, h3⟩ := h
    refine ⟨a, cap, hv, h1, h2, ?_⟩
    rcases h3 with h3 | ⟨b, off, rfl, hb, hc⟩
    · exact .inl h3
    · rcases key _ _ _ hv with h0 | h0
      · exact .inl (List.eq_nil_of_length_eq_zero h0)
      · refine .inr ⟨b, off, rfl, Nat.lt_of_lt_of_le hb hg.size, fun i c hi j u hj => ?_⟩
        have := hc i c hi j u hj
        rw [← this]
        simp [World.cell?, h0]
  · rcases key a n c e with h0 | h0
    · exact .inl h0
    · rcases ht a n c e with h1 | ⟨cs, fr, h1⟩
      · exact .inl h1
      · exact .inr ⟨cs, fr, h0.trans h1⟩
theorem OwnE.grownT {w w' : World} {base size : Nat} {e : TypeId} {v : Value} {css : List (List Value)} (h : OwnE w base e size v css) {k : Nat} {o : Obj} (hk : w.heap[k]? = some o) (hne : ∀ c, o ≠ .cells c e (0, 0)) (hg : w.grownBy w' (some k)) : OwnE w' base e size v css :=
  World.ownsRow.kept h hg (.inr (fun e' => own_ne h hk hne e'.symm))

def ShowAt (w W : World) (p : Nat) (R C V : Array Value) (v : Value) (ys : List (ItemP × Value)) : Prop :=
  Below w.heap.size w W ∧ W.heap[w.heap.size]? = some (.cells R 85 (0, 0)) ∧ W.heap[w.heap.size + 1]? = some (.cells C 92 (0, 0)) ∧ W.heap[p]? = some (.cells (V.push v) 92 (0, 0)) ∧ OwnE W w.heap.size 98 3 v (itcells ys) ∧ ∀ y ∈ ys, SS W y.2 y.1.prf ∧ RowTy W 9 y.2
theorem ShowAt.far {w W W' : World} {p : Nat} {R C V : Array Value} {v : Value} {ys : List (ItemP × Value)} (h : ShowAt w W p R C V v ys) (hb : Below W.heap.size W W') : ShowAt w W' p R C V v ys := by
  obtain ⟨h1, h2, h3, h4, h5, h6⟩ := h
  exact ⟨h1.trans (hb.mono h1.size), (hb.block _ (Array.getElem?_eq_some_iff.1 h2).1).trans h2, (hb.block _ (Array.getElem?_eq_some_iff.1 h3).1).trans h3, (hb.block _ (Array.getElem?_eq_some_iff.1 h4).1).trans h4, OwnE.far h5 hb (Nat.le_refl _), fun y hy => ⟨(h6 y hy).1.below hb, (h6 y hy).2.below hb⟩⟩

theorem ShowAt.block {w W w7 : World} {p : Nat} {R C V : Array Value} {v : Value} {ys : List (ItemP × Value)} (h : ShowAt w W p R C V v ys) {o : Obj} (hg : (W.alloc o).drew.grownBy w7 v.ownBlock) {k : Nat} {cs : Array Value} {T : TypeId} (hk : W.heap[k]? = some (.cells cs T (0, 0))) (hT : T ≠ 98) : w7.heap[k]? = some (.cells cs T (0, 0)) := by
  have hlt := (Array.getElem?_eq_some_iff.1 hk).1
  refine (hg.block k (by show k < (W.alloc o).heap.size; simp; omega) ?_).trans ((Below.heap_alloc W o k hlt).trans hk)
  exact own_ne h.2.2.2.2.1 hk (fun c e => by cases e; exact hT rfl)
theorem ShowAt.append {w W w7 : World} {p : Nat} {R C V : Array Value} {v : Value} {ys : List (ItemP × Value)} (h : ShowAt w W p R C V v ys) (hp : w.heap.size + 1 < p) (hV : V.size = 4) (y : ItemP × Value) (hy : SS W y.2 y.1.prf) (hty : RowTy W 9 y.2) {o : Obj} (hg : (W.alloc o).drew.grownBy w7 v.ownBlock)
    {g cap : Nat} (ho : OwnE w7 w.heap.size 98 3 (.slice (some ⟨g, 0, none⟩) (ys.length + 1) cap) (itcells (ys ++ [y]))) :
    ShowAt w (w7.setCell ⟨p, 4, none⟩ (.slice (some ⟨g, 0, none⟩) (ys.length + 1) cap)) p R C V (.slice (some ⟨g, 0, none⟩) (ys.length + 1) cap) (ys ++ [y]) := by
  have hb := fun {k : Nat} {cs : Array Value} {T : TypeId} => h.block (p := p) hg (k := k) (cs := cs) (T := T)
  obtain ⟨h1, h2, h3, h4, h5, h6⟩ := h
  have g2 := hb h2 (by decide)
  have g3 := hb h3 (by decide)
  have g4 := hb h4 (by decide)
  have hsz := h1.size
  have h17 : Below w.heap.size w w7 := (below_drewN (h1.alloc hsz o) 1).grown hg (by show _ ≤ (W.alloc o).heap.size; simp; omega) (fun j e => OwnE.ge h5 j e)
  have hset : w7.grownBy (w7.setCell ⟨p, 4, none⟩ (.slice (some ⟨g, 0, none⟩) (ys.length + 1) cap)) (some p) := grown_setCell (grown_refl _ _) _ (.inl rfl) _
  have hcv : (V.push v).setIfInBounds 4 (.slice (some ⟨g, 0, none⟩) (ys.length + 1) cap) = V.push (.slice (some ⟨g, 0, none⟩) (ys.length + 1) cap) := by
    rw [← hV]
    apply Array.ext
    · simp
    · intro i h1 h2
      simp only [Array.size_setIfInBounds, Array.size_push] at h1
      by_cases hi : i = V.size
      · subst hi; simp
      · rw [Array.getElem_setIfInBounds_ne (by simpa using h1) (fun e => hi e.symm), Array.getElem_push_lt (by omega), Array.getElem_push_lt (by omega)]
  refine ⟨h17.setCell (p := ⟨p, 4, none⟩) (by show w.heap.size ≤ p; omega) _, (Below.heap_setCell _ _ _ _ (by show w.heap.size ≠ p; omega)).trans g2, (Below.heap_setCell _ _ _ _ (by show w.heap.size + 1 ≠ p; omega)).trans g3, ?_, ho.grownT g4 (fun c e => by cases e) hset, ?_⟩
  · rw [heap_setCell_same _ g4, hcv]
  · have key : ∀ z : ItemP × Value, SS W z.2 z.1.prf → RowTy W 9 z.2 → SS (w7.setCell ⟨p, 4, none⟩ (.slice (some ⟨g, 0, none⟩) (ys.length + 1) cap)) z.2 z.1.prf ∧ RowTy (w7.setCell ⟨p, 4, none⟩ (.slice (some ⟨g, 0, none⟩) (ys.length + 1) cap)) 9 z.2 := fun z hz ht => by
      have b0 : Below W.heap.size W (W.alloc o).drew := below_drewN ((Below.refl _ _).alloc (Nat.le_refl _) o) 1
      obtain ⟨k1, k2⟩ := (hz.below b0).grownT (ht.below b0) hg (fun k e cs fr e' => by
        rcases h5.2 with ⟨hn, _⟩ | ⟨g', c', cur, hv, _, hg', _⟩
        · rw [hn] at e; cases e
        · rw [hv] at e
          cases e
          have e2 : (W.alloc o).drew.heap[g']? = W.heap[g']? := Below.heap_alloc W o g' (Array.getElem?_eq_some_iff.1 hg').1
          have e3 := (e2.symm.trans e').symm.trans hg'
          cases e3)
      exact k1.grownT k2 hset (fun k e cs fr e' => by
        cases e
        rw [g4] at e'
        cases e')
    intro z hz
    rcases List.mem_append.1 hz with hz | hz
    · exact key z (h6 z hz).1 (h6 z hz).2
    · rw [List.mem_singleton] at hz
      subst hz
      exact key _ hy hty

end Go.Proofs.YtggdcnjaofflbaaGreatDoor

/- Slices of parts in memory; the walks of Join's test and of the iterator of pairs. The conditions: what the slices read as, lengths, the table of constants. -/
namespace Go.Proofs.YtggdcnjaofflbaaGreatDoor
open Go.RowKit Go.BigFrame

def ptcells (l : List (PartP × Value)) : List (List Value) := l.map fun z => [.int .i64 z.1.head.car, .int .i64 z.1.head.siz, .string z.1.head.root, .string z.1.head.sl, z.2]
def IT (w : World) (v : Value) (its : List ItemP) : Prop := ∃ ys : List (ItemP × Value), ys.map (·.1) = its ∧ ISt w v ys
theorem IT.below {w w' : World} {v : Value} {its : List ItemP} (h : IT w v its) (hb : Below w.heap.size w w') : IT w' v its := let ⟨ys, h1, h2⟩ := h; ⟨ys, h1, h2.below hb⟩
theorem IT.form {w : World} {v : Value} {its : List ItemP} (h : IT w v its) : ∃ a n c, v = .slice a n c := by
  obtain ⟨ys, _, h⟩ := h
  obtain ⟨a, c, h, _⟩ := h.is.opened
  exact ⟨_, _, _, h⟩
def PS (w : World) (v : Value) (zs : List (PartP × Value)) : Prop := SliceAt w v 5 (ptcells zs) ∧ ∀ z ∈ zs, IT w z.2 z.1.items
theorem PS.nil (w : World) : PS w (.slice none 0 0) [] := ⟨SliceAt.nil w 5, fun _ h => absurd h List.not_mem_nil⟩
theorem PS.below {w w' : World} {v : Value} {zs : List (PartP × Value)} (h : PS w v zs) (hb : Below w.heap.size w w') : PS w' v zs := ⟨h.1.below hb, fun z hz => (h.2 z hz).below hb⟩
def PAt (w : World) (b o : Nat) (z : PartP × Value) : Prop :=
  w.cell? ⟨b, o, none⟩ = some (.int .i64 z.1.head.car) ∧ w.cell? ⟨b, o + 1, none⟩ = some (.int .i64 z.1.head.siz) ∧ w.cell? ⟨b, o + 2, none⟩ = some (.string z.1.head.root) ∧ w.cell? ⟨b, o + 3, none⟩ = some (.string z.1.head.sl) ∧ w.cell? ⟨b, o + 4, none⟩ = some z.2
theorem PAt.keep {B : Nat} {w w' : World} {b o : Nat} {z : PartP × Value} (h : PAt w b o z) (hb : Below B w w') (hlt : b < B) : PAt w' b o z :=
  ⟨cell_keepB hb hlt h.1, cell_keepB hb hlt h.2.1, cell_keepB hb hlt h.2.2.1, cell_keepB hb hlt h.2.2.2.1, cell_keepB hb hlt h.2.2.2.2⟩
theorem PS.opened {w : World} {v : Value} {zs : List (PartP × Value)} (h : PS w v zs) : ∃ a cap, v = .slice a zs.length cap ∧ zs.length ≤ cap ∧ cap ≤ maxLen ∧
    ∀ k z, zs[k]? = some z → ∃ b off, a = some ⟨b, off, none⟩ ∧ b < w.heap.size ∧ PAt w b (off + k * 5) z := by
  obtain ⟨⟨a, cap, hv, h1, h2, h3⟩, _⟩ := h
  unfold ptcells at *
  rw [List.length_map] at hv h1
  refine ⟨a, cap, hv, h1, h2, fun k z hz => ?_⟩
  rcases h3 with h3 | ⟨b, off, ha, hb, hc⟩
  · simp at h3; subst h3; simp at hz
  · have hk : (zs.map fun z => [Value.int .i64 z.1.head.car, .int .i64 z.1.head.siz, .string z.1.head.root, .string z.1.head.sl, z.2])[k]? = some [.int .i64 z.1.head.car, .int .i64 z.1.head.siz, .string z.1.head.root, .string z.1.head.sl, z.2] := by rw [List.getElem?_map, hz]; rfl
    exact ⟨b, off, ha, hb, hc k _ hk 0 _ rfl, hc k _ hk 1 _ rfl, hc k _ hk 2 _ rfl, hc k _ hk 3 _ rfl, hc k _ hk 4 _ rfl⟩

end Go.Proofs.YtggdcnjaofflbaaGreatDoor

/- Slices of votes, of doubles, of tallies in memory. No condition. -/
namespace Go.Proofs.YtggdcnjaofflbaaGreatDoor
open Go.RowKit Go.BigFrame

def vcells (v : VoteP) : List Value := [.int .i64 v.car, .int .i64 v.num, .int .i64 v.stp, .string v.val, .string v.sl]
def vagg (v : VoteP) : Value := .agg #[.int .i64 v.car, .int .i64 v.num, .int .i64 v.stp, .string v.val, .string v.sl]
def VS (w : World) (x : Value) (l : List VoteP) : Prop := SliceAt w x 5 (l.map vcells)
theorem VS.nil (w : World) : VS w (.slice none 0 0) [] := SliceAt.nil w 5
theorem VS.below {w w' : World} {x : Value} {l : List VoteP} (h : VS w x l) (hb : Below w.heap.size w w') : VS w' x l := SliceAt.below h hb
def VAt (w : World) (b o : Nat) (v : VoteP) : Prop :=
  w.cell? ⟨b, o, none⟩ = some (.int .i64 v.car) ∧ w.cell? ⟨b, o + 1, none⟩ = some (.int .i64 v.num) ∧ w.cell? ⟨b, o + 2, none⟩ = some (.int .i64 v.stp) ∧ w.cell? ⟨b, o + 3, none⟩ = some (.string v.val) ∧ w.cell? ⟨b, o + 4, none⟩ = some (.string v.sl)
theorem VAt.keep {B : Nat} {w w' : World} {b o : Nat} {v : VoteP} (h : VAt w b o v) (hb : Below B w w') (hlt : b < B) : VAt w' b o v :=
  ⟨cell_keepB hb hlt h.1, cell_keepB hb hlt h.2.1, cell_keepB hb hlt h.2.2.1, cell_keepB hb hlt h.2.2.2.1, cell_keepB hb hlt h.2.2.2.2⟩
theorem VS.opened {w : World} {x : Value} {l : List VoteP} (h : VS w x l) : ∃ a cap, x = .slice a l.length cap ∧ l.length ≤ cap ∧ cap ≤ maxLen ∧
    ∀ k v, l[k]? = some v → ∃ b off, a = some ⟨b, off, none⟩ ∧ b < w.heap.size ∧ VAt w b (off + k * 5) v := by
  obtain ⟨a, cap, hv, h1, h2, h3⟩ := h
  rw [List.length_map] at hv h1
  refine ⟨a, cap, hv, h1, h2, fun k v hz => ?_⟩
  rcases h3 with h3 | ⟨b, off, ha, hb, hc⟩
  · rw [List.map_eq_nil_iff] at h3
    subst h3
    cases hz
  · have hk : (l.map vcells)[k]? = some (vcells v) := by rw [List.getElem?_map, hz]; rfl
    exact ⟨b, off, ha, hb, hc k _ hk 0 _ rfl, hc k _ hk 1 _ rfl, hc k _ hk 2 _ rfl, hc k _ hk 3 _ rfl, hc k _ hk 4 _ rfl⟩
theorem VS.form {w : World} {x : Value} {l : List VoteP} (h : VS w x l) : ∃ a n c, x = .slice a n c := by
  obtain ⟨a, c, h, _⟩ := h.opened
  exact ⟨_, _, _, h⟩

def dcells (d : VoteP × VoteP) : List Value := vcells d.1 ++ vcells d.2
def DS (w : World) (x : Value) (l : List (VoteP × VoteP)) : Prop := SliceAt w x 10 (l.map dcells)
theorem DS.nil (w : World) : DS w (.slice none 0 0) [] := SliceAt.nil w 10
theorem DS.below {w w' : World} {x : Value} {l : List (VoteP × VoteP)} (h : DS w x l) (hb : Below w.heap.size w w') : DS w' x l := SliceAt.below h hb
def DAt (w : World) (b o : Nat) (d : VoteP × VoteP) : Prop := VAt w b o d.1 ∧ VAt w b (o + 5) d.2
theorem DS.opened {w : World} {x : Value} {l : List (VoteP × VoteP)} (h : DS w x l) : ∃ a cap, x = .slice a l.length cap ∧ l.length ≤ cap ∧ cap ≤ maxLen ∧
    ∀ k d, l[k]? = some d → ∃ b off, a = some ⟨b, off, none⟩ ∧ b < w.heap.size ∧ DAt w b (off + k * 10) d := by
  obtain ⟨a, cap, hv, h1, h2, h3⟩ := h
  rw [List.length_map] at hv h1
  refine ⟨a, cap, hv, h1, h2, fun k d hz => ?_⟩
  rcases h3 with h3 | ⟨b, off, ha, hb, hc⟩
  · rw [List.map_eq_nil_iff] at h3
    subst h3
    cases hz
  · have hk : (l.map dcells)[k]? = some (dcells d) := by rw [List.getElem?_map, hz]; rfl
    exact ⟨b, off, ha, hb, ⟨hc k _ hk 0 _ rfl, hc k _ hk 1 _ rfl, hc k _ hk 2 _ rfl, hc k _ hk 3 _ rfl, hc k _ hk 4 _ rfl⟩, hc k _ hk 5 _ rfl, hc k _ hk 6 _ rfl, hc k _ hk 7 _ rfl, hc k _ hk 8 _ rfl, hc k _ hk 9 _ rfl⟩
theorem DS.form {w : World} {x : Value} {l : List (VoteP × VoteP)} (h : DS w x l) : ∃ a n c, x = .slice a n c := by
  obtain ⟨a, c, h, _⟩ := h.opened
  exact ⟨_, _, _, h⟩

def tcells (t : ByteArray × Nat) : List Value := [.string t.1, .int .i64 (t.2 : Int)]
def TS (w : World) (x : Value) (l : List (ByteArray × Nat)) : Prop := SliceAt w x 2 (l.map tcells)
theorem TS.nil (w : World) : TS w (.slice none 0 0) [] := SliceAt.nil w 2
theorem TS.below {w w' : World} {x : Value} {l : List (ByteArray × Nat)} (h : TS w x l) (hb : Below w.heap.size w w') : TS w' x l := SliceAt.below h hb
theorem TS.opened {w : World} {x : Value} {l : List (ByteArray × Nat)} (h : TS w x l) : ∃ a cap, x = .slice a l.length cap ∧ l.length ≤ cap ∧ cap ≤ maxLen ∧
    ∀ k t, l[k]? = some t → ∃ b off, a = some ⟨b, off, none⟩ ∧ b < w.heap.size ∧ w.cell? ⟨b, off + k * 2, none⟩ = some (.string t.1) ∧ w.cell? ⟨b, off + k * 2 + 1, none⟩ = some (.int .i64 (t.2 : Int)) := by
  obtain ⟨a, cap, hv, h1, h2, h3⟩ := h
  rw [List.length_map] at hv h1
  refine ⟨a, cap, hv, h1, h2, fun k t hz => ?_⟩
  rcases h3 with h3 | ⟨b, off, ha, hb, hc⟩
  · rw [List.map_eq_nil_iff] at h3
    subst h3
    cases hz
  · have hk : (l.map tcells)[k]? = some (tcells t) := by rw [List.getElem?_map, hz]; rfl
    exact ⟨b, off, ha, hb, hc k _ hk 0 _ rfl, hc k _ hk 1 _ rfl⟩
theorem TS.form {w : World} {x : Value} {l : List (ByteArray × Nat)} (h : TS w x l) : ∃ a n c, x = .slice a n c := by
  obtain ⟨a, c, h, _⟩ := h.opened
  exact ⟨_, _, _, h⟩
end Go.Proofs.YtggdcnjaofflbaaGreatDoor

/- Walks of package quorum: Valid, put, content, seal, isGenuine, Genuine, Encode. The conditions: what the slices read as, ranges, the table of constants. -/
namespace Go.Proofs.YtggdcnjaofflbaaGreatDoor
open Go.RowKit Go.BigFrame

theorem q_next {w W W' : World} (h : Below w.heap.size w W) (h' : Below W.heap.size W W') : Below w.heap.size w W' := h.trans (h'.mono h.size)

theorem below_grownQ {w w' : World} (hb : Below w.heap.size w w') : w.grownBy w' none := ⟨hb.os, hb.tape, hb.output, hb.size, fun i hi _ => hb.block i hi⟩
theorem builder_keepQ {T e : TypeId} {B b : Nat} {p : Value} {bs : List Value} {w w' : World} (h : Lib.BuilderAt T e B b p bs w) (hb : Below w.heap.size w w') : Lib.BuilderAt T e B b p bs w' := by
  have hlt := h.lt
  obtain ⟨hB, v, hbk, hown, hne⟩ := h
  exact ⟨hB, v, (hb.block b hlt).trans hbk, owns_any hown (below_grownQ hb), hne⟩
theorem isBuilder_keepQ {T e : TypeId} {B b : Nat} {bs : List Value} {w w' : World} (h : Lib.IsBuilder T e B b bs w) (hb : Below w.heap.size w w') : Lib.IsBuilder T e B b bs w' := by
  rcases h with h | h
  · exact .inl (builder_keepQ h hb)
  · exact .inr (builder_keepQ h hb)

/-! ### Valid -/
set_option maxHeartbeats 1000000 in
theorem indexInt_any {w : World} {v : Value} {l : List Int} (hi : SliceAt w v 1 (icells l)) (n : Int) :
    Calls Tryz.prog 138 #[v, .int .i64 n] w fun e w' => e = .returned (.int .i64 (firstIdx (fun x => n == x) l 0)) ∧ w' = w := by
  obtain ⟨a, cap, rfl, l1, l2, l3⟩ := hi
  have hlen : (icells l).length = l.length := by unfold icells; rw [List.length_map]
  rw [hlen] at l1
  rw [hlen]
  have H3 : Hid (∀ k x, l[k]? = some x → ∃ b off, a = some ⟨b, off, none⟩ ∧ w.cell? ⟨b, off + k, none⟩ = some (.int .i64 x)) := Lib.hid (fun k x hx => by
    rcases l3 with l3 | ⟨b, off, ha, _, hc⟩
    · unfold icells at l3
      rw [List.map_eq_nil_iff] at l3
      subst l3
      cases hx
    · refine ⟨b, off, ha, ?_⟩
      have hk : (icells l)[k]? = some [.int .i64 x] := by unfold icells; rw [List.getElem?_map, hx]; rfl
      have := hc k _ hk 0 _ rfl
      simpa using this)
  clear l3 hlen
  unfold maxLen at l2
  obtain ⟨m, hm⟩ : ∃ m, m = l.length := ⟨_, rfl⟩
  rw [← hm] at l1 ⊢
  have HM := Lib.hid hm
  clear hm
  go_enter Tryz.func138, Tryz.ntmps138
  go_wp2
  go_loop [5, 8] (fun _ i => ∃ k : Nat, k ≤ m ∧ i = .int .i64 k ∧ Hid (∀ j q, j < k → l[j]? = some q → (n == q) = false)) (fun _ i => m - (intOf i).toNat)
  case atStart => exact ⟨0, by omega, rfl, (by intro j q hj; omega)⟩
  case round =>
    obtain ⟨k, hk, rfl, hall⟩ := hrel
    by_cases hlt : k < m
    · obtain ⟨q, eq⟩ : ∃ q, l[k]? = some q := ⟨_, List.getElem?_eq_getElem (by rw [← HM.out]; exact hlt)⟩
      obtain ⟨b, off, rfl, c1⟩ := H3.out k q eq
      have EQ := Lib.hid eq
      clear eq
      by_cases hp : (n == q) = true
      · have HP := Lib.hid hp
        go_wp2
        go_ret
        refine ⟨ret_int ?_, rfl⟩
        rw [firstIdx_drop _ l k 0 hall.out (by rw [← HM.out]; omega)]
        rw [drop_get EQ.out, firstIdx, if_pos HP.out]; omega
      · have hp' : (n == q) = false := by simpa using hp
        have HP := Lib.hid hp'
        clear hp
        go_wp2
        go_round
        case rel =>
          refine ⟨k + 1, by omega, by go_num, ?_⟩
          intro j q' hj hq
          by_cases hjk : j = k
          · subst hjk; rw [EQ.out] at hq; cases hq; exact HP.out
          · exact hall.out j q' (by omega) hq
        case measure => simp [intOf]; omega
    · go_wp2
      go_ret
      refine ⟨ret_int ?_, rfl⟩
      rw [firstIdx_drop _ l k 0 hall.out (by rw [← HM.out]; omega), List.drop_eq_nil_of_le (by rw [← HM.out]; omega), firstIdx]
set_option maxHeartbeats 400000 in
theorem containsInt_any {w : World} {v : Value} {l : List Int} (hi : SliceAt w v 1 (icells l)) (n : Int) :
    Calls Tryz.prog 99 #[v, .int .i64 n] w fun e w' => e = .returned (.bool (l.any fun x => n == x)) ∧ w' = w := by
  have HF := Lib.hid (firstIdx_neg (fun x => n == x) l 0 (by omega))
  generalize hx : firstIdx (fun x => n == x) l 0 = i at *
  have hc := indexInt_any hi n
  rw [hx] at hc
  clear hx
  have HC := Lib.hid hc
  obtain ⟨a, cap, rfl, _⟩ := hi
  clear hc
  go_enter Tryz.func99, Tryz.ntmps99
  go_wp2_with (go_at_call 138; refine HC.out.mono ?_; rintro e w1 ⟨rfl, rfl⟩)
  go_ret
  exact ⟨ret_bool HF.out, rfl⟩
theorem row147 (w : World) (b : Nat) (h : w.heap[b]? = some (.cells #[.int .i64 1, .int .i64 4, .int .i64 7] 3 (0, 0))) : SliceAt w (.slice (some ⟨b, 0, none⟩) 3 3) 1 (icells [1, 4, 7]) := by
  refine ⟨_, 3, rfl, Nat.le_refl _, by decide, .inr ⟨b, 0, rfl, (Array.getElem?_eq_some_iff.1 h).1, fun i c hi j u hj => ?_⟩⟩
  have hc : ∀ k x, ([.int .i64 1, .int .i64 4, .int .i64 7] : List Value)[k]? = some x → w.cell? ⟨b, k, none⟩ = some x := fun k x hx => by
    rw [cell_of_row w _ k _ _ _ h, List.getElem?_toArray]
    exact hx
  match i, hi with
  | 0, hi =>
    cases hi
    match j, hj with
    | 0, hj => cases hj; exact hc 0 _ rfl
  | 1, hi =>
    cases hi
    match j, hj with
    | 0, hj => cases hj; exact hc 1 _ rfl
  | 2, hi =>
    cases hi
    match j, hj with
    | 0, hj => cases hj; exact hc 2 _ rfl
set_option maxHeartbeats 1000000 in
theorem qvalid_any {w : World} {v : Value} {ks : List ByteArray} (hr : SS w v ks) :
    Calls Tryz.prog 53 #[.agg #[v]] w fun e w' => e = .returned (.bool (validC ks)) ∧ Below w.heap.size w w' := by
  obtain ⟨a, cap, rfl, l1, l2, l3⟩ := hr.opened
  obtain ⟨W2, hW2⟩ : ∃ W2, W2 = (w.alloc (.cells #[.slice a ks.length cap] 31)).alloc (.cells #[.int .i64 1, .int .i64 4, .int .i64 7] 3) := ⟨_, rfl⟩
  have HB2 : Hid (Below w.heap.size w W2) := Lib.hid (by rw [hW2]; exact ((Below.refl _ _).alloc (Nat.le_refl _) _).alloc (by simp) _)
  have HI := Lib.hid (containsInt_any (row147 W2 (w.heap.size + 1) (by rw [hW2]; exact at_second w _ _)) (ks.length : Int))
  have HC := Lib.hid (containsS_any 97 _ qvalid1_fn (hr.below HB2.out))
  have HV : Hid (validC ks = (([1, 4, 7] : List Int).any (fun x => (ks.length : Int) == x) && !(ks.any fun s => !decide (s.size = 32)))) := Lib.hid (by
    unfold validC
    refine congr (congrArg _ ?_) ?_
    · rw [Bool.eq_iff_iff]
      simp
      omega
    · rw [List.not_any_eq_all_not]
      simp
      rfl)
  generalize ks.any (fun s => !decide (s.size = 32)) = b2 at *
  generalize ([1, 4, 7] : List Int).any (fun x => (ks.length : Int) == x) = b1 at *
  generalize validC ks = R at *
  generalize ks.length = n at *
  have HW2 := Lib.hid hW2
  clear l3 hr hW2
  cases b1
  all_goals
    go_enter Tryz.func53, Tryz.ntmps53
    go_wp2_with (first | (go_at_call 99; rw [← HW2.out]; refine HI.out.mono ?_; rintro e w1 ⟨rfl, rfl⟩; have hB2 := HB2.out; rw [HW2.out] at hB2; rw [HW2.out]) | (go_at_call 100; rw [← HW2.out]; refine HC.out.mono ?_; rintro e w1 ⟨rfl, rfl⟩))
    go_ret
    refine ⟨ret_bool ?_, ?_⟩
    · rw [HV.out]; rfl
    · first | exact HB2.out | (rw [← HW2.out]; exact HB2.out)

/-! ### put -/
def putsL (l : List Nat) : List UInt8 := l.flatMap fun n : Nat => putN (n : Int)
theorem putsL_snoc {l : List Nat} {k x : Nat} (h : l[k]? = some x) : putsL (l.take (k + 1)) = putsL (l.take k) ++ putN (x : Int) := by
  unfold putsL
  rw [List.take_add_one, h, List.flatMap_append]
  simp
theorem putN_len (n : Int) : 1 ≤ (putN n).length ∧ (putN n).length ≤ 4 := grp_len _ _
theorem putsL_len (l : List Nat) : (putsL l).length ≤ 4 * l.length := by
  unfold putsL
  induction l with
  | nil => simp
  | cons a t ih =>
    rw [List.flatMap_cons, List.length_append]
    have := putN_len (a : Int)
    simp only [List.length_cons]
    omega
set_option maxHeartbeats 2000000 in
set_option maxRecDepth 100000 in
theorem put_any {w : World} {v : Value} {l : List Nat} (hne : l ≠ []) (hi : SliceAt w v 1 (icells (l.map fun n : Nat => (n : Int)))) (h27 : ∀ n ∈ l, n < 134217728) (hlen : l.length ≤ 10) :
    Calls Tryz.prog 104 #[v] w fun e w' => e = .returned (.string ⟨(putsL l).toArray⟩) ∧ Below w.heap.size w w' := by
  obtain ⟨a, cap, rfl, l1, l2, l3⟩ := hi
  have hlc : (icells (l.map fun n : Nat => (n : Int))).length = l.length := by unfold icells; rw [List.length_map, List.length_map]
  rw [hlc] at l1
  rw [hlc]
  have H3 : Hid (∀ k x, l[k]? = some x → ∃ b off, a = some ⟨b, off, none⟩ ∧ b < w.heap.size ∧ w.cell? ⟨b, off + k, none⟩ = some (.int .i64 (x : Nat))) := Lib.hid (fun k x hx => by
    rcases l3 with l3 | ⟨b, off, ha, hb, hc⟩
    · rw [← List.length_eq_zero_iff, hlc, List.length_eq_zero_iff] at l3
      exact absurd l3 hne
    · refine ⟨b, off, ha, hb, ?_⟩
      have hk : (icells (l.map fun n : Nat => (n : Int)))[k]? = some [.int .i64 (x : Nat)] := by unfold icells; rw [List.getElem?_map, List.getElem?_map, hx]; rfl
      have := hc k _ hk 0 _ rfl
      simpa using this)
  clear l3 hlc
  unfold maxLen at l2
  have hpl := putsL_len l
  have HALL : Hid (putsL l = putsL (l.take l.length)) := Lib.hid (by rw [List.take_length])
  have HNE : Hid (putsL l ≠ []) := Lib.hid (by
    cases l with
    | nil => exact absurd rfl hne
    | cons x t =>
      unfold putsL
      rw [List.flatMap_cons]
      intro e
      have := putN_len (x : Int)
      rw [(List.append_eq_nil_iff.1 e).1] at this
      simp at this)
  have H27 := Lib.hid h27
  obtain ⟨m, hm⟩ : ∃ m, m = l.length := ⟨_, rfl⟩
  rw [← hm] at l1 hlen HALL ⊢
  have HM := Lib.hid hm
  have hm0 : 0 < m := by rw [hm]; exact List.length_pos_iff.2 hne
  clear hm hne h27 hpl
  have HF1 : Hid (Lib.IsBuilder 177 5 w.heap.size w.heap.size (Lib.byteCells (putsL (l.take 0))) (w.alloc (.cells #[.pointer none, .slice none 0 0] 177))) := Lib.hid (by
    rw [List.take_zero]
    have e : putsL [] = [] := rfl
    rw [e]
    exact Lib.fresh_isBuilder 177 5 w)
  have HB1 : Hid (Below w.heap.size w (w.alloc (.cells #[.pointer none, .slice none 0 0] 177))) := Lib.hid ((Below.refl _ _).alloc (Nat.le_refl _) _)
  go_enter Tryz.func104, Tryz.ntmps104
  go_wp2
  go_loopw [10] (fun i wr => ∃ k : Nat, k ≤ m ∧ i = .int .i64 k ∧ Hid (Lib.IsBuilder 177 5 w.heap.size w.heap.size (Lib.byteCells (putsL (l.take k))) wr) ∧ Hid (0 < k → Lib.BuilderAt 177 5 w.heap.size w.heap.size (.pointer (some ⟨w.heap.size, 0, none⟩)) (Lib.byteCells (putsL (l.take k))) wr) ∧ Hid (Below w.heap.size w wr)) (fun i wr => m - (intOf i).toNat)
  case atStart => exact ⟨0, by omega, rfl, HF1, Lib.hid (fun h => by omega), HB1⟩
  case round =>
    clear HF1 HB1
    obtain ⟨k, hk, rfl, hF, hU, hB⟩ := hrel
    by_cases hlt : k < m
    · obtain ⟨x, ex⟩ : ∃ x, l[k]? = some x := ⟨_, List.getElem?_eq_getElem (by rw [← HM.out]; exact hlt)⟩
      obtain ⟨b, off, rfl, hb, c1⟩ := H3.out k x ex
      have d1 := cell_keepB hB.out hb c1
      have hx27 := H27.out x (List.mem_of_getElem? ex)
      have HS := Lib.hid (putsL_snoc ex)
      have hwr := hB.out.size
      have HP := Lib.hid (putI_any x hx27 wr)
      have hpx := putN_len (x : Int)
      have hpk := putsL_len (l.take k)
      rw [List.length_take] at hpk
      have hsz : (⟨(putN (x : Int)).toArray⟩ : ByteArray).size ≤ 4 := by
        show (List.toArray _).size ≤ 4
        rw [List.size_toArray]
        exact hpx.2
      have HW : Hid (∀ W, Below wr.heap.size wr W → Calls Tryz.prog 143 #[.pointer (some ⟨w.heap.size, 0, none⟩), .string ⟨(putN (x : Int)).toArray⟩] W fun e w' => e = .returned (.tuple #[.int .i64 (⟨(putN (x : Int)).toArray⟩ : ByteArray).size, .nilIface]) ∧ (Lib.BuilderAt 177 5 w.heap.size w.heap.size (.pointer (some ⟨w.heap.size, 0, none⟩)) (Lib.byteCells (putsL (l.take (k + 1)))) w' ∧ Below w.heap.size W w')) := Lib.hid (fun W hW => by
        have := qWriteString_any w.heap.size w.heap.size (Lib.byteCells (putsL (l.take k))) ⟨(putN (x : Int)).toArray⟩ W (isBuilder_keepQ hF.out hW) (by rw [Lib.byteCells_length]; omega) (Nat.le_trans hwr hW.size)
        rw [HS.out, Lib.byteCells_append]
        exact this)
      generalize (⟨(putN (x : Int)).toArray⟩ : ByteArray) = S at *
      clear ex c1 hsz hpk hpx hx27 hF hU HS
      go_wp2_with (first | (go_at_call 142; refine HP.out.mono ?_; rintro e w1 ⟨rfl, hb1⟩; have HB1 := Lib.hid hb1; clear hb1) | (go_at_call 143; refine (HW.out _ HB1.out).mono ?_; rintro e w2 ⟨rfl, hb2, hb3⟩; have HB2 := Lib.hid hb2; have HB3 := Lib.hid hb3; clear hb2 hb3))
      go_roundw
      case rel => exact ⟨k + 1, by omega, by go_num, Lib.hid (.inr HB2.out), Lib.hid (fun _ => HB2.out), Lib.hid ((hB.out.trans (HB1.out.mono hwr)).trans HB3.out)⟩
      case measure => simp [intOf]; omega
    · obtain rfl : k = m := by omega
      have HS := Lib.hid (qBstring_any w.heap.size w.heap.size (putsL l) wr (by rw [HALL.out]; exact hU.out hm0) HNE.out)
      clear hF hU
      go_wp2_with (go_at_call 144; refine HS.out.mono ?_; rintro e w2 ⟨rfl, hb2⟩)
      go_ret
      exact ⟨rfl, hB.out.trans hb2⟩

/-! ### content, seal -/
theorem row4 (w : World) (b : Nat) (c n s : Nat) (h : w.heap[b]? = some (.cells #[.int .i64 5, .int .i64 c, .int .i64 n, .int .i64 s] 3 (0, 0))) : SliceAt w (.slice (some ⟨b, 0, none⟩) 4 4) 1 (icells (([5, c, n, s] : List Nat).map fun n : Nat => (n : Int))) := by
  refine ⟨_, 4, rfl, Nat.le_refl _, by decide, .inr ⟨b, 0, rfl, (Array.getElem?_eq_some_iff.1 h).1, fun i cs hi j u hj => ?_⟩⟩
  have hc : ∀ k x, ([.int .i64 5, .int .i64 c, .int .i64 n, .int .i64 s] : List Value)[k]? = some x → w.cell? ⟨b, k, none⟩ = some x := fun k x hx => by
    rw [cell_of_row w _ k _ _ _ h, List.getElem?_toArray]
    exact hx
  match i, hi with
  | 0, hi =>
    cases hi
    match j, hj with
    | 0, hj => cases hj; exact hc 0 _ rfl
  | 1, hi =>
    cases hi
    match j, hj with
    | 0, hj => cases hj; exact hc 1 _ rfl
  | 2, hi =>
    cases hi
    match j, hj with
    | 0, hj => cases hj; exact hc 2 _ rfl
  | 3, hi =>
    cases hi
    match j, hj with
    | 0, hj => cases hj; exact hc 3 _ rfl
def SmallV (v : VoteP) : Prop := (0 ≤ v.car ∧ v.car ≤ 7) ∧ (0 ≤ v.num ∧ v.num ≤ 99999999) ∧ (0 ≤ v.stp ∧ v.stp ≤ 1000) ∧ v.val.size = 32
theorem small_formed {v : VoteP} (h : formedV v = true) : SmallV v := ⟨(formed_facts h).1, (formed_facts h).2.1, (formed_facts h).2.2.1, (formed_facts h).2.2.2.1⟩
theorem voteC_is (c n s : Nat) (val sl : ByteArray) : voteC ⟨c, n, s, val, sl⟩ = (⟨(putsL [5, c, n, s]).toArray⟩ : ByteArray) ++ val := by
  unfold voteC putsL
  apply ByteArray.ext
  rw [ByteArray.data_append]
  simp
theorem vcellsAt {w : World} {b : Nat} {c n s : Int} {val sl : ByteArray} {T : TypeId} (h : w.heap[b]? = some (.cells #[.int .i64 c, .int .i64 n, .int .i64 s, .string val, .string sl] T (0, 0))) : w.cell? ⟨b, 0, none⟩ = some (.int .i64 c) ∧ w.cell? ⟨b, 1, none⟩ = some (.int .i64 n) ∧ w.cell? ⟨b, 2, none⟩ = some (.int .i64 s) ∧ w.cell? ⟨b, 3, none⟩ = some (.string val) ∧ w.cell? ⟨b, 4, none⟩ = some (.string sl) :=
  ⟨cell_of_row w _ 0 _ _ _ h, cell_of_row w _ 1 _ _ _ h, cell_of_row w _ 2 _ _ _ h, cell_of_row w _ 3 _ _ _ h, cell_of_row w _ 4 _ _ _ h⟩
set_option maxHeartbeats 2000000 in
set_option maxRecDepth 100000 in
theorem content_any' (v : VoteP) (hs : SmallV v) (w : World) :
    Calls Tryz.prog 63 #[.agg #[.int .i64 v.car, .int .i64 v.num, .int .i64 v.stp, .string v.val, .string v.sl]] w fun e w' => e = .returned (.string (voteC v)) ∧ Below w.heap.size w w' := by
  obtain ⟨car, num, stp, val, sl⟩ := v
  obtain ⟨⟨c0, c1⟩, ⟨n0, n1⟩, ⟨s0, s1⟩, hv⟩ := hs
  simp only at c0 c1 n0 n1 s0 s1 hv
  obtain ⟨c, rfl⟩ := Int.eq_ofNat_of_zero_le c0
  obtain ⟨n, rfl⟩ := Int.eq_ofNat_of_zero_le n0
  obtain ⟨s, rfl⟩ := Int.eq_ofNat_of_zero_le s0
  have HR := Lib.hid (voteC_is c n s val sl)
  generalize voteC ⟨(c : Int), n, s, val, sl⟩ = R at *
  have HP : Hid (∀ (W : World) (b : Nat), W.heap[b]? = some (.cells #[.int .i64 5, .int .i64 c, .int .i64 n, .int .i64 s] 3 (0, 0)) → Calls Tryz.prog 104 #[.slice (some ⟨b, 0, none⟩) 4 4] W fun e w' => e = .returned (.string ⟨(putsL [5, c, n, s]).toArray⟩) ∧ Below W.heap.size W w') := Lib.hid (fun W b h => put_any (by simp) (row4 W b c n s h) (fun x hx => by
    simp only [List.mem_cons, List.not_mem_nil, or_false] at hx
    rcases hx with rfl | rfl | rfl | rfl <;> omega) (by simp))
  have hS16 : (⟨(putsL [5, c, n, s]).toArray⟩ : ByteArray).size ≤ 16 := by
    show (List.toArray _).size ≤ 16
    rw [List.size_toArray]
    exact putsL_len [5, c, n, s]
  generalize (⟨(putsL [5, c, n, s]).toArray⟩ : ByteArray) = S at *
  have hcat : ¬ 9223372036854775807 < S.size + 32 := by omega
  clear hS16
  clear c0 c1 n0 n1 s0 s1
  go_enter Tryz.func63, Tryz.ntmps63
  go_upto_region 1 with fail
  obtain ⟨W1, hW1⟩ : ∃ W1, W1 = w.alloc (.cells #[.int .i64 (c : Nat), .int .i64 (n : Nat), .int .i64 (s : Nat), .string val, .string sl] 27) := ⟨_, rfl⟩
  rw [← hW1]
  have HB1 : Hid (Below w.heap.size w W1) := Lib.hid (by rw [hW1]; exact (Below.refl _ _).alloc (Nat.le_refl _) _)
  have HH1 : Hid (W1.heap[w.heap.size]? = some (.cells #[.int .i64 (c : Nat), .int .i64 (n : Nat), .int .i64 (s : Nat), .string val, .string sl] 27 (0, 0))) := Lib.hid (by rw [hW1]; exact heap_alloc_new w _)
  have hs1 : w.heap.size < W1.heap.size := (Array.getElem?_eq_some_iff.1 HH1.out).1
  clear hW1
  have HC : Hid (∀ W, Below W1.heap.size W1 W → _) := Lib.hid (fun W (hW : Below W1.heap.size W1 W) => vcellsAt ((hW.block w.heap.size hs1).trans HH1.out))
  refine wp_region_noPanic ?_
  refine wp_region_lexB [.q 0, .q 1, .q 2, .q 3, .q 4, .q 5, .q 6, .q 7, .q 10, .q 11, .an 8, .co 8, .b 9, .q 12, .q 13] (by kernel_rfl) (by kernel_rfl) (fun _ _ _ _ h => h) ?_
  iterate 10 (refine wpFl_qL (v := ?_) rfl (Or.inl ⟨by rfl, ?_⟩) ?_; rotate_left; (focus (intro w' hSw; (try dsimp only [OldKept] at hSw); obtain ⟨d0, d1, d2, d3, d4⟩ := HC.out w' hSw; go_simp; (try with_reducible rfl); done)); simp only [Act.put, List.setIfInBounds_toArray, List.set_cons_zero, List.set_cons_succ])
  refine wpFl_anL rfl (.cells #[.int .i64 5, .int .i64 (c : Nat), .int .i64 (n : Nat), .int .i64 (s : Nat)] 3 (0, 0)) (fun n => .slice (some ⟨n, 0, none⟩) 4 4) ⟨by rfl, fun w' => ?_⟩ ?_
  focus (go_simp; done)
  refine wpFl_coL rfl (.cells #[.int .i64 5, .int .i64 (c : Nat), .int .i64 (n : Nat), .int .i64 (s : Nat)] 3 (0, 0)) (fun n => .slice (some ⟨n, 0, none⟩) 4 4) (by rfl) (N' := []) (by rfl) (fun ba wa hn_wa hs_wa hb_ba hz_ba => ?_)
  simp only [Act.put, List.setIfInBounds_toArray, List.set_cons_zero, List.set_cons_succ]
  refine wpFl_bL rfl (fun wb hnb hsb K hK => ?_)
  go_simp
  go_at_call 104
  refine (HP.out wb ba ((hnb.block ba (Array.getElem?_eq_some_iff.1 hz_ba).1).trans hz_ba)).mono ?_
  rintro e wc ⟨rfl, hbc⟩
  have HBC := Lib.hid (q_next hsb hbc)
  refine hK.out _ _ HBC.out (Keeps.below hbc) ?_
  clear hK K hnb hsb hbc
  iterate 2 (refine wpFl_qL (v := ?_) rfl (Or.inl ⟨by rfl, ?_⟩) ?_; rotate_left; (focus (intro w' hSw; (try dsimp only [OldKept] at hSw); go_simp; (try with_reducible rfl); done)); simp only [Act.put, List.setIfInBounds_toArray, List.set_cons_zero, List.set_cons_succ])
  refine wpFl_nil ?_
  refine NoPanic.normal ?_
  go_wp2
  go_ret
  exact ⟨congrArg (fun x => Ending.returned (Value.string x)) HR.out.symm, HB1.out.trans (HBC.out.mono (Nat.le_of_lt hs1))⟩
end Go.Proofs.YtggdcnjaofflbaaGreatDoor

/- The walks of the reference's makers: pick, Key, Value. The conditions: the types' ranges. -/
namespace Go.Proofs.YtggdcnjaofflbaaGreatDoor
open Go.RowKit Go.BigFrame

set_option maxHeartbeats 400000 in
theorem lpickQ_any (c n : Int) (w : World) (hc : I64 c) (hn : 0 < n) (hn' : n ≤ 9223372036854775807) :
    Calls Tryz.prog 16 #[.int .i64 c, .int .i64 n] w fun e w' => e = .returned (.int .i64 (pickI c n)) ∧ w' = w := by
  obtain ⟨hc1, hc2⟩ := hc
  by_cases h : c < 0
  · go_enter Tryz.func16, Tryz.ntmps16
    go_wp2
    go_ret
    exact ⟨ret_int (by rw [pickI, if_pos h, ← Int.tmod_eq_emod_of_nonneg (by omega), Int.neg_tmod]), rfl⟩
  · go_enter Tryz.func16, Tryz.ntmps16
    go_wp2
    go_ret
    exact ⟨ret_int (by rw [pickI, if_neg (by omega)]), rfl⟩
set_option maxHeartbeats 400000 in
theorem pickQ_any (c n : Int) (w : World) (hc : I64 c) (hn : 0 < n) (hn' : n ≤ 9223372036854775807) :
    Calls Tryz.prog 54 #[.int .i64 c, .int .i64 n] w fun e w' => e = .returned (.int .i64 (pickI c n)) ∧ w' = w := by
  obtain ⟨hc1, hc2⟩ := hc
  by_cases h : c < 0
  · go_enter Tryz.func54, Tryz.ntmps54
    go_wp2
    go_ret
    exact ⟨ret_int (by rw [pickI, if_pos h, ← Int.tmod_eq_emod_of_nonneg (by omega), Int.neg_tmod]), rfl⟩
  · go_enter Tryz.func54, Tryz.ntmps54
    go_wp2
    go_ret
    exact ⟨ret_int (by rw [pickI, if_neg (by omega)]), rfl⟩
theorem keyQ_str (i : Nat) : keyQ i = sumS ((⟨#[99, 97, 114, 114, 105, 101, 114]⟩ : ByteArray) ++ strOf [i]) := by
  unfold keyQ
  refine congrArg sumS ?_
  refine ByteArray.ext ?_
  rw [ByteArray.data_append]
  simp [strOf]
theorem valQ_str (i : Nat) : valQ i = sumS (strOf [118, i]) := by
  unfold valQ
  refine congrArg sumS ?_
  refine ByteArray.ext ?_
  simp [strOf]
set_option maxHeartbeats 1000000 in
theorem keyQ_any (i : Nat) (hi : i < 256) (w : World) : Calls Tryz.prog 25 #[.int .i64 i] w fun e w' => e = .returned (.string (keyQ i)) ∧ Below w.heap.size w w' := by
  have hw : IntKind.u8.wrap (i : Int) = (i : Int) := by simp [IntKind.wrap, IntKind.bits, IntKind.signed]; omega
  obtain ⟨W1, hW1⟩ : ∃ W1, W1 = w.alloc (.cells #[.int .u8 (i : Int)] 5) := ⟨_, rfl⟩
  have HB1 : Hid (Below w.heap.size w W1) := Lib.hid (by rw [hW1]; exact (Below.refl _ _).alloc (Nat.le_refl _) _)
  have HCl : Hid (∀ j z, [i][j]? = some z → W1.cell? ⟨w.heap.size, 0 + j, none⟩ = some (.int .u8 (z : Nat))) := Lib.hid (fun j z hj => by
    match j, hj with
    | 0, hj => cases hj; exact cell_of_row W1 _ 0 _ _ _ (by rw [hW1]; exact heap_alloc_new w _))
  have HS := Lib.hid (r2sum_any ((⟨#[99, 97, 114, 114, 105, 101, 114]⟩ : ByteArray) ++ strOf [i]) W1 (by rw [ByteArray.size_append]; show 7 + 1 ≤ _; omega))
  rw [← keyQ_str i] at HS
  have HW1 := Lib.hid hW1
  generalize keyQ i = R at *
  clear hW1
  go_enter Tryz.func25, Tryz.ntmps25
  go_wp2_with (first | (refine wpList_convS [i] (fun z hz => by rw [List.mem_singleton] at hz; omega) 80 9 5 _ w.heap.size 0 1 1 rfl rfl rfl rfl (by kernel_rfl) (by kernel_rfl) (by kernel_rfl) (by rw [← HW1.out]; exact HCl.out) ?_; rw [← HW1.out]) | (go_at_call 55; refine HS.out.mono ?_; rintro e w2 ⟨rfl, h2⟩))
  go_ret
  exact ⟨rfl, q_next HB1.out h2⟩
def valN (n : Int) : ByteArray := valQ (pickI n 3).toNat
set_option maxHeartbeats 1000000 in
set_option maxRecDepth 100000 in
theorem valN_any (n : Int) (hn : I64 n) (w : World) : Calls Tryz.prog 14 #[.int .i64 n] w fun e w' => e = .returned (.string (valN n)) ∧ Below w.heap.size w w' := by
  have hr := pickI_range n (show (0 : Int) < 3 by omega)
  have HP := Lib.hid (fun W => pickQ_any n 3 W hn (by omega) (by omega))
  obtain ⟨i, hi⟩ : ∃ i : Nat, pickI n 3 = (i : Int) := ⟨(pickI n 3).toNat, by omega⟩
  have hv : valN n = valQ i := by unfold valN; rw [hi]; rfl
  rw [hv]
  rw [hi] at HP hr
  clear hi hv hn
  have hw : IntKind.u8.wrap (i : Int) = (i : Int) := by simp [IntKind.wrap, IntKind.bits, IntKind.signed]; omega
  obtain ⟨W1, hW1⟩ : ∃ W1, W1 = w.alloc (.cells #[.int .u8 118, .int .u8 (i : Int)] 5) := ⟨_, rfl⟩
  have HB1 : Hid (Below w.heap.size w W1) := Lib.hid (by rw [hW1]; exact (Below.refl _ _).alloc (Nat.le_refl _) _)
  have HCl : Hid (∀ j z, [118, i][j]? = some z → W1.cell? ⟨w.heap.size, 0 + j, none⟩ = some (.int .u8 (z : Nat))) := Lib.hid (fun j z hj => by
    match j, hj with
    | 0, hj => cases hj; exact cell_of_row W1 _ 0 _ _ _ (by rw [hW1]; exact heap_alloc_new w _)
    | 1, hj => cases hj; exact cell_of_row W1 _ 1 _ _ _ (by rw [hW1]; exact heap_alloc_new w _))
  have HS := Lib.hid (r2sum_any (strOf [118, i]) W1 (by rw [strOf_size]; show 2 ≤ _; omega))
  rw [← valQ_str i] at HS
  have HW1 := Lib.hid hW1
  generalize valQ i = R at *
  clear hW1
  go_enter Tryz.func14, Tryz.ntmps14
  go_wp2_with (first | (go_at_call 54; (with_reducible refine (HP.out _).mono ?_); rintro e w3 ⟨rfl, hw3⟩; replace hw3 := hw3.symm; subst hw3) | (refine wpList_convS [118, i] (fun z hz => by simp at hz; omega) 80 9 5 _ w.heap.size 0 2 2 rfl rfl rfl rfl (by kernel_rfl) (by kernel_rfl) (by kernel_rfl) (by rw [← HW1.out]; exact HCl.out) ?_; rw [← HW1.out]) | (go_at_call 55; refine HS.out.mono ?_; rintro e w2 ⟨rfl, h2⟩))
  go_ret
  exact ⟨rfl, q_next HB1.out h2⟩
def atNum (n : Int) : Int := 55 + pickI n 2
def atStp (n : Int) : Int := pickI (n.tdiv 2) 2
theorem infoSlot : (Tryz.prog.info? 25).map (·.size) = some 2 := by kernel_rfl
set_option maxHeartbeats 1000000 in
set_option maxRecDepth 100000 in
theorem at_any (n : Int) (hn : I64 n) (w : World) : Calls Tryz.prog 13 #[.int .i64 n] w fun e w' => e = .returned (.agg #[.int .i64 (atNum n), .int .i64 (atStp n)]) ∧ Below w.heap.size w w' := by
  have hr := pickI_range n (show (0 : Int) < 2 by omega)
  have hd : I64 (n.tdiv 2) := by
    obtain ⟨h1, h2⟩ := hn
    unfold I64
    by_cases h : 0 ≤ n
    · rw [Int.tdiv_eq_ediv_of_nonneg h]
      omega
    · have e : n.tdiv 2 = -((-n).tdiv 2) := by rw [Int.neg_tdiv, Int.neg_neg]
      rw [e, Int.tdiv_eq_ediv_of_nonneg (by omega)]
      omega
  have hq : wrap64 (n.tdiv 2) = n.tdiv 2 := by
    obtain ⟨h1, h2⟩ := hd
    generalize n.tdiv 2 = m at *
    unfold wrap64
    omega
  have HP1 := Lib.hid (fun W => pickQ_any n 2 W hn (by omega) (by omega))
  have HP2 := Lib.hid (fun W => pickQ_any (n.tdiv 2) 2 W hd (by omega) (by omega))
  clear hd
  unfold atNum atStp
  generalize pickI n 2 = p at *
  generalize pickI (n.tdiv 2) 2 = q at *
  have hw : IntKind.i64.wrap (55 + p) = 55 + p := IntWalk.i64_in _ (by omega)
  obtain ⟨W1, hW1⟩ : ∃ W1, W1 = w.alloc (.cells #[.int .i64 0, .int .i64 0] 25) := ⟨_, rfl⟩
  have HB1 : Hid (Below w.heap.size w W1) := Lib.hid (by rw [hW1]; exact (Below.refl _ _).alloc (Nat.le_refl _) _)
  have hh : W1.heap[w.heap.size]? = some (.cells #[.int .i64 0, .int .i64 0] 25 (0, 0)) := by rw [hW1]; exact heap_alloc_new w _
  have z0 := cell_of_row W1 _ 0 _ _ _ hh
  have z1 := cell_of_row W1 _ 1 _ _ _ hh
  have zf : ∀ j, W1.frozen? ⟨w.heap.size, j, none⟩ = false := fun j => by unfold World.frozen?; rw [hh]; simp
  have HH := Lib.hid (heap_setCell_same (i := 1) (.int .i64 q) (heap_setCell_same (i := 0) (.int .i64 (55 + p)) hh))
  have HB2 := Lib.hid ((HB1.out.setCell (p := ⟨w.heap.size, 0, none⟩) (Nat.le_refl _) (.int .i64 (55 + p))).setCell (p := ⟨w.heap.size, 1, none⟩) (Nat.le_refl _) (.int .i64 q))
  have HW1 := Lib.hid hW1
  clear hh hW1
  go_enter Tryz.func13, Tryz.ntmps13
  go_upto_region 1 with fail
  rw [← HW1.out]
  go_wp2_with (first | (go_at_call 54; (with_reducible refine (HP1.out _).mono ?_); rintro e w3 ⟨rfl, hw3⟩; replace hw3 := hw3.symm; subst hw3) | (go_at_call 54; (with_reducible refine (HP2.out _).mono ?_); rintro e w3 ⟨rfl, hw3⟩; replace hw3 := hw3.symm; subst hw3))
  exact bodyPost_ret (results_cell_row rfl _ _ w.heap.size 25 #[.int .i64 (55 + p), .int .i64 q] (0, 0) _ rfl HH.out Tryz.underlying25 rfl infoSlot) rfl ⟨rfl, HB2.out⟩
end Go.Proofs.YtggdcnjaofflbaaGreatDoor

/- Rows of whatever element appended to an own row, in a region that draws its order. The conditions: what the slices read as, lengths. -/
namespace Go.Proofs.YtggdcnjaofflbaaGreatDoor
open Go.RowKit Go.BigFrame

theorem flat_lenQ {size : Nat} : ∀ (css : List (List Value)), (∀ c ∈ css, c.length = size) → css.flatten.length = css.length * size := by
  intro css
  induction css with
  | nil => intro _; simp
  | cons d css ih =>
    intro h
    rw [List.flatten_cons, List.length_append, ih (fun c hc => h c (List.mem_cons_of_mem _ hc)), h d (List.mem_cons_self ..), List.length_cons, Nat.succ_mul]
    omega
theorem flat_atQ {size : Nat} : ∀ (css : List (List Value)), (∀ c ∈ css, c.length = size) → ∀ (j : Nat) (u : Value), css.flatten[j]? = some u → ∃ (i r : Nat) (c : List Value), css[i]? = some c ∧ c[r]? = some u ∧ j = i * size + r := by
  intro css
  induction css with
  | nil => intro _ j u h; simp at h
  | cons d css ih =>
    intro hs j u h
    have hd : d.length = size := hs d (by simp)
    rw [List.flatten_cons] at h
    rcases Nat.lt_or_ge j d.length with h1 | h1
    · rw [List.getElem?_append_left h1] at h
      exact ⟨0, j, d, rfl, h, by omega⟩
    · rw [List.getElem?_append_right h1] at h
      obtain ⟨i, r, c, e1, e2, e3⟩ := ih (fun c hc => hs c (by simp [hc])) _ u h
      exact ⟨i + 1, r, c, by simpa using e1, e2, by rw [Nat.succ_mul]; omega⟩



theorem run_append_zeroQ {P : Program} {w : World} (base : Nat) (t ty e : TypeId) (i : TypeInfo) (size : Nat) (ht : P.underlying t = some (.slice e)) (hi : P.info? e = some i)
    (v : Value) (n : Nat) (xs : List Value) (hown : w.ownsRow base e size v n xs) (ad : Option Addr) (c : Nat) :
    (Builtin.append_ #[t, t] ty #[v, .slice ad 0 c]).run P w = .ok v w := by
  rcases hown.2 with ⟨rfl, rfl⟩ | ⟨g, cap, cur, rfl, _, _, hnc, _⟩
  · cases ad <;> simp [Builtin.append_, run_underlying ht, sizeOf, typeInfo, hi, Builtin.lenOf, Builtin.firstCells, loadCells, loadCellsFrom]
  · cases ad <;> simp [Builtin.append_, run_underlying ht, sizeOf, typeInfo, hi, Builtin.lenOf, Builtin.firstCells, hnc, storeCells, loadCells, loadCellsFrom]
section
variable {ops : Array Oper} {rest : List Oper} {o : Oper} {a : Act} {w : World} {Q : Exit → Act → World → Prop} {K : Act → World → Prop} {E : Prop}
theorem wp_append_zeroQ (s x : Operand) (t e : TypeId) (i : TypeInfo) (ht : Tryz.prog.underlying t = some (.slice e)) (hi : Tryz.prog.info? e = some i) (base size n : Nat) (v : Value) (xs : List Value) (hown : w.ownsRow base e size v n xs) (ad : Option Addr) (c : Nat)
    (ho : o.op = .call { callee := .builtin .append, args := #[s, x], argTypes := #[t, t] }) (hs : a.eval s = v) (hx : a.eval x = .slice ad 0 c) (h : K (a.put o.dst v) w) : o.wp Tryz.prog a w K Q := by
  unfold Oper.wp execOp
  have hr := run_append_zeroQ (P := Tryz.prog) (w := w) base t o.type e i size ht hi v n xs hown ad c
  simp only [ho, resolve, invoke, builtin, Sem.run_bind, Sem.run_pure, Result.andThen_ok, List.map_toArray, List.map_cons, List.map_nil, hs, hx, hr]
  exact h
theorem step_append_rowsQ (st e : TypeId) (size bytes : Nat) (z : Value) (ht : Tryz.prog.underlying st = some (.slice e)) (hinfo : (Tryz.prog.info? e).map (fun i => (i.zero, i.size, i.bytes)) = some (some z, size, bytes)) (hzs : z.cells.size = size) (hsz : 0 < size) (hby : bytes ≤ 1000)
    (hgd : o.guard = none) (s x : Operand) (base : Nat) (v : Value) (css dss : List (List Value)) (vy : Value) (hown : OwnE w base e size v css) (hy : SliceAt w vy size dss) (hd : ∀ c ∈ dss, c.length = size ∧ ∀ u ∈ c, u.oneCell' = true) (hlen : css.length + dss.length ≤ 1000000) (hbase : base ≤ w.heap.size)
    (ho : o.op = .call { callee := .builtin .append, args := #[s, x], argTypes := #[st, st] }) (hs : a.eval s = v) (hx : a.eval x = vy)
    (h : ∀ v' w', OwnE w' base e size v' (css ++ dss) → w.grownBy w' v.ownBlock → K (a.put o.dst v') w') : if Region.wanted o (yielded ops a.tmps) = true then Oper.wp Tryz.prog o a w K Q else E := by
  have hw : Region.wanted o (yielded ops a.tmps) = true := by simp [Region.wanted, hgd]
  rw [if_pos hw]
  obtain ⟨i, i1, i2, i3, i4⟩ := info_parts hinfo
  obtain ⟨ad, cap, rfl, _, _, h3⟩ := hy
  rcases Nat.eq_zero_or_pos dss.length with h0 | h0
  · have h1 : dss = [] := List.eq_nil_of_length_eq_zero h0
    subst h1
    exact wp_append_zeroQ s x st e i ht i1 base size _ v _ hown ad cap ho hs hx (h v w (by rw [List.append_nil]; exact hown) (grown_refl _ _))
  · rcases h3 with h3 | ⟨b, off, rfl, hb, hc⟩
    · exfalso
      rw [h3] at h0
      exact Nat.lt_irrefl 0 h0
    refine wp_append_own w s x st ho base e i _ size bytes ht i1 i2 i3 i4 hzs hsz v _ _ hs hown ⟨b, off, none⟩ dss.length cap dss.flatten hx ?_ ?_ ?_ (by unfold maxLen; omega) (by have h1 := Nat.mul_le_mul hlen hby; omega) hbase ?_
    · exact flat_lenQ dss (fun c hc => (hd c hc).1)
    · intro j u hj
      obtain ⟨i, r, c, e1, e2, e3⟩ := flat_atQ _ (fun c hc => (hd c hc).1) j u hj
      have := hc i c e1 r u e2
      rw [Addr.add_mid, e3, ← Nat.add_assoc]
      exact this
    · intro u hu
      obtain ⟨c, hc1, hu⟩ := List.mem_flatten.1 hu
      exact (hd c hc1).2 u hu
    · intro v' w' h1 h2 _
      refine h v' w' ?_ h2
      unfold OwnE
      rw [List.length_append, List.flatten_append]
      exact h1
end
end Go.Proofs.YtggdcnjaofflbaaGreatDoor
