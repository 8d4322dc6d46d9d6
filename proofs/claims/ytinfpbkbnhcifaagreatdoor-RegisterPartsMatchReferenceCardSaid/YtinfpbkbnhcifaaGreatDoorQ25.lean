/- Slices of parts in memory; the walks of Join's test and of the iterator of pairs. The conditions: what the slices read as, lengths, the table of constants. -/
import Derived.Test.YtinfpbkbnhcifaaGreatDoorQ24
import Derived.Test.YtinfpbkbnhcifaaGreatDoorQ16
import Derived.Test.YtinfpbkbnhcifaaGreatDoorQ17
import Derived.Test.YtinfpbkbnhcifaaGreatDoorQ03
import Derived.OwnWalkIn
import Derived.TacticsInMore
import Derived.LoopNIn
import Derived.LoopIn
namespace Go.Proofs.YtinfpbkbnhcifaaGreatDoor
open Go.RowKit Go.BigFrame

/-- The cells of parts, each with the value of its items. -/
def ptcells (l : List (PartP × Value)) : List (List Value) := l.map fun z => [.int .i64 z.1.head.car, .int .i64 z.1.head.siz, .string z.1.head.root, .string z.1.head.sl, z.2]
/-- A slice of items, whatever their proofs' values. -/
def IT (w : World) (v : Value) (its : List ItemP) : Prop := ∃ ys : List (ItemP × Value), ys.map (·.1) = its ∧ ISt w v ys
theorem IT.below {w w' : World} {v : Value} {its : List ItemP} (h : IT w v its) (hb : Below w.heap.size w w') : IT w' v its := let ⟨ys, h1, h2⟩ := h; ⟨ys, h1, h2.below hb⟩
theorem IT.form {w : World} {v : Value} {its : List ItemP} (h : IT w v its) : ∃ a n c, v = .slice a n c := by
  obtain ⟨ys, _, h⟩ := h
  obtain ⟨a, c, h, _⟩ := h.is.opened
  exact ⟨_, _, _, h⟩
/-- A slice of parts. -/
def PS (w : World) (v : Value) (zs : List (PartP × Value)) : Prop := SliceAt w v 5 (ptcells zs) ∧ ∀ z ∈ zs, IT w z.2 z.1.items
theorem PS.nil (w : World) : PS w (.slice none 0 0) [] := ⟨SliceAt.nil w 5, fun _ h => absurd h List.not_mem_nil⟩
theorem PS.below {w w' : World} {v : Value} {zs : List (PartP × Value)} (h : PS w v zs) (hb : Below w.heap.size w w') : PS w' v zs := ⟨h.1.below hb, fun z hz => (h.2 z hz).below hb⟩
/-- The cells of one part. -/
def PAt (w : World) (b o : Nat) (z : PartP × Value) : Prop :=
  w.cell? ⟨b, o, none⟩ = some (.int .i64 z.1.head.car) ∧ w.cell? ⟨b, o + 1, none⟩ = some (.int .i64 z.1.head.siz) ∧ w.cell? ⟨b, o + 2, none⟩ = some (.string z.1.head.root) ∧ w.cell? ⟨b, o + 3, none⟩ = some (.string z.1.head.sl) ∧ w.cell? ⟨b, o + 4, none⟩ = some z.2
theorem PAt.keep {B : Nat} {w w' : World} {b o : Nat} {z : PartP × Value} (h : PAt w b o z) (hb : Below B w w') (hlt : b < B) : PAt w' b o z :=
  ⟨cell_keepB hb hlt h.1, cell_keepB hb hlt h.2.1, cell_keepB hb hlt h.2.2.1, cell_keepB hb hlt h.2.2.2.1, cell_keepB hb hlt h.2.2.2.2⟩
theorem PS.opened {w : World} {v : Value} {zs : List (PartP × Value)} (h : PS w v zs) : ∃ a cap, v = .slice a zs.length cap ∧ zs.length ≤ cap ∧ cap ≤ maxLen ∧
    ∀ k z, zs[k]? = some z → ∃ b off, a = some ⟨b, off, none⟩ ∧ b < w.heap.size ∧ PAt w b (off + k * 5) z := by
  obtain ⟨⟨a, cap, hv, h1, h2, h3⟩, _⟩ := h
  unfold ptcells at *
  rw [List.length_map] at hv h1
  refine ⟨a, cap, hv, h1, h2, fun k z hz => ?_⟩
  rcases h3 with h3 | ⟨b, off, ha, hb, hc⟩
  · simp at h3; subst h3; simp at hz
  · have hk : (zs.map fun z => [Value.int .i64 z.1.head.car, .int .i64 z.1.head.siz, .string z.1.head.root, .string z.1.head.sl, z.2])[k]? = some [.int .i64 z.1.head.car, .int .i64 z.1.head.siz, .string z.1.head.root, .string z.1.head.sl, z.2] := by rw [List.getElem?_map, hz]; rfl
    exact ⟨b, off, ha, hb, hc k _ hk 0 _ rfl, hc k _ hk 1 _ rfl, hc k _ hk 2 _ rfl, hc k _ hk 3 _ rfl, hc k _ hk 4 _ rfl⟩

set_option maxHeartbeats 4000000 in
set_option maxRecDepth 100000 in
theorem isBad_any (key : ByteArray) (car0 c1 s1 : Int) (r1 l1 : ByteArray) (bk bl b off nl cl : Nat) {w : World} {v : Value} {ys : List (ItemP × Value)} (hi : IS w v ys) (hk : w.cell? ⟨bk, 0, none⟩ = some (.string key)) (hl : w.cell? ⟨bl, 0, none⟩ = some (.slice (some ⟨b, off, none⟩) nl cl)) (h0 : w.cell? ⟨b, off, none⟩ = some (.int .i64 car0)) (hbk : bk < w.heap.size) (hbl : bl < w.heap.size) (hb : b < w.heap.size) (hn : 0 < nl)
    (hkey : key.size ≤ 1000) (hr : r1.size ≤ 1000) (hly : ys.length ≤ 100000) (hp : ∀ y ∈ ys, y.1.prf.length ≤ 1000) (he : Env w) (hg : 0 < w.heap.size) :
    Calls Tryz.prog 62 #[.agg #[.int .i64 c1, .int .i64 s1, .string r1, .string l1, v], .pointer (some ⟨bk, 0, none⟩), .pointer (some ⟨bl, 0, none⟩)] w fun e w' => e = .returned (.bool (badP key car0 ⟨⟨c1, s1, r1, l1⟩, ys.map (·.1)⟩)) ∧ Below w.heap.size w w' := by
  obtain ⟨a1, n1, k1, rfl⟩ : ∃ a n c, v = .slice a n c := by obtain ⟨a, c, h, _⟩ := hi.opened; exact ⟨_, _, _, h⟩
  obtain ⟨W1, hW1⟩ : ∃ W1, W1 = w.alloc (.cells #[.int .i64 c1, .int .i64 s1, .string r1, .string l1, .slice a1 n1 k1] 38) := ⟨_, rfl⟩
  have HB1 : Hid (Below w.heap.size w W1) := Lib.hid (by rw [hW1]; exact (Below.refl _ _).alloc (Nat.le_refl _) _)
  have HX1 : Hid (W1.heap[w.heap.size]? = some (.cells #[.int .i64 c1, .int .i64 s1, .string r1, .string l1, .slice a1 n1 k1] 38 (0, 0))) := Lib.hid (by rw [hW1]; exact heap_alloc_new w _)
  have HBd : Hid (Below w.heap.size w W1.drew) := Lib.hid (below_drewN HB1.out 1)
  have HC := Lib.hid (check_any key c1 s1 r1 l1 (hi.below HBd.out) hkey hr hly hp (he.below HBd.out hg) (Nat.lt_of_lt_of_le hg HBd.out.size))
  have HR : Hid (badP key car0 ⟨⟨c1, s1, r1, l1⟩, ys.map (·.1)⟩ = (!checkB key ⟨⟨c1, s1, r1, l1⟩, ys.map (·.1)⟩ || decide (c1 ≠ car0))) := Lib.hid rfl
  generalize badP key car0 ⟨⟨c1, s1, r1, l1⟩, ys.map (·.1)⟩ = RR at *
  generalize checkB key ⟨⟨c1, s1, r1, l1⟩, ys.map (·.1)⟩ = g1 at *

  have SS1 : ∀ W : World, Below w.heap.size w W → W.heap[w.heap.size]? = some (.cells #[.int .i64 c1, .int .i64 s1, .string r1, .string l1, .slice a1 n1 k1] 38 (0, 0)) → W.cell? ⟨bk, 0, none⟩ = some (.string key) ∧ W.cell? ⟨bl, 0, none⟩ = some (.slice (some ⟨b, off, none⟩) nl cl) ∧ W.cell? ⟨b, off, none⟩ = some (.int .i64 car0) ∧ W.cell? ⟨w.heap.size, 0, none⟩ = some (.int .i64 c1) ∧ W.cell? ⟨w.heap.size, 1, none⟩ = some (.int .i64 s1) ∧ W.cell? ⟨w.heap.size, 2, none⟩ = some (.string r1) ∧ W.cell? ⟨w.heap.size, 3, none⟩ = some (.string l1) ∧ W.cell? ⟨w.heap.size, 4, none⟩ = some (.slice a1 n1 k1) := fun W hW hX =>
    ⟨cell_keepB hW hbk hk, cell_keepB hW hbl hl, cell_keepB hW hb h0, cell_of_row W _ 0 _ _ _ hX, cell_of_row W _ 1 _ _ _ hX, cell_of_row W _ 2 _ _ _ hX, cell_of_row W _ 3 _ _ _ hX, cell_of_row W _ 4 _ _ _ hX⟩
  have HSS := Lib.hid SS1
  have b1 : (0 : Int) < (nl : Int) := by omega
  have b2 : 0 < nl := hn
  have HW1 := Lib.hid hW1
  clear hi hk hl h0 hbk hbl hb hkey hr hly hp he hg SS1 hW1 hn
  cases g1
  · go_enter Tryz.func62, Tryz.ntmps62
    go_wp2_with fail
    rw [← HW1.out]
    refine wp_region_noPanic ?_
    refine wp_region_lex [2] (fun w' => w'.cell? ⟨bk, 0, none⟩ = some (.string key) ∧ w'.cell? ⟨bl, 0, none⟩ = some (.slice (some ⟨b, off, none⟩) nl cl) ∧ w'.cell? ⟨b, off, none⟩ = some (.int .i64 car0) ∧ w'.cell? ⟨w.heap.size, 0, none⟩ = some (.int .i64 c1) ∧ w'.cell? ⟨w.heap.size, 1, none⟩ = some (.int .i64 s1) ∧ w'.cell? ⟨w.heap.size, 2, none⟩ = some (.string r1) ∧ w'.cell? ⟨w.heap.size, 3, none⟩ = some (.string l1) ∧ w'.cell? ⟨w.heap.size, 4, none⟩ = some (.slice a1 n1 k1)) (by kernel_rfl) (by kernel_rfl) (fun _ _ _ _ _ h => h) (HSS.out _ HBd.out HX1.out) ?_
    refine wpLex_take (v := ?_) (by rfl) (Or.inl ⟨by rfl, ?_⟩) ?_
    rotate_left
    · intro w hSw; (try dsimp only at hSw); go_simp; try with_reducible rfl
    simp only [Act.put, List.setIfInBounds_toArray, List.set_cons_zero, List.set_cons_succ]
    refine wpLex_take (v := ?_) (by rfl) (Or.inl ⟨by rfl, ?_⟩) ?_
    rotate_left
    · intro w hSw; (try dsimp only at hSw); go_simp; try with_reducible rfl
    simp only [Act.put, List.setIfInBounds_toArray, List.set_cons_zero, List.set_cons_succ]
    refine wpLex_big (by rfl) rfl (fun K hK => ?_)
    go_simp
    go_at_call 24
    with_reducible refine HC.out.mono ?_
    rintro e w3 ⟨rfl, hb3⟩
    have HB3 := Lib.hid (HBd.out.trans (hb3.mono HBd.out.size))
    have HX3 := Lib.hid ((hb3.block _ (Array.getElem?_eq_some_iff.1 HX1.out).1).trans HX1.out)
    clear hb3
    refine hK.out _ _ (HSS.out _ HB3.out HX3.out) (fun _ => ?_)
    clear hK K
    refine wpLex_take (v := ?_) (by rfl) (Or.inl ⟨by rfl, ?_⟩) ?_
    rotate_left
    · intro w hSw; (try dsimp only at hSw); go_simp; try with_reducible rfl
    simp only [Act.put, List.setIfInBounds_toArray, List.set_cons_zero, List.set_cons_succ]
    refine wpLex_take (v := ?_) (by rfl) (Or.inl ⟨by rfl, ?_⟩) ?_
    rotate_left
    · intro w hSw; (try dsimp only at hSw); go_simp; try with_reducible rfl
    simp only [Act.put, List.setIfInBounds_toArray, List.set_cons_zero, List.set_cons_succ]
    refine wpLex_take (v := undef) (by rfl) (Or.inr ⟨by rfl, rfl⟩) ?_
    simp only [Act.put, List.setIfInBounds_toArray, List.set_cons_zero, List.set_cons_succ]
    refine wpLex_take (v := undef) (by rfl) (Or.inr ⟨by rfl, rfl⟩) ?_
    simp only [Act.put, List.setIfInBounds_toArray, List.set_cons_zero, List.set_cons_succ]
    refine wpLex_take (v := undef) (by rfl) (Or.inr ⟨by rfl, rfl⟩) ?_
    simp only [Act.put, List.setIfInBounds_toArray, List.set_cons_zero, List.set_cons_succ]
    refine wpLex_take (v := undef) (by rfl) (Or.inr ⟨by rfl, rfl⟩) ?_
    simp only [Act.put, List.setIfInBounds_toArray, List.set_cons_zero, List.set_cons_succ]
    refine wpLex_take (v := undef) (by rfl) (Or.inr ⟨by rfl, rfl⟩) ?_
    simp only [Act.put, List.setIfInBounds_toArray, List.set_cons_zero, List.set_cons_succ]
    refine wpLex_take (v := undef) (by rfl) (Or.inr ⟨by rfl, rfl⟩) ?_
    simp only [Act.put, List.setIfInBounds_toArray, List.set_cons_zero, List.set_cons_succ]
    refine wpLex_take (v := undef) (by rfl) (Or.inr ⟨by rfl, rfl⟩) ?_
    simp only [Act.put, List.setIfInBounds_toArray, List.set_cons_zero, List.set_cons_succ]
    refine wpLex_take (v := undef) (by rfl) (Or.inr ⟨by rfl, rfl⟩) ?_
    simp only [Act.put, List.setIfInBounds_toArray, List.set_cons_zero, List.set_cons_succ]
    refine wpLex_take (v := undef) (by rfl) (Or.inr ⟨by rfl, rfl⟩) ?_
    simp only [Act.put, List.setIfInBounds_toArray, List.set_cons_zero, List.set_cons_succ]
    refine wpLex_take (v := ?_) (by rfl) (Or.inl ⟨by rfl, ?_⟩) ?_
    rotate_left
    · intro w hSw; (try dsimp only at hSw); go_simp; try with_reducible rfl
    simp only [Act.put, List.setIfInBounds_toArray, List.set_cons_zero, List.set_cons_succ]
    refine wpLex_take (v := ?_) (by rfl) (Or.inl ⟨by rfl, ?_⟩) ?_
    rotate_left
    · intro w hSw; (try dsimp only at hSw); go_simp; try with_reducible rfl
    simp only [Act.put, List.setIfInBounds_toArray, List.set_cons_zero, List.set_cons_succ]
    refine wpLex_nil ?_
    refine NoPanic.normal ?_
    go_wp2
    go_ret
    refine ⟨ret_bool ?_, HB3.out⟩
    rw [HR.out]
    rfl
  · go_enter Tryz.func62, Tryz.ntmps62
    go_wp2_with fail
    rw [← HW1.out]
    refine wp_region_noPanic ?_
    refine wp_region_lex [2] (fun w' => w'.cell? ⟨bk, 0, none⟩ = some (.string key) ∧ w'.cell? ⟨bl, 0, none⟩ = some (.slice (some ⟨b, off, none⟩) nl cl) ∧ w'.cell? ⟨b, off, none⟩ = some (.int .i64 car0) ∧ w'.cell? ⟨w.heap.size, 0, none⟩ = some (.int .i64 c1) ∧ w'.cell? ⟨w.heap.size, 1, none⟩ = some (.int .i64 s1) ∧ w'.cell? ⟨w.heap.size, 2, none⟩ = some (.string r1) ∧ w'.cell? ⟨w.heap.size, 3, none⟩ = some (.string l1) ∧ w'.cell? ⟨w.heap.size, 4, none⟩ = some (.slice a1 n1 k1)) (by kernel_rfl) (by kernel_rfl) (fun _ _ _ _ _ h => h) (HSS.out _ HBd.out HX1.out) ?_
    refine wpLex_take (v := ?_) (by rfl) (Or.inl ⟨by rfl, ?_⟩) ?_
    rotate_left
    · intro w hSw; (try dsimp only at hSw); go_simp; try with_reducible rfl
    simp only [Act.put, List.setIfInBounds_toArray, List.set_cons_zero, List.set_cons_succ]
    refine wpLex_take (v := ?_) (by rfl) (Or.inl ⟨by rfl, ?_⟩) ?_
    rotate_left
    · intro w hSw; (try dsimp only at hSw); go_simp; try with_reducible rfl
    simp only [Act.put, List.setIfInBounds_toArray, List.set_cons_zero, List.set_cons_succ]
    refine wpLex_big (by rfl) rfl (fun K hK => ?_)
    go_simp
    go_at_call 24
    with_reducible refine HC.out.mono ?_
    rintro e w3 ⟨rfl, hb3⟩
    have HB3 := Lib.hid (HBd.out.trans (hb3.mono HBd.out.size))
    have HX3 := Lib.hid ((hb3.block _ (Array.getElem?_eq_some_iff.1 HX1.out).1).trans HX1.out)
    clear hb3
    refine hK.out _ _ (HSS.out _ HB3.out HX3.out) (fun _ => ?_)
    clear hK K
    refine wpLex_take (v := ?_) (by rfl) (Or.inl ⟨by rfl, ?_⟩) ?_
    rotate_left
    · intro w hSw; (try dsimp only at hSw); go_simp; try with_reducible rfl
    simp only [Act.put, List.setIfInBounds_toArray, List.set_cons_zero, List.set_cons_succ]
    refine wpLex_take (v := ?_) (by rfl) (Or.inl ⟨by rfl, ?_⟩) ?_
    rotate_left
    · intro w hSw; (try dsimp only at hSw); go_simp; try with_reducible rfl
    simp only [Act.put, List.setIfInBounds_toArray, List.set_cons_zero, List.set_cons_succ]
    refine wpLex_take (v := ?_) (by rfl) (Or.inl ⟨by rfl, ?_⟩) ?_
    rotate_left
    · intro w hSw; (try dsimp only at hSw); go_simp; try with_reducible rfl
    simp only [Act.put, List.setIfInBounds_toArray, List.set_cons_zero, List.set_cons_succ]
    refine wpLex_take (v := ?_) (by rfl) (Or.inl ⟨by rfl, ?_⟩) ?_
    rotate_left
    · intro w hSw; (try dsimp only at hSw); go_simp; try with_reducible rfl
    simp only [Act.put, List.setIfInBounds_toArray, List.set_cons_zero, List.set_cons_succ]
    refine wpLex_take (v := ?_) (by rfl) (Or.inl ⟨by rfl, ?_⟩) ?_
    rotate_left
    · intro w hSw; (try dsimp only at hSw); go_simp; try with_reducible rfl
    simp only [Act.put, List.setIfInBounds_toArray, List.set_cons_zero, List.set_cons_succ]
    refine wpLex_take (v := ?_) (by rfl) (Or.inl ⟨by rfl, ?_⟩) ?_
    rotate_left
    · intro w hSw; (try dsimp only at hSw); go_simp; try with_reducible rfl
    simp only [Act.put, List.setIfInBounds_toArray, List.set_cons_zero, List.set_cons_succ]
    refine wpLex_take (v := ?_) (by rfl) (Or.inl ⟨by rfl, ?_⟩) ?_
    rotate_left
    · intro w hSw; (try dsimp only at hSw); go_simp; try with_reducible rfl
    simp only [Act.put, List.setIfInBounds_toArray, List.set_cons_zero, List.set_cons_succ]
    refine wpLex_take (v := ?_) (by rfl) (Or.inl ⟨by rfl, ?_⟩) ?_
    rotate_left
    · intro w hSw; (try dsimp only at hSw); go_simp; try with_reducible rfl
    simp only [Act.put, List.setIfInBounds_toArray, List.set_cons_zero, List.set_cons_succ]
    refine wpLex_take (v := ?_) (by rfl) (Or.inl ⟨by rfl, ?_⟩) ?_
    rotate_left
    · intro w hSw; (try dsimp only at hSw); go_simp; try with_reducible rfl
    simp only [Act.put, List.setIfInBounds_toArray, List.set_cons_zero, List.set_cons_succ]
    refine wpLex_take (v := ?_) (by rfl) (Or.inl ⟨by rfl, ?_⟩) ?_
    rotate_left
    · intro w hSw; (try dsimp only at hSw); go_simp; try with_reducible rfl
    simp only [Act.put, List.setIfInBounds_toArray, List.set_cons_zero, List.set_cons_succ]
    refine wpLex_take (v := ?_) (by rfl) (Or.inl ⟨by rfl, ?_⟩) ?_
    rotate_left
    · intro w hSw; (try dsimp only at hSw); go_simp; try with_reducible rfl
    simp only [Act.put, List.setIfInBounds_toArray, List.set_cons_zero, List.set_cons_succ]
    refine wpLex_take (v := ?_) (by rfl) (Or.inl ⟨by rfl, ?_⟩) ?_
    rotate_left
    · intro w hSw; (try dsimp only at hSw); go_simp; try with_reducible rfl
    simp only [Act.put, List.setIfInBounds_toArray, List.set_cons_zero, List.set_cons_succ]
    refine wpLex_take (v := ?_) (by rfl) (Or.inl ⟨by rfl, ?_⟩) ?_
    rotate_left
    · intro w hSw; (try dsimp only at hSw); go_simp; try with_reducible rfl
    simp only [Act.put, List.setIfInBounds_toArray, List.set_cons_zero, List.set_cons_succ]
    refine wpLex_nil ?_
    refine NoPanic.normal ?_
    go_wp2
    go_ret
    refine ⟨ret_bool ?_, HB3.out⟩
    rw [HR.out]
    by_cases h9 : c1 = car0 <;> simp [h9]
set_option maxHeartbeats 1000000 in
theorem indexPt_any (bk bl : Nat) (p : PartP × Value → Bool) {w : World} {v : Value} {zs : List (PartP × Value)} (hi : PS w v zs)
    (ht : ∀ (W : World) (z : PartP × Value), Below w.heap.size w W → z ∈ zs → Calls Tryz.prog 62 #[.agg #[.int .i64 z.1.head.car, .int .i64 z.1.head.siz, .string z.1.head.root, .string z.1.head.sl, z.2], .pointer (some ⟨bk, 0, none⟩), .pointer (some ⟨bl, 0, none⟩)] W fun e w' => e = .returned (.bool (p z)) ∧ Below W.heap.size W w') :
    Calls Tryz.prog 98 #[v, .func (.func 62) #[] #[.pointer (some ⟨bk, 0, none⟩), .pointer (some ⟨bl, 0, none⟩)]] w fun e w' => e = .returned (.int .i64 (firstIdx p zs 0)) ∧ Below w.heap.size w w' := by
  obtain ⟨a, cap, rfl, l1, l2, l3⟩ := hi.opened
  have H3 := Lib.hid l3
  have HI := Lib.hid hi
  have HT := Lib.hid ht
  clear l3 hi ht
  unfold maxLen at l2
  obtain ⟨n, hn⟩ : ∃ n, n = zs.length := ⟨_, rfl⟩
  rw [← hn] at l1 ⊢
  have HN := Lib.hid hn
  clear hn
  go_enter Tryz.func98, Tryz.ntmps98
  go_wp2
  go_loopw [8] (fun i wr => ∃ k : Nat, k ≤ n ∧ i = .int .i64 k ∧ Hid (∀ j q, j < k → zs[j]? = some q → p q = false) ∧ Hid (Below w.heap.size w wr)) (fun i wr => n - (intOf i).toNat)
  case atStart => exact ⟨0, by omega, rfl, (by intro j q hj; omega), Below.refl _ _⟩
  case round =>
    obtain ⟨k, hk, rfl, hall, hB⟩ := hrel
    by_cases hlt : k < n
    · obtain ⟨z, ez⟩ : ∃ z, zs[k]? = some z := ⟨_, List.getElem?_eq_getElem (by rw [← HN.out]; exact hlt)⟩
      obtain ⟨b, off, rfl, hb, hpt⟩ := H3.out k z ez
      obtain ⟨d0, d1, d2, d3, d4⟩ := hpt.keep hB.out hb
      clear hpt
      have hmem := List.mem_of_getElem? ez
      have HC := Lib.hid (HT.out wr z hB.out hmem)
      obtain ⟨fa, fn, fc, hform⟩ := (HI.out.2 z hmem).form
      have EZ := Lib.hid ez
      obtain ⟨P0, hP0⟩ : ∃ P0, P0 = p z := ⟨_, rfl⟩
      rw [← hP0] at HC
      have HP0 := Lib.hid hP0
      clear ez hmem hP0
      obtain ⟨⟨⟨hc, hs, hr, hsl⟩, its⟩, iv⟩ := z
      simp only at d0 d1 d2 d3 d4 hform HC
      subst hform
      have s1 := hB.out.size
      cases P0
      · go_wp2_with (go_at_call 62; refine HC.out.mono ?_; rintro e w1 ⟨rfl, hb1⟩)
        go_roundw
        case rel =>
          refine ⟨k + 1, by omega, by go_num, ?_, hB.out.trans (hb1.mono s1)⟩
          intro j q' hj hq
          by_cases hjk : j = k
          · subst hjk; rw [EZ.out] at hq; cases hq; exact HP0.out.symm
          · exact hall.out j q' (by omega) hq
        case measure => simp [intOf]; omega
      · go_wp2_with (go_at_call 62; refine HC.out.mono ?_; rintro e w1 ⟨rfl, hb1⟩)
        go_ret
        refine ⟨ret_int ?_, hB.out.trans (hb1.mono s1)⟩
        rw [firstIdx_drop p zs k 0 hall.out (by rw [← HN.out]; omega)]
        rw [drop_get EZ.out, firstIdx, if_pos HP0.out.symm]; omega
    · go_wp2
      go_ret
      refine ⟨ret_int ?_, hB.out⟩
      rw [firstIdx_drop p zs k 0 hall.out (by rw [← HN.out]; omega), List.drop_eq_nil_of_le (by rw [← HN.out]; omega), firstIdx]

set_option maxHeartbeats 400000 in
theorem containsPt_any (bk bl : Nat) (p : PartP × Value → Bool) {w : World} {v : Value} {zs : List (PartP × Value)} (hi : PS w v zs)
    (ht : ∀ (W : World) (z : PartP × Value), Below w.heap.size w W → z ∈ zs → Calls Tryz.prog 62 #[.agg #[.int .i64 z.1.head.car, .int .i64 z.1.head.siz, .string z.1.head.root, .string z.1.head.sl, z.2], .pointer (some ⟨bk, 0, none⟩), .pointer (some ⟨bl, 0, none⟩)] W fun e w' => e = .returned (.bool (p z)) ∧ Below W.heap.size W w') :
    Calls Tryz.prog 64 #[v, .func (.func 62) #[] #[.pointer (some ⟨bk, 0, none⟩), .pointer (some ⟨bl, 0, none⟩)]] w fun e w' => e = .returned (.bool (zs.any p)) ∧ Below w.heap.size w w' := by
  have hf := firstIdx_neg p zs 0 (by omega)
  have HF := Lib.hid hf
  clear hf
  generalize hi' : firstIdx p zs 0 = i at *
  have hc := indexPt_any bk bl p hi ht
  rw [hi'] at hc
  clear hi'
  have HC := Lib.hid hc
  clear hc hi ht
  go_enter Tryz.func64, Tryz.ntmps64
  go_wp2_with (go_at_call 98; refine HC.out.mono ?_; rintro e w1 ⟨rfl, hb1⟩)
  go_ret
  exact ⟨ret_bool HF.out, hb1⟩
end Go.Proofs.YtinfpbkbnhcifaaGreatDoor

/- The iterator of pairs: its walk. The conditions: what its captured variable reads as, the length. -/
namespace Go.Proofs.YtinfpbkbnhcifaaGreatDoor
open Go.RowKit Go.BigFrame Go.Shelf

attribute [local go_sem] Oper.semAt_some

/-! ### Plain: the pairs of n places -/
def partP (i j : Nat) : List (Nat × Nat) := (List.range' (i + 1) (j - (i + 1))).map fun k => (i, k)
def upP (n k : Nat) : List (Nat × Nat) := (List.range k).flatMap (pairsOf n)
theorem partP_start (i : Nat) : partP i (i + 1) = [] := by simp [partP]
theorem partP_snoc {i j : Nat} (h : i + 1 ≤ j) : partP i (j + 1) = partP i j ++ [(i, j)] := by
  unfold partP
  rw [show j + 1 - (i + 1) = (j - (i + 1)) + 1 by omega, List.range'_concat, List.map_append]
  congr 1
  simp
  omega
theorem partP_end {n i j : Nat} (h2 : n ≤ j) (h3 : j ≤ n) : partP i j = pairsOf n i := by
  have : j = n := by omega
  subst this
  rfl
theorem upP_zero (n : Nat) : upP n 0 = [] := rfl
theorem upP_succ (n k : Nat) : upP n (k + 1) = upP n k ++ pairsOf n k := by
  unfold upP
  rw [List.range_succ, List.flatMap_append]
  simp
theorem upP_all (n : Nat) : upP n n = pairsL n := rfl
theorem part_prefix {n i j : Nat} (hj : j ≤ n) (hij : i + 1 ≤ j) : ∃ t, partP i j ++ t = pairsOf n i := by
  refine ⟨(List.range' j (n - j)).map fun k => (i, k), ?_⟩
  unfold partP pairsOf
  rw [← List.map_append]
  congr 1
  have := List.range'_append_1 (s := i + 1) (m := j - (i + 1)) (n := n - j)
  rw [show i + 1 + (j - (i + 1)) = j by omega, show j - (i + 1) + (n - j) = n - (i + 1) by omega] at this
  exact this
theorem up_prefix {n k : Nat} (hk : k ≤ n) : ∃ t, upP n k ++ t = pairsL n := by
  refine ⟨(List.range' k (n - k)).flatMap (pairsOf n), ?_⟩
  unfold upP pairsL
  rw [← List.flatMap_append]
  congr 1
  rw [List.range_eq_range', List.range_eq_range']
  have := List.range'_append_1 (s := 0) (m := k) (n := n - k)
  rw [show 0 + k = k by omega, show k + (n - k) = n by omega] at this
  exact this
theorem pre_prefix {n i j : Nat} (hi : i < n) (hj : j ≤ n) (hij : i + 1 ≤ j) : (upP n i ++ partP i j) <+: pairsL n := by
  obtain ⟨t, ht⟩ := part_prefix hj hij
  obtain ⟨u, hu⟩ := up_prefix (n := n) (k := i + 1) (by omega)
  rw [upP_succ, ← ht] at hu
  exact ⟨t ++ u, by rw [← hu]; simp [List.append_assoc]⟩
theorem pre_lt {n i j : Nat} (hi : i < n) (hj : j < n) (hij : i + 1 ≤ j) : (upP n i ++ partP i j).length < (pairsL n).length := by
  have := (pre_prefix hi (show j + 1 ≤ n by omega) (by omega : i + 1 ≤ j + 1)).length_le
  rw [partP_snoc hij] at this
  simp only [List.length_append, List.length_cons, List.length_nil] at this ⊢
  omega

/-- A pair of different places among n, the lesser one first. -/
abbrev Pair (n : Nat) := { x : Nat × Nat // x.1 < x.2 ∧ x.2 < n }
def pairV (n : Nat) (x : Pair n) : Array Value := #[.int .i64 x.1.1, .int .i64 x.1.2]

set_option maxHeartbeats 400000 in
theorem pairs_any (a : Option Addr) (n c : Nat) (w : World) :
    Calls Tryz.prog 65 #[.slice a n c] w fun e w' => e = .returned (.func (.func 99) #[] #[.pointer (some ⟨w.heap.size, 0, none⟩)]) ∧ w' = w.alloc (.cells #[.slice a n c] 30) := by
  go_enter Tryz.func65, Tryz.ntmps65
  go_wp2
  go_ret
  exact ⟨rfl, rfl⟩

set_option maxRecDepth 100000 in
set_option maxHeartbeats 2000000 in
theorem pairs1_iter (bl n c : Nat) (a : Option Addr) (w0 : World) (hn : n ≤ 1000000) (h1 : w0.heap[bl]? = some (.cells #[.slice a n c] 30 (0, 0))) :
    Iter Tryz.prog 99 #[.pointer (some ⟨bl, 0, none⟩)] (pairV n) (fun A B => B.heap[bl]? = A.heap[bl]?) none (fun xs => xs.map (·.1) = pairsL n) (fun xs => (xs.map (·.1)) <+: pairsL n) (pairsL n).length w0 := by
  intro F m hF hro l J Jx W hW hJ hJx hY h0
  have hbl1 : bl < w0.heap.size := (Array.getElem?_eq_some_iff.1 h1).1
  have H1 : Hid (W.heap[bl]? = some (.cells #[.slice a n c] 30 (0, 0))) := Lib.hid ((hW.block bl hbl1).trans h1)
  clear h1 hW
  have HUP := Lib.hid (upP_zero n)
  refine callsIn_of_wp Tryz.func99 rfl (hF.1 _) ?_ hro
  simp only [Tryz.ntmps99, List.size_toArray, List.length_cons, List.length_nil, Nat.reduceAdd, Nat.reduceSub, Array.replicate_succ, Array.replicate_zero, List.push_toArray, List.append_toArray, List.nil_append, List.cons_append]
  have c1 : W.cell? ⟨bl, 0, none⟩ = some (.slice a n c) := cell_of_row W _ 0 _ _ _ H1.out
  gi_wp2
  clear c1
  gi_loopw [7] (fun i wr => ∃ (pre : List (Pair n)) (k : Nat), k ≤ n ∧ i = .int .i64 k ∧ Hid (pre.map (·.1) = upP n k) ∧ Hid (wr.heap[bl]? = some (.cells #[.slice a n c] 30 (0, 0))) ∧ J pre wr) (fun i wr => n - (intOf i).toNat)
  case atStart => exact ⟨[], 0, by omega, rfl, HUP, H1, h0⟩
  case round =>
    obtain ⟨pre, k, hk, rfl, hpre, g1, hJs⟩ := hrel
    clear HUP H1 h0
    by_cases hlt : k < n
    · have hw1 : wrap64 ((k : Int) + 1) = ((k + 1 : Nat) : Int) := by rw [IntWalk.wrap64_in _ ⟨by omega, by omega⟩]; omega
      have HS : Hid (pre.map (·.1) = upP n k ++ partP k (k + 1)) := Lib.hid (by rw [hpre.out, partP_start, List.append_nil])
      clear hpre
      gi_wp2
      gi_loopw [4] (fun i wr => ∃ (pre : List (Pair n)) (j : Nat), k + 1 ≤ j ∧ j ≤ n ∧ i = .int .i64 j ∧ Hid (pre.map (·.1) = upP n k ++ partP k j) ∧ Hid (wr.heap[bl]? = some (.cells #[.slice a n c] 30 (0, 0))) ∧ J pre wr) (fun i wr => n - (intOf i).toNat)
      case atStart => exact ⟨pre, k + 1, by omega, by omega, by first | rfl | go_num, HS, g1, hJs⟩
      case round =>
        clear HS g1 hJs
        obtain ⟨pre, j, hj1, hj2, rfl, hpre, g1, hJs⟩ := hrel
        have c1 : wr.cell? ⟨bl, 0, none⟩ = some (.slice a n c) := cell_of_row wr _ 0 _ _ _ g1.out
        by_cases hlt2 : j < n
        · obtain ⟨fn, tmps, assign, body, hy, hR⟩ := hY pre ⟨(k, j), by exact ⟨by omega, hlt2⟩⟩ wr hJs (by
            have := congrArg List.length hpre.out
            rw [List.length_map] at this
            rw [this]
            exact pre_lt hlt hlt2 hj1)
          have hy : Sem.run _ _ _ = _ := hy
          unfold pairV at hy
          simp only at hy
          have HP : Hid ((pre ++ [(⟨(k, j), by exact ⟨by omega, hlt2⟩⟩ : Pair n)]).map (·.1) = upP n k ++ partP k (j + 1)) := Lib.hid (by rw [List.map_append, hpre.out, partP_snoc hj1, List.append_assoc]; rfl)
          clear hpre
          gi_wp2
          refine ⟨fun h => (by rw [hF.2.1] at h; cases h), hR.mono ?_⟩
          clear c1
          rintro e W3 (⟨rfl, hJ3, hk3⟩ | ⟨rfl, hJx3⟩)
          · have h1 : Hid (W3.heap[bl]? = some (.cells #[.slice a n c] 30 (0, 0))) := Lib.hid (hk3.trans g1.out)
            clear hk3
            gi_wp2
            go_roundw
            case rel => exact ⟨_, j + 1, by omega, by omega, by go_num, HP, h1, hJ3⟩
            case measure => simp [intOf]; omega
          · gi_wp2
            refine bodyPost_ret (results_none rfl _ _ _) rfl ?_
            exact ⟨⟨_, rfl⟩, .inr ⟨_, by rw [HP.out]; exact pre_prefix hlt (by omega) (by omega), hJx3⟩⟩
        · have ej : j = n := by omega
          have HP : Hid (pre.map (·.1) = upP n (k + 1)) := Lib.hid (by rw [hpre.out, upP_succ, partP_end (by omega) hj2])
          clear hpre
          gi_wp2
          go_roundw
          case rel => exact ⟨pre, k + 1, by omega, by go_num, HP, g1, hJs⟩
          case measure => simp [intOf]; omega
    · have ek : k = n := by omega
      gi_wp2
      go_end0
      exact ⟨⟨_, rfl⟩, .inl ⟨pre, by rw [hpre.out, ek]; exact upP_all n, hJs⟩⟩
end Go.Proofs.YtinfpbkbnhcifaaGreatDoor

/- The walk of register.Join where a part is bad, or two convict. The conditions: what the slices read as, lengths, the table of constants. -/
namespace Go.Proofs.YtinfpbkbnhcifaaGreatDoor
open Go.RowKit Go.BigFrame

theorem loadVar_one {P : Program} {w : World} {b : Nat} {v : Value} {T ty : TypeId} {fz : Nat × Nat} (hag : ∀ w, (isAgg ty).run P w = .ok false w) (h : w.heap[b]? = some (.cells #[v] T fz)) : (loadVar ty ⟨b, 0, none⟩).run P w = .ok v w := by
  have hc : w.cell? ⟨b, 0, none⟩ = some v := cell_of_row w b 0 _ T fz h
  simp [loadVar, Sem.run_bind, hag w, run_load, hc]
theorem results_cell4 {P : Program} {fn : Func} {p q r s : Tmp} {t1 t2 t3 t4 : TypeId} (h : fn.results = #[.cell p t1, .cell q t2, .cell r t3, .cell s t4]) (tmps : Array Value) {w : World} {b1 b2 b3 b4 : Nat} {v1 v2 v3 v4 : Value}
    (h1 : tmps.getD p undef = .pointer (some ⟨b1, 0, none⟩)) (h2 : tmps.getD q undef = .pointer (some ⟨b2, 0, none⟩)) (h3 : tmps.getD r undef = .pointer (some ⟨b3, 0, none⟩)) (h4 : tmps.getD s undef = .pointer (some ⟨b4, 0, none⟩))
    (g1 : (loadVar t1 ⟨b1, 0, none⟩).run P w = .ok v1 w) (g2 : (loadVar t2 ⟨b2, 0, none⟩).run P w = .ok v2 w) (g3 : (loadVar t3 ⟨b3, 0, none⟩).run P w = .ok v3 w) (g4 : (loadVar t4 ⟨b4, 0, none⟩).run P w = .ok v4 w) :
    (results fn tmps).run P w = .ok (.tuple #[v1, v2, v3, v4]) w := by
  have a1 : ∀ b, (asAddr (.pointer (some ⟨b, 0, none⟩))).run P w = .ok ⟨b, 0, none⟩ w := fun b => rfl
  rw [Array.getD_eq_getD_getElem?] at h1 h2 h3 h4
  simp only [results, h]
  simp [Sem.run_bind, Result.andThen, h1, h2, h3, h4, a1, g1, g2, g3, g4]

/-- What Join's own memory is: its boxed arguments, and its results. -/
def JoinAt (w W : World) (key : ByteArray) (v r1 r2 r3 r4 : Value) : Prop :=
  Below w.heap.size w W ∧ W.heap[w.heap.size]? = some (.cells #[.string key] 9 (0, 0)) ∧ W.heap[w.heap.size + 1]? = some (.cells #[v] 30 (0, 0)) ∧ W.heap[w.heap.size + 2]? = some (.cells #[r1] 36 (0, 0)) ∧
  W.heap[w.heap.size + 3]? = some (.cells #[r2] 3 (0, 0)) ∧ W.heap[w.heap.size + 4]? = some (.cells #[r3] 3 (0, 0)) ∧ W.heap[w.heap.size + 5]? = some (.cells #[r4] 39 (0, 0))
def joinW (w : World) (key : ByteArray) (v : Value) : World := (((((w.alloc (.cells #[.string key] 9)).alloc (.cells #[v] 30)).alloc (.cells #[.slice none 0 0] 36)).alloc (.cells #[.int .i64 0] 3)).alloc (.cells #[.int .i64 0] 3)).alloc (.cells #[.int .i64 0] 39)
theorem alloc_at {w : World} {k : Nat} {o o' : Obj} (h : w.heap[k]? = some o) : (w.alloc o').heap[k]? = some o := (Below.heap_alloc w o' k (Array.getElem?_eq_some_iff.1 h).1).trans h
theorem alloc_last {w : World} {k : Nat} {o : Obj} (h : k = w.heap.size) : (w.alloc o).heap[k]? = some o := by subst h; exact heap_alloc_new w o
theorem JoinAt.start (w : World) (key : ByteArray) (v : Value) : JoinAt w (joinW w key v) key v (.slice none 0 0) (.int .i64 0) (.int .i64 0) (.int .i64 0) := by
  unfold joinW
  refine ⟨?_, alloc_at (alloc_at (alloc_at (alloc_at (alloc_at (alloc_last rfl))))), alloc_at (alloc_at (alloc_at (alloc_at (alloc_last (by simp))))), alloc_at (alloc_at (alloc_at (alloc_last (by simp)))), alloc_at (alloc_at (alloc_last (by simp))), alloc_at (alloc_last (by simp)), alloc_last (by simp)⟩
  exact ((((((Below.refl _ _).alloc (Nat.le_refl _) _).alloc (by simp) _).alloc (by simp; omega) _).alloc (by simp; omega) _).alloc (by simp; omega) _).alloc (by simp; omega) _
theorem JoinAt.far {w W W' : World} {key : ByteArray} {v r1 r2 r3 r4 : Value} (h : JoinAt w W key v r1 r2 r3 r4) (hb : Below W.heap.size W W') : JoinAt w W' key v r1 r2 r3 r4 := by
  obtain ⟨h0, h1, h2, h3, h4, h5, h6⟩ := h
  have k : ∀ {i : Nat} {o : Obj}, W.heap[i]? = some o → W'.heap[i]? = some o := fun {i o} h => (hb.block i (Array.getElem?_eq_some_iff.1 h).1).trans h
  exact ⟨h0.trans (hb.mono h0.size), k h1, k h2, k h3, k h4, k h5, k h6⟩
theorem JoinAt.size {w W : World} {key : ByteArray} {v r1 r2 r3 r4 : Value} (h : JoinAt w W key v r1 r2 r3 r4) : w.heap.size + 6 ≤ W.heap.size := (Array.getElem?_eq_some_iff.1 h.2.2.2.2.2.2).1
theorem JoinAt.cells {w W : World} {key : ByteArray} {v r1 r2 r3 r4 : Value} (h : JoinAt w W key v r1 r2 r3 r4) : W.cell? ⟨w.heap.size, 0, none⟩ = some (.string key) ∧ W.cell? ⟨w.heap.size + 1, 0, none⟩ = some v :=
  ⟨cell_of_row W _ 0 _ _ _ h.2.1, cell_of_row W _ 0 _ _ _ h.2.2.1⟩
theorem JoinAt.rets {w W : World} {key : ByteArray} {v r1 r2 r3 r4 : Value} (h : JoinAt w W key v r1 r2 r3 r4) : (∀ j, W.frozen? ⟨w.heap.size + 2, j, none⟩ = false) ∧ (∀ j, W.frozen? ⟨w.heap.size + 3, j, none⟩ = false) ∧ (∀ j, W.frozen? ⟨w.heap.size + 4, j, none⟩ = false) ∧ (∀ j, W.frozen? ⟨w.heap.size + 5, j, none⟩ = false) ∧
    W.cell? ⟨w.heap.size + 2, 0, none⟩ = some r1 ∧ W.cell? ⟨w.heap.size + 3, 0, none⟩ = some r2 ∧ W.cell? ⟨w.heap.size + 4, 0, none⟩ = some r3 ∧ W.cell? ⟨w.heap.size + 5, 0, none⟩ = some r4 := by
  obtain ⟨_, _, _, h3, h4, h5, h6⟩ := h
  exact ⟨fun j => by simp [World.frozen?, h3], fun j => by simp [World.frozen?, h4], fun j => by simp [World.frozen?, h5], fun j => by simp [World.frozen?, h6], cell_of_row W _ 0 _ _ _ h3, cell_of_row W _ 0 _ _ _ h4, cell_of_row W _ 0 _ _ _ h5, cell_of_row W _ 0 _ _ _ h6⟩
theorem JoinAt.set {w W : World} {key : ByteArray} {v r1 r2 r3 r4 : Value} (h : JoinAt w W key v r1 r2 r3 r4) (x1 x2 x3 x4 : Value) :
    JoinAt w ((((W.setCell ⟨w.heap.size + 2, 0, none⟩ x1).setCell ⟨w.heap.size + 3, 0, none⟩ x2).setCell ⟨w.heap.size + 4, 0, none⟩ x3).setCell ⟨w.heap.size + 5, 0, none⟩ x4) key v x1 x2 x3 x4 := by
  obtain ⟨h0, h1, h2, h3, h4, h5, h6⟩ := h
  have b1 := h0.setCell (p := ⟨w.heap.size + 2, 0, none⟩) (by show _ ≤ w.heap.size + 2; omega) x1
  have b2 := b1.setCell (p := ⟨w.heap.size + 3, 0, none⟩) (by show _ ≤ w.heap.size + 3; omega) x2
  have b3 := b2.setCell (p := ⟨w.heap.size + 4, 0, none⟩) (by show _ ≤ w.heap.size + 4; omega) x3
  have b4 := b3.setCell (p := ⟨w.heap.size + 5, 0, none⟩) (by show _ ≤ w.heap.size + 5; omega) x4
  have o : ∀ {i b : Nat} {x : Value} {W : World} {o : Obj}, W.heap[i]? = some o → i ≠ b → (W.setCell ⟨b, 0, none⟩ x).heap[i]? = some o := fun {i b x W o} h hne => (Below.heap_setCell _ _ _ _ hne).trans h
  refine ⟨b4, o (o (o (o h1 (by omega)) (by omega)) (by omega)) (by omega), o (o (o (o h2 (by omega)) (by omega)) (by omega)) (by omega), ?_, ?_, ?_, ?_⟩
  · exact o (o (o (heap_setCell_same x1 h3) (by omega)) (by omega)) (by omega)
  · exact o (o (heap_setCell_same x2 (o h4 (by omega))) (by omega)) (by omega)
  · exact o (heap_setCell_same x3 (o (o h5 (by omega)) (by omega))) (by omega)
  · exact heap_setCell_same x4 (o (o (o h6 (by omega)) (by omega)) (by omega))
theorem JoinAt.results {w W : World} {key : ByteArray} {v r1 r2 r3 r4 : Value} (h : JoinAt w W key v r1 r2 r3 r4) (tmps : Array Value) (h1 : tmps.getD 4 undef = .pointer (some ⟨w.heap.size + 2, 0, none⟩)) (h2 : tmps.getD 5 undef = .pointer (some ⟨w.heap.size + 3, 0, none⟩)) (h3 : tmps.getD 6 undef = .pointer (some ⟨w.heap.size + 4, 0, none⟩)) (h4 : tmps.getD 7 undef = .pointer (some ⟨w.heap.size + 5, 0, none⟩)) :
    (results Tryz.f26 tmps).run Tryz.prog W = .ok (.tuple #[r1, r2, r3, r4]) W := by
  obtain ⟨_, _, _, g1, g2, g3, g4⟩ := h
  exact results_cell4 rfl tmps h1 h2 h3 h4 (loadVar_one Tryz.isAgg36 g1) (loadVar_one Tryz.isAgg3 g2) (loadVar_one Tryz.isAgg3 g3) (loadVar_one Tryz.isAgg39 g4)

/-- What the parts of a call are fit for. -/
def FitP (zs : List (PartP × Value)) : Prop := zs.length ≤ 1000 ∧ ∀ z ∈ zs, z.1.head.root.size ≤ 1000 ∧ z.1.items.length ≤ 100000 ∧ ∀ x ∈ z.1.items, x.prf.length ≤ 1000

/-- The test whether a part is bad, wherever the boxes are kept. -/
theorem bad_at {key : ByteArray} {w W : World} {a : Option Addr} {n c : Nat} {zs : List (PartP × Value)} {r1 r2 r3 r4 : Value} (hz : PS w (.slice a n c) zs) (hf : FitP zs) (hk : key.size ≤ 1000) (he : Env w) (hg : 0 < w.heap.size) (hj : JoinAt w W key (.slice a n c) r1 r2 r3 r4) :
    Calls Tryz.prog 64 #[.slice a n c, .func (.func 62) #[] #[.pointer (some ⟨w.heap.size, 0, none⟩), .pointer (some ⟨w.heap.size + 1, 0, none⟩)]] W fun e w' => e = .returned (.bool ((zs.map (·.1)).any (badP key (firstCar (zs.map (·.1)))))) ∧ Below W.heap.size W w' := by
  rw [List.any_map]
  refine containsPt_any w.heap.size (w.heap.size + 1) _ (hz.below hj.1) (fun W' z hW hmem => ?_)
  have hj' := hj.far hW
  obtain ⟨q1, q2, q3⟩ := hf.2 z hmem
  obtain ⟨ys, hys, hi⟩ := (hz.below hj'.1).2 z hmem
  replace hi := hi.is
  obtain ⟨a', cap, hv, l1, l2, l3⟩ := (hz.below hj'.1).opened
  obtain ⟨z0, hz0⟩ : ∃ z0, zs[0]? = some z0 := by
    cases zs with
    | nil => simp at hmem
    | cons z0 zs => exact ⟨z0, rfl⟩
  obtain ⟨b, off, rfl, hb, hp⟩ := l3 0 z0 hz0
  injection hv with e1 e2 e3
  subst e1 e2 e3
  have hfc : firstCar (zs.map (·.1)) = z0.1.head.car := by
    cases zs with
    | nil => simp at hmem
    | cons z1 zs => simp at hz0; subst hz0; rfl
  obtain ⟨c1, c2⟩ := hj'.cells
  have hsz := hj'.size
  obtain ⟨⟨⟨hc, hs, hr, hsl⟩, its⟩, iv⟩ := z
  simp only at q1 q2 q3 hys hi ⊢
  subst hys
  have hp0 := hp.1
  rw [Nat.zero_mul, Nat.add_zero] at hp0
  have := isBad_any key z0.1.head.car hc hs hr hsl w.heap.size (w.heap.size + 1) b off zs.length c hi c1 c2 hp0 (by omega) (by omega) hb (by
    cases zs with
    | nil => simp at hmem
    | cons _ _ => simp) hk q1 (by rw [List.length_map] at q2; exact q2) (fun y hy => q3 y.1 (List.mem_map.2 ⟨y, hy, rfl⟩)) (he.below hj'.1 hg) (Nat.lt_of_lt_of_le hg hj'.1.size)
  simpa [Function.comp, hfc] using this

set_option maxHeartbeats 2000000 in
set_option maxRecDepth 100000 in
theorem join_bad {key : ByteArray} {w : World} {v : Value} {zs : List (PartP × Value)} (hz : PS w v zs) (hf : FitP zs) (hk : key.size ≤ 1000) (he : Env w) (hg : 0 < w.heap.size) (hbad : joinBad key (zs.map (·.1)) = true) :
    Calls Tryz.prog 26 #[.string key, v] w fun e w' => e = .returned (.tuple #[.slice none 0 0, .int .i64 (-1), .int .i64 (-1), .int .i64 180]) ∧ Below w.heap.size w w' := by
  obtain ⟨a, n, c, rfl⟩ : ∃ a n c, v = .slice a n c := by obtain ⟨a, c, h, _⟩ := hz.opened; exact ⟨_, _, _, h⟩
  have HJ := Lib.hid (JoinAt.start w key (.slice a n c))
  have HBd := Lib.hid (bad_at hz hf hk he hg HJ.out)
  have HBad : Hid (decide (key.size = 32) = true → (zs.map (·.1)).any (badP key (firstCar (zs.map (·.1)))) = true) := Lib.hid (fun h => by
    unfold joinBad at hbad
    rw [h] at hbad
    simpa using hbad)
  obtain ⟨W6, hW6⟩ : ∃ W6, W6 = joinW w key (.slice a n c) := ⟨_, rfl⟩
  rw [← hW6] at HJ HBd
  unfold joinW at hW6
  have HW6 := Lib.hid hW6
  have HIK := isKey_any key W6
  clear hW6 hz hf hk he hg hbad
  generalize decide (key.size = 32) = ik at *
  generalize (zs.map (·.1)).any (badP key (firstCar (zs.map (·.1)))) = bd at *
  have hk0 : ∀ {W : World} {r1 r2 r3 r4 : Value}, JoinAt w W key (.slice a n c) r1 r2 r3 r4 → True := fun _ => trivial
  clear hk0
  have HI := Lib.hid HIK
  clear HIK
  obtain ⟨c1, c2⟩ := HJ.out.cells
  obtain ⟨f1, f2, f3, f4, g1, g2, g3, g4⟩ := HJ.out.rets
  cases ik
  · have HE := Lib.hid (HJ.out.set (.slice none 0 0) (.int .i64 (-1)) (.int .i64 (-1)) (.int .i64 180))
    go_enter Tryz.func26, Tryz.ntmps26
    go_wp2_with (go_at_call 63; rw [← HW6.out]; refine HI.out.mono ?_; rintro e w3 ⟨rfl, rfl⟩)
    exact bodyPost_ret (HE.out.results _ rfl rfl rfl rfl) rfl ⟨rfl, HE.out.1⟩
  · have hbt : bd = true := HBad.out rfl
    subst hbt
    go_enter Tryz.func26, Tryz.ntmps26
    go_wp2_with (first | (go_at_call 63; rw [← HW6.out]; refine HI.out.mono ?_; rintro e w3 ⟨rfl, rfl⟩) | (go_at_call 64; refine HBd.out.mono ?_; rintro e w4 ⟨rfl, hb4⟩; obtain ⟨f1, f2, f3, f4, g1, g2, g3, g4⟩ := (HJ.out.far hb4).rets; have HE := Lib.hid ((HJ.out.far hb4).set (.slice none 0 0) (.int .i64 (-1)) (.int .i64 (-1)) (.int .i64 180))))
    exact bodyPost_ret (HE.out.results _ rfl rfl rfl rfl) rfl ⟨rfl, HE.out.1⟩
end Go.Proofs.YtinfpbkbnhcifaaGreatDoor
