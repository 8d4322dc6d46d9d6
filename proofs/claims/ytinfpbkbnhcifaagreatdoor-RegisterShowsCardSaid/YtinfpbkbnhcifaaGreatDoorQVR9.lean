/- Slices of parts in memory; the walks of Join's test and of the iterator of pairs. The conditions: what the slices read as, lengths, the table of constants. -/
import Derived.Test.YtinfpbkbnhcifaaGreatDoorQVR8
import Derived.Test.YtinfpbkbnhcifaaGreatDoorQVR7
import Derived.Test.YtinfpbkbnhcifaaGreatDoorQLexO
import Derived.Test.YtinfpbkbnhcifaaGreatDoorQRG
namespace Go.Proofs.YtinfpbkbnhcifaaGreatDoor
open Go.RowKit Go.BigFrame

/-- The cells of parts, each with the value of its items. -/
def ptcells (l : List (PartP × Value)) : List (List Value) := l.map fun z => [.int .i64 z.1.head.car, .int .i64 z.1.head.siz, .string z.1.head.root, .string z.1.head.sl, z.2]
/-- A slice of items, whatever their proofs' values. -/
def IT (w : World) (v : Value) (its : List ItemP) : Prop := ∃ ys : List (ItemP × Value), ys.map (·.1) = its ∧ ISt w v ys
theorem IT.below {w w' : World} {v : Value} {its : List ItemP} (h : IT w v its) (hb : Below w.heap.size w w') : IT w' v its := let ⟨ys, h1, h2⟩ := h; ⟨ys, h1, h2.below hb⟩
theorem IT.form {w : World} {v : Value} {its : List ItemP} (h : IT w v its) : ∃ a n c, v = .slice a n c := by
  obtain ⟨ys, _, h⟩ := h
  obtain ⟨a, c, h, _⟩ := h.is.opened
  exact ⟨_, _, _, h⟩
/-- A slice of parts. -/
def PS (w : World) (v : Value) (zs : List (PartP × Value)) : Prop := SliceAt w v 5 (ptcells zs) ∧ ∀ z ∈ zs, IT w z.2 z.1.items
theorem PS.nil (w : World) : PS w (.slice none 0 0) [] := ⟨SliceAt.nil w 5, fun _ h => absurd h List.not_mem_nil⟩
theorem PS.below {w w' : World} {v : Value} {zs : List (PartP × Value)} (h : PS w v zs) (hb : Below w.heap.size w w') : PS w' v zs := ⟨h.1.below hb, fun z hz => (h.2 z hz).below hb⟩
/-- The cells of one part. -/
def PAt (w : World) (b o : Nat) (z : PartP × Value) : Prop :=
  w.cell? ⟨b, o, none⟩ = some (.int .i64 z.1.head.car) ∧ w.cell? ⟨b, o + 1, none⟩ = some (.int .i64 z.1.head.siz) ∧ w.cell? ⟨b, o + 2, none⟩ = some (.string z.1.head.root) ∧ w.cell? ⟨b, o + 3, none⟩ = some (.string z.1.head.sl) ∧ w.cell? ⟨b, o + 4, none⟩ = some z.2
theorem PAt.keep {B : Nat} {w w' : World} {b o : Nat} {z : PartP × Value} (h : PAt w b o z) (hb : Below B w w') (hlt : b < B) : PAt w' b o z :=
  ⟨cell_keepB hb hlt h.1, cell_keepB hb hlt h.2.1, cell_keepB hb hlt h.2.2.1, cell_keepB hb hlt h.2.2.2.1, cell_keepB hb hlt h.2.2.2.2⟩
theorem PS.opened {w : World} {v : Value} {zs : List (PartP × Value)} (h : PS w v zs) : ∃ a cap, v = .slice a zs.length cap ∧ zs.length ≤ cap ∧ cap ≤ maxLen ∧
    ∀ k z, zs[k]? = some z → ∃ b off, a = some ⟨b, off, none⟩ ∧ b < w.heap.size ∧ PAt w b (off + k * 5) z := by
  obtain ⟨⟨a, cap, hv, h1, h2, h3⟩, _⟩ := h
  unfold ptcells at *
  rw [List.length_map] at hv h1
  refine ⟨a, cap, hv, h1, h2, fun k z hz => ?_⟩
  rcases h3 with h3 | ⟨b, off, ha, hb, hc⟩
  · simp at h3; subst h3; simp at hz
  · have hk : (zs.map fun z => [Value.int .i64 z.1.head.car, .int .i64 z.1.head.siz, .string z.1.head.root, .string z.1.head.sl, z.2])[k]? = some [.int .i64 z.1.head.car, .int .i64 z.1.head.siz, .string z.1.head.root, .string z.1.head.sl, z.2] := by rw [List.getElem?_map, hz]; rfl
    exact ⟨b, off, ha, hb, hc k _ hk 0 _ rfl, hc k _ hk 1 _ rfl, hc k _ hk 2 _ rfl, hc k _ hk 3 _ rfl, hc k _ hk 4 _ rfl⟩

set_option maxHeartbeats 4000000 in
set_option maxRecDepth 100000 in
theorem isBad_any (key : ByteArray) (car0 c1 s1 : Int) (r1 l1 : ByteArray) (bk bl b off nl cl : Nat) {w : World} {v : Value} {ys : List (ItemP × Value)} (hi : IS w v ys) (hk : w.cell? ⟨bk, 0, none⟩ = some (.string key)) (hl : w.cell? ⟨bl, 0, none⟩ = some (.slice (some ⟨b, off, none⟩) nl cl)) (h0 : w.cell? ⟨b, off, none⟩ = some (.int .i64 car0)) (hbk : bk < w.heap.size) (hbl : bl < w.heap.size) (hb : b < w.heap.size) (hn : 0 < nl)
    (hkey : key.size ≤ 1000) (hr : r1.size ≤ 1000) (hly : ys.length ≤ 100000) (hp : ∀ y ∈ ys, y.1.prf.length ≤ 1000) (he : Env w) (hg : 0 < w.heap.size) :
    Calls Tryz.prog 62 #[.agg #[.int .i64 c1, .int .i64 s1, .string r1, .string l1, v], .pointer (some ⟨bk, 0, none⟩), .pointer (some ⟨bl, 0, none⟩)] w fun e w' => e = .returned (.bool (badP key car0 ⟨⟨c1, s1, r1, l1⟩, ys.map (·.1)⟩)) ∧ Below w.heap.size w w' := by
  obtain ⟨a1, n1, k1, rfl⟩ : ∃ a n c, v = .slice a n c := by obtain ⟨a, c, h, _⟩ := hi.opened; exact ⟨_, _, _, h⟩
  obtain ⟨W1, hW1⟩ : ∃ W1, W1 = w.alloc (.cells #[.int .i64 c1, .int .i64 s1, .string r1, .string l1, .slice a1 n1 k1] 38) := ⟨_, rfl⟩
  have HB1 : Hid (Below w.heap.size w W1) := Lib.hid (by rw [hW1]; exact (Below.refl _ _).alloc (Nat.le_refl _) _)
  have HX1 : Hid (W1.heap[w.heap.size]? = some (.cells #[.int .i64 c1, .int .i64 s1, .string r1, .string l1, .slice a1 n1 k1] 38 (0, 0))) := Lib.hid (by rw [hW1]; exact heap_alloc_new w _)
  have HBd : Hid (Below w.heap.size w W1.drew) := Lib.hid (below_drewN HB1.out 1)
  have HC := Lib.hid (check_any key c1 s1 r1 l1 (hi.below HBd.out) hkey hr hly hp (he.below HBd.out hg) (Nat.lt_of_lt_of_le hg HBd.out.size))
  have HR : Hid (badP key car0 ⟨⟨c1, s1, r1, l1⟩, ys.map (·.1)⟩ = (!checkB key ⟨⟨c1, s1, r1, l1⟩, ys.map (·.1)⟩ || decide (c1 ≠ car0))) := Lib.hid rfl
  generalize badP key car0 ⟨⟨c1, s1, r1, l1⟩, ys.map (·.1)⟩ = RR at *
  generalize checkB key ⟨⟨c1, s1, r1, l1⟩, ys.map (·.1)⟩ = g1 at *

  have SS1 : ∀ W : World, Below w.heap.size w W → W.heap[w.heap.size]? = some (.cells #[.int .i64 c1, .int .i64 s1, .string r1, .string l1, .slice a1 n1 k1] 38 (0, 0)) → W.cell? ⟨bk, 0, none⟩ = some (.string key) ∧ W.cell? ⟨bl, 0, none⟩ = some (.slice (some ⟨b, off, none⟩) nl cl) ∧ W.cell? ⟨b, off, none⟩ = some (.int .i64 car0) ∧ W.cell? ⟨w.heap.size, 0, none⟩ = some (.int .i64 c1) ∧ W.cell? ⟨w.heap.size, 1, none⟩ = some (.int .i64 s1) ∧ W.cell? ⟨w.heap.size, 2, none⟩ = some (.string r1) ∧ W.cell? ⟨w.heap.size, 3, none⟩ = some (.string l1) ∧ W.cell? ⟨w.heap.size, 4, none⟩ = some (.slice a1 n1 k1) := fun W hW hX =>
    ⟨cell_keepB hW hbk hk, cell_keepB hW hbl hl, cell_keepB hW hb h0, cell_of_row W _ 0 _ _ _ hX, cell_of_row W _ 1 _ _ _ hX, cell_of_row W _ 2 _ _ _ hX, cell_of_row W _ 3 _ _ _ hX, cell_of_row W _ 4 _ _ _ hX⟩
  have HSS := Lib.hid SS1
  have b1 : (0 : Int) < (nl : Int) := by omega
  have b2 : 0 < nl := hn
  have HW1 := Lib.hid hW1
  clear hi hk hl h0 hbk hbl hb hkey hr hly hp he hg SS1 hW1 hn
  cases g1
  · go_enter Tryz.func62, Tryz.ntmps62
    go_wp2_with fail
    rw [← HW1.out]
    refine wp_region_noPanic ?_
    refine wp_region_lex [2] (fun w' => w'.cell? ⟨bk, 0, none⟩ = some (.string key) ∧ w'.cell? ⟨bl, 0, none⟩ = some (.slice (some ⟨b, off, none⟩) nl cl) ∧ w'.cell? ⟨b, off, none⟩ = some (.int .i64 car0) ∧ w'.cell? ⟨w.heap.size, 0, none⟩ = some (.int .i64 c1) ∧ w'.cell? ⟨w.heap.size, 1, none⟩ = some (.int .i64 s1) ∧ w'.cell? ⟨w.heap.size, 2, none⟩ = some (.string r1) ∧ w'.cell? ⟨w.heap.size, 3, none⟩ = some (.string l1) ∧ w'.cell? ⟨w.heap.size, 4, none⟩ = some (.slice a1 n1 k1)) (by kernel_rfl) (by kernel_rfl) (fun _ _ _ _ _ h => h) (HSS.out _ HBd.out HX1.out) ?_
    refine wpLex_take (v := ?_) (by rfl) (Or.inl ⟨by rfl, ?_⟩) ?_
    rotate_left
    · intro w hSw; (try dsimp only at hSw); go_simp; try with_reducible rfl
    simp only [Act.put, List.setIfInBounds_toArray, List.set_cons_zero, List.set_cons_succ]
    refine wpLex_take (v := ?_) (by rfl) (Or.inl ⟨by rfl, ?_⟩) ?_
    rotate_left
    · intro w hSw; (try dsimp only at hSw); go_simp; try with_reducible rfl
    simp only [Act.put, List.setIfInBounds_toArray, List.set_cons_zero, List.set_cons_succ]
    refine wpLex_big (by rfl) rfl (fun K hK => ?_)
    go_simp
    go_at_call 24
    with_reducible refine HC.out.mono ?_
    rintro e w3 ⟨rfl, hb3⟩
    have HB3 := Lib.hid (HBd.out.trans (hb3.mono HBd.out.size))
    have HX3 := Lib.hid ((hb3.block _ (Array.getElem?_eq_some_iff.1 HX1.out).1).trans HX1.out)
    clear hb3
    refine hK.out _ _ (HSS.out _ HB3.out HX3.out) (fun _ => ?_)
    clear hK K
    refine wpLex_take (v := ?_) (by rfl) (Or.inl ⟨by rfl, ?_⟩) ?_
    rotate_left
    · intro w hSw; (try dsimp only at hSw); go_simp; try with_reducible rfl
    simp only [Act.put, List.setIfInBounds_toArray, List.set_cons_zero, List.set_cons_succ]
    refine wpLex_take (v := ?_) (by rfl) (Or.inl ⟨by rfl, ?_⟩) ?_
    rotate_left
    · intro w hSw; (try dsimp only at hSw); go_simp; try with_reducible rfl
    simp only [Act.put, List.setIfInBounds_toArray, List.set_cons_zero, List.set_cons_succ]
    refine wpLex_take (v := undef) (by rfl) (Or.inr ⟨by rfl, rfl⟩) ?_
    simp only [Act.put, List.setIfInBounds_toArray, List.set_cons_zero, List.set_cons_succ]
    refine wpLex_take (v := undef) (by rfl) (Or.inr ⟨by rfl, rfl⟩) ?_
    simp only [Act.put, List.setIfInBounds_toArray, List.set_cons_zero, List.set_cons_succ]
    refine wpLex_take (v := undef) (by rfl) (Or.inr ⟨by rfl, rfl⟩) ?_
    simp only [Act.put, List.setIfInBounds_toArray, List.set_cons_zero, List.set_cons_succ]
    refine wpLex_take (v := undef) (by rfl) (Or.inr ⟨by rfl, rfl⟩) ?_
    simp only [Act.put, List.setIfInBounds_toArray, List.set_cons_zero, List.set_cons_succ]
    refine wpLex_take (v := undef) (by rfl) (Or.inr ⟨by rfl, rfl⟩) ?_
    simp only [Act.put, List.setIfInBounds_toArray, List.set_cons_zero, List.set_cons_succ]
    refine wpLex_take (v := undef) (by rfl) (Or.inr ⟨by rfl, rfl⟩) ?_
    simp only [Act.put, List.setIfInBounds_toArray, List.set_cons_zero, List.set_cons_succ]
    refine wpLex_take (v := undef) (by rfl) (Or.inr ⟨by rfl, rfl⟩) ?_
    simp only [Act.put, List.setIfInBounds_toArray, List.set_cons_zero, List.set_cons_succ]
    refine wpLex_take (v := undef) (by rfl) (Or.inr ⟨by rfl, rfl⟩) ?_
    simp only [Act.put, List.setIfInBounds_toArray, List.set_cons_zero, List.set_cons_succ]
    refine wpLex_take (v := undef) (by rfl) (Or.inr ⟨by rfl, rfl⟩) ?_
    simp only [Act.put, List.setIfInBounds_toArray, List.set_cons_zero, List.set_cons_succ]
    refine wpLex_take (v := ?_) (by rfl) (Or.inl ⟨by rfl, ?_⟩) ?_
    rotate_left
    · intro w hSw; (try dsimp only at hSw); go_simp; try with_reducible rfl
    simp only [Act.put, List.setIfInBounds_toArray, List.set_cons_zero, List.set_cons_succ]
    refine wpLex_take (v := ?_) (by rfl) (Or.inl ⟨by rfl, ?_⟩) ?_
    rotate_left
    · intro w hSw; (try dsimp only at hSw); go_simp; try with_reducible rfl
    simp only [Act.put, List.setIfInBounds_toArray, List.set_cons_zero, List.set_cons_succ]
    refine wpLex_nil ?_
    refine NoPanic.normal ?_
    go_wp2
    go_ret
    refine ⟨ret_bool ?_, HB3.out⟩
    rw [HR.out]
    rfl
  · go_enter Tryz.func62, Tryz.ntmps62
    go_wp2_with fail
    rw [← HW1.out]
    refine wp_region_noPanic ?_
    refine wp_region_lex [2] (fun w' => w'.cell? ⟨bk, 0, none⟩ = some (.string key) ∧ w'.cell? ⟨bl, 0, none⟩ = some (.slice (some ⟨b, off, none⟩) nl cl) ∧ w'.cell? ⟨b, off, none⟩ = some (.int .i64 car0) ∧ w'.cell? ⟨w.heap.size, 0, none⟩ = some (.int .i64 c1) ∧ w'.cell? ⟨w.heap.size, 1, none⟩ = some (.int .i64 s1) ∧ w'.cell? ⟨w.heap.size, 2, none⟩ = some (.string r1) ∧ w'.cell? ⟨w.heap.size, 3, none⟩ = some (.string l1) ∧ w'.cell? ⟨w.heap.size, 4, none⟩ = some (.slice a1 n1 k1)) (by kernel_rfl) (by kernel_rfl) (fun _ _ _ _ _ h => h) (HSS.out _ HBd.out HX1.out) ?_
    refine wpLex_take (v := ?_) (by rfl) (Or.inl ⟨by rfl, ?_⟩) ?_
    rotate_left
    · intro w hSw; (try dsimp only at hSw); go_simp; try with_reducible rfl
    simp only [Act.put, List.setIfInBounds_toArray, List.set_cons_zero, List.set_cons_succ]
    refine wpLex_take (v := ?_) (by rfl) (Or.inl ⟨by rfl, ?_⟩) ?_
    rotate_left
    · intro w hSw; (try dsimp only at hSw); go_simp; try with_reducible rfl
    simp only [Act.put, List.setIfInBounds_toArray, List.set_cons_zero, List.set_cons_succ]
    refine wpLex_big (by rfl) rfl (fun K hK => ?_)
    go_simp
    go_at_call 24
    with_reducible refine HC.out.mono ?_
    rintro e w3 ⟨rfl, hb3⟩
    have HB3 := Lib.hid (HBd.out.trans (hb3.mono HBd.out.size))
    have HX3 := Lib.hid ((hb3.block _ (Array.getElem?_eq_some_iff.1 HX1.out).1).trans HX1.out)
    clear hb3
    refine hK.out _ _ (HSS.out _ HB3.out HX3.out) (fun _ => ?_)
    clear hK K
    refine wpLex_take (v := ?_) (by rfl) (Or.inl ⟨by rfl, ?_⟩) ?_
    rotate_left
    · intro w hSw; (try dsimp only at hSw); go_simp; try with_reducible rfl
    simp only [Act.put, List.setIfInBounds_toArray, List.set_cons_zero, List.set_cons_succ]
    refine wpLex_take (v := ?_) (by rfl) (Or.inl ⟨by rfl, ?_⟩) ?_
    rotate_left
    · intro w hSw; (try dsimp only at hSw); go_simp; try with_reducible rfl
    simp only [Act.put, List.setIfInBounds_toArray, List.set_cons_zero, List.set_cons_succ]
    refine wpLex_take (v := ?_) (by rfl) (Or.inl ⟨by rfl, ?_⟩) ?_
    rotate_left
    · intro w hSw; (try dsimp only at hSw); go_simp; try with_reducible rfl
    simp only [Act.put, List.setIfInBounds_toArray, List.set_cons_zero, List.set_cons_succ]
    refine wpLex_take (v := ?_) (by rfl) (Or.inl ⟨by rfl, ?_⟩) ?_
    rotate_left
    · intro w hSw; (try dsimp only at hSw); go_simp; try with_reducible rfl
    simp only [Act.put, List.setIfInBounds_toArray, List.set_cons_zero, List.set_cons_succ]
    refine wpLex_take (v := ?_) (by rfl) (Or.inl ⟨by rfl, ?_⟩) ?_
    rotate_left
    · intro w hSw; (try dsimp only at hSw); go_simp; try with_reducible rfl
    simp only [Act.put, List.setIfInBounds_toArray, List.set_cons_zero, List.set_cons_succ]
    refine wpLex_take (v := ?_) (by rfl) (Or.inl ⟨by rfl, ?_⟩) ?_
    rotate_left
    · intro w hSw; (try dsimp only at hSw); go_simp; try with_reducible rfl
    simp only [Act.put, List.setIfInBounds_toArray, List.set_cons_zero, List.set_cons_succ]
    refine wpLex_take (v := ?_) (by rfl) (Or.inl ⟨by rfl, ?_⟩) ?_
    rotate_left
    · intro w hSw; (try dsimp only at hSw); go_simp; try with_reducible rfl
    simp only [Act.put, List.setIfInBounds_toArray, List.set_cons_zero, List.set_cons_succ]
    refine wpLex_take (v := ?_) (by rfl) (Or.inl ⟨by rfl, ?_⟩) ?_
    rotate_left
    · intro w hSw; (try dsimp only at hSw); go_simp; try with_reducible rfl
    simp only [Act.put, List.setIfInBounds_toArray, List.set_cons_zero, List.set_cons_succ]
    refine wpLex_take (v := ?_) (by rfl) (Or.inl ⟨by rfl, ?_⟩) ?_
    rotate_left
    · intro w hSw; (try dsimp only at hSw); go_simp; try with_reducible rfl
    simp only [Act.put, List.setIfInBounds_toArray, List.set_cons_zero, List.set_cons_succ]
    refine wpLex_take (v := ?_) (by rfl) (Or.inl ⟨by rfl, ?_⟩) ?_
    rotate_left
    · intro w hSw; (try dsimp only at hSw); go_simp; try with_reducible rfl
    simp only [Act.put, List.setIfInBounds_toArray, List.set_cons_zero, List.set_cons_succ]
    refine wpLex_take (v := ?_) (by rfl) (Or.inl ⟨by rfl, ?_⟩) ?_
    rotate_left
    · intro w hSw; (try dsimp only at hSw); go_simp; try with_reducible rfl
    simp only [Act.put, List.setIfInBounds_toArray, List.set_cons_zero, List.set_cons_succ]
    refine wpLex_take (v := ?_) (by rfl) (Or.inl ⟨by rfl, ?_⟩) ?_
    rotate_left
    · intro w hSw; (try dsimp only at hSw); go_simp; try with_reducible rfl
    simp only [Act.put, List.setIfInBounds_toArray, List.set_cons_zero, List.set_cons_succ]
    refine wpLex_take (v := ?_) (by rfl) (Or.inl ⟨by rfl, ?_⟩) ?_
    rotate_left
    · intro w hSw; (try dsimp only at hSw); go_simp; try with_reducible rfl
    simp only [Act.put, List.setIfInBounds_toArray, List.set_cons_zero, List.set_cons_succ]
    refine wpLex_nil ?_
    refine NoPanic.normal ?_
    go_wp2
    go_ret
    refine ⟨ret_bool ?_, HB3.out⟩
    rw [HR.out]
    by_cases h9 : c1 = car0 <;> simp [h9]
set_option maxHeartbeats 1000000 in
theorem indexPt_any (bk bl : Nat) (p : PartP × Value → Bool) {w : World} {v : Value} {zs : List (PartP × Value)} (hi : PS w v zs)
    (ht : ∀ (W : World) (z : PartP × Value), Below w.heap.size w W → z ∈ zs → Calls Tryz.prog 62 #[.agg #[.int .i64 z.1.head.car, .int .i64 z.1.head.siz, .string z.1.head.root, .string z.1.head.sl, z.2], .pointer (some ⟨bk, 0, none⟩), .pointer (some ⟨bl, 0, none⟩)] W fun e w' => e = .returned (.bool (p z)) ∧ Below W.heap.size W w') :
    Calls Tryz.prog 98 #[v, .func (.func 62) #[] #[.pointer (some ⟨bk, 0, none⟩), .pointer (some ⟨bl, 0, none⟩)]] w fun e w' => e = .returned (.int .i64 (firstIdx p zs 0)) ∧ Below w.heap.size w w' := by
  obtain ⟨a, cap, rfl, l1, l2, l3⟩ := hi.opened
  have H3 := Lib.hid l3
  have HI := Lib.hid hi
  have HT := Lib.hid ht
  clear l3 hi ht
  unfold maxLen at l2
  obtain ⟨n, hn⟩ : ∃ n, n = zs.length := ⟨_, rfl⟩
  rw [← hn] at l1 ⊢
  have HN := Lib.hid hn
  clear hn
  go_enter Tryz.func98, Tryz.ntmps98
  go_wp2
  go_loopw [8] (fun i wr => ∃ k : Nat, k ≤ n ∧ i = .int .i64 k ∧ Hid (∀ j q, j < k → zs[j]? = some q → p q = false) ∧ Hid (Below w.heap.size w wr)) (fun i wr => n - (intOf i).toNat)
  case atStart => exact ⟨0, by omega, rfl, (by intro j q hj; omega), Below.refl _ _⟩
  case round =>
    obtain ⟨k, hk, rfl, hall, hB⟩ := hrel
    by_cases hlt : k < n
    · obtain ⟨z, ez⟩ : ∃ z, zs[k]? = some z := ⟨_, List.getElem?_eq_getElem (by rw [← HN.out]; exact hlt)⟩
      obtain ⟨b, off, rfl, hb, hpt⟩ := H3.out k z ez
      obtain ⟨d0, d1, d2, d3, d4⟩ := hpt.keep hB.out hb
      clear hpt
      have hmem := List.mem_of_getElem? ez
      have HC := Lib.hid (HT.out wr z hB.out hmem)
      obtain ⟨fa, fn, fc, hform⟩ := (HI.out.2 z hmem).form
      have EZ := Lib.hid ez
      obtain ⟨P0, hP0⟩ : ∃ P0, P0 = p z := ⟨_, rfl⟩
      rw [← hP0] at HC
      have HP0 := Lib.hid hP0
      clear ez hmem hP0
      obtain ⟨⟨⟨hc, hs, hr, hsl⟩, its⟩, iv⟩ := z
      simp only at d0 d1 d2 d3 d4 hform HC
      subst hform
      have s1 := hB.out.size
      cases P0
      · go_wp2_with (go_at_call 62; refine HC.out.mono ?_; rintro e w1 ⟨rfl, hb1⟩)
        go_roundw
        case rel =>
          refine ⟨k + 1, by omega, by go_num, ?_, hB.out.trans (hb1.mono s1)⟩
          intro j q' hj hq
          by_cases hjk : j = k
          · subst hjk; rw [EZ.out] at hq; cases hq; exact HP0.out.symm
          · exact hall.out j q' (by omega) hq
        case measure => simp [intOf]; omega
      · go_wp2_with (go_at_call 62; refine HC.out.mono ?_; rintro e w1 ⟨rfl, hb1⟩)
        go_ret
        refine ⟨ret_int ?_, hB.out.trans (hb1.mono s1)⟩
        rw [firstIdx_drop p zs k 0 hall.out (by rw [← HN.out]; omega)]
        rw [drop_get EZ.out, firstIdx, if_pos HP0.out.symm]; omega
    · go_wp2
      go_ret
      refine ⟨ret_int ?_, hB.out⟩
      rw [firstIdx_drop p zs k 0 hall.out (by rw [← HN.out]; omega), List.drop_eq_nil_of_le (by rw [← HN.out]; omega), firstIdx]

set_option maxHeartbeats 400000 in
theorem containsPt_any (bk bl : Nat) (p : PartP × Value → Bool) {w : World} {v : Value} {zs : List (PartP × Value)} (hi : PS w v zs)
    (ht : ∀ (W : World) (z : PartP × Value), Below w.heap.size w W → z ∈ zs → Calls Tryz.prog 62 #[.agg #[.int .i64 z.1.head.car, .int .i64 z.1.head.siz, .string z.1.head.root, .string z.1.head.sl, z.2], .pointer (some ⟨bk, 0, none⟩), .pointer (some ⟨bl, 0, none⟩)] W fun e w' => e = .returned (.bool (p z)) ∧ Below W.heap.size W w') :
    Calls Tryz.prog 64 #[v, .func (.func 62) #[] #[.pointer (some ⟨bk, 0, none⟩), .pointer (some ⟨bl, 0, none⟩)]] w fun e w' => e = .returned (.bool (zs.any p)) ∧ Below w.heap.size w w' := by
  have hf := firstIdx_neg p zs 0 (by omega)
  have HF := Lib.hid hf
  clear hf
  generalize hi' : firstIdx p zs 0 = i at *
  have hc := indexPt_any bk bl p hi ht
  rw [hi'] at hc
  clear hi'
  have HC := Lib.hid hc
  clear hc hi ht
  go_enter Tryz.func64, Tryz.ntmps64
  go_wp2_with (go_at_call 98; refine HC.out.mono ?_; rintro e w1 ⟨rfl, hb1⟩)
  go_ret
  exact ⟨ret_bool HF.out, hb1⟩
end Go.Proofs.YtinfpbkbnhcifaaGreatDoor
