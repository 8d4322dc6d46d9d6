/- The walk of the law's shown. The conditions: what is known of the slices, the examples' ranges. -/
import Derived.Test.YtinfpbkbnhcifaaGreatDoorP00
import Derived.Test.YtinfpbkbnhcifaaGreatDoorQ28
import Derived.Test.YtinfpbkbnhcifaaGreatDoorQ17
namespace Go.Proofs.YtinfpbkbnhcifaaGreatDoor
open Go.RowKit Go.BigFrame

theorem SliceAt.grownT {w w' : World} {v : Value} {size : Nat} {cs : List (List Value)} {T : TypeId} (h : SliceAt w v size cs) (ht : RowTy w T v) {r : Option Nat} (hg : w.grownBy w' r) (hr : ∀ k, r = some k → ∀ cs fr, w.heap[k]? ≠ some (.cells cs T fr)) : SliceAt w' v size cs ∧ RowTy w' T v := by
  have key : ∀ (a : Addr) (n c : Nat), v = .slice (some a) n c → n = 0 ∨ w'.heap[a.block]? = w.heap[a.block]? := fun a n c e => by
    rcases ht a n c e with h0 | ⟨cs, fr, h0⟩
    · exact .inl h0
    · refine .inr (hg.block _ (Array.getElem?_eq_some_iff.1 h0).1 (fun e' => ?_))
      exact hr _ e'.symm cs fr h0
  refine ⟨?_, fun a n c e => ?_⟩
  · obtain ⟨a, cap, hv, h1, h2, h3⟩ := h
    refine ⟨a, cap, hv, h1, h2, ?_⟩
    rcases h3 with h3 | ⟨b, off, rfl, hb, hc⟩
    · exact .inl h3
    · rcases key _ _ _ hv with h0 | h0
      · exact .inl (List.eq_nil_of_length_eq_zero h0)
      · refine .inr ⟨b, off, rfl, Nat.lt_of_lt_of_le hb hg.size, fun i c hi j u hj => ?_⟩
        have := hc i c hi j u hj
        rw [← this]
        simp [World.cell?, h0]
  · rcases key a n c e with h0 | h0
    · exact .inl h0
    · rcases ht a n c e with h1 | ⟨cs, fr, h1⟩
      · exact .inl h1
      · exact .inr ⟨cs, fr, h0.trans h1⟩
theorem IT.grownT {w w' : World} {v : Value} {its : List ItemP} (h : IT w v its) {b : Nat} {cs : Array Value} {T : TypeId} {fr : Nat × Nat} (hb : w.heap[b]? = some (.cells cs T fr)) (h1 : T ≠ 53) (h2 : T ≠ 9) (hg : w.grownBy w' (some b)) : IT w' v its := by
  obtain ⟨ys, hys, hi⟩ := h
  have n1 : ∀ U, T ≠ U → ∀ k, some b = some k → ∀ cs fr, w.heap[k]? ≠ some (.cells cs U fr) := fun U hU k e cs' fr' e' => by
    cases e
    rw [hb] at e'
    cases e'
    exact hU rfl
  obtain ⟨a1, a2⟩ := SliceAt.grownT hi.is.1 hi.ty hg (n1 _ h1)
  have hp := fun y hy => SliceAt.grownT (hi.is.2 y hy) (hi.tp y hy) hg (n1 _ h2)
  exact ⟨ys, hys, ⟨a1, fun y hy => (hp y hy).1⟩, a2, fun y hy => (hp y hy).2⟩
theorem get_app {α : Type} {ls ms : List α} {i : Nat} {x : α} (h : ls[i]? = some x) : (ls ++ ms)[i]? = some x := by
  have hi := (List.getElem?_eq_some_iff.1 h).1
  rw [List.getElem?_append_left hi]; exact h
theorem get_at {α : Type} (ls ms : List α) (i : Nat) (x : α) (h : ms[i]? = some x) : (ls ++ ms)[ls.length + i]? = some x := by
  rw [List.getElem?_append_right (by omega), Nat.add_sub_cancel_left]; exact h
theorem Know.here {w0 w : World} {ls : List Dat} (k : Know w0 w ls) : Know w w ls := ⟨Below.refl _ _, k.env, k.tab, k.all⟩
theorem key2_is : keyS ((2 : Nat) : Int) = key2 := by rfl

set_option maxHeartbeats 4000000 in
set_option maxRecDepth 100000 in
theorem shown_at {w0 w : World} {ls : List Dat} (k : Know w0 w ls) (i j : Nat) {v vl : Value} {xs : List ByteArray} (hi : ls[i]? = some (.S v xs)) (is : List Nat) (hj : ls[j]? = some (.N vl (is.map fun i : Nat => (i : Int)))) (n : Nat) (hv : validB ⟨2, xs⟩ = true) (hn : n ≤ xs.length) (hp : is.Pairwise (· < ·)) (hl : ∀ i ∈ is, i < n) (hll : is.length ≤ 1000) :
    Calls Tryz.prog 52 #[v, .int .i64 n, vl] w fun e w' => ∃ iv, e = .returned (.tuple #[.agg (pbox (partS key2 2 xs n is) iv), .bool true]) ∧ Know w0 w' (ls ++ [.I iv (partS key2 2 xs n is).items]) := by
  obtain ⟨a, c, rfl⟩ := (k.all i _ hi : SS w v xs).form2
  obtain ⟨al, cl, rfl⟩ := (k.all j _ hj : IL w vl _).form2
  have hx60 : xs.length ≤ 60 := (valid_parts hv).2.2.1
  have K1 := Lib.hid (k.here.box #[.int .i64 0, .int .i64 0, .string ⟨#[]⟩, .string ⟨#[]⟩, .slice none 0 0] 38)
  have HK := Lib.hid k
  have HShow : Hid (∀ (W : World) (ms : List Dat), Know w W (ls ++ ms) → Calls Tryz.prog 18 #[.string key2, .agg #[.int .i64 2, .slice a xs.length c], .int .i64 n, .slice al (is.map fun i : Nat => (i : Int)).length cl] W (GivesP w (ls ++ ms) (partS key2 2 xs n is))) := Lib.hid (fun W ms kk => show_at kk i j (get_app hi) is (get_app hj) key2 2 n key2_size hv hn hp hl hll)
  have HCk := Lib.hid (part_check (key := key2) (car := 2) (xs := xs) (n := n) (is := is) key2_size hv hn hp hl)
  have HFit := Lib.hid (fit_part key2 2 xs n is hll (by omega))
  have HPl := Lib.hid (shown_mem (key := key2) (car := 2) (xs := xs) (n := n) (is := is))
  obtain ⟨P, hP⟩ : ∃ P, P = partS key2 2 xs n is := ⟨_, rfl⟩
  rw [← hP] at HShow HCk HFit HPl ⊢
  have hil : (is.map fun i : Nat => (i : Int)).length = is.length := List.length_map ..
  rw [hil] at HShow ⊢
  clear hP hi hj hv hn hp hl hil k
  generalize is.length = L at *
  generalize xs.length = m at *
  go_enter Tryz.func52, Tryz.ntmps52
  go_wp2_with fail
  refine (show Calls Tryz.prog 15 #[.int .i64 2] _ _ from key_at K1.out 2 (by omega)).mono ?_
  rintro e w2 ⟨rfl, k2⟩
  rw [key2_is]
  have K2 := Lib.hid k2
  clear k2
  go_wp2_with fail
  refine (HShow.out _ _ K2.out).mono ?_
  rintro e w3 ⟨iv, rfl, k3⟩
  obtain ⟨ia, ic, rfl⟩ := (k3.all _ (.I iv P.items) (List.getElem?_concat_length ..) : IT w3 iv P.items).form2
  have K3 := Lib.hid k3
  rw [HPl.out] at K3 ⊢
  have HB3 : Hid (w3.heap[w.heap.size]? = some (.cells #[.int .i64 0, .int .i64 0, .string ⟨#[]⟩, .string ⟨#[]⟩, .slice none 0 0] 38 (0, 0))) := Lib.hid (k3.all ls.length (.B w.heap.size #[.int .i64 0, .int .i64 0, .string ⟨#[]⟩, .string ⟨#[]⟩, .slice none 0 0] 38) (by simp))
  clear k3 HShow
  obtain ⟨⟨hc, hs, hr, hsl⟩, its⟩ := P
  unfold pbox at *
  simp only at HCk HFit HPl K3 ⊢
  go_wp2_with fail
  have K4 := Lib.hid (K3.out.box #[.int .i64 hc, .int .i64 hs, .string hr, .string hsl, .slice ia L ic] 38)
  have HB4 := Lib.hid (alloc_at (o' := .cells #[.int .i64 hc, .int .i64 hs, .string hr, .string hsl, .slice ia L ic] 38) HB3.out)
  obtain ⟨W4, hW4⟩ : ∃ W4, W4 = w3.alloc (.cells #[.int .i64 hc, .int .i64 hs, .string hr, .string hsl, .slice ia L ic] 38) := ⟨_, rfl⟩
  rw [← hW4] at K4 HB4 ⊢
  have HX4 : Hid (W4.heap[w3.heap.size]? = some (.cells #[.int .i64 hc, .int .i64 hs, .string hr, .string hsl, .slice ia L ic] 38 (0, 0))) := Lib.hid (by rw [hW4]; exact heap_alloc_new w3 _)
  have hq : w.heap.size < w3.heap.size := (Array.getElem?_eq_some_iff.1 HB3.out).1
  clear hW4 K1 K2 K3 HB3
  generalize w3.heap.size = q at *
  have HCkx := Lib.hid (check_at (key := key2) (p := ⟨⟨hc, hs, hr, hsl⟩, its⟩) (iv := .slice ia L ic) K4.out.drew (ls.length + 1) (by simp) (by decide) HFit.out true HCk.out)
  unfold pbox at HCkx
  simp only at HCkx
  refine wp_region_noPanic ?_
  refine wp_region_lex [6, 16] (fun w' => w'.cell? ⟨q, 0, none⟩ = some (.int .i64 hc) ∧ w'.cell? ⟨q, 1, none⟩ = some (.int .i64 hs) ∧ w'.cell? ⟨q, 2, none⟩ = some (.string hr) ∧ w'.cell? ⟨q, 3, none⟩ = some (.string hsl) ∧ w'.cell? ⟨q, 4, none⟩ = some (.slice ia L ic)) (by kernel_rfl) (by kernel_rfl) (fun _ _ _ _ _ h => h) ⟨cell_of_row W4 _ 0 _ _ _ HX4.out, cell_of_row W4 _ 1 _ _ _ HX4.out, cell_of_row W4 _ 2 _ _ _ HX4.out, cell_of_row W4 _ 3 _ _ _ HX4.out, cell_of_row W4 _ 4 _ _ _ HX4.out⟩ ?_
  refine wpLex_take (v := ?_) (by rfl) (Or.inl ⟨by rfl, ?_⟩) ?_
  rotate_left
  · intro w hSw; (try dsimp only at hSw); go_simp; try with_reducible rfl
  simp only [Act.put, List.setIfInBounds_toArray, List.set_cons_zero, List.set_cons_succ]
  refine wpLex_take (v := ?_) (by rfl) (Or.inl ⟨by rfl, ?_⟩) ?_
  rotate_left
  · intro w hSw; (try dsimp only at hSw); go_simp; try with_reducible rfl
  simp only [Act.put, List.setIfInBounds_toArray, List.set_cons_zero, List.set_cons_succ]
  refine wpLex_take (v := ?_) (by rfl) (Or.inl ⟨by rfl, ?_⟩) ?_
  rotate_left
  · intro w hSw; (try dsimp only at hSw); go_simp; try with_reducible rfl
  simp only [Act.put, List.setIfInBounds_toArray, List.set_cons_zero, List.set_cons_succ]
  refine wpLex_take (v := ?_) (by rfl) (Or.inl ⟨by rfl, ?_⟩) ?_
  rotate_left
  · intro w hSw; (try dsimp only at hSw); go_simp; try with_reducible rfl
  simp only [Act.put, List.setIfInBounds_toArray, List.set_cons_zero, List.set_cons_succ]
  refine wpLex_take (v := ?_) (by rfl) (Or.inl ⟨by rfl, ?_⟩) ?_
  rotate_left
  · intro w hSw; (try dsimp only at hSw); go_simp; try with_reducible rfl
  simp only [Act.put, List.setIfInBounds_toArray, List.set_cons_zero, List.set_cons_succ]
  refine wpLex_take (v := ?_) (by rfl) (Or.inl ⟨by rfl, ?_⟩) ?_
  rotate_left
  · intro w hSw; (try dsimp only at hSw); go_simp; try with_reducible rfl
  simp only [Act.put, List.setIfInBounds_toArray, List.set_cons_zero, List.set_cons_succ]
  refine wpLex_big (by rfl) rfl (fun K hK => ?_)
  go_simp
  go_at_call 24
  with_reducible refine HCkx.out.mono ?_
  rintro e w5 ⟨rfl, k5⟩
  have K5 := Lib.hid k5
  have HX5 : Hid (w5.heap[q]? = some (.cells #[.int .i64 hc, .int .i64 hs, .string hr, .string hsl, .slice ia L ic] 38 (0, 0))) := Lib.hid (k5.all (ls.length + 2) (.B q #[.int .i64 hc, .int .i64 hs, .string hr, .string hsl, .slice ia L ic] 38) (by rw [List.append_assoc, List.append_assoc]; exact get_at _ _ 2 _ rfl))
  have HB5 : Hid (w5.heap[w.heap.size]? = some (.cells #[.int .i64 0, .int .i64 0, .string ⟨#[]⟩, .string ⟨#[]⟩, .slice none 0 0] 38 (0, 0))) := Lib.hid (k5.all ls.length (.B w.heap.size #[.int .i64 0, .int .i64 0, .string ⟨#[]⟩, .string ⟨#[]⟩, .slice none 0 0] 38) (by simp))
  have HI5 : Hid (IT w5 (.slice ia L ic) its) := Lib.hid (k5.all (ls.length + 1) (.I (.slice ia L ic) its) (by rw [List.append_assoc, List.append_assoc]; exact get_at _ _ 1 _ rfl))
  clear k5
  have s0 := cell_of_row w5 q 0 _ _ _ HX5.out
  have s1 := cell_of_row w5 q 1 _ _ _ HX5.out
  have s2 := cell_of_row w5 q 2 _ _ _ HX5.out
  have s3 := cell_of_row w5 q 3 _ _ _ HX5.out
  have s4 := cell_of_row w5 q 4 _ _ _ HX5.out
  refine hK.out _ _ ⟨s0, s1, s2, s3, s4⟩ (fun _ => ?_)
  clear hK K
  refine wpLex_take (v := ?_) (by rfl) (Or.inl ⟨by rfl, ?_⟩) ?_
  rotate_left
  · intro w hSw; (try dsimp only at hSw); go_simp; try with_reducible rfl
  simp only [Act.put, List.setIfInBounds_toArray, List.set_cons_zero, List.set_cons_succ]
  refine wpLex_take (v := ?_) (by rfl) (Or.inl ⟨by rfl, ?_⟩) ?_
  rotate_left
  · intro w hSw; (try dsimp only at hSw); go_simp; try with_reducible rfl
  simp only [Act.put, List.setIfInBounds_toArray, List.set_cons_zero, List.set_cons_succ]
  refine wpLex_take (v := ?_) (by rfl) (Or.inl ⟨by rfl, ?_⟩) ?_
  rotate_left
  · intro w hSw; (try dsimp only at hSw); go_simp; try with_reducible rfl
  simp only [Act.put, List.setIfInBounds_toArray, List.set_cons_zero, List.set_cons_succ]
  refine wpLex_take (v := ?_) (by rfl) (Or.inl ⟨by rfl, ?_⟩) ?_
  rotate_left
  · intro w hSw; (try dsimp only at hSw); go_simp; try with_reducible rfl
  simp only [Act.put, List.setIfInBounds_toArray, List.set_cons_zero, List.set_cons_succ]
  refine wpLex_take (v := ?_) (by rfl) (Or.inl ⟨by rfl, ?_⟩) ?_
  rotate_left
  · intro w hSw; (try dsimp only at hSw); go_simp; try with_reducible rfl
  simp only [Act.put, List.setIfInBounds_toArray, List.set_cons_zero, List.set_cons_succ]
  refine wpLex_take (v := ?_) (by rfl) (Or.inl ⟨by rfl, ?_⟩) ?_
  rotate_left
  · intro w hSw; (try dsimp only at hSw); go_simp; try with_reducible rfl
  simp only [Act.put, List.setIfInBounds_toArray, List.set_cons_zero, List.set_cons_succ]
  refine wpLex_take (v := ?_) (by rfl) (Or.inl ⟨by rfl, ?_⟩) ?_
  rotate_left
  · intro w hSw; (try dsimp only at hSw); go_simp; try with_reducible rfl
  simp only [Act.put, List.setIfInBounds_toArray, List.set_cons_zero, List.set_cons_succ]
  refine wpLex_take (v := ?_) (by rfl) (Or.inl ⟨by rfl, ?_⟩) ?_
  rotate_left
  · intro w hSw; (try dsimp only at hSw); go_simp; try with_reducible rfl
  simp only [Act.put, List.setIfInBounds_toArray, List.set_cons_zero, List.set_cons_succ]
  refine wpLex_take (v := ?_) (by rfl) (Or.inl ⟨by rfl, ?_⟩) ?_
  rotate_left
  · intro w hSw; (try dsimp only at hSw); go_simp; try with_reducible rfl
  simp only [Act.put, List.setIfInBounds_toArray, List.set_cons_zero, List.set_cons_succ]
  have z0 : w5.cell? ⟨w.heap.size, 0, none⟩ = some (.int .i64 0) := cell_of_row w5 _ 0 _ _ _ HB5.out
  have z1 : w5.cell? ⟨w.heap.size, 1, none⟩ = some (.int .i64 0) := cell_of_row w5 _ 1 _ _ _ HB5.out
  have z2 : w5.cell? ⟨w.heap.size, 2, none⟩ = some (.string ⟨#[]⟩) := cell_of_row w5 _ 2 _ _ _ HB5.out
  have z3 : w5.cell? ⟨w.heap.size, 3, none⟩ = some (.string ⟨#[]⟩) := cell_of_row w5 _ 3 _ _ _ HB5.out
  have z4 : w5.cell? ⟨w.heap.size, 4, none⟩ = some (.slice none 0 0) := cell_of_row w5 _ 4 _ _ _ HB5.out
  have zf : ∀ j, w5.frozen? ⟨w.heap.size, j, none⟩ = false := fun j => by unfold World.frozen?; rw [HB5.out]; simp
  refine wpLex_big (by rfl) rfl (fun K hK => ?_)
  go_simp
  have HG := Lib.hid (five_grown w5 w.heap.size (.int .i64 hc) (.int .i64 hs) (.string hr) (.string hsl) (.slice ia L ic))
  have HF := Lib.hid (five_heap HB5.out (.int .i64 hc) (.int .i64 hs) (.string hr) (.string hsl) (.slice ia L ic))
  have HBl := Lib.hid (five_below K5.out.below (Nat.le_refl _) (.int .i64 hc) (.int .i64 hs) (.string hr) (.string hsl) (.slice ia L ic))
  generalize (((((w5.setCell ⟨w.heap.size, 0, none⟩ (.int .i64 hc)).setCell ⟨w.heap.size, 1, none⟩ (.int .i64 hs)).setCell ⟨w.heap.size, 2, none⟩ (.string hr)).setCell ⟨w.heap.size, 3, none⟩ (.string hsl)).setCell ⟨w.heap.size, 4, none⟩ (.slice ia L ic)) = w6 at HG HF HBl ⊢
  have HQ : w6.heap[q]? = some (.cells #[.int .i64 hc, .int .i64 hs, .string hr, .string hsl, .slice ia L ic] 38 (0, 0)) := (HG.out.block q (Array.getElem?_eq_some_iff.1 HX5.out).1 (fun e => by cases e; omega)).trans HX5.out
  refine hK.out _ _ ⟨cell_of_row w6 _ 0 _ _ _ HQ, cell_of_row w6 _ 1 _ _ _ HQ, cell_of_row w6 _ 2 _ _ _ HQ, cell_of_row w6 _ 3 _ _ _ HQ, cell_of_row w6 _ 4 _ _ _ HQ⟩ (fun _ => ?_)
  clear hK K
  refine wpLex_take (v := ?_) (by rfl) (Or.inl ⟨by rfl, ?_⟩) ?_
  rotate_left
  · intro w hSw; (try dsimp only at hSw); go_simp; try with_reducible rfl
  simp only [Act.put, List.setIfInBounds_toArray, List.set_cons_zero, List.set_cons_succ]
  refine wpLex_nil ?_
  refine NoPanic.normal ?_
  go_wp2
  refine bodyPost_ret (results_cellA_tmp rfl _ w.heap.size 38 #[.int .i64 hc, .int .i64 hs, .string hr, .string hsl, .slice ia L ic] (0, 0) _ rfl HF.out Tryz.underlying38 rfl infoPart) rfl ⟨.slice ia L ic, ?_, ?_⟩
  · rfl
  · exact (HK.out.step HBl.out).put (IT.grownT HI5.out HB5.out (by decide) (by decide) HG.out)
end Go.Proofs.YtinfpbkbnhcifaaGreatDoor

/- What a law's walk keeps, grown by slices that are written out; a pair of items opened. No condition. -/
namespace Go.Proofs.YtinfpbkbnhcifaaGreatDoor
open Go.RowKit Go.BigFrame

section
variable {w0 w : World} {ls : List Dat}
theorem Know.strs (k : Know w0 w ls) (T : TypeId) (xs : List ByteArray) {cs : Array Value} (n : Nat) (hc : cs = (xs.map Value.string).toArray) (hn : n = xs.length) (hm : xs.length ≤ 1000) : Know w0 (w.alloc (.cells cs T)) (ls ++ [.S (.slice (some ⟨w.heap.size, 0, none⟩) n n) xs]) :=
  (k.alloc _).put (d := .S _ xs) (SS.lit xs (by rw [heap_alloc_new, hc]) hn hm)
theorem Know.ints (k : Know w0 w ls) (T : TypeId) (xs : List Int) {cs : Array Value} (n : Nat) (hc : cs = (xs.map (Value.int .i64)).toArray) (hn : n = xs.length) (hm : xs.length ≤ 1000) : Know w0 (w.alloc (.cells cs T)) (ls ++ [.N (.slice (some ⟨w.heap.size, 0, none⟩) n n) xs]) :=
  (k.alloc _).put (d := .N _ xs) (IL.lit xs (by rw [heap_alloc_new, hc]) hn hm)
theorem Know.parts (k : Know w0 w ls) (T : TypeId) (zs : List (PartP × Value)) {cs : Array Value} (n : Nat) (hc : cs = (ptcells zs).flatten.toArray) (hn : n = zs.length) (hm : zs.length ≤ 1000) (hz : ∀ z ∈ zs, ∃ i : Nat, ls[i]? = some (Dat.I z.2 z.1.items)) : Know w0 (w.alloc (.cells cs T)) (ls ++ [.P (.slice (some ⟨w.heap.size, 0, none⟩) n n) (zs.map (·.1))]) := by
  refine (k.alloc _).put (d := .P _ (zs.map (·.1))) ⟨zs, rfl, ?_, fun z hz' => ?_⟩
  · refine slice_lit (cs := ptcells zs) (T := T) (by rw [heap_alloc_new, hc]) (fun c hc' => ?_) (by unfold ptcells; rw [List.length_map]; exact hn) (by unfold ptcells; rw [List.length_map]; exact hm)
    unfold ptcells at hc'
    obtain ⟨z, _, rfl⟩ := List.mem_map.1 hc'
    rfl
  · obtain ⟨i, hi⟩ := hz z hz'
    exact (k.alloc (.cells cs T)).all i _ hi
theorem Know.five (k : Know w0 w ls) {i b : Nat} {c0 c1 c2 c3 c4 : Value} {T : TypeId} (hi : ls[i]? = some (.B b #[c0, c1, c2, c3, c4] T)) :
    w.cell? ⟨b, 0, none⟩ = some c0 ∧ w.cell? ⟨b, 1, none⟩ = some c1 ∧ w.cell? ⟨b, 2, none⟩ = some c2 ∧ w.cell? ⟨b, 3, none⟩ = some c3 ∧ w.cell? ⟨b, 4, none⟩ = some c4 := by
  have h : w.heap[b]? = some (.cells #[c0, c1, c2, c3, c4] T (0, 0)) := k.all i _ hi
  exact ⟨cell_of_row w _ 0 _ _ _ h, cell_of_row w _ 1 _ _ _ h, cell_of_row w _ 2 _ _ _ h, cell_of_row w _ 3 _ _ _ h, cell_of_row w _ 4 _ _ _ h⟩
theorem Know.duo (k : Know w0 w ls) {i b : Nat} {c0 c1 : Value} {T : TypeId} (hi : ls[i]? = some (.B b #[c0, c1] T)) :
    w.cell? ⟨b, 0, none⟩ = some c0 ∧ w.cell? ⟨b, 1, none⟩ = some c1 := by
  have h : w.heap[b]? = some (.cells #[c0, c1] T (0, 0)) := k.all i _ hi
  exact ⟨cell_of_row w _ 0 _ _ _ h, cell_of_row w _ 1 _ _ _ h⟩
def PairAt2 (w : World) (b o : Nat) (x y : ItemP) (v u : Value) : Prop :=
  b < w.heap.size ∧ w.cell? ⟨b, o, none⟩ = some (.int .i64 x.idx) ∧ w.cell? ⟨b, o + 1, none⟩ = some (.string x.ent) ∧ w.cell? ⟨b, o + 2, none⟩ = some v ∧ w.cell? ⟨b, o + 3, none⟩ = some (.int .i64 y.idx) ∧ w.cell? ⟨b, o + 4, none⟩ = some (.string y.ent) ∧ w.cell? ⟨b, o + 5, none⟩ = some u
theorem Know.pair (k : Know w0 w ls) {i : Nat} {iv : Value} {x y : ItemP} (hi : ls[i]? = some (.I iv [x, y])) :
    ∃ b o c v u, iv = .slice (some ⟨b, o, none⟩) 2 c ∧ ISt w iv [(x, v), (y, u)] ∧ PairAt2 w b o x y v u := by
  obtain ⟨ys, hys, h⟩ := (k.all i _ hi : IT w iv [x, y])
  match ys, hys with
  | [(x', v), (y', u)], hys =>
    simp at hys
    obtain ⟨rfl, rfl⟩ := hys
    obtain ⟨a, c, h1, _, _, h2⟩ := h.is.opened
    obtain ⟨b, o, rfl, hb, e1, e2, e3⟩ := h2 0 _ rfl
    obtain ⟨b', o', e, _, f1, f2, f3⟩ := h2 1 _ rfl
    cases e
    refine ⟨b, o, c, v, u, h1, h, hb, ?_, ?_, ?_, ?_, ?_, ?_⟩
    · simpa using e1
    · simpa using e2
    · simpa using e3
    · simpa using f1
    · simpa using f2
    · simpa using f3
theorem IT.two {W : World} {iv : Value} {x y : ItemP} {v u : Value} (h : ISt W iv [(x, v), (y, u)]) (x' y' : ItemP) (hx : x'.prf = x.prf) (hy : y'.prf = y.prf) {b : Nat} {fr : Nat × Nat} (hb : W.heap[b]? = some (.cells #[.int .i64 x'.idx, .string x'.ent, v, .int .i64 y'.idx, .string y'.ent, u] 53 fr)) : IT W (.slice (some ⟨b, 0, none⟩) 2 2) [x', y'] := by
  refine ⟨[(x', v), (y', u)], rfl, ⟨slice_lit (cs := itcells [(x', v), (y', u)]) (T := 53) (fz := fr) hb (fun c hc => ?_) rfl (by simp [itcells]), fun z hz => ?_⟩, fun a n c e => ?_, fun z hz => ?_⟩
  · unfold itcells at hc
    obtain ⟨z, _, rfl⟩ := List.mem_map.1 hc
    rfl
  · simp at hz
    rcases hz with rfl | rfl
    · show SS W v x'.prf
      rw [hx]; exact h.is.2 (x, v) (by simp)
    · show SS W u y'.prf
      rw [hy]; exact h.is.2 (y, u) (by simp)
  · cases e
    exact .inr ⟨_, _, hb⟩
  · simp at hz
    rcases hz with rfl | rfl
    · exact h.tp (x, v) (by simp)
    · exact h.tp (y, u) (by simp)
theorem Know.newPart1 (k : Know w0 w ls) {iv : Value} {x y : ItemP} {v u : Value} (h : ISt w iv [(x, v), (y, u)]) (x' y' : ItemP) (hx : x'.prf = x.prf) (hy : y'.prf = y.prf) (c0 c1 c2 c3 : Value) :
    Know w0 ((w.alloc (.cells #[.int .i64 x'.idx, .string x'.ent, v, .int .i64 y'.idx, .string y'.ent, u] 53)).alloc (.cells #[c0, c1, c2, c3, .slice (some ⟨w.heap.size, 0, none⟩) 2 2] 38)).drew (ls ++ [.I (.slice (some ⟨w.heap.size, 0, none⟩) 2 2) [x', y']] ++ [.B (w.heap.size + 1) #[c0, c1, c2, c3, .slice (some ⟨w.heap.size, 0, none⟩) 2 2] 38]) := by
  have k1 := (k.alloc (.cells #[.int .i64 x'.idx, .string x'.ent, v, .int .i64 y'.idx, .string y'.ent, u] 53)).put (d := .I (.slice (some ⟨w.heap.size, 0, none⟩) 2 2) [x', y']) (IT.two (h.below ((Below.refl _ _).alloc (Nat.le_refl _) _)) x' y' hx hy (heap_alloc_new w _))
  have k2 := k1.box #[c0, c1, c2, c3, .slice (some ⟨w.heap.size, 0, none⟩) 2 2] 38
  have e : (w.alloc (.cells #[.int .i64 x'.idx, .string x'.ent, v, .int .i64 y'.idx, .string y'.ent, u] 53)).heap.size = w.heap.size + 1 := by simp
  rw [e] at k2
  exact k2.drew
theorem Know.newPart2 (k : Know w0 w ls) {iv : Value} {x y : ItemP} {v u : Value} (h : ISt w iv [(x, v), (y, u)]) (x' y' : ItemP) (hx : x'.prf = x.prf) (hy : y'.prf = y.prf) (c0 c1 c2 c3 : Value) :
    Know w0 ((w.alloc (.cells #[c0, c1, c2, c3, .slice (some ⟨w.heap.size + 1, 0, none⟩) 2 2] 38)).alloc (.cells #[.int .i64 x'.idx, .string x'.ent, v, .int .i64 y'.idx, .string y'.ent, u] 53)).drew (ls ++ [.I (.slice (some ⟨w.heap.size + 1, 0, none⟩) 2 2) [x', y']] ++ [.B w.heap.size #[c0, c1, c2, c3, .slice (some ⟨w.heap.size + 1, 0, none⟩) 2 2] 38]) := by
  have b1 : Below w.heap.size w (w.alloc (.cells #[c0, c1, c2, c3, .slice (some ⟨w.heap.size + 1, 0, none⟩) 2 2] 38)) := (Below.refl _ _).alloc (Nat.le_refl _) _
  have e : (w.alloc (.cells #[c0, c1, c2, c3, .slice (some ⟨w.heap.size + 1, 0, none⟩) 2 2] 38)).heap.size = w.heap.size + 1 := by simp
  have hB : (w.alloc (.cells #[c0, c1, c2, c3, .slice (some ⟨w.heap.size + 1, 0, none⟩) 2 2] 38)).heap[w.heap.size]? = some (.cells #[c0, c1, c2, c3, .slice (some ⟨w.heap.size + 1, 0, none⟩) 2 2] 38 (0, 0)) := heap_alloc_new w _
  have k1 := k.alloc (.cells #[c0, c1, c2, c3, .slice (some ⟨w.heap.size + 1, 0, none⟩) 2 2] 38)
  generalize w.alloc (.cells #[c0, c1, c2, c3, .slice (some ⟨w.heap.size + 1, 0, none⟩) 2 2] 38) = w1 at *
  have k2 := (k1.alloc (.cells #[.int .i64 x'.idx, .string x'.ent, v, .int .i64 y'.idx, .string y'.ent, u] 53)).put (d := .I (.slice (some ⟨w1.heap.size, 0, none⟩) 2 2) [x', y']) (IT.two ((h.below b1).below ((Below.refl _ _).alloc (Nat.le_refl _) _)) x' y' hx hy (heap_alloc_new w1 _))
  rw [e] at k2
  exact (k2.put (d := .B w.heap.size #[c0, c1, c2, c3, .slice (some ⟨w.heap.size + 1, 0, none⟩) 2 2] 38) (alloc_at hB)).drew
end
theorem get_new {α : Type} {ls : List α} {x : α} : (ls ++ [x])[ls.length]? = some x := by simp
end Go.Proofs.YtinfpbkbnhcifaaGreatDoor

/- The facts of the examples with which each statement of the register layer begins, with the examples' parts behind letters. Conditions: none besides those of shown. -/
namespace Go.Proofs.YtinfpbkbnhcifaaGreatDoor
open Go.RowKit Go.BigFrame

def Shows (X : PartP) (xs : List ByteArray) (n : Nat) (l : List Int) : Prop :=
  ∀ {w W : World} {ls : List Dat} (_ : Know w W ls) (i j : Nat) {v vl : Value}, ls[i]? = some (Dat.S v xs) → ls[j]? = some (Dat.N vl l) → Calls Tryz.prog 52 #[v, .int .i64 n, vl] W fun e w' => ∃ iv, e = .returned (.tuple #[.agg (pbox X iv), .bool true]) ∧ Know w w' (ls ++ [.I iv X.items])
theorem shows_part (xs : List ByteArray) (is : List Nat) (n : Nat) (hv : validB ⟨2, xs⟩ = true) (hn : n ≤ xs.length) (hp : is.Pairwise (· < ·)) (hl : ∀ i ∈ is, i < n) (hll : is.length ≤ 1000) (l : List Int) (hll' : l = is.map fun i : Nat => (i : Int)) : Shows (partS key2 2 xs n is) xs n l := by
  subst hll'
  exact fun k i j _ _ hi hj => shown_at k i j hi is hj n hv hn hp hl hll

structure Facts (P F S A B Wh E : PartP) (x0 x1 : ItemP) (g1 g2 g3 : List ByteArray) : Prop where
  hP : P.items = [x0, x1]
  fP : FitOne P
  fF : FitOne F
  fS : FitOne S
  fA : FitOne A
  fB : FitOne B
  fWh : FitOne Wh
  fE : FitOne E
  shP : Shows P oneL 3 [0, 2]
  shF : Shows F oneL 2 [1]
  shS : Shows S twoL 3 [1]
  shA : Shows A oneL 2 [0]
  shB : Shows B twoL 3 [0]
  shWh : Shows Wh oneL 3 [0]
  shE : Shows E oneL 1 [0]
  l1 : g1.length ≤ 1000
  l2 : g2.length ≤ 1000
  l3 : g3.length ≤ 1000
  bad : checkB key2 ⟨P.head, [x0, ⟨2, sD, x1.prf⟩]⟩ = false
  fbad : FitOne ⟨P.head, [x0, ⟨2, sD, x1.prf⟩]⟩
  e1 : extendsB key2 E.head P.head g1 = true
  e2 : extendsB key2 E.head S.head g2 = true
  e3 : extendsB key2 F.head S.head g3 = false
  c1 : convictsB key2 F S = true
  c2 : convictsB key2 A B = false
  c3 : convictsB key2 Wh B = true
  c4 : convictsB key2 P F = false
  n1 : genuineB key2 P.head = true
  n2 : genuineB key3 P.head = false
  j1 : joinR key2 [E, P] = some ([⟨0, sA, []⟩, ⟨2, sC, []⟩], -1, -1)
  j2 : joinR key2 [E, F, S] = some ([], 1, 2)
  r1 : grownB ⟨2, oneL⟩ 1 3 = some g1
  r2 : grownB ⟨2, twoL⟩ 1 3 = some g2
  r3 : grownB ⟨2, twoL⟩ 2 3 = some g3
theorem facts_are : Facts pP firstP secondP aP bP wholeP earlyP (idxItem oneL 3 0) (idxItem oneL 3 2) gOne gTwo gWrong where
  hP := rfl
  fP := fit_part key2 2 oneL 3 [0, 2] (by decide) (by decide)
  fF := fit_part key2 2 oneL 2 [1] (by decide) (by decide)
  fS := fit_part key2 2 twoL 3 [1] (by decide) (by decide)
  fA := fit_part key2 2 oneL 2 [0] (by decide) (by decide)
  fB := fit_part key2 2 twoL 3 [0] (by decide) (by decide)
  fWh := fit_part key2 2 oneL 3 [0] (by decide) (by decide)
  fE := fit_part key2 2 oneL 1 [0] (by decide) (by decide)
  shP := shows_part oneL [0, 2] 3 one_valid (by decide) (by decide) (by decide) (by decide) _ rfl
  shF := shows_part oneL [1] 2 one_valid (by decide) (by decide) (by decide) (by decide) _ rfl
  shS := shows_part twoL [1] 3 two_valid (by decide) (by decide) (by decide) (by decide) _ rfl
  shA := shows_part oneL [0] 2 one_valid (by decide) (by decide) (by decide) (by decide) _ rfl
  shB := shows_part twoL [0] 3 two_valid (by decide) (by decide) (by decide) (by decide) _ rfl
  shWh := shows_part oneL [0] 3 one_valid (by decide) (by decide) (by decide) (by decide) _ rfl
  shE := shows_part oneL [0] 1 one_valid (by decide) (by decide) (by decide) (by decide) _ rfl
  l1 := by unfold gOne; rw [List.length_reverse]; decide +kernel
  l2 := by unfold gTwo; rw [List.length_reverse]; decide +kernel
  l3 := by unfold gWrong; rw [List.length_reverse]; decide +kernel
  bad := s_bad
  fbad := by
    have h := fit_part key2 2 oneL 3 [0, 2] (by decide) (by decide)
    obtain ⟨h1, h2, h3⟩ := h
    refine ⟨h1, by decide, fun x hx => ?_⟩
    simp at hx
    rcases hx with rfl | rfl
    · exact h3 (idxItem oneL 3 0) (List.mem_cons_self ..)
    · exact h3 (idxItem oneL 3 2) (List.mem_cons_of_mem _ (List.mem_cons_self ..))
  e1 := s_ext1
  e2 := s_ext2
  e3 := s_ext3
  c1 := s_conv1
  c2 := s_conv2
  c3 := s_conv3
  c4 := s_conv4
  n1 := s_gen1
  n2 := s_gen2
  j1 := s_join1
  j2 := s_join2
  r1 := s_grown1
  r2 := s_grown2
  r3 := s_grown3
end Go.Proofs.YtinfpbkbnhcifaaGreatDoor
