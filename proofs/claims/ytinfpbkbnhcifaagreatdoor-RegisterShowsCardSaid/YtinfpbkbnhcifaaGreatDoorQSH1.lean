/- The walk of the law's shown. The conditions: what is known of the slices, the examples' ranges. -/
import Derived.Test.YtinfpbkbnhcifaaGreatDoorQRK
import Derived.Test.YtinfpbkbnhcifaaGreatDoorQRSan
import Derived.Test.YtinfpbkbnhcifaaGreatDoorQLexO
namespace Go.Proofs.YtinfpbkbnhcifaaGreatDoor
open Go.RowKit Go.BigFrame

/-- A typed slice is kept when a row of another type is written. -/
theorem SliceAt.grownT {w w' : World} {v : Value} {size : Nat} {cs : List (List Value)} {T : TypeId} (h : SliceAt w v size cs) (ht : RowTy w T v) {r : Option Nat} (hg : w.grownBy w' r) (hr : ∀ k, r = some k → ∀ cs fr, w.heap[k]? ≠ some (.cells cs T fr)) : SliceAt w' v size cs ∧ RowTy w' T v := by
  have key : ∀ (a : Addr) (n c : Nat), v = .slice (some a) n c → n = 0 ∨ w'.heap[a.block]? = w.heap[a.block]? := fun a n c e => by
    rcases ht a n c e with h0 | ⟨cs, fr, h0⟩
    · exact .inl h0
    · refine .inr (hg.block _ (Array.getElem?_eq_some_iff.1 h0).1 (fun e' => ?_))
      exact hr _ e'.symm cs fr h0
  refine ⟨?_, fun a n c e => ?_⟩
  · obtain ⟨a, cap, hv, h1, h2, h3⟩ := h
    refine ⟨a, cap, hv, h1, h2, ?_⟩
    rcases h3 with h3 | ⟨b, off, rfl, hb, hc⟩
    · exact .inl h3
    · rcases key _ _ _ hv with h0 | h0
      · exact .inl (List.eq_nil_of_length_eq_zero h0)
      · refine .inr ⟨b, off, rfl, Nat.lt_of_lt_of_le hb hg.size, fun i c hi j u hj => ?_⟩
        have := hc i c hi j u hj
        rw [← this]
        simp [World.cell?, h0]
  · rcases key a n c e with h0 | h0
    · exact .inl h0
    · rcases ht a n c e with h1 | ⟨cs, fr, h1⟩
      · exact .inl h1
      · exact .inr ⟨cs, fr, h0.trans h1⟩
theorem IT.grownT {w w' : World} {v : Value} {its : List ItemP} (h : IT w v its) {b : Nat} {cs : Array Value} {T : TypeId} {fr : Nat × Nat} (hb : w.heap[b]? = some (.cells cs T fr)) (h1 : T ≠ 53) (h2 : T ≠ 9) (hg : w.grownBy w' (some b)) : IT w' v its := by
  obtain ⟨ys, hys, hi⟩ := h
  have n1 : ∀ U, T ≠ U → ∀ k, some b = some k → ∀ cs fr, w.heap[k]? ≠ some (.cells cs U fr) := fun U hU k e cs' fr' e' => by
    cases e
    rw [hb] at e'
    cases e'
    exact hU rfl
  obtain ⟨a1, a2⟩ := SliceAt.grownT hi.is.1 hi.ty hg (n1 _ h1)
  have hp := fun y hy => SliceAt.grownT (hi.is.2 y hy) (hi.tp y hy) hg (n1 _ h2)
  exact ⟨ys, hys, ⟨a1, fun y hy => (hp y hy).1⟩, a2, fun y hy => (hp y hy).2⟩
theorem get_app {α : Type} {ls ms : List α} {i : Nat} {x : α} (h : ls[i]? = some x) : (ls ++ ms)[i]? = some x := by
  have hi := (List.getElem?_eq_some_iff.1 h).1
  rw [List.getElem?_append_left hi]; exact h
theorem get_at {α : Type} (ls ms : List α) (i : Nat) (x : α) (h : ms[i]? = some x) : (ls ++ ms)[ls.length + i]? = some x := by
  rw [List.getElem?_append_right (by omega), Nat.add_sub_cancel_left]; exact h
theorem Know.here {w0 w : World} {ls : List Dat} (k : Know w0 w ls) : Know w w ls := ⟨Below.refl _ _, k.env, k.tab, k.all⟩
theorem key2_is : keyS ((2 : Nat) : Int) = key2 := by rfl

set_option maxHeartbeats 4000000 in
set_option maxRecDepth 100000 in
theorem shown_at {w0 w : World} {ls : List Dat} (k : Know w0 w ls) (i j : Nat) {v vl : Value} {xs : List ByteArray} (hi : ls[i]? = some (.S v xs)) (is : List Nat) (hj : ls[j]? = some (.N vl (is.map fun i : Nat => (i : Int)))) (n : Nat) (hv : validB ⟨2, xs⟩ = true) (hn : n ≤ xs.length) (hp : is.Pairwise (· < ·)) (hl : ∀ i ∈ is, i < n) (hll : is.length ≤ 1000) :
    Calls Tryz.prog 52 #[v, .int .i64 n, vl] w fun e w' => ∃ iv, e = .returned (.tuple #[.agg (pbox (partS key2 2 xs n is) iv), .bool true]) ∧ Know w0 w' (ls ++ [.I iv (partS key2 2 xs n is).items]) := by
  obtain ⟨a, c, rfl⟩ := (k.all i _ hi : SS w v xs).form2
  obtain ⟨al, cl, rfl⟩ := (k.all j _ hj : IL w vl _).form2
  have hx60 : xs.length ≤ 60 := (valid_parts hv).2.2.1
  have K1 := Lib.hid (k.here.box #[.int .i64 0, .int .i64 0, .string ⟨#[]⟩, .string ⟨#[]⟩, .slice none 0 0] 38)
  have HK := Lib.hid k
  have HShow : Hid (∀ (W : World) (ms : List Dat), Know w W (ls ++ ms) → Calls Tryz.prog 18 #[.string key2, .agg #[.int .i64 2, .slice a xs.length c], .int .i64 n, .slice al (is.map fun i : Nat => (i : Int)).length cl] W (GivesP w (ls ++ ms) (partS key2 2 xs n is))) := Lib.hid (fun W ms kk => show_at kk i j (get_app hi) is (get_app hj) key2 2 n key2_size hv hn hp hl hll)
  have HCk := Lib.hid (part_check (key := key2) (car := 2) (xs := xs) (n := n) (is := is) key2_size hv hn hp hl)
  have HFit := Lib.hid (fit_part key2 2 xs n is hll (by omega))
  have HPl := Lib.hid (shown_mem (key := key2) (car := 2) (xs := xs) (n := n) (is := is))
  obtain ⟨P, hP⟩ : ∃ P, P = partS key2 2 xs n is := ⟨_, rfl⟩
  rw [← hP] at HShow HCk HFit HPl ⊢
  have hil : (is.map fun i : Nat => (i : Int)).length = is.length := List.length_map ..
  rw [hil] at HShow ⊢
  clear hP hi hj hv hn hp hl hil k
  generalize is.length = L at *
  generalize xs.length = m at *
  go_enter Tryz.func52, Tryz.ntmps52
  go_wp2_with fail
  refine (show Calls Tryz.prog 15 #[.int .i64 2] _ _ from key_at K1.out 2 (by omega)).mono ?_
  rintro e w2 ⟨rfl, k2⟩
  rw [key2_is]
  have K2 := Lib.hid k2
  clear k2
  go_wp2_with fail
  refine (HShow.out _ _ K2.out).mono ?_
  rintro e w3 ⟨iv, rfl, k3⟩
  obtain ⟨ia, ic, rfl⟩ := (k3.all _ (.I iv P.items) (List.getElem?_concat_length ..) : IT w3 iv P.items).form2
  have K3 := Lib.hid k3
  rw [HPl.out] at K3 ⊢
  have HB3 : Hid (w3.heap[w.heap.size]? = some (.cells #[.int .i64 0, .int .i64 0, .string ⟨#[]⟩, .string ⟨#[]⟩, .slice none 0 0] 38 (0, 0))) := Lib.hid (k3.all ls.length (.B w.heap.size #[.int .i64 0, .int .i64 0, .string ⟨#[]⟩, .string ⟨#[]⟩, .slice none 0 0] 38) (by simp))
  clear k3 HShow
  obtain ⟨⟨hc, hs, hr, hsl⟩, its⟩ := P
  unfold pbox at *
  simp only at HCk HFit HPl K3 ⊢
  go_wp2_with fail
  have K4 := Lib.hid (K3.out.box #[.int .i64 hc, .int .i64 hs, .string hr, .string hsl, .slice ia L ic] 38)
  have HB4 := Lib.hid (alloc_at (o' := .cells #[.int .i64 hc, .int .i64 hs, .string hr, .string hsl, .slice ia L ic] 38) HB3.out)
  obtain ⟨W4, hW4⟩ : ∃ W4, W4 = w3.alloc (.cells #[.int .i64 hc, .int .i64 hs, .string hr, .string hsl, .slice ia L ic] 38) := ⟨_, rfl⟩
  rw [← hW4] at K4 HB4 ⊢
  have HX4 : Hid (W4.heap[w3.heap.size]? = some (.cells #[.int .i64 hc, .int .i64 hs, .string hr, .string hsl, .slice ia L ic] 38 (0, 0))) := Lib.hid (by rw [hW4]; exact heap_alloc_new w3 _)
  have hq : w.heap.size < w3.heap.size := (Array.getElem?_eq_some_iff.1 HB3.out).1
  clear hW4 K1 K2 K3 HB3
  generalize w3.heap.size = q at *
  have HCkx := Lib.hid (check_at (key := key2) (p := ⟨⟨hc, hs, hr, hsl⟩, its⟩) (iv := .slice ia L ic) K4.out.drew (ls.length + 1) (by simp) (by decide) HFit.out true HCk.out)
  unfold pbox at HCkx
  simp only at HCkx
  refine wp_region_noPanic ?_
  refine wp_region_lex [6, 16] (fun w' => w'.cell? ⟨q, 0, none⟩ = some (.int .i64 hc) ∧ w'.cell? ⟨q, 1, none⟩ = some (.int .i64 hs) ∧ w'.cell? ⟨q, 2, none⟩ = some (.string hr) ∧ w'.cell? ⟨q, 3, none⟩ = some (.string hsl) ∧ w'.cell? ⟨q, 4, none⟩ = some (.slice ia L ic)) (by kernel_rfl) (by kernel_rfl) (fun _ _ _ _ _ h => h) ⟨cell_of_row W4 _ 0 _ _ _ HX4.out, cell_of_row W4 _ 1 _ _ _ HX4.out, cell_of_row W4 _ 2 _ _ _ HX4.out, cell_of_row W4 _ 3 _ _ _ HX4.out, cell_of_row W4 _ 4 _ _ _ HX4.out⟩ ?_
  refine wpLex_take (v := ?_) (by rfl) (Or.inl ⟨by rfl, ?_⟩) ?_
  rotate_left
  · intro w hSw; (try dsimp only at hSw); go_simp; try with_reducible rfl
  simp only [Act.put, List.setIfInBounds_toArray, List.set_cons_zero, List.set_cons_succ]
  refine wpLex_take (v := ?_) (by rfl) (Or.inl ⟨by rfl, ?_⟩) ?_
  rotate_left
  · intro w hSw; (try dsimp only at hSw); go_simp; try with_reducible rfl
  simp only [Act.put, List.setIfInBounds_toArray, List.set_cons_zero, List.set_cons_succ]
  refine wpLex_take (v := ?_) (by rfl) (Or.inl ⟨by rfl, ?_⟩) ?_
  rotate_left
  · intro w hSw; (try dsimp only at hSw); go_simp; try with_reducible rfl
  simp only [Act.put, List.setIfInBounds_toArray, List.set_cons_zero, List.set_cons_succ]
  refine wpLex_take (v := ?_) (by rfl) (Or.inl ⟨by rfl, ?_⟩) ?_
  rotate_left
  · intro w hSw; (try dsimp only at hSw); go_simp; try with_reducible rfl
  simp only [Act.put, List.setIfInBounds_toArray, List.set_cons_zero, List.set_cons_succ]
  refine wpLex_take (v := ?_) (by rfl) (Or.inl ⟨by rfl, ?_⟩) ?_
  rotate_left
  · intro w hSw; (try dsimp only at hSw); go_simp; try with_reducible rfl
  simp only [Act.put, List.setIfInBounds_toArray, List.set_cons_zero, List.set_cons_succ]
  refine wpLex_take (v := ?_) (by rfl) (Or.inl ⟨by rfl, ?_⟩) ?_
  rotate_left
  · intro w hSw; (try dsimp only at hSw); go_simp; try with_reducible rfl
  simp only [Act.put, List.setIfInBounds_toArray, List.set_cons_zero, List.set_cons_succ]
  refine wpLex_big (by rfl) rfl (fun K hK => ?_)
  go_simp
  go_at_call 24
  with_reducible refine HCkx.out.mono ?_
  rintro e w5 ⟨rfl, k5⟩
  have K5 := Lib.hid k5
  have HX5 : Hid (w5.heap[q]? = some (.cells #[.int .i64 hc, .int .i64 hs, .string hr, .string hsl, .slice ia L ic] 38 (0, 0))) := Lib.hid (k5.all (ls.length + 2) (.B q #[.int .i64 hc, .int .i64 hs, .string hr, .string hsl, .slice ia L ic] 38) (by rw [List.append_assoc, List.append_assoc]; exact get_at _ _ 2 _ rfl))
  have HB5 : Hid (w5.heap[w.heap.size]? = some (.cells #[.int .i64 0, .int .i64 0, .string ⟨#[]⟩, .string ⟨#[]⟩, .slice none 0 0] 38 (0, 0))) := Lib.hid (k5.all ls.length (.B w.heap.size #[.int .i64 0, .int .i64 0, .string ⟨#[]⟩, .string ⟨#[]⟩, .slice none 0 0] 38) (by simp))
  have HI5 : Hid (IT w5 (.slice ia L ic) its) := Lib.hid (k5.all (ls.length + 1) (.I (.slice ia L ic) its) (by rw [List.append_assoc, List.append_assoc]; exact get_at _ _ 1 _ rfl))
  clear k5
  have s0 := cell_of_row w5 q 0 _ _ _ HX5.out
  have s1 := cell_of_row w5 q 1 _ _ _ HX5.out
  have s2 := cell_of_row w5 q 2 _ _ _ HX5.out
  have s3 := cell_of_row w5 q 3 _ _ _ HX5.out
  have s4 := cell_of_row w5 q 4 _ _ _ HX5.out
  refine hK.out _ _ ⟨s0, s1, s2, s3, s4⟩ (fun _ => ?_)
  clear hK K
  refine wpLex_take (v := ?_) (by rfl) (Or.inl ⟨by rfl, ?_⟩) ?_
  rotate_left
  · intro w hSw; (try dsimp only at hSw); go_simp; try with_reducible rfl
  simp only [Act.put, List.setIfInBounds_toArray, List.set_cons_zero, List.set_cons_succ]
  refine wpLex_take (v := ?_) (by rfl) (Or.inl ⟨by rfl, ?_⟩) ?_
  rotate_left
  · intro w hSw; (try dsimp only at hSw); go_simp; try with_reducible rfl
  simp only [Act.put, List.setIfInBounds_toArray, List.set_cons_zero, List.set_cons_succ]
  refine wpLex_take (v := ?_) (by rfl) (Or.inl ⟨by rfl, ?_⟩) ?_
  rotate_left
  · intro w hSw; (try dsimp only at hSw); go_simp; try with_reducible rfl
  simp only [Act.put, List.setIfInBounds_toArray, List.set_cons_zero, List.set_cons_succ]
  refine wpLex_take (v := ?_) (by rfl) (Or.inl ⟨by rfl, ?_⟩) ?_
  rotate_left
  · intro w hSw; (try dsimp only at hSw); go_simp; try with_reducible rfl
  simp only [Act.put, List.setIfInBounds_toArray, List.set_cons_zero, List.set_cons_succ]
  refine wpLex_take (v := ?_) (by rfl) (Or.inl ⟨by rfl, ?_⟩) ?_
  rotate_left
  · intro w hSw; (try dsimp only at hSw); go_simp; try with_reducible rfl
  simp only [Act.put, List.setIfInBounds_toArray, List.set_cons_zero, List.set_cons_succ]
  refine wpLex_take (v := ?_) (by rfl) (Or.inl ⟨by rfl, ?_⟩) ?_
  rotate_left
  · intro w hSw; (try dsimp only at hSw); go_simp; try with_reducible rfl
  simp only [Act.put, List.setIfInBounds_toArray, List.set_cons_zero, List.set_cons_succ]
  refine wpLex_take (v := ?_) (by rfl) (Or.inl ⟨by rfl, ?_⟩) ?_
  rotate_left
  · intro w hSw; (try dsimp only at hSw); go_simp; try with_reducible rfl
  simp only [Act.put, List.setIfInBounds_toArray, List.set_cons_zero, List.set_cons_succ]
  refine wpLex_take (v := ?_) (by rfl) (Or.inl ⟨by rfl, ?_⟩) ?_
  rotate_left
  · intro w hSw; (try dsimp only at hSw); go_simp; try with_reducible rfl
  simp only [Act.put, List.setIfInBounds_toArray, List.set_cons_zero, List.set_cons_succ]
  refine wpLex_take (v := ?_) (by rfl) (Or.inl ⟨by rfl, ?_⟩) ?_
  rotate_left
  · intro w hSw; (try dsimp only at hSw); go_simp; try with_reducible rfl
  simp only [Act.put, List.setIfInBounds_toArray, List.set_cons_zero, List.set_cons_succ]
  have z0 : w5.cell? ⟨w.heap.size, 0, none⟩ = some (.int .i64 0) := cell_of_row w5 _ 0 _ _ _ HB5.out
  have z1 : w5.cell? ⟨w.heap.size, 1, none⟩ = some (.int .i64 0) := cell_of_row w5 _ 1 _ _ _ HB5.out
  have z2 : w5.cell? ⟨w.heap.size, 2, none⟩ = some (.string ⟨#[]⟩) := cell_of_row w5 _ 2 _ _ _ HB5.out
  have z3 : w5.cell? ⟨w.heap.size, 3, none⟩ = some (.string ⟨#[]⟩) := cell_of_row w5 _ 3 _ _ _ HB5.out
  have z4 : w5.cell? ⟨w.heap.size, 4, none⟩ = some (.slice none 0 0) := cell_of_row w5 _ 4 _ _ _ HB5.out
  have zf : ∀ j, w5.frozen? ⟨w.heap.size, j, none⟩ = false := fun j => by unfold World.frozen?; rw [HB5.out]; simp
  refine wpLex_big (by rfl) rfl (fun K hK => ?_)
  go_simp
  have HG := Lib.hid (five_grown w5 w.heap.size (.int .i64 hc) (.int .i64 hs) (.string hr) (.string hsl) (.slice ia L ic))
  have HF := Lib.hid (five_heap HB5.out (.int .i64 hc) (.int .i64 hs) (.string hr) (.string hsl) (.slice ia L ic))
  have HBl := Lib.hid (five_below K5.out.below (Nat.le_refl _) (.int .i64 hc) (.int .i64 hs) (.string hr) (.string hsl) (.slice ia L ic))
  generalize (((((w5.setCell ⟨w.heap.size, 0, none⟩ (.int .i64 hc)).setCell ⟨w.heap.size, 1, none⟩ (.int .i64 hs)).setCell ⟨w.heap.size, 2, none⟩ (.string hr)).setCell ⟨w.heap.size, 3, none⟩ (.string hsl)).setCell ⟨w.heap.size, 4, none⟩ (.slice ia L ic)) = w6 at HG HF HBl ⊢
  have HQ : w6.heap[q]? = some (.cells #[.int .i64 hc, .int .i64 hs, .string hr, .string hsl, .slice ia L ic] 38 (0, 0)) := (HG.out.block q (Array.getElem?_eq_some_iff.1 HX5.out).1 (fun e => by cases e; omega)).trans HX5.out
  refine hK.out _ _ ⟨cell_of_row w6 _ 0 _ _ _ HQ, cell_of_row w6 _ 1 _ _ _ HQ, cell_of_row w6 _ 2 _ _ _ HQ, cell_of_row w6 _ 3 _ _ _ HQ, cell_of_row w6 _ 4 _ _ _ HQ⟩ (fun _ => ?_)
  clear hK K
  refine wpLex_take (v := ?_) (by rfl) (Or.inl ⟨by rfl, ?_⟩) ?_
  rotate_left
  · intro w hSw; (try dsimp only at hSw); go_simp; try with_reducible rfl
  simp only [Act.put, List.setIfInBounds_toArray, List.set_cons_zero, List.set_cons_succ]
  refine wpLex_nil ?_
  refine NoPanic.normal ?_
  go_wp2
  refine bodyPost_ret (results_cellA_tmp rfl _ w.heap.size 38 #[.int .i64 hc, .int .i64 hs, .string hr, .string hsl, .slice ia L ic] (0, 0) _ rfl HF.out Tryz.underlying38 rfl infoPart) rfl ⟨.slice ia L ic, ?_, ?_⟩
  · rfl
  · exact (HK.out.step HBl.out).put (IT.grownT HI5.out HB5.out (by decide) (by decide) HG.out)
end Go.Proofs.YtinfpbkbnhcifaaGreatDoor
