/- The walk of the reference's Made. The conditions: what the slice reads as, ranges. -/
import Derived.Test.YtinfpbkbnhcifaaGreatDoorQMR2
import Derived.Test.YtinfpbkbnhcifaaGreatDoorQVR7
namespace Go.Proofs.YtinfpbkbnhcifaaGreatDoor
open Go.RowKit Go.BigFrame

/-- What the loop of Made keeps: the boxed register. -/
def MadeAt (w W : World) (car : Int) (v : Value) (xs : List ByteArray) : Prop :=
  Below w.heap.size w W ∧ W.heap[w.heap.size]? = some (.cells #[.int .i64 0, .slice none 0 0] 26 (0, 0)) ∧ W.heap[w.heap.size + 1]? = some (.cells #[.int .i64 car, v] 26 (0, 0)) ∧ OwnS W w.heap.size v xs

theorem alloc_at {w : World} {k : Nat} {o o' : Obj} (h : w.heap[k]? = some o) : (w.alloc o').heap[k]? = some o := (Below.heap_alloc w o' k (Array.getElem?_eq_some_iff.1 h).1).trans h
theorem undrew {W w' : World} (h : Below W.drew.heap.size W.drew w') : Below W.heap.size W w' := ⟨h.os, h.tape, h.output, h.size, h.block⟩

theorem MadeAt.far {w W W' : World} {car : Int} {v : Value} {xs : List ByteArray} (h : MadeAt w W car v xs) (hb : Below W.heap.size W W') : MadeAt w W' car v xs :=
  ⟨h.1.trans (hb.mono h.1.size), (hb.block _ (Array.getElem?_eq_some_iff.1 h.2.1).1).trans h.2.1, (hb.block _ (Array.getElem?_eq_some_iff.1 h.2.2.1).1).trans h.2.2.1, OwnE.far h.2.2.2 hb (Nat.le_refl _)⟩
theorem MadeAt.append {w W w7 : World} {car : Int} {v : Value} {xs : List ByteArray} (h : MadeAt w W car v xs) {y : ByteArray} {o : Obj} (hg : (W.alloc o).grownBy w7 v.ownBlock) {v' : Value} (ho : OwnS w7 w.heap.size v' (xs ++ [y])) :
    MadeAt w (w7.setCell ⟨w.heap.size + 1, 1, none⟩ v') car v' (xs ++ [y]) := by
  obtain ⟨h1, h2, h3, h4⟩ := h
  have key : ∀ {k : Nat} {c : Array Value}, W.heap[k]? = some (.cells c 26 (0, 0)) → w7.heap[k]? = some (.cells c 26 (0, 0)) := fun {k c} hk =>
    (hg.block k (by have := (Array.getElem?_eq_some_iff.1 hk).1; simp; omega) (own_ne h4 hk (fun c' e => by cases e))).trans (alloc_at hk)
  have b7 : Below w.heap.size w w7 := (h1.alloc h1.size o).grown hg (by have := h1.size; simp; omega) (fun j e => OwnE.ge h4 j e)
  have g3 := key h3
  refine ⟨b7.setCell (p := ⟨w.heap.size + 1, 1, none⟩) (Nat.le_succ _) _, (Below.heap_setCell _ _ _ _ (by show w.heap.size ≠ w.heap.size + 1; omega)).trans (key h2), ?_, ?_⟩
  · rw [heap_setCell_same _ g3]; rfl
  · exact World.ownsRow.kept ho (grown_setCell (grown_refl _ _) ⟨w.heap.size + 1, 1, none⟩ (.inl rfl) _) (.inr (fun e' => own_ne ho g3 (fun c' e => by cases e) e'.symm))
theorem size_al {w : World} (W : World) (o : Obj) (h : w.heap.size ≤ W.heap.size) : w.heap.size ≤ (W.alloc o).heap.size := by simp; omega
theorem MadeAt.at7 {w W w7 : World} {car : Int} {v : Value} {xs : List ByteArray} (h : MadeAt w W car v xs) {o : Obj} (hg : (W.alloc o).grownBy w7 v.ownBlock) : w7.cell? ⟨w.heap.size + 1, 1, none⟩ = some v ∧ w7.frozen? ⟨w.heap.size + 1, 1, none⟩ = false := by
  obtain ⟨_, _, h3, h4⟩ := h
  have := (hg.block (w.heap.size + 1) (by have := (Array.getElem?_eq_some_iff.1 h3).1; simp; omega) (own_ne h4 h3 (fun c' e => by cases e))).trans (alloc_at h3)
  exact ⟨cell_of_row w7 _ 1 _ _ _ this, by simp [World.frozen?, this]⟩
theorem ownS_snoc {w : World} {B : Nat} {v : Value} {xs : List ByteArray} {y : ByteArray} (h : w.ownsRow B 9 1 v ((scells xs).length + 1) ((scells xs).flatten ++ [.string y])) : OwnS w B v (xs ++ [y]) := by
  have e : scells (xs ++ [y]) = scells xs ++ [[.string y]] := by unfold scells; rw [List.map_append]; rfl
  unfold OwnS OwnE
  rw [e, List.flatten_append, List.length_append]
  simpa using h
/-- The result's cells are written. -/
theorem set2 {w W : World} {car : Int} {v : Value} {xs : List ByteArray} (h : MadeAt w W car v xs) : ((W.setCell ⟨w.heap.size, 0, none⟩ (.int .i64 car)).setCell ⟨w.heap.size, 1, none⟩ v).heap[w.heap.size]? = some (.cells #[.int .i64 car, v] 26 (0, 0)) ∧ Below w.heap.size w ((W.setCell ⟨w.heap.size, 0, none⟩ (.int .i64 car)).setCell ⟨w.heap.size, 1, none⟩ v) ∧ OwnS ((W.setCell ⟨w.heap.size, 0, none⟩ (.int .i64 car)).setCell ⟨w.heap.size, 1, none⟩ v) w.heap.size v xs := by
  obtain ⟨h1, h2, _, h4⟩ := h
  have g1 := heap_setCell_same (i := 0) (.int .i64 car) h2
  have g2 := heap_setCell_same (i := 1) v g1
  have o1 : OwnS (W.setCell ⟨w.heap.size, 0, none⟩ (.int .i64 car)) w.heap.size v xs := World.ownsRow.kept h4 (grown_setCell (grown_refl _ _) ⟨w.heap.size, 0, none⟩ (.inl rfl) _) (.inr (fun e' => own_ne h4 h2 (fun c' e => by cases e) e'.symm))
  refine ⟨g2, (h1.setCell (p := ⟨w.heap.size, 0, none⟩) (Nat.le_refl _) _).setCell (p := ⟨w.heap.size, 1, none⟩) (Nat.le_refl _) _, ?_⟩
  exact World.ownsRow.kept o1 (grown_setCell (grown_refl _ _) ⟨w.heap.size, 1, none⟩ (.inl rfl) _) (.inr (fun e' => own_ne o1 g1 (fun c' e => by cases e) e'.symm))
theorem madeL_take {x : List Int} {k : Nat} {n : Int} (h : x[k]? = some n) : (x.take (k + 1)).map entryS = (x.take k).map entryS ++ [entryS n] := by
  rw [List.take_add_one, h, List.map_append]; rfl

set_option maxHeartbeats 4000000 in
set_option maxRecDepth 100000 in
theorem made_own (car : Int) (hcar : I64 car) {w : World} {v : Value} {x : List Int} (hx : IL w v x) (hr : ∀ n ∈ x, I64 n) :
    Calls Tryz.prog 13 #[.int .i64 car, v] w fun e w' => ∃ v', e = .returned (.agg #[.int .i64 (pickI car 8), v']) ∧ OwnS w' w.heap.size v' (madeL x) ∧ Below w.heap.size w w' := by
  obtain ⟨a, cap, rfl, l1, l2, l3⟩ := hx.opened
  have H3 := Lib.hid l3
  have HR := Lib.hid hr
  clear l3 hx hr
  unfold maxLen at l2
  obtain ⟨n, hn⟩ : ∃ n, n = x.length := ⟨_, rfl⟩
  rw [← hn] at l1 ⊢
  have HN := Lib.hid hn
  clear hn
  obtain ⟨m, hm⟩ : ∃ m, m = min n 12 := ⟨_, rfl⟩
  have hmn : m ≤ n := by omega
  have hm12 : m ≤ 12 := by omega
  have HM : Hid (madeL x = (x.take m).map entryS) := Lib.hid (by
    unfold madeL
    congr 1
    rw [hm, HN.out]
    by_cases h : x.length ≤ 12
    · rw [Nat.min_eq_left h, List.take_length, List.take_of_length_le h]
    · rw [Nat.min_eq_right (by omega)])
  have hmm : ∀ k : Nat, k < m ∨ (k < n → ¬ k < 12) ∨ n ≤ k := fun k => by omega
  have HMM : Hid (∀ k : Nat, k ≤ m → (k < m ↔ (k < n ∧ k < 12))) := Lib.hid (fun k hk => by omega)
  clear hm hmm
  have HP := Lib.hid (fun W => rpick_any car 8 W hcar (by omega) (by omega))
  generalize pickI car 8 = pc at *
  have hz2 : Hid (MadeAt w ((w.alloc (.cells #[.int .i64 0, .slice none 0 0] 26)).alloc (.cells #[.int .i64 pc, .slice none 0 0] 26)) pc (.slice none 0 0) ((x.take 0).map entryS)) := Lib.hid ⟨((Below.refl _ _).alloc (Nat.le_refl _) _).alloc (by simp) _, at_past w _ _, at_second w _ _, OwnE.nil _ _ _ _⟩
  go_enter Tryz.func13, Tryz.ntmps13
  go_wp2_with (go_at_call 53; refine (HP.out _).mono ?_; rintro e w1 ⟨rfl, rfl⟩)
  go_loopw [6] (fun i wr => ∃ (k : Nat) (u : Value), k ≤ m ∧ i = .int .i64 k ∧ Hid (MadeAt w wr pc u ((x.take k).map entryS))) (fun i _ => m - (intOf i).toNat)
  case atStart => exact ⟨0, _, by omega, rfl, hz2⟩
  case round =>
    obtain ⟨k, u, hk, rfl, hA⟩ := hrel
    clear hz2
    have HK := Lib.hid (HMM.out k hk)
    have c1 : wr.cell? ⟨w.heap.size + 1, 1, none⟩ = some u := cell_of_row wr _ 1 _ _ _ hA.out.2.2.1
    have hsw : w.heap.size + 1 < wr.heap.size := (Array.getElem?_eq_some_iff.1 hA.out.2.2.1).1
    by_cases hlt : k < m
    · obtain ⟨hkn, hk12⟩ := HK.out.1 hlt
      obtain ⟨z, ez⟩ : ∃ z, x[k]? = some z := ⟨_, List.getElem?_eq_getElem (by rw [← HN.out]; exact hkn)⟩
      obtain ⟨b, off, rfl, hb, c0⟩ := H3.out k z ez
      have d0 := cell_keepB hA.out.1 hb c0
      have HE := Lib.hid (fun W => entry_any z (HR.out z (List.mem_of_getElem? ez)) W)
      have HT := Lib.hid (madeL_take ez)
      obtain ⟨XS, hXS⟩ : ∃ XS, XS = (x.take k).map entryS := ⟨_, rfl⟩
      rw [← hXS] at hA HT
      have hXl : XS.length ≤ 12 := by rw [hXS, List.length_map, List.length_take]; omega
      clear c0 ez hXS
      generalize entryS z = E at *
      have HCL : Hid ((scells XS).length = XS.length) := Lib.hid (by unfold scells; rw [List.length_map])
      obtain ⟨i0, hi0, hz0, hz1, hz2⟩ := info_parts infoStr
      have t12 : (k : Int) < 12 := by omega
      have tkn : (k : Int) < (n : Int) := by omega
      go_wp2
      go_region_law (first | (go_simp; go_at_call 51; refine (HE.out _).mono ?_; rintro e w5 ⟨rfl, hb5⟩; have HA5 := Lib.hid (hA.out.far (undrew hb5)); have hs5 : w.heap.size + 1 < w5.heap.size := (Array.getElem?_eq_some_iff.1 HA5.out.2.2.1).1; have c5 : w5.cell? ⟨w.heap.size + 1, 1, none⟩ = some u := cell_of_row w5 _ 1 _ _ _ HA5.out.2.2.1; have HOA := Lib.hid (OwnE.alloc HA5.out.2.2.2 (.cells #[.string E] 9)); have HNW := Lib.hid (World.news_of_block (w := w5.alloc (.cells #[.string E] 9)) (heap_alloc_new w5 (.cells [Value.string E].toArray 9))); have HSZ := Lib.hid (size_al w5 (.cells #[.string E] 9) HA5.out.1.size); clear hb5) | (refine step_append_lies _ rfl (.tmp 21) (.tmp 27) 24 rfl w.heap.size 9 i0 _ 1 16 (by kernel_rfl) hi0 hz0 hz1 hz2 rfl (by decide) u (scells XS).length (scells XS).flatten rfl HOA.out ⟨w5.heap.size, 0, none⟩ 1 1 _ rfl rfl HNW.out (fun u hu => by simp at hu; subst hu; rfl) (by decide) (by rw [HCL.out]; unfold maxLen; omega) (by rw [HCL.out]; omega) HSZ.out _ rfl ?_; intro g7 cap7 w7 hown7 hgrow7 hat7 hlt7; obtain ⟨u4, uf⟩ := HA5.out.at7 hgrow7; have HSN := Lib.hid (HA5.out.append hgrow7 (ownS_snoc hown7)); clear hown7 hgrow7 hat7 hlt7))
      all_goals
        clear u4 uf
        go_wp2
        go_roundw
        case rel =>
          refine ⟨k + 1, .slice (some ⟨g7, 0, none⟩) ((scells XS).length + 1) cap7, by omega, by go_num, ?_⟩
          rw [HT.out]
          exact HSN
        case measure => simp [intOf]; omega
    · have ek : k = m := by omega
      subst ek
      obtain ⟨XS, hXS⟩ : ∃ XS, XS = (x.take k).map entryS := ⟨_, rfl⟩
      rw [← hXS] at hA HM
      clear hXS
      have HE := Lib.hid (set2 hA.out)
      have z0 : wr.cell? ⟨w.heap.size, 0, none⟩ = some (.int .i64 0) := cell_of_row wr _ 0 _ _ _ hA.out.2.1
      have z1 : wr.cell? ⟨w.heap.size, 1, none⟩ = some (.slice none 0 0) := cell_of_row wr _ 1 _ _ _ hA.out.2.1
      have zf : ∀ j, wr.frozen? ⟨w.heap.size, j, none⟩ = false := fun j => by simp [World.frozen?, hA.out.2.1]
      have c0 : wr.cell? ⟨w.heap.size + 1, 0, none⟩ = some (.int .i64 pc) := cell_of_row wr _ 0 _ _ _ hA.out.2.2.1
      obtain ⟨ua, uc, hu⟩ := OwnE.form hA.out.2.2.2
      by_cases hkn : k < n
      · have h12 : ¬ k < 12 := fun h => by have := HK.out.2 ⟨hkn, h⟩; omega
        have t12 : ¬ (k : Int) < 12 := by omega
        subst hu
        go_wp2
        exact bodyPost_ret (results_cell_row rfl _ _ w.heap.size 26 _ (0, 0) _ rfl HE.out.1 Tryz.underlying26 rfl infoReg) rfl ⟨_, rfl, by rw [HM.out]; exact HE.out.2.2, HE.out.2.1⟩
      · have tkn : ¬ (k : Int) < (n : Int) := by omega
        subst hu
        go_wp2
        exact bodyPost_ret (results_cell_row rfl _ _ w.heap.size 26 _ (0, 0) _ rfl HE.out.1 Tryz.underlying26 rfl infoReg) rfl ⟨_, rfl, by rw [HM.out]; exact HE.out.2.2, HE.out.2.1⟩
theorem made_any (car : Int) (hcar : I64 car) {w : World} {v : Value} {x : List Int} (hx : IL w v x) (hr : ∀ n ∈ x, I64 n) :
    Calls Tryz.prog 13 #[.int .i64 car, v] w fun e w' => ∃ v', e = .returned (.agg #[.int .i64 (pickI car 8), v']) ∧ SS w' v' (madeL x) ∧ Below w.heap.size w w' :=
  (made_own car hcar hx hr).mono fun _ _ ⟨v', h1, h2, h3⟩ => ⟨v', h1, h2.ss, h3⟩
end Go.Proofs.YtinfpbkbnhcifaaGreatDoor
