/- Slices of items in memory; the walk of register.Check. The conditions: what the slices read as, lengths, the table of constants. -/
import Derived.Test.YtinfpbkbnhcifaaGreatDoorQ14
namespace Go.Proofs.YtinfpbkbnhcifaaGreatDoor
open Go.RowKit Go.BigFrame

/-- The cells of items, each with the value of its proof. -/
def itcells (l : List (ItemP × Value)) : List (List Value) := l.map fun y => [.int .i64 y.1.idx, .string y.1.ent, y.2]
/-- A slice of items. -/
def IS (w : World) (v : Value) (ys : List (ItemP × Value)) : Prop := SliceAt w v 3 (itcells ys) ∧ ∀ y ∈ ys, SS w y.2 y.1.prf
theorem IS.nil (w : World) : IS w (.slice none 0 0) [] := ⟨SliceAt.nil w 3, fun _ h => absurd h List.not_mem_nil⟩
theorem IS.below {w w' : World} {v : Value} {ys : List (ItemP × Value)} (h : IS w v ys) (hb : Below w.heap.size w w') : IS w' v ys := ⟨h.1.below hb, fun y hy => (h.2 y hy).below hb⟩
theorem IS.opened {w : World} {v : Value} {ys : List (ItemP × Value)} (h : IS w v ys) : ∃ a cap, v = .slice a ys.length cap ∧ ys.length ≤ cap ∧ cap ≤ maxLen ∧
    ∀ k y, ys[k]? = some y → ∃ b off, a = some ⟨b, off, none⟩ ∧ b < w.heap.size ∧ w.cell? ⟨b, off + k * 3, none⟩ = some (.int .i64 y.1.idx) ∧ w.cell? ⟨b, off + k * 3 + 1, none⟩ = some (.string y.1.ent) ∧ w.cell? ⟨b, off + k * 3 + 2, none⟩ = some y.2 := by
  obtain ⟨⟨a, cap, hv, h1, h2, h3⟩, _⟩ := h
  unfold itcells at *
  rw [List.length_map] at hv h1
  refine ⟨a, cap, hv, h1, h2, fun k y hy => ?_⟩
  rcases h3 with h3 | ⟨b, off, ha, hb, hc⟩
  · simp at h3; subst h3; simp at hy
  · have hk : (ys.map fun y => [Value.int .i64 y.1.idx, .string y.1.ent, y.2])[k]? = some [.int .i64 y.1.idx, .string y.1.ent, y.2] := by rw [List.getElem?_map, hy]; rfl
    exact ⟨b, off, ha, hb, hc k _ hk 0 _ rfl, hc k _ hk 1 _ rfl, hc k _ hk 2 _ rfl⟩

/-- digest.Verify, whatever is asked. -/
theorem verify_all {w : World} {v : Value} {pr : List ByteArray} (root s : ByteArray) (n : Nat) (i : Int) (hr : SS w v pr) (hl : pr.length ≤ 1000) (hs : s.size ≤ 100000) (he : Env w) (hg : 0 < w.heap.size) (hn : n ≤ 1000) :
    Calls Tryz.prog 60 #[.string root, .int .i64 n, .int .i64 i, .string s, v] w fun e w' => e = .returned (.bool (verifyB root n i s pr)) ∧ Below w.heap.size w w' := by
  by_cases hc : 0 ≤ i ∧ i < (n : Int) ∧ pr.all isDig = true
  · have e : verifyB root n i s pr = verB root n i.toNat s pr := by
      unfold verifyB
      rw [if_pos hc]
      rfl
    rw [e]
    obtain ⟨h0, h1, ha⟩ := hc
    obtain ⟨k, rfl⟩ := Int.eq_ofNat_of_zero_le h0
    exact verify_any root s n k hr hl hs he hg (by omega) (by omega) ha
  · have e : verifyB root n i s pr = false := by
      unfold verifyB
      rw [if_neg hc]
    rw [e]
    refine (verify_no root s n i hr ?_).mono ?_
    · by_cases h0 : i < 0
      · exact .inl h0
      · by_cases h1 : (n : Int) ≤ i
        · exact .inr (.inl h1)
        · refine .inr (.inr ?_)
          by_cases h : pr.all isDig = true
          · exact absurd ⟨by omega, by omega, h⟩ hc
          · simpa using h
    · rintro e w' ⟨rfl, rfl⟩
      exact ⟨rfl, Below.refl _ _⟩

/-- The index ahead of a place. -/
def prevI (ys : List (ItemP × Value)) : Nat → Option Int
  | 0 => none
  | k + 1 => ys[k]?.map (fun y => y.1.idx)
def itemsFrom (root : ByteArray) (n : Int) (ys : List (ItemP × Value)) (k : Nat) : Bool := itemsOk root n ((ys.drop k).map (·.1)) (prevI ys k)
theorem itemsFrom_step (root : ByteArray) (n : Int) {ys : List (ItemP × Value)} {k : Nat} {y : ItemP × Value} (h : ys[k]? = some y) :
    itemsFrom root n ys k = (decide (∀ j, prevI ys k = some j → j < y.1.idx) && decide (y.1.ent.size ≤ 1000) && verifyB root n y.1.idx y.1.ent y.1.prf && itemsFrom root n ys (k + 1)) := by
  unfold itemsFrom
  rw [drop_get h]
  show (itemOk _ _ _ _ && itemsOk _ _ _ _) = _
  have e : prevI ys (k + 1) = some y.1.idx := by show ys[k]?.map _ = _; rw [h]; rfl
  rw [e]
  rfl
theorem itemsFrom_end (root : ByteArray) (n : Int) (ys : List (ItemP × Value)) (k : Nat) (h : ys.length ≤ k) : itemsFrom root n ys k = true := by
  unfold itemsFrom
  rw [List.drop_eq_nil_of_le h]
  rfl

set_option maxHeartbeats 4000000 in
set_option maxRecDepth 100000 in
theorem check_any (key : ByteArray) (car siz : Int) (root sl : ByteArray) {w : World} {v : Value} {ys : List (ItemP × Value)} (hi : IS w v ys) (hk : key.size ≤ 1000) (hr : root.size ≤ 1000) (hl : ys.length ≤ 100000) (hp : ∀ y ∈ ys, y.1.prf.length ≤ 1000) (he : Env w) (hg : 0 < w.heap.size) :
    Calls Tryz.prog 24 #[.string key, .agg #[.int .i64 car, .int .i64 siz, .string root, .string sl, v]] w fun e w' => e = .returned (.bool (checkB key ⟨⟨car, siz, root, sl⟩, ys.map (·.1)⟩)) ∧ Below w.heap.size w w' := by
  obtain ⟨a, cap, rfl, l1, l2, l3⟩ := hi.opened
  have H3 := Lib.hid l3
  have HI := Lib.hid hi
  have HP := Lib.hid hp
  have HE := Lib.hid he
  have HG := Lib.hid hg
  clear l3 hi hp he hg
  unfold maxLen at l2
  have HR0 : Hid (checkB key ⟨⟨car, siz, root, sl⟩, ys.map (·.1)⟩ = (genuineB key ⟨car, siz, root, sl⟩ && itemsFrom root siz ys 0)) := Lib.hid rfl
  obtain ⟨RR, hRR⟩ : ∃ RR, RR = checkB key ⟨⟨car, siz, root, sl⟩, ys.map (·.1)⟩ := ⟨_, rfl⟩
  rw [← hRR] at HR0 ⊢
  clear hRR
  obtain ⟨n, hn⟩ : ∃ n, n = ys.length := ⟨_, rfl⟩
  rw [← hn] at l1 hl ⊢
  have HN := Lib.hid hn
  clear hn
  obtain ⟨W1, hW1⟩ : ∃ W1, W1 = w.alloc (.cells #[.int .i64 car, .int .i64 siz, .string root, .string sl, .slice a n cap] 38) := ⟨_, rfl⟩
  have HB1 : Hid (Below w.heap.size w W1) := Lib.hid (by rw [hW1]; exact (Below.refl _ _).alloc (Nat.le_refl _) _)
  have HX1 : Hid (W1.heap[w.heap.size]? = some (.cells #[.int .i64 car, .int .i64 siz, .string root, .string sl, .slice a n cap] 38 (0, 0))) := Lib.hid (by rw [hW1]; exact heap_alloc_new w _)
  have HG1 := Lib.hid (genuine_any key car siz root sl W1 hk hr (HE.out.below HB1.out HG.out) (Nat.lt_of_lt_of_le HG.out HB1.out.size))
  have HGP : Hid (genuineB key ⟨car, siz, root, sl⟩ = true → ∃ s : Nat, siz = s ∧ s ≤ 60) := Lib.hid (fun g => by
    obtain ⟨_, _, ⟨a1, a2⟩, _⟩ := genuine_parts g
    simp only at a1 a2
    obtain ⟨m, hm⟩ := Int.eq_ofNat_of_zero_le a1
    exact ⟨m, hm, by omega⟩)
  generalize genuineB key ⟨car, siz, root, sl⟩ = g1 at *
  have HW1 := Lib.hid hW1
  clear hW1
  cases g1 with
  | false =>
    go_enter Tryz.func24, Tryz.ntmps24
    go_wp2_with fail
    rw [← HW1.out]
    refine HG1.out.mono ?_
    rintro e w3 ⟨rfl, hb3⟩
    go_wp2
    go_ret
    exact ⟨ret_bool (by rw [HR0.out]; rfl), HB1.out.trans (hb3.mono HB1.out.size)⟩
  | true =>
    obtain ⟨s, rfl, hs60⟩ := HGP.out rfl
    have HR : Hid (RR = itemsFrom root s ys 0) := Lib.hid (by rw [HR0.out]; rfl)
    clear HR0 HGP
    go_enter Tryz.func24, Tryz.ntmps24
    go_wp2_with fail
    rw [← HW1.out]
    refine HG1.out.mono ?_
    rintro e w3 ⟨rfl, hb3⟩
    have HB3 := Lib.hid (HB1.out.trans (hb3.mono HB1.out.size))
    have HX3 := Lib.hid ((hb3.block _ (Array.getElem?_eq_some_iff.1 HX1.out).1).trans HX1.out)
    have x4 : w3.cell? ⟨w.heap.size, 4, none⟩ = some (.slice a n cap) := cell_of_row w3 _ 4 _ _ _ HX3.out
    clear hb3 HG1 HX1 HB1 HW1
    go_wp2_with fail
    clear x4
    go_loopw [16] (fun i wr => ∃ k : Nat, k ≤ n ∧ i = .int .i64 k ∧ Hid (RR = itemsFrom root s ys k) ∧ Hid (Below w.heap.size w wr) ∧ Hid (wr.heap[w.heap.size]? = some (.cells #[.int .i64 car, .int .i64 s, .string root, .string sl, .slice a n cap] 38 (0, 0)))) (fun i _ => n - (intOf i).toNat)
    case atStart => exact ⟨0, by omega, rfl, HR, HB3, HX3⟩
    case round =>
      obtain ⟨k, hk', rfl, hR, hB, hX⟩ := hrel
      clear HR HB3 HX3
      by_cases hlt : k < n
      · obtain ⟨y, ey⟩ : ∃ y, ys[k]? = some y := ⟨_, List.getElem?_eq_getElem (by rw [← HN.out]; exact hlt)⟩
        obtain ⟨b, off, rfl, hb, c0, c1, c2⟩ := H3.out k y ey
        have d0 := cell_keepB hB.out hb c0
        have d1 := cell_keepB hB.out hb c1
        have d2 := cell_keepB hB.out hb c2
        clear c0 c1 c2
        have HSt := Lib.hid (itemsFrom_step root s ey)
        have HEY := Lib.hid ey
        have HM := Lib.hid (List.mem_of_getElem? ey)
        clear ey
        obtain ⟨⟨ix, en, pr⟩, pv⟩ := y
        simp only at d0 d1 d2 HSt
        have hss := HI.out.2 _ HM.out
        have HPl : Hid (pr.length ≤ 1000) := Lib.hid (HP.out _ HM.out)
        simp only at hss
        obtain ⟨pa, pc, rfl, _, _, _⟩ := hss.opened
        obtain ⟨pm, hpm⟩ : ∃ pm, pm = pr.length := ⟨_, rfl⟩
        rw [← hpm] at hss d2
        have HSS := Lib.hid hss
        clear hss hpm HM
        have hwr := hB.out.size
        go_wp2_with fail
        obtain ⟨W4, hW4⟩ : ∃ W4, W4 = wr.alloc (.cells #[.int .i64 ix, .string en, .slice pa pm pc] 53) := ⟨_, rfl⟩
        rw [← hW4]
        have HB4 : Hid (Below w.heap.size w W4) := Lib.hid (by rw [hW4]; exact hB.out.alloc hwr _)
        have HX4 : Hid (W4.heap[w.heap.size]? = some (.cells #[.int .i64 car, .int .i64 s, .string root, .string sl, .slice (some ⟨b, off, none⟩) n cap] 38 (0, 0))) := Lib.hid (by rw [hW4]; exact (Below.heap_alloc _ _ _ (Array.getElem?_eq_some_iff.1 hX.out).1).trans hX.out)
        have HY4 : Hid (W4.heap[wr.heap.size]? = some (.cells #[.int .i64 ix, .string en, .slice pa pm pc] 53 (0, 0))) := Lib.hid (by rw [hW4]; exact heap_alloc_new wr _)
        have HVf : Hid (en.size ≤ 1000 → ∀ W : World, Below w.heap.size w W → Calls Tryz.prog 60 #[.string root, .int .i64 s, .int .i64 ix, .string en, .slice pa pm pc] W fun e w' => e = .returned (.bool (verifyB root s ix en pr)) ∧ Below W.heap.size W w') := Lib.hid (fun hen W hW => by
          exact verify_all root en s ix (HSS.out.below hW) HPl.out (by omega) (HE.out.below hW HG.out) (Nat.lt_of_lt_of_le HG.out hW.size) (by omega))
        clear hW4 d0 d1 d2 hX
        obtain ⟨p, hp⟩ : ∃ p, p = wr.heap.size := ⟨_, rfl⟩
        rw [← hp] at HY4 ⊢
        have hpw : w.heap.size ≤ p := by omega
        clear hp hwr
        have x1 : W4.cell? ⟨w.heap.size, 1, none⟩ = some (.int .i64 s) := cell_of_row W4 _ 1 _ _ _ HX4.out
        have x2 : W4.cell? ⟨w.heap.size, 2, none⟩ = some (.string root) := cell_of_row W4 _ 2 _ _ _ HX4.out
        have x4 : W4.cell? ⟨w.heap.size, 4, none⟩ = some (.slice (some ⟨b, off, none⟩) n cap) := cell_of_row W4 _ 4 _ _ _ HX4.out
        have y0 : W4.cell? ⟨p, 0, none⟩ = some (.int .i64 ix) := cell_of_row W4 _ 0 _ _ _ HY4.out
        have y1 : W4.cell? ⟨p, 1, none⟩ = some (.string en) := cell_of_row W4 _ 1 _ _ _ HY4.out
        have y2 : W4.cell? ⟨p, 2, none⟩ = some (.slice pa pm pc) := cell_of_row W4 _ 2 _ _ _ HY4.out
        cases k with
        | zero =>
          have HAs : Hid (decide (∀ j, prevI ys 0 = some j → j < ix) = true) := Lib.hid (decide_eq_true (fun j h => by cases h))
          have HSt2 : Hid (RR = (decide (en.size ≤ 1000) && verifyB root s ix en pr && itemsFrom root s ys (0 + 1))) := Lib.hid (by rw [hR.out, HSt.out, HAs.out, Bool.true_and])
          clear HSt HAs
          go_quiet (fail)
          have z1 : (W4.drewN nq).cell? ⟨w.heap.size, 1, none⟩ = some (.int .i64 s) := x1
          have z2 : (W4.drewN nq).cell? ⟨w.heap.size, 2, none⟩ = some (.string root) := x2
          have z3 : (W4.drewN nq).cell? ⟨p, 0, none⟩ = some (.int .i64 ix) := y0
          have z4 : (W4.drewN nq).cell? ⟨p, 1, none⟩ = some (.string en) := y1
          have z5 : (W4.drewN nq).cell? ⟨p, 2, none⟩ = some (.slice pa pm pc) := y2
          have HBn : Hid (Below w.heap.size w (W4.drewN nq)) := Lib.hid (below_drewN HB4.out nq)
          have HXn : Hid ((W4.drewN nq).heap[w.heap.size]? = some (.cells #[.int .i64 car, .int .i64 s, .string root, .string sl, .slice (some ⟨b, off, none⟩) n cap] 38 (0, 0))) := HX4
          by_cases hen : en.size ≤ 1000
          · have he1 : decide ((1000 : Int) < (en.size : Int)) = false := decide_eq_false (by omega)
            have HV2 := Lib.hid (HVf.out hen _ HBn.out)
            have he2 : decide (en.size ≤ 1000) = true := decide_eq_true hen
            generalize verifyB root s ix en pr = vb at *
            cases vb with
            | false =>
              have HF : Hid (RR = false) := Lib.hid (by rw [HSt2.out, he2]; rfl)
              go_wp2_with (go_at_call 60; refine HV2.out.mono ?_; rintro e w5 ⟨rfl, hb5⟩)
              go_ret
              exact ⟨ret_bool HF.out.symm, HBn.out.trans (hb5.mono HBn.out.size)⟩
            | true =>
              have HF : Hid (RR = itemsFrom root s ys (0 + 1)) := Lib.hid (by rw [HSt2.out, he2]; rfl)
              go_wp2_with (go_at_call 60; refine HV2.out.mono ?_; rintro e w5 ⟨rfl, hb5⟩; have HB5 := Lib.hid (HBn.out.trans (hb5.mono HBn.out.size)); have HX5 := Lib.hid ((hb5.block _ (Array.getElem?_eq_some_iff.1 HXn.out).1).trans HXn.out); clear hb5)
              go_roundw
              case rel => exact ⟨0 + 1, by omega, by go_num, HF, HB5, HX5⟩
              case measure => simp [intOf]; omega
          · have he1 : decide ((1000 : Int) < (en.size : Int)) = true := decide_eq_true (by omega)
            have he2 : decide (en.size ≤ 1000) = false := decide_eq_false hen
            have HF : Hid (RR = false) := Lib.hid (by rw [HSt2.out, he2]; rfl)
            go_wp2
            go_ret
            exact ⟨ret_bool HF.out.symm, HBn.out⟩
        | succ j =>
          obtain ⟨y', ey'⟩ : ∃ y, ys[j]? = some y := ⟨_, List.getElem?_eq_getElem (by rw [← HN.out]; omega)⟩
          obtain ⟨b', off', eb, hb', c0, _, _⟩ := H3.out j y' ey'
          cases eb
          have v0 := cell_keepB HB4.out hb' c0
          clear c0
          have f1 : IntKind.i64.wrap (j : Int) = (j : Int) := IntWalk.i64_in _ (by omega)
          have b1 : (0 : Int) ≤ (j : Int) ∧ (j : Int) < (n : Int) := by omega
          have b0 : ((j : Int) + 1 == 0) = false := by simp; omega
          have bj : j < n := by omega
          have HPr : Hid (prevI ys (j + 1) = some y'.1.idx) := Lib.hid (by show ys[j]?.map _ = _; rw [ey']; rfl)
          clear ey'
          generalize y'.1.idx = iy at *
          obtain ⟨b11, b12⟩ := b1
          by_cases hlt2 : iy < ix
          · have hd : decide (iy < ix) = true := decide_eq_true hlt2
            have HAs : Hid (decide (∀ j', prevI ys (j + 1) = some j' → j' < ix) = true) := Lib.hid (decide_eq_true (fun j' h => by rw [HPr.out] at h; cases h; exact hlt2))
            clear hlt2
            have HSt2 : Hid (RR = (decide (en.size ≤ 1000) && verifyB root s ix en pr && itemsFrom root s ys ((j + 1) + 1))) := Lib.hid (by rw [hR.out, HSt.out, HAs.out, Bool.true_and])
            clear HSt HAs
            go_quiet (fail)
            have z1 : (W4.drewN nq).cell? ⟨w.heap.size, 1, none⟩ = some (.int .i64 s) := x1
            have z2 : (W4.drewN nq).cell? ⟨w.heap.size, 2, none⟩ = some (.string root) := x2
            have z3 : (W4.drewN nq).cell? ⟨p, 0, none⟩ = some (.int .i64 ix) := y0
            have z4 : (W4.drewN nq).cell? ⟨p, 1, none⟩ = some (.string en) := y1
            have z5 : (W4.drewN nq).cell? ⟨p, 2, none⟩ = some (.slice pa pm pc) := y2
            have HBn : Hid (Below w.heap.size w (W4.drewN nq)) := Lib.hid (below_drewN HB4.out nq)
            have HXn : Hid ((W4.drewN nq).heap[w.heap.size]? = some (.cells #[.int .i64 car, .int .i64 s, .string root, .string sl, .slice (some ⟨b, off, none⟩) n cap] 38 (0, 0))) := HX4
            by_cases hen : en.size ≤ 1000
            · have he1 : decide ((1000 : Int) < (en.size : Int)) = false := decide_eq_false (by omega)
              have HV2 := Lib.hid (HVf.out hen _ HBn.out)
              have he2 : decide (en.size ≤ 1000) = true := decide_eq_true hen
              generalize verifyB root s ix en pr = vb at *
              cases vb with
              | false =>
                have HF : Hid (RR = false) := Lib.hid (by rw [HSt2.out, he2]; rfl)
                go_wp2_with (go_at_call 60; refine HV2.out.mono ?_; rintro e w5 ⟨rfl, hb5⟩)
                go_ret
                exact ⟨ret_bool HF.out.symm, HBn.out.trans (hb5.mono HBn.out.size)⟩
              | true =>
                have HF : Hid (RR = itemsFrom root s ys ((j + 1) + 1)) := Lib.hid (by rw [HSt2.out, he2]; rfl)
                go_wp2_with (go_at_call 60; refine HV2.out.mono ?_; rintro e w5 ⟨rfl, hb5⟩; have HB5 := Lib.hid (HBn.out.trans (hb5.mono HBn.out.size)); have HX5 := Lib.hid ((hb5.block _ (Array.getElem?_eq_some_iff.1 HXn.out).1).trans HXn.out); clear hb5)
                go_roundw
                case rel => exact ⟨(j + 1) + 1, by omega, by go_num, HF, HB5, HX5⟩
                case measure => simp [intOf]; omega
            · have he1 : decide ((1000 : Int) < (en.size : Int)) = true := decide_eq_true (by omega)
              have he2 : decide (en.size ≤ 1000) = false := decide_eq_false hen
              have HF : Hid (RR = false) := Lib.hid (by rw [HSt2.out, he2]; rfl)
              go_wp2
              go_ret
              exact ⟨ret_bool HF.out.symm, HBn.out⟩
          · have hd : decide (iy < ix) = false := decide_eq_false hlt2
            have HF : Hid (RR = false) := Lib.hid (by
              rw [hR.out, HSt.out, decide_eq_false (fun h => hlt2 (h iy HPr.out))]
              rfl)
            clear hlt2
            go_quiet (fail)
            go_wp2
            go_ret
            exact ⟨ret_bool HF.out.symm, below_drewN HB4.out nq⟩
      · have ek : k = n := by omega
        have HT : Hid (RR = true) := Lib.hid (by rw [hR.out]; exact itemsFrom_end root s ys k (by rw [← HN.out]; omega))
        go_wp2
        go_ret
        exact ⟨ret_bool HT.out.symm, hB.out⟩
end Go.Proofs.YtinfpbkbnhcifaaGreatDoor
