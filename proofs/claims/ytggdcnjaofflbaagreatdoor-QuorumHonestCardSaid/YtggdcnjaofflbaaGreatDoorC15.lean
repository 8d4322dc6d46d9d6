/- Walk of package quorum: Check. The conditions: what the slices read as, the table of constants. -/
import Derived.Test.YtggdcnjaofflbaaGreatDoorC14
import Derived.Test.YtggdcnjaofflbaaGreatDoorC13
namespace Go.Proofs.YtggdcnjaofflbaaGreatDoor
open Go.RowKit Go.BigFrame

def chkP (ks : List ByteArray) (num stp : Int) (val : ByteArray) (before : Int) (v : VoteP) : Bool := ((decide (v.car ≤ before) || !decide (v.num = num ∧ v.stp = stp)) || !decide (v.val = val)) || !genV ks v
def prevC (l : List VoteP) : Nat → Int
  | 0 => -1
  | k + 1 => ((l[k]?).map (fun v => v.car)).getD 0
theorem chk_any {ks : List ByteArray} {num stp : Int} {val : ByteArray} {l : List VoteP} : (!(l.zipIdx.any fun y => chkP ks num stp val (prevC l y.2) y.1)) = (decide ((l.map fun v => v.car).Pairwise (· < ·)) && l.all fun v => decide (v.num = num ∧ v.stp = stp ∧ v.val = val) && genV ks v) := by
  rw [Bool.eq_iff_iff, Bool.not_eq_true', List.any_eq_false, Bool.and_eq_true, decide_eq_true_iff, List.all_eq_true]
  have key : ∀ v b, (¬ chkP ks num stp val b v = true) ↔ b < v.car ∧ ((v.num = num ∧ v.stp = stp ∧ v.val = val) ∧ genV ks v = true) := by
    intro v b
    unfold chkP
    rw [Bool.not_eq_true, Bool.or_eq_false_iff, Bool.or_eq_false_iff, Bool.or_eq_false_iff, decide_eq_false_iff_not, Bool.not_eq_false', Bool.not_eq_false', Bool.not_eq_false', decide_eq_true_iff, decide_eq_true_iff]
    constructor
    · rintro ⟨⟨⟨h1, h2⟩, h3⟩, h4⟩
      exact ⟨by omega, ⟨h2.1, h2.2, h3⟩, h4⟩
    · rintro ⟨h1, ⟨h2, h3, h4⟩, h5⟩
      exact ⟨⟨⟨by omega, h2, h3⟩, h4⟩, h5⟩
  have hmem : ∀ (k : Nat) (v : VoteP), l[k]? = some v → (v, k) ∈ l.zipIdx := fun k v h => by
    rw [List.mem_zipIdx_iff_getElem?]
    exact h
  constructor
  · intro h
    have h' : ∀ k v, l[k]? = some v → prevC l k < v.car ∧ ((v.num = num ∧ v.stp = stp ∧ v.val = val) ∧ genV ks v = true) := fun k v hv => (key v _).1 (h (v, k) (hmem k v hv))
    refine ⟨?_, fun v hv => ?_⟩
    · have hlt : ∀ j k : Nat, j < k → ∀ a b : VoteP, l[j]? = some a → l[k]? = some b → a.car < b.car := by
        intro j k hjk
        induction k with
        | zero => omega
        | succ k ih =>
          intro a b ha hb
          have h1 := (h' (k + 1) b hb).1
          obtain ⟨c, hc⟩ : ∃ c, l[k]? = some c := ⟨_, List.getElem?_eq_getElem (by have := (List.getElem?_eq_some_iff.1 hb).1; omega)⟩
          have h2 : prevC l (k + 1) = c.car := by show ((l[k]?).map (fun v => v.car)).getD 0 = c.car; rw [hc]; rfl
          rw [h2] at h1
          by_cases e : j = k
          · subst e
            rw [hc] at ha
            cases ha
            exact h1
          · have := ih (by omega) a c ha hc
            omega
      rw [List.pairwise_iff_getElem]
      intro i j hi hj hij
      rw [List.length_map] at hi hj
      rw [List.getElem_map, List.getElem_map]
      exact hlt i j hij _ _ (List.getElem?_eq_getElem hi) (List.getElem?_eq_getElem hj)
    · obtain ⟨k, hk⟩ := List.getElem?_of_mem hv
      have := (h' k v hk).2
      rw [Bool.and_eq_true, decide_eq_true_iff]
      exact this
  · rintro ⟨h1, h2⟩ ⟨v, k⟩ hm
    rw [List.mem_zipIdx_iff_getElem?] at hm
    have hm : l[k]? = some v := hm
    have h3 := h2 v (List.mem_of_getElem? hm)
    rw [Bool.and_eq_true, decide_eq_true_iff] at h3
    refine (key v _).2 ⟨?_, h3⟩
    cases k with
    | zero =>
      have := gen_facts h3.2
      show (-1 : Int) < _
      omega
    | succ k =>
      obtain ⟨c, hc⟩ : ∃ c, l[k]? = some c := ⟨_, List.getElem?_eq_getElem (by have := (List.getElem?_eq_some_iff.1 hm).1; omega)⟩
      have h4 : prevC l (k + 1) = c.car := by show ((l[k]?).map (fun v => v.car)).getD 0 = c.car; rw [hc]; rfl
      show prevC l (k + 1) < v.car
      rw [h4]
      rw [List.pairwise_iff_getElem] at h1
      have hk := (List.getElem?_eq_some_iff.1 hc)
      have hk' := (List.getElem?_eq_some_iff.1 hm)
      have := h1 k (k + 1) (by rw [List.length_map]; exact hk.1) (by rw [List.length_map]; exact hk'.1) (by omega)
      rw [List.getElem_map, List.getElem_map, hk.2, hk'.2] at this
      exact this

set_option maxHeartbeats 4000000 in
set_option maxRecDepth 100000 in
theorem checkfn_any {wd : World} {kv : Value} {ks : List ByteArray} (hr : SS wd kv ks) (hks : ∀ k ∈ ks, k.size ≤ 1000) (he : Env wd) (hg : 3 < wd.heap.size) (num stp : Int) (val : ByteArray) (before : Int) (b0 b1 b2 b3 : Nat) (v : VoteP) (W : World) (hW : Below wd.heap.size wd W) (hb0 : wd.heap.size ≤ b0)
    (h0 : W.heap[b0]? = some (.cells #[.int .i64 before] 3 (0, 0))) (h1 : W.heap[b1]? = some (.cells #[.int .i64 num, .int .i64 stp] 25 (0, 0))) (h2 : W.heap[b2]? = some (.cells #[.string val] 9 (0, 0))) (h3 : W.heap[b3]? = some (.cells #[kv] 31 (0, 0))) :
    Calls Tryz.prog 84 #[vagg v, .pointer (some ⟨b0, 0, none⟩), .pointer (some ⟨b1, 0, none⟩), .pointer (some ⟨b2, 0, none⟩), .pointer (some ⟨b3, 0, none⟩)] W fun e w' => e = .returned (.bool (chkP ks num stp val before v)) ∧ w'.heap[b0]? = some (.cells #[.int .i64 v.car] 3 (0, 0)) ∧ W.grownBy w' (some b0) := by
  obtain ⟨ka, kn, kc, rfl⟩ : ∃ a n c, kv = .slice a n c := by obtain ⟨a, c, h, _⟩ := hr.opened; exact ⟨_, _, _, h⟩
  have l0 := (Array.getElem?_eq_some_iff.1 h0).1
  have l1 := (Array.getElem?_eq_some_iff.1 h1).1
  have l2 := (Array.getElem?_eq_some_iff.1 h2).1
  have l3 := (Array.getElem?_eq_some_iff.1 h3).1
  have n01 : b1 ≠ b0 := fun e => by subst e; rw [h0] at h1; cases h1
  have n02 : b2 ≠ b0 := fun e => by subst e; rw [h0] at h2; cases h2
  have n03 : b3 ≠ b0 := fun e => by subst e; rw [h0] at h3; cases h3
  -- the world behind the store
  obtain ⟨W1, hW1⟩ : ∃ W1, W1 = W.alloc (.cells #[.int .i64 v.car, .int .i64 v.num, .int .i64 v.stp, .string v.val, .string v.sl] 27) := ⟨_, rfl⟩
  have HV1 : Hid (W1.heap[W.heap.size]? = some (.cells #[.int .i64 v.car, .int .i64 v.num, .int .i64 v.stp, .string v.val, .string v.sl] 27 (0, 0))) := Lib.hid (by rw [hW1]; exact heap_alloc_new W _)
  have hs1 : W1.heap.size = W.heap.size + 1 := by rw [hW1]; simp
  have HB1 : Hid (Below W.heap.size W W1) := Lib.hid (by rw [hW1]; exact (Below.refl _ _).alloc (Nat.le_refl _) _)
  have H10 := Lib.hid ((HB1.out.block b0 l0).trans h0)
  obtain ⟨W2, hW2⟩ : ∃ W2, W2 = W1.setCell ⟨b0, 0, none⟩ (.int .i64 v.car) := ⟨_, rfl⟩
  have hg2 : W1.grownBy W2 (some b0) := by rw [hW2]; exact grown_setCell (grown_refl _ _) _ (.inl rfl) _
  have H20 : Hid (W2.heap[b0]? = some (.cells #[.int .i64 v.car] 3 (0, 0))) := Lib.hid (by rw [hW2]; exact heap_setCell_same (i := 0) _ H10.out)
  have hk : ∀ (k : Nat) (o : Obj), W.heap[k]? = some o → k ≠ b0 → W2.heap[k]? = some o := fun k o hk hne => (hg2.block k (by rw [hs1]; have := (Array.getElem?_eq_some_iff.1 hk).1; omega) (fun e => hne (Option.some.inj e))).trans ((HB1.out.block k (Array.getElem?_eq_some_iff.1 hk).1).trans hk)
  have HS1 := Lib.hid (hk b1 _ h1 n01)
  have HS2 := Lib.hid (hk b2 _ h2 n02)
  have HS3 := Lib.hid (hk b3 _ h3 n03)
  have HSV : Hid (W2.heap[W.heap.size]? = some (.cells #[.int .i64 v.car, .int .i64 v.num, .int .i64 v.stp, .string v.val, .string v.sl] 27 (0, 0))) := Lib.hid ((hg2.block _ (by rw [hs1]; omega) (fun e => by have := Option.some.inj e; omega)).trans HV1.out)
  have hB2 : Below wd.heap.size wd W2 := ((hW.trans (HB1.out.mono hW.size)).grown hg2 (Nat.le_trans hW.size HB1.out.size) (fun j e => by cases e; exact hb0))
  have HG2 : Hid (W.grownBy W2 (some b0)) := Lib.hid ⟨hg2.os.trans HB1.out.os, hg2.tape.trans HB1.out.tape, hg2.output.trans HB1.out.output, Nat.le_trans HB1.out.size hg2.size, fun k hk hne => (hg2.block k (by rw [hs1]; omega) hne).trans (HB1.out.block k hk)⟩
  have HI := Lib.hid (isGen_any (hr.below hB2) hks v (he.below hB2 hg) (Nat.lt_of_lt_of_le hg hB2.size))
  have hsl := fun X => neqSlot v.num v.stp num stp X
  have hst := same_str v.val val
  have c0 : W1.cell? ⟨b0, 0, none⟩ = some (.int .i64 before) := cell_of_row W1 _ 0 _ _ _ H10.out
  have f0 : W1.frozen? ⟨b0, 0, none⟩ = false := by unfold World.frozen?; rw [H10.out]; simp
  have c1 : W2.cell? ⟨b1, 0, none⟩ = some (.int .i64 num) := cell_of_row W2 _ 0 _ _ _ HS1.out
  have c2 : W2.cell? ⟨b1, 1, none⟩ = some (.int .i64 stp) := cell_of_row W2 _ 1 _ _ _ HS1.out
  have c3 : W2.cell? ⟨b2, 0, none⟩ = some (.string val) := cell_of_row W2 _ 0 _ _ _ HS2.out
  have c4 : W2.cell? ⟨b3, 0, none⟩ = some (.slice ka kn kc) := cell_of_row W2 _ 0 _ _ _ HS3.out
  obtain ⟨e0, e1, e2, e3, e4⟩ := vcellsAt HSV.out
  obtain ⟨q0, q1, q2, q3, q4⟩ := vcellsAt HV1.out
  have HR : Hid (chkP ks num stp val before v = (((decide (v.car ≤ before) || !decide (v.num = num ∧ v.stp = stp)) || !decide (v.val = val)) || !genV ks v)) := Lib.hid rfl
  have HW1 := Lib.hid hW1
  have HW2 := Lib.hid hW2
  clear hr hks he hg hW hb0 h0 h1 h2 h3 hW1 hW2 hg2 hk hB2 n01 n02 n03
  unfold vagg
  generalize chkP ks num stp val before v = R at *
  generalize genV ks v = G at *
  obtain ⟨car, vn, vs, vv, vl⟩ := v
  simp only at HR HI hsl hst e0 e1 e2 e3 e4 q0 q1 q2 q3 q4 HW1 HW2 H20
  generalize decide (vn = num ∧ vs = stp) = D2 at *
  generalize decide (vv = val) = D3 at *
  cases hD : decide (car ≤ before) with
  | true =>
    rw [hD] at HR
    go_enter Tryz.func84, Tryz.ntmps84
    go_upto_region 1 with fail
    rw [← HW1.out]
    go_upto_region 3 with fail
    rw [← HW2.out]
    go_wp2
    go_ret
    exact ⟨ret_bool (by rw [HR.out]; rfl), H20.out, HG2.out⟩
  | false =>
    rw [hD] at HR
    cases D2
    · go_enter Tryz.func84, Tryz.ntmps84
      go_upto_region 1 with fail
      rw [← HW1.out]
      go_upto_region 3 with fail
      rw [← HW2.out]
      go_wp2
      go_ret
      exact ⟨ret_bool (by rw [HR.out]; rfl), H20.out, HG2.out⟩
    · cases D3
      · go_enter Tryz.func84, Tryz.ntmps84
        go_upto_region 1 with fail
        rw [← HW1.out]
        go_upto_region 3 with fail
        rw [← HW2.out]
        go_wp2
        go_ret
        exact ⟨ret_bool (by rw [HR.out]; rfl), H20.out, HG2.out⟩
      · go_enter Tryz.func84, Tryz.ntmps84
        go_upto_region 1 with fail
        rw [← HW1.out]
        go_upto_region 3 with fail
        rw [← HW2.out]
        go_wp2_with (go_at_call 65; refine HI.out.mono ?_; rintro e w3 ⟨rfl, hb3⟩)
        go_ret
        refine ⟨ret_bool (by rw [HR.out]; rfl), (hb3.block b0 (Array.getElem?_eq_some_iff.1 H20.out).1).trans H20.out, ?_⟩
        exact ⟨hb3.os.trans HG2.out.os, hb3.tape.trans HG2.out.tape, hb3.output.trans HG2.out.output, Nat.le_trans HG2.out.size hb3.size, fun k hk hne => (hb3.block k (Nat.lt_of_lt_of_le hk HG2.out.size)).trans (HG2.out.block k hk hne)⟩

set_option maxHeartbeats 4000000 in
set_option maxRecDepth 100000 in
theorem qcheck_any {w : World} {kv x : Value} {ks : List ByteArray} {l : List VoteP} (hr : SS w kv ks) (hl : VS w x l) (num stp : Int) (val : ByteArray) (he : Env w) (hg : 3 < w.heap.size) :
    Calls Tryz.prog 39 #[.agg #[kv], .agg #[.int .i64 num, .int .i64 stp], .string val, x] w fun e w' => e = .returned (.bool (checkV ks num stp val l)) ∧ Below w.heap.size w w' := by
  obtain ⟨ka, kcap, rfl, kl1, kl2, _⟩ := hr.opened
  obtain ⟨a, cap, rfl, l1, l2, _⟩ := hl.opened
  obtain ⟨W3, hW3⟩ : ∃ W3, W3 = ((w.alloc (.cells #[.slice ka ks.length kcap] 31)).alloc (.cells #[.int .i64 num, .int .i64 stp] 25)).alloc (.cells #[.string val] 9) := ⟨_, rfl⟩
  have hH : Below w.heap.size w W3 ∧ W3.heap.size = w.heap.size + 3 ∧ W3.heap[w.heap.size]? = some (.cells #[.slice ka ks.length kcap] 31 (0, 0)) ∧ W3.heap[w.heap.size + 1]? = some (.cells #[.int .i64 num, .int .i64 stp] 25 (0, 0)) ∧ W3.heap[w.heap.size + 1 + 1]? = some (.cells #[.string val] 9 (0, 0)) := by
    rw [hW3]
    have e := heap_alloc_new ((w.alloc (.cells #[.slice ka ks.length kcap] 31)).alloc (.cells #[.int .i64 num, .int .i64 stp] 25)) (.cells #[.string val] 9)
    rw [World.size_alloc, World.size_alloc] at e
    exact ⟨(((Below.refl _ _).alloc (Nat.le_refl _) _).alloc (by simp) _).alloc (by simp <;> omega) _, by simp, (Below.heap_alloc _ _ _ (by simp <;> omega)).trans (at_past w _ _), (Below.heap_alloc _ _ _ (by simp)).trans (at_second w _ _), e⟩
  obtain ⟨hB3, hs3, h30, h31, h32⟩ := hH
  have HB3 := Lib.hid hB3
  have HH3 := Lib.hid (And.intro h30 (And.intro h31 h32))
  have HV := Lib.hid (qvalid_any (hr.below hB3))
  have HRR := Lib.hid hr
  have HL := Lib.hid hl
  have HE := Lib.hid he
  have HG := Lib.hid hg
  have HW3 := Lib.hid hW3
  have HRes : Hid (checkV ks num stp val l = (validC ks && (decide (l.length = enoughC ks) && !(l.zipIdx.any fun y => chkP ks num stp val (prevC l y.2) y.1)))) := Lib.hid (by
    rw [chk_any]
    unfold checkV
    cases validC ks <;> cases decide (l.length = enoughC ks) <;> rfl)
  obtain ⟨kn, hkn⟩ : ∃ kn, kn = ks.length := ⟨_, rfl⟩
  rw [← hkn] at HV HW3 HH3 HRR kl1 ⊢
  obtain ⟨n, hn⟩ : ∃ n, n = l.length := ⟨_, rfl⟩
  rw [← hn] at HRes HL l1 ⊢
  generalize checkV ks num stp val l = R at *
  have c30 : W3.cell? ⟨w.heap.size, 0, none⟩ = some (.slice ka kn kcap) := cell_of_row W3 _ 0 _ _ _ HH3.out.1
  clear hB3 h30 h31 h32 hr hl he hg hW3
  cases hv : validC ks with
  | false =>
    rw [hv] at HV HRes
    clear hkn hn hv
    go_enter Tryz.func39, Tryz.ntmps39
    go_upto_region 1 with fail
    rw [← HW3.out]
    go_wp2_with (go_at_call 53; refine HV.out.mono ?_; rintro e w4 ⟨rfl, hb4⟩)
    go_ret
    exact ⟨ret_bool (by rw [HRes.out]; rfl), q_next HB3.out hb4⟩
  | true =>
    rw [hv] at HV HRes
    have hk7 := valid_le hv
    have HKS := Lib.hid (valid_sizes hv)
    obtain ⟨en, hen⟩ : ∃ en, en = 2 * ((kn - 1) / 3) + 1 := ⟨_, rfl⟩
    have HENC : Hid (∀ W, Calls Tryz.prog 79 #[.agg #[.slice ka kn kcap]] W fun e w' => e = .returned (.int .i64 ((en : Nat) : Int)) ∧ Below W.heap.size W w') := Lib.hid (fun W => by
      refine (enough_any ka kn kcap W (by omega)).mono ?_
      rintro e w' ⟨rfl, rfl⟩
      rw [hen]
      exact ⟨rfl, (Below.refl _ _).alloc (Nat.le_refl _) _⟩)
    have hee : enoughC ks = en := by rw [hen, hkn]; rfl
    rw [hee] at HRes
    clear hkn hv hen hee hk7
    cases hne : decide (n = en) with
    | false =>
      have hd : ((n : Int) != (en : Int)) = true := by have := of_decide_eq_false hne; simp; omega
      rw [hne] at HRes
      clear hn hne
      go_enter Tryz.func39, Tryz.ntmps39
      go_upto_region 1 with fail
      rw [← HW3.out]
      go_wp2_with (first | (go_at_call 53; refine HV.out.mono ?_; rintro e w4 ⟨rfl, hb4⟩; have HB4 := Lib.hid hb4; clear hb4; have c40 : w4.cell? ⟨w.heap.size, 0, none⟩ = some (.slice ka kn kcap) := cell_of_row w4 _ 0 _ _ _ ((HB4.out.block _ (by omega)).trans HH3.out.1)) | (go_at_call 79; refine (HENC.out _).mono ?_; rintro e w5 ⟨rfl, hb5⟩))
      go_ret
      exact ⟨ret_bool (by rw [HRes.out]; rfl), q_next HB3.out (q_next HB4.out hb5)⟩
    | true =>
      have hd : ((n : Int) != (en : Int)) = false := by have := of_decide_eq_true hne; simp; omega
      rw [hne] at HRes
      obtain ⟨X, hX⟩ : ∃ X, X = l.zipIdx.any fun y => chkP ks num stp val (prevC l y.2) y.1 := ⟨_, rfl⟩
      rw [← hX] at HRes
      have HX := Lib.hid hX
      clear hn hne hX
      go_enter Tryz.func39, Tryz.ntmps39
      go_upto_region 1 with fail
      rw [← HW3.out]
      go_upto_region 3 with (first | (go_at_call 53; refine HV.out.mono ?_; rintro e w4 ⟨rfl, hb4⟩; have HB4 := Lib.hid hb4; clear hb4; have c40 : w4.cell? ⟨w.heap.size, 0, none⟩ = some (.slice ka kn kcap) := cell_of_row w4 _ 0 _ _ _ ((HB4.out.block _ (by omega)).trans HH3.out.1)) | (go_at_call 79; refine (HENC.out _).mono ?_; rintro e w5 ⟨rfl, hb5⟩; have HB5 := Lib.hid (q_next HB4.out hb5); clear hb5))
      clear c40 c30
      go_upto_region 4 with fail
      obtain ⟨W6, hW6⟩ : ∃ W6, W6 = w5.alloc (.cells #[.int .i64 (-1)] 3) := ⟨_, rfl⟩
      rw [← hW6]
      have HB6 : Hid (Below W3.heap.size W3 W6) := Lib.hid (by rw [hW6]; exact HB5.out.alloc HB5.out.size _)
      have h60 : W6.heap[w5.heap.size]? = some (.cells #[.int .i64 (-1)] 3 (0, 0)) := by rw [hW6]; exact heap_alloc_new w5 _
      have hs5 := HB5.out.size
      clear hW6
      have hI6 : ∀ k W, (Below w.heap.size w W ∧ W.heap[w5.heap.size]? = some (.cells #[.int .i64 (prevC l k)] 3 (0, 0)) ∧ W.heap[w.heap.size]? = some (.cells #[.slice ka kn kcap] 31 (0, 0)) ∧ W.heap[w.heap.size + 1]? = some (.cells #[.int .i64 num, .int .i64 stp] 25 (0, 0)) ∧ W.heap[w.heap.size + 1 + 1]? = some (.cells #[.string val] 9 (0, 0))) → VS W (.slice a n cap) l := fun k W h => HL.out.below h.1
      have HC := containsV_check w5.heap.size (w.heap.size + 1) (w.heap.size + 1 + 1) w.heap.size (fun k v => chkP ks num stp val (prevC l k) v) _ (HL.out.below (q_next HB3.out HB6.out)) ⟨q_next HB3.out HB6.out, h60, (HB6.out.block _ (by omega)).trans HH3.out.1, (HB6.out.block _ (by omega)).trans HH3.out.2.1, (HB6.out.block _ (by omega)).trans HH3.out.2.2⟩ hI6 (fun k v W hv _ hW => by
        refine (checkfn_any HRR.out HKS.out HE.out HG.out num stp val (prevC l k) w5.heap.size (w.heap.size + 1) (w.heap.size + 1 + 1) w.heap.size v W hW.1 (by omega) hW.2.1 hW.2.2.2.1 hW.2.2.2.2 hW.2.2.1).mono ?_
        rintro e w' ⟨rfl, h1, h2⟩
        have hpv : prevC l (k + 1) = v.car := by show ((l[k]?).map (fun v => v.car)).getD 0 = v.car; rw [hv]; rfl
        have hkeep : ∀ (q : Nat) (o : Obj), W.heap[q]? = some o → q ≠ w5.heap.size → w'.heap[q]? = some o := fun q o hq hne => (h2.block q (Array.getElem?_eq_some_iff.1 hq).1 (fun e => hne (Option.some.inj e))).trans hq
        refine ⟨rfl, hW.1.grown h2 hW.1.size (fun j e => by cases e; omega), ?_, hkeep _ _ hW.2.2.1 (by omega), hkeep _ _ hW.2.2.2.1 (by omega), hkeep _ _ hW.2.2.2.2 (by omega)⟩
        rw [hpv]
        exact h1)
      rw [← HX.out] at HC
      have HCC := Lib.hid HC
      clear HC hI6 h60 HX
      go_wp2_with (go_at_call 67; refine HCC.out.mono ?_; rintro e w7 ⟨rfl, m, h7, _⟩)
      go_ret
      exact ⟨ret_bool (by rw [HRes.out]; rfl), h7⟩
end Go.Proofs.YtggdcnjaofflbaaGreatDoor

/- Walk of package quorum: Blame. The conditions: what the slices read as, the table of constants. -/
namespace Go.Proofs.YtggdcnjaofflbaaGreatDoor
open Go.RowKit Go.BigFrame

def BlameIs (w : World) (o : Option (List (VoteP × VoteP))) (e : Ending) (w' : World) : Prop := ∃ v, e = .returned (.tuple #[v, .int .i64 (if o.isSome then 0 else 190)]) ∧ DS w' v (o.getD []) ∧ Below w.heap.size w w'
theorem blameIs_none {w w' : World} {e : Ending} (h : e = .returned (.tuple #[.slice none 0 0, .int .i64 190])) (hb : Below w.heap.size w w') : BlameIs w none e w' := ⟨_, h, DS.nil _, hb⟩
theorem blameV_nil2 (ks : List ByteArray) (a : List VoteP) : blameV ks a [] = none := by cases a <;> rfl

set_option maxHeartbeats 8000000 in
set_option maxRecDepth 100000 in
theorem blame_short {w : World} {kv x y : Value} {ks : List ByteArray} {a b : List VoteP} (ha : VS w x a) (hb : VS w y b) (hk : ∃ p n c, kv = .slice p n c) (h : a = [] ∨ b = []) :
    Calls Tryz.prog 31 #[.agg #[kv], x, y] w (BlameIs w (blameV ks a b)) := by
  obtain ⟨ka, kn, kc, rfl⟩ := hk
  obtain ⟨aa, ac, rfl, _, _, _⟩ := ha.opened
  obtain ⟨ba, bc, rfl, _, _, _⟩ := hb.opened
  have HN : Hid (blameV ks a b = none) := Lib.hid (by
    rcases h with h | h
    · subst h; rfl
    · subst h; exact blameV_nil2 _ _)
  obtain ⟨W1, hW1⟩ : ∃ W1, W1 = w.alloc (.cells #[.slice ka kn kc] 31) := ⟨_, rfl⟩
  have HB1 : Hid (Below w.heap.size w W1) := Lib.hid (by rw [hW1]; exact (Below.refl _ _).alloc (Nat.le_refl _) _)
  have HW1 := Lib.hid hW1
  have hcase : (a.length = 0) ∨ (a.length ≠ 0 ∧ b.length = 0) := by
    rcases h with h | h
    · exact .inl (by rw [h]; rfl)
    · by_cases e : a.length = 0
      · exact .inl e
      · exact .inr ⟨e, by rw [h]; rfl⟩
  clear ha hb h hW1
  generalize a.length = na at *
  generalize b.length = nb at *
  rcases hcase with rfl | ⟨hna, rfl⟩
  · go_enter Tryz.func31, Tryz.ntmps31
    go_upto_region 1 with fail
    rw [← HW1.out]
    refine wp_region_noPanic ?_
    refine wp_region_lexB [.q 0, .q 1, .q 2, .q 3, .q 4, .q 5, .q 6, .q 7, .q 8, .q 9, .q 10, .q 11, .q 12, .q 13, .q 14, .q 15, .q 16, .q 17, .q 18, .q 19, .q 20, .q 21, .q 22, .q 23, .q 24, .q 25, .q 26, .q 27, .q 28, .q 29, .q 30, .q 31, .q 32, .q 33, .q 34, .q 35, .q 36, .q 37, .q 38, .q 39, .q 40, .q 41, .q 42, .q 43, .q 44, .q 45, .q 46, .q 47, .q 48, .q 49, .q 50, .q 51, .q 52, .q 53, .q 54, .q 55, .q 56, .q 57] (by kernel_rfl) (by kernel_rfl) (fun _ _ _ _ h => h) ?_
    iterate 4 (refine wpFl_qL (v := ?_) rfl (Or.inl ⟨by rfl, ?_⟩) ?_; rotate_left; (focus (intro w' hSw; (try dsimp only [OldKept] at hSw); go_simp; (try with_reducible rfl); done)); simp only [Act.put, List.setIfInBounds_toArray, List.set_cons_zero, List.set_cons_succ])
    iterate 3 (refine wpFl_qL (v := undef) rfl (Or.inr ⟨by rfl, rfl⟩) ?_; simp only [Act.put, List.setIfInBounds_toArray, List.set_cons_zero, List.set_cons_succ])
    refine wpFl_qL (v := ?_) rfl (Or.inl ⟨by rfl, ?_⟩) ?_
    rotate_left
    focus (intro w' hSw; (try dsimp only [OldKept] at hSw); go_simp; (try with_reducible rfl); done)
    simp only [Act.put, List.setIfInBounds_toArray, List.set_cons_zero, List.set_cons_succ]
    refine wpFl_qL (v := ?_) rfl (Or.inl ⟨by rfl, ?_⟩) ?_
    rotate_left
    focus (intro w' hSw; (try dsimp only [OldKept] at hSw); go_simp; (try with_reducible rfl); done)
    simp only [Act.put, List.setIfInBounds_toArray, List.set_cons_zero, List.set_cons_succ]
    iterate 9 (refine wpFl_qL (v := undef) rfl (Or.inr ⟨by rfl, rfl⟩) ?_; simp only [Act.put, List.setIfInBounds_toArray, List.set_cons_zero, List.set_cons_succ])
    refine wpFl_qL (v := ?_) rfl (Or.inl ⟨by rfl, ?_⟩) ?_
    rotate_left
    focus (intro w' hSw; (try dsimp only [OldKept] at hSw); go_simp; (try with_reducible rfl); done)
    simp only [Act.put, List.setIfInBounds_toArray, List.set_cons_zero, List.set_cons_succ]
    refine wpFl_qL (v := ?_) rfl (Or.inl ⟨by rfl, ?_⟩) ?_
    rotate_left
    focus (intro w' hSw; (try dsimp only [OldKept] at hSw); go_simp; (try with_reducible rfl); done)
    simp only [Act.put, List.setIfInBounds_toArray, List.set_cons_zero, List.set_cons_succ]
    iterate 9 (refine wpFl_qL (v := undef) rfl (Or.inr ⟨by rfl, rfl⟩) ?_; simp only [Act.put, List.setIfInBounds_toArray, List.set_cons_zero, List.set_cons_succ])
    refine wpFl_qL (v := ?_) rfl (Or.inl ⟨by rfl, ?_⟩) ?_
    rotate_left
    focus (intro w' hSw; (try dsimp only [OldKept] at hSw); go_simp; (try with_reducible rfl); done)
    simp only [Act.put, List.setIfInBounds_toArray, List.set_cons_zero, List.set_cons_succ]
    refine wpFl_qL (v := ?_) rfl (Or.inl ⟨by rfl, ?_⟩) ?_
    rotate_left
    focus (intro w' hSw; (try dsimp only [OldKept] at hSw); go_simp; (try with_reducible rfl); done)
    simp only [Act.put, List.setIfInBounds_toArray, List.set_cons_zero, List.set_cons_succ]
    iterate 12 (refine wpFl_qL (v := undef) rfl (Or.inr ⟨by rfl, rfl⟩) ?_; simp only [Act.put, List.setIfInBounds_toArray, List.set_cons_zero, List.set_cons_succ])
    refine wpFl_qL (v := ?_) rfl (Or.inl ⟨by rfl, ?_⟩) ?_
    rotate_left
    focus (intro w' hSw; (try dsimp only [OldKept] at hSw); go_simp; (try with_reducible rfl); done)
    simp only [Act.put, List.setIfInBounds_toArray, List.set_cons_zero, List.set_cons_succ]
    refine wpFl_qL (v := ?_) rfl (Or.inl ⟨by rfl, ?_⟩) ?_
    rotate_left
    focus (intro w' hSw; (try dsimp only [OldKept] at hSw); go_simp; (try with_reducible rfl); done)
    simp only [Act.put, List.setIfInBounds_toArray, List.set_cons_zero, List.set_cons_succ]
    iterate 12 (refine wpFl_qL (v := undef) rfl (Or.inr ⟨by rfl, rfl⟩) ?_; simp only [Act.put, List.setIfInBounds_toArray, List.set_cons_zero, List.set_cons_succ])
    refine wpFl_qL (v := ?_) rfl (Or.inl ⟨by rfl, ?_⟩) ?_
    rotate_left
    focus (intro w' hSw; (try dsimp only [OldKept] at hSw); go_simp; (try with_reducible rfl); done)
    simp only [Act.put, List.setIfInBounds_toArray, List.set_cons_zero, List.set_cons_succ]
    refine wpFl_nil ?_
    refine NoPanic.normal ?_
    go_wp2
    go_ret2
    rw [HN.out]
    exact blameIs_none rfl (q_next HB1.out (Below.drew (Below.refl _ _)))
  · have hd : ((na : Int) == 0) = false := by simp; omega
    go_enter Tryz.func31, Tryz.ntmps31
    go_upto_region 1 with fail
    rw [← HW1.out]
    refine wp_region_noPanic ?_
    refine wp_region_lexB [.q 0, .q 1, .q 2, .q 3, .q 4, .q 5, .q 6, .q 7, .q 8, .q 9, .q 10, .q 11, .q 12, .q 13, .q 14, .q 15, .q 16, .q 17, .q 18, .q 19, .q 20, .q 21, .q 22, .q 23, .q 24, .q 25, .q 26, .q 27, .q 28, .q 29, .q 30, .q 31, .q 32, .q 33, .q 34, .q 35, .q 36, .q 37, .q 38, .q 39, .q 40, .q 41, .q 42, .q 43, .q 44, .q 45, .q 46, .q 47, .q 48, .q 49, .q 50, .q 51, .q 52, .q 53, .q 54, .q 55, .q 56, .q 57] (by kernel_rfl) (by kernel_rfl) (fun _ _ _ _ h => h) ?_
    iterate 4 (refine wpFl_qL (v := ?_) rfl (Or.inl ⟨by rfl, ?_⟩) ?_; rotate_left; (focus (intro w' hSw; (try dsimp only [OldKept] at hSw); go_simp; (try with_reducible rfl); done)); simp only [Act.put, List.setIfInBounds_toArray, List.set_cons_zero, List.set_cons_succ])
    iterate 3 (refine wpFl_qL (v := ?_) rfl (Or.inl ⟨by rfl, ?_⟩) ?_; rotate_left; (focus (intro w' hSw; (try dsimp only [OldKept] at hSw); go_simp; (try with_reducible rfl); done)); simp only [Act.put, List.setIfInBounds_toArray, List.set_cons_zero, List.set_cons_succ])
    refine wpFl_qL (v := ?_) rfl (Or.inl ⟨by rfl, ?_⟩) ?_
    rotate_left
    focus (intro w' hSw; (try dsimp only [OldKept] at hSw); go_simp; (try with_reducible rfl); done)
    simp only [Act.put, List.setIfInBounds_toArray, List.set_cons_zero, List.set_cons_succ]
    refine wpFl_qL (v := ?_) rfl (Or.inl ⟨by rfl, ?_⟩) ?_
    rotate_left
    focus (intro w' hSw; (try dsimp only [OldKept] at hSw); go_simp; (try with_reducible rfl); done)
    simp only [Act.put, List.setIfInBounds_toArray, List.set_cons_zero, List.set_cons_succ]
    iterate 9 (refine wpFl_qL (v := undef) rfl (Or.inr ⟨by rfl, rfl⟩) ?_; simp only [Act.put, List.setIfInBounds_toArray, List.set_cons_zero, List.set_cons_succ])
    refine wpFl_qL (v := ?_) rfl (Or.inl ⟨by rfl, ?_⟩) ?_
    rotate_left
    focus (intro w' hSw; (try dsimp only [OldKept] at hSw); go_simp; (try with_reducible rfl); done)
    simp only [Act.put, List.setIfInBounds_toArray, List.set_cons_zero, List.set_cons_succ]
    refine wpFl_qL (v := ?_) rfl (Or.inl ⟨by rfl, ?_⟩) ?_
    rotate_left
    focus (intro w' hSw; (try dsimp only [OldKept] at hSw); go_simp; (try with_reducible rfl); done)
    simp only [Act.put, List.setIfInBounds_toArray, List.set_cons_zero, List.set_cons_succ]
    iterate 9 (refine wpFl_qL (v := undef) rfl (Or.inr ⟨by rfl, rfl⟩) ?_; simp only [Act.put, List.setIfInBounds_toArray, List.set_cons_zero, List.set_cons_succ])
    refine wpFl_qL (v := ?_) rfl (Or.inl ⟨by rfl, ?_⟩) ?_
    rotate_left
    focus (intro w' hSw; (try dsimp only [OldKept] at hSw); go_simp; (try with_reducible rfl); done)
    simp only [Act.put, List.setIfInBounds_toArray, List.set_cons_zero, List.set_cons_succ]
    refine wpFl_qL (v := ?_) rfl (Or.inl ⟨by rfl, ?_⟩) ?_
    rotate_left
    focus (intro w' hSw; (try dsimp only [OldKept] at hSw); go_simp; (try with_reducible rfl); done)
    simp only [Act.put, List.setIfInBounds_toArray, List.set_cons_zero, List.set_cons_succ]
    iterate 12 (refine wpFl_qL (v := undef) rfl (Or.inr ⟨by rfl, rfl⟩) ?_; simp only [Act.put, List.setIfInBounds_toArray, List.set_cons_zero, List.set_cons_succ])
    refine wpFl_qL (v := ?_) rfl (Or.inl ⟨by rfl, ?_⟩) ?_
    rotate_left
    focus (intro w' hSw; (try dsimp only [OldKept] at hSw); go_simp; (try with_reducible rfl); done)
    simp only [Act.put, List.setIfInBounds_toArray, List.set_cons_zero, List.set_cons_succ]
    refine wpFl_qL (v := ?_) rfl (Or.inl ⟨by rfl, ?_⟩) ?_
    rotate_left
    focus (intro w' hSw; (try dsimp only [OldKept] at hSw); go_simp; (try with_reducible rfl); done)
    simp only [Act.put, List.setIfInBounds_toArray, List.set_cons_zero, List.set_cons_succ]
    iterate 12 (refine wpFl_qL (v := undef) rfl (Or.inr ⟨by rfl, rfl⟩) ?_; simp only [Act.put, List.setIfInBounds_toArray, List.set_cons_zero, List.set_cons_succ])
    refine wpFl_qL (v := ?_) rfl (Or.inl ⟨by rfl, ?_⟩) ?_
    rotate_left
    focus (intro w' hSw; (try dsimp only [OldKept] at hSw); go_simp; (try with_reducible rfl); done)
    simp only [Act.put, List.setIfInBounds_toArray, List.set_cons_zero, List.set_cons_succ]
    refine wpFl_nil ?_
    refine NoPanic.normal ?_
    go_wp2
    go_ret2
    rw [HN.out]
    exact blameIs_none rfl (q_next HB1.out (Below.drew (Below.refl _ _)))
end Go.Proofs.YtggdcnjaofflbaaGreatDoor

/- Walk of package quorum: Blame at two lists that have an element. The conditions: what the slices read as, the table of constants. -/
namespace Go.Proofs.YtggdcnjaofflbaaGreatDoor
open Go.RowKit Go.BigFrame

theorem blameV_bad {ks : List ByteArray} {v u : VoteP} {ta tb : List VoteP} (h : ¬ ((v.num = u.num ∧ v.stp = u.stp) ∧ v.val ≠ u.val ∧ checkV ks v.num v.stp v.val (v :: ta) = true ∧ checkV ks u.num u.stp u.val (u :: tb) = true)) : blameV ks (v :: ta) (u :: tb) = none := by
  unfold blameV
  simp only
  rw [if_neg h]
theorem VAt.cells0 {W : World} {b o : Nat} {v : VoteP} (h : VAt W b (o + 0 * 5) v) : W.cell? ⟨b, o, none⟩ = some (.int .i64 v.car) ∧ W.cell? ⟨b, o + 1, none⟩ = some (.int .i64 v.num) ∧ W.cell? ⟨b, o + 2, none⟩ = some (.int .i64 v.stp) ∧ W.cell? ⟨b, o + 3, none⟩ = some (.string v.val) ∧ W.cell? ⟨b, o + 4, none⟩ = some (.string v.sl) := by
  rw [Nat.zero_mul, Nat.add_zero] at h
  exact h
set_option maxHeartbeats 16000000 in
set_option maxRecDepth 100000 in
theorem blame_bad {w : World} {kv x y : Value} {ks : List ByteArray} {v u : VoteP} {ta tb : List VoteP} (hr : SS w kv ks) (ha : VS w x (v :: ta)) (hb : VS w y (u :: tb)) (he : Env w) (hg : 3 < w.heap.size)
    (hbad : ¬ ((v.num = u.num ∧ v.stp = u.stp) ∧ v.val ≠ u.val ∧ checkV ks v.num v.stp v.val (v :: ta) = true ∧ checkV ks u.num u.stp u.val (u :: tb) = true)) :
    Calls Tryz.prog 31 #[.agg #[kv], x, y] w (BlameIs w (blameV ks (v :: ta) (u :: tb))) := by
  obtain ⟨ka, kn, kc, rfl⟩ : ∃ a n c, kv = .slice a n c := by obtain ⟨a, c, h, _⟩ := hr.opened; exact ⟨_, _, _, h⟩
  obtain ⟨aa, ac, rfl, al1, al2, al3⟩ := ha.opened
  obtain ⟨ba, bc, rfl, bl1, bl2, bl3⟩ := hb.opened
  obtain ⟨ab, ao, rfl, hab, hac⟩ := al3 0 v rfl
  obtain ⟨bb, bo, rfl, hbb, hbc⟩ := bl3 0 u rfl
  have HN := Lib.hid (blameV_bad hbad)
  obtain ⟨W1, hW1⟩ : ∃ W1, W1 = w.alloc (.cells #[.slice ka kn kc] 31) := ⟨_, rfl⟩
  have HB1 : Hid (Below w.heap.size w W1) := Lib.hid (by rw [hW1]; exact (Below.refl _ _).alloc (Nat.le_refl _) _)
  have HH1 : Hid (W1.heap[w.heap.size]? = some (.cells #[.slice ka kn kc] 31 (0, 0))) := Lib.hid (by rw [hW1]; exact heap_alloc_new w _)
  have HC1 : Hid (∀ W, Below W1.heap.size W1 W → W.cell? ⟨w.heap.size, 0, none⟩ = some (.slice ka kn kc) ∧ (W.cell? ⟨ab, ao, none⟩ = some (.int .i64 v.car) ∧ W.cell? ⟨ab, ao + 1, none⟩ = some (.int .i64 v.num) ∧ W.cell? ⟨ab, ao + 2, none⟩ = some (.int .i64 v.stp) ∧ W.cell? ⟨ab, ao + 3, none⟩ = some (.string v.val) ∧ W.cell? ⟨ab, ao + 4, none⟩ = some (.string v.sl)) ∧ (W.cell? ⟨bb, bo, none⟩ = some (.int .i64 u.car) ∧ W.cell? ⟨bb, bo + 1, none⟩ = some (.int .i64 u.num) ∧ W.cell? ⟨bb, bo + 2, none⟩ = some (.int .i64 u.stp) ∧ W.cell? ⟨bb, bo + 3, none⟩ = some (.string u.val) ∧ W.cell? ⟨bb, bo + 4, none⟩ = some (.string u.sl))) := Lib.hid (fun W hW =>
    ⟨cell_of_row W _ 0 _ _ _ ((hW.block _ (Array.getElem?_eq_some_iff.1 HH1.out).1).trans HH1.out), (VAt.keep hac (q_next HB1.out hW) hab).cells0, (VAt.keep hbc (q_next HB1.out hW) hbb).cells0⟩)
  have HKA : Hid (∀ W, Below w.heap.size w W → Calls Tryz.prog 39 #[.agg #[.slice ka kn kc], .agg #[.int .i64 v.num, .int .i64 v.stp], .string v.val, .slice (some ⟨ab, ao, none⟩) (v :: ta).length ac] W fun e w' => e = .returned (.bool (checkV ks v.num v.stp v.val (v :: ta))) ∧ Below W.heap.size W w') := Lib.hid (fun W hW => qcheck_any (hr.below hW) (ha.below hW) _ _ _ (he.below hW hg) (Nat.lt_of_lt_of_le hg hW.size))
  have HKB : Hid (∀ W, Below w.heap.size w W → Calls Tryz.prog 39 #[.agg #[.slice ka kn kc], .agg #[.int .i64 u.num, .int .i64 u.stp], .string u.val, .slice (some ⟨bb, bo, none⟩) (u :: tb).length bc] W fun e w' => e = .returned (.bool (checkV ks u.num u.stp u.val (u :: tb))) ∧ Below W.heap.size W w') := Lib.hid (fun W hW => qcheck_any (hr.below hW) (hb.below hW) _ _ _ (he.below hW hg) (Nat.lt_of_lt_of_le hg hW.size))
  have HW1 := Lib.hid hW1
  have hsl := fun X => neqSlot v.num v.stp u.num u.stp X
  have hst := same_str v.val u.val
  have hna : (((v :: ta).length : Int) == 0) = false := by simp; omega
  have hnb : (((u :: tb).length : Int) == 0) = false := by simp; omega
  have hpa : 0 < (v :: ta).length := by simp
  have hpb : 0 < (u :: tb).length := by simp
  obtain ⟨D2, hD2⟩ : ∃ D2, D2 = decide (v.num = u.num ∧ v.stp = u.stp) := ⟨_, rfl⟩
  obtain ⟨D3, hD3⟩ : ∃ D3, D3 = decide (v.val = u.val) := ⟨_, rfl⟩
  obtain ⟨D4, hD4⟩ : ∃ D4, D4 = checkV ks v.num v.stp v.val (v :: ta) := ⟨_, rfl⟩
  obtain ⟨D5, hD5⟩ : ∃ D5, D5 = checkV ks u.num u.stp u.val (u :: tb) := ⟨_, rfl⟩
  have hd : D2 = false ∨ (D2 = true ∧ D3 = true) ∨ (D2 = true ∧ D3 = false ∧ D4 = false) ∨ (D2 = true ∧ D3 = false ∧ D4 = true ∧ D5 = false) := by
    cases h2 : D2
    · exact .inl rfl
    · cases h3 : D3
      · cases h4 : D4
        · exact .inr (.inr (.inl ⟨rfl, rfl, rfl⟩))
        · cases h5 : D5
          · exact .inr (.inr (.inr ⟨rfl, rfl, rfl, rfl⟩))
          · exact absurd ⟨of_decide_eq_true (hD2.symm.trans h2), of_decide_eq_false (hD3.symm.trans h3), hD4.symm.trans h4, hD5.symm.trans h5⟩ hbad
      · exact .inr (.inl ⟨rfl, rfl⟩)
  rw [← hD2] at hsl
  rw [← hD3] at hst
  rw [← hD4] at HKA
  rw [← hD5] at HKB
  clear hD2 hD3 hD4 hD5 hbad hr ha hb he hg al3 bl3 hac hbc hW1 HH1 al1 al2 bl1 bl2 hab hbb
  generalize (v :: ta).length = na at *
  generalize (u :: tb).length = nb at *
  have hpa' : (0 : Int) < (na : Int) := by omega
  have hpb' : (0 : Int) < (nb : Int) := by omega
  generalize hBV : blameV ks (v :: ta) (u :: tb) = RES at *
  have HBV := Lib.hid hBV
  clear hBV
  obtain ⟨vc, vn, vs, vv, vl⟩ := v
  obtain ⟨uc, un, us, uv, ul⟩ := u
  simp only at HC1 HKA HKB hsl hst
  rcases hd with rfl | ⟨rfl, rfl⟩ | ⟨rfl, rfl, rfl⟩ | ⟨rfl, rfl, rfl, rfl⟩
  · go_enter Tryz.func31, Tryz.ntmps31
    go_upto_region 1 with fail
    rw [← HW1.out]
    refine wp_region_noPanic ?_
    refine wp_region_lexB [.q 0, .q 1, .q 2, .q 3, .q 4, .q 5, .q 6, .q 7, .q 8, .q 9, .q 10, .q 11, .q 12, .q 13, .q 14, .q 15, .q 16, .q 17, .q 18, .q 19, .q 20, .q 21, .q 22, .q 23, .q 24, .q 25, .q 26, .q 27, .q 28, .q 29, .q 30, .q 31, .q 32, .q 33, .q 34, .q 35, .q 36, .q 37, .q 38, .q 39, .q 40, .q 41, .q 42, .q 43, .q 44, .q 45, .q 46, .q 47, .q 48, .q 49, .q 50, .q 51, .q 52, .q 53, .q 54, .q 55, .q 56, .q 57] (by kernel_rfl) (by kernel_rfl) (fun _ _ _ _ h => h) ?_
    iterate 4 (refine wpFl_qL (v := ?_) rfl (Or.inl ⟨by rfl, ?_⟩) ?_; rotate_left; (focus (intro w' hSw; (try dsimp only [OldKept] at hSw); obtain ⟨k0, ⟨a0, a1, a2, a3, a4⟩, b0, b1, b2, b3, b4⟩ := HC1.out w' hSw; go_simp; (try with_reducible rfl); done)); simp only [Act.put, List.setIfInBounds_toArray, List.set_cons_zero, List.set_cons_succ])
    iterate 3 (refine wpFl_qL (v := ?_) rfl (Or.inl ⟨by rfl, ?_⟩) ?_; rotate_left; (focus (intro w' hSw; (try dsimp only [OldKept] at hSw); obtain ⟨k0, ⟨a0, a1, a2, a3, a4⟩, b0, b1, b2, b3, b4⟩ := HC1.out w' hSw; go_simp; (try with_reducible rfl); done)); simp only [Act.put, List.setIfInBounds_toArray, List.set_cons_zero, List.set_cons_succ])
    refine wpFl_qL (v := ?_) rfl (Or.inl ⟨by rfl, ?_⟩) ?_
    rotate_left
    focus (intro w' hSw; (try dsimp only [OldKept] at hSw); go_simp; (try with_reducible rfl); done)
    simp only [Act.put, List.setIfInBounds_toArray, List.set_cons_zero, List.set_cons_succ]
    refine wpFl_qL (v := ?_) rfl (Or.inl ⟨by rfl, ?_⟩) ?_
    rotate_left
    focus (intro w' hSw; (try dsimp only [OldKept] at hSw); go_simp; (try with_reducible rfl); done)
    simp only [Act.put, List.setIfInBounds_toArray, List.set_cons_zero, List.set_cons_succ]
    iterate 9 (refine wpFl_qL (v := ?_) rfl (Or.inl ⟨by rfl, ?_⟩) ?_; rotate_left; (focus (intro w' hSw; (try dsimp only [OldKept] at hSw); obtain ⟨k0, ⟨a0, a1, a2, a3, a4⟩, b0, b1, b2, b3, b4⟩ := HC1.out w' hSw; go_simp; (try with_reducible rfl); done)); simp only [Act.put, List.setIfInBounds_toArray, List.set_cons_zero, List.set_cons_succ])
    refine wpFl_qL (v := ?_) rfl (Or.inl ⟨by rfl, ?_⟩) ?_
    rotate_left
    focus (intro w' hSw; (try dsimp only [OldKept] at hSw); go_simp; (try with_reducible rfl); done)
    simp only [Act.put, List.setIfInBounds_toArray, List.set_cons_zero, List.set_cons_succ]
    refine wpFl_qL (v := ?_) rfl (Or.inl ⟨by rfl, ?_⟩) ?_
    rotate_left
    focus (intro w' hSw; (try dsimp only [OldKept] at hSw); go_simp; (try with_reducible rfl); done)
    simp only [Act.put, List.setIfInBounds_toArray, List.set_cons_zero, List.set_cons_succ]
    iterate 9 (refine wpFl_qL (v := undef) rfl (Or.inr ⟨by rfl, rfl⟩) ?_; simp only [Act.put, List.setIfInBounds_toArray, List.set_cons_zero, List.set_cons_succ])
    refine wpFl_qL (v := ?_) rfl (Or.inl ⟨by rfl, ?_⟩) ?_
    rotate_left
    focus (intro w' hSw; (try dsimp only [OldKept] at hSw); go_simp; (try with_reducible rfl); done)
    simp only [Act.put, List.setIfInBounds_toArray, List.set_cons_zero, List.set_cons_succ]
    refine wpFl_qL (v := ?_) rfl (Or.inl ⟨by rfl, ?_⟩) ?_
    rotate_left
    focus (intro w' hSw; (try dsimp only [OldKept] at hSw); go_simp; (try with_reducible rfl); done)
    simp only [Act.put, List.setIfInBounds_toArray, List.set_cons_zero, List.set_cons_succ]
    iterate 12 (refine wpFl_qL (v := undef) rfl (Or.inr ⟨by rfl, rfl⟩) ?_; simp only [Act.put, List.setIfInBounds_toArray, List.set_cons_zero, List.set_cons_succ])
    refine wpFl_qL (v := ?_) rfl (Or.inl ⟨by rfl, ?_⟩) ?_
    rotate_left
    focus (intro w' hSw; (try dsimp only [OldKept] at hSw); go_simp; (try with_reducible rfl); done)
    simp only [Act.put, List.setIfInBounds_toArray, List.set_cons_zero, List.set_cons_succ]
    refine wpFl_qL (v := ?_) rfl (Or.inl ⟨by rfl, ?_⟩) ?_
    rotate_left
    focus (intro w' hSw; (try dsimp only [OldKept] at hSw); go_simp; (try with_reducible rfl); done)
    simp only [Act.put, List.setIfInBounds_toArray, List.set_cons_zero, List.set_cons_succ]
    iterate 12 (refine wpFl_qL (v := undef) rfl (Or.inr ⟨by rfl, rfl⟩) ?_; simp only [Act.put, List.setIfInBounds_toArray, List.set_cons_zero, List.set_cons_succ])
    refine wpFl_qL (v := ?_) rfl (Or.inl ⟨by rfl, ?_⟩) ?_
    rotate_left
    focus (intro w' hSw; (try dsimp only [OldKept] at hSw); go_simp; (try with_reducible rfl); done)
    simp only [Act.put, List.setIfInBounds_toArray, List.set_cons_zero, List.set_cons_succ]
    refine wpFl_nil ?_
    refine NoPanic.normal ?_
    go_wp2
    go_ret2
    rw [HN.out]
    exact blameIs_none rfl (q_next HB1.out (Below.drew (Below.refl _ _)))
  · go_enter Tryz.func31, Tryz.ntmps31
    go_upto_region 1 with fail
    rw [← HW1.out]
    refine wp_region_noPanic ?_
    refine wp_region_lexB [.q 0, .q 1, .q 2, .q 3, .q 4, .q 5, .q 6, .q 7, .q 8, .q 9, .q 10, .q 11, .q 12, .q 13, .q 14, .q 15, .q 16, .q 17, .q 18, .q 19, .q 20, .q 21, .q 22, .q 23, .q 24, .q 25, .q 26, .q 27, .q 28, .q 29, .q 30, .q 31, .q 32, .q 33, .q 34, .q 35, .q 36, .q 37, .q 38, .q 39, .q 40, .q 41, .q 42, .q 43, .q 44, .q 45, .q 46, .q 47, .q 48, .q 49, .q 50, .q 51, .q 52, .q 53, .q 54, .q 55, .q 56, .q 57] (by kernel_rfl) (by kernel_rfl) (fun _ _ _ _ h => h) ?_
    iterate 4 (refine wpFl_qL (v := ?_) rfl (Or.inl ⟨by rfl, ?_⟩) ?_; rotate_left; (focus (intro w' hSw; (try dsimp only [OldKept] at hSw); obtain ⟨k0, ⟨a0, a1, a2, a3, a4⟩, b0, b1, b2, b3, b4⟩ := HC1.out w' hSw; go_simp; (try with_reducible rfl); done)); simp only [Act.put, List.setIfInBounds_toArray, List.set_cons_zero, List.set_cons_succ])
    iterate 3 (refine wpFl_qL (v := ?_) rfl (Or.inl ⟨by rfl, ?_⟩) ?_; rotate_left; (focus (intro w' hSw; (try dsimp only [OldKept] at hSw); obtain ⟨k0, ⟨a0, a1, a2, a3, a4⟩, b0, b1, b2, b3, b4⟩ := HC1.out w' hSw; go_simp; (try with_reducible rfl); done)); simp only [Act.put, List.setIfInBounds_toArray, List.set_cons_zero, List.set_cons_succ])
    refine wpFl_qL (v := ?_) rfl (Or.inl ⟨by rfl, ?_⟩) ?_
    rotate_left
    focus (intro w' hSw; (try dsimp only [OldKept] at hSw); go_simp; (try with_reducible rfl); done)
    simp only [Act.put, List.setIfInBounds_toArray, List.set_cons_zero, List.set_cons_succ]
    refine wpFl_qL (v := ?_) rfl (Or.inl ⟨by rfl, ?_⟩) ?_
    rotate_left
    focus (intro w' hSw; (try dsimp only [OldKept] at hSw); go_simp; (try with_reducible rfl); done)
    simp only [Act.put, List.setIfInBounds_toArray, List.set_cons_zero, List.set_cons_succ]
    iterate 9 (refine wpFl_qL (v := ?_) rfl (Or.inl ⟨by rfl, ?_⟩) ?_; rotate_left; (focus (intro w' hSw; (try dsimp only [OldKept] at hSw); obtain ⟨k0, ⟨a0, a1, a2, a3, a4⟩, b0, b1, b2, b3, b4⟩ := HC1.out w' hSw; go_simp; (try with_reducible rfl); done)); simp only [Act.put, List.setIfInBounds_toArray, List.set_cons_zero, List.set_cons_succ])
    refine wpFl_qL (v := ?_) rfl (Or.inl ⟨by rfl, ?_⟩) ?_
    rotate_left
    focus (intro w' hSw; (try dsimp only [OldKept] at hSw); go_simp; (try with_reducible rfl); done)
    simp only [Act.put, List.setIfInBounds_toArray, List.set_cons_zero, List.set_cons_succ]
    refine wpFl_qL (v := ?_) rfl (Or.inl ⟨by rfl, ?_⟩) ?_
    rotate_left
    focus (intro w' hSw; (try dsimp only [OldKept] at hSw); go_simp; (try with_reducible rfl); done)
    simp only [Act.put, List.setIfInBounds_toArray, List.set_cons_zero, List.set_cons_succ]
    iterate 9 (refine wpFl_qL (v := ?_) rfl (Or.inl ⟨by rfl, ?_⟩) ?_; rotate_left; (focus (intro w' hSw; (try dsimp only [OldKept] at hSw); obtain ⟨k0, ⟨a0, a1, a2, a3, a4⟩, b0, b1, b2, b3, b4⟩ := HC1.out w' hSw; go_simp; (try with_reducible rfl); done)); simp only [Act.put, List.setIfInBounds_toArray, List.set_cons_zero, List.set_cons_succ])
    refine wpFl_qL (v := ?_) rfl (Or.inl ⟨by rfl, ?_⟩) ?_
    rotate_left
    focus (intro w' hSw; (try dsimp only [OldKept] at hSw); go_simp; (try with_reducible rfl); done)
    simp only [Act.put, List.setIfInBounds_toArray, List.set_cons_zero, List.set_cons_succ]
    refine wpFl_qL (v := ?_) rfl (Or.inl ⟨by rfl, ?_⟩) ?_
    rotate_left
    focus (intro w' hSw; (try dsimp only [OldKept] at hSw); go_simp; (try with_reducible rfl); done)
    simp only [Act.put, List.setIfInBounds_toArray, List.set_cons_zero, List.set_cons_succ]
    iterate 12 (refine wpFl_qL (v := undef) rfl (Or.inr ⟨by rfl, rfl⟩) ?_; simp only [Act.put, List.setIfInBounds_toArray, List.set_cons_zero, List.set_cons_succ])
    refine wpFl_qL (v := ?_) rfl (Or.inl ⟨by rfl, ?_⟩) ?_
    rotate_left
    focus (intro w' hSw; (try dsimp only [OldKept] at hSw); go_simp; (try with_reducible rfl); done)
    simp only [Act.put, List.setIfInBounds_toArray, List.set_cons_zero, List.set_cons_succ]
    refine wpFl_qL (v := ?_) rfl (Or.inl ⟨by rfl, ?_⟩) ?_
    rotate_left
    focus (intro w' hSw; (try dsimp only [OldKept] at hSw); go_simp; (try with_reducible rfl); done)
    simp only [Act.put, List.setIfInBounds_toArray, List.set_cons_zero, List.set_cons_succ]
    iterate 12 (refine wpFl_qL (v := undef) rfl (Or.inr ⟨by rfl, rfl⟩) ?_; simp only [Act.put, List.setIfInBounds_toArray, List.set_cons_zero, List.set_cons_succ])
    refine wpFl_qL (v := ?_) rfl (Or.inl ⟨by rfl, ?_⟩) ?_
    rotate_left
    focus (intro w' hSw; (try dsimp only [OldKept] at hSw); go_simp; (try with_reducible rfl); done)
    simp only [Act.put, List.setIfInBounds_toArray, List.set_cons_zero, List.set_cons_succ]
    refine wpFl_nil ?_
    refine NoPanic.normal ?_
    go_wp2
    go_ret2
    rw [HN.out]
    exact blameIs_none rfl (q_next HB1.out (Below.drew (Below.refl _ _)))
  · go_enter Tryz.func31, Tryz.ntmps31
    go_upto_region 1 with fail
    rw [← HW1.out]
    refine wp_region_noPanic ?_
    refine wp_region_lexB [.q 0, .q 1, .q 2, .q 3, .q 4, .q 5, .q 6, .q 7, .q 8, .q 9, .q 10, .q 11, .q 12, .q 13, .q 14, .q 15, .q 16, .q 17, .q 18, .q 19, .q 20, .q 21, .q 22, .q 23, .q 24, .q 25, .q 26, .q 27, .q 28, .q 29, .q 30, .q 31, .q 32, .q 33, .q 34, .q 35, .q 36, .q 37, .q 38, .q 39, .q 40, .b 41, .q 42, .q 43, .q 44, .q 45, .q 46, .q 47, .q 48, .q 49, .q 50, .q 51, .q 52, .q 53, .q 54, .q 55, .q 56, .q 57] (by kernel_rfl) (by kernel_rfl) (fun _ _ _ _ h => h) ?_
    iterate 4 (refine wpFl_qL (v := ?_) rfl (Or.inl ⟨by rfl, ?_⟩) ?_; rotate_left; (focus (intro w' hSw; (try dsimp only [OldKept] at hSw); obtain ⟨k0, ⟨a0, a1, a2, a3, a4⟩, b0, b1, b2, b3, b4⟩ := HC1.out w' hSw; go_simp; (try with_reducible rfl); done)); simp only [Act.put, List.setIfInBounds_toArray, List.set_cons_zero, List.set_cons_succ])
    iterate 3 (refine wpFl_qL (v := ?_) rfl (Or.inl ⟨by rfl, ?_⟩) ?_; rotate_left; (focus (intro w' hSw; (try dsimp only [OldKept] at hSw); obtain ⟨k0, ⟨a0, a1, a2, a3, a4⟩, b0, b1, b2, b3, b4⟩ := HC1.out w' hSw; go_simp; (try with_reducible rfl); done)); simp only [Act.put, List.setIfInBounds_toArray, List.set_cons_zero, List.set_cons_succ])
    refine wpFl_qL (v := ?_) rfl (Or.inl ⟨by rfl, ?_⟩) ?_
    rotate_left
    focus (intro w' hSw; (try dsimp only [OldKept] at hSw); go_simp; (try with_reducible rfl); done)
    simp only [Act.put, List.setIfInBounds_toArray, List.set_cons_zero, List.set_cons_succ]
    refine wpFl_qL (v := ?_) rfl (Or.inl ⟨by rfl, ?_⟩) ?_
    rotate_left
    focus (intro w' hSw; (try dsimp only [OldKept] at hSw); go_simp; (try with_reducible rfl); done)
    simp only [Act.put, List.setIfInBounds_toArray, List.set_cons_zero, List.set_cons_succ]
    iterate 9 (refine wpFl_qL (v := ?_) rfl (Or.inl ⟨by rfl, ?_⟩) ?_; rotate_left; (focus (intro w' hSw; (try dsimp only [OldKept] at hSw); obtain ⟨k0, ⟨a0, a1, a2, a3, a4⟩, b0, b1, b2, b3, b4⟩ := HC1.out w' hSw; go_simp; (try with_reducible rfl); done)); simp only [Act.put, List.setIfInBounds_toArray, List.set_cons_zero, List.set_cons_succ])
    refine wpFl_qL (v := ?_) rfl (Or.inl ⟨by rfl, ?_⟩) ?_
    rotate_left
    focus (intro w' hSw; (try dsimp only [OldKept] at hSw); go_simp; (try with_reducible rfl); done)
    simp only [Act.put, List.setIfInBounds_toArray, List.set_cons_zero, List.set_cons_succ]
    refine wpFl_qL (v := ?_) rfl (Or.inl ⟨by rfl, ?_⟩) ?_
    rotate_left
    focus (intro w' hSw; (try dsimp only [OldKept] at hSw); go_simp; (try with_reducible rfl); done)
    simp only [Act.put, List.setIfInBounds_toArray, List.set_cons_zero, List.set_cons_succ]
    iterate 9 (refine wpFl_qL (v := ?_) rfl (Or.inl ⟨by rfl, ?_⟩) ?_; rotate_left; (focus (intro w' hSw; (try dsimp only [OldKept] at hSw); obtain ⟨k0, ⟨a0, a1, a2, a3, a4⟩, b0, b1, b2, b3, b4⟩ := HC1.out w' hSw; go_simp; (try with_reducible rfl); done)); simp only [Act.put, List.setIfInBounds_toArray, List.set_cons_zero, List.set_cons_succ])
    refine wpFl_qL (v := ?_) rfl (Or.inl ⟨by rfl, ?_⟩) ?_
    rotate_left
    focus (intro w' hSw; (try dsimp only [OldKept] at hSw); go_simp; (try with_reducible rfl); done)
    simp only [Act.put, List.setIfInBounds_toArray, List.set_cons_zero, List.set_cons_succ]
    refine wpFl_qL (v := ?_) rfl (Or.inl ⟨by rfl, ?_⟩) ?_
    rotate_left
    focus (intro w' hSw; (try dsimp only [OldKept] at hSw); go_simp; (try with_reducible rfl); done)
    simp only [Act.put, List.setIfInBounds_toArray, List.set_cons_zero, List.set_cons_succ]
    iterate 10 (refine wpFl_qL (v := ?_) rfl (Or.inl ⟨by rfl, ?_⟩) ?_; rotate_left; (focus (intro w' hSw; (try dsimp only [OldKept] at hSw); obtain ⟨k0, ⟨a0, a1, a2, a3, a4⟩, b0, b1, b2, b3, b4⟩ := HC1.out w' hSw; go_simp; (try with_reducible rfl); done)); simp only [Act.put, List.setIfInBounds_toArray, List.set_cons_zero, List.set_cons_succ])
    refine wpFl_bL rfl (fun wa1 hna1 hsa1 K hK => ?_)
    go_simp
    go_at_call 39
    refine (HKA.out wa1 (q_next HB1.out hsa1)).mono ?_
    rintro e wb1 ⟨rfl, hb1⟩
    have HBC1 := Lib.hid (q_next hsa1 hb1)
    refine hK.out _ _ HBC1.out (Keeps.below hb1) ?_
    clear hK K hna1 hsa1 hb1
    refine wpFl_qL (v := ?_) rfl (Or.inl ⟨by rfl, ?_⟩) ?_
    rotate_left
    focus (intro w' hSw; (try dsimp only [OldKept] at hSw); go_simp; (try with_reducible rfl); done)
    simp only [Act.put, List.setIfInBounds_toArray, List.set_cons_zero, List.set_cons_succ]
    refine wpFl_qL (v := ?_) rfl (Or.inl ⟨by rfl, ?_⟩) ?_
    rotate_left
    focus (intro w' hSw; (try dsimp only [OldKept] at hSw); go_simp; (try with_reducible rfl); done)
    simp only [Act.put, List.setIfInBounds_toArray, List.set_cons_zero, List.set_cons_succ]
    refine wpFl_qL (v := ?_) rfl (Or.inl ⟨by rfl, ?_⟩) ?_
    rotate_left
    focus (intro w' hSw; (try dsimp only [OldKept] at hSw); go_simp; (try with_reducible rfl); done)
    simp only [Act.put, List.setIfInBounds_toArray, List.set_cons_zero, List.set_cons_succ]
    iterate 12 (refine wpFl_qL (v := undef) rfl (Or.inr ⟨by rfl, rfl⟩) ?_; simp only [Act.put, List.setIfInBounds_toArray, List.set_cons_zero, List.set_cons_succ])
    refine wpFl_qL (v := ?_) rfl (Or.inl ⟨by rfl, ?_⟩) ?_
    rotate_left
    focus (intro w' hSw; (try dsimp only [OldKept] at hSw); go_simp; (try with_reducible rfl); done)
    simp only [Act.put, List.setIfInBounds_toArray, List.set_cons_zero, List.set_cons_succ]
    refine wpFl_nil ?_
    refine NoPanic.normal ?_
    go_wp2
    go_ret2
    rw [HN.out]
    exact blameIs_none rfl (q_next HB1.out HBC1.out)
  · go_enter Tryz.func31, Tryz.ntmps31
    go_upto_region 1 with fail
    rw [← HW1.out]
    refine wp_region_noPanic ?_
    refine wp_region_lexB [.q 0, .q 1, .q 2, .q 3, .q 4, .q 5, .q 6, .q 7, .q 8, .q 9, .q 10, .q 11, .q 12, .q 13, .q 14, .q 15, .q 16, .q 17, .q 18, .q 19, .q 20, .q 21, .q 22, .q 23, .q 24, .q 25, .q 26, .q 27, .q 28, .q 29, .q 30, .q 31, .q 32, .q 33, .q 34, .q 35, .q 36, .q 37, .q 38, .q 39, .q 40, .b 41, .q 42, .q 43, .q 44, .q 45, .q 46, .q 47, .q 48, .q 49, .q 50, .q 51, .q 52, .q 53, .q 54, .b 55, .q 56, .q 57] (by kernel_rfl) (by kernel_rfl) (fun _ _ _ _ h => h) ?_
    iterate 4 (refine wpFl_qL (v := ?_) rfl (Or.inl ⟨by rfl, ?_⟩) ?_; rotate_left; (focus (intro w' hSw; (try dsimp only [OldKept] at hSw); obtain ⟨k0, ⟨a0, a1, a2, a3, a4⟩, b0, b1, b2, b3, b4⟩ := HC1.out w' hSw; go_simp; (try with_reducible rfl); done)); simp only [Act.put, List.setIfInBounds_toArray, List.set_cons_zero, List.set_cons_succ])
    iterate 3 (refine wpFl_qL (v := ?_) rfl (Or.inl ⟨by rfl, ?_⟩) ?_; rotate_left; (focus (intro w' hSw; (try dsimp only [OldKept] at hSw); obtain ⟨k0, ⟨a0, a1, a2, a3, a4⟩, b0, b1, b2, b3, b4⟩ := HC1.out w' hSw; go_simp; (try with_reducible rfl); done)); simp only [Act.put, List.setIfInBounds_toArray, List.set_cons_zero, List.set_cons_succ])
    refine wpFl_qL (v := ?_) rfl (Or.inl ⟨by rfl, ?_⟩) ?_
    rotate_left
    focus (intro w' hSw; (try dsimp only [OldKept] at hSw); go_simp; (try with_reducible rfl); done)
    simp only [Act.put, List.setIfInBounds_toArray, List.set_cons_zero, List.set_cons_succ]
    refine wpFl_qL (v := ?_) rfl (Or.inl ⟨by rfl, ?_⟩) ?_
    rotate_left
    focus (intro w' hSw; (try dsimp only [OldKept] at hSw); go_simp; (try with_reducible rfl); done)
    simp only [Act.put, List.setIfInBounds_toArray, List.set_cons_zero, List.set_cons_succ]
    iterate 9 (refine wpFl_qL (v := ?_) rfl (Or.inl ⟨by rfl, ?_⟩) ?_; rotate_left; (focus (intro w' hSw; (try dsimp only [OldKept] at hSw); obtain ⟨k0, ⟨a0, a1, a2, a3, a4⟩, b0, b1, b2, b3, b4⟩ := HC1.out w' hSw; go_simp; (try with_reducible rfl); done)); simp only [Act.put, List.setIfInBounds_toArray, List.set_cons_zero, List.set_cons_succ])
    refine wpFl_qL (v := ?_) rfl (Or.inl ⟨by rfl, ?_⟩) ?_
    rotate_left
    focus (intro w' hSw; (try dsimp only [OldKept] at hSw); go_simp; (try with_reducible rfl); done)
    simp only [Act.put, List.setIfInBounds_toArray, List.set_cons_zero, List.set_cons_succ]
    refine wpFl_qL (v := ?_) rfl (Or.inl ⟨by rfl, ?_⟩) ?_
    rotate_left
    focus (intro w' hSw; (try dsimp only [OldKept] at hSw); go_simp; (try with_reducible rfl); done)
    simp only [Act.put, List.setIfInBounds_toArray, List.set_cons_zero, List.set_cons_succ]
    iterate 9 (refine wpFl_qL (v := ?_) rfl (Or.inl ⟨by rfl, ?_⟩) ?_; rotate_left; (focus (intro w' hSw; (try dsimp only [OldKept] at hSw); obtain ⟨k0, ⟨a0, a1, a2, a3, a4⟩, b0, b1, b2, b3, b4⟩ := HC1.out w' hSw; go_simp; (try with_reducible rfl); done)); simp only [Act.put, List.setIfInBounds_toArray, List.set_cons_zero, List.set_cons_succ])
    refine wpFl_qL (v := ?_) rfl (Or.inl ⟨by rfl, ?_⟩) ?_
    rotate_left
    focus (intro w' hSw; (try dsimp only [OldKept] at hSw); go_simp; (try with_reducible rfl); done)
    simp only [Act.put, List.setIfInBounds_toArray, List.set_cons_zero, List.set_cons_succ]
    refine wpFl_qL (v := ?_) rfl (Or.inl ⟨by rfl, ?_⟩) ?_
    rotate_left
    focus (intro w' hSw; (try dsimp only [OldKept] at hSw); go_simp; (try with_reducible rfl); done)
    simp only [Act.put, List.setIfInBounds_toArray, List.set_cons_zero, List.set_cons_succ]
    iterate 10 (refine wpFl_qL (v := ?_) rfl (Or.inl ⟨by rfl, ?_⟩) ?_; rotate_left; (focus (intro w' hSw; (try dsimp only [OldKept] at hSw); obtain ⟨k0, ⟨a0, a1, a2, a3, a4⟩, b0, b1, b2, b3, b4⟩ := HC1.out w' hSw; go_simp; (try with_reducible rfl); done)); simp only [Act.put, List.setIfInBounds_toArray, List.set_cons_zero, List.set_cons_succ])
    refine wpFl_bL rfl (fun wa1 hna1 hsa1 K hK => ?_)
    go_simp
    go_at_call 39
    refine (HKA.out wa1 (q_next HB1.out hsa1)).mono ?_
    rintro e wb1 ⟨rfl, hb1⟩
    have HBC1 := Lib.hid (q_next hsa1 hb1)
    refine hK.out _ _ HBC1.out (Keeps.below hb1) ?_
    clear hK K hna1 hsa1 hb1
    refine wpFl_qL (v := ?_) rfl (Or.inl ⟨by rfl, ?_⟩) ?_
    rotate_left
    focus (intro w' hSw; (try dsimp only [OldKept] at hSw); go_simp; (try with_reducible rfl); done)
    simp only [Act.put, List.setIfInBounds_toArray, List.set_cons_zero, List.set_cons_succ]
    refine wpFl_qL (v := ?_) rfl (Or.inl ⟨by rfl, ?_⟩) ?_
    rotate_left
    focus (intro w' hSw; (try dsimp only [OldKept] at hSw); go_simp; (try with_reducible rfl); done)
    simp only [Act.put, List.setIfInBounds_toArray, List.set_cons_zero, List.set_cons_succ]
    refine wpFl_qL (v := ?_) rfl (Or.inl ⟨by rfl, ?_⟩) ?_
    rotate_left
    focus (intro w' hSw; (try dsimp only [OldKept] at hSw); go_simp; (try with_reducible rfl); done)
    simp only [Act.put, List.setIfInBounds_toArray, List.set_cons_zero, List.set_cons_succ]
    iterate 10 (refine wpFl_qL (v := ?_) rfl (Or.inl ⟨by rfl, ?_⟩) ?_; rotate_left; (focus (intro w' hSw; (try dsimp only [OldKept] at hSw); obtain ⟨k0, ⟨a0, a1, a2, a3, a4⟩, b0, b1, b2, b3, b4⟩ := HC1.out w' hSw; go_simp; (try with_reducible rfl); done)); simp only [Act.put, List.setIfInBounds_toArray, List.set_cons_zero, List.set_cons_succ])
    refine wpFl_bL rfl (fun wa2 hna2 hsa2 K hK => ?_)
    go_simp
    go_at_call 39
    refine (HKB.out wa2 (q_next HB1.out hsa2)).mono ?_
    rintro e wb2 ⟨rfl, hb2⟩
    have HBC2 := Lib.hid (q_next hsa2 hb2)
    refine hK.out _ _ HBC2.out (Keeps.below hb2) ?_
    clear hK K hna2 hsa2 hb2
    refine wpFl_qL (v := ?_) rfl (Or.inl ⟨by rfl, ?_⟩) ?_
    rotate_left
    focus (intro w' hSw; (try dsimp only [OldKept] at hSw); go_simp; (try with_reducible rfl); done)
    simp only [Act.put, List.setIfInBounds_toArray, List.set_cons_zero, List.set_cons_succ]
    refine wpFl_qL (v := ?_) rfl (Or.inl ⟨by rfl, ?_⟩) ?_
    rotate_left
    focus (intro w' hSw; (try dsimp only [OldKept] at hSw); go_simp; (try with_reducible rfl); done)
    simp only [Act.put, List.setIfInBounds_toArray, List.set_cons_zero, List.set_cons_succ]
    refine wpFl_nil ?_
    refine NoPanic.normal ?_
    go_wp2
    go_ret2
    rw [HN.out]
    exact blameIs_none rfl (q_next HB1.out HBC2.out)
end Go.Proofs.YtggdcnjaofflbaaGreatDoor
