/- The iterator over the genuine votes of a list. The conditions: what the slices read as, lengths of keys, the table of constants. -/
import Derived.Test.YtggdcnjaofflbaaGreatDoorC11
import Derived.Test.YtggdcnjaofflbaaGreatDoorC10
import Derived.Test.YtggdcnjaofflbaaGreatDoorC07
import Derived.Maps.OwnIn
namespace Go.Proofs.YtggdcnjaofflbaaGreatDoor
open Go.RowKit Go.BigFrame Go.Shelf

attribute [local go_sem] Oper.semAt_some

abbrev GV (ks : List ByteArray) := { v : VoteP // genV ks v = true }
def GV.enc {ks : List ByteArray} (x : GV ks) : Array Value := #[vagg x.1]

set_option maxHeartbeats 400000 in
theorem genuine_fn (ka : Option Addr) (kn kc : Nat) (a : Option Addr) (n c : Nat) (w : World) :
    Calls Tryz.prog 108 #[.agg #[.slice ka kn kc], .slice a n c] w fun e w' => e = .returned (.func (.func 146) #[] #[.pointer (some ⟨w.heap.size + 1, 0, none⟩), .pointer (some ⟨w.heap.size, 0, none⟩)]) ∧ w' = (w.alloc (.cells #[.slice ka kn kc] 31)).alloc (.cells #[.slice a n c] 35) := by
  go_enter Tryz.func108, Tryz.ntmps108
  go_wp2
  go_ret
  exact ⟨rfl, rfl⟩

def GenK (n₀ b1 b2 : Nat) (A B : World) : Prop := Below n₀ A B ∧ B.heap[b1]? = A.heap[b1]? ∧ B.heap[b2]? = A.heap[b2]?
theorem GenK.trans {n₀ b1 b2 : Nat} {A B C : World} (h : GenK n₀ b1 b2 A B) (h' : GenK n₀ b1 b2 B C) : GenK n₀ b1 b2 A C := ⟨h.1.trans h'.1, h'.2.1.trans h.2.1, h'.2.2.trans h.2.2⟩

set_option maxRecDepth 100000 in
set_option maxHeartbeats 2000000 in
theorem gen_iter (wd w0 : World) {kv x : Value} {ks : List ByteArray} {l : List VoteP} (hr : SS wd kv ks) (hks : ∀ k ∈ ks, k.size ≤ 1000) (hl : VS wd x l) (he : Env wd) (hg : 3 < wd.heap.size) (hb : Below wd.heap.size wd w0) (b1 b2 : Nat)
    (h1 : w0.heap[b1]? = some (.cells #[x] 35 (0, 0))) (h2 : w0.heap[b2]? = some (.cells #[kv] 31 (0, 0))) :
    Iter Tryz.prog 146 #[.pointer (some ⟨b1, 0, none⟩), .pointer (some ⟨b2, 0, none⟩)] (GV.enc (ks := ks)) (GenK wd.heap.size b1 b2) none (fun xs => xs.map (·.1) = l.filter (genV ks)) (fun _ => True) l.length w0 := by
  intro F m hF hro lb J Jx W hW hJ hJx hY h0
  obtain ⟨a, cap, rfl, l1, l2, l3⟩ := hl.opened
  obtain ⟨ka, kn, kc, rfl⟩ : ∃ a n c, kv = .slice a n c := by obtain ⟨a, c, h, _⟩ := hr.opened; exact ⟨_, _, _, h⟩
  have hbl1 : b1 < w0.heap.size := (Array.getElem?_eq_some_iff.1 h1).1
  have hbl2 : b2 < w0.heap.size := (Array.getElem?_eq_some_iff.1 h2).1
  have H3 := Lib.hid l3
  have HR := Lib.hid hr
  have HKS := Lib.hid hks
  have HE := Lib.hid he
  have HG := Lib.hid hg
  have g1 := (hW.block b1 hbl1).trans h1
  have G2 := Lib.hid ((hW.block b2 hbl2).trans h2)
  have GB := Lib.hid (hb.trans (hW.mono hb.size))
  clear l3 hr hks he hg h1 h2 hW hb
  unfold maxLen at l2
  obtain ⟨n, hn⟩ : ∃ n, n = l.length := ⟨_, rfl⟩
  rw [← hn] at l1 hY g1
  have HN := Lib.hid hn
  clear hn hl
  have c1 : W.cell? ⟨b1, 0, none⟩ = some (.slice a n cap) := cell_of_row W _ 0 _ _ _ g1
  refine callsIn_of_wp Tryz.func146 rfl (hF.1 _) ?_ hro
  simp only [Tryz.ntmps146, List.size_toArray, List.length_cons, List.length_nil, Nat.reduceAdd, Nat.reduceSub, Array.replicate_succ, Array.replicate_zero, List.push_toArray, List.append_toArray, List.nil_append, List.cons_append]
  gi_wp2
  clear c1 g1
  gi_loopw [8] (fun i wr => ∃ (k : Nat) (pre : List (GV ks)), k ≤ n ∧ i = .int .i64 k ∧ Hid (pre.map (·.1) = (l.take k).filter (genV ks)) ∧ Hid (Below wd.heap.size wd wr) ∧ Hid (wr.heap[b2]? = some (.cells #[.slice ka kn kc] 31 (0, 0))) ∧ J pre wr) (fun i wr => n - (intOf i).toNat)
  case atStart =>
    exact ⟨0, [], by omega, rfl, Lib.hid (by rw [List.take_zero]; rfl), GB, G2, h0⟩
  case round =>
    clear GB G2
    obtain ⟨k, pre, hk, rfl, hpre, hB, hC2, hJs⟩ := hrel
    by_cases hlt : k < n
    · obtain ⟨y, ey⟩ : ∃ y, l[k]? = some y := ⟨_, List.getElem?_eq_getElem (by rw [← HN.out]; exact hlt)⟩
      obtain ⟨b, off, rfl, hb, d⟩ := H3.out k y ey
      obtain ⟨d0, d1, d2, d3, d4⟩ := d.keep hB.out hb
      have hs := hB.out.size
      have hb2 := (Array.getElem?_eq_some_iff.1 hC2.out).1
      have hlen : pre.length < n := by
        have e1 := congrArg List.length hpre.out
        rw [List.length_map] at e1
        have e2 := List.length_filter_le (genV ks) (l.take k)
        rw [List.length_take] at e2
        omega
      have HT : Hid ((l.take (k + 1)).filter (genV ks) = (l.take k).filter (genV ks) ++ (if genV ks y = true then [y] else [])) := Lib.hid (by
        rw [List.take_add_one, ey, List.filter_append]
        cases h : genV ks y <;> simp [h])
      obtain ⟨W2, hW2⟩ : ∃ W2, W2 = wr.alloc (.cells #[.int .i64 y.car, .int .i64 y.num, .int .i64 y.stp, .string y.val, .string y.sl] 27) := ⟨_, rfl⟩
      have HB2 : Hid (Below wr.heap.size wr W2) := Lib.hid (by rw [hW2]; exact (Below.refl _ _).alloc (Nat.le_refl _) _)
      have HBd := Lib.hid (hB.out.trans (HB2.out.mono hs))
      have HI := Lib.hid (isGen_any (HR.out.below HBd.out) HKS.out y (HE.out.below HBd.out HG.out) (Nat.lt_of_lt_of_le HG.out HBd.out.size))
      have hvb : wr.heap.size < W2.heap.size := by rw [hW2]; simp
      have HV : Hid (∀ W, Below W2.heap.size W2 W → W.cell? ⟨wr.heap.size, 0, none⟩ = some (.int .i64 y.car) ∧ W.cell? ⟨wr.heap.size, 1, none⟩ = some (.int .i64 y.num) ∧ W.cell? ⟨wr.heap.size, 2, none⟩ = some (.int .i64 y.stp) ∧ W.cell? ⟨wr.heap.size, 3, none⟩ = some (.string y.val) ∧ W.cell? ⟨wr.heap.size, 4, none⟩ = some (.string y.sl)) := Lib.hid (fun W hW => vcellsAt ((hW.block _ hvb).trans (by rw [hW2]; exact heap_alloc_new wr _)))
      have hC3 : W2.heap[b2]? = some (.cells #[.slice ka kn kc] 31 (0, 0)) := (HB2.out.block b2 hb2).trans hC2.out
      have c2 : wr.cell? ⟨b2, 0, none⟩ = some (.slice ka kn kc) := cell_of_row wr _ 0 _ _ _ hC2.out
      have HC3 := Lib.hid hC3
      have HW2 := Lib.hid hW2
      clear ey d hC3 hW2
      cases hgy : genV ks y with
      | false =>
        have HNX : Hid (pre.map (·.1) = (l.take (k + 1)).filter (genV ks)) := Lib.hid (by rw [HT.out, hgy, hpre.out]; simp)
        rw [hgy] at HI
        clear hgy HT
        obtain ⟨vc, vn, vs, vv, vl⟩ := y
        simp only at d0 d1 d2 d3 d4 HI HW2 HV
        gi_wp2_with (refine ⟨hF.1 _, fun h => (by rw [hF.2.1] at h; cases h), ?_⟩; rw [← HW2.out]; refine (callsIn_of_calls hF HI.out).mono ?_; rintro e w3 ⟨rfl, hb3⟩)
        refine ⟨fun _ h => (by cases h), ?_⟩
        gi_wp2
        go_roundw
        case rel =>
          have hB3 := HB2.out.trans (hb3.mono HB2.out.size)
          exact ⟨k + 1, pre, by omega, by go_num, HNX, Lib.hid (hB.out.trans (hB3.mono hs)), Lib.hid ((hB3.block b2 hb2).trans hC2.out), hJ _ _ _ hJs ⟨below_grownQ hB3, fun b hb => by cases hb⟩⟩
        case measure => simp [intOf]; omega
      | true =>
        have HNX : Hid ((pre ++ [(⟨y, hgy⟩ : GV ks)]).map (·.1) = (l.take (k + 1)).filter (genV ks)) := Lib.hid (by rw [HT.out, hgy, List.map_append, hpre.out]; simp)
        obtain ⟨z, hz⟩ : ∃ z : GV ks, z = ⟨y, hgy⟩ := ⟨_, rfl⟩
        rw [← hz] at HNX
        have hzy : z.1 = y := by rw [hz]
        rw [hgy] at HI
        have HY := Lib.hid (fun W hJW => hY pre z W hJW hlen)
        clear hgy HT hY hz
        obtain ⟨zv, hzv⟩ := z
        simp only at hzy
        subst hzy
        obtain ⟨vc, vn, vs, vv, vl⟩ := zv
        simp only at d0 d1 d2 d3 d4 HI HW2 HV HY
        gi_wp2_with (refine ⟨hF.1 _, fun h => (by rw [hF.2.1] at h; cases h), ?_⟩; rw [← HW2.out]; refine (callsIn_of_calls hF HI.out).mono ?_; rintro e w3 ⟨rfl, hb3⟩; have hB3 := Lib.hid (HB2.out.trans (hb3.mono HB2.out.size)); obtain ⟨f0, f1, f2, f3, f4⟩ := HV.out w3 hb3; obtain ⟨fn, tmps, assign, body, hy, hRR⟩ := HY.out w3 (hJ _ _ _ hJs ⟨below_grownQ hB3.out, fun b hb => by cases hb⟩); dsimp only [GV.enc, vagg] at hy; clear hb3)
        refine ⟨fun h => (by rw [hF.2.1] at h; cases h), hRR.mono ?_⟩
        have hC4 : Hid (w3.heap[b2]? = some (.cells #[.slice ka kn kc] 31 (0, 0))) := Lib.hid ((hB3.out.block b2 hb2).trans hC2.out)
        have hB4 := Lib.hid (hB.out.trans (hB3.out.mono hs))
        rintro e W4 (⟨rfl, hJ4, hk4⟩ | ⟨rfl, hJx4⟩)
        · gi_wp2
          go_roundw
          case rel => exact ⟨k + 1, _, by omega, by go_num, HNX, Lib.hid (hB4.out.trans hk4.1), Lib.hid (hk4.2.2.trans hC4.out), hJ4⟩
          case measure => simp [intOf]; omega
        · gi_wp2
          refine bodyPost_ret (results_none rfl _ _ _) rfl ?_
          exact ⟨⟨_, rfl⟩, .inr ⟨_, trivial, hJx4⟩⟩
    · obtain rfl : k = n := by omega
      gi_wp2
      go_end0
      refine ⟨⟨_, rfl⟩, .inl ⟨pre, ?_, hJs⟩⟩
      rw [hpre.out, HN.out, List.take_length]
end Go.Proofs.YtggdcnjaofflbaaGreatDoor

/- slices.IndexFunc and slices.ContainsFunc over votes, with the closures of package quorum. The conditions: what each call of the closure says and keeps. -/
namespace Go.Proofs.YtggdcnjaofflbaaGreatDoor
open Go.RowKit Go.BigFrame

def idxP (p : Nat → VoteP → Bool) : List VoteP → Nat → Int
  | [], _ => -1
  | v :: t, k => if p k v then (k : Int) else idxP p t (k + 1)
theorem idxP_drop (p : Nat → VoteP → Bool) (l : List VoteP) : ∀ (m : Nat), m ≤ l.length → ∀ (k : Nat), (∀ j v, j < m → l[j]? = some v → p (k + j) v = false) → idxP p l k = idxP p (l.drop m) (k + m)
  | 0, _, k, _ => by rw [List.drop_zero]; rfl
  | m + 1, hm, k, h => by
    cases l with
    | nil => simp at hm
    | cons a t =>
      rw [List.drop_succ_cons, idxP]
      have h0 := h 0 a (by omega) rfl
      rw [Nat.add_zero] at h0
      rw [h0]
      simp only [Bool.false_eq_true, if_false]
      rw [idxP_drop p t m (by simpa using hm) (k + 1) (fun j v hj hv => by
        have := h (j + 1) v (by omega) hv
        rwa [show k + (j + 1) = k + 1 + j from by omega] at this)]
      congr 1
      omega
theorem idxP_neg (p : Nat → VoteP → Bool) : ∀ (l : List VoteP) (k : Nat), decide (0 ≤ idxP p l k) = (l.zipIdx k).any fun y => p y.2 y.1
  | [], k => rfl
  | v :: t, k => by
    rw [idxP, List.zipIdx_cons, List.any_cons]
    by_cases h : p k v = true
    · rw [if_pos h, h, Bool.true_or]
      exact decide_eq_true (by omega)
    · rw [if_neg h, idxP_neg p t (k + 1)]
      have : p k v = false := by simpa using h
      rw [this, Bool.false_or]

set_option maxHeartbeats 2000000 in
theorem indexV_cast (b0 : Nat) (b1 : Nat) (b2 : Nat) (p : Nat → VoteP → Bool) (I : Nat → World → Prop) {w : World} {x : Value} {l : List VoteP} (hi : VS w x l) (h0 : I 0 w) (hI : ∀ k W, I k W → VS W x l)
    (ht : ∀ (k : Nat) (v : VoteP) (W : World), l[k]? = some v → (∀ j q, j < k → l[j]? = some q → p j q = false) → I k W → Calls Tryz.prog 66 #[vagg v, .pointer (some ⟨b0, 0, none⟩), .pointer (some ⟨b1, 0, none⟩), .pointer (some ⟨b2, 0, none⟩)] W fun e w' => e = .returned (.bool (p k v)) ∧ I (k + 1) w') :
    Calls Tryz.prog 74 #[x, .func (.func 66) #[] #[.pointer (some ⟨b0, 0, none⟩), .pointer (some ⟨b1, 0, none⟩), .pointer (some ⟨b2, 0, none⟩)]] w fun e w' => e = .returned (.int .i64 (idxP p l 0)) ∧ ∃ m, I m w' := by
  obtain ⟨a, cap, rfl, l1, l2, l3⟩ := hi.opened
  have HV := Lib.hid hI
  have HT := Lib.hid ht
  have H0 := Lib.hid h0
  clear l3 hi ht hI h0
  unfold maxLen at l2
  obtain ⟨n, hn⟩ : ∃ n, n = l.length := ⟨_, rfl⟩
  rw [← hn] at l1 HV ⊢
  have HN := Lib.hid hn
  clear hn
  go_enter Tryz.func74, Tryz.ntmps74
  go_wp2
  go_loopw [8] (fun i wr => ∃ k : Nat, k ≤ n ∧ i = .int .i64 k ∧ Hid (∀ j q, j < k → l[j]? = some q → p j q = false) ∧ Hid (I k wr)) (fun i wr => n - (intOf i).toNat)
  case atStart => exact ⟨0, by omega, rfl, (by intro j q hj; omega), H0⟩
  case round =>
    obtain ⟨k, hk, rfl, hall, hB⟩ := hrel
    by_cases hlt : k < n
    · obtain ⟨y, ey⟩ : ∃ y, l[k]? = some y := ⟨_, List.getElem?_eq_getElem (by rw [← HN.out]; exact hlt)⟩
      obtain ⟨a', cap', e', _, _, l3⟩ := (HV.out k wr hB.out).opened
      have e1 : a' = a := by injection e' with h1 _ _; exact h1.symm
      subst e1
      clear e'
      obtain ⟨b, off, rfl, hb, d0, d1, d2, d3, d4⟩ := l3 k y ey
      have HC := Lib.hid (HT.out k y wr ey hall.out hB.out)
      have EY := Lib.hid ey
      obtain ⟨P0, hP0⟩ : ∃ P0, P0 = p k y := ⟨_, rfl⟩
      rw [← hP0] at HC
      have HP0 := Lib.hid hP0
      clear ey hP0 l3 hb
      obtain ⟨car, num, stp, val, sl⟩ := y
      simp only [vagg] at d0 d1 d2 d3 d4 HC
      cases P0
      · go_wp2_with (go_at_call 66; refine HC.out.mono ?_; rintro e w1 ⟨rfl, hb1⟩)
        go_roundw
        case rel =>
          refine ⟨k + 1, by omega, by go_num, ?_, hb1⟩
          intro j q' hj hq
          by_cases hjk : j = k
          · subst hjk; rw [EY.out] at hq; cases hq; exact HP0.out.symm
          · exact hall.out j q' (by omega) hq
        case measure => simp [intOf]; omega
      · go_wp2_with (go_at_call 66; refine HC.out.mono ?_; rintro e w1 ⟨rfl, hb1⟩)
        go_ret
        refine ⟨ret_int ?_, _, hb1⟩
        rw [idxP_drop p l k (by rw [← HN.out]; omega) 0 (fun j v hj hv => by rw [Nat.zero_add]; exact hall.out j v hj hv), Nat.zero_add]
        rw [drop_get EY.out, idxP, if_pos HP0.out.symm]
    · go_wp2
      go_ret
      refine ⟨ret_int ?_, _, hB.out⟩
      have ek : k = n := by omega
      rw [idxP_drop p l k (by rw [← HN.out]; omega) 0 (fun j v hj hv => by rw [Nat.zero_add]; exact hall.out j v hj hv), List.drop_eq_nil_of_le (by rw [← HN.out]; omega), idxP]

set_option maxHeartbeats 1000000 in
theorem containsV_cast (b0 : Nat) (b1 : Nat) (b2 : Nat) (p : Nat → VoteP → Bool) (I : Nat → World → Prop) {w : World} {x : Value} {l : List VoteP} (hi : VS w x l) (h0 : I 0 w) (hI : ∀ k W, I k W → VS W x l)
    (ht : ∀ (k : Nat) (v : VoteP) (W : World), l[k]? = some v → (∀ j q, j < k → l[j]? = some q → p j q = false) → I k W → Calls Tryz.prog 66 #[vagg v, .pointer (some ⟨b0, 0, none⟩), .pointer (some ⟨b1, 0, none⟩), .pointer (some ⟨b2, 0, none⟩)] W fun e w' => e = .returned (.bool (p k v)) ∧ I (k + 1) w') :
    Calls Tryz.prog 67 #[x, .func (.func 66) #[] #[.pointer (some ⟨b0, 0, none⟩), .pointer (some ⟨b1, 0, none⟩), .pointer (some ⟨b2, 0, none⟩)]] w fun e w' => e = .returned (.bool (l.zipIdx.any fun y => p y.2 y.1)) ∧ ∃ m, I m w' := by
  have HF := Lib.hid (idxP_neg p l 0)
  have hc := indexV_cast b0 b1 b2 p I hi h0 hI ht
  generalize idxP p l 0 = i at *
  generalize (l.zipIdx.any fun y => p y.2 y.1) = bb at *
  have HC := Lib.hid hc
  obtain ⟨a, n, c, rfl⟩ := hi.form
  clear hc hi ht h0 hI
  go_enter Tryz.func67, Tryz.ntmps67
  go_wp2_with (go_at_call 74; refine HC.out.mono ?_; rintro e w1 ⟨rfl, hb1⟩)
  go_ret
  exact ⟨ret_bool HF.out, hb1⟩

set_option maxHeartbeats 2000000 in
theorem indexV_check (b0 : Nat) (b1 : Nat) (b2 : Nat) (b3 : Nat) (p : Nat → VoteP → Bool) (I : Nat → World → Prop) {w : World} {x : Value} {l : List VoteP} (hi : VS w x l) (h0 : I 0 w) (hI : ∀ k W, I k W → VS W x l)
    (ht : ∀ (k : Nat) (v : VoteP) (W : World), l[k]? = some v → (∀ j q, j < k → l[j]? = some q → p j q = false) → I k W → Calls Tryz.prog 84 #[vagg v, .pointer (some ⟨b0, 0, none⟩), .pointer (some ⟨b1, 0, none⟩), .pointer (some ⟨b2, 0, none⟩), .pointer (some ⟨b3, 0, none⟩)] W fun e w' => e = .returned (.bool (p k v)) ∧ I (k + 1) w') :
    Calls Tryz.prog 74 #[x, .func (.func 84) #[] #[.pointer (some ⟨b0, 0, none⟩), .pointer (some ⟨b1, 0, none⟩), .pointer (some ⟨b2, 0, none⟩), .pointer (some ⟨b3, 0, none⟩)]] w fun e w' => e = .returned (.int .i64 (idxP p l 0)) ∧ ∃ m, I m w' := by
  obtain ⟨a, cap, rfl, l1, l2, l3⟩ := hi.opened
  have HV := Lib.hid hI
  have HT := Lib.hid ht
  have H0 := Lib.hid h0
  clear l3 hi ht hI h0
  unfold maxLen at l2
  obtain ⟨n, hn⟩ : ∃ n, n = l.length := ⟨_, rfl⟩
  rw [← hn] at l1 HV ⊢
  have HN := Lib.hid hn
  clear hn
  go_enter Tryz.func74, Tryz.ntmps74
  go_wp2
  go_loopw [8] (fun i wr => ∃ k : Nat, k ≤ n ∧ i = .int .i64 k ∧ Hid (∀ j q, j < k → l[j]? = some q → p j q = false) ∧ Hid (I k wr)) (fun i wr => n - (intOf i).toNat)
  case atStart => exact ⟨0, by omega, rfl, (by intro j q hj; omega), H0⟩
  case round =>
    obtain ⟨k, hk, rfl, hall, hB⟩ := hrel
    by_cases hlt : k < n
    · obtain ⟨y, ey⟩ : ∃ y, l[k]? = some y := ⟨_, List.getElem?_eq_getElem (by rw [← HN.out]; exact hlt)⟩
      obtain ⟨a', cap', e', _, _, l3⟩ := (HV.out k wr hB.out).opened
      have e1 : a' = a := by injection e' with h1 _ _; exact h1.symm
      subst e1
      clear e'
      obtain ⟨b, off, rfl, hb, d0, d1, d2, d3, d4⟩ := l3 k y ey
      have HC := Lib.hid (HT.out k y wr ey hall.out hB.out)
      have EY := Lib.hid ey
      obtain ⟨P0, hP0⟩ : ∃ P0, P0 = p k y := ⟨_, rfl⟩
      rw [← hP0] at HC
      have HP0 := Lib.hid hP0
      clear ey hP0 l3 hb
      obtain ⟨car, num, stp, val, sl⟩ := y
      simp only [vagg] at d0 d1 d2 d3 d4 HC
      cases P0
      · go_wp2_with (go_at_call 84; refine HC.out.mono ?_; rintro e w1 ⟨rfl, hb1⟩)
        go_roundw
        case rel =>
          refine ⟨k + 1, by omega, by go_num, ?_, hb1⟩
          intro j q' hj hq
          by_cases hjk : j = k
          · subst hjk; rw [EY.out] at hq; cases hq; exact HP0.out.symm
          · exact hall.out j q' (by omega) hq
        case measure => simp [intOf]; omega
      · go_wp2_with (go_at_call 84; refine HC.out.mono ?_; rintro e w1 ⟨rfl, hb1⟩)
        go_ret
        refine ⟨ret_int ?_, _, hb1⟩
        rw [idxP_drop p l k (by rw [← HN.out]; omega) 0 (fun j v hj hv => by rw [Nat.zero_add]; exact hall.out j v hj hv), Nat.zero_add]
        rw [drop_get EY.out, idxP, if_pos HP0.out.symm]
    · go_wp2
      go_ret
      refine ⟨ret_int ?_, _, hB.out⟩
      have ek : k = n := by omega
      rw [idxP_drop p l k (by rw [← HN.out]; omega) 0 (fun j v hj hv => by rw [Nat.zero_add]; exact hall.out j v hj hv), List.drop_eq_nil_of_le (by rw [← HN.out]; omega), idxP]

set_option maxHeartbeats 1000000 in
theorem containsV_check (b0 : Nat) (b1 : Nat) (b2 : Nat) (b3 : Nat) (p : Nat → VoteP → Bool) (I : Nat → World → Prop) {w : World} {x : Value} {l : List VoteP} (hi : VS w x l) (h0 : I 0 w) (hI : ∀ k W, I k W → VS W x l)
    (ht : ∀ (k : Nat) (v : VoteP) (W : World), l[k]? = some v → (∀ j q, j < k → l[j]? = some q → p j q = false) → I k W → Calls Tryz.prog 84 #[vagg v, .pointer (some ⟨b0, 0, none⟩), .pointer (some ⟨b1, 0, none⟩), .pointer (some ⟨b2, 0, none⟩), .pointer (some ⟨b3, 0, none⟩)] W fun e w' => e = .returned (.bool (p k v)) ∧ I (k + 1) w') :
    Calls Tryz.prog 67 #[x, .func (.func 84) #[] #[.pointer (some ⟨b0, 0, none⟩), .pointer (some ⟨b1, 0, none⟩), .pointer (some ⟨b2, 0, none⟩), .pointer (some ⟨b3, 0, none⟩)]] w fun e w' => e = .returned (.bool (l.zipIdx.any fun y => p y.2 y.1)) ∧ ∃ m, I m w' := by
  have HF := Lib.hid (idxP_neg p l 0)
  have hc := indexV_check b0 b1 b2 b3 p I hi h0 hI ht
  generalize idxP p l 0 = i at *
  generalize (l.zipIdx.any fun y => p y.2 y.1) = bb at *
  have HC := Lib.hid hc
  obtain ⟨a, n, c, rfl⟩ := hi.form
  clear hc hi ht h0 hI
  go_enter Tryz.func67, Tryz.ntmps67
  go_wp2_with (go_at_call 74; refine HC.out.mono ?_; rintro e w1 ⟨rfl, hb1⟩)
  go_ret
  exact ⟨ret_bool HF.out, hb1⟩

set_option maxHeartbeats 2000000 in
theorem indexV_blame (b0 : Nat) (p : Nat → VoteP → Bool) (I : Nat → World → Prop) {w : World} {x : Value} {l : List VoteP} (hi : VS w x l) (h0 : I 0 w) (hI : ∀ k W, I k W → VS W x l)
    (ht : ∀ (k : Nat) (v : VoteP) (W : World), l[k]? = some v → (∀ j q, j < k → l[j]? = some q → p j q = false) → I k W → Calls Tryz.prog 75 #[vagg v, .pointer (some ⟨b0, 0, none⟩)] W fun e w' => e = .returned (.bool (p k v)) ∧ I (k + 1) w') :
    Calls Tryz.prog 74 #[x, .func (.func 75) #[] #[.pointer (some ⟨b0, 0, none⟩)]] w fun e w' => e = .returned (.int .i64 (idxP p l 0)) ∧ ∃ m, I m w' := by
  obtain ⟨a, cap, rfl, l1, l2, l3⟩ := hi.opened
  have HV := Lib.hid hI
  have HT := Lib.hid ht
  have H0 := Lib.hid h0
  clear l3 hi ht hI h0
  unfold maxLen at l2
  obtain ⟨n, hn⟩ : ∃ n, n = l.length := ⟨_, rfl⟩
  rw [← hn] at l1 HV ⊢
  have HN := Lib.hid hn
  clear hn
  go_enter Tryz.func74, Tryz.ntmps74
  go_wp2
  go_loopw [8] (fun i wr => ∃ k : Nat, k ≤ n ∧ i = .int .i64 k ∧ Hid (∀ j q, j < k → l[j]? = some q → p j q = false) ∧ Hid (I k wr)) (fun i wr => n - (intOf i).toNat)
  case atStart => exact ⟨0, by omega, rfl, (by intro j q hj; omega), H0⟩
  case round =>
    obtain ⟨k, hk, rfl, hall, hB⟩ := hrel
    by_cases hlt : k < n
    · obtain ⟨y, ey⟩ : ∃ y, l[k]? = some y := ⟨_, List.getElem?_eq_getElem (by rw [← HN.out]; exact hlt)⟩
      obtain ⟨a', cap', e', _, _, l3⟩ := (HV.out k wr hB.out).opened
      have e1 : a' = a := by injection e' with h1 _ _; exact h1.symm
      subst e1
      clear e'
      obtain ⟨b, off, rfl, hb, d0, d1, d2, d3, d4⟩ := l3 k y ey
      have HC := Lib.hid (HT.out k y wr ey hall.out hB.out)
      have EY := Lib.hid ey
      obtain ⟨P0, hP0⟩ : ∃ P0, P0 = p k y := ⟨_, rfl⟩
      rw [← hP0] at HC
      have HP0 := Lib.hid hP0
      clear ey hP0 l3 hb
      obtain ⟨car, num, stp, val, sl⟩ := y
      simp only [vagg] at d0 d1 d2 d3 d4 HC
      cases P0
      · go_wp2_with (go_at_call 75; refine HC.out.mono ?_; rintro e w1 ⟨rfl, hb1⟩)
        go_roundw
        case rel =>
          refine ⟨k + 1, by omega, by go_num, ?_, hb1⟩
          intro j q' hj hq
          by_cases hjk : j = k
          · subst hjk; rw [EY.out] at hq; cases hq; exact HP0.out.symm
          · exact hall.out j q' (by omega) hq
        case measure => simp [intOf]; omega
      · go_wp2_with (go_at_call 75; refine HC.out.mono ?_; rintro e w1 ⟨rfl, hb1⟩)
        go_ret
        refine ⟨ret_int ?_, _, hb1⟩
        rw [idxP_drop p l k (by rw [← HN.out]; omega) 0 (fun j v hj hv => by rw [Nat.zero_add]; exact hall.out j v hj hv), Nat.zero_add]
        rw [drop_get EY.out, idxP, if_pos HP0.out.symm]
    · go_wp2
      go_ret
      refine ⟨ret_int ?_, _, hB.out⟩
      have ek : k = n := by omega
      rw [idxP_drop p l k (by rw [← HN.out]; omega) 0 (fun j v hj hv => by rw [Nat.zero_add]; exact hall.out j v hj hv), List.drop_eq_nil_of_le (by rw [← HN.out]; omega), idxP]
end Go.Proofs.YtggdcnjaofflbaaGreatDoor

/- Walks of package quorum: areOne, the closures of Cast and Blame, Cast, Convicts. The conditions: what the slices read as, lengths of keys, the table of constants. -/
namespace Go.Proofs.YtggdcnjaofflbaaGreatDoor
open Go.RowKit Go.BigFrame

theorem eqlSlot (a b c d : Int) (w : World) : (binOp .eql 25 (.agg #[.int .i64 a, .int .i64 b]) (.agg #[.int .i64 c, .int .i64 d])).run Tryz.prog w = .ok (.bool (decide (a = c ∧ b = d))) w := by
  have h1 := run_equalIn_struct (P := Tryz.prog) w 9999 25 #[.int .i64 a, .int .i64 b] #[.int .i64 c, .int .i64 d] (by kernel_rfl) (by kernel_rfl)
  have e : decide (a = c ∧ b = d) = (a == c && b == d) := by
    rw [Bool.eq_iff_iff]; simp
  rw [e]
  rw [run_eql_struct, show (10000 : Nat) = 9999 + 1 from rfl, h1]
  simp only [go_sem, Program.fieldsOf]
  by_cases e1 : a = c <;> by_cases e2 : b = d <;> simp [go_sem, e1, e2]
theorem neqSlot (a b c d : Int) (w : World) : (binOp .neq 25 (.agg #[.int .i64 a, .int .i64 b]) (.agg #[.int .i64 c, .int .i64 d])).run Tryz.prog w = .ok (.bool (!decide (a = c ∧ b = d))) w := by
  have h1 := run_equalIn_struct (P := Tryz.prog) w 9999 25 #[.int .i64 a, .int .i64 b] #[.int .i64 c, .int .i64 d] (by kernel_rfl) (by kernel_rfl)
  have e : decide (a = c ∧ b = d) = (a == c && b == d) := by
    rw [Bool.eq_iff_iff]; simp
  rw [e]
  rw [run_neq_struct, show (10000 : Nat) = 9999 + 1 from rfl, h1]
  simp only [go_sem, Program.fieldsOf]
  by_cases e1 : a = c <;> by_cases e2 : b = d <;> simp [go_sem, e1, e2]

set_option maxHeartbeats 1000000 in
theorem areOne_any (v u : VoteP) (w : World) : Calls Tryz.prog 69 #[vagg v, vagg u] w fun e w' => e = .returned (.bool (oneV v u)) ∧ Below w.heap.size w w' := by
  have HS := Lib.hid (fun W => eqlSlot v.num v.stp u.num u.stp W)
  have HR : Hid (oneV v u = (decide (v.car = u.car) && decide (v.num = u.num ∧ v.stp = u.stp))) := Lib.hid (by
    unfold oneV
    rw [Bool.eq_iff_iff]
    simp)
  have HB : Hid (Below w.heap.size w ((w.alloc (.cells #[.int .i64 v.car, .int .i64 v.num, .int .i64 v.stp, .string v.val, .string v.sl] 27)).alloc (.cells #[.int .i64 u.car, .int .i64 u.num, .int .i64 u.stp, .string u.val, .string u.sl] 27))) := Lib.hid (((Below.refl _ _).alloc (Nat.le_refl _) _).alloc (by simp) _)
  generalize oneV v u = R at *
  unfold vagg
  obtain ⟨car, num, stp, val, sl⟩ := v
  obtain ⟨car', num', stp', val', sl'⟩ := u
  simp only at HS HR HB
  have hs := HS.out
  clear HS
  generalize decide (num = num' ∧ stp = stp') = D2 at *
  by_cases h : car = car'
  · have hd : (car == car') = true := by simp [h]
    have HR' : Hid (R = D2) := Lib.hid (by rw [HR.out, decide_eq_true h, Bool.true_and])
    clear HR h
    go_enter Tryz.func69, Tryz.ntmps69
    go_wp2
    go_ret
    exact ⟨ret_bool HR'.out.symm, HB.out⟩
  · have hd : (car == car') = false := by simp [h]
    have HR' : Hid (R = false) := Lib.hid (by rw [HR.out, decide_eq_false h, Bool.false_and])
    clear HR h
    go_enter Tryz.func69, Tryz.ntmps69
    go_wp2
    go_ret
    exact ⟨ret_bool HR'.out.symm, HB.out⟩

def otherV (car num stp : Int) (val : ByteArray) (w : VoteP) : Bool := decide ((w.car = car ∧ w.num = num ∧ w.stp = stp) ∧ w.val ≠ val)
set_option maxHeartbeats 1000000 in
theorem castfn_any (car num stp : Int) (val : ByteArray) (b0 b1 b2 : Nat) (v : VoteP) (w : World) (h0 : w.cell? ⟨b0, 0, none⟩ = some (.int .i64 car)) (h1 : w.cell? ⟨b1, 0, none⟩ = some (.int .i64 num)) (h2 : w.cell? ⟨b1, 1, none⟩ = some (.int .i64 stp)) (h3 : w.cell? ⟨b2, 0, none⟩ = some (.string val)) (l0 : b0 < w.heap.size) (l1 : b1 < w.heap.size) (l2 : b2 < w.heap.size) :
    Calls Tryz.prog 66 #[vagg v, .pointer (some ⟨b0, 0, none⟩), .pointer (some ⟨b1, 0, none⟩), .pointer (some ⟨b2, 0, none⟩)] w fun e w' => e = .returned (.bool (otherV car num stp val v)) ∧ Below w.heap.size w w' := by
  have HS := Lib.hid (fun W => eqlSlot v.num v.stp num stp W)
  have HR : Hid (otherV car num stp val v = ((decide (v.car = car) && decide (v.num = num ∧ v.stp = stp)) && !decide (v.val = val))) := Lib.hid (by
    unfold otherV
    rw [Bool.eq_iff_iff]
    simp)
  have HB : Hid (Below w.heap.size w (w.alloc (.cells #[.int .i64 v.car, .int .i64 v.num, .int .i64 v.stp, .string v.val, .string v.sl] 27))) := Lib.hid ((Below.refl _ _).alloc (Nat.le_refl _) _)
  have hst := same_str v.val val
  generalize otherV car num stp val v = R at *
  unfold vagg
  obtain ⟨vc, vn, vs, vv, vl⟩ := v
  simp only at HS HR HB hst
  have hs := HS.out
  clear HS
  generalize decide (vn = num ∧ vs = stp) = D2 at *
  generalize decide (vv = val) = D3 at *
  by_cases h : vc = car
  · have hd : (vc == car) = true := by simp [h]
    have HR' : Hid (R = (D2 && !D3)) := Lib.hid (by rw [HR.out, decide_eq_true h, Bool.true_and])
    clear HR h
    cases D2 <;> cases D3
    all_goals
      go_enter Tryz.func66, Tryz.ntmps66
      go_wp2
      go_ret
      exact ⟨ret_bool HR'.out.symm, HB.out⟩
  · have hd : (vc == car) = false := by simp [h]
    have HR' : Hid (R = false) := Lib.hid (by rw [HR.out, decide_eq_false h]; rfl)
    clear HR h
    go_enter Tryz.func66, Tryz.ntmps66
    go_wp2
    go_ret
    exact ⟨ret_bool HR'.out.symm, HB.out⟩
set_option maxHeartbeats 1000000 in
theorem blamefn_any (b0 : Nat) (car : Int) (v : VoteP) (w : World) (h0 : w.cell? ⟨b0, 0, none⟩ = some (.int .i64 car)) (l0 : b0 < w.heap.size) :
    Calls Tryz.prog 75 #[vagg v, .pointer (some ⟨b0, 0, none⟩)] w fun e w' => e = .returned (.bool (decide (v.car = car))) ∧ Below w.heap.size w w' := by
  have HB : Hid (Below w.heap.size w (w.alloc (.cells #[.int .i64 v.car, .int .i64 v.num, .int .i64 v.stp, .string v.val, .string v.sl] 27))) := Lib.hid ((Below.refl _ _).alloc (Nat.le_refl _) _)
  unfold vagg
  obtain ⟨vc, vn, vs, vv, vl⟩ := v
  go_enter Tryz.func75, Tryz.ntmps75
  go_wp2
  go_ret
  refine ⟨ret_bool ?_, HB.out⟩
  rw [Bool.eq_iff_iff]
  simp

/-! ### Cast -/
theorem infoVote : (Tryz.prog.info? 27).map (·.size) = some 5 := by kernel_rfl
theorem vfive_heap {W : World} {b : Nat} {c0 c1 c2 c3 c4 : Value} {T : TypeId} (h : W.heap[b]? = some (.cells #[c0, c1, c2, c3, c4] T (0, 0))) (v0 v1 v2 v3 v4 : Value) :
    (((((W.setCell ⟨b, 0, none⟩ v0).setCell ⟨b, 1, none⟩ v1).setCell ⟨b, 2, none⟩ v2).setCell ⟨b, 3, none⟩ v3).setCell ⟨b, 4, none⟩ v4).heap[b]? = some (.cells #[v0, v1, v2, v3, v4] T (0, 0)) := by
  have h0 := heap_setCell_same (i := 0) v0 h
  have h1 := heap_setCell_same (i := 1) v1 h0
  have h2 := heap_setCell_same (i := 2) v2 h1
  have h3 := heap_setCell_same (i := 3) v3 h2
  exact heap_setCell_same (i := 4) v4 h3
theorem vfive_below {w W : World} {b B : Nat} (h : Below B w W) (hb : B ≤ b) (v0 v1 v2 v3 v4 : Value) :
    Below B w (((((W.setCell ⟨b, 0, none⟩ v0).setCell ⟨b, 1, none⟩ v1).setCell ⟨b, 2, none⟩ v2).setCell ⟨b, 3, none⟩ v3).setCell ⟨b, 4, none⟩ v4) :=
  ((((h.setCell (p := ⟨b, 0, none⟩) hb _).setCell (p := ⟨b, 1, none⟩) hb _).setCell (p := ⟨b, 2, none⟩) hb _).setCell (p := ⟨b, 3, none⟩) hb _).setCell (p := ⟨b, 4, none⟩) hb _
end Go.Proofs.YtggdcnjaofflbaaGreatDoor

/- Walk of package quorum: Cast. The conditions: what the slices read as, lengths of keys, the table of constants. -/
namespace Go.Proofs.YtggdcnjaofflbaaGreatDoor
open Go.RowKit Go.BigFrame

theorem any_zipIdx {α : Type} (p : α → Bool) : ∀ (l : List α) (k : Nat), ((l.zipIdx k).any fun y => p y.1) = l.any p
  | [], _ => rfl
  | a :: t, k => by rw [List.zipIdx_cons, List.any_cons, List.any_cons, any_zipIdx p t (k + 1)]
theorem at5 (w : World) (o0 o1 o2 o3 o4 : Obj) : Below w.heap.size w (((((w.alloc o0).alloc o1).alloc o2).alloc o3).alloc o4) ∧ (((((w.alloc o0).alloc o1).alloc o2).alloc o3).alloc o4).heap.size = w.heap.size + 5 ∧
    (((((w.alloc o0).alloc o1).alloc o2).alloc o3).alloc o4).heap[w.heap.size]? = some o0 ∧ (((((w.alloc o0).alloc o1).alloc o2).alloc o3).alloc o4).heap[w.heap.size + 1]? = some o1 ∧ (((((w.alloc o0).alloc o1).alloc o2).alloc o3).alloc o4).heap[w.heap.size + 1 + 1]? = some o2 ∧
    (((((w.alloc o0).alloc o1).alloc o2).alloc o3).alloc o4).heap[w.heap.size + 1 + 1 + 1]? = some o3 ∧ (((((w.alloc o0).alloc o1).alloc o2).alloc o3).alloc o4).heap[w.heap.size + 1 + 1 + 1 + 1]? = some o4 := by
  refine ⟨((((((Below.refl _ _).alloc (Nat.le_refl _) _).alloc (by simp) _).alloc (by simp <;> omega) _).alloc (by simp <;> omega) _).alloc (by simp <;> omega) _), by simp, ?_, ?_, ?_, ?_, ?_⟩
  · exact (Below.heap_alloc _ _ _ (by simp <;> omega)).trans ((Below.heap_alloc _ _ _ (by simp <;> omega)).trans ((Below.heap_alloc _ _ _ (by simp <;> omega)).trans ((Below.heap_alloc _ _ _ (by simp)).trans (heap_alloc_new w o0))))
  · have := heap_alloc_new (w.alloc o0) o1
    rw [World.size_alloc] at this
    exact (Below.heap_alloc _ _ _ (by simp <;> omega)).trans ((Below.heap_alloc _ _ _ (by simp <;> omega)).trans ((Below.heap_alloc _ _ _ (by simp)).trans this))
  · have := heap_alloc_new ((w.alloc o0).alloc o1) o2
    rw [World.size_alloc, World.size_alloc] at this
    exact (Below.heap_alloc _ _ _ (by simp <;> omega)).trans ((Below.heap_alloc _ _ _ (by simp)).trans this)
  · have := heap_alloc_new (((w.alloc o0).alloc o1).alloc o2) o3
    rw [World.size_alloc, World.size_alloc, World.size_alloc] at this
    exact (Below.heap_alloc _ _ _ (by simp)).trans this
  · have := heap_alloc_new ((((w.alloc o0).alloc o1).alloc o2).alloc o3) o4
    rw [World.size_alloc, World.size_alloc, World.size_alloc, World.size_alloc] at this
    exact this
def castR (o : Option VoteP) : Value := match o with
  | some v => .tuple #[vagg v, .int .i64 0]
  | none => .tuple #[.agg #[.int .i64 0, .int .i64 0, .int .i64 0, .string ⟨#[]⟩, .string ⟨#[]⟩], .int .i64 190]
theorem castV_no {key : ByteArray} {car num stp : Int} {val : ByteArray} {hist : List VoteP} (h : formedV ⟨car, num, stp, val, key⟩ = false ∨ hist.any (otherV car num stp val) = true) : castV key car num stp val hist = none := by
  unfold castV castOk
  rw [if_neg]
  intro h'
  rw [Bool.and_eq_true] at h'
  rcases h with h | h
  · rw [h] at h'; cases h'.1
  · have := h'.2
    rw [Bool.not_eq_true'] at this
    have e : (hist.any fun w => decide ((w.car = car ∧ w.num = num ∧ w.stp = stp) ∧ w.val ≠ val)) = true := h
    rw [e] at this
    cases this
theorem castV_yes {key : ByteArray} {car num stp : Int} {val : ByteArray} {hist : List VoteP} (h : formedV ⟨car, num, stp, val, key⟩ = true) (h' : hist.any (otherV car num stp val) = false) : castV key car num stp val hist = some ⟨car, num, stp, val, sealV key ⟨car, num, stp, val, key⟩⟩ := by
  unfold castV castOk
  have e : (hist.any fun w => decide ((w.car = car ∧ w.num = num ∧ w.stp = stp) ∧ w.val ≠ val)) = false := h'
  rw [h, e]
  rfl

set_option maxHeartbeats 4000000 in
set_option maxRecDepth 100000 in
theorem cast_any (key : ByteArray) (car num stp : Int) (val : ByteArray) {w : World} {hv : Value} {hist : List VoteP} (hh : VS w hv hist) (hk : key.size ≤ 1000) (he : Env w) (hg : 3 < w.heap.size) :
    Calls Tryz.prog 23 #[.string key, .int .i64 car, hv, .agg #[.int .i64 num, .int .i64 stp], .string val] w fun e w' => e = .returned (castR (castV key car num stp val hist)) ∧ Below w.heap.size w w' := by
  obtain ⟨a, n, cap, rfl⟩ := hh.form
  obtain ⟨W5, hW5⟩ : ∃ W5, W5 = (((((w.alloc (.cells #[.int .i64 car] 3)).alloc (.cells #[.int .i64 num, .int .i64 stp] 25)).alloc (.cells #[.string val] 9)).alloc (.cells #[.int .i64 0, .int .i64 0, .int .i64 0, .string ⟨#[]⟩, .string ⟨#[]⟩] 27)).alloc (.cells #[.int .i64 car, .int .i64 num, .int .i64 stp, .string val, .string key] 27)) := ⟨_, rfl⟩
  have h5 := at5 w (.cells #[.int .i64 car] 3) (.cells #[.int .i64 num, .int .i64 stp] 25) (.cells #[.string val] 9) (.cells #[.int .i64 0, .int .i64 0, .int .i64 0, .string ⟨#[]⟩, .string ⟨#[]⟩] 27) (.cells #[.int .i64 car, .int .i64 num, .int .i64 stp, .string val, .string key] 27)
  rw [← hW5] at h5
  obtain ⟨hB5, hs5, h50, h51, h52, h53, h54⟩ := h5
  have HB5 := Lib.hid hB5
  have HH5 := Lib.hid (And.intro h50 (And.intro h51 (And.intro h52 (And.intro h53 h54))))
  have HV5 := Lib.hid (hh.below hB5)
  have HE := Lib.hid (he.below hB5 hg)
  have HG := Lib.hid (Nat.lt_of_lt_of_le hg hB5.size)
  have HW5 := Lib.hid hW5
  clear hB5 h50 h51 h52 h53 h54 hW5 hh he hg
  -- what the closure asks
  have HCL : Hid (∀ W, Below W5.heap.size W5 W → Calls Tryz.prog 67 #[.slice a n cap, .func (.func 66) #[] #[.pointer (some ⟨w.heap.size, 0, none⟩), .pointer (some ⟨w.heap.size + 1, 0, none⟩), .pointer (some ⟨w.heap.size + 1 + 1, 0, none⟩)]] W fun e w' => e = .returned (.bool (hist.any (otherV car num stp val))) ∧ Below W5.heap.size W5 w') := Lib.hid (fun W hW => by
    refine (containsV_cast w.heap.size (w.heap.size + 1) (w.heap.size + 1 + 1) (fun _ v => otherV car num stp val v) (fun _ W' => Below W5.heap.size W5 W') (HV5.out.below hW) hW (fun _ W' h => HV5.out.below h) (fun k v W' _ _ hW' => ?_)).mono ?_
    · have c0 := cell_of_row W' _ 0 _ _ _ ((hW'.block _ (by omega)).trans HH5.out.1)
      have c1 := cell_of_row W' _ 0 _ _ _ ((hW'.block _ (by omega)).trans HH5.out.2.1)
      have c2 := cell_of_row W' _ 1 _ _ _ ((hW'.block _ (by omega)).trans HH5.out.2.1)
      have c3 := cell_of_row W' _ 0 _ _ _ ((hW'.block _ (by omega)).trans HH5.out.2.2.1)
      have hs := hW'.size
      refine (castfn_any car num stp val w.heap.size (w.heap.size + 1) (w.heap.size + 1 + 1) v W' c0 c1 c2 c3 (by omega) (by omega) (by omega)).mono ?_
      rintro e w' ⟨rfl, hb⟩
      exact ⟨rfl, q_next hW' hb⟩
    · rintro e w' ⟨rfl, m, hb⟩
      refine ⟨?_, hb⟩
      rw [any_zipIdx (otherV car num stp val) hist 0])
  have HF := Lib.hid (isFormed_any ⟨car, num, stp, val, key⟩ W5)
  simp only at HF
  obtain ⟨W6, hW6⟩ : ∃ W6, W6 = W5.alloc (.cells #[.int .i64 car, .int .i64 num, .int .i64 stp, .string val, .string key] 27) := ⟨_, rfl⟩
  rw [← hW6] at HF
  have HB6 : Hid (Below W5.heap.size W5 W6) := Lib.hid (by rw [hW6]; exact (Below.refl _ _).alloc (Nat.le_refl _) _)
  clear hW6
  have e54 := vcellsAt HH5.out.2.2.2.2
  obtain ⟨e0, e1, e2, e3, e4⟩ := e54
  -- the end without a vote
  have NO : ∀ W, Below W5.heap.size W5 W → Below w.heap.size w W ∧ W.heap[w.heap.size + 1 + 1 + 1]? = some (.cells #[.int .i64 0, .int .i64 0, .int .i64 0, .string ⟨#[]⟩, .string ⟨#[]⟩] 27 (0, 0)) := fun W hW => ⟨HB5.out.trans (hW.mono HB5.out.size), (hW.block _ (by omega)).trans HH5.out.2.2.2.1⟩
  have HNO := Lib.hid NO
  clear NO
  cases hf : formedV ⟨car, num, stp, val, key⟩ with
  | false =>
    have HR := Lib.hid (castV_no (hist := hist) (.inl hf))
    rw [hf] at HF
    clear hf
    generalize castV key car num stp val hist = R at *
    go_enter Tryz.func23, Tryz.ntmps23
    go_upto_region 3 with fail
    rw [← HW5.out]
    have HZ := Lib.hid (HNO.out W6 HB6.out)
    obtain ⟨z0, z1, z2, z3, z4⟩ := vcellsAt HZ.out.2
    have zf : ∀ j, W6.frozen? ⟨w.heap.size + 1 + 1 + 1, j, none⟩ = false := fun j => by unfold World.frozen?; rw [HZ.out.2]; simp
    go_wp2_with (go_at_call 62; refine HF.out.mono ?_; rintro e w1 ⟨rfl, rfl⟩)
    refine bodyPost_ret (results_cellA_tmp rfl _ (w.heap.size + 1 + 1 + 1) 27 #[.int .i64 0, .int .i64 0, .int .i64 0, .string ⟨#[]⟩, .string ⟨#[]⟩] (0, 0) _ rfl (vfive_heap HZ.out.2 _ _ _ _ _) Tryz.underlying27 rfl infoVote) rfl ⟨?_, vfive_below HZ.out.1 (by omega) _ _ _ _ _⟩
    rw [HR.out]
    rfl
  | true =>
    rw [hf] at HF
    have hsm := small_formed hf
    obtain ⟨D, hD⟩ : ∃ D, D = hist.any (otherV car num stp val) := ⟨_, rfl⟩
    have HN : Hid (D = true → castV key car num stp val hist = none) := Lib.hid (fun h => castV_no (.inr (hD.symm.trans h)))
    have HY : Hid (D = false → castV key car num stp val hist = some ⟨car, num, stp, val, sealV key ⟨car, num, stp, val, key⟩⟩) := Lib.hid (fun h => castV_yes hf (hD.symm.trans h))
    rw [← hD] at HCL
    have HS : Hid (∀ W, Below W5.heap.size W5 W → Calls Tryz.prog 68 #[.string key, .agg #[.int .i64 car, .int .i64 num, .int .i64 stp, .string val, .string key]] W fun e w' => e = .returned (.string (sealV key ⟨car, num, stp, val, key⟩)) ∧ Below W.heap.size W w') := Lib.hid (fun W hW => qseal_any key ⟨car, num, stp, val, key⟩ hsm hk W (HE.out.below hW HG.out) (Nat.lt_of_lt_of_le HG.out hW.size))
    generalize castV key car num stp val hist = R at *
    generalize sealV key ⟨car, num, stp, val, key⟩ = S at *
    clear hD hf hsm
    cases D
    · have HR := Lib.hid (HY.out rfl)
      clear HN HY
      go_enter Tryz.func23, Tryz.ntmps23
      go_upto_region 3 with fail
      rw [← HW5.out]
      go_upto_region 5 with (first | (go_at_call 62; refine HF.out.mono ?_; rintro e w1 ⟨rfl, rfl⟩) | (go_at_call 67; refine (HCL.out _ HB6.out).mono ?_; rintro e w2 ⟨rfl, hb2⟩))
      have HB2 := Lib.hid hb2
      have HV2 := Lib.hid ((hb2.block (w.heap.size + 1 + 1 + 1 + 1) (by omega)).trans HH5.out.2.2.2.2)
      clear e0 e1 e2 e3 e4 hb2
      obtain ⟨e0, e1, e2, e3, e4⟩ := vcellsAt HV2.out
      go_wp2_with fail
      refine (HS.out _ HB2.out).mono ?_
      rintro e w3 ⟨rfl, hb3⟩
      clear e0 e1 e2 e3 e4
      have HB3 := Lib.hid (q_next HB2.out hb3)
      have HV3 := Lib.hid ((hb3.block _ (Array.getElem?_eq_some_iff.1 HV2.out).1).trans HV2.out)
      clear hb3
      have HZ := Lib.hid (HNO.out w3 HB3.out)
      obtain ⟨e0, e1, e2, e3, e4⟩ := vcellsAt HV3.out
      have ef : ∀ j, w3.frozen? ⟨w.heap.size + 1 + 1 + 1 + 1, j, none⟩ = false := fun j => by unfold World.frozen?; rw [HV3.out]; simp
      go_upto_region 6 with fail
      obtain ⟨w4, hw4⟩ : ∃ w4, w4 = w3.setCell ⟨w.heap.size + 1 + 1 + 1 + 1, 4, none⟩ (.string S) := ⟨_, rfl⟩
      rw [← hw4]
      have hg4 : w3.grownBy w4 (some (w.heap.size + 1 + 1 + 1 + 1)) := by rw [hw4]; exact grown_setCell (grown_refl _ _) _ (.inl rfl) _
      have HV4 : Hid (w4.heap[w.heap.size + 1 + 1 + 1 + 1]? = some (.cells #[.int .i64 car, .int .i64 num, .int .i64 stp, .string val, .string S] 27 (0, 0))) := Lib.hid (by rw [hw4]; exact heap_setCell_same (i := 4) _ HV3.out)
      have HZ4 : Hid (w4.heap[w.heap.size + 1 + 1 + 1]? = some (.cells #[.int .i64 0, .int .i64 0, .int .i64 0, .string ⟨#[]⟩, .string ⟨#[]⟩] 27 (0, 0))) := Lib.hid ((hg4.block _ (Array.getElem?_eq_some_iff.1 HZ.out.2).1 (fun e => by have := Option.some.inj e; omega)).trans HZ.out.2)
      have HB4 : Hid (Below w.heap.size w w4) := Lib.hid (by rw [hw4]; exact HZ.out.1.setCell (p := ⟨w.heap.size + 1 + 1 + 1 + 1, 4, none⟩) (by show w.heap.size ≤ w.heap.size + 1 + 1 + 1 + 1; omega) _)
      clear hw4 hg4 e0 e1 e2 e3 e4 ef
      obtain ⟨e0, e1, e2, e3, e4⟩ := vcellsAt HV4.out
      obtain ⟨z0, z1, z2, z3, z4⟩ := vcellsAt HZ4.out
      have zf : ∀ j, w4.frozen? ⟨w.heap.size + 1 + 1 + 1, j, none⟩ = false := fun j => by unfold World.frozen?; rw [HZ4.out]; simp
      go_wp2
      refine bodyPost_ret (results_cellA_tmp rfl _ (w.heap.size + 1 + 1 + 1) 27 #[.int .i64 car, .int .i64 num, .int .i64 stp, .string val, .string S] (0, 0) _ rfl (vfive_heap HZ4.out _ _ _ _ _) Tryz.underlying27 rfl infoVote) rfl ⟨?_, vfive_below HB4.out (by omega) _ _ _ _ _⟩
      rw [HR.out]
      rfl
    · have HR := Lib.hid (HN.out rfl)
      clear HN HY HS
      go_enter Tryz.func23, Tryz.ntmps23
      go_upto_region 3 with fail
      rw [← HW5.out]
      go_wp2_with (first | (go_at_call 62; refine HF.out.mono ?_; rintro e w1 ⟨rfl, rfl⟩) | (go_at_call 67; refine (HCL.out _ HB6.out).mono ?_; rintro e w2 ⟨rfl, hb2⟩; have HZ := Lib.hid (HNO.out w2 hb2); clear hb2; obtain ⟨z0, z1, z2, z3, z4⟩ := vcellsAt HZ.out.2; have zf : ∀ j, w2.frozen? ⟨w.heap.size + 1 + 1 + 1, j, none⟩ = false := fun j => (by unfold World.frozen?; rw [HZ.out.2]; simp)))
      refine bodyPost_ret (results_cellA_tmp rfl _ (w.heap.size + 1 + 1 + 1) 27 #[.int .i64 0, .int .i64 0, .int .i64 0, .string ⟨#[]⟩, .string ⟨#[]⟩] (0, 0) _ rfl (vfive_heap HZ.out.2 _ _ _ _ _) Tryz.underlying27 rfl infoVote) rfl ⟨?_, vfive_below HZ.out.1 (by omega) _ _ _ _ _⟩
      rw [HR.out]
      rfl
end Go.Proofs.YtggdcnjaofflbaaGreatDoor

/- Walk of package quorum: votes. The conditions: what the slices read as, lengths of keys, the table of constants. -/
namespace Go.Proofs.YtggdcnjaofflbaaGreatDoor
open Go.RowKit Go.BigFrame Go.Shelf

attribute [local go_sem] Oper.semAt_some

theorem at6 (w : World) (o0 o1 o2 o3 o4 o5 : Obj) (W : World) (hW : W = ((((((w.alloc o0).alloc o1).alloc o2).alloc o3).alloc o4).alloc o5)) : Below w.heap.size w W ∧ W.heap.size = w.heap.size + 6 ∧
    W.heap[w.heap.size]? = some o0 ∧ W.heap[w.heap.size + 1]? = some o1 ∧ W.heap[w.heap.size + 1 + 1]? = some o2 ∧ W.heap[w.heap.size + 1 + 1 + 1]? = some o3 ∧ W.heap[w.heap.size + 1 + 1 + 1 + 1]? = some o4 ∧ W.heap[w.heap.size + 1 + 1 + 1 + 1 + 1]? = some o5 := by
  obtain ⟨h0, h1, h2, h3, h4, h5, h6⟩ := at5 w o0 o1 o2 o3 o4
  generalize (((((w.alloc o0).alloc o1).alloc o2).alloc o3).alloc o4) = V at *
  subst hW
  have e := heap_alloc_new V o5
  rw [h1] at e
  exact ⟨h0.alloc h0.size _, by rw [World.size_alloc, h1], (Below.heap_alloc _ _ _ (by omega)).trans h2, (Below.heap_alloc _ _ _ (by omega)).trans h3, (Below.heap_alloc _ _ _ (by omega)).trans h4, (Below.heap_alloc _ _ _ (by omega)).trans h5, (Below.heap_alloc _ _ _ (by omega)).trans h6, e⟩
theorem ones_ne {m i : Nat} : m ||| 2 ^ i ≠ 0 := by
  intro e
  have h := congrArg (Nat.testBit · i) e
  simp at h
theorem maskV_step {ks : List ByteArray} {num stp : Int} {L : List VoteP} {v : VoteP} (hin : inSlot ks num stp v = true) : (fun s => maskV ks num stp s (L ++ [v]) 0) = fun t => if t = v.val then maskV ks num stp v.val L 0 ||| 2 ^ v.car.toNat else maskV ks num stp t L 0 := by
  funext t
  rw [mask_snoc]
  by_cases e : t = v.val
  · rw [if_pos e, if_pos ⟨hin, e.symm⟩, e]
  · rw [if_neg e, if_neg (fun h => e h.2.symm)]
theorem maskV_skip {ks : List ByteArray} {num stp : Int} {L : List VoteP} {v : VoteP} (hin : inSlot ks num stp v = false) : (fun s => maskV ks num stp s (L ++ [v]) 0) = fun s => maskV ks num stp s L 0 := by
  funext t
  rw [mask_snoc, if_neg (fun h => by rw [hin] at h; cases h.1)]
def VotesAt (w : World) (ks : List ByteArray) (num stp : Int) (kv x : Value) (L : List VoteP) (W : World) : Prop :=
  (∃ n D, MapU W (w.heap.size + 1 + 1) n D ∧ (ReadsU D (fun s => maskV ks num stp s L 0) ∧ n ≤ L.length)) ∧ (W.heap[w.heap.size + 1]? = some (.cells #[.int .i64 num, .int .i64 stp] 25 (0, 0)) ∧
    (W.heap[w.heap.size + 1 + 1 + 1]? = some (.cells #[.map (some (w.heap.size + 1 + 1))] 118 (0, 0)) ∧ (W.heap[w.heap.size + 1 + 1 + 1 + 1]? = some (.cells #[kv] 31 (0, 0)) ∧ (W.heap[w.heap.size + 1 + 1 + 1 + 1 + 1]? = some (.cells #[x] 35 (0, 0)) ∧ Below w.heap.size w W))))
theorem votesAt_abide (w : World) (ks : List ByteArray) (num stp : Int) (kv x : Value) (B : Nat) (hB : w.heap.size + 6 ≤ B) : Abide (α := GV ks) none B (fun pre W => VotesAt w ks num stp kv x (pre.map (·.1)) W) :=
  abide_and (abide_ex fun n => abide_ex fun D => abide_and (abide_map (by omega) (by simp) (fun _ => n) (fun _ => D)) (abide_pure _ _ _)) (abide_and (abide_cells (fun _ => .cells _ _ _) (fun _ => rfl) (by simp)) (abide_and (abide_cells (fun _ => .cells _ _ _) (fun _ => rfl) (by simp)) (abide_and (abide_cells (fun _ => .cells _ _ _) (fun _ => rfl) (by simp)) (abide_and (abide_cells (fun _ => .cells _ _ _) (fun _ => rfl) (by simp)) (abide_below (by omega) (Nat.le_refl _) (fun q e => by cases e))))))

set_option maxHeartbeats 4000000 in
set_option maxRecDepth 100000 in
theorem votes_any {w : World} {kv x : Value} {ks : List ByteArray} {l : List VoteP} (hr : SS w kv ks) (hks : ∀ k ∈ ks, k.size ≤ 1000) (hl : VS w x l) (num stp : Int) (he : Env w) (hg : 3 < w.heap.size) :
    Calls Tryz.prog 77 #[.agg #[kv], .agg #[.int .i64 num, .int .i64 stp], x] w fun e w' => ∃ B n D, e = .returned (.map (some B)) ∧ MapU w' B n D ∧ ReadsU D (fun s => maskV ks num stp s l 0) ∧ w.heap.size ≤ B ∧ Below w.heap.size w w' := by
  obtain ⟨ka, kn, kc, rfl⟩ : ∃ a n c, kv = .slice a n c := by obtain ⟨a, c, h, _⟩ := hr.opened; exact ⟨_, _, _, h⟩
  obtain ⟨a, cap, rfl, l1, l2, _⟩ := hl.opened
  unfold maxLen at l2
  obtain ⟨n, hn⟩ : ∃ n, n = l.length := ⟨_, rfl⟩
  rw [← hn] at l1
  have HR := Lib.hid hr
  have HKS := Lib.hid hks
  have HL := Lib.hid hl
  have HE := Lib.hid he
  have HG := Lib.hid hg
  have hnl : Hid (n = l.length) := Lib.hid hn
  clear hr hks hl he hg
  rw [← hn] at HL ⊢
  clear hn
  have hmm := @run_makeMap Tryz.prog
  refine calls_of_callsIn (n := 8) Wide.wide (callsIn_of_wp_marks Tryz.func77 rfl trivial ?_)
  simp only [Tryz.ntmps77, List.size_toArray, List.length_cons, List.length_nil, Nat.reduceAdd, Nat.reduceSub, Array.replicate_succ, Array.replicate_zero, List.push_toArray, List.append_toArray, List.nil_append, List.cons_append]
  refine wpIn_wide.2 ?_
  go_wp2_with (go_at_call 108; refine (genuine_fn _ _ _ _ _ _ _).mono ?_; rintro e w1 ⟨rfl, rfl⟩)
  obtain ⟨W6, hW6⟩ : ∃ W6, W6 = ((((((w.alloc (.cells #[.slice ka kn kc] 31)).alloc (.cells #[.int .i64 num, .int .i64 stp] 25)).alloc (.map #[] 0)).alloc (.cells #[.map (some (w.heap.size + 1 + 1))] 118)).alloc (.cells #[.slice ka kn kc] 31)).alloc (.cells #[.slice a n cap] 35)) := ⟨_, rfl⟩
  rw [← hW6]
  obtain ⟨h0, h1, h2, h3, h4, h5, h6, h7⟩ := at6 w _ _ _ _ _ _ W6 hW6
  have HM6 : Hid (MapU W6 (w.heap.size + 1 + 1) 0 (.map [])) := Lib.hid (by
    have e := World.ownsMap_made ((w.alloc (.cells #[.slice ka kn kc] 31)).alloc (.cells #[.int .i64 num, .int .i64 stp] 25)) Tryz.prog 9 (plainElem (H := Unit) Tryz.prog 117)
    rw [World.size_alloc, World.size_alloc] at e
    rw [hW6]
    exact World.ownsMap.kept (World.ownsMap.kept (World.ownsMap.kept e (World.grownBy_alloc _ _ none) (by simp)) (World.grownBy_alloc _ _ none) (by simp)) (World.grownBy_alloc _ _ none) (by simp))
  have HV6 : Hid (VotesAt w ks num stp (.slice ka kn kc) (.slice a n cap) [] W6) := Lib.hid ⟨⟨0, _, HM6.out, readsU_nil, Nat.le_refl _⟩, h3, h5, h6, h7, h0⟩
  have hs6 : w.heap.size + 6 ≤ W6.heap.size := by omega
  have HI6 := Lib.hid (gen_iter w W6 HR.out HKS.out HL.out HE.out HG.out h0 (w.heap.size + 1 + 1 + 1 + 1 + 1) (w.heap.size + 1 + 1 + 1 + 1) h7 h6)
  clear h0 h1 h2 h3 h4 h5 h6 h7 HM6 hW6 hmm
  refine (wpIn_wide (n := 8)).1 ?_
  refine wpIn_rangeA (n := 8) Wide.wide rfl (gf := 146) (lb := #[.pointer (some ⟨w.heap.size + 1 + 1 + 1 + 1 + 1, 0, none⟩), .pointer (some ⟨w.heap.size + 1 + 1 + 1 + 1, 0, none⟩)]) ?ev (fun args w => ?enter) HI6.out (Below.refl _ _) (fun x => rfl) (fun q e => by cases e) (fun h h' => h.trans h') (fun W l o o' h1 h2 h3 h4 => ?kb)
    (fun pre W => VotesAt w ks num stp (.slice ka kn kc) (.slice a n cap) (pre.map (·.1)) W) (fun _ _ _ => False) (votesAt_abide w ks num stp _ _ _ hs6) (fun _ => abide_false _ _) HV6.out
    (fun a x a' W => ∃ q, W.heap[q]? = some (.cells #[.int .i64 x.1.car, .int .i64 x.1.num, .int .i64 x.1.stp, .string x.1.val, .string x.1.sl] 27 (0, 0)) ∧ a' = ⟨(a.tmps.setIfInBounds 13 (vagg x.1)).setIfInBounds 8 (.pointer (some ⟨q, 0, none⟩)), []⟩)
    (fun x a' W l o o' h1 h2 h3 h4 => ?a1) (fun A C h1 h2 => ?kg) (fun l pre x W K hI hK => ?assign) (fun lr pre x a' W hI hlen hA => ?body) (fun Dm xs W hDm hS hI hDd => ?done) (fun Dm c pre W hD hS hI => hI.elim)
  case a1 =>
    obtain ⟨q, hq, ha⟩ := h1
    exact ⟨q, (World.putObj_heap_other (fun e => by subst e; rw [h3] at hq; cases hq; cases h4)).trans hq, ha⟩
  case kg => exact ⟨(Below.refl _ _).grown h2 (by omega) (fun j e => by cases e), h2.block _ (by omega) (by simp), h2.block _ (by omega) (by simp)⟩
  case assign =>
    unfold GV.enc vagg at *
    simp only [List.zip_toArray, List.zip_cons_cons, List.zip_nil_right, List.foldl_toArray', List.foldl_cons, List.foldl_nil, List.setIfInBounds_toArray, List.set_cons_succ, List.set_cons_zero]
    gi_wp2
    exact hK _ _ ⟨W.heap.size, heap_alloc_new _ _, rfl⟩ (World.grownBy_alloc _ _ _)
  case ev => rfl
  case enter => kernel_rfl
  case kb => exact ⟨(Below.refl _ _).grown (grownBy_putObj' W l o') (by have := (Array.getElem?_eq_some_iff.1 h2).1; omega) (fun j e => by cases e; omega), World.putObj_heap_other (fun e => by omega), World.putObj_heap_other (fun e => by omega)⟩
  case body =>
    obtain ⟨q, hq, rfl⟩ := hA
    obtain ⟨⟨m, D, g1, g2, g3⟩, g4, g5, g6, g7, g8⟩ := hI
    obtain ⟨v, hv⟩ := x
    simp only at hq
    obtain ⟨v0, v1, v2, v3, v4⟩ := vcellsAt hq
    have c1 : W.cell? ⟨w.heap.size + 1, 0, none⟩ = some (.int .i64 num) := cell_of_row W _ 0 _ _ _ g4
    have c2 : W.cell? ⟨w.heap.size + 1, 1, none⟩ = some (.int .i64 stp) := cell_of_row W _ 1 _ _ _ g4
    have c3 : W.cell? ⟨w.heap.size + 1 + 1 + 1, 0, none⟩ = some (.map (some (w.heap.size + 1 + 1))) := cell_of_row W _ 0 _ _ _ g5
    have hgf := gen_facts hv
    have hsW : w.heap.size + 6 ≤ W.heap.size := by have := (Array.getElem?_eq_some_iff.1 g7).1; omega
    have hin : inSlot ks num stp v = decide (v.num = num ∧ v.stp = stp) := by unfold inSlot; rw [hv, Bool.true_and]
    have hs := fun W => eqlSlot v.num v.stp num stp W
    have G1 := Lib.hid g1
    have G2 := Lib.hid (And.intro g2 g3)
    have GK := Lib.hid (And.intro g4 (And.intro g5 (And.intro g6 (And.intro g7 g8))))
    have hmlen : (pre.map (·.1)).length < n := by rw [List.length_map, hnl.out]; exact hlen
    clear g1 g2 g3 g4 g5 g6 g7 g8 hq
    obtain ⟨L, hL⟩ : ∃ L, L = pre.map (·.1) := ⟨_, rfl⟩
    have HMP : Hid (((pre ++ [(⟨v, hv⟩ : GV ks)]).map (·.1)) = L ++ [v]) := Lib.hid (by rw [List.map_append, hL]; rfl)
    rw [← hL] at hmlen G2
    clear hL
    obtain ⟨X, hX⟩ : ∃ X : GV ks, X = ⟨v, hv⟩ := ⟨_, rfl⟩
    rw [← hX] at HMP ⊢
    have hXv : X.1 = v := by rw [hX]
    rw [hXv]
    clear hX hXv
    cases hD : decide (v.num = num ∧ v.stp = stp) with
    | false =>
      rw [hD] at hin hs
      have HSK := Lib.hid (maskV_skip (L := L) hin)
      clear hin hD hgf
      obtain ⟨vc, vn, vs, vv, vl⟩ := v
      unfold vagg
      simp only at v0 v1 v2 v3 v4 hs
      simp only [List.setIfInBounds_toArray, List.set_cons_succ, List.set_cons_zero]
      gi_wp2
      refine ⟨⟨Nat.le_refl _, fun q o _ hq _ => hq⟩, ⟨Below.refl _ _, rfl, rfl⟩, ?_⟩
      show VotesAt _ _ _ _ _ _ (List.map _ _) _
      rw [HMP.out]
      exact ⟨⟨m, D, G1.out, by rw [HSK.out]; exact G2.out.1, by rw [List.length_append]; have := G2.out.2; omega⟩, GK.out⟩
    | true =>
      rw [hD] at hin hs
      have HSK := Lib.hid (maskV_step (L := L) hin)
      clear hin hD
      obtain ⟨vc, vn, vs, vv, vl⟩ := v
      unfold vagg
      simp only at v0 v1 v2 v3 v4 hs hgf HSK
      obtain ⟨c, hc⟩ := Int.eq_ofNat_of_zero_le hgf.1.1
      subst hc
      have hc8 : c < 8 := by omega
      simp only [List.setIfInBounds_toArray, List.set_cons_succ, List.set_cons_zero]
      gi_wp2
      have hlk : ∀ q, (Instr.lookup 118 (.map (some (w.heap.size + 1 + 1))) (.string vv) false).run Tryz.prog (W.drewN q) = .ok (.int .u64 (maskV ks num stp vv L 0 : Nat)) (W.drewN q) := fun q => MapU.look (World.ownsMap.kept G1.out (below_grownQ (below_drewN (Below.refl _ _) q)) (by simp)) G2.out.1 vv (by rw [hgf.2.2.2.2]; decide)
      have hM := mask_lt ks num stp vv L 0 (by decide)
      obtain ⟨M, hMe⟩ : ∃ M, M = maskV ks num stp vv L 0 := ⟨_, rfl⟩
      rw [← hMe] at hlk hM HSK
      clear hMe
      refine wpIn_region_quiet_tail 8 (fun w' => ∃ q, w' = W.drewN q) (Wide.inRound Wide.wide _) (by kernel_rfl) (by kernel_rfl) ⟨1, rfl⟩ ?_
      simp only [List.take_succ_cons, List.take_zero, List.drop_succ_cons, List.drop_zero]
      repeat (go_big_quiet_step (fail))
      refine wpQuiet_nil ?_
      rintro _ ⟨nq, rfl⟩
      have hor : bits BinOp.or IntKind.u64 (M : Int) (IntKind.u64.wrap (2 ^ c)) = ((M ||| 2 ^ c : Nat) : Int) := by
        have hp : (2 : Nat) ^ c < 256 := Nat.lt_of_lt_of_le (Nat.pow_lt_pow_right (by decide) hc8) (by decide)
        have e : ((2 : Int) ^ c) = ((2 ^ c : Nat) : Int) := by rw [Int.natCast_pow]; rfl
        rw [e]
        generalize 2 ^ c = P at *
        rw [IntKind.wrap_u64, show ((P : Int) % 18446744073709551616) = (P : Int) from by omega]
        exact u64_or_nat M P (by omega) (by omega)
      rw [hor]
      have hO := or_lt256 hM hc8
      obtain ⟨N, hN⟩ : ∃ N, N = M ||| 2 ^ c := ⟨_, rfl⟩
      have HN0 : Hid (N ≠ 0) := Lib.hid (by rw [hN]; exact ones_ne)
      have HSK2 : Hid ((fun s => maskV ks num stp s (L ++ [⟨(c : Int), vn, vs, vv, vl⟩]) 0) = fun t => if t = vv then N else maskV ks num stp t L 0) := Lib.hid (by rw [HSK.out, hN]; rfl)
      rw [← hN] at hO ⊢
      clear hN hor HSK hs hlk v0 v1 v2 v3 v4 c1 c2 c3
      have HK := Lib.hid (keyU (s := vv) (by rw [hgf.2.2.2.2]; decide))
      have HV := Lib.hid (plainElem_int (H := Unit) Tryz.underlying117 (a := ((N : Nat) : Int)) (q := .u64) (by
        exact WalkArith.wf_u64 ⟨by omega, by omega⟩))
      have HMW : Hid (MapU (W.drewN nq) (w.heap.size + 1 + 1) m D) := Lib.hid (World.ownsMap.kept G1.out (below_grownQ (below_drewN (Below.refl _ _) nq)) (by simp))
      have hm63 : m < maxLen := by have := G2.out.2; unfold maxLen; omega
      gi_wp2_with (gi_at_mapUpdate; refine wpListIn_mapUpdate_own _ rfl _ _ _ 118 rfl 9 117 lawU Tryz.underlying118 _ (w.heap.size + 1 + 1) m D rfl HMW.out hm63 _ _ _ rfl rfl HK.out _ [] HV.out ?_; intro w1 hown1 hgrow1)
      have hkeep : ∀ (k : Nat) (o : Obj), W.heap[k]? = some o → k ≠ w.heap.size + 1 + 1 → w1.heap[k]? = some o := fun k o hk hne => (hgrow1.block k (by show k < (W.drewN nq).heap.size; exact (Array.getElem?_eq_some_iff.1 hk).1) (fun e => hne (Option.some.inj e))).trans hk
      have hbw : Below w.heap.size w w1 := (below_drewN GK.out.2.2.2.2 nq).grown hgrow1 (by show w.heap.size ≤ W.heap.size; omega) (fun j e => by cases e; omega)
      have hbW : Below w.heap.size W w1 := (below_drewN (Below.refl _ _) nq).grown hgrow1 (by show w.heap.size ≤ W.heap.size; omega) (fun j e => by cases e; omega)
      refine ⟨⟨hbW.size, fun k o hk ho _ => hkeep k o ho (by omega)⟩, ⟨hbW, (hkeep _ _ GK.out.2.2.2.1 (by omega)).trans GK.out.2.2.2.1.symm, (hkeep _ _ GK.out.2.2.1 (by omega)).trans GK.out.2.2.1.symm⟩, ?_⟩
      show VotesAt _ _ _ _ _ _ (List.map _ _) _
      rw [HMP.out]
      refine ⟨⟨m + 1, _, hown1, ?_, by rw [List.length_append]; have := G2.out.2; simp only [List.length_cons, List.length_nil]; omega⟩, hkeep _ _ GK.out.1 (by omega), hkeep _ _ GK.out.2.1 (by omega), hkeep _ _ GK.out.2.2.1 (by omega), hkeep _ _ GK.out.2.2.2.1 (by omega), hbw⟩
      rw [HSK2.out]
      exact readsU_put G2.out.1 vv N HN0.out
  case done =>
    obtain ⟨⟨m, D, g1, g2, _⟩, _, g5, g6, g7, g8⟩ := hI
    have c3 : W.cell? ⟨w.heap.size + 1 + 1 + 1, 0, none⟩ = some (.map (some (w.heap.size + 1 + 1))) := cell_of_row W _ 0 _ _ _ g5
    have G1 := Lib.hid g1
    have G8 := Lib.hid g8
    have HDd := Lib.hid hDd
    have HRD : Hid (ReadsU D (fun s => maskV ks num stp s l 0)) := Lib.hid (by
      have e : (fun s => maskV ks num stp s l 0) = fun s => maskV ks num stp s (xs.map (·.1)) 0 := by
        funext s
        rw [hS, mask_filter]
      rw [e]
      exact g2)
    have hDm' : w.heap.size + 6 ≤ Dm := by omega
    clear hS g1 g2 g5 g6 g7 g8 hDd hDm
    show Exit.inBlock _ _ _ (Act.mk _ [{ target := .collected Dm, args := #[] }]) W
    go_wp2
    have hM : Marks (w.heap.size + 6) [Dm] W := ⟨by simp, fun D' hD => by
      rw [List.mem_singleton] at hD
      subst hD
      exact ⟨hDm', HDd.out⟩⟩
    refine leaves_marks (B := w.heap.size + 6) [Dm] W hM (fun W'' hT => ⟨_, results_tmp rfl _ _ _, w.heap.size + 1 + 1, m, D, rfl, ?_, HRD.out, by omega, G8.out.trans (hT.below.mono (by omega))⟩)
    obtain ⟨es, clock, hb, F, hn, hD⟩ := G1.out
    exact ⟨es, clock, (hT.old _ (by omega)).trans hb, F, hn, hD⟩
end Go.Proofs.YtggdcnjaofflbaaGreatDoor
