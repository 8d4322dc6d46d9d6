/- The laws of quorums, plain: a changed vote in a proof, a quorum's value, more votes. No condition. -/
import Derived.Test.YtggdcnjaofflbaaGreatDoorC07
import Derived.Test.YtggdcnjaofflbaaGreatDoorC05
import Derived.Lib.Builder
import Derived.Lib.UnsafeStr
import Derived.Lib.AppendStr
import Derived.Laws.Externs
import Derived.Test.YtggdcnjaofflbaaGreatDoorC03
import Derived.OwnWalkIn
import Derived.Test.YtggdcnjaofflbaaGreatDoorC04
import Derived.Deep.RegionHeld3
namespace Go.Proofs.YtggdcnjaofflbaaGreatDoor

theorem vote_coll {ks : List ByteArray} {v u : VoteP} (hks : ks.all isDig = true) (hv : genV ks v = true) (hu : genV ks u = true) (hs : v.sl = u.sl) (hne : v ≠ u) :
    collS [markL (voteC v), markN (ks.getD v.car.toNat ⟨#[]⟩) (leafS (voteC v))] [markL (voteC u), markN (ks.getD u.car.toNat ⟨#[]⟩) (leafS (voteC u))] = true := by
  have gv := gen_facts hv
  have gu := gen_facts hu
  have fv : formedV v = true := by unfold genV at hv; rw [Bool.and_eq_true, Bool.and_eq_true] at hv; exact hv.1.1
  have fu : formedV u = true := by unfold genV at hu; rw [Bool.and_eq_true, Bool.and_eq_true] at hu; exact hu.1.1
  have sv : v.sl = sealV (ks.getD v.car.toNat ⟨#[]⟩) v := by unfold genV at hv; rw [Bool.and_eq_true] at hv; exact of_decide_eq_true hv.2
  have su : u.sl = sealV (ks.getD u.car.toNat ⟨#[]⟩) u := by unfold genV at hu; rw [Bool.and_eq_true] at hu; exact of_decide_eq_true hu.2
  have ksz : ∀ i : Nat, i < ks.length → (ks.getD i ⟨#[]⟩).size = 32 := fun i hi => by
    have h := List.all_eq_true.1 hks ks[i] (List.getElem_mem hi)
    unfold isDig at h
    rw [List.getD_eq_getElem?_getD, List.getElem?_eq_getElem hi]
    exact of_decide_eq_true h
  have hd : nodeS (ks.getD v.car.toNat ⟨#[]⟩) (leafS (voteC v)) = nodeS (ks.getD u.car.toNat ⟨#[]⟩) (leafS (voteC u)) := by
    have := sv.symm.trans (hs.trans su)
    exact this
  by_cases e1 : markN (ks.getD v.car.toNat ⟨#[]⟩) (leafS (voteC v)) = markN (ks.getD u.car.toNat ⟨#[]⟩) (leafS (voteC u))
  · obtain ⟨_, e2⟩ := markN_inj e1 (by rw [ksz _ gv.2.1, ksz _ gu.2.1])
    by_cases e3 : markL (voteC v) = markL (voteC u)
    · exfalso
      obtain ⟨c1, c2, c3, c4⟩ := voteC_inj fv fu (markL_inj e3)
      refine hne ?_
      obtain ⟨a1, a2, a3, a4, a5⟩ := v
      obtain ⟨b1, b2, b3, b4, b5⟩ := u
      simp only at c1 c2 c3 c4 hs
      rw [c1, c2, c3, c4, hs]
    · exact coll_of (x := markL (voteC v)) (y := markL (voteC u)) (by simp) (by simp) e3 e2
  · exact coll_of (x := markN (ks.getD v.car.toNat ⟨#[]⟩) (leafS (voteC v))) (y := markN (ks.getD u.car.toNat ⟨#[]⟩) (leafS (voteC u))) (by simp) (by simp) e1 hd
theorem gen_one {ks : List ByteArray} {v u : VoteP} (hv : genV ks v = true) (hu : genV ks u = true) (h1 : v.car = u.car) (h2 : v.num = u.num) (h3 : v.stp = u.stp) (h4 : v.val = u.val) : v = u := by
  have a := gen_mk hv
  have b := gen_mk hu
  rw [h1, h2, h3, h4] at a
  exact a.trans b.symm
theorem check_facts {ks : List ByteArray} {num stp : Int} {val : ByteArray} {p : List VoteP} (h : checkV ks num stp val p = true) : validC ks = true ∧ p.length = enoughC ks ∧ ∀ v ∈ p, (v.num = num ∧ v.stp = stp ∧ v.val = val) ∧ genV ks v = true := by
  unfold checkV at h
  rw [Bool.and_eq_true, Bool.and_eq_true, Bool.and_eq_true] at h
  refine ⟨h.1.1.1, of_decide_eq_true h.1.1.2, fun v hv => ?_⟩
  have := List.all_eq_true.1 h.2 v hv
  rw [Bool.and_eq_true] at this
  exact ⟨of_decide_eq_true this.1, this.2⟩
theorem prove_iff {ks : List ByteArray} {num stp : Int} {val : ByteArray} {pool : List VoteP} (hp : isPool ks pool = true) : (proveV ks num stp val pool).isSome = decide (enoughC ks ≤ (whoL ks num stp val pool).length) := by
  unfold proveV
  by_cases h : enoughC ks ≤ (whoL ks num stp val pool).length
  · rw [if_pos ⟨hp, h⟩, decide_eq_true h]
    rfl
  · rw [if_neg (fun e => h e.2), decide_eq_false h]
    rfl
theorem enough_pos (ks : List ByteArray) : 0 < enoughC ks := by unfold enoughC; omega
theorem prove_tally {ks : List ByteArray} {num stp : Int} {val : ByteArray} {pool : List VoteP} (hp : isPool ks pool = true) : ((tallyV ks num stp pool).any fun t => decide (t.1 = val) && decide (enoughC ks ≤ t.2)) = decide (enoughC ks ≤ (whoL ks num stp val pool).length) := by
  unfold tallyV
  rw [if_pos hp, List.any_map]
  by_cases h : enoughC ks ≤ (whoL ks num stp val pool).length
  · rw [decide_eq_true h, List.any_eq_true]
    refine ⟨val, ?_, by simp [h]⟩
    rw [valsV_mem]
    cases hw : whoL ks num stp val pool with
    | nil => rw [hw] at h; have := enough_pos ks; simp at h; omega
    | cons i l => exact ⟨i, List.mem_cons_self ..⟩
  · rw [decide_eq_false h, List.any_eq_false]
    intro u _ hu
    rw [Function.comp_apply, Bool.and_eq_true] at hu
    have e := of_decide_eq_true hu.1
    have g := of_decide_eq_true hu.2
    simp only at e g
    rw [e] at g
    exact h g
theorem tally_facts {ks : List ByteArray} {num stp : Int} {pool : List VoteP} {t : ByteArray × Nat} (h : t ∈ tallyV ks num stp pool) : t.2 = (whoL ks num stp t.1 pool).length ∧ 1 ≤ t.2 ∧ t.2 ≤ ks.length := by
  unfold tallyV at h
  split at h
  · obtain ⟨u, hu, rfl⟩ := List.mem_map.1 h
    rw [valsV_mem] at hu
    obtain ⟨i, hi⟩ := hu
    exact ⟨rfl, List.length_pos_of_mem hi, range_le (who_nodup ..) (fun x hx => who_lt hx)⟩
  · cases h
theorem tally_sorted (ks : List ByteArray) (num stp : Int) (pool : List VoteP) : (tallyV ks num stp pool).Pairwise fun a b => a.1.toList < b.1.toList := by
  unfold tallyV
  split
  · rw [List.pairwise_map]
    exact valsV_ok ks num stp pool
  · exact List.Pairwise.nil

/-! ### A quorum's value -/
theorem suffices_law {ks : List ByteArray} {num stp : Int} {u : ByteArray} {pool : List VoteP} (hp : isPool ks pool = true) {H : List Nat} (hn : H.Nodup) (hl : ∀ i ∈ H, i < ks.length) (hq : enoughC ks ≤ H.length) (hu : ∀ i ∈ H, i ∈ whoL ks num stp u pool) (ho : ∀ v ∈ pool, genV ks v = true → v.num = num → v.stp = stp → v.car.toNat ∈ H → v.val = u) :
    (proveV ks num stp u pool).isSome = true ∧ decidedV ks num stp pool = some u := by
  have hv : validC ks = true := by
    unfold isPool at hp
    rw [Bool.and_eq_true] at hp
    exact hp.1
  have hw : enoughC ks ≤ (whoL ks num stp u pool).length := Nat.le_trans hq (nodup_le hn hu)
  refine ⟨by rw [prove_iff hp]; exact decide_eq_true hw, decided_is hp hw (enough_pos ks) fun t ht => ?_⟩
  refine other_less hv hn hl hq fun i hi hit => ?_
  obtain ⟨_, v, hv1, gv, e⟩ := who_mem.1 hit
  have := ho v hv1 gv (by rw [e]; rfl) (by rw [e]; rfl) (by rw [e]; simpa [mkV] using hi)
  rw [e] at this
  exact ht this

/-! ### More votes -/
theorem who_len_mono {ks : List ByteArray} {num stp : Int} {val : ByteArray} {pool more : List VoteP} (h : ∀ v ∈ pool, v ∈ more) : (whoL ks num stp val pool).length ≤ (whoL ks num stp val more).length :=
  nodup_le (who_nodup ..) fun _ hi => who_mono h hi
theorem tally_grows {ks : List ByteArray} {num stp : Int} {pool more : List VoteP} (h : ∀ v ∈ pool, v ∈ more) (hm : isPool ks more = true) {t : ByteArray × Nat} (ht : t ∈ tallyV ks num stp pool) : ∃ s ∈ tallyV ks num stp more, s.1 = t.1 ∧ t.2 ≤ s.2 := by
  obtain ⟨e, h1, _⟩ := tally_facts ht
  refine ⟨(t.1, (whoL ks num stp t.1 more).length), ?_, rfl, by rw [e]; exact who_len_mono h⟩
  unfold tallyV
  rw [if_pos hm, List.mem_map]
  refine ⟨t.1, ?_, rfl⟩
  rw [valsV_mem]
  cases hw : whoL ks num stp t.1 pool with
  | nil => rw [hw] at e; simp at e; omega
  | cons i l => exact ⟨i, who_mono h (by rw [hw]; exact List.mem_cons_self ..)⟩
theorem double_grows {ks : List ByteArray} {pool more : List VoteP} (h : ∀ v ∈ pool, v ∈ more) (hm : isPool ks more = true) {d : VoteP × VoteP} (hd : d ∈ doublesV ks pool) : ∃ e ∈ doublesV ks more, oneV e.1 d.1 = true := by
  obtain ⟨⟨a1, a2⟩, ⟨b1, b2⟩, h3, h4⟩ := doubles_gen hd
  refine doubles_has hm (h _ a1) a2 (h _ b1) b2 (fun e => ?_) h3
  rw [e] at h4
  exact u8l_irrefl _ h4
theorem honest_law {ks : List ByteArray} {pool : List VoteP} {who : Int} (h : ∀ v ∈ pool, ∀ w ∈ pool, genV ks v = true → genV ks w = true → v.car = who → w.car = who → v.num = w.num → v.stp = w.stp → v.val = w.val) {d : VoteP × VoteP} (hd : d ∈ doublesV ks pool) : d.1.car ≠ who ∧ d.2.car ≠ who := by
  obtain ⟨⟨a1, a2⟩, ⟨b1, b2⟩, h3, h4⟩ := doubles_gen hd
  obtain ⟨e1, e2, e3⟩ := one_car h3
  have key : d.1.car ≠ who := fun e => by
    have := h _ a1 _ b1 a2 b2 e (e1 ▸ e) e2 e3
    rw [this] at h4
    exact u8l_irrefl _ h4
  exact ⟨key, e1 ▸ key⟩
end Go.Proofs.YtggdcnjaofflbaaGreatDoor

/- The examples with which each statement of the quorum layer begins: what they come to. Plain theory, no condition. -/
namespace Go.Proofs.YtggdcnjaofflbaaGreatDoor

def keyQ (i : Nat) : ByteArray := sumS ⟨([99, 97, 114, 114, 105, 101, 114] ++ [UInt8.ofNat i]).toArray⟩
def valQ (n : Nat) : ByteArray := sumS ⟨#[118, UInt8.ofNat n]⟩
def madeQ (n : Nat) : List ByteArray := (List.range n).map keyQ
theorem keyQ_size (i : Nat) : (keyQ i).size = 32 := rfl
theorem valQ_size (i : Nat) : (valQ i).size = 32 := rfl
theorem madeQ_len (n : Nat) : (madeQ n).length = n := by unfold madeQ; rw [List.length_map, List.length_range]
theorem madeQ_get {n i : Nat} (h : i < n) : (madeQ n).getD i ⟨#[]⟩ = keyQ i := by
  unfold madeQ
  rw [List.getD_eq_getElem?_getD, List.getElem?_map, List.getElem?_range h]
  rfl
theorem madeQ_valid {n : Nat} (h : n = 1 ∨ n = 4 ∨ n = 7) : validC (madeQ n) = true := by
  unfold validC
  rw [Bool.and_eq_true]
  refine ⟨decide_eq_true (by rw [madeQ_len]; exact h), List.all_eq_true.2 fun s hs => ?_⟩
  obtain ⟨i, _, rfl⟩ := List.mem_map.1 hs
  exact decide_eq_true (keyQ_size i)
theorem val10 : (valQ 1).toList < (valQ 0).toList := by decide +kernel

theorem valid_le {ks : List ByteArray} (h : validC ks = true) : ks.length ≤ 7 := by
  rcases valid_len h with h | h | h <;> omega
theorem genV_mk {ks : List ByteArray} (hk : validC ks = true) {num stp : Int} {val : ByteArray} {i : Nat} (hn : 0 ≤ num ∧ num ≤ 99999999) (hs : 0 ≤ stp ∧ stp ≤ 1000) (hv : val.size = 32) (hi : i < ks.length) : genV ks (mkV ks num stp val i) = true := by
  have h7 := valid_le hk
  have hf : formedV (mkV ks num stp val i) = true := decide_eq_true ⟨⟨by show (0 : Int) ≤ (i : Int); omega, by show (i : Int) ≤ 7; omega⟩, hn, hs, hv, nodeS_size _ _⟩
  unfold genV
  rw [hf, Bool.true_and, Bool.and_eq_true]
  refine ⟨decide_eq_true (by show (i : Int) < _; omega), decide_eq_true ?_⟩
  rfl
def votesL (ks : List ByteArray) (num stp : Int) (L : List (Nat × ByteArray)) : List VoteP := L.map fun p => mkV ks num stp p.2 p.1
theorem votesFor_L {ks : List ByteArray} (hk : validC ks = true) {num stp : Int} (hn : 0 ≤ num ∧ num ≤ 99999999) (hs : 0 ≤ stp ∧ stp ≤ 1000) (L : List (Nat × ByteArray)) (hL : ∀ p ∈ L, p.1 < ks.length ∧ p.2.size = 32) (n' s' : Int) (val : ByteArray) (i : Nat) :
    votesFor ks n' s' val (votesL ks num stp L) i = L.any fun p => decide (num = n' ∧ stp = s' ∧ p.2 = val ∧ p.1 = i) := by
  unfold votesFor votesL
  rw [List.any_map]
  induction L with
  | nil => rfl
  | cons p t ih =>
    rw [List.any_cons, List.any_cons, ih (fun q hq => hL q (List.mem_cons_of_mem _ hq))]
    have hp := hL p (by simp)
    refine congrArg (· || _) ?_
    show (genV ks (mkV ks num stp p.2 p.1) && decide _) = _
    rw [genV_mk hk hn hs hp.2 hp.1, Bool.true_and]
    refine decide_eq_decide.2 ⟨fun h => ⟨h.1, h.2.1, h.2.2.1, by have := h.2.2.2; simp only [mkV] at this; omega⟩, fun h => ⟨h.1, h.2.1, h.2.2.1, by have := h.2.2.2; simp only [mkV]; omega⟩⟩

section
variable {ks : List ByteArray} {x y : ByteArray} (hk : validC ks = true) (h4 : ks.length = 4) (hx : x.size = 32) (hy : y.size = 32) (hlt : x.toList < y.toList)
def poolL (x y : ByteArray) : List (Nat × ByteArray) := [(3, y), (2, x), (1, x), (2, y), (0, x)]
abbrev poolS (ks : List ByteArray) (x y : ByteArray) : List VoteP := votesL ks 55 0 (poolL x y)
abbrev vS (ks : List ByteArray) (x : ByteArray) (i : Nat) : VoteP := mkV ks 55 0 x i
include hk h4 hx hy hlt
set_option linter.unusedSectionVars false
theorem s_ne : x ≠ y := fun e => u8l_irrefl _ (e ▸ hlt)
theorem s_pl : ∀ p ∈ poolL x y, p.1 < ks.length ∧ p.2.size = 32 := by
  intro p hp
  rw [h4]
  unfold poolL at hp
  simp only [List.mem_cons, List.not_mem_nil, or_false] at hp
  rcases hp with rfl | rfl | rfl | rfl | rfl
  · exact ⟨by simp, hy⟩
  · exact ⟨by simp, hx⟩
  · exact ⟨by simp, hx⟩
  · exact ⟨by simp, hy⟩
  · exact ⟨by simp, hx⟩
theorem s_who (n' s' : Int) (v : ByteArray) : whoL ks n' s' v (poolS ks x y) = (List.range 4).filter fun i => (poolL x y).any fun p => decide (55 = n' ∧ 0 = s' ∧ p.2 = v ∧ p.1 = i) := by
  unfold whoL
  rw [h4]
  exact List.filter_congr fun i _ => votesFor_L hk (by decide) (by decide) _ (s_pl hk h4 hx hy hlt) _ _ _ _
theorem s_whox : whoL ks 55 0 x (poolS ks x y) = [0, 1, 2] := by
  rw [s_who hk h4 hx hy hlt]
  have hne := s_ne hk h4 hx hy hlt
  have hne' : y ≠ x := fun e => hne e.symm
  simp [poolL, hne', List.range_succ]
theorem s_whoy : whoL ks 55 0 y (poolS ks x y) = [2, 3] := by
  rw [s_who hk h4 hx hy hlt]
  have hne := s_ne hk h4 hx hy hlt
  simp [poolL, hne, List.range_succ]
theorem s_who1 (v : ByteArray) : whoL ks 55 1 v (poolS ks x y) = [] := by
  rw [s_who hk h4 hx hy hlt]
  simp [poolL]
theorem s_enough : enoughC ks = 3 := by unfold enoughC; rw [h4]
theorem s_pool : isPool ks (poolS ks x y) = true := by
  unfold isPool
  rw [hk, Bool.true_and]
  exact decide_eq_true (by show (List.map _ (poolL x y)).length ≤ 60; rw [List.length_map]; unfold poolL; simp)
theorem s_prove : proveV ks 55 0 x (poolS ks x y) = some [vS ks x 0, vS ks x 1, vS ks x 2] := by
  unfold proveV
  rw [s_whox hk h4 hx hy hlt, s_enough hk h4 hx hy hlt, if_pos ⟨s_pool hk h4 hx hy hlt, by decide⟩]
  rfl
theorem s_prove_y : proveV ks 55 0 y (poolS ks x y) = none := by
  unfold proveV
  rw [s_whoy hk h4 hx hy hlt, s_enough hk h4 hx hy hlt, if_neg]
  rintro ⟨_, h⟩
  revert h
  decide
theorem s_vals : valsV ks 55 0 (poolS ks x y) = [x, y] := by
  refine sortB_one (valsV_ok _ _ _ _) (by unfold SortB; simp [hlt]) fun u => ?_
  rw [valsV_mem]
  simp only [s_who hk h4 hx hy hlt, List.mem_filter, List.mem_range, List.any_eq_true]
  constructor
  · rintro ⟨i, _, p, hp, hd⟩
    have hd := of_decide_eq_true hd
    unfold poolL at hp
    simp only [List.mem_cons, List.not_mem_nil, or_false] at hp ⊢
    rw [← hd.2.2.1]
    rcases hp with rfl | rfl | rfl | rfl | rfl <;> simp
  · intro hu
    simp only [List.mem_cons, List.not_mem_nil, or_false] at hu
    rcases hu with rfl | rfl
    · exact ⟨0, by decide, (0, u), by simp [poolL], by simp⟩
    · exact ⟨3, by decide, (3, u), by simp [poolL], by simp⟩
theorem s_tally : tallyV ks 55 0 (poolS ks x y) = [(x, 3), (y, 2)] := by
  unfold tallyV
  rw [if_pos (s_pool hk h4 hx hy hlt), s_vals hk h4 hx hy hlt]
  simp only [List.map_cons, List.map_nil]
  rw [s_whox hk h4 hx hy hlt, s_whoy hk h4 hx hy hlt]
  rfl
theorem s_decided : decidedV ks 55 0 (poolS ks x y) = some x := by
  unfold decidedV
  rw [s_tally hk h4 hx hy hlt, s_enough hk h4 hx hy hlt]
  rfl
theorem s_vals1 : valsV ks 55 1 (poolS ks x y) = [] := by
  refine List.eq_nil_iff_forall_not_mem.2 fun u hu => ?_
  rw [valsV_mem] at hu
  obtain ⟨i, hi⟩ := hu
  rw [s_who1 hk h4 hx hy hlt] at hi
  cases hi
theorem s_decided1 : decidedV ks 55 1 (poolS ks x y) = none := by
  unfold decidedV tallyV
  rw [if_pos (s_pool hk h4 hx hy hlt), s_vals1 hk h4 hx hy hlt]
  rfl
theorem s_cast_no (key : ByteArray) : castV key 2 55 0 y (poolS ks x y) = none := by
  have hne := s_ne hk h4 hx hy hlt
  have h1 : ((poolS ks x y).any fun w => decide ((w.car = 2 ∧ w.num = 55 ∧ w.stp = 0) ∧ w.val ≠ y)) = true := by
    refine List.any_eq_true.2 ⟨vS ks x 2, ?_, decide_eq_true ⟨⟨rfl, rfl, rfl⟩, hne⟩⟩
    exact List.mem_map.2 ⟨(2, x), by simp [poolL], rfl⟩
  unfold castV castOk
  rw [h1]
  simp
theorem s_cast (i : Nat) (v : ByteArray) (hi : i < 4) (hv : v.size = 32) (hist : List VoteP) (hh : (hist.any fun w => decide ((w.car = (i : Int) ∧ w.num = 55 ∧ w.stp = 0) ∧ w.val ≠ v)) = false) (hkey : (ks.getD i ⟨#[]⟩).size = 32) : castV (ks.getD i ⟨#[]⟩) i 55 0 v hist = some (vS ks v i) := by
  unfold castV castOk
  rw [hh]
  have hf : formedV ⟨(i : Int), 55, 0, v, ks.getD i ⟨#[]⟩⟩ = true := decide_eq_true ⟨⟨by show (0 : Int) ≤ (i : Int); omega, by show (i : Int) ≤ 7; omega⟩, ⟨by show (0 : Int) ≤ 55; omega, by show (55 : Int) ≤ 99999999; omega⟩, ⟨by show (0 : Int) ≤ 0; omega, by show (0 : Int) ≤ 1000; omega⟩, hv, hkey⟩
  rw [hf]
  rfl
theorem s_own : ((poolS ks x y).any fun w => decide ((w.car = ((0 : Nat) : Int) ∧ w.num = 55 ∧ w.stp = 0) ∧ w.val ≠ x)) = false := by
  rw [List.any_eq_false]
  intro w hw hd
  have hd := of_decide_eq_true hd
  obtain ⟨p, hp, rfl⟩ := List.mem_map.1 hw
  have h0 : p.1 = 0 := by have := hd.1.1; simp only [mkV] at this; omega
  have h1 : p.2 ≠ x := hd.2
  unfold poolL at hp
  simp only [List.mem_cons, List.not_mem_nil, or_false] at hp
  rcases hp with rfl | rfl | rfl | rfl | rfl
  · cases h0
  · cases h0
  · cases h0
  · cases h0
  · exact h1 rfl
theorem s_gen (i : Nat) (v : ByteArray) (hi : i < 4) (hv : v.size = 32) : genV ks (vS ks v i) = true := genV_mk hk (by decide) (by decide) hv (by omega)
theorem s_sorted : sortedV ks (poolS ks x y) = [vS ks x 0, vS ks x 1, vS ks x 2, vS ks y 2, vS ks y 3] := by
  symm
  refine sortedV_is ?_ fun v => ?_
  · have c : ∀ (i j : Nat) (a b : ByteArray), i < j → ltV (vS ks a i) (vS ks b j) := fun i j a b h => .inl (by show (i : Int) < (j : Int); omega)
    have e : ltV (vS ks x 2) (vS ks y 2) := .inr ⟨rfl, .inr ⟨rfl, .inr ⟨rfl, .inl hlt⟩⟩⟩
    refine List.Pairwise.cons ?_ (List.Pairwise.cons ?_ (List.Pairwise.cons ?_ (List.Pairwise.cons ?_ (List.Pairwise.cons ?_ List.Pairwise.nil))))
    all_goals
      intro v hv
      simp only [List.mem_cons, List.not_mem_nil, or_false] at hv
    · rcases hv with rfl | rfl | rfl | rfl <;> exact c _ _ _ _ (by decide)
    · rcases hv with rfl | rfl | rfl <;> exact c _ _ _ _ (by decide)
    · rcases hv with rfl | rfl
      · exact e
      · exact c _ _ _ _ (by decide)
    · subst hv
      exact c _ _ _ _ (by decide)
  · constructor
    · intro hv
      simp only [List.mem_cons, List.not_mem_nil, or_false] at hv
      have m : ∀ p ∈ poolL x y, vS ks p.2 p.1 ∈ poolS ks x y := fun p hp => List.mem_map.2 ⟨p, hp, rfl⟩
      rcases hv with rfl | rfl | rfl | rfl | rfl
      · exact ⟨m (0, x) (by simp [poolL]), s_gen hk h4 hx hy hlt _ _ (by decide) hx⟩
      · exact ⟨m (1, x) (by simp [poolL]), s_gen hk h4 hx hy hlt _ _ (by decide) hx⟩
      · exact ⟨m (2, x) (by simp [poolL]), s_gen hk h4 hx hy hlt _ _ (by decide) hx⟩
      · exact ⟨m (2, y) (by simp [poolL]), s_gen hk h4 hx hy hlt _ _ (by decide) hy⟩
      · exact ⟨m (3, y) (by simp [poolL]), s_gen hk h4 hx hy hlt _ _ (by decide) hy⟩
    · rintro ⟨hv, _⟩
      obtain ⟨p, hp, rfl⟩ := List.mem_map.1 hv
      unfold poolL at hp
      simp only [List.mem_cons, List.not_mem_nil, or_false] at hp ⊢
      rcases hp with rfl | rfl | rfl | rfl | rfl <;> simp
theorem s_doubles : doublesV ks (poolS ks x y) = [(vS ks x 2, vS ks y 2)] := by
  unfold doublesV
  rw [if_pos (s_pool hk h4 hx hy hlt), s_sorted hk h4 hx hy hlt]
  simp [dblL, oneV, mkV]
theorem s_check (l : List Nat) (hl : l.length = 3) (hp : l.Pairwise (· < ·)) (h : ∀ i ∈ l, i < 4) (v : ByteArray) (hv : v.size = 32) : checkV ks 55 0 v (l.map (vS ks v)) = true := by
  unfold checkV
  rw [hk, List.length_map, hl, s_enough hk h4 hx hy hlt, decide_eq_true rfl, Bool.true_and, Bool.true_and, Bool.and_eq_true]
  refine ⟨decide_eq_true ?_, List.all_eq_true.2 fun w hw => ?_⟩
  · rw [List.map_map, List.pairwise_map]
    exact hp.imp fun hab => by simpa [mkV] using hab
  · obtain ⟨i, hi, rfl⟩ := List.mem_map.1 hw
    rw [s_gen hk h4 hx hy hlt _ _ (h i hi) hv, Bool.and_true]
    exact decide_eq_true ⟨rfl, rfl, rfl⟩
theorem s_check_x : checkV ks 55 0 x [vS ks x 0, vS ks x 1, vS ks x 2] = true := s_check hk h4 hx hy hlt [0, 1, 2] rfl (by decide) (by decide) x hx
theorem s_check_y : checkV ks 55 0 y [vS ks x 0, vS ks x 1, vS ks x 2] = false := by
  have hne := s_ne hk h4 hx hy hlt
  cases hc : checkV ks 55 0 y [vS ks x 0, vS ks x 1, vS ks x 2] with
  | false => rfl
  | true =>
    have := (check_facts hc).2.2 (vS ks x 0) (by simp)
    exact absurd this.1.2.2 hne
theorem s_blame : blameV ks [vS ks x 0, vS ks x 1, vS ks x 2] [vS ks y 1, vS ks y 2, vS ks y 3] = some [(vS ks x 1, vS ks y 1), (vS ks x 2, vS ks y 2)] := by
  have c1 := s_check_x hk h4 hx hy hlt
  have c2 := s_check hk h4 hx hy hlt [1, 2, 3] rfl (by decide) (by decide) y hy
  have hne := s_ne hk h4 hx hy hlt
  have h3 : ¬ y.toList < x.toList := fun h => u8l_irrefl _ (u8l_trans h hlt)
  unfold blameV
  simp only
  rw [if_pos ⟨⟨rfl, rfl⟩, hne, c1, c2⟩]
  rw [if_neg (show ¬ (vS ks y 1).val.toList < (vS ks x 0).val.toList from h3)]
  have := blame_mk ks 55 0 x y [0, 1, 2] [1, 2, 3]
  exact congrArg some this
theorem s_convicts : convictsV ks (vS ks x 2, vS ks y 2) = true := by
  have g1 := s_gen hk h4 hx hy hlt 2 x (by decide) hx
  have g2 := s_gen hk h4 hx hy hlt 2 y (by decide) hy
  unfold convictsV genuineV
  have e : decide ((vS ks x 2, vS ks y 2).1.val.toList < (vS ks x 2, vS ks y 2).2.val.toList) = true := decide_eq_true hlt
  rw [hk, g1, g2, e]
  simp [oneV, mkV]
theorem s_convicts_no : convictsV ks (vS ks y 2, vS ks x 2) = false := by
  have h3 : ¬ y.toList < x.toList := fun h => u8l_irrefl _ (u8l_trans h hlt)
  unfold convictsV
  have e : decide ((vS ks y 2).val.toList < (vS ks x 2).val.toList) = false := decide_eq_false h3
  rw [e]
  simp
theorem s_genuine : genuineV ks (vS ks x 0) = true := by
  unfold genuineV
  rw [hk, s_gen hk h4 hx hy hlt 0 x (by decide) hx]
  rfl
theorem s_formed (i : Nat) (v : ByteArray) (hi : i < 4) (hv : v.size = 32) : formedV (vS ks v i) = true := by
  have := s_gen hk h4 hx hy hlt i v hi hv
  unfold genV at this
  rw [Bool.and_eq_true, Bool.and_eq_true] at this
  exact this.1.1
end
theorem s_none : validC [] = false := by decide
theorem s_decode_x {v : VoteP} (h : formedV v = true) (b : UInt8) : decodeV (encV v ++ ⟨#[b]⟩) = none := by
  obtain ⟨a1, a2, a3, a4, a5⟩ := formed_facts h
  unfold decodeV
  rw [ByteArray.data_append, Array.toList_append, encV_list]
  simp only [List.append_assoc]
  unfold decodeL
  rw [int_put (by omega)]
  simp only [List.drop_left]
  rw [int_put (by omega)]
  simp only [List.drop_left]
  rw [int_put (by omega)]
  simp only [List.drop_left]
  rw [int_put (by omega)]
  simp only [List.drop_left]
  unfold voteTail
  rw [if_neg]
  rintro ⟨h1, _⟩
  have l1 : v.val.data.toList.length = 32 := by
    have : v.val.data.size = 32 := a4
    rw [Array.length_toList]
    exact this
  have l2 : v.sl.data.toList.length = 32 := by
    have : v.sl.data.size = 32 := a5
    rw [Array.length_toList]
    exact this
  simp only [List.length_append, l1, l2, List.length_cons, List.length_nil] at h1
  omega
end Go.Proofs.YtggdcnjaofflbaaGreatDoor

/- Walks of package quorum: isIn, isDigest, enough, isFormed, areOne. No condition but lengths. -/
namespace Go.Proofs.YtggdcnjaofflbaaGreatDoor
open Go.RowKit Go.BigFrame

set_option maxHeartbeats 400000 in
theorem isIn_any (n lo hi : Int) (w : World) :
    Calls Tryz.prog 90 #[.int .i64 n, .int .i64 lo, .int .i64 hi] w fun e w' => e = .returned (.bool (decide (lo ≤ n ∧ n ≤ hi))) ∧ w' = w := by
  by_cases h1 : lo ≤ n
  · have hd : decide (lo ≤ n) = true := decide_eq_true h1
    go_enter Tryz.func90, Tryz.ntmps90
    go_wp2
    go_ret
    refine ⟨ret_bool ?_, rfl⟩
    rw [Bool.eq_iff_iff]
    simp
    try omega
  · have hd : decide (lo ≤ n) = false := decide_eq_false h1
    go_enter Tryz.func90, Tryz.ntmps90
    go_wp2
    go_ret
    refine ⟨ret_bool ?_, rfl⟩
    simp
set_option maxHeartbeats 400000 in
theorem qDigest_any (s : ByteArray) (w : World) : Calls Tryz.prog 98 #[.string s] w fun e w' => e = .returned (.bool (decide (s.size = 32))) ∧ w' = w := by
  go_enter Tryz.func98, Tryz.ntmps98
  go_wp2
  go_ret
  refine ⟨ret_bool ?_, rfl⟩
  rw [Bool.eq_iff_iff]
  simp
  try omega
theorem qvalid1_fn : PredFn 97 (fun s => !decide (s.size = 32)) := by
  refine ⟨fun _ _ => by kernel_rfl, fun s w => ?_⟩
  go_enter Tryz.func97, Tryz.ntmps97
  go_wp2_with (go_at_call 98; refine (qDigest_any _ _).mono ?_; rintro e w1 ⟨rfl, rfl⟩)
  go_ret
  exact ⟨rfl, rfl⟩
set_option maxHeartbeats 400000 in
theorem enough_any (a : Option Addr) (n c : Nat) (w : World) (hn : n ≤ 1000) :
    Calls Tryz.prog 79 #[.agg #[.slice a n c]] w fun e w' => e = .returned (.int .i64 ((2 * ((n - 1) / 3) + 1 : Nat) : Int)) ∧ w' = w.alloc (.cells #[.slice a n c] 31) := by
  go_enter Tryz.func79, Tryz.ntmps79
  go_wp2
  go_ret
  refine ⟨?_, rfl⟩
  have t : ((n : Int) - 1).tdiv 3 = (((n - 1) / 3 : Nat) : Int) := by
    rcases Nat.eq_zero_or_pos n with rfl | h
    · rfl
    · have e : (n : Int) - 1 = ((n - 1 : Nat) : Int) := by omega
      rw [e]
      rfl
  have h1 : wrap64 (2 * ((n : Int) - 1).tdiv 3) = ((2 * ((n - 1) / 3) : Nat) : Int) := by
    rw [t, IntWalk.wrap64_in _ ⟨by omega, by omega⟩]
    omega
  have h2 : wrap64 (wrap64 (2 * ((n : Int) - 1).tdiv 3) + 1) = ((2 * ((n - 1) / 3) + 1 : Nat) : Int) := by
    rw [h1, IntWalk.wrap64_in _ ⟨by omega, by omega⟩]
    omega
  exact congrArg (fun x => Ending.returned (Value.int .i64 x)) h2
set_option maxHeartbeats 1000000 in
theorem isFormed_any (v : VoteP) (w : World) :
    Calls Tryz.prog 62 #[.agg #[.int .i64 v.car, .int .i64 v.num, .int .i64 v.stp, .string v.val, .string v.sl]] w fun e w' => e = .returned (.bool (formedV v)) ∧ w' = w.alloc (.cells #[.int .i64 v.car, .int .i64 v.num, .int .i64 v.stp, .string v.val, .string v.sl] 27) := by
  obtain ⟨car, num, stp, val, sl⟩ := v
  have e : formedV ⟨car, num, stp, val, sl⟩ = (decide (0 ≤ car ∧ car ≤ 7) && (decide (0 ≤ num ∧ num ≤ 99999999) && (decide (0 ≤ stp ∧ stp ≤ 1000) && (decide (val.size = 32) && decide (sl.size = 32))))) := by
    unfold formedV
    rw [Bool.eq_iff_iff]
    simp
  rw [e]
  have H1 := Lib.hid (isIn_any car 0 7)
  have H2 := Lib.hid (isIn_any num 0 99999999)
  have H3 := Lib.hid (isIn_any stp 0 1000)
  have H4 := Lib.hid (qDigest_any val)
  have H5 := Lib.hid (qDigest_any sl)
  generalize decide (0 ≤ car ∧ car ≤ 7) = b1 at *
  generalize decide (0 ≤ num ∧ num ≤ 99999999) = b2 at *
  generalize decide (0 ≤ stp ∧ stp ≤ 1000) = b3 at *
  generalize decide (val.size = 32) = b4 at *
  generalize decide (sl.size = 32) = b5 at *
  clear e
  cases b1 <;> cases b2 <;> cases b3 <;> cases b4 <;>
  · go_enter Tryz.func62, Tryz.ntmps62
    go_wp2_with (first | (go_at_call 90; (first | (with_reducible refine (H1.out _).mono ?_) | (with_reducible refine (H2.out _).mono ?_) | (with_reducible refine (H3.out _).mono ?_)); rintro e w1 ⟨rfl, rfl⟩) | (go_at_call 98; (first | (with_reducible refine (H4.out _).mono ?_) | (with_reducible refine (H5.out _).mono ?_)); rintro e w1 ⟨rfl, rfl⟩))
    go_ret
    exact ⟨rfl, rfl⟩
end Go.Proofs.YtggdcnjaofflbaaGreatDoor

/- strings.Builder's methods at a builder that lies in a block of its own: copyCheck, WriteString, String. The conditions: what the builder holds, lengths. -/
namespace Go.Proofs.YtggdcnjaofflbaaGreatDoor
open Go.RowKit Go.BigFrame Go.Shelf

theorem qBuilderSize : (Tryz.prog.info? 177).map (·.size) = some 2 := by kernel_rfl
theorem qBuilderLies : liesAt Tryz.prog Tryz.prog.depth 177 (2 / Tryz.prog.cellsOf 177) 0 177 1 = true := by kernel_rfl

set_option maxHeartbeats 1000000 in
set_option maxRecDepth 100000 in
theorem qCopyCheck_used (b : Nat) (w : World) (h0 : w.cell? ⟨b, 0, none⟩ = some (.pointer (some ⟨b, 0, none⟩))) :
    Calls Tryz.prog 165 #[.pointer (some ⟨b, 0, none⟩)] w fun e w' => e = .returned (.tuple #[]) ∧ w' = w := by
  obtain ⟨j, hj, _⟩ := Option.map_eq_some_iff.1 qBuilderSize
  go_enter Tryz.func165, Tryz.ntmps165
  go_wp2
  rw [Lib.run_neq_ptr_same w _ Tryz.underlying175 hj]
  go_wp2
  go_end0
  exact ⟨rfl, rfl⟩

set_option maxHeartbeats 1000000 in
set_option maxRecDepth 100000 in
theorem qCopyCheck_fresh (b : Nat) (w : World) (h0 : w.cell? ⟨b, 0, none⟩ = some (.pointer none)) (hsh : w.shape? b = some (177, 2)) (hfz : w.frozen? ⟨b, 0, none⟩ = false) :
    Calls Tryz.prog 165 #[.pointer (some ⟨b, 0, none⟩)] w fun e w' => e = .returned (.tuple #[]) ∧ w' = w.setCell ⟨b, 0, none⟩ (.pointer (some ⟨b, 0, none⟩)) := by
  obtain ⟨j, hj, hjs⟩ := Option.map_eq_some_iff.1 qBuilderSize
  go_enter Tryz.func165, Tryz.ntmps165
  go_wp2
  rw [Lib.run_to_unsafe w ⟨b, 0, none⟩ Tryz.underlying175 Tryz.underlying225 hj (by rw [hjs]; decide) hsh (Nat.zero_lt_succ 1)]
  simp only [Result.andThen]
  rw [Oper.upon_value]
  go_wp2
  rw [run_callFunc_extern Tryz.func188 (by kernel_rfl) (by kernel_rfl) (by kernel_rfl) (e := Extern.AbiNoEscape.same) (by kernel_rfl)]
  rw [Lib.run_noEscape]
  simp only [Result.andThen]
  rw [Oper.upon_value]
  go_wp2
  rw [Lib.run_from_unsafe w ⟨b, 0, none⟩ Tryz.underlying225 Tryz.underlying175 hj hsh qBuilderLies]
  simp only [Result.andThen]
  rw [Oper.upon_value]
  go_wp2
  go_end0
  exact ⟨rfl, rfl⟩

theorem qCopyCheck_any (B b : Nat) (bs : List Value) (w : World) (h : Lib.IsBuilder 177 5 B b bs w) :
    Calls Tryz.prog 165 #[.pointer (some ⟨b, 0, none⟩)] w fun e w' => e = .returned (.tuple #[]) ∧ (Lib.BuilderAt 177 5 B b (.pointer (some ⟨b, 0, none⟩)) bs w' ∧ Below B w w') := by
  rcases h with h | h
  · refine (qCopyCheck_fresh b w h.cell0 h.shape h.frozen0).mono ?_
    rintro e w' ⟨rfl, rfl⟩
    exact ⟨rfl, h.used _, (Below.refl B w).setCell (p := ⟨b, 0, none⟩) h.1 _⟩
  · refine (qCopyCheck_used b w h.cell0).mono ?_
    rintro e w' ⟨rfl, rfl⟩
    exact ⟨rfl, h, Below.refl B _⟩

set_option maxHeartbeats 2000000 in
set_option maxRecDepth 100000 in
theorem qWriteString_any (B b : Nat) (bs : List Value) (s : ByteArray) (w : World) (h : Lib.IsBuilder 177 5 B b bs w) (hlen : bs.length + s.size ≤ 140737488355328) (hBw : B ≤ w.heap.size) :
    Calls Tryz.prog 143 #[.pointer (some ⟨b, 0, none⟩), .string s] w fun e w' => e = .returned (.tuple #[.int .i64 s.size, .nilIface]) ∧ (Lib.BuilderAt 177 5 B b (.pointer (some ⟨b, 0, none⟩)) (bs ++ Lib.strCells s) w' ∧ Below B w w') := by
  obtain ⟨i0, hi, hz0, hz1, hz2⟩ := info_parts infoByte
  go_enter Tryz.func143, Tryz.ntmps143
  go_wp2_with (go_at_call 165; refine (qCopyCheck_any B b bs _ h).mono ?_)
  rintro e w1 ⟨rfl, h1, hb1⟩
  obtain ⟨hB, v, hbk, hown, hne⟩ := h1
  have c0 : w1.cell? ⟨b, 0, none⟩ = some (.pointer (some ⟨b, 0, none⟩)) := by rw [Lib.cell_of_heap hbk]; rfl
  have c1 : w1.cell? ⟨b, 1, none⟩ = some v := by rw [Lib.cell_of_heap hbk]; rfl
  go_wp2_with (at_builtin; refine Lib.wpList_append_own_string _ rfl _ _ 80 9 rfl B 5 i0 (by kernel_rfl) (by kernel_rfl) hi hz0 hz1 hz2 _ _ _ rfl hown s rfl ?c3 ?c4 ?c5 ?_)
  case c3 => unfold maxLen; omega
  case c4 => omega
  case c5 => have := hb1.size; omega
  intro v' w2 hown' hgrow _
  have hlt : b < w1.heap.size := by
    rcases Nat.lt_or_ge b w1.heap.size with h' | h'
    · exact h'
    · simp [Array.getElem?_eq_none h'] at hbk
  have hb2 : w2.heap[b]? = some (.cells #[.pointer (some ⟨b, 0, none⟩), v] 177 (0, 0)) := by
    rw [hgrow.block b hlt (fun e => hne e.symm)]
    exact hbk
  have d0 : w2.cell? ⟨b, 0, none⟩ = some (.pointer (some ⟨b, 0, none⟩)) := by rw [Lib.cell_of_heap hb2]; rfl
  have d1 : w2.cell? ⟨b, 1, none⟩ = some v := by rw [Lib.cell_of_heap hb2]; rfl
  have f1 : w2.frozen? ⟨b, 1, none⟩ = false := Lib.frozen_of_heap hb2 1
  obtain ⟨ao, n', cap, rfl⟩ : ∃ ao n' cap, v' = .slice ao n' cap := by
    rcases hown'.2 with ⟨hv, _⟩ | ⟨g, cap, cur, hv, _⟩
    · exact ⟨_, _, _, hv⟩
    · exact ⟨_, _, _, hv⟩
  go_wp2
  go_ret2
  refine ⟨rfl, ?_, ?_⟩
  · exact Lib.BuilderAt.put (T := 177) (e := 5) hB hb2 (bs' := bs ++ Lib.strCells s) (by simpa [Lib.strCells_length] using hown') (by decide)
  · exact (hb1.grown hgrow (by have := hb1.size; omega) (fun k hk => (hown.lt k hk).1)).setCell (p := ⟨b, 1, none⟩) hB _

set_option maxHeartbeats 1000000 in
set_option maxRecDepth 100000 in
theorem qBstring_any (B b : Nat) (l : List UInt8) (w : World) (h : Lib.BuilderAt 177 5 B b (.pointer (some ⟨b, 0, none⟩)) (Lib.byteCells l) w) (h0 : l ≠ []) :
    Calls Tryz.prog 144 #[.pointer (some ⟨b, 0, none⟩)] w fun e w' => e = .returned (.string ⟨l.toArray⟩) ∧ Below B w w' := by
  obtain ⟨hB, v, hbk, hown, hne⟩ := h
  have hl0 : l.length ≠ 0 := by simpa using h0
  rw [Lib.byteCells_length] at hown
  obtain ⟨g, cap, cur, rfl, hbg, hg, hnc, hcm, hcs, htake⟩ : ∃ g cap cur, v = .slice (some ⟨g, 0, none⟩) l.length cap ∧ B ≤ g ∧ w.heap[g]? = some (.cells cur 5 (0, 0)) ∧ l.length ≤ cap ∧ cap ≤ maxLen ∧ cur.size = cap * 1 ∧ cur.toList.take (l.length * 1) = Lib.byteCells l := by
    rcases hown.2 with ⟨_, hz⟩ | ⟨g, cap, cur, hv, r⟩
    · exact absurd hz hl0
    · exact ⟨g, cap, cur, hv, r⟩
  have c1 : w.drew.cell? ⟨b, 1, none⟩ = some (.slice (some ⟨g, 0, none⟩) l.length cap) := by
    have : w.drew.heap[b]? = some (.cells #[.pointer (some ⟨b, 0, none⟩), .slice (some ⟨g, 0, none⟩) l.length cap] 177 (0, 0)) := hbk
    rw [Lib.cell_of_heap this]; rfl
  have hSD : (Builtin.unsafeSliceData_ #[80] 202 #[.slice (some ⟨g, 0, none⟩) l.length cap]).run Tryz.prog w.drew = .ok (.pointer (some ⟨g, 0, none⟩)) w.drew :=
    Lib.run_unsafeSliceData_row _ _ _ _ _ _ (by omega)
  have hUS : (Builtin.unsafeString_ #[202, 3] 9 #[.pointer (some ⟨g, 0, none⟩), .int .i64 l.length]).run Tryz.prog w.drew = .ok (.string ⟨l.toArray⟩) (w.drew.freeze ⟨g, 0, none⟩ l.length) := by
    refine Lib.run_unsafeString_row w.drew 202 3 9 5 (by kernel_rfl) (by kernel_rfl) g cur.size (by have hg' : w.drew.heap[g]? = some (.cells cur 5 (0, 0)) := hg; simp [World.shape?, hg']) l h0 (by omega) (by unfold maxLen at hcm; omega) ?_
    intro j x hx
    have := hown.cells (g := g) rfl j (.int .u8 x.toNat) (by simp [Lib.byteCells, hx])
    exact this
  go_enter Tryz.func144, Tryz.ntmps144
  go_wp2
  go_region
  all_goals (go_wp2; go_ret; exact ⟨rfl, Lib.below_freeze (Below.drew (Below.refl B w)) (p := ⟨g, 0, none⟩) hbg _⟩)
end Go.Proofs.YtggdcnjaofflbaaGreatDoor

/- wire.PutInt at a small number: one group. The condition: the number is from 0 to 63. -/
namespace Go.Proofs.YtggdcnjaofflbaaGreatDoor
open Go.RowKit Go.BigFrame Go.Shelf

attribute [local go_sem] Oper.semAt_some

set_option maxHeartbeats 400000 in
theorem groups_any (z : Nat) (w : World) :
    Calls Tryz.prog 164 #[.int .u64 z] w fun e w' => e = .returned (.func (.func 187) #[] #[.pointer (some ⟨w.heap.size, 0, none⟩)]) ∧ w' = w.alloc (.cells #[.int .u64 z] 144) := by
  go_enter Tryz.func164, Tryz.ntmps164
  go_wp2
  go_ret
  exact ⟨rfl, rfl⟩

theorem wpListIn_append_el {F : Fence} {n : Nat} {P : Program} {ops : Array Oper} {rest : List Oper} {o : Oper} {a : Act} {w : World} {Q : Exit → Act → World → Prop} (t e : TypeId) (size bytes : Nat) (z : Value) (ht : P.underlying t = some (.slice e)) (hinfo : (P.info? e).map (fun i => (i.zero, i.size, i.bytes)) = some (some z, size, bytes)) (hzs : z.cells.size = size) (hsz : 0 < size)
    (hgd : o.guard = none) (s x : Operand) (ho : o.op = .call { callee := .builtin .append, args := #[s, x], argTypes := #[t, t] })
    (base : Nat) (v : Value) (css : List (List Value)) (hs : a.eval s = v) (hown : OwnE w base e size v css) (b : Nat) (c : List Value) (hc : c.length = size) (hone : ∀ u ∈ c, u.oneCell' = true) (hx : a.eval x = .slice (some ⟨b, 0, none⟩) 1 1) (fr : Nat × Nat)
    (hb : w.heap[b]? = some (.cells c.toArray e fr)) (h63 : css.length + 1 ≤ maxLen) (hbytes : (css.length + 1) * bytes ≤ 140737488355328) (hbase : base ≤ w.heap.size)
    (h : ∀ v' w', OwnE w' base e size v' (css ++ [c]) → w.grownBy w' v.ownBlock → wpListIn F n P ops Q rest (a.put o.dst v') w') : wpListIn F n P ops Q (o :: rest) a w := by
  obtain ⟨i, i1, i2, i3, i4⟩ := info_parts hinfo
  refine wpListIn_append_own w hgd s x t ho base e i z size bytes ht i1 i2 i3 i4 hzs hsz v _ _ hs hown ⟨b, 0, none⟩ 1 1 c hx (by omega) ?_ hone h63 hbytes hbase ?_
  · intro j u hj
    rw [Addr.add_mid, cell_of_row w _ (0 + j) _ _ _ hb, Nat.zero_add, List.getElem?_toArray]
    exact hj
  · intro v' w' h1 h2 _
    refine h v' w' ?_ h2
    unfold OwnE
    rw [List.length_append, List.flatten_append]
    simpa using h1

theorem infoU8 : (Tryz.prog.info? 5).map (fun i => (i.zero, i.size, i.bytes)) = some (some (.int .u8 0), 1, 1) := by kernel_rfl
end Go.Proofs.YtggdcnjaofflbaaGreatDoor

/- The iterator over the groups of seven bits of a number. The condition: the number is below 2^28. -/
namespace Go.Proofs.YtggdcnjaofflbaaGreatDoor
open Go.RowKit Go.BigFrame Go.Shelf

attribute [local go_sem] Oper.semAt_some

abbrev Grp := { p : Nat × Bool // p.1 < 128 }
def Grp.enc (x : Grp) : Array Value := #[.int .u8 (x.1.1 : Nat), .bool x.1.2]
def Grp.byte (x : Grp) : UInt8 := UInt8.ofNat (if x.1.2 then x.1.1 else x.1.1 + 128)
def grpL (fuel : Nat) (z : Nat) : List Grp := match fuel with
  | 0 => [⟨(z % 128, true), Nat.mod_lt _ (by decide)⟩]
  | f + 1 => if z < 128 then [⟨(z % 128, true), Nat.mod_lt _ (by decide)⟩] else ⟨(z % 128, false), Nat.mod_lt _ (by decide)⟩ :: grpL f (z / 128)
theorem grpL_bytes : ∀ (f z : Nat), z < 128 ^ (f + 1) → (grpL f z).map Grp.byte = grp f z
  | 0, z, h => by
    unfold grpL grp Grp.byte
    simp only [List.map_cons, List.map_nil, if_true]
    rw [Nat.mod_eq_of_lt (by simpa using h)]
  | f + 1, z, h => by
    unfold grpL grp
    by_cases hz : z < 128
    · rw [if_pos hz, if_pos hz]
      unfold Grp.byte
      simp only [List.map_cons, List.map_nil, if_true]
      rw [Nat.mod_eq_of_lt hz]
    · rw [if_neg hz, if_neg hz, List.map_cons, grpL_bytes f (z / 128) (by rw [Nat.pow_succ] at h; omega)]
      rfl
theorem grpL_ne (f z : Nat) : grpL f z ≠ [] := by
  cases f <;> unfold grpL <;> (try split) <;> simp

theorem grpL_pos (f z r : Nat) (h : z < 128) (hr : r = z % 128) (hr' : r < 128) : grpL f z = [⟨(r, true), hr'⟩] := by
  subst hr
  cases f with
  | zero => rfl
  | succ f => rw [grpL, if_pos h]
theorem grpL_neg (f z r q : Nat) (h : ¬ z < 128) (hr : r = z % 128) (hr' : r < 128) (hq : q = z / 128) : grpL (f + 1) z = ⟨(r, false), hr'⟩ :: grpL f q := by
  subst hr hq
  rw [grpL, if_neg h]
theorem and127 (z : Nat) (hz : z < 18446744073709551616) : bits BinOp.and IntKind.u64 (z : Int) 127 % 256 = ((z % 128 : Nat) : Int) := by
  have h := u64_and_nat z 127 hz (by decide)
  have e : ((127 : Nat) : Int) = 127 := rfl
  rw [e] at h
  rw [h, Nat.and_two_pow_sub_one_eq_mod z 7]
  omega

def u64At (w : World) (b : Nat) : Nat := match w.cell? ⟨b, 0, none⟩ with
  | some (.int _ n) => n.toNat
  | _ => 0

set_option maxRecDepth 100000 in
set_option maxHeartbeats 1000000 in
theorem groups_iter (b z : Nat) (hz : z < 268435456) (w0 : World) (hb : w0.heap[b]? = some (.cells #[.int .u64 z] 144 (0, 0))) :
    Iter Tryz.prog 187 #[.pointer (some ⟨b, 0, none⟩)] Grp.enc (fun A B => B.heap[b]? = A.heap[b]?) (some b) (fun xs => xs = grpL 3 z) (fun _ => True) 4 w0 := by
  intro F m hF hro l J Jx W hW hJ hJx hY h0
  have hbl : b < w0.heap.size := (Array.getElem?_eq_some_iff.1 hb).1
  have hbW : W.heap[b]? = some (.cells #[.int .u64 z] 144 (0, 0)) := (hW.block b hbl).trans hb
  have HN := Lib.hid hz
  clear hz hb hW
  refine callsIn_of_wp Tryz.func187 rfl (hF.1 _) ?_ hro
  simp only [Tryz.ntmps187, List.size_toArray, List.length_cons, List.length_nil, Nat.reduceAdd, Nat.reduceSub, Array.replicate_succ, Array.replicate_zero, List.push_toArray, List.append_toArray, List.nil_append, List.cons_append]
  gi_wp2
  gi_loopw [3] (fun u wr => ∃ (pre : List Grp) (c f : Nat), f ≤ 3 ∧ Hid (wr.heap[b]? = some (.cells #[.int .u64 (c : Nat)] 144 (0, 0))) ∧ Hid (pre ++ grpL f c = grpL 3 z ∧ c < 128 ^ (f + 1) ∧ pre.length + f = 3) ∧ J pre wr) (fun u wr => u64At wr b)
  case atStart =>
    exact ⟨[], z, 3, by omega, hbW, ⟨rfl, by have := HN.out; omega, rfl⟩, h0⟩
  case round =>
    obtain ⟨pre, c, f, hf3, hcell, hpre, hJs⟩ := hrel
    have c0 : wr.cell? ⟨b, 0, none⟩ = some (.int .u64 (c : Nat)) := cell_of_row wr _ 0 _ _ _ hcell.out
    have cf : wr.frozen? ⟨b, 0, none⟩ = false := frozen_of_row _ _ _ _ _ hcell.out
    have hc28 : c < 268435456 := Nat.lt_of_lt_of_le hpre.out.2.1 (by
      have : 128 ^ (f + 1) ≤ 128 ^ (3 + 1) := Nat.pow_le_pow_right (by decide) (by omega)
      simpa using this)
    obtain ⟨r, hr⟩ : ∃ r, r = c % 128 := ⟨_, rfl⟩
    have hr128 : r < 128 := by rw [hr]; exact Nat.mod_lt _ (by decide)
    have hand : bits BinOp.and IntKind.u64 (c : Int) 127 % 256 = (r : Int) := by rw [hr]; exact and127 c (by omega)
    have HRr := Lib.hid hr
    clear hr
    have hlen : pre.length < 4 := by have := hpre.out.2.2; omega
    by_cases hz : c < 128
    · have hlt : decide ((c : Int) < 128) = true := decide_eq_true (by omega)
      obtain ⟨fn, tmps, assign, body, hy, hR⟩ := hY pre ⟨(r, true), hr128⟩ wr hJs hlen
      dsimp only [Grp.enc] at hy
      have HZ := Lib.hid hz
      clear hz hc28
      gi_wp2
      refine ⟨fun h => (by rw [hF.2.1] at h; cases h), hR.mono ?_⟩
      rintro e W3 (⟨rfl, hJ3, hk3⟩ | ⟨rfl, hJx3⟩)
      · gi_wp2
        refine bodyPost_ret (results_none rfl _ _ _) rfl ?_
        refine ⟨⟨_, rfl⟩, .inl ⟨_, ?_, hJ3⟩⟩
        rw [← hpre.out.1]
        refine congrArg (pre ++ ·) ?_
        exact (grpL_pos f c r HZ.out HRr.out hr128).symm
      · gi_wp2
        refine bodyPost_ret (results_none rfl _ _ _) rfl ?_
        exact ⟨⟨_, rfl⟩, .inr ⟨_, trivial, hJx3⟩⟩
    · have hlt : decide ((c : Int) < 128) = false := decide_eq_false (by omega)
      obtain ⟨f', rfl⟩ : ∃ f', f = f' + 1 := by
        cases f with
        | zero => exact absurd hpre.out.2.1 (by simpa using hz)
        | succ f' => exact ⟨f', rfl⟩
      have hnext : Hid ((pre ++ [⟨(r, false), hr128⟩]) ++ grpL f' (c / 128) = grpL 3 z ∧ c / 128 < 128 ^ (f' + 1) ∧ (pre ++ [(⟨(r, false), hr128⟩ : Grp)]).length + f' = 3) := by
        refine Lib.hid ⟨?_, ?_, ?_⟩
        · rw [← hpre.out.1, List.append_assoc]
          refine congrArg (pre ++ ·) ?_
          exact (grpL_neg f' c r (c / 128) hz HRr.out hr128 rfl).symm
        · have := hpre.out.2.1
          rw [Nat.pow_succ] at this
          omega
        · have := hpre.out.2.2
          simp only [List.length_append, List.length_cons, List.length_nil]
          omega
      obtain ⟨fn, tmps, assign, body, hy, hR⟩ := hY pre ⟨(r, false), hr128⟩ wr hJs hlen
      dsimp only [Grp.enc] at hy
      obtain ⟨q, hq⟩ : ∃ q, q = c / 128 := ⟨_, rfl⟩
      have hsh : (c : Int) / 128 = (q : Int) := by omega
      have hqc : Hid (q < c) := Lib.hid (by omega)
      rw [← hq] at hnext
      clear hz hc28 hq
      gi_wp2
      refine ⟨fun h => (by rw [hF.2.1] at h; cases h), hR.mono ?_⟩
      rintro e W3 (⟨rfl, hJ3, hk3⟩ | ⟨rfl, hJx3⟩)
      · have hcell3 : W3.heap[b]? = some (.cells #[.int .u64 (c : Nat)] 144 (0, 0)) := hk3.trans hcell.out
        have c3 : W3.cell? ⟨b, 0, none⟩ = some (.int .u64 (c : Nat)) := cell_of_row W3 _ 0 _ _ _ hcell3
        have cf3 : W3.frozen? ⟨b, 0, none⟩ = false := frozen_of_row _ _ _ _ _ hcell3
        have HC3 := Lib.hid hcell3
        clear hcell3 hk3
        gi_wp2
        go_roundw
        case rel =>
          refine ⟨_, q, f', by omega, ?_, hnext, ?_⟩
          · exact heap_setCell_same _ HC3.out
          · exact hJ _ _ _ hJ3 (IStep.write HC3.out _)
        case measure =>
          have h1 : (W3.setCell ⟨b, 0, none⟩ (.int .u64 (q : Nat))).cell? ⟨b, 0, none⟩ = some (.int .u64 (q : Nat)) :=
            cell_of_row _ _ 0 _ _ _ (heap_setCell_same _ HC3.out)
          show u64At _ b < u64At _ b
          unfold u64At
          rw [h1, c0]
          simpa using hqc.out
      · gi_wp2
        refine bodyPost_ret (results_none rfl _ _ _) rfl ?_
        exact ⟨⟨_, rfl⟩, .inr ⟨_, trivial, hJx3⟩⟩
end Go.Proofs.YtggdcnjaofflbaaGreatDoor

/- wire.PutInt at a number below 2^27. The condition: the bounds. -/
namespace Go.Proofs.YtggdcnjaofflbaaGreatDoor
open Go.RowKit Go.BigFrame Go.Shelf

attribute [local go_sem] Oper.semAt_some

theorem OwnE.grownX {w w' : World} {base size : Nat} {e : TypeId} {v : Value} {css : List (List Value)} (h : OwnE w base e size v css) {k : Nat} {o : Obj} (hk : w.heap[k]? = some o) (hne : ∀ c, o ≠ .cells c e (0, 0)) (hg : w.grownBy w' (some k)) : OwnE w' base e size v css :=
  World.ownsRow.kept h hg (.inr (fun e' => own_ne h hk hne e'.symm))
def Grp.nat (x : Grp) : Nat := if x.1.2 then x.1.1 else x.1.1 + 128
def gcells (pre : List Grp) : List (List Value) := pre.map fun x => [Value.int .u8 (x.nat : Nat)]
theorem Grp.nat_lt (x : Grp) : x.nat < 256 := by
  unfold Grp.nat
  have := x.2
  split <;> omega
theorem strOf_grp (xs : List Grp) : strOf (xs.map Grp.nat) = ⟨(xs.map Grp.byte).toArray⟩ := by
  unfold strOf
  rw [List.map_map]
  rfl
theorem or128 : ∀ g : Fin 128, bits BinOp.or IntKind.u8 ((g.val : Nat) : Int) 128 = ((g.val + 128 : Nat) : Int) := by decide +kernel
theorem shr63L (n : Nat) (hn : n < 134217728) (w : World) : (Op.shift BinOp.shr IntKind.i64 (n : Int) IntKind.u64 63).run Tryz.prog w = .ok (.int .i64 0) w := by
  have h : (n : Int).fdiv (2 ^ (min (63 : Int).toNat IntKind.i64.bits)) = 0 := by
    have e : (2 : Int) ^ (min (63 : Int).toNat IntKind.i64.bits) = 9223372036854775808 := by decide
    rw [e, Int.fdiv_eq_ediv_of_nonneg _ (by decide)]
    omega
  unfold Op.shift
  simp only [show ¬ ((63 : Int) < 0) from by decide, if_false, h]
  rfl
theorem wpList_shr63L {ops : Array Oper} {rest : List Oper} {o : Oper} {a : Act} {w : World} {Q : Exit → Act → World → Prop} (n : Nat) (hn : n < 134217728) (x y : Operand) (hgd : o.guard = none) (t1 t2 : TypeId) (ho : o.op = Op.binOp BinOp.shr t1 x y t2) (hx : a.eval x = .int .i64 n) (hy : a.eval y = .int .u64 63)
    (h : wpList Tryz.prog ops Q rest (a.put o.dst (.int .i64 0)) w) : wpList Tryz.prog ops Q (o :: rest) a w := by
  refine wpList_run hgd ?_ h
  unfold execOp
  simp only [ho, hx, hy]
  simp only [go_sem]
  simp [shr63L n hn w]
theorem OwnE.bytes {w : World} {base : Nat} {v : Value} {xs : List Grp} (h : OwnE w base 5 1 v (gcells xs)) (hne : xs ≠ []) : ∃ g cap, v = .slice (some ⟨g, 0, none⟩) xs.length cap ∧ ∀ j y, (xs.map Grp.nat)[j]? = some y → w.cell? ⟨g, 0 + j, none⟩ = some (.int .u8 (y : Nat)) := by
  have hl : (gcells xs).length = xs.length := by unfold gcells; rw [List.length_map]
  rcases h.2 with ⟨_, h0⟩ | ⟨g, cap, cur, hv, hb, hg, h1, h2, h3, h4⟩
  · rw [hl] at h0
    exact absurd (List.eq_nil_of_length_eq_zero h0) hne
  · rw [hl] at hv
    refine ⟨g, cap, hv, fun j y hj => ?_⟩
    rw [List.getElem?_map] at hj
    cases hx : xs[j]? with
    | none => rw [hx] at hj; cases hj
    | some x =>
      rw [hx] at hj
      cases hj
      have e : (gcells xs).flatten = xs.map fun x => Value.int .u8 (x.nat : Nat) := by
        unfold gcells
        clear h h4 hx hl hne hv h1
        induction xs with
        | nil => rfl
        | cons a t ih => rw [List.map_cons, List.flatten_cons, ih]; rfl
      have h5 := World.ownsRow.cells (g := g) h (by rw [hv]; rfl) j (.int .u8 (x.nat : Nat)) (by rw [e, List.getElem?_map, hx]; rfl)
      rw [Addr.add_mid] at h5
      exact h5
set_option maxHeartbeats 400000 in
set_option maxRecDepth 100000 in
theorem putI_any (n : Nat) (hn : n < 134217728) (w : World) :
    Calls Tryz.prog 142 #[.int .i64 n] w fun e w' => e = .returned (.tuple #[.string ⟨(putN n).toArray⟩, .int .i64 0]) ∧ Below w.heap.size w w' := by
  have h1 : decide ((n : Int) < -4611686018427387903) = false := decide_eq_false (by omega)
  have h2 : decide ((4611686018427387903 : Int) < (n : Int)) = false := decide_eq_false (by omega)
  obtain ⟨z, hz⟩ : ∃ z, z = 2 * n := ⟨_, rfl⟩
  have hz28 : z < 268435456 := by omega
  have hxor : bits BinOp.xor IntKind.u64 ((n : Int) * 2) 0 = (z : Int) := by
    have h := u64_xor_nat (n * 2) 0 (by omega) (by decide)
    rw [Nat.xor_zero] at h
    rw [hz, Nat.mul_comm 2 n, ← h]
    rfl
  have hshl : IntKind.u64.wrap ((n : Int) * 2) = (n : Int) * 2 := by rw [IntKind.wrap_u64]; omega
  have hput : Hid (putN (n : Int) = grp 3 z) := Lib.hid (by unfold putN; rw [Int.toNat_natCast, hz])
  obtain ⟨R, hR⟩ : ∃ R, R = putN (n : Int) := ⟨_, rfl⟩
  rw [← hR] at hput ⊢
  clear hz hR
  refine calls_of_callsIn (n := 8) Wide.wide (callsIn_of_wp_marks Tryz.func142 rfl trivial ?_)
  simp only [Tryz.ntmps142, List.size_toArray, List.length_cons, List.length_nil, Nat.reduceAdd, Nat.reduceSub, Array.replicate_succ, Array.replicate_zero, List.push_toArray, List.append_toArray, List.nil_append, List.cons_append]
  refine wpIn_wide.2 ?_
  go_wp2_with (first | (refine wpList_shr63L n hn (.tmp 16) (.const (.int .u64 63)) rfl _ _ rfl rfl rfl ?_) | (go_at_call 164; (try rw [hxor]); refine (groups_any z _).mono ?_; rintro e w1 ⟨rfl, rfl⟩))
  obtain ⟨W5, hW5⟩ : ∃ W5, W5 = (w.alloc (.cells #[.slice none 0 0] 80)).alloc (.cells #[.int .u64 z] 144) := ⟨_, rfl⟩
  rw [← hW5]
  have HB0 : Hid (W5.heap[w.heap.size]? = some (.cells #[.slice none 0 0] 80 (0, 0))) := Lib.hid (by rw [hW5]; exact at_past w _ _)
  have HB1 : Hid (W5.heap[w.heap.size + 1]? = some (.cells #[.int .u64 z] 144 (0, 0))) := Lib.hid (by rw [hW5]; exact at_second w _ _)
  have HBw : Hid (Below w.heap.size w W5) := Lib.hid (by rw [hW5]; exact ((Below.refl _ _).alloc (by omega) _).alloc (by simp) _)
  have hs5 : W5.heap.size = w.heap.size + 2 := by rw [hW5]; simp
  obtain ⟨b0, hb0⟩ : ∃ b0, b0 = w.heap.size := ⟨_, rfl⟩
  rw [← hb0] at HB0 HB1 hs5 ⊢
  have hwb : w.heap.size ≤ b0 := by omega
  clear hb0 hW5
  refine (wpIn_wide (n := 8)).1 ?_
  refine wpIn_range (n := 8) Wide.wide rfl (gf := 187) (lb := #[.pointer (some ⟨b0 + 1, 0, none⟩)]) ?ev (fun args w => ?enter) (groups_iter (b0 + 1) z hz28 W5 HB1.out) (Below.refl _ _) (fun x => rfl) (fun q e => by cases e; omega) (fun h h' => h'.trans h) (fun W l o o' h1 h2 h3 h4 => ?kb)
    (fun pre W => (∃ v, W.heap[b0]? = some (.cells #[v] 80 (0, 0)) ∧ (OwnE W w.heap.size 5 1 v (gcells pre) ∧ ∃ c, W.heap[b0 + 1]? = some (.cells c 144 (0, 0)))) ∧ Below w.heap.size w W)
    (fun _ _ _ => False) ?abide (fun _ => abide_false _ _) ⟨⟨_, HB0.out, OwnE.nil _ _ _ _, _, HB1.out⟩, HBw.out⟩ (fun x => ⟨#[Value.int IntKind.i64 n, undef, Value.string ⟨#[]⟩, Value.int IntKind.i64 0, Value.pointer (some ⟨b0, 0, none⟩), Value.int IntKind.u8 (x.1.1 : Nat), Value.bool x.1.2, Value.int IntKind.i64 n, Value.bool false, Value.bool false, Value.int IntKind.i64 n, Value.bool false, Value.bool false, Value.int IntKind.i64 n, Value.int IntKind.u64 n, Value.int IntKind.u64 ((n : Int) * 2), Value.int IntKind.i64 n, Value.int IntKind.i64 0, Value.int IntKind.u64 0, Value.int IntKind.u64 z, Value.func (Fn.func 187) #[] #[Value.pointer (some ⟨b0 + 1, 0, none⟩)], Value.int IntKind.u8 (x.1.1 : Nat), Value.bool x.1.2, undef, undef, undef, undef, undef, undef, undef, undef, undef, undef], []⟩) (fun l x W K hK => ?assign) (fun l pre x W hI hlen => ?body) (fun Dm xs W hDm hS hI hDd => ?done) (fun Dm c pre W hD hS hI => hI.elim)
  case assign =>
    simp only [Grp.enc, List.zip_toArray, List.zip_cons_cons, List.zip_nil_right, List.foldl_toArray', List.foldl_cons, List.foldl_nil, List.setIfInBounds_toArray, List.set_cons_succ, List.set_cons_zero]
    gi_wp2
    exact hK
  case ev => rfl
  case enter => kernel_rfl
  case kb => exact World.putObj_heap_other (fun e => by omega)
  case abide => exact abide_and (abide_ex fun v => abide_and (abide_cells (fun _ => .cells #[v] 80) (fun _ => rfl) (by simp)) (abide_owns (e := 5) (e' := 144) v (fun pre => (gcells pre).length) (fun pre => (gcells pre).flatten) (by decide))) (abide_below (by omega) (Nat.le_refl _) (fun q e => by cases e; omega))
  case body =>
    obtain ⟨⟨v, g1, g2, c, g3⟩, g4⟩ := hI
    have hlc : (gcells pre).length < 4 := by unfold gcells; rw [List.length_map]; exact hlen
    have hs7 := g4.size
    have c1 : W.cell? ⟨b0, 0, none⟩ = some v := cell_of_row W _ 0 _ _ _ g1
    have hb0W : b0 + 1 < W.heap.size := (Array.getElem?_eq_some_iff.1 g3).1
    have hg0 : gcells (pre ++ [x]) = gcells pre ++ [[Value.int .u8 (x.nat : Nat)]] := by unfold gcells; rw [List.map_append]; rfl
    have HG0 := Lib.hid hg0
    have G1 := Lib.hid g1
    have G2 := Lib.hid g2
    have G3 := Lib.hid g3
    have G4 := Lib.hid g4
    obtain ⟨va, vcp, hv⟩ := g2.form
    subst hv
    obtain ⟨⟨g, last⟩, hg⟩ := x
    obtain ⟨y, hy⟩ : ∃ y, y = Grp.nat ⟨(g, last), hg⟩ := ⟨_, rfl⟩
    rw [← hy] at HG0
    have hor0 : last = false → bits BinOp.or IntKind.u8 (g : Int) 128 = (y : Int) := fun e => by rw [hy, e]; exact or128 ⟨g, hg⟩
    have hyv : (last = true ∧ y = g) ∨ last = false := by
      rw [hy]
      cases last
      · exact .inr rfl
      · exact .inl ⟨rfl, rfl⟩
    clear g1 g2 g3 g4 hg0 hy
    rcases hyv with ⟨rfl, rfl⟩ | rfl
    all_goals
      try have hor := hor0 rfl
      clear hor0
      dsimp only
      gi_wp2_with (refine wpListIn_append_el 80 5 1 1 _ (by kernel_rfl) infoU8 rfl (by decide) rfl (.tmp 27) (.tmp 29) rfl w.heap.size (.slice va (gcells pre).length vcp) (gcells pre) rfl (G2.out.alloc _) W.heap.size [.int .u8 y] rfl (fun u hu => by rw [List.mem_singleton] at hu; subst hu; rfl) rfl (0, 0) (heap_alloc_new _ _) (by unfold maxLen; omega) (by omega) (by simp; omega) ?_; intro v3 w3 ho3 hg3; have HG3 := Lib.hid hg3; have HO3 := Lib.hid ho3; clear ho3 hg3; have HC3 : Hid (w3.heap[b0]? = some (.cells #[.slice va (gcells pre).length vcp] 80 (0, 0))) := Lib.hid ((HG3.out.block _ (by simp; omega) (own_ne G2.out G1.out (fun c e => by cases e))).trans ((Below.heap_alloc _ _ _ (by omega)).trans G1.out)); have d1 : w3.cell? ⟨b0, 0, none⟩ = some (.slice va (gcells pre).length vcp) := cell_of_row w3 _ 0 _ _ _ HC3.out; have cf1 : w3.frozen? ⟨b0, 0, none⟩ = false := (by simp [World.frozen?, HC3.out]); obtain ⟨a3, cp3, hv3⟩ := HO3.out.form; generalize (gcells pre ++ [[Value.int IntKind.u8 (y : Nat)]]).length = M3 at hv3; subst hv3)
      have hset : w3.grownBy (w3.setCell ⟨b0, 0, none⟩ (.slice a3 M3 cp3)) (some b0) := grown_setCell (grown_refl _ _) _ (.inl rfl) _
      have HK3 : Hid (w3.heap[b0 + 1]? = some (.cells c 144 (0, 0))) := Lib.hid ((HG3.out.block _ (by simp; omega) (own_ne G2.out G3.out (fun c e => by cases e))).trans ((Below.heap_alloc _ _ _ (by omega)).trans G3.out))
      have hbw3 : Below w.heap.size w w3 := (G4.out.alloc hs7 _).grown HG3.out (by simp; omega) (fun j e => G2.out.ge j e)
      refine ⟨⟨?k1, fun q o hB hq hnc => ?k2⟩, ?k3, ⟨.slice a3 M3 cp3, ?k4, ?k5, c, ?k6⟩, ?k7⟩
      case k1 => have := hset.size; have := HG3.out.size; simp at this; omega
      case k2 =>
        have hql := (Array.getElem?_eq_some_iff.1 hq).1
        have hq3 : w3.heap[q]? = some o := (HG3.out.block q (by simp; omega) (own_ne G2.out hq (fun c e => by subst e; cases hnc))).trans ((Below.heap_alloc _ _ _ hql).trans hq)
        exact (hset.block q (Array.getElem?_eq_some_iff.1 hq3).1 (fun e => by
          have := Option.some.inj e
          subst this
          rw [G1.out] at hq
          cases hq
          cases hnc)).trans hq3
      case k3 => exact ((hset.block _ (Array.getElem?_eq_some_iff.1 HK3.out).1 (fun e => by have := Option.some.inj e; omega)).trans HK3.out).trans G3.out.symm
      case k4 =>
        rw [heap_setCell_same _ HC3.out]
        rfl
      case k5 =>
        rw [HG0.out]
        exact HO3.out.grownX HC3.out (fun c e => by cases e) hset
      case k6 => exact (hset.block _ (Array.getElem?_eq_some_iff.1 HK3.out).1 (fun e => by have := Option.some.inj e; omega)).trans HK3.out
      case k7 => exact hbw3.grown hset (by have := hbw3.size; omega) (fun j e => by cases e; exact hwb)
  case done =>
    obtain ⟨⟨v, g1, g2, c, g3⟩, g4⟩ := hI
    have hxs : xs ≠ [] := by rw [hS]; exact grpL_ne _ _
    obtain ⟨g, cap, rfl, hcell⟩ := g2.bytes hxs
    have c1 : W.cell? ⟨b0, 0, none⟩ = some (.slice (some ⟨g, 0, none⟩) xs.length cap) := cell_of_row W _ 0 _ _ _ g1
    have HC := Lib.hid hcell
    have G4 := Lib.hid g4
    have HDd := Lib.hid hDd
    have hsW := g4.size
    have HR : Hid (strOf (xs.map Grp.nat) = ⟨R.toArray⟩) := Lib.hid (by rw [strOf_grp, hS, grpL_bytes 3 z (by simpa using hz28), hput.out])
    have hL : Hid (xs.length = (xs.map Grp.nat).length) := Lib.hid (by rw [List.length_map])
    have h256 : Hid (∀ y ∈ xs.map Grp.nat, y < 256) := Lib.hid (fun y hy => by
      obtain ⟨x, _, rfl⟩ := List.mem_map.1 hy
      exact x.nat_lt)
    generalize xs.map Grp.nat = L at *
    clear hS g1 g2 g3 g4 hDd hcell hxs
    show Exit.inBlock _ _ _ (Act.mk _ [{ target := .collected Dm, args := #[] }]) W
    go_wp2_with (refine wpList_convS L h256.out 80 9 5 _ g 0 xs.length cap rfl rfl rfl hL.out (by kernel_rfl) (by kernel_rfl) (by kernel_rfl) HC.out ?_)
    have hM : Marks w.heap.size [Dm] W := ⟨by simp, fun D hD => by
      rw [List.mem_singleton] at hD
      subst hD
      exact ⟨by omega, HDd.out⟩⟩
    refine leaves_marks (B := w.heap.size) [Dm] W hM (fun W'' hT => ⟨_, results_tmp2 rfl _ _ _, ?_, G4.out.trans hT.below⟩)
    rw [HR.out]
    rfl
end Go.Proofs.YtggdcnjaofflbaaGreatDoor

/- A region that draws its order, in which calls wait for one another and all else only looks at cells that are kept: one walk in a given order serves. The conditions are closed facts of the region. -/
namespace Go.Proofs.YtggdcnjaofflbaaGreatDoor

def tookA (s : Nat) (t : List Nat) : Array Bool := ((List.range s).map fun j => t.contains j).toArray
theorem tookA_nil (s : Nat) : tookA s [] = Array.replicate s false := by
  apply Array.ext
  · simp [tookA]
  · intro i h1 h2
    simp [tookA]
theorem tookA_cons (s k : Nat) (t : List Nat) : (tookA s t).setIfInBounds k true = tookA s (k :: t) := by
  apply Array.ext
  · simp [tookA]
  · intro i h1 h2
    rw [Array.getElem_setIfInBounds (by simpa using h1)]
    by_cases h : k = i
    · subst h; simp [tookA]
    · rw [if_neg h]
      simp [tookA]
      exact fun e => absurd e.symm h
theorem tookA_getD (s j : Nat) (t : List Nat) (d : Bool) : (tookA s t).getD j d = if j < s then t.contains j else d := by
  unfold tookA Array.getD
  by_cases h : j < s
  · simp [h]
  · simp [h]

section
variable {P : Program} {ops : Array Oper} {Q : Exit → Act → World → Prop} {md : Region.Mode} {S : World → Prop} {bigs : List Nat}

end
end Go.Proofs.YtggdcnjaofflbaaGreatDoor
