/- Votes: plain functions, what package quorum answers, and what they say of each other. No condition. -/
import Derived.Test.YtggdcnjaofflbaaGreatDoorC03
import Derived.Test.YtggdcnjaofflbaaGreatDoorC05
namespace Go.Proofs.YtggdcnjaofflbaaGreatDoor

structure VoteP where
  car : Int
  num : Int
  stp : Int
  val : ByteArray
  sl : ByteArray
deriving DecidableEq

def grp (fuel : Nat) (z : Nat) : List UInt8 := match fuel with
  | 0 => [UInt8.ofNat z]
  | f + 1 => if z < 128 then [UInt8.ofNat z] else UInt8.ofNat (z % 128 + 128) :: grp f (z / 128)
def putN (n : Int) : List UInt8 := grp 3 (2 * n.toNat)
def voteC (v : VoteP) : ByteArray := ⟨(putN 5 ++ putN v.car ++ putN v.num ++ putN v.stp ++ v.val.data.toList).toArray⟩
def formedV (v : VoteP) : Bool := decide ((0 ≤ v.car ∧ v.car ≤ 7) ∧ (0 ≤ v.num ∧ v.num ≤ 99999999) ∧ (0 ≤ v.stp ∧ v.stp ≤ 1000) ∧ v.val.size = 32 ∧ v.sl.size = 32)
def sealV (key : ByteArray) (v : VoteP) : ByteArray := nodeS key (leafS (voteC v))
def validC (ks : List ByteArray) : Bool := decide (ks.length = 1 ∨ ks.length = 4 ∨ ks.length = 7) && ks.all isDig
def genV (ks : List ByteArray) (v : VoteP) : Bool := formedV v && decide (v.car < ks.length) && decide (v.sl = sealV (ks.getD v.car.toNat ⟨#[]⟩) v)
def genuineV (ks : List ByteArray) (v : VoteP) : Bool := validC ks && genV ks v
def enoughC (ks : List ByteArray) : Nat := 2 * ((ks.length - 1) / 3) + 1
def mkV (ks : List ByteArray) (num stp : Int) (val : ByteArray) (i : Nat) : VoteP :=
  { car := i, num := num, stp := stp, val := val, sl := sealV (ks.getD i ⟨#[]⟩) { car := i, num := num, stp := stp, val := val, sl := ⟨#[]⟩ } }
theorem gen_mk {ks : List ByteArray} {v : VoteP} (h : genV ks v = true) : v = mkV ks v.num v.stp v.val v.car.toNat := by
  unfold genV at h
  rw [Bool.and_eq_true, Bool.and_eq_true] at h
  have hf := of_decide_eq_true (show decide _ = true from h.1.1)
  have hs := of_decide_eq_true h.2
  obtain ⟨c, n, s, val, sl⟩ := v
  simp only at hf hs
  have hc : ((c.toNat : Nat) : Int) = c := by omega
  unfold mkV
  simp only [hc]
  rw [hs]
  rfl
theorem gen_facts {ks : List ByteArray} {v : VoteP} (h : genV ks v = true) : (0 ≤ v.car ∧ v.car ≤ 7) ∧ v.car.toNat < ks.length ∧ (0 ≤ v.num ∧ v.num ≤ 99999999) ∧ (0 ≤ v.stp ∧ v.stp ≤ 1000) ∧ v.val.size = 32 := by
  unfold genV at h
  rw [Bool.and_eq_true, Bool.and_eq_true] at h
  have hf := of_decide_eq_true (show decide _ = true from h.1.1)
  have hc := of_decide_eq_true h.1.2
  exact ⟨hf.1, by omega, hf.2.1, hf.2.2.1, hf.2.2.2.1⟩

/-! ### Who votes for a value in a slot -/
def votesFor (ks : List ByteArray) (num stp : Int) (val : ByteArray) (pool : List VoteP) (i : Nat) : Bool :=
  pool.any fun v => genV ks v && decide (v.num = num ∧ v.stp = stp ∧ v.val = val ∧ v.car = i)
def whoL (ks : List ByteArray) (num stp : Int) (val : ByteArray) (pool : List VoteP) : List Nat := (List.range ks.length).filter (votesFor ks num stp val pool)
def isPool (ks : List ByteArray) (pool : List VoteP) : Bool := validC ks && decide (pool.length ≤ 60)
def proveV (ks : List ByteArray) (num stp : Int) (val : ByteArray) (pool : List VoteP) : Option (List VoteP) :=
  if isPool ks pool = true ∧ enoughC ks ≤ (whoL ks num stp val pool).length then some (((whoL ks num stp val pool).take (enoughC ks)).map (mkV ks num stp val)) else none
def checkV (ks : List ByteArray) (num stp : Int) (val : ByteArray) (proof : List VoteP) : Bool :=
  validC ks && decide (proof.length = enoughC ks) && decide ((proof.map fun v => v.car).Pairwise (· < ·)) && proof.all fun v => decide (v.num = num ∧ v.stp = stp ∧ v.val = val) && genV ks v

theorem who_sorted (ks : List ByteArray) (num stp : Int) (val : ByteArray) (pool : List VoteP) : (whoL ks num stp val pool).Pairwise (· < ·) := List.Pairwise.filter _ List.pairwise_lt_range
theorem who_mem {ks : List ByteArray} {num stp : Int} {val : ByteArray} {pool : List VoteP} {i : Nat} : i ∈ whoL ks num stp val pool ↔ i < ks.length ∧ ∃ v ∈ pool, genV ks v = true ∧ v = mkV ks num stp val i := by
  unfold whoL votesFor
  rw [List.mem_filter, List.mem_range, List.any_eq_true]
  constructor
  · rintro ⟨h1, v, hv, h2⟩
    rw [Bool.and_eq_true] at h2
    obtain ⟨e1, e2, e3, e4⟩ := of_decide_eq_true h2.2
    refine ⟨h1, v, hv, h2.1, ?_⟩
    have := gen_mk h2.1
    rw [e1, e2, e3, e4, Int.toNat_natCast] at this
    exact this
  · rintro ⟨h1, v, hv, h2, h3⟩
    refine ⟨h1, v, hv, ?_⟩
    rw [h2, Bool.true_and]
    rw [h3]
    exact decide_eq_true ⟨rfl, rfl, rfl, rfl⟩
theorem who_mono {ks : List ByteArray} {num stp : Int} {val : ByteArray} {pool more : List VoteP} (h : ∀ v ∈ pool, v ∈ more) {i : Nat} (hi : i ∈ whoL ks num stp val pool) : i ∈ whoL ks num stp val more := by
  rw [who_mem] at *
  obtain ⟨h1, v, hv, h2⟩ := hi
  exact ⟨h1, v, h v hv, h2⟩
theorem who_same {ks : List ByteArray} {num stp : Int} {val : ByteArray} {pool more : List VoteP} (h : ∀ v, v ∈ pool ↔ v ∈ more) : whoL ks num stp val pool = whoL ks num stp val more := by
  unfold whoL
  refine List.filter_congr fun i hi => ?_
  rw [Bool.eq_iff_iff]
  have hl := List.mem_range.1 hi
  have a := who_mem (ks := ks) (num := num) (stp := stp) (val := val) (pool := pool) (i := i)
  have b := who_mem (ks := ks) (num := num) (stp := stp) (val := val) (pool := more) (i := i)
  unfold whoL at a b
  rw [List.mem_filter] at a b
  constructor
  · intro h1
    have h2 := a.1 ⟨hi, h1⟩
    refine (b.2 ?_).2
    obtain ⟨h3, v, hv, h4⟩ := h2
    exact ⟨h3, v, (h v).1 hv, h4⟩
  · intro h1
    have h2 := b.1 ⟨hi, h1⟩
    refine (a.2 ?_).2
    obtain ⟨h3, v, hv, h4⟩ := h2
    exact ⟨h3, v, (h v).2 hv, h4⟩
theorem who_gen {ks : List ByteArray} {num stp : Int} {val : ByteArray} {pool : List VoteP} {i : Nat} (h : i ∈ whoL ks num stp val pool) : genV ks (mkV ks num stp val i) = true := by
  rw [who_mem] at h
  obtain ⟨_, v, _, h2, h3⟩ := h
  rw [← h3]
  exact h2
theorem prove_check {ks : List ByteArray} {num stp : Int} {val : ByteArray} {pool p : List VoteP} (h : proveV ks num stp val pool = some p) : checkV ks num stp val p = true := by
  unfold proveV at h
  split at h
  · rename_i hc
    injection h with h
    subst h
    unfold isPool at hc
    rw [Bool.and_eq_true] at hc
    unfold checkV
    rw [hc.1.1, List.length_map, List.length_take, Nat.min_eq_left hc.2, decide_eq_true rfl, Bool.true_and, Bool.true_and, Bool.and_eq_true]
    refine ⟨decide_eq_true ?_, List.all_eq_true.2 fun v hv => ?_⟩
    · rw [List.map_map]
      have h1 := (who_sorted ks num stp val pool).sublist (List.take_sublist (enoughC ks) _)
      rw [List.pairwise_map]
      exact h1.imp fun hab => by simpa [mkV] using hab
    · obtain ⟨i, hi, rfl⟩ := List.mem_map.1 hv
      rw [who_gen (List.mem_of_mem_take hi), Bool.and_true]
      exact decide_eq_true ⟨rfl, rfl, rfl⟩
  · cases h
end Go.Proofs.YtggdcnjaofflbaaGreatDoor

/- Encodings of votes: no two formed votes have one content; the length of an encoding. No condition. -/
namespace Go.Proofs.YtggdcnjaofflbaaGreatDoor

theorem u8_inj {a b : Nat} (ha : a < 256) (hb : b < 256) (e : UInt8.ofNat a = UInt8.ofNat b) : a = b := by
  have := congrArg UInt8.toNat e
  rw [UInt8.toNat_ofNat', UInt8.toNat_ofNat'] at this
  omega
theorem grp_inj : ∀ (f z y : Nat) (xs ys : List UInt8), z < 128 ^ (f + 1) → y < 128 ^ (f + 1) → grp f z ++ xs = grp f y ++ ys → z = y ∧ xs = ys := by
  intro f
  induction f with
  | zero =>
    intro z y xs ys hz hy e
    simp only [grp, List.cons_append, List.nil_append, List.cons.injEq] at e
    exact ⟨u8_inj (by omega) (by omega) e.1, e.2⟩
  | succ f ih =>
    intro z y xs ys hz hy e
    unfold grp at e
    have hz' : z / 128 < 128 ^ (f + 1) := by
      rw [Nat.div_lt_iff_lt_mul (by omega), ← Nat.pow_succ]
      exact hz
    have hy' : y / 128 < 128 ^ (f + 1) := by
      rw [Nat.div_lt_iff_lt_mul (by omega), ← Nat.pow_succ]
      exact hy
    by_cases h1 : z < 128
    · by_cases h2 : y < 128
      · rw [if_pos h1, if_pos h2] at e
        simp only [List.cons_append, List.nil_append, List.cons.injEq] at e
        exact ⟨u8_inj (by omega) (by omega) e.1, e.2⟩
      · rw [if_pos h1, if_neg h2] at e
        simp only [List.cons_append, List.nil_append, List.cons.injEq] at e
        have := u8_inj (by omega) (by omega) e.1
        omega
    · by_cases h2 : y < 128
      · rw [if_neg h1, if_pos h2] at e
        simp only [List.cons_append, List.nil_append, List.cons.injEq] at e
        have := u8_inj (by omega) (by omega) e.1
        omega
      · rw [if_neg h1, if_neg h2] at e
        simp only [List.cons_append, List.cons.injEq] at e
        have h3 := u8_inj (by omega) (by omega) e.1
        obtain ⟨h4, h5⟩ := ih _ _ _ _ hz' hy' e.2
        exact ⟨by omega, h5⟩
theorem putN_inj {m n : Int} {xs ys : List UInt8} (hm : 0 ≤ m ∧ m ≤ 99999999) (hn : 0 ≤ n ∧ n ≤ 99999999) (e : putN m ++ xs = putN n ++ ys) : m = n ∧ xs = ys := by
  unfold putN at e
  obtain ⟨h1, h2⟩ := grp_inj 3 _ _ _ _ (by omega) (by omega) e
  exact ⟨by omega, h2⟩
theorem formed_facts {v : VoteP} (h : formedV v = true) : (0 ≤ v.car ∧ v.car ≤ 7) ∧ (0 ≤ v.num ∧ v.num ≤ 99999999) ∧ (0 ≤ v.stp ∧ v.stp ≤ 1000) ∧ v.val.size = 32 ∧ v.sl.size = 32 := of_decide_eq_true h
theorem voteC_inj {v u : VoteP} (hv : formedV v = true) (hu : formedV u = true) (e : voteC v = voteC u) : v.car = u.car ∧ v.num = u.num ∧ v.stp = u.stp ∧ v.val = u.val := by
  obtain ⟨a1, a2, a3, _, _⟩ := formed_facts hv
  obtain ⟨b1, b2, b3, _, _⟩ := formed_facts hu
  have e1 : putN 5 ++ putN v.car ++ putN v.num ++ putN v.stp ++ v.val.data.toList = putN 5 ++ putN u.car ++ putN u.num ++ putN u.stp ++ u.val.data.toList := by
    have := congrArg (fun b : ByteArray => b.data.toList) e
    simpa [voteC] using this
  simp only [List.append_assoc] at e1
  obtain ⟨_, e2⟩ := putN_inj (by omega) (by omega) e1
  obtain ⟨c1, e3⟩ := putN_inj (by omega) (by omega) e2
  obtain ⟨c2, e4⟩ := putN_inj (by omega) (by omega) e3
  obtain ⟨c3, e5⟩ := putN_inj (by omega) (by omega) e4
  refine ⟨c1, c2, c3, ?_⟩
  have : v.val.data = u.val.data := Array.ext' e5
  cases hv' : v.val
  cases hu' : u.val
  rw [hv', hu'] at this
  simp only at this
  rw [this]
theorem grp_len (f z : Nat) : 1 ≤ (grp f z).length ∧ (grp f z).length ≤ f + 1 := by
  induction f generalizing z with
  | zero => simp [grp]
  | succ f ih =>
    unfold grp
    split
    · simp
    · have := ih (z / 128)
      simp only [List.length_cons]
      omega
def encV (v : VoteP) : ByteArray := voteC v ++ v.sl
theorem voteC_size (v : VoteP) : (voteC v).size = (putN 5).length + (putN v.car).length + (putN v.num).length + (putN v.stp).length + v.val.size := by
  unfold voteC
  show (List.toArray _).size = _
  simp
  have : v.val.data.size = v.val.size := rfl
  omega
theorem enc_size {v : VoteP} (h : formedV v = true) : 68 ≤ (encV v).size := by
  obtain ⟨_, _, _, h4, h5⟩ := formed_facts h
  unfold encV
  rw [ByteArray.size_append, voteC_size, h4, h5]
  have a := grp_len 3 (2 * (5 : Int).toNat)
  have b := grp_len 3 (2 * v.car.toNat)
  have c := grp_len 3 (2 * v.num.toNat)
  have d := grp_len 3 (2 * v.stp.toNat)
  unfold putN
  omega
end Go.Proofs.YtggdcnjaofflbaaGreatDoor

/- Votes in order: one strictly sorted list holds given votes; the doubles of such a list. No condition. -/
namespace Go.Proofs.YtggdcnjaofflbaaGreatDoor

/-! ### The order -/
def ltV (a b : VoteP) : Prop :=
  a.car < b.car ∨ (a.car = b.car ∧ (a.num < b.num ∨ (a.num = b.num ∧ (a.stp < b.stp ∨ (a.stp = b.stp ∧ (a.val.toList < b.val.toList ∨ (a.val.toList = b.val.toList ∧ a.sl.toList < b.sl.toList)))))))
theorem u8l_irrefl (l : List UInt8) : ¬ l < l := List.lt_irrefl l
theorem u8l_trans {a b c : List UInt8} (h : a < b) (h' : b < c) : a < c := List.lt_trans h h'
theorem u8l_tri (a b : List UInt8) : a < b ∨ a = b ∨ b < a := by
  by_cases h : a < b
  · exact .inl h
  · rcases Decidable.em (b < a) with h' | h'
    · exact .inr (.inr h')
    · exact .inr (.inl (List.le_antisymm (List.not_lt.1 h') (List.not_lt.1 h)))
theorem ltV_irrefl (a : VoteP) : ¬ ltV a a := by
  unfold ltV
  have h1 := u8l_irrefl a.val.toList
  have h2 := u8l_irrefl a.sl.toList
  rintro (h | ⟨_, h | ⟨_, h | ⟨_, h | ⟨_, h⟩⟩⟩⟩)
  · omega
  · omega
  · omega
  · exact h1 h
  · exact h2 h
theorem ltV_trans {a b c : VoteP} (h : ltV a b) (h' : ltV b c) : ltV a c := by
  unfold ltV at *
  rcases h with h | ⟨e1, h⟩
  · rcases h' with h' | ⟨e1', _⟩
    · exact .inl (by omega)
    · exact .inl (by omega)
  rcases h' with h' | ⟨e1', h'⟩
  · exact .inl (by omega)
  refine .inr ⟨by omega, ?_⟩
  rcases h with h | ⟨e2, h⟩
  · rcases h' with h' | ⟨e2', _⟩
    · exact .inl (by omega)
    · exact .inl (by omega)
  rcases h' with h' | ⟨e2', h'⟩
  · exact .inl (by omega)
  refine .inr ⟨by omega, ?_⟩
  rcases h with h | ⟨e3, h⟩
  · rcases h' with h' | ⟨e3', _⟩
    · exact .inl (by omega)
    · exact .inl (by omega)
  rcases h' with h' | ⟨e3', h'⟩
  · exact .inl (by omega)
  refine .inr ⟨by omega, ?_⟩
  rcases h with h | ⟨e4, h⟩
  · rcases h' with h' | ⟨e4', _⟩
    · exact .inl (u8l_trans h h')
    · exact .inl (e4' ▸ h)
  rcases h' with h' | ⟨e4', h'⟩
  · exact .inl (e4 ▸ h')
  exact .inr ⟨e4.trans e4', u8l_trans h h'⟩
theorem bytes_ext {a b : ByteArray} (h : a.toList = b.toList) : a = b := by
  have := same_str a b
  rw [h] at this
  simp at this
  exact this
theorem ltV_tri (a b : VoteP) : ltV a b ∨ a = b ∨ ltV b a := by
  unfold ltV
  rcases Int.lt_trichotomy a.car b.car with h | h1 | h
  · exact .inl (.inl h)
  · rcases Int.lt_trichotomy a.num b.num with h | h2 | h
    · exact .inl (.inr ⟨h1, .inl h⟩)
    · rcases Int.lt_trichotomy a.stp b.stp with h | h3 | h
      · exact .inl (.inr ⟨h1, .inr ⟨h2, .inl h⟩⟩)
      · rcases u8l_tri a.val.toList b.val.toList with h | h4 | h
        · exact .inl (.inr ⟨h1, .inr ⟨h2, .inr ⟨h3, .inl h⟩⟩⟩)
        · rcases u8l_tri a.sl.toList b.sl.toList with h | h5 | h
          · exact .inl (.inr ⟨h1, .inr ⟨h2, .inr ⟨h3, .inr ⟨h4, h⟩⟩⟩⟩)
          · refine .inr (.inl ?_)
            obtain ⟨c, n, s, v, l⟩ := a
            obtain ⟨c', n', s', v', l'⟩ := b
            simp only at h1 h2 h3 h4 h5
            rw [h1, h2, h3, bytes_ext h4, bytes_ext h5]
          · exact .inr (.inr (.inr ⟨h1.symm, .inr ⟨h2.symm, .inr ⟨h3.symm, .inr ⟨h4.symm, h⟩⟩⟩⟩))
        · exact .inr (.inr (.inr ⟨h1.symm, .inr ⟨h2.symm, .inr ⟨h3.symm, .inl h⟩⟩⟩))
      · exact .inr (.inr (.inr ⟨h1.symm, .inr ⟨h2.symm, .inl h⟩⟩))
    · exact .inr (.inr (.inr ⟨h1.symm, .inl h⟩))
  · exact .inr (.inr (.inl h))
theorem sorted_one : ∀ {L M : List VoteP}, L.Pairwise ltV → M.Pairwise ltV → (∀ v, v ∈ L ↔ v ∈ M) → L = M := by
  intro L
  induction L with
  | nil =>
    intro M _ _ h
    cases M with
    | nil => rfl
    | cons b M => exact absurd ((h b).2 (List.mem_cons_self ..)) List.not_mem_nil
  | cons a L ih =>
    intro M hL hM h
    cases M with
    | nil => exact absurd ((h a).1 (List.mem_cons_self ..)) List.not_mem_nil
    | cons b M =>
      obtain ⟨l1, l2⟩ := List.pairwise_cons.1 hL
      obtain ⟨m1, m2⟩ := List.pairwise_cons.1 hM
      have hab : a = b := by
        rcases List.mem_cons.1 ((h a).1 (List.mem_cons_self ..)) with e | e
        · exact e
        · rcases List.mem_cons.1 ((h b).2 (List.mem_cons_self ..)) with e' | e'
          · exact e'.symm
          · exact absurd (ltV_trans (l1 b e') (m1 a e)) (ltV_irrefl a)
      subst hab
      congr 1
      refine ih l2 m2 fun v => ⟨fun hv => ?_, fun hv => ?_⟩
      · rcases List.mem_cons.1 ((h v).1 (List.mem_cons_of_mem _ hv)) with e | e
        · subst e; exact absurd (l1 v hv) (ltV_irrefl v)
        · exact e
      · rcases List.mem_cons.1 ((h v).2 (List.mem_cons_of_mem _ hv)) with e | e
        · subst e; exact absurd (m1 v hv) (ltV_irrefl v)
        · exact e

/-! ### Doubles -/
def oneV (a b : VoteP) : Bool := decide (a.car = b.car ∧ a.num = b.num ∧ a.stp = b.stp)
def dblL : Option VoteP → List VoteP → List (VoteP × VoteP)
  | _, [] => []
  | _, [_] => []
  | p, a :: b :: l => (if oneV a b = true ∧ (∀ q, p = some q → oneV q b = false) then [(a, b)] else []) ++ dblL (some a) (b :: l)
theorem dbl_mem : ∀ {L : List VoteP} {p : Option VoteP} {d : VoteP × VoteP}, L.Pairwise ltV → d ∈ dblL p L → d.1 ∈ L ∧ d.2 ∈ L ∧ oneV d.1 d.2 = true ∧ ltV d.1 d.2 := by
  intro L
  induction L with
  | nil => intro p d _ h; cases h
  | cons a L ih =>
    intro p d hL h
    cases L with
    | nil => cases h
    | cons b l =>
      obtain ⟨h1, h2⟩ := List.pairwise_cons.1 hL
      rw [dblL] at h
      rcases List.mem_append.1 h with h | h
      · split at h
        · rename_i hc
          rw [List.mem_singleton] at h
          subst h
          exact ⟨List.mem_cons_self .., List.mem_cons_of_mem _ (List.mem_cons_self ..), hc.1, h1 b (List.mem_cons_self ..)⟩
        · cases h
      · obtain ⟨q1, q2, q3, q4⟩ := ih h2 h
        exact ⟨List.mem_cons_of_mem _ q1, List.mem_cons_of_mem _ q2, q3, q4⟩
theorem one_car {a b : VoteP} (h : oneV a b = true) : a.car = b.car ∧ a.num = b.num ∧ a.stp = b.stp := of_decide_eq_true h
theorem one_trans {a b c : VoteP} (h : oneV a b = true) (h' : oneV b c = true) : oneV a c = true := by
  obtain ⟨a1, a2, a3⟩ := one_car h
  obtain ⟨b1, b2, b3⟩ := one_car h'
  exact decide_eq_true ⟨a1.trans b1, a2.trans b2, a3.trans b3⟩
theorem one_symm {a b : VoteP} (h : oneV a b = true) : oneV b a = true := by
  obtain ⟨a1, a2, a3⟩ := one_car h
  exact decide_eq_true ⟨a1.symm, a2.symm, a3.symm⟩
theorem one_between {a b c : VoteP} (h1 : ltV a b) (h2 : ltV b c) (h : oneV a c = true) : oneV a b = true := by
  obtain ⟨e1, e2, e3⟩ := one_car h
  unfold ltV at h1 h2
  refine decide_eq_true ?_
  refine ⟨?_, ?_, ?_⟩
  · rcases h1 with h1 | ⟨h1, _⟩ <;> rcases h2 with h2 | ⟨h2, _⟩ <;> omega
  · rcases h1 with h1 | ⟨g1, h1⟩ <;> rcases h2 with h2 | ⟨g2, h2⟩
    · omega
    · omega
    · omega
    · rcases h1 with h1 | ⟨h1, _⟩ <;> rcases h2 with h2 | ⟨h2, _⟩ <;> omega
  · rcases h1 with h1 | ⟨g1, h1⟩ <;> rcases h2 with h2 | ⟨g2, h2⟩
    · omega
    · omega
    · omega
    · rcases h1 with h1 | ⟨k1, h1⟩ <;> rcases h2 with h2 | ⟨k2, h2⟩
      · omega
      · omega
      · omega
      · rcases h1 with h1 | ⟨h1, _⟩ <;> rcases h2 with h2 | ⟨h2, _⟩ <;> omega
theorem dbl_has : ∀ {L : List VoteP} {p : Option VoteP} {u v : VoteP}, L.Pairwise ltV → (∀ q, p = some q → ∀ x ∈ L, ltV q x) → u ∈ L → v ∈ L → ltV u v → oneV u v = true → (∀ q, p = some q → oneV q u = false) → ∃ d ∈ dblL p L, oneV d.1 u = true := by
  intro L
  induction L with
  | nil => intro p u v _ _ hu; exact absurd hu List.not_mem_nil
  | cons a L ih =>
    intro p u v hL hp hu hv hlt hone hq
    obtain ⟨h1, h2⟩ := List.pairwise_cons.1 hL
    cases L with
    | nil =>
      rw [List.mem_singleton] at hu hv
      subst hu hv
      exact absurd hlt (ltV_irrefl _)
    | cons b l =>
      rw [dblL]
      by_cases hau : oneV a u = true
      · -- a is of the group: its next one is, too
        have hab : oneV a b = true := by
          rcases List.mem_cons.1 hv with e | hv
          · subst e
            rcases List.mem_cons.1 hu with e | hu
            · subst e; exact absurd hlt (ltV_irrefl _)
            · exact absurd (ltV_trans hlt (h1 u hu)) (ltV_irrefl _)
          · rcases List.mem_cons.1 hv with e | hv'
            · subst e
              exact one_trans hau hone
            · exact one_between (h1 b (List.mem_cons_self ..)) ((List.pairwise_cons.1 h2).1 v hv') (one_trans hau hone)
        refine ⟨(a, b), List.mem_append.2 (.inl ?_), hau⟩
        have hcnd : oneV a b = true ∧ ∀ q, p = some q → oneV q b = false := by
          refine ⟨hab, fun q hq' => ?_⟩
          have h3 := hq q hq'
          cases h4 : oneV q b with
          | false => rfl
          | true =>
            have := one_trans h4 (one_trans (one_symm hab) hau)
            rw [h3] at this
            cases this
        rw [if_pos hcnd]
        exact List.mem_singleton.2 rfl
      · have hu' : u ∈ b :: l := by
          rcases List.mem_cons.1 hu with e | e
          · subst e; exact absurd (decide_eq_true ⟨rfl, rfl, rfl⟩) hau
          · exact e
        have hv' : v ∈ b :: l := by
          rcases List.mem_cons.1 hv with e | e
          · subst e; exact absurd (ltV_trans hlt (h1 u hu')) (ltV_irrefl _)
          · exact e
        obtain ⟨d, hd, hd1⟩ := ih (p := some a) h2 (fun q hq x hx => by injection hq with hq; subst hq; exact h1 x hx) hu' hv' hlt hone (fun q hq => by injection hq with hq; subst hq; simpa using hau)
        exact ⟨d, List.mem_append.2 (.inr hd), hd1⟩
end Go.Proofs.YtggdcnjaofflbaaGreatDoor

/- Counting carriers: two quorums have f + 1 carriers in common; what is not of a quorum is no quorum. No condition. -/
namespace Go.Proofs.YtggdcnjaofflbaaGreatDoor

theorem nodup_le : ∀ {xs ys : List Nat}, xs.Nodup → (∀ x ∈ xs, x ∈ ys) → xs.length ≤ ys.length := by
  intro xs
  induction xs with
  | nil => intro ys _ _; exact Nat.zero_le _
  | cons a xs ih =>
    intro ys h hs
    obtain ⟨h1, h2⟩ := List.nodup_cons.1 h
    have ha := hs a (List.mem_cons_self ..)
    have h3 := ih (ys := ys.erase a) h2 (fun x hx => by
      have hne : x ≠ a := fun e => h1 (e ▸ hx)
      exact (List.mem_erase_of_ne hne).2 (hs x (List.mem_cons_of_mem _ hx)))
    rw [List.length_erase_of_mem ha] at h3
    have : 0 < ys.length := List.length_pos_of_mem ha
    simp only [List.length_cons]
    omega
theorem range_le {xs : List Nat} {n : Nat} (h : xs.Nodup) (hs : ∀ x ∈ xs, x < n) : xs.length ≤ n := by
  have := nodup_le (ys := List.range n) h (fun x hx => List.mem_range.2 (hs x hx))
  rwa [List.length_range] at this
theorem filter_parts (p : Nat → Bool) : ∀ xs : List Nat, (xs.filter p).length + (xs.filter fun x => !p x).length = xs.length := by
  intro xs
  induction xs with
  | nil => rfl
  | cons a xs ih =>
    cases h : p a with
    | true =>
      rw [List.filter_cons_of_pos h, List.filter_cons_of_neg (by simp [h])]
      simp only [List.length_cons]
      omega
    | false =>
      rw [List.filter_cons_of_neg (by simp [h]), List.filter_cons_of_pos (by simp [h])]
      simp only [List.length_cons]
      omega
theorem common_ge {A B : List Nat} {n : Nat} (hA : A.Nodup) (hB : B.Nodup) (ha : ∀ x ∈ A, x < n) (hb : ∀ x ∈ B, x < n) : A.length + B.length ≤ n + (A.filter fun x => B.contains x).length := by
  have h1 := filter_parts (fun x => B.contains x) A
  have h2 : ((A.filter fun x => !B.contains x) ++ B).length ≤ n := by
    refine range_le ?_ (fun x hx => ?_)
    · rw [List.nodup_append]
      refine ⟨hA.filter _, hB, fun a h a' h' e => ?_⟩
      subst e
      rw [List.mem_filter] at h
      have := h.2
      rw [List.contains_iff_mem.2 h'] at this
      simp at this
    · rcases List.mem_append.1 hx with hx | hx
      · exact ha x (List.mem_filter.1 hx).1
      · exact hb x hx
  rw [List.length_append] at h2
  omega
theorem apart_le {A B : List Nat} {n : Nat} (hA : A.Nodup) (hB : B.Nodup) (ha : ∀ x ∈ A, x < n) (hb : ∀ x ∈ B, x < n) (hd : ∀ x ∈ A, x ∉ B) : A.length + B.length ≤ n := by
  have h := common_ge hA hB ha hb
  have : (A.filter fun x => B.contains x) = [] := by
    rw [List.filter_eq_nil_iff]
    intro x hx hc
    exact hd x hx (List.contains_iff_mem.1 hc)
  rw [this] at h
  simpa using h
theorem valid_len {ks : List ByteArray} (h : validC ks = true) : ks.length = 1 ∨ ks.length = 4 ∨ ks.length = 7 := by
  unfold validC at h
  rw [Bool.and_eq_true] at h
  exact of_decide_eq_true h.1
theorem enough_len {ks : List ByteArray} (h : validC ks = true) : 2 * enoughC ks = ks.length + 1 + (ks.length - 1) / 3 ∧ enoughC ks ≤ ks.length := by
  unfold enoughC
  rcases valid_len h with e | e | e <;> rw [e] <;> decide
theorem who_nodup (ks : List ByteArray) (num stp : Int) (val : ByteArray) (pool : List VoteP) : (whoL ks num stp val pool).Nodup := by
  have h := who_sorted ks num stp val pool
  exact h.imp fun hab => by omega
theorem who_lt {ks : List ByteArray} {num stp : Int} {val : ByteArray} {pool : List VoteP} {i : Nat} (h : i ∈ whoL ks num stp val pool) : i < ks.length := (who_mem.1 h).1
theorem two_proved {ks : List ByteArray} {num stp : Int} {a b : ByteArray} {pool : List VoteP} (hv : validC ks = true) (ha : enoughC ks ≤ (whoL ks num stp a pool).length) (hb : enoughC ks ≤ (whoL ks num stp b pool).length) :
    (ks.length - 1) / 3 + 1 ≤ (((whoL ks num stp a pool).take (enoughC ks)).filter fun x => ((whoL ks num stp b pool).take (enoughC ks)).contains x).length := by
  have h := common_ge (A := (whoL ks num stp a pool).take (enoughC ks)) (B := (whoL ks num stp b pool).take (enoughC ks)) (n := ks.length) ((who_nodup ..).sublist (List.take_sublist ..)) ((who_nodup ..).sublist (List.take_sublist ..)) (fun x hx => who_lt (List.mem_of_mem_take hx)) (fun x hx => who_lt (List.mem_of_mem_take hx))
  rw [List.length_take, List.length_take, Nat.min_eq_left ha, Nat.min_eq_left hb] at h
  have := (enough_len hv).1
  omega
theorem other_less {ks : List ByteArray} {num stp : Int} {u : ByteArray} {pool : List VoteP} (hv : validC ks = true) {H : List Nat} (hn : H.Nodup) (hl : ∀ i ∈ H, i < ks.length) (hq : enoughC ks ≤ H.length) (hd : ∀ i ∈ H, i ∉ whoL ks num stp u pool) : (whoL ks num stp u pool).length < enoughC ks := by
  have h := apart_le (A := H) (B := whoL ks num stp u pool) (n := ks.length) hn (who_nodup ..) hl (fun x hx => who_lt hx) hd
  have := (enough_len hv).1
  omega
end Go.Proofs.YtggdcnjaofflbaaGreatDoor

/- Sorted lists of votes and of values, by insertion; tallies, what is decided. No condition. -/
namespace Go.Proofs.YtggdcnjaofflbaaGreatDoor

instance (a b : VoteP) : Decidable (ltV a b) := by unfold ltV; infer_instance

/-! ### Votes -/
def insV (x : VoteP) : List VoteP → List VoteP
  | [] => [x]
  | a :: l => if ltV a x then a :: insV x l else if a = x then a :: l else x :: a :: l
theorem insV_mem (x : VoteP) : ∀ (L : List VoteP) (v : VoteP), v ∈ insV x L ↔ v = x ∨ v ∈ L := by
  intro L
  induction L with
  | nil => intro v; simp [insV]
  | cons a l ih =>
    intro v
    unfold insV
    split
    · rw [List.mem_cons, ih, List.mem_cons]
      constructor
      · rintro (h | h | h)
        · exact .inr (.inl h)
        · exact .inl h
        · exact .inr (.inr h)
      · rintro (h | h | h)
        · exact .inr (.inl h)
        · exact .inl h
        · exact .inr (.inr h)
    · split
      · rename_i e
        subst e
        rw [List.mem_cons]
        constructor
        · exact .inr
        · rintro (h | h)
          · exact .inl h
          · exact h
      · rw [List.mem_cons]
theorem insV_sorted (x : VoteP) : ∀ (L : List VoteP), L.Pairwise ltV → (insV x L).Pairwise ltV := by
  intro L
  induction L with
  | nil => intro _; exact List.pairwise_singleton ..
  | cons a l ih =>
    intro h
    obtain ⟨h1, h2⟩ := List.pairwise_cons.1 h
    unfold insV
    split
    · rename_i hlt
      refine List.pairwise_cons.2 ⟨fun b hb => ?_, ih h2⟩
      rcases (insV_mem x l b).1 hb with e | e
      · subst e; exact hlt
      · exact h1 b e
    · split
      · exact h
      · rename_i hn he
        have hxa : ltV x a := by
          rcases ltV_tri a x with g | g | g
          · exact absurd g hn
          · exact absurd g he
          · exact g
        refine List.pairwise_cons.2 ⟨fun b hb => ?_, h⟩
        rcases List.mem_cons.1 hb with e | e
        · subst e; exact hxa
        · exact ltV_trans hxa (h1 b e)
def insVs (L : List VoteP) : List VoteP → List VoteP
  | [] => L
  | x :: xs => insVs (insV x L) xs
theorem insVs_mem : ∀ (xs L : List VoteP) (v : VoteP), v ∈ insVs L xs ↔ v ∈ xs ∨ v ∈ L := by
  intro xs
  induction xs with
  | nil => intro L v; simp [insVs]
  | cons x xs ih =>
    intro L v
    rw [insVs, ih, insV_mem, List.mem_cons]
    constructor
    · rintro (h | h | h)
      · exact .inl (.inr h)
      · exact .inl (.inl h)
      · exact .inr h
    · rintro ((h | h) | h)
      · exact .inr (.inl h)
      · exact .inl h
      · exact .inr (.inr h)
theorem insVs_sorted : ∀ (xs L : List VoteP), L.Pairwise ltV → (insVs L xs).Pairwise ltV := by
  intro xs
  induction xs with
  | nil => intro L h; exact h
  | cons x xs ih => intro L h; exact ih _ (insV_sorted x L h)
def sortedV (ks : List ByteArray) (l : List VoteP) : List VoteP := insVs [] (l.filter (genV ks))
theorem sortedV_ok (ks : List ByteArray) (l : List VoteP) : (sortedV ks l).Pairwise ltV := insVs_sorted _ _ List.Pairwise.nil
theorem sortedV_mem {ks : List ByteArray} {l : List VoteP} {v : VoteP} : v ∈ sortedV ks l ↔ v ∈ l ∧ genV ks v = true := by
  unfold sortedV
  rw [insVs_mem, List.mem_filter]
  simp
theorem sortedV_is {ks : List ByteArray} {l L : List VoteP} (h : L.Pairwise ltV) (hm : ∀ v, v ∈ L ↔ v ∈ l ∧ genV ks v = true) : L = sortedV ks l :=
  sorted_one h (sortedV_ok ks l) fun v => by rw [hm, sortedV_mem]
theorem sortedV_same {ks : List ByteArray} {l m : List VoteP} (h : ∀ v, v ∈ l ↔ v ∈ m) : sortedV ks l = sortedV ks m :=
  sortedV_is (sortedV_ok ks l) fun v => by rw [sortedV_mem, h]
def doublesV (ks : List ByteArray) (pool : List VoteP) : List (VoteP × VoteP) := if isPool ks pool = true then dblL none (sortedV ks pool) else []
theorem doubles_gen {ks : List ByteArray} {pool : List VoteP} {d : VoteP × VoteP} (h : d ∈ doublesV ks pool) : (d.1 ∈ pool ∧ genV ks d.1 = true) ∧ (d.2 ∈ pool ∧ genV ks d.2 = true) ∧ oneV d.1 d.2 = true ∧ d.1.val.toList < d.2.val.toList := by
  unfold doublesV at h
  split at h
  · obtain ⟨h1, h2, h3, h4⟩ := dbl_mem (sortedV_ok ks pool) h
    rw [sortedV_mem] at h1 h2
    refine ⟨h1, h2, h3, ?_⟩
    obtain ⟨e1, e2, e3⟩ := one_car h3
    unfold ltV at h4
    rcases h4 with g | ⟨_, g | ⟨_, g | ⟨_, g | ⟨g, g'⟩⟩⟩⟩
    · omega
    · omega
    · omega
    · exact g
    · exfalso
      have a := gen_mk h1.2
      have b := gen_mk h2.2
      have hv := bytes_ext g
      rw [← e1, ← e2, ← e3, ← hv] at b
      have : d.1 = d.2 := a.trans b.symm
      rw [this] at g'
      exact u8l_irrefl _ g'
  · cases h
theorem doubles_has {ks : List ByteArray} {pool : List VoteP} (hp : isPool ks pool = true) {u v : VoteP} (hu : u ∈ pool) (gu : genV ks u = true) (hv : v ∈ pool) (gv : genV ks v = true) (hne : u ≠ v) (h1 : oneV u v = true) : ∃ d ∈ doublesV ks pool, oneV d.1 u = true := by
  unfold doublesV
  rw [if_pos hp]
  have mu : u ∈ sortedV ks pool := sortedV_mem.2 ⟨hu, gu⟩
  have mv : v ∈ sortedV ks pool := sortedV_mem.2 ⟨hv, gv⟩
  rcases ltV_tri u v with h | h | h
  · exact dbl_has (sortedV_ok ks pool) (fun q e => by cases e) mu mv h h1 (fun q e => by cases e)
  · exact absurd h hne
  · obtain ⟨d, hd, e⟩ := dbl_has (p := none) (sortedV_ok ks pool) (fun q e => by cases e) mv mu h (one_symm h1) (fun q e => by cases e)
    exact ⟨d, hd, one_trans e (one_symm h1)⟩
theorem doubles_same {ks : List ByteArray} {pool more : List VoteP} (h : ∀ v, v ∈ pool ↔ v ∈ more) (hl : isPool ks pool = isPool ks more) : doublesV ks pool = doublesV ks more := by
  unfold doublesV
  rw [hl, sortedV_same h]

/-! ### Values -/
def insB (x : ByteArray) : List ByteArray → List ByteArray
  | [] => [x]
  | a :: l => if a.toList < x.toList then a :: insB x l else if a = x then a :: l else x :: a :: l
def SortB (L : List ByteArray) : Prop := L.Pairwise fun a b => a.toList < b.toList
theorem insB_mem (x : ByteArray) : ∀ (L : List ByteArray) (v : ByteArray), v ∈ insB x L ↔ v = x ∨ v ∈ L := by
  intro L
  induction L with
  | nil => intro v; simp [insB]
  | cons a l ih =>
    intro v
    unfold insB
    split
    · rw [List.mem_cons, ih, List.mem_cons]
      constructor
      · rintro (h | h | h)
        · exact .inr (.inl h)
        · exact .inl h
        · exact .inr (.inr h)
      · rintro (h | h | h)
        · exact .inr (.inl h)
        · exact .inl h
        · exact .inr (.inr h)
    · split
      · rename_i e
        subst e
        rw [List.mem_cons]
        constructor
        · exact .inr
        · rintro (h | h)
          · exact .inl h
          · exact h
      · rw [List.mem_cons]
theorem insB_sorted (x : ByteArray) : ∀ (L : List ByteArray), SortB L → SortB (insB x L) := by
  intro L
  induction L with
  | nil => intro _; exact List.pairwise_singleton ..
  | cons a l ih =>
    intro h
    obtain ⟨h1, h2⟩ := List.pairwise_cons.1 h
    unfold insB
    split
    · rename_i hlt
      refine List.pairwise_cons.2 ⟨fun b hb => ?_, ih h2⟩
      rcases (insB_mem x l b).1 hb with e | e
      · subst e; exact hlt
      · exact h1 b e
    · split
      · exact h
      · rename_i hn he
        have hxa : x.toList < a.toList := by
          rcases u8l_tri a.toList x.toList with g | g | g
          · exact absurd g hn
          · exact absurd (bytes_ext g) he
          · exact g
        refine List.pairwise_cons.2 ⟨fun b hb => ?_, h⟩
        rcases List.mem_cons.1 hb with e | e
        · subst e; exact hxa
        · exact u8l_trans hxa (h1 b e)
theorem sortB_one : ∀ {L M : List ByteArray}, SortB L → SortB M → (∀ v, v ∈ L ↔ v ∈ M) → L = M := by
  intro L
  induction L with
  | nil =>
    intro M _ _ h
    cases M with
    | nil => rfl
    | cons b M => exact absurd ((h b).2 (List.mem_cons_self ..)) List.not_mem_nil
  | cons a L ih =>
    intro M hL hM h
    cases M with
    | nil => exact absurd ((h a).1 (List.mem_cons_self ..)) List.not_mem_nil
    | cons b M =>
      obtain ⟨l1, l2⟩ := List.pairwise_cons.1 hL
      obtain ⟨m1, m2⟩ := List.pairwise_cons.1 hM
      have hab : a = b := by
        rcases List.mem_cons.1 ((h a).1 (List.mem_cons_self ..)) with e | e
        · exact e
        · rcases List.mem_cons.1 ((h b).2 (List.mem_cons_self ..)) with e' | e'
          · exact e'.symm
          · exact absurd (u8l_trans (l1 b e') (m1 a e)) (u8l_irrefl _)
      subst hab
      congr 1
      refine ih l2 m2 fun v => ⟨fun hv => ?_, fun hv => ?_⟩
      · rcases List.mem_cons.1 ((h v).1 (List.mem_cons_of_mem _ hv)) with e | e
        · subst e; exact absurd (l1 v hv) (u8l_irrefl _)
        · exact e
      · rcases List.mem_cons.1 ((h v).2 (List.mem_cons_of_mem _ hv)) with e | e
        · subst e; exact absurd (m1 v hv) (u8l_irrefl _)
        · exact e
def insBs (L : List ByteArray) : List ByteArray → List ByteArray
  | [] => L
  | x :: xs => insBs (insB x L) xs
theorem insBs_mem : ∀ (xs L : List ByteArray) (v : ByteArray), v ∈ insBs L xs ↔ v ∈ xs ∨ v ∈ L := by
  intro xs
  induction xs with
  | nil => intro L v; simp [insBs]
  | cons x xs ih =>
    intro L v
    rw [insBs, ih, insB_mem, List.mem_cons]
    constructor
    · rintro (h | h | h)
      · exact .inl (.inr h)
      · exact .inl (.inl h)
      · exact .inr h
    · rintro ((h | h) | h)
      · exact .inr (.inl h)
      · exact .inl h
      · exact .inr (.inr h)
theorem insBs_sorted : ∀ (xs L : List ByteArray), SortB L → SortB (insBs L xs) := by
  intro xs
  induction xs with
  | nil => intro L h; exact h
  | cons x xs ih => intro L h; exact ih _ (insB_sorted x L h)
def inSlot (ks : List ByteArray) (num stp : Int) (v : VoteP) : Bool := genV ks v && decide (v.num = num ∧ v.stp = stp)
def valsV (ks : List ByteArray) (num stp : Int) (pool : List VoteP) : List ByteArray := insBs [] ((pool.filter (inSlot ks num stp)).map fun v => v.val)
theorem valsV_ok (ks : List ByteArray) (num stp : Int) (pool : List VoteP) : SortB (valsV ks num stp pool) := insBs_sorted _ _ List.Pairwise.nil
theorem valsV_mem {ks : List ByteArray} {num stp : Int} {pool : List VoteP} {u : ByteArray} : u ∈ valsV ks num stp pool ↔ ∃ i, i ∈ whoL ks num stp u pool := by
  unfold valsV
  rw [insBs_mem, List.mem_map]
  constructor
  · rintro (⟨v, hv, e⟩ | h)
    · rw [List.mem_filter] at hv
      obtain ⟨h1, h2⟩ := hv
      unfold inSlot at h2
      rw [Bool.and_eq_true] at h2
      obtain ⟨e1, e2⟩ := of_decide_eq_true h2.2
      have hg := gen_facts h2.1
      refine ⟨v.car.toNat, who_mem.2 ⟨hg.2.1, v, h1, h2.1, ?_⟩⟩
      have := gen_mk h2.1
      rw [e1, e2, e] at this
      exact this
    · exact absurd h List.not_mem_nil
  · rintro ⟨i, hi⟩
    obtain ⟨h1, v, hv, hg, e⟩ := who_mem.1 hi
    refine .inl ⟨v, List.mem_filter.2 ⟨hv, ?_⟩, by rw [e]; rfl⟩
    unfold inSlot
    rw [hg, Bool.true_and, e]
    exact decide_eq_true ⟨rfl, rfl⟩
def tallyV (ks : List ByteArray) (num stp : Int) (pool : List VoteP) : List (ByteArray × Nat) := if isPool ks pool = true then (valsV ks num stp pool).map fun u => (u, (whoL ks num stp u pool).length) else []
def decidedV (ks : List ByteArray) (num stp : Int) (pool : List VoteP) : Option ByteArray := ((tallyV ks num stp pool).find? fun t => decide (enoughC ks ≤ t.2)).map (·.1)
theorem vals_same {ks : List ByteArray} {num stp : Int} {pool more : List VoteP} (h : ∀ v, v ∈ pool ↔ v ∈ more) : valsV ks num stp pool = valsV ks num stp more :=
  sortB_one (valsV_ok ..) (valsV_ok ..) fun u => by rw [valsV_mem, valsV_mem, who_same h]
theorem tally_same {ks : List ByteArray} {num stp : Int} {pool more : List VoteP} (h : ∀ v, v ∈ pool ↔ v ∈ more) (hl : isPool ks pool = isPool ks more) : tallyV ks num stp pool = tallyV ks num stp more := by
  unfold tallyV
  rw [hl, vals_same h]
  congr 2
  funext u
  rw [who_same h]
theorem decided_is {ks : List ByteArray} {num stp : Int} {pool : List VoteP} {u : ByteArray} (hp : isPool ks pool = true) (hu : enoughC ks ≤ (whoL ks num stp u pool).length) (h0 : 0 < enoughC ks) (ho : ∀ t, t ≠ u → (whoL ks num stp t pool).length < enoughC ks) : decidedV ks num stp pool = some u := by
  unfold decidedV tallyV
  rw [if_pos hp]
  have hm : u ∈ valsV ks num stp pool := by
    rw [valsV_mem]
    cases hw : whoL ks num stp u pool with
    | nil => rw [hw] at hu; simp at hu; omega
    | cons i l => exact ⟨i, List.mem_cons_self ..⟩
  generalize valsV ks num stp pool = L at hm
  induction L with
  | nil => exact absurd hm List.not_mem_nil
  | cons t L ih =>
    rw [List.map_cons]
    by_cases e : t = u
    · subst e
      rw [List.find?_cons_of_pos (by simpa using hu)]
      rfl
    · rw [List.find?_cons_of_neg (by simpa using ho t e)]
      refine ih ?_
      rcases List.mem_cons.1 hm with h | h
      · exact absurd h.symm e
      · exact h
end Go.Proofs.YtggdcnjaofflbaaGreatDoor

/- Blame, Convicts, Cast, plain; the laws of quorums. No condition. -/
namespace Go.Proofs.YtggdcnjaofflbaaGreatDoor

def convictsV (ks : List ByteArray) (d : VoteP × VoteP) : Bool := oneV d.1 d.2 && decide (d.1.val.toList < d.2.val.toList) && genuineV ks d.1 && genuineV ks d.2
def blameL (a b : List VoteP) : List (VoteP × VoteP) := a.filterMap fun v => (b.find? fun w => decide (w.car = v.car)).map fun w => (v, w)
def blameV (ks : List ByteArray) (a b : List VoteP) : Option (List (VoteP × VoteP)) :=
  match a, b with
  | v :: _, w :: _ =>
    if (v.num = w.num ∧ v.stp = w.stp) ∧ v.val ≠ w.val ∧ checkV ks v.num v.stp v.val a = true ∧ checkV ks w.num w.stp w.val b = true then
      some (if w.val.toList < v.val.toList then blameL b a else blameL a b) else none
  | _, _ => none
def castOk (key : ByteArray) (car num stp : Int) (val : ByteArray) (hist : List VoteP) : Bool :=
  formedV ⟨car, num, stp, val, key⟩ && !hist.any fun w => decide ((w.car = car ∧ w.num = num ∧ w.stp = stp) ∧ w.val ≠ val)
def castV (key : ByteArray) (car num stp : Int) (val : ByteArray) (hist : List VoteP) : Option VoteP :=
  if castOk key car num stp val hist = true then some ⟨car, num, stp, val, sealV key ⟨car, num, stp, val, key⟩⟩ else none

theorem mk_car (ks : List ByteArray) (num stp : Int) (val : ByteArray) (i : Nat) : (mkV ks num stp val i).car = i := rfl
theorem blame_mk (ks : List ByteArray) (num stp : Int) (u t : ByteArray) (A B : List Nat) :
    blameL (A.map (mkV ks num stp u)) (B.map (mkV ks num stp t)) = (A.filter fun i => B.contains i).map fun i => (mkV ks num stp u i, mkV ks num stp t i) := by
  unfold blameL
  have key : ∀ i : Nat, (B.map (mkV ks num stp t)).find? (fun w => decide (w.car = (mkV ks num stp u i).car)) = if B.contains i = true then some (mkV ks num stp t i) else none := by
    intro i
    induction B with
    | nil => rfl
    | cons j B ih =>
      rw [List.map_cons]
      by_cases e : j = i
      · subst e
        rw [List.find?_cons_of_pos (by rw [mk_car, mk_car]; exact decide_eq_true rfl)]
        simp
      · rw [List.find?_cons_of_neg (by rw [mk_car, mk_car]; simp; omega), ih]
        have e' : ¬ i = j := fun h => e h.symm
        simp [e']
  induction A with
  | nil => rfl
  | cons i A ih =>
    rw [List.map_cons]
    cases h : B.contains i with
    | true =>
      rw [List.filterMap_cons_some (b := (mkV ks num stp u i, mkV ks num stp t i)) (by rw [key, h]; rfl), ih, List.filter_cons_of_pos (by simpa using h)]
      rfl
    | false =>
      rw [List.filterMap_cons_none (by rw [key, h]; rfl), ih, List.filter_cons_of_neg (by simp at h; simpa using h)]
theorem one_law {ks : List ByteArray} {num stp : Int} {u t : ByteArray} {pool p q : List VoteP} (hp : proveV ks num stp u pool = some p) (hq : proveV ks num stp t pool = some q) (hne : u ≠ t) :
    ∃ d : List Nat, d.Pairwise (· < ·) ∧ (ks.length - 1) / 3 + 1 ≤ d.length ∧ (∀ i ∈ d, i ∈ whoL ks num stp u pool ∧ i ∈ whoL ks num stp t pool) ∧
      blameV ks p q = some (d.map fun i => if t.toList < u.toList then (mkV ks num stp t i, mkV ks num stp u i) else (mkV ks num stp u i, mkV ks num stp t i)) := by
  have cp := prove_check hp
  have cq := prove_check hq
  unfold proveV at hp hq
  split at hp
  · rename_i h1
    split at hq
    · rename_i h2
      injection hp with hp
      injection hq with hq
      have hv : validC ks = true := by
        have := h1.1
        unfold isPool at this
        rw [Bool.and_eq_true] at this
        exact this.1
      have h0 : 0 < enoughC ks := by unfold enoughC; omega
      have two1 := two_proved hv h1.2 h2.2
      have two2 := two_proved hv h2.2 h1.2
      generalize hA : (whoL ks num stp u pool).take (enoughC ks) = A at *
      generalize hB : (whoL ks num stp t pool).take (enoughC ks) = B at *
      have mA : ∀ i ∈ A, i ∈ whoL ks num stp u pool := fun i hi => List.mem_of_mem_take (hA ▸ hi)
      have mB : ∀ i ∈ B, i ∈ whoL ks num stp t pool := fun i hi => List.mem_of_mem_take (hB ▸ hi)
      have sA : A.Pairwise (· < ·) := hA ▸ (who_sorted ks num stp u pool).sublist (List.take_sublist ..)
      have sB : B.Pairwise (· < ·) := hB ▸ (who_sorted ks num stp t pool).sublist (List.take_sublist ..)
      have lA : A.length = enoughC ks := by rw [← hA, List.length_take, Nat.min_eq_left h1.2]
      have lB : B.length = enoughC ks := by rw [← hB, List.length_take, Nat.min_eq_left h2.2]
      cases A with
      | nil => simp at lA; omega
      | cons i A =>
      cases B with
      | nil => simp at lB; omega
      | cons j B =>
      have hb : blameV ks p q = some (if t.toList < u.toList then blameL q p else blameL p q) := by
        subst hp hq
        unfold blameV
        exact if_pos ⟨⟨rfl, rfl⟩, hne, cp, cq⟩
      subst hp hq
      rw [hb, blame_mk, blame_mk]
      by_cases hlt : t.toList < u.toList
      · refine ⟨(j :: B).filter fun x => (i :: A).contains x, sB.filter _, two2, fun x hx => ?_, ?_⟩
        · rw [List.mem_filter] at hx
          exact ⟨mA x (List.contains_iff_mem.1 hx.2), mB x hx.1⟩
        · rw [if_pos hlt]
          simp only [if_pos hlt]
      · refine ⟨(i :: A).filter fun x => (j :: B).contains x, sA.filter _, two1, fun x hx => ?_, ?_⟩
        · rw [List.mem_filter] at hx
          exact ⟨mA x hx.1, mB x (List.contains_iff_mem.1 hx.2)⟩
        · rw [if_neg hlt]
          simp only [if_neg hlt]
    · cases hq
  · cases hp
theorem two_double {ks : List ByteArray} {num stp : Int} {u t : ByteArray} {pool : List VoteP} (hp : isPool ks pool = true) {i : Nat} (hu : i ∈ whoL ks num stp u pool) (ht : i ∈ whoL ks num stp t pool) (hlt : u.toList < t.toList) :
    convictsV ks (mkV ks num stp u i, mkV ks num stp t i) = true ∧ ∃ d ∈ doublesV ks pool, oneV d.1 (mkV ks num stp u i) = true := by
  have hv : validC ks = true := by
    unfold isPool at hp
    rw [Bool.and_eq_true] at hp
    exact hp.1
  have gu := who_gen hu
  have gt := who_gen ht
  refine ⟨?_, ?_⟩
  · unfold convictsV genuineV
    rw [hv, gu, gt, decide_eq_true (show (mkV ks num stp u i).val.toList < (mkV ks num stp t i).val.toList from hlt)]
    rw [show oneV (mkV ks num stp u i) (mkV ks num stp t i) = true from decide_eq_true ⟨rfl, rfl, rfl⟩]
    rfl
  · obtain ⟨_, v, hv1, gv, e⟩ := who_mem.1 hu
    obtain ⟨_, w, hw1, gw, e'⟩ := who_mem.1 ht
    refine doubles_has hp (e ▸ hv1) gu (e' ▸ hw1) gt (fun h => ?_) (decide_eq_true ⟨rfl, rfl, rfl⟩)
    have := congrArg VoteP.val h
    have h2 : u = t := this
    rw [h2] at hlt
    exact u8l_irrefl _ hlt
theorem cast_gen {ks : List ByteArray} {i : Nat} {num stp : Int} {val : ByteArray} {hist : List VoteP} {v : VoteP} (hi : i < ks.length) (h : castV (ks.getD i ⟨#[]⟩) i num stp val hist = some v) : genV ks v = true ∧ v = mkV ks num stp val i := by
  unfold castV at h
  split at h
  · rename_i hc
    injection h with h
    subst h
    unfold castOk at hc
    rw [Bool.and_eq_true] at hc
    obtain ⟨a1, a2, a3, a4, a5⟩ := formed_facts hc.1
    refine ⟨?_, rfl⟩
    unfold genV
    rw [Bool.and_eq_true, Bool.and_eq_true]
    refine ⟨⟨decide_eq_true ⟨a1, a2, a3, a4, nodeS_size _ _⟩, decide_eq_true ?_⟩, decide_eq_true ?_⟩
    · show (i : Int) < (ks.length : Int)
      omega
    · show sealV _ _ = sealV (ks.getD ((i : Int)).toNat _) _
      rw [Int.toNat_natCast]
      rfl
  · cases h
end Go.Proofs.YtggdcnjaofflbaaGreatDoor

/- Decoding, plain: a number at an offset, a vote; decoding undoes encoding, and encoding returns what was decoded. No condition. -/
namespace Go.Proofs.YtggdcnjaofflbaaGreatDoor

def unzig (z : Nat) : Int := if z % 2 = 0 then ((z / 2 : Nat) : Int) else -((z / 2 : Nat) : Int) - 1
def intL : Nat → Nat → Nat → List UInt8 → Option (Int × Nat)
  | 0, _, _, _ => none
  | _ + 1, _, _, [] => none
  | f + 1, i, z, b :: l => if 128 ≤ b.toNat then intL f (i + 1) (z + b.toNat % 128 * 128 ^ i) l
    else if (b.toNat = 0 ∧ 0 < i) ∨ unzig (z + b.toNat % 128 * 128 ^ i) < -4611686018427387903 then none else some (unzig (z + b.toNat % 128 * 128 ^ i), i + 1)
theorem grp_fuel : ∀ (f g m : Nat), m < 128 ^ (f + 1) → f ≤ g → grp g m = grp f m := by
  intro f
  induction f with
  | zero =>
    intro g m hm _
    cases g with
    | zero => rfl
    | succ g =>
      unfold grp
      rw [if_pos (by omega)]
  | succ f ih =>
    intro g m hm hg
    cases g with
    | zero => omega
    | succ g =>
      unfold grp
      split
      · rfl
      · rw [ih g (m / 128) (by rw [Nat.div_lt_iff_lt_mul (by omega), ← Nat.pow_succ]; exact hm) (by omega)]
theorem u8_nat {n : Nat} (h : n < 256) : (UInt8.ofNat n).toNat = n := by
  rw [UInt8.toNat_ofNat']
  omega
theorem intL_grp : ∀ (f g i z m : Nat) (rest : List UInt8), m < 128 ^ (f + 1) → f < g → (0 < i → 0 < m) → ¬ unzig (z + m * 128 ^ i) < -4611686018427387903 → intL g i z (grp f m ++ rest) = some (unzig (z + m * 128 ^ i), i + (grp f m).length) := by
  intro f
  induction f with
  | zero =>
    intro g i z m rest hm hg hi hn
    cases g with
    | zero => omega
    | succ g =>
      have hm' : m < 128 := by simpa using hm
      have e : (UInt8.ofNat m).toNat = m := u8_nat (by omega)
      unfold grp
      rw [List.cons_append, List.nil_append, intL, e, if_neg (by omega), Nat.mod_eq_of_lt hm', if_neg]
      · rfl
      · rintro (⟨h1, h2⟩ | h)
        · have := hi h2
          omega
        · exact hn h
  | succ f ih =>
    intro g i z m rest hm hg hi hn
    cases g with
    | zero => omega
    | succ g =>
      by_cases h : m < 128
      · have e : (UInt8.ofNat m).toNat = m := u8_nat (by omega)
        unfold grp
        rw [if_pos h, List.cons_append, List.nil_append, intL, e, if_neg (by omega), Nat.mod_eq_of_lt h, if_neg]
        · rfl
        · rintro (⟨h1, h2⟩ | h')
          · have := hi h2
            omega
          · exact hn h'
      · have e : (UInt8.ofNat (m % 128 + 128)).toNat = m % 128 + 128 := u8_nat (by omega)
        have e2 : (m % 128 + 128) % 128 = m % 128 := by omega
        have hz : z + m % 128 * 128 ^ i + m / 128 * 128 ^ (i + 1) = z + m * 128 ^ i := by
          have h1 := Nat.mod_add_div m 128
          have h2 : m * 128 ^ i = m % 128 * 128 ^ i + m / 128 * 128 ^ (i + 1) := by
            calc m * 128 ^ i = (m % 128 + 128 * (m / 128)) * 128 ^ i := by rw [h1]
              _ = m % 128 * 128 ^ i + m / 128 * 128 ^ (i + 1) := by rw [Nat.add_mul, Nat.pow_succ, Nat.mul_comm 128 (m / 128), Nat.mul_assoc, Nat.mul_comm 128 (128 ^ i)]
          omega
        have hd : 0 < m / 128 := Nat.div_pos (by omega) (by omega)
        have step := ih g (i + 1) (z + m % 128 * 128 ^ i) (m / 128) rest (by rw [Nat.div_lt_iff_lt_mul (by omega), ← Nat.pow_succ]; exact hm) (by omega) (fun _ => hd) (by rw [hz]; exact hn)
        rw [hz] at step
        unfold grp
        rw [if_neg h, List.cons_append, intL, e, if_pos (by omega), e2, step, List.length_cons]
        congr 2
        omega
theorem intL_is : ∀ (g i z : Nat) (l : List UInt8) (n : Int) (k : Nat), intL g i z l = some (n, k) → ∃ m rest, m < 128 ^ g ∧ n = unzig (z + m * 128 ^ i) ∧ l = grp (g - 1) m ++ rest ∧ k = i + (grp (g - 1) m).length ∧ (0 < i → 0 < m) := by
  intro g
  induction g with
  | zero => intro i z l n k h; cases h
  | succ g ih =>
    intro i z l n k h
    cases l with
    | nil => cases h
    | cons b l =>
      rw [intL] at h
      have hb := b.toNat_lt
      have eb : UInt8.ofNat b.toNat = b := UInt8.ofNat_toNat
      by_cases hge : 128 ≤ b.toNat
      · rw [if_pos hge] at h
        obtain ⟨m, rest, h1, h2, h3, h4, h5⟩ := ih _ _ _ _ _ h
        have hm := h5 (by omega)
        cases g with
        | zero =>
          simp at h1
          omega
        | succ g =>
          have e1 : (b.toNat % 128 + 128 * m) % 128 = b.toNat % 128 := by omega
          have e2 : (b.toNat % 128 + 128 * m) / 128 = m := by omega
          have eg : grp (g + 1) (b.toNat % 128 + 128 * m) = b :: grp g m := by
            rw [grp, if_neg (by omega), e1, e2, show b.toNat % 128 + 128 = b.toNat by omega, eb]
          refine ⟨b.toNat % 128 + 128 * m, rest, ?_, ?_, ?_, ?_, fun _ => by omega⟩
          · rw [Nat.pow_succ]
            have : m + 1 ≤ 128 ^ (g + 1) := h1
            omega
          · rw [h2]
            congr 1
            rw [Nat.add_mul, Nat.pow_succ, Nat.mul_comm 128 m, Nat.mul_assoc, Nat.mul_comm 128 (128 ^ i)]
            omega
          · show b :: l = grp (g + 1) _ ++ rest
            rw [eg, h3]
            rfl
          · show k = i + (grp (g + 1) _).length
            rw [eg, h4, List.length_cons]
            show i + 1 + (grp g m).length = _
            omega
      · rw [if_neg hge] at h
        split at h
        · cases h
        · rename_i hc
          injection h with h
          injection h with h1 h2
          have eg : grp g b.toNat = [b] := by
            cases g with
            | zero => rw [grp, eb]
            | succ g => rw [grp, if_pos (by omega), eb]
          refine ⟨b.toNat, l, ?_, ?_, ?_, ?_, fun h0 => ?_⟩
          · have : 128 ^ 1 ≤ 128 ^ (g + 1) := Nat.pow_le_pow_right (by omega) (by omega)
            omega
          · rw [← h1, Nat.mod_eq_of_lt (by omega)]
          · show b :: l = grp g b.toNat ++ l
            rw [eg]
            rfl
          · show k = i + (grp g b.toNat).length
            rw [eg, ← h2]
            rfl
          · rcases Nat.eq_zero_or_pos b.toNat with e | e
            · exact absurd (.inl ⟨e, h0⟩) hc
            · exact e
theorem unzig_even (n : Nat) : unzig (2 * n) = n := by
  unfold unzig
  rw [if_pos (by omega)]
  congr 1
  omega
theorem unzig_inv {z : Nat} {n : Int} (h : unzig z = n) (hn : 0 ≤ n) : z = 2 * n.toNat := by
  unfold unzig at h
  split at h <;> omega
theorem int_put {n : Int} (h : 0 ≤ n ∧ n ≤ 99999999) (rest : List UInt8) : intL 9 0 0 (putN n ++ rest) = some (n, (putN n).length) := by
  unfold putN
  have e : unzig (0 + 2 * n.toNat * 128 ^ 0) = n := by
    rw [Nat.zero_add, Nat.pow_zero, Nat.mul_one, unzig_even]
    omega
  have := intL_grp 3 9 0 0 (2 * n.toNat) rest (by omega) (by omega) (by omega) (by rw [e]; omega)
  rw [e, Nat.zero_add] at this
  exact this
theorem put_int {l : List UInt8} {n : Int} {k : Nat} (h : intL 9 0 0 l = some (n, k)) (hn : 0 ≤ n ∧ n ≤ 99999999) : ∃ rest, l = putN n ++ rest ∧ k = (putN n).length := by
  obtain ⟨m, rest, h1, h2, h3, h4, _⟩ := intL_is _ _ _ _ _ _ h
  rw [Nat.zero_add, Nat.pow_zero, Nat.mul_one] at h2
  have hm := unzig_inv h2.symm hn.1
  have e : grp 8 m = putN n := by
    unfold putN
    rw [hm]
    exact grp_fuel 3 8 _ (by omega) (by omega)
  refine ⟨rest, ?_, ?_⟩
  · rw [h3]
    exact congrArg (· ++ rest) e
  · rw [h4, Nat.zero_add]
    exact congrArg List.length e
end Go.Proofs.YtggdcnjaofflbaaGreatDoor

/- Votes decoded, plain: Decode undoes Encode, and Encode returns what Decode accepts. No condition. -/
namespace Go.Proofs.YtggdcnjaofflbaaGreatDoor

def bytesOf (l : List UInt8) : ByteArray := ⟨l.toArray⟩
theorem bytesOf_list (s : ByteArray) : bytesOf s.data.toList = s := by
  cases s
  unfold bytesOf
  simp
theorem list_bytesOf (l : List UInt8) : (bytesOf l).data.toList = l := by
  unfold bytesOf
  simp
def voteTail (a c num stp : Int) (l : List UInt8) : Option VoteP :=
  if l.length = 64 ∧ a = 5 ∧ formedV ⟨c, num, stp, bytesOf (l.take 32), bytesOf (l.drop 32)⟩ = true then some ⟨c, num, stp, bytesOf (l.take 32), bytesOf (l.drop 32)⟩ else none
def decodeL (l : List UInt8) : Option VoteP :=
  match intL 9 0 0 l with
  | none => none
  | some (a, k1) => match intL 9 0 0 (l.drop k1) with
    | none => none
    | some (c, k2) => match intL 9 0 0 ((l.drop k1).drop k2) with
      | none => none
      | some (num, k3) => match intL 9 0 0 (((l.drop k1).drop k2).drop k3) with
        | none => none
        | some (stp, k4) => voteTail a c num stp ((((l.drop k1).drop k2).drop k3).drop k4)
def decodeV (s : ByteArray) : Option VoteP := decodeL s.data.toList
def encodeV (v : VoteP) : Option ByteArray := if formedV v = true then some (encV v) else none
theorem encV_list (v : VoteP) : (encV v).data.toList = putN 5 ++ (putN v.car ++ (putN v.num ++ (putN v.stp ++ (v.val.data.toList ++ v.sl.data.toList)))) := by
  unfold encV voteC
  rw [ByteArray.data_append]
  simp
theorem decode_enc {v : VoteP} (h : formedV v = true) : decodeV (encV v) = some v := by
  obtain ⟨a1, a2, a3, a4, a5⟩ := formed_facts h
  unfold decodeV
  rw [encV_list]
  unfold decodeL
  rw [int_put (by omega)]
  simp only [List.drop_left]
  rw [int_put (by omega)]
  simp only [List.drop_left]
  rw [int_put (by omega)]
  simp only [List.drop_left]
  rw [int_put (by omega)]
  simp only [List.drop_left]
  have l1 : v.val.data.toList.length = 32 := by
    have : v.val.data.size = 32 := a4
    rw [Array.length_toList]
    exact this
  have l2 : v.sl.data.toList.length = 32 := by
    have : v.sl.data.size = 32 := a5
    rw [Array.length_toList]
    exact this
  have t1 : (v.val.data.toList ++ v.sl.data.toList).take 32 = v.val.data.toList := by
    rw [← l1, List.take_left]
  have t2 : (v.val.data.toList ++ v.sl.data.toList).drop 32 = v.sl.data.toList := by
    rw [← l1, List.drop_left]
  unfold voteTail
  rw [t1, t2, bytesOf_list, bytesOf_list, if_pos ⟨by rw [List.length_append, l1, l2], rfl, h⟩]
theorem enc_decode {s : ByteArray} {v : VoteP} (h : decodeV s = some v) : formedV v = true ∧ encV v = s := by
  unfold decodeV decodeL at h
  cases e1 : intL 9 0 0 s.data.toList with
  | none => rw [e1] at h; cases h
  | some x1 =>
  obtain ⟨a, k1⟩ := x1
  rw [e1] at h
  simp only at h
  cases e2 : intL 9 0 0 (s.data.toList.drop k1) with
  | none => rw [e2] at h; cases h
  | some x2 =>
  obtain ⟨c, k2⟩ := x2
  rw [e2] at h
  simp only at h
  cases e3 : intL 9 0 0 ((s.data.toList.drop k1).drop k2) with
  | none => rw [e3] at h; cases h
  | some x3 =>
  obtain ⟨num, k3⟩ := x3
  rw [e3] at h
  simp only at h
  cases e4 : intL 9 0 0 (((s.data.toList.drop k1).drop k2).drop k3) with
  | none => rw [e4] at h; cases h
  | some x4 =>
  obtain ⟨stp, k4⟩ := x4
  rw [e4] at h
  simp only at h
  unfold voteTail at h
  split at h
  · rename_i hc
    injection h with h
    obtain ⟨hl, ha, hf⟩ := hc
    have hf' := hf
    rw [h] at hf'
    refine ⟨hf', ?_⟩
    obtain ⟨b1, b2, b3, _, _⟩ := formed_facts hf
    simp only at b1 b2 b3
    subst ha
    obtain ⟨r1, q1, p1⟩ := put_int e1 (by omega)
    rw [q1, p1, List.drop_left] at e2 e3 e4 hl h
    obtain ⟨r2, q2, p2⟩ := put_int e2 (by omega)
    rw [q2, p2, List.drop_left] at e3 e4 hl h
    obtain ⟨r3, q3, p3⟩ := put_int e3 (by omega)
    rw [q3, p3, List.drop_left] at e4 hl h
    obtain ⟨r4, q4, p4⟩ := put_int e4 (by omega)
    rw [q4, p4, List.drop_left] at hl h
    have el : (encV v).data.toList = s.data.toList := by
      rw [encV_list, ← h]
      simp only [list_bytesOf]
      rw [List.take_append_drop, q1, q2, q3, q4]
    rw [← bytesOf_list (encV v), el, bytesOf_list]
  · cases h
end Go.Proofs.YtggdcnjaofflbaaGreatDoor
