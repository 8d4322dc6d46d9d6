/- The walks of marked's function, Leaf, Node, left. The conditions: what the slices read as, lengths, the table of constants. -/
import Derived.Test.YtinfpbkbnhcifaaGreatDoorQ04
import Derived.Test.YtinfpbkbnhcifaaGreatDoorQ03
namespace Go.Proofs.YtinfpbkbnhcifaaGreatDoor
open Go.RowKit Go.BigFrame

/-- The cells of strings. -/
def scells (l : List ByteArray) : List (List Value) := l.map fun s => [.string s]
/-- A slice of strings. -/
def SS (w : World) (v : Value) (xs : List ByteArray) : Prop := SliceAt w v 1 (scells xs)
theorem SS.below {w w' : World} {v : Value} {xs : List ByteArray} (h : SS w v xs) (hb : Below w.heap.size w w') : SS w' v xs := SliceAt.below h hb
theorem SS.opened {w : World} {v : Value} {xs : List ByteArray} (h : SS w v xs) : ∃ a cap, v = .slice a xs.length cap ∧ xs.length ≤ cap ∧ cap ≤ maxLen ∧
    ∀ k s, xs[k]? = some s → ∃ b off, a = some ⟨b, off, none⟩ ∧ b < w.heap.size ∧ w.cell? ⟨b, off + k, none⟩ = some (.string s) := by
  obtain ⟨a, cap, hv, h1, h2, h3⟩ := h
  unfold scells at *
  rw [List.length_map] at hv h1
  refine ⟨a, cap, hv, h1, h2, fun k x hx => ?_⟩
  rcases h3 with h3 | ⟨b, off, ha, hb, hc⟩
  · simp at h3; subst h3; simp at hx
  · refine ⟨b, off, ha, hb, ?_⟩
    have := hc k [.string x] (by rw [List.getElem?_map, hx]; rfl) 0 _ rfl
    simpa using this
theorem SS.one {w : World} {b : Nat} {T : TypeId} {fz : Nat × Nat} {x : ByteArray} (h : w.heap[b]? = some (.cells #[.string x] T fz)) : SS w (.slice (some ⟨b, 0, none⟩) 1 1) [x] := by
  refine ⟨_, 1, rfl, Nat.le_refl _, by decide, .inr ⟨b, 0, rfl, (Array.getElem?_eq_some_iff.1 h).1, ?_⟩⟩
  intro i c hi j u hj
  rw [cell_of_row w b _ _ _ fz h]
  match i, hi with
  | 0, hi => simp [scells] at hi; subst hi; match j, hj with | 0, hj => simpa using hj
theorem SS.two {w : World} {b : Nat} {T : TypeId} {fz : Nat × Nat} {x y : ByteArray} (h : w.heap[b]? = some (.cells #[.string x, .string y] T fz)) : SS w (.slice (some ⟨b, 0, none⟩) 2 2) [x, y] := by
  refine ⟨_, 2, rfl, Nat.le_refl _, by decide, .inr ⟨b, 0, rfl, (Array.getElem?_eq_some_iff.1 h).1, ?_⟩⟩
  intro i c hi j u hj
  rw [cell_of_row w b _ _ _ fz h]
  match i, hi with
  | 0, hi => simp [scells] at hi; subst hi; match j, hj with | 0, hj => simpa using hj
  | 1, hi => simp [scells] at hi; subst hi; match j, hj with | 0, hj => simpa using hj

/-- Strings, one behind the other. -/
def joinB (xs : List ByteArray) : ByteArray := ⟨(xs.map (·.data.toList)).flatten.toArray⟩
theorem joinB_eq (xs : List ByteArray) : (⟨(Lib.join (xs.map (·.data.toList)) (ByteArray.mk #[]).data.toList).toArray⟩ : ByteArray) = joinB xs := by
  unfold joinB
  congr 2
  cases xs with
  | nil => rfl
  | cons x xs =>
    rw [List.map_cons, Lib.join_cons]
    simp [Lib.joinTail, Function.comp_def]
theorem joinB_one (x : ByteArray) : joinB [x] = x := by simp [joinB]
theorem joinB_two (x y : ByteArray) : joinB [x, y] = x ++ y := by
  unfold joinB
  apply ByteArray.ext
  simp
/-- The digest of an entry, and of two parts of a tree. -/
def leafS (s : ByteArray) : ByteArray := sumS (⟨#[0]⟩ ++ s)
def nodeS (a b : ByteArray) : ByteArray := sumS (⟨#[1]⟩ ++ (a ++ b))
theorem leafS_size (s : ByteArray) : (leafS s).size = 32 := rfl
theorem nodeS_size (a b : ByteArray) : (nodeS a b).size = 32 := rfl

set_option maxHeartbeats 1000000 in
theorem marked1_any (mark : ByteArray) (bm : Nat) {w : World} {v : Value} {xs : List ByteArray} (hm : w.cell? ⟨bm, 0, none⟩ = some (.string mark)) (hbm : bm < w.heap.size) (hv : SS w v xs) (hx : 0 < xs.length) (hxl : xs.length ≤ 1000) (hsz : (joinB xs).size ≤ 900000000) (hms : mark.size ≤ 1000) (he : Env w) (hg : 0 < w.heap.size) :
    Calls Tryz.prog 131 #[v, .pointer (some ⟨bm, 0, none⟩)] w fun e w' => e = .returned (.string (sumS (mark ++ joinB xs))) ∧ Below w.heap.size w w' := by
  obtain ⟨a, cap, rfl, l1, l2, l3⟩ := hv.opened
  obtain ⟨b, off, rfl, hb, -⟩ := l3 0 _ (List.getElem?_eq_getElem hx)
  have HJ : Hid (∀ W : World, Below w.heap.size w W → Calls Tryz.prog 132 #[.slice (some ⟨b, off, none⟩) xs.length cap, .string ⟨#[]⟩] W fun e w' => e = .returned (.string (joinB xs)) ∧ Below W.heap.size W w') := Lib.hid (fun W hW => by
    have := Tryz.strings_Join b off cap xs ⟨#[]⟩ W (fun j x hj => by
      obtain ⟨b', off', e, _, h⟩ := l3 j x hj
      cases e
      exact cell_keepB hW hb h) (Nat.lt_of_lt_of_le hb hW.size) (by omega) l1 (by
        have h1 := congrArg ByteArray.size (joinB_eq xs)
        have h2 : (⟨(Lib.join (xs.map (·.data.toList)) (ByteArray.mk #[]).data.toList).toArray⟩ : ByteArray).size = (Lib.join (xs.map (·.data.toList)) (ByteArray.mk #[]).data.toList).length := by show (List.toArray _).size = _; simp
        omega)
    rwa [joinB_eq] at this)
  have HSM : Hid (∀ W : World, Below w.heap.size w W → Calls Tryz.prog 104 #[.string (mark ++ joinB xs)] W fun e w' => e = .returned (.string (sumS (mark ++ joinB xs))) ∧ Below W.heap.size W w') := Lib.hid (fun W hW => sum_any _ W (by
    have : (mark ++ joinB xs).size = mark.size + (joinB xs).size := ByteArray.size_append
    omega) (he.below hW hg) (Nat.lt_of_lt_of_le hg hW.size))
  generalize joinB xs = X at *
  generalize xs.length = n at *
  have hz : mark.size + X.size ≤ 281474976710656 := by omega
  have hz2 : ¬ 9223372036854775807 < mark.size + X.size := by omega
  clear l3 hv he hx hsz
  go_enter Tryz.func131, Tryz.ntmps131
  go_wp2
  go_region_held3 (fun w' => w'.cell? ⟨bm, 0, none⟩ = some (.string mark))
    (first | (simp [*]; done) | (exact (HB1.out.cell (p := ⟨bm, 0, none⟩) hbm).trans hm) | (exact (HB2.out.cell (p := ⟨bm, 0, none⟩) hbm).trans hm)) ((first | (go_at_call 132; refine (HJ.out _ (below_drewN (Below.refl _ w) 1)).mono ?_; rintro e w1 ⟨rfl, hb1⟩; have HB1 := Lib.hid ((below_drewN (Below.refl _ w) 1).trans (hb1.mono (Nat.le_refl _))); clear hb1) | (go_at_call 104; refine (HSM.out _ HB1.out).mono ?_; rintro e w2 ⟨rfl, hb2⟩; have HB2 := Lib.hid (HB1.out.trans (hb2.mono HB1.out.size)); clear hb2)))
  all_goals
    go_wp2
    go_ret
    exact ⟨rfl, HB2.out⟩

set_option maxHeartbeats 400000 in
theorem marked_any (m : ByteArray) (w : World) :
    Calls Tryz.prog 119 #[.string m] w fun e w' => e = .returned (.func (.func 131) #[] #[.pointer (some ⟨w.heap.size, 0, none⟩)]) ∧ w' = w.alloc (.cells #[.string m] 9) := by
  go_enter Tryz.func119, Tryz.ntmps119
  go_wp2
  go_ret
  exact ⟨rfl, rfl⟩

set_option maxHeartbeats 1000000 in
theorem leaf_any (s : ByteArray) (w : World) (hs : s.size ≤ 900000000) (he : Env w) (hg : 0 < w.heap.size) :
    Calls Tryz.prog 93 #[.string s] w fun e w' => e = .returned (.string (leafS s)) ∧ Below w.heap.size w w' := by
  have HB2 : Hid (Below w.heap.size w ((w.alloc (.cells #[.string ⟨#[0]⟩] 9)).alloc (.cells #[.string s] 9))) := Lib.hid (((Below.refl _ _).alloc (Nat.le_refl _) _).alloc (by simp) _)
  have HM := Lib.hid (marked1_any (w := (w.alloc (.cells #[.string ⟨#[0]⟩] 9)).alloc (.cells #[.string s] 9)) (v := .slice (some ⟨w.heap.size + 1, 0, none⟩) 1 1) (xs := [s]) ⟨#[0]⟩ w.heap.size (cell_of_row _ _ 0 _ _ _ (at_past w _ _)) (by simp <;> omega) (SS.one (at_second w _ _)) (by simp) (by simp) (by rw [joinB_one]; exact hs) (by decide) (he.below HB2.out hg) (by simp <;> omega))
  rw [joinB_one] at HM
  have e : leafS s = sumS (⟨#[0]⟩ ++ s) := rfl
  rw [e]
  clear he hg hs e
  go_enter Tryz.func93, Tryz.ntmps93
  go_wp2_with (first | (go_at_call 119; refine (marked_any _ _).mono ?_; rintro e w' ⟨rfl, rfl⟩) | (go_at_call 131; (with_reducible refine HM.out.mono ?_); rintro e w' ⟨rfl, hb⟩))
  go_ret
  exact ⟨rfl, HB2.out.trans (hb.mono (by simp <;> omega))⟩

set_option maxHeartbeats 1000000 in
theorem node_any (x y : ByteArray) (w : World) (hx : x.size ≤ 400000000) (hy : y.size ≤ 400000000) (he : Env w) (hg : 0 < w.heap.size) :
    Calls Tryz.prog 103 #[.string x, .string y] w fun e w' => e = .returned (.string (nodeS x y)) ∧ Below w.heap.size w w' := by
  have HB2 : Hid (Below w.heap.size w ((w.alloc (.cells #[.string ⟨#[1]⟩] 9)).alloc (.cells #[.string x, .string y] 9))) := Lib.hid (((Below.refl _ _).alloc (Nat.le_refl _) _).alloc (by simp) _)
  have HM := Lib.hid (marked1_any (w := (w.alloc (.cells #[.string ⟨#[1]⟩] 9)).alloc (.cells #[.string x, .string y] 9)) (v := .slice (some ⟨w.heap.size + 1, 0, none⟩) 2 2) (xs := [x, y]) ⟨#[1]⟩ w.heap.size (cell_of_row _ _ 0 _ _ _ (at_past w _ _)) (by simp <;> omega) (SS.two (at_second w _ _)) (by simp) (by simp) (by rw [joinB_two, ByteArray.size_append]; omega) (by decide) (he.below HB2.out hg) (by simp <;> omega))
  rw [joinB_two] at HM
  have e : nodeS x y = sumS (⟨#[1]⟩ ++ (x ++ y)) := rfl
  rw [e]
  clear he hg hx hy e
  go_enter Tryz.func103, Tryz.ntmps103
  go_wp2_with (first | (go_at_call 119; refine (marked_any _ _).mono ?_; rintro e w' ⟨rfl, rfl⟩) | (go_at_call 131; (with_reducible refine HM.out.mono ?_); rintro e w' ⟨rfl, hb⟩))
  go_ret
  exact ⟨rfl, HB2.out.trans (hb.mono (by simp <;> omega))⟩

/-! ### left -/
theorem bitLen_log (n : Nat) (h0 : n ≠ 0) (h : n < 2 ^ 64) : Lib.bitLen n = Nat.log2 n + 1 := by
  have h1 := Nat.log2_self_le h0
  have h2 := Nat.lt_log2_self (n := n)
  rw [Lib.bitLen_shift (Nat.log2 n) n h1 h]
  have h3 : n / 2 ^ Nat.log2 n = 1 := by
    rw [Nat.div_eq_iff (Nat.two_pow_pos _)]
    rw [Nat.pow_succ] at h2
    omega
  rw [h3]
  rfl

set_option maxHeartbeats 400000 in
theorem left_any (n : Nat) (w : World) (h1 : 2 ≤ n) (h2 : n ≤ 1000000) :
    Calls Tryz.prog 85 #[.int .i64 n] w fun e w' => e = .returned (.int .i64 (leftN n : Nat)) ∧ w' = w := by
  have hl : Lib.bitLen (n - 1) = Nat.log2 (n - 1) + 1 := bitLen_log (n - 1) (by omega) (by omega)
  have hk : Nat.log2 (n - 1) < 20 := by rw [Nat.log2_lt (by omega)]; omega
  have e : leftN n = 2 ^ Nat.log2 (n - 1) := rfl
  rw [e]
  obtain ⟨m, hm⟩ : ∃ m, m = n - 1 := ⟨_, rfl⟩
  rw [← hm] at hl hk ⊢
  have HC := Lib.hid (Tryz.bits_Len (m : Int) w (by omega) (by omega))
  rw [Int.toNat_natCast, hl] at HC
  have f1 : IntKind.i64.wrap ((n : Int) - 1) = (m : Int) := by rw [IntWalk.i64_in _ (by omega)]; omega
  generalize Nat.log2 m = k at *
  have f2 : IntKind.i64.wrap (((k + 1 : Nat) : Int) - 1) = (k : Int) := by rw [IntWalk.i64_in _ (by omega)]; omega
  have f3 : IntKind.u64.wrap (m : Int) = (m : Int) := by rw [IntKind.wrap_u64]; omega
  clear hl hm
  go_enter Tryz.func85, Tryz.ntmps85
  go_wp2_with (go_at_call 114; (with_reducible refine HC.out.mono ?_); rintro e w' ⟨rfl, rfl⟩)
  go_ret
  refine ⟨ret_int ?_, rfl⟩
  have h3 : 2 ^ k < 2 ^ 20 := Nat.pow_lt_pow_right (by omega) hk
  have h4 : ((2 ^ k : Nat) : Int) = (2 : Int) ^ k := by rw [Int.natCast_pow]; rfl
  rw [← h4]
  generalize (2 : Nat) ^ k = q at *
  exact IntWalk.wrap64_in _ ⟨by omega, by omega⟩
end Go.Proofs.YtinfpbkbnhcifaaGreatDoor

/- slices.IndexFunc and ContainsFunc at strings, all, take, join of a side. The conditions: what the slices read as, lengths. -/
namespace Go.Proofs.YtinfpbkbnhcifaaGreatDoor
open Go.RowKit Go.BigFrame

/-- How far the first element lies for which a test holds. -/
def firstIdx {α : Type} (p : α → Bool) : List α → Int → Int
  | [], _ => -1
  | q :: qs, i => if p q then i else firstIdx p qs (i + 1)
theorem firstIdx_neg {α : Type} (p : α → Bool) (qs : List α) (i : Int) (hi : 0 ≤ i) : decide (0 ≤ firstIdx p qs i) = qs.any p := by
  induction qs generalizing i with
  | nil => simp [firstIdx]
  | cons q qs ih =>
    simp only [firstIdx, List.any_cons]
    by_cases h : p q = true
    · simp [h, hi]
    · simp [h, ih (i + 1) (by omega)]
theorem firstIdx_drop {α : Type} (p : α → Bool) (qs : List α) (k : Nat) (i : Int) (h : ∀ j q, j < k → qs[j]? = some q → p q = false) : k ≤ qs.length → firstIdx p qs i = firstIdx p (qs.drop k) (i + k) := by
  induction k generalizing qs i with
  | zero => simp
  | succ k ih =>
    intro hk
    cases qs with
    | nil => simp at hk
    | cons q qs =>
      have h0 := h 0 q (by omega) rfl
      simp only [firstIdx, h0, List.drop_succ_cons]
      rw [if_neg (by simp), ih qs (i + 1) (fun j q hj hq => h (j + 1) q (by omega) (by simpa using hq)) (by simpa using hk)]
      congr 1; omega
theorem drop_get {α : Type} {xs : List α} {k : Nat} {q : α} (h : xs[k]? = some q) : xs.drop k = q :: xs.drop (k + 1) := by
  have hk := (List.getElem?_eq_some_iff.1 h).1
  rw [List.drop_eq_getElem_cons hk]
  rw [List.getElem?_eq_getElem hk] at h
  cases h; rfl

/-- A test of strings that only looks. -/
def PredFn (f : Nat) (p : ByteArray → Bool) : Prop := (∀ (x : Value) (w : World), (callFunc f #[x]).run Tryz.prog w = .ok (.enter f #[x]) w) ∧ ∀ (s : ByteArray) (w : World), Calls Tryz.prog f #[.string s] w fun e w' => e = .returned (.bool (p s)) ∧ w = w'

set_option maxHeartbeats 1000000 in
theorem indexS_any (f : Nat) (p : ByteArray → Bool) (hf : PredFn f p) {w : World} {v : Value} {xs : List ByteArray} (hr : SS w v xs) :
    Calls Tryz.prog 111 #[v, .func (.func f) #[] #[]] w fun e w' => e = .returned (.int .i64 (firstIdx p xs 0)) ∧ w = w' := by
  obtain ⟨a, cap, rfl, l1, l2, l3⟩ := hr.opened
  have H3 := Lib.hid l3
  have HF := Lib.hid hf
  clear l3 hr hf
  unfold maxLen at l2
  obtain ⟨n, hn⟩ : ∃ n, n = xs.length := ⟨_, rfl⟩
  rw [← hn] at l1 ⊢
  have HN := Lib.hid hn
  clear hn
  go_enter Tryz.func111, Tryz.ntmps111
  go_wp2
  go_loop [5, 8] (fun _ i => ∃ k : Nat, k ≤ n ∧ i = .int .i64 k ∧ Hid (∀ j q, j < k → xs[j]? = some q → p q = false)) (fun _ i => n - (intOf i).toNat)
  case atStart => exact ⟨0, by omega, rfl, (by intro j q hj; omega)⟩
  case round =>
    obtain ⟨k, hk, rfl, hall⟩ := hrel
    by_cases hlt : k < n
    · obtain ⟨q, eq⟩ : ∃ q, xs[k]? = some q := ⟨_, List.getElem?_eq_getElem (by rw [← HN.out]; exact hlt)⟩
      obtain ⟨b, off, rfl, hb, c1⟩ := H3.out k q eq
      have EQ := Lib.hid eq
      have hcf := HF.out.1 (.string q)
      clear eq
      by_cases hp : p q = true
      · have HP := Lib.hid hp
        clear hp
        go_wp2
        refine (HF.out.2 q w).mono ?_
        rintro e w1 ⟨rfl, rfl⟩
        rw [HP.out]
        go_wp2
        go_ret
        refine ⟨ret_int ?_, rfl⟩
        rw [firstIdx_drop p xs k 0 hall.out (by rw [← HN.out]; omega)]
        rw [drop_get EQ.out, firstIdx, if_pos HP.out]; omega
      · have HP : Hid (p q = false) := Lib.hid (by simpa using hp)
        clear hp
        go_wp2
        refine (HF.out.2 q w).mono ?_
        rintro e w1 ⟨rfl, rfl⟩
        rw [HP.out]
        go_wp2
        go_round
        case rel =>
          refine ⟨k + 1, by omega, by go_num, ?_⟩
          intro j q' hj hq
          by_cases hjk : j = k
          · subst hjk; rw [EQ.out] at hq; cases hq; exact HP.out
          · exact hall.out j q' (by omega) hq
        case measure => simp [intOf]; omega
    · go_wp2
      go_ret
      refine ⟨ret_int ?_, rfl⟩
      rw [firstIdx_drop p xs k 0 hall.out (by rw [← HN.out]; omega), List.drop_eq_nil_of_le (by rw [← HN.out]; omega), firstIdx]

set_option maxHeartbeats 400000 in
theorem containsS_any (f : Nat) (p : ByteArray → Bool) (hf : PredFn f p) {w : World} {v : Value} {xs : List ByteArray} (hr : SS w v xs) :
    Calls Tryz.prog 81 #[v, .func (.func f) #[] #[]] w fun e w' => e = .returned (.bool (xs.any p)) ∧ w = w' := by
  have hf' := firstIdx_neg p xs 0 (by omega)
  have HF := Lib.hid hf'
  clear hf'
  generalize hi : firstIdx p xs 0 = i at *
  have hc := indexS_any f p hf hr
  rw [hi] at hc
  clear hi
  have HC := Lib.hid hc
  clear hc hf hr
  go_enter Tryz.func81, Tryz.ntmps81
  go_wp2_with (go_at_call 111; refine HC.out.mono ?_; rintro e w1 ⟨rfl, rfl⟩)
  go_ret
  exact ⟨ret_bool HF.out, rfl⟩

/-! ### all, take, join -/
def isDig (s : ByteArray) : Bool := decide (s.size = 32)
set_option maxHeartbeats 400000 in
theorem isDigest_any (s : ByteArray) (w : World) : Calls Tryz.prog 109 #[.string s] w fun e w' => e = .returned (.bool (isDig s)) ∧ w = w' := by
  go_enter Tryz.func109, Tryz.ntmps109
  go_wp2
  go_ret
  refine ⟨ret_bool ?_, rfl⟩
  unfold isDig
  rw [Bool.eq_iff_iff]
  simp
  try omega
theorem all1_fn : PredFn 118 (fun s => !isDig s) := by
  refine ⟨fun _ _ => by kernel_rfl, fun s w => ?_⟩
  go_enter Tryz.func118, Tryz.ntmps118
  go_wp2_with (go_at_call 109; refine (isDigest_any s _).mono ?_; rintro e w1 ⟨rfl, rfl⟩)
  go_ret
  exact ⟨rfl, rfl⟩
set_option maxHeartbeats 400000 in
theorem allD_any {w : World} {v : Value} {xs : List ByteArray} (hr : SS w v xs) :
    Calls Tryz.prog 91 #[v] w fun e w' => e = .returned (.bool (xs.all isDig)) ∧ w = w' := by
  have hc := containsS_any 118 _ all1_fn hr
  have e : (!xs.any fun s => !isDig s) = xs.all isDig := by
    rw [List.all_eq_not_any_not]
  generalize xs.any (fun s => !isDig s) = b at *
  rw [← e]
  have HC := Lib.hid hc
  clear hc e hr
  go_enter Tryz.func91, Tryz.ntmps91
  go_wp2_with (go_at_call 81; refine HC.out.mono ?_; rintro e w1 ⟨rfl, rfl⟩)
  go_ret
  exact ⟨rfl, rfl⟩

theorem SS.cut {w : World} {a : Option Addr} {n cap : Nat} {xs : List ByteArray} (h : SS w (.slice a n cap) xs) (k : Nat) (hk : k ≤ n) : SS w (.slice a k cap) (xs.take k) := by
  have := SliceAt.cut h k hk
  unfold SS scells at *
  rw [List.map_take]
  exact this

set_option maxHeartbeats 400000 in
theorem take_none (a : Option Addr) (cap : Nat) (w : World) :
    Calls Tryz.prog 92 #[.slice a 0 cap] w fun e w' => e = .returned (.tuple #[.string ⟨#[]⟩, .slice none 0 0, .bool false]) ∧ w' = w := by
  go_enter Tryz.func92, Tryz.ntmps92
  go_wp2
  refine bodyPost_ret (results_tmp3 rfl _ _ _) rfl ?_
  exact ⟨rfl, rfl⟩

def sideS (x : ByteArray × Bool) (part : ByteArray) : ByteArray := if x.2 then nodeS x.1 part else nodeS part x.1
set_option maxHeartbeats 1000000 in
theorem sideJoin_any (r : ByteArray) (f : Bool) (part : ByteArray) (w : World) (h1 : r.size ≤ 400000000) (h2 : part.size ≤ 400000000) (he : Env w) (hg : 0 < w.heap.size) :
    Calls Tryz.prog 95 #[.agg #[.string r, .bool f], .string part] w fun e w' => e = .returned (.string (sideS (r, f) part)) ∧ Below w.heap.size w w' := by
  have HB : Hid (Below w.heap.size w (w.alloc (.cells #[.string r, .bool f] 127))) := Lib.hid ((Below.refl _ _).alloc (Nat.le_refl _) _)
  have he' : Env (w.alloc (.cells #[.string r, .bool f] 127)) := he.below HB.out hg
  have hg' : 0 < (w.alloc (.cells #[.string r, .bool f] 127)).heap.size := by simp <;> omega
  have HN1 := Lib.hid (node_any r part _ h1 h2 he' hg')
  have HN2 := Lib.hid (node_any part r _ h2 h1 he' hg')
  clear he he' hg'
  cases f
  · have e : sideS (r, false) part = nodeS part r := rfl
    rw [e]
    generalize nodeS part r = R at *
    clear HN1 e
    go_enter Tryz.func95, Tryz.ntmps95
    go_wp2_with (go_at_call 103; refine HN2.out.mono ?_; rintro e w1 ⟨rfl, hb⟩)
    go_ret
    exact ⟨rfl, HB.out.trans (hb.mono (by simp <;> omega))⟩
  · have e : sideS (r, true) part = nodeS r part := rfl
    rw [e]
    generalize nodeS r part = R at *
    clear HN2 e
    go_enter Tryz.func95, Tryz.ntmps95
    go_wp2_with (go_at_call 103; refine HN1.out.mono ?_; rintro e w1 ⟨rfl, hb⟩)
    go_ret
    exact ⟨rfl, HB.out.trans (hb.mono (by simp <;> omega))⟩
end Go.Proofs.YtinfpbkbnhcifaaGreatDoor

/- slices.Backward and its iterators, at strings and at sides. The conditions: what the slices read as. -/
namespace Go.Proofs.YtinfpbkbnhcifaaGreatDoor
open Go.RowKit Go.BigFrame Go.Shelf

attribute [local go_sem] Oper.semAt_some

set_option maxHeartbeats 400000 in
theorem backS_any (a : Option Addr) (n c : Nat) (w : World) :
    Calls Tryz.prog 105 #[.slice a n c] w fun e w' => e = .returned (.func (.func 126) #[] #[.pointer (some ⟨w.heap.size, 0, none⟩)]) ∧ w' = w.alloc (.cells #[.slice a n c] 24) := by
  go_enter Tryz.func105, Tryz.ntmps105
  go_wp2
  go_ret
  exact ⟨rfl, rfl⟩
set_option maxHeartbeats 400000 in
theorem backSide_any (a : Option Addr) (n c : Nat) (w : World) :
    Calls Tryz.prog 94 #[.slice a n c] w fun e w' => e = .returned (.func (.func 120) #[] #[.pointer (some ⟨w.heap.size, 0, none⟩)]) ∧ w' = w.alloc (.cells #[.slice a n c] 123) := by
  go_enter Tryz.func94, Tryz.ntmps94
  go_wp2
  go_ret
  exact ⟨rfl, rfl⟩

/-- An index and a digest. -/
abbrev DgS := { p : Nat × ByteArray // p.2.size = 32 }
/-- An index and a side. -/
abbrev DgX := { p : Nat × (ByteArray × Bool) // p.2.1.size = 32 }

theorem drop_rev {α : Type} {xs : List α} {k : Nat} {x : α} (h : xs[k]? = some x) : (xs.drop k).reverse = (xs.drop (k + 1)).reverse ++ [x] := by
  rw [List.drop_eq_getElem_cons (List.getElem?_eq_some_iff.1 h).1, List.reverse_cons]
  congr 2
  exact (List.getElem?_eq_some_iff.1 h).2

set_option maxRecDepth 100000 in
set_option maxHeartbeats 1000000 in
theorem backS1_iter (b1 g n cap : Nat) (a : Option Addr) (o : Obj) (xs : List ByteArray) (w0 : World) (hn : n = xs.length) (hcap : cap ≤ maxLen) (hnc : n ≤ cap) (h32 : ∀ x ∈ xs, x.size = 32) (h1 : w0.heap[b1]? = some (.cells #[.slice a n cap] 24 (0, 0))) (h2 : w0.heap[g]? = some o)
    (hcl : ∀ W : World, W.heap[g]? = some o → ∀ k s, xs[k]? = some s → ∃ b off, a = some ⟨b, off, none⟩ ∧ W.cell? ⟨b, off + k, none⟩ = some (.string s)) :
    Iter Tryz.prog 126 #[.pointer (some ⟨b1, 0, none⟩)] (fun x : DgS => #[.int .i64 (x.1.1 : Nat), .string x.1.2]) (fun A B => B.heap[b1]? = A.heap[b1]? ∧ B.heap[g]? = A.heap[g]?) none (fun ys => ys.map (fun x => x.1.2) = xs.reverse) (fun _ => True) n w0 := by
  intro F m hF hro l J Jx W hW hJ hJx hY h0
  have hbl1 : b1 < w0.heap.size := (Array.getElem?_eq_some_iff.1 h1).1
  have hbl2 : g < w0.heap.size := (Array.getElem?_eq_some_iff.1 h2).1
  have H1 : Hid (W.heap[b1]? = some (.cells #[.slice a n cap] 24 (0, 0))) := Lib.hid ((hW.block b1 hbl1).trans h1)
  have H2 : Hid (W.heap[g]? = some o) := Lib.hid ((hW.block g hbl2).trans h2)
  have HCL := Lib.hid hcl
  have H32 := Lib.hid h32
  have HN := Lib.hid hn
  clear h1 h2 hW hcl h32 hn
  unfold maxLen at hcap
  have cI : W.cell? ⟨b1, 0, none⟩ = some (.slice a n cap) := cell_of_row W _ 0 _ _ _ H1.out
  refine callsIn_of_wp Tryz.func126 rfl (hF.1 _) ?_ hro
  simp only [Tryz.ntmps126, List.size_toArray, List.length_cons, List.length_nil, Nat.reduceAdd, Nat.reduceSub, Array.replicate_succ, Array.replicate_zero, List.push_toArray, List.append_toArray, List.nil_append, List.cons_append]
  have f0 : IntKind.i64.wrap ((n : Int) - 1) = (n : Int) - 1 := IntWalk.i64_in _ (by omega)
  gi_wp2
  clear cI f0
  gi_loopw [3] (fun i wr => ∃ (pre : List DgS) (k : Nat), k ≤ n ∧ i = .int .i64 ((k : Int) - 1) ∧ Hid (pre.map (fun x => x.1.2) = (xs.drop k).reverse) ∧ Hid (wr.heap[b1]? = some (.cells #[.slice a n cap] 24 (0, 0))) ∧ Hid (wr.heap[g]? = some o) ∧ J pre wr) (fun i wr => (intOf i + 1).toNat)
  case atStart => exact ⟨[], n, by omega, by go_num, Lib.hid (by rw [HN.out, List.drop_length]; rfl), H1, H2, h0⟩
  case round =>
    obtain ⟨pre, k, hk, rfl, hpre, g1, g2, hJs⟩ := hrel
    have c1 : wr.cell? ⟨b1, 0, none⟩ = some (.slice a n cap) := cell_of_row wr _ 0 _ _ _ g1.out
    by_cases hlt : 0 < k
    · obtain ⟨j, hj⟩ : ∃ j, k = j + 1 := ⟨k - 1, by omega⟩
      subst hj
      have e1 : ((j + 1 : Nat) : Int) - 1 = (j : Int) := by omega
      rw [e1]
      obtain ⟨x, hx⟩ : ∃ x, xs[j]? = some x := ⟨_, List.getElem?_eq_getElem (by rw [← HN.out]; omega)⟩
      obtain ⟨b, off, rfl, c2⟩ := HCL.out wr g2.out j x hx
      have hx32 := H32.out x (List.mem_of_getElem? hx)
      have HD := Lib.hid (drop_rev hx)
      have hlen : pre.length < n := by
        have h3 := congrArg List.length hpre.out
        rw [List.length_map, List.length_reverse, List.length_drop, ← HN.out] at h3
        omega
      obtain ⟨fn, tmps, assign, body, hy, hR⟩ := hY pre ⟨(j, x), hx32⟩ wr hJs hlen
      have hy : Sem.run _ (Instr.yield l #[.int .i64 (j : Nat), .string x]) _ = _ := hy
      have b1' : (j : Int) < (n : Int) := by omega
      have hw64 : wrap64 ((j : Int) - 1) = (j : Int) - 1 := IntWalk.wrap64_in _ ⟨by omega, by omega⟩
      clear hx e1
      gi_wp2
      refine ⟨fun h => (by rw [hF.2.1] at h; cases h), hR.mono ?_⟩
      rintro e W3 (⟨rfl, hJ3, hk3⟩ | ⟨rfl, hJx3⟩)
      · have h1 : Hid (W3.heap[b1]? = some (.cells #[.slice (some ⟨b, off, none⟩) n cap] 24 (0, 0))) := Lib.hid (hk3.1.trans g1.out)
        have h2 : Hid (W3.heap[g]? = some o) := Lib.hid (hk3.2.trans g2.out)
        clear hk3
        gi_wp2
        go_roundw
        case rel => exact ⟨pre ++ [⟨(j, x), hx32⟩], j, by omega, by go_num, Lib.hid (by rw [List.map_append, hpre.out, HD.out]; rfl), h1, h2, hJ3⟩
        case measure => simp [intOf] <;> omega
      · gi_wp2
        refine bodyPost_ret (results_none rfl _ _ _) rfl ?_
        exact ⟨⟨_, rfl⟩, .inr ⟨_, trivial, hJx3⟩⟩
    · have ek : k = 0 := by omega
      subst ek
      have e1 : ((0 : Nat) : Int) - 1 = -1 := by omega
      rw [e1]
      gi_wp2
      go_end0
      exact ⟨⟨_, rfl⟩, .inl ⟨pre, hpre.out, hJs⟩⟩

set_option maxRecDepth 100000 in
set_option maxHeartbeats 1000000 in
theorem backSide1_iter (b1 g n cap : Nat) (a : Option Addr) (o : Obj) (xs : List (ByteArray × Bool)) (w0 : World) (hn : n = xs.length) (hcap : cap ≤ maxLen) (hnc : n ≤ cap) (h32 : ∀ x ∈ xs, x.1.size = 32) (h1 : w0.heap[b1]? = some (.cells #[.slice a n cap] 123 (0, 0))) (h2 : w0.heap[g]? = some o)
    (hcl : ∀ W : World, W.heap[g]? = some o → ∀ k s, xs[k]? = some s → ∃ b off, a = some ⟨b, off, none⟩ ∧ W.cell? ⟨b, off + k * 2, none⟩ = some (.string s.1) ∧ W.cell? ⟨b, off + k * 2 + 1, none⟩ = some (.bool s.2)) :
    Iter Tryz.prog 120 #[.pointer (some ⟨b1, 0, none⟩)] (fun x : DgX => #[.int .i64 (x.1.1 : Nat), .agg #[.string x.1.2.1, .bool x.1.2.2]]) (fun A B => B.heap[b1]? = A.heap[b1]? ∧ B.heap[g]? = A.heap[g]?) none (fun ys => ys.map (fun x => x.1.2) = xs.reverse) (fun _ => True) n w0 := by
  intro F m hF hro l J Jx W hW hJ hJx hY h0
  have hbl1 : b1 < w0.heap.size := (Array.getElem?_eq_some_iff.1 h1).1
  have hbl2 : g < w0.heap.size := (Array.getElem?_eq_some_iff.1 h2).1
  have H1 : Hid (W.heap[b1]? = some (.cells #[.slice a n cap] 123 (0, 0))) := Lib.hid ((hW.block b1 hbl1).trans h1)
  have H2 : Hid (W.heap[g]? = some o) := Lib.hid ((hW.block g hbl2).trans h2)
  have HCL := Lib.hid hcl
  have H32 := Lib.hid h32
  have HN := Lib.hid hn
  clear h1 h2 hW hcl h32 hn
  unfold maxLen at hcap
  have cI : W.cell? ⟨b1, 0, none⟩ = some (.slice a n cap) := cell_of_row W _ 0 _ _ _ H1.out
  refine callsIn_of_wp Tryz.func120 rfl (hF.1 _) ?_ hro
  simp only [Tryz.ntmps120, List.size_toArray, List.length_cons, List.length_nil, Nat.reduceAdd, Nat.reduceSub, Array.replicate_succ, Array.replicate_zero, List.push_toArray, List.append_toArray, List.nil_append, List.cons_append]
  have f0 : IntKind.i64.wrap ((n : Int) - 1) = (n : Int) - 1 := IntWalk.i64_in _ (by omega)
  gi_wp2
  clear cI f0
  gi_loopw [3] (fun i wr => ∃ (pre : List DgX) (k : Nat), k ≤ n ∧ i = .int .i64 ((k : Int) - 1) ∧ Hid (pre.map (fun x => x.1.2) = (xs.drop k).reverse) ∧ Hid (wr.heap[b1]? = some (.cells #[.slice a n cap] 123 (0, 0))) ∧ Hid (wr.heap[g]? = some o) ∧ J pre wr) (fun i wr => (intOf i + 1).toNat)
  case atStart => exact ⟨[], n, by omega, by go_num, Lib.hid (by rw [HN.out, List.drop_length]; rfl), H1, H2, h0⟩
  case round =>
    obtain ⟨pre, k, hk, rfl, hpre, g1, g2, hJs⟩ := hrel
    have c1 : wr.cell? ⟨b1, 0, none⟩ = some (.slice a n cap) := cell_of_row wr _ 0 _ _ _ g1.out
    by_cases hlt : 0 < k
    · obtain ⟨j, hj⟩ : ∃ j, k = j + 1 := ⟨k - 1, by omega⟩
      subst hj
      have e1 : ((j + 1 : Nat) : Int) - 1 = (j : Int) := by omega
      rw [e1]
      obtain ⟨x, hx⟩ : ∃ x, xs[j]? = some x := ⟨_, List.getElem?_eq_getElem (by rw [← HN.out]; omega)⟩
      obtain ⟨b, off, rfl, c2, c3⟩ := HCL.out wr g2.out j x hx
      have hx32 := H32.out x (List.mem_of_getElem? hx)
      have HD := Lib.hid (drop_rev hx)
      have hlen : pre.length < n := by
        have h3 := congrArg List.length hpre.out
        rw [List.length_map, List.length_reverse, List.length_drop, ← HN.out] at h3
        omega
      obtain ⟨fn, tmps, assign, body, hy, hR⟩ := hY pre ⟨(j, x), hx32⟩ wr hJs hlen
      have hy : Sem.run _ (Instr.yield l #[.int .i64 (j : Nat), .agg #[.string x.1, .bool x.2]]) _ = _ := hy
      have b1' : (j : Int) < (n : Int) := by omega
      have hw64 : wrap64 ((j : Int) - 1) = (j : Int) - 1 := IntWalk.wrap64_in _ ⟨by omega, by omega⟩
      clear hx e1
      gi_wp2
      refine ⟨fun h => (by rw [hF.2.1] at h; cases h), hR.mono ?_⟩
      rintro e W3 (⟨rfl, hJ3, hk3⟩ | ⟨rfl, hJx3⟩)
      · have h1 : Hid (W3.heap[b1]? = some (.cells #[.slice (some ⟨b, off, none⟩) n cap] 123 (0, 0))) := Lib.hid (hk3.1.trans g1.out)
        have h2 : Hid (W3.heap[g]? = some o) := Lib.hid (hk3.2.trans g2.out)
        clear hk3
        gi_wp2
        go_roundw
        case rel => exact ⟨pre ++ [⟨(j, x), hx32⟩], j, by omega, by go_num, Lib.hid (by rw [List.map_append, hpre.out, HD.out]; rfl), h1, h2, hJ3⟩
        case measure => simp [intOf] <;> omega
      · gi_wp2
        refine bodyPost_ret (results_none rfl _ _ _) rfl ?_
        exact ⟨⟨_, rfl⟩, .inr ⟨_, trivial, hJx3⟩⟩
    · have ek : k = 0 := by omega
      subst ek
      have e1 : ((0 : Nat) : Int) - 1 = -1 := by omega
      rw [e1]
      gi_wp2
      go_end0
      exact ⟨⟨_, rfl⟩, .inl ⟨pre, hpre.out, hJs⟩⟩
end Go.Proofs.YtinfpbkbnhcifaaGreatDoor

/- Proofs of entries and of growth: what they are, that they are accepted, how long they are. Plain theory, no condition. -/
namespace Go.Proofs.YtinfpbkbnhcifaaGreatDoor

section
variable {S : Type} (leaf : S → S) (node : S → S → S) (none' : S)

/-- The proof of an entry, the last digest first. -/
def downL (l : List S) (i : Nat) : List S :=
  if _h : l.length ≤ 1 then []
  else if i < leftN l.length then rootL leaf node none' (l.drop (leftN l.length)) :: downL (l.take (leftN l.length)) i
  else rootL leaf node none' (l.take (leftN l.length)) :: downL (l.drop (leftN l.length)) (i - leftN l.length)
termination_by l.length
decreasing_by
  · have := leftN_lt (n := l.length) (by omega); rw [List.length_take]; omega
  · have := leftN_lt (n := l.length) (by omega); have := leftN_pos l.length; rw [List.length_drop]; omega

/-- The value of a proof, the last digest first. -/
def valueL (s : S) : List S → Nat → Nat → Option S
  | [], n, _ => if n ≤ 1 then some (leaf s) else none
  | x :: r, n, i => if n ≤ 1 then none
    else if i < leftN n then (valueL s r (leftN n) i).map (fun v => node v x)
    else (valueL s r (n - leftN n) (i - leftN n)).map (fun v => node x v)

theorem value_down (l : List S) (i : Nat) (s : S) (h : l[i]? = some s) : valueL leaf node s (downL leaf node none' l i) l.length i = some (rootL leaf node none' l) := by
  obtain ⟨n, hn⟩ : ∃ n, l.length = n := ⟨_, rfl⟩
  induction n using Nat.strongRecOn generalizing l i with
  | _ n ih =>
    have hi : i < l.length := by
      rcases Nat.lt_or_ge i l.length with h' | h'
      · exact h'
      · rw [List.getElem?_eq_none h'] at h; cases h
    rw [downL]
    split
    · rename_i h1
      obtain ⟨a, rfl⟩ : ∃ a, l = [a] := by
        match l, h1, hi with
        | [a], _, _ => exact ⟨a, rfl⟩
      have : i = 0 := by simp at hi; omega
      subst this
      simp at h
      subst h
      rfl
    · rename_i h1
      have h3 := leftN_lt (n := l.length) (by omega)
      have h4 := leftN_pos l.length
      rw [rootL_two leaf node none' l (by omega)]
      generalize hk : leftN l.length = k at *
      split
      · rename_i h2
        have := ih k (by omega) (l.take k) i (by rw [List.getElem?_take_of_lt h2]; exact h) (by rw [List.length_take]; omega)
        rw [List.length_take, Nat.min_eq_left (by omega)] at this
        rw [valueL, if_neg (by omega), hk, if_pos h2, this]
        rfl
      · rename_i h2
        have := ih (n - k) (by omega) (l.drop k) (i - k) (by rw [List.getElem?_drop, show k + (i - k) = i by omega]; exact h) (by rw [List.length_drop]; omega)
        rw [List.length_drop] at this
        rw [valueL, if_neg (by omega), hk, if_neg h2, this]
        rfl

theorem downL_len (l : List S) (i : Nat) : (downL leaf node none' l i).length ≤ l.length := by
  obtain ⟨n, hn⟩ : ∃ n, l.length = n := ⟨_, rfl⟩
  induction n using Nat.strongRecOn generalizing l i with
  | _ n ih =>
    rw [downL]
    split
    · simp
    · have h3 := leftN_lt (n := l.length) (by omega)
      have h4 := leftN_pos l.length
      split
      · have := ih (leftN l.length) (by omega) (l.take (leftN l.length)) i (by rw [List.length_take]; omega)
        rw [List.length_take] at this
        simp only [List.length_cons]; omega
      · have := ih (l.length - leftN l.length) (by omega) (l.drop (leftN l.length)) (i - leftN l.length) (by rw [List.length_drop])
        rw [List.length_drop] at this
        simp only [List.length_cons]; omega

/-- All digests of a proof are roots or such. -/
theorem downL_all (p : S → Prop) (hr : ∀ l, l ≠ [] → p (rootL leaf node none' l)) (l : List S) (i : Nat) : ∀ x ∈ downL leaf node none' l i, p x := by
  obtain ⟨n, hn⟩ : ∃ n, l.length = n := ⟨_, rfl⟩
  induction n using Nat.strongRecOn generalizing l i with
  | _ n ih =>
    rw [downL]
    split
    · simp
    · have h3 := leftN_lt (n := l.length) (by omega)
      have h4 := leftN_pos l.length
      split
      · intro x hx
        rcases List.mem_cons.1 hx with rfl | hx
        · refine hr _ fun e => ?_
          have := congrArg List.length e
          rw [List.length_drop, List.length_nil] at this; omega
        · exact ih (leftN l.length) (by omega) (l.take (leftN l.length)) i (by rw [List.length_take]; omega) x hx
      · intro x hx
        rcases List.mem_cons.1 hx with rfl | hx
        · refine hr _ fun e => ?_
          have := congrArg List.length e
          rw [List.length_take, List.length_nil] at this; omega
        · exact ih (l.length - leftN l.length) (by omega) (l.drop (leftN l.length)) (i - leftN l.length) (by rw [List.length_drop]) x hx

/-- The proof of growth from m entries on, the last digest first. -/
def extD (l : List S) (m : Nat) (whole : Bool) : List S :=
  if _h : l.length ≤ m ∨ l.length ≤ 1 then (if whole then [] else [rootL leaf node none' l])
  else if m ≤ leftN l.length then rootL leaf node none' (l.drop (leftN l.length)) :: extD (l.take (leftN l.length)) m whole
  else rootL leaf node none' (l.take (leftN l.length)) :: extD (l.drop (leftN l.length)) (m - leftN l.length) false
termination_by l.length
decreasing_by
  · have := leftN_lt (n := l.length) (by omega); rw [List.length_take]; omega
  · have := leftN_lt (n := l.length) (by omega); have := leftN_pos l.length; rw [List.length_drop]; omega

/-- The two values of a proof of growth, the last digest first. -/
def bothL (old : S) : List S → Nat → Nat → Bool → Option (S × S)
  | [], m, n, whole => if n ≤ m ∧ whole = true then some (old, old) else none
  | x :: r, m, n, whole => if n ≤ m then (if whole = true then none else if r = [] then some (x, x) else none)
    else if m ≤ leftN n then (bothL old r m (leftN n) whole).map (fun v => (v.1, node v.2 x))
    else (bothL old r (m - leftN n) (n - leftN n) false).map (fun v => (node x v.1, node x v.2))

theorem extD_len (l : List S) (m : Nat) (whole : Bool) : (extD leaf node none' l m whole).length ≤ l.length + 1 := by
  obtain ⟨n, hn⟩ : ∃ n, l.length = n := ⟨_, rfl⟩
  induction n using Nat.strongRecOn generalizing l m whole with
  | _ n ih =>
    rw [extD]
    split
    · cases whole <;> simp
    · have h3 := leftN_lt (n := l.length) (by omega)
      have h4 := leftN_pos l.length
      split
      · have := ih (leftN l.length) (by omega) (l.take (leftN l.length)) m whole (by rw [List.length_take]; omega)
        rw [List.length_take] at this
        simp only [List.length_cons]; omega
      · have := ih (l.length - leftN l.length) (by omega) (l.drop (leftN l.length)) (m - leftN l.length) false (by rw [List.length_drop])
        rw [List.length_drop] at this
        simp only [List.length_cons]; omega

theorem extD_all (p : S → Prop) (hr : ∀ l, l ≠ [] → p (rootL leaf node none' l)) (l : List S) (hl : l ≠ []) (m : Nat) (whole : Bool) : ∀ x ∈ extD leaf node none' l m whole, p x := by
  obtain ⟨n, hn⟩ : ∃ n, l.length = n := ⟨_, rfl⟩
  induction n using Nat.strongRecOn generalizing l m whole with
  | _ n ih =>
    rw [extD]
    split
    · cases whole
      · intro x hx; simp at hx; subst hx; exact hr l hl
      · simp
    · have h3 := leftN_lt (n := l.length) (by omega)
      have h4 := leftN_pos l.length
      have n1 : l.take (leftN l.length) ≠ [] := fun e => by
        have := congrArg List.length e
        rw [List.length_take, List.length_nil] at this; omega
      have n2 : l.drop (leftN l.length) ≠ [] := fun e => by
        have := congrArg List.length e
        rw [List.length_drop, List.length_nil] at this; omega
      split
      · intro x hx
        rcases List.mem_cons.1 hx with rfl | hx
        · exact hr _ n2
        · exact ih (leftN l.length) (by omega) (l.take (leftN l.length)) n1 m whole (by rw [List.length_take]; omega) x hx
      · intro x hx
        rcases List.mem_cons.1 hx with rfl | hx
        · exact hr _ n1
        · exact ih (l.length - leftN l.length) (by omega) (l.drop (leftN l.length)) n2 (m - leftN l.length) false (by rw [List.length_drop]) x hx
end
end Go.Proofs.YtinfpbkbnhcifaaGreatDoor
