/- Trees of digests: plain theory. The root by halves, the root by a stack of whole parts, proofs of entries and their completeness. No condition. -/

namespace Go.Proofs.YtinfpbkbnhcifaaGreatDoor

/-- The greatest power of two that is less than n (n at least 2). -/
def leftN (n : Nat) : Nat := 2 ^ Nat.log2 (n - 1)
theorem leftN_pos (n : Nat) : 0 < leftN n := Nat.two_pow_pos _
theorem leftN_lt {n : Nat} (h : 2 ≤ n) : leftN n < n := by
  have := Nat.log2_self_le (n := n - 1) (by omega)
  unfold leftN
  omega
theorem leftN_ge {n : Nat} (h : 2 ≤ n) : n ≤ 2 * leftN n := by
  have := Nat.lt_log2_self (n := n - 1)
  unfold leftN
  rw [Nat.pow_succ] at this
  omega
theorem leftN_of {n k : Nat} (h1 : 2 ^ k < n) (h2 : n ≤ 2 * 2 ^ k) : leftN n = 2 ^ k := by
  unfold leftN
  congr 1
  have hn : n - 1 ≠ 0 := by have := Nat.two_pow_pos k; omega
  rw [Nat.log2_eq_iff hn]
  rw [Nat.pow_succ]
  omega

section
variable {S : Type} (leaf : S → S) (node : S → S → S) (none' : S)

/-- The root of a list, by halves. -/
def rootF : Nat → List S → S
  | 0, _ => none'
  | f + 1, l => match l with
    | [] => none'
    | [s] => leaf s
    | l => node (rootF f (l.take (leftN l.length))) (rootF f (l.drop (leftN l.length)))
def rootL (l : List S) : S := rootF leaf node none' l.length l

theorem rootF_two (f : Nat) (l : List S) (h : 2 ≤ l.length) : rootF leaf node none' (f + 1) l = node (rootF leaf node none' f (l.take (leftN l.length))) (rootF leaf node none' f (l.drop (leftN l.length))) := by
  match l, h with
  | _ :: _ :: _, _ => rfl

theorem rootF_more (f g : Nat) (l : List S) (hf : l.length ≤ f) (hg : l.length ≤ g) : rootF leaf node none' f l = rootF leaf node none' g l := by
  induction f generalizing g l with
  | zero =>
    have : l = [] := List.eq_nil_of_length_eq_zero (by omega)
    subst this
    cases g <;> rfl
  | succ f ih =>
    cases g with
    | zero =>
      have : l = [] := List.eq_nil_of_length_eq_zero (by omega)
      subst this; rfl
    | succ g =>
      rcases Nat.lt_or_ge l.length 2 with h | h
      · match l, h with
        | [], _ => rfl
        | [_], _ => rfl
      · have h3 := leftN_lt h
        have h4 := leftN_pos l.length
        rw [rootF_two leaf node none' f l h, rootF_two leaf node none' g l h]
        generalize leftN l.length = k at *
        rw [ih g (l.take k) (by rw [List.length_take]; omega) (by rw [List.length_take]; omega), ih g (l.drop k) (by rw [List.length_drop]; omega) (by rw [List.length_drop]; omega)]

theorem rootL_nil : rootL leaf node none' [] = none' := rfl
theorem rootL_one (s : S) : rootL leaf node none' [s] = leaf s := rfl
theorem rootL_two (l : List S) (h : 2 ≤ l.length) : rootL leaf node none' l = node (rootL leaf node none' (l.take (leftN l.length))) (rootL leaf node none' (l.drop (leftN l.length))) := by
  have h3 := leftN_lt h
  have h4 := leftN_pos l.length
  obtain ⟨n, hn⟩ : ∃ n, l.length = n + 1 := ⟨l.length - 1, by omega⟩
  have e : rootL leaf node none' l = rootF leaf node none' (n + 1) l := by unfold rootL; rw [hn]
  rw [e, rootF_two leaf node none' n l h]
  generalize leftN l.length = k at *
  unfold rootL
  rw [rootF_more leaf node none' n (l.take k).length (l.take k) (by rw [List.length_take]; omega) (Nat.le_refl _), rootF_more leaf node none' n (l.drop k).length (l.drop k) (by rw [List.length_drop]; omega) (Nat.le_refl _)]

theorem rootL_join (a b : List S) (k : Nat) (ha : a.length = 2 ^ k) (h1 : 0 < b.length) (h2 : b.length ≤ 2 ^ k) : rootL leaf node none' (a ++ b) = node (rootL leaf node none' a) (rootL leaf node none' b) := by
  have h4 := Nat.two_pow_pos k
  have hl : leftN (a ++ b).length = 2 ^ k := leftN_of (by rw [List.length_append]; omega) (by rw [List.length_append]; omega)
  rw [rootL_two leaf node none' _ (by rw [List.length_append]; omega), hl, ← ha, List.take_left, List.drop_left]

/-! ### The stack of whole parts -/
/-- The sizes of the parts fall, each a power of two. -/
def Falls : List Nat → Prop
  | [] => True
  | [_] => True
  | k :: m :: t => m < k ∧ Falls (m :: t)
/-- The parts of a list, of so many elements each. -/
inductive Parts : List Nat → List (List S) → Prop
  | nil : Parts [] []
  | cons {k : Nat} {p : List S} {ks : List Nat} {ps : List (List S)} : p.length = 2 ^ k → Parts ks ps → Parts (k :: ks) (p :: ps)

theorem Parts.len {ks : List Nat} {ps : List (List S)} (h : Parts ks ps) : ks.length = ps.length := by
  induction h with
  | nil => rfl
  | cons _ _ ih => simp [ih]
theorem Parts.snoc {ks : List Nat} {ps : List (List S)} (h : Parts ks ps) (k : Nat) (p : List S) (hp : p.length = 2 ^ k) : Parts (ks ++ [k]) (ps ++ [p]) := by
  induction h with
  | nil => exact .cons hp .nil
  | cons h1 _ ih => exact .cons h1 ih
theorem Parts.unsnoc {ks : List Nat} {ps : List (List S)} (k : Nat) (h : Parts (ks ++ [k]) ps) : ∃ ps' p, ps = ps' ++ [p] ∧ Parts ks ps' ∧ p.length = 2 ^ k := by
  induction ks generalizing ps with
  | nil =>
    cases h with
    | cons h1 h2 => cases h2; exact ⟨[], _, rfl, .nil, h1⟩
  | cons a ks ih =>
    cases h with
    | cons h1 h2 =>
      obtain ⟨ps', p, rfl, h3, h4⟩ := ih h2
      exact ⟨_ :: ps', p, rfl, .cons h1 h3, h4⟩
theorem parts_sum {k : Nat} {ks : List Nat} {ps : List (List S)} (h : Parts (k :: ks) ps) (hf : Falls (k :: ks)) : ps.flatten.length < 2 * 2 ^ k ∧ 0 < ps.flatten.length := by
  induction ks generalizing k ps with
  | nil =>
    cases h with
    | cons h1 h2 =>
      cases h2
      have := Nat.two_pow_pos k
      simp [h1]; omega
  | cons m ks ih =>
    cases h with
    | cons h1 h2 =>
      obtain ⟨h3, h4⟩ := ih h2 hf.2
      have h5 : 2 * 2 ^ m ≤ 2 ^ k := by
        have := Nat.pow_le_pow_right (n := 2) (by omega) (show m + 1 ≤ k from hf.1)
        rw [Nat.pow_succ] at this; omega
      simp only [List.flatten_cons, List.length_append]
      omega

/-- What the stack's roots are folded to. -/
def foldS : List S → S
  | [] => none'
  | [r] => r
  | r :: t => node r (foldS t)

theorem foldS_root {ks : List Nat} {ps : List (List S)} (h : Parts ks ps) (hf : Falls ks) : foldS node none' (ps.map (rootL leaf node none')) = rootL leaf node none' ps.flatten := by
  induction ks generalizing ps with
  | nil => cases h; rfl
  | cons k ks ih =>
    cases h with
    | @cons _ p _ ps h1 h2 =>
      cases ks with
      | nil => cases h2; simp [foldS]
      | cons m ks =>
        have hs := parts_sum h2 hf.2
        have h5 : 2 * 2 ^ m ≤ 2 ^ k := by
          have := Nat.pow_le_pow_right (n := 2) (by omega) (show m + 1 ≤ k from hf.1)
          rw [Nat.pow_succ] at this; omega
        have e := ih h2 hf.2
        cases h2 with
        | @cons _ p2 _ ps2 h6 h7 =>
          rw [List.flatten_cons, rootL_join leaf node none' p _ k h1 hs.2 (by omega), ← e]
          rfl

theorem falls_snoc_lt {ks : List Nat} {m k : Nat} (h : Falls (ks ++ [m])) (hk : k < m) : Falls (ks ++ [m] ++ [k]) := by
  induction ks with
  | nil => exact ⟨hk, trivial⟩
  | cons a ks ih =>
    cases ks with
    | nil => exact ⟨h.1, ih h.2⟩
    | cons b ks => exact ⟨h.1, ih h.2⟩
theorem falls_init {ks : List Nat} {m : Nat} (h : Falls (ks ++ [m])) : Falls ks := by
  induction ks with
  | nil => trivial
  | cons a ks ih =>
    cases ks with
    | nil => trivial
    | cons b ks => exact ⟨h.1, ih h.2⟩
/-- The last but one part is not smaller than the last one's would-be place. -/
def Almost (ks : List Nat) (k : Nat) : Prop := Falls ks ∧ ∀ ks' m, ks = ks' ++ [m] → k ≤ m
theorem almost_zero {ks : List Nat} (h : Falls ks) : Almost ks 0 := ⟨h, fun _ _ _ => Nat.zero_le _⟩
theorem almost_done {ks : List Nat} {k : Nat} (h : Almost ks k) (hne : ∀ ks' m, ks = ks' ++ [m] → m ≠ k) : Falls (ks ++ [k]) := by
  rcases List.eq_nil_or_concat ks with rfl | ⟨ks', m, rfl⟩
  · trivial
  · rw [List.concat_eq_append] at *
    have h1 := h.2 ks' m rfl
    have h2 := hne ks' m rfl
    exact falls_snoc_lt h.1 (by omega)
theorem almost_merge {ks : List Nat} {k : Nat} (h : Almost (ks ++ [k]) k) : Almost ks (k + 1) := by
  refine ⟨falls_init h.1, fun ks' m e => ?_⟩
  subst e
  have : Falls ([m] ++ [k]) := by
    have hf := h.1
    clear h
    induction ks' with
    | nil => exact hf
    | cons a ks ih =>
      cases ks with
      | nil => exact ih hf.2
      | cons b ks => exact ih hf.2
  exact this.1
end
end Go.Proofs.YtinfpbkbnhcifaaGreatDoor

/- SHA-256 as plain arithmetic of naturals. No condition. -/
namespace Go.Proofs.YtinfpbkbnhcifaaGreatDoor

def W32 : Nat := 4294967296
/-- A word turned right by n places (1 to 31). -/
def rotr (x n : Nat) : Nat := x * 2 ^ (32 - n) % 4294967296 ||| x / 2 ^ n
def sg0 (x : Nat) : Nat := (rotr x 7 ^^^ rotr x 18) ^^^ x / 8
def sg1 (x : Nat) : Nat := (rotr x 17 ^^^ rotr x 19) ^^^ x / 1024
def Sg0 (a : Nat) : Nat := (rotr a 2 ^^^ rotr a 13) ^^^ rotr a 22
def Sg1 (e : Nat) : Nat := (rotr e 6 ^^^ rotr e 11) ^^^ rotr e 25
def chN (e f g : Nat) : Nat := (e &&& f) ^^^ ((4294967295 - e) &&& g)
def majN (a b c : Nat) : Nat := ((a &&& b) ^^^ (a &&& c)) ^^^ (b &&& c)

/-- The words of a block: the first 16, and each further one. -/
def wordN (b : List Nat) (i : Nat) : Nat := ((b.getD (4 * i) 0 * 16777216 ||| b.getD (4 * i + 1) 0 * 65536) ||| b.getD (4 * i + 2) 0 * 256) ||| b.getD (4 * i + 3) 0
def first16 (b : List Nat) : List Nat := (List.range 16).map (wordN b)
def nextW (w : List Nat) : Nat := (w.getD (w.length - 16) 0 + sg0 (w.getD (w.length - 15) 0) + w.getD (w.length - 7) 0 + sg1 (w.getD (w.length - 2) 0)) % 4294967296
def schedF : Nat → List Nat → List Nat
  | 0, w => w
  | n + 1, w => schedF n (w ++ [nextW w])
def sched (b : List Nat) : List Nat := schedF 48 (first16 b)

/-- The eight words of a computation. -/
structure H8 where
  a : Nat
  b : Nat
  c : Nat
  d : Nat
  e : Nat
  f : Nat
  g : Nat
  h : Nat

def t1 (v : H8) (k w : Nat) : Nat := (v.h + Sg1 v.e + chN v.e v.f v.g + k + w) % 4294967296
def t2 (v : H8) : Nat := (Sg0 v.a + majN v.a v.b v.c) % 4294967296
def roundH (v : H8) (k w : Nat) : H8 := ⟨(t1 v k w + t2 v) % 4294967296, v.a, v.b, v.c, (v.d + t1 v k w) % 4294967296, v.e, v.f, v.g⟩
def roundsH : List Nat → List Nat → H8 → H8
  | k :: ks, w :: ws, v => roundsH ks ws (roundH v k w)
  | _, _, v => v
def addH (x y : H8) : H8 := ⟨(x.a + y.a) % 4294967296, (x.b + y.b) % 4294967296, (x.c + y.c) % 4294967296, (x.d + y.d) % 4294967296, (x.e + y.e) % 4294967296, (x.f + y.f) % 4294967296, (x.g + y.g) % 4294967296, (x.h + y.h) % 4294967296⟩

def kN : List Nat := [
  0x428a2f98, 0x71374491, 0xb5c0fbcf, 0xe9b5dba5, 0x3956c25b, 0x59f111f1, 0x923f82a4, 0xab1c5ed5,
  0xd807aa98, 0x12835b01, 0x243185be, 0x550c7dc3, 0x72be5d74, 0x80deb1fe, 0x9bdc06a7, 0xc19bf174,
  0xe49b69c1, 0xefbe4786, 0x0fc19dc6, 0x240ca1cc, 0x2de92c6f, 0x4a7484aa, 0x5cb0a9dc, 0x76f988da,
  0x983e5152, 0xa831c66d, 0xb00327c8, 0xbf597fc7, 0xc6e00bf3, 0xd5a79147, 0x06ca6351, 0x14292967,
  0x27b70a85, 0x2e1b2138, 0x4d2c6dfc, 0x53380d13, 0x650a7354, 0x766a0abb, 0x81c2c92e, 0x92722c85,
  0xa2bfe8a1, 0xa81a664b, 0xc24b8b70, 0xc76c51a3, 0xd192e819, 0xd6990624, 0xf40e3585, 0x106aa070,
  0x19a4c116, 0x1e376c08, 0x2748774c, 0x34b0bcb5, 0x391c0cb3, 0x4ed8aa4a, 0x5b9cca4f, 0x682e6ff3,
  0x748f82ee, 0x78a5636f, 0x84c87814, 0x8cc70208, 0x90befffa, 0xa4506ceb, 0xbef9a3f7, 0xc67178f2]
def h0N : H8 := ⟨0x6a09e667, 0xbb67ae85, 0x3c6ef372, 0xa54ff53a, 0x510e527f, 0x9b05688c, 0x1f83d9ab, 0x5be0cd19⟩

/-- A block is processed. -/
def blockH (h : H8) (b : List Nat) : H8 := addH h (roundsH kN (sched b) h)
/-- .. all of them, each of 64 bytes. -/
def blocksF : Nat → H8 → List Nat → H8
  | 0, h, _ => h
  | n + 1, h, b => blocksF n (blockH h (b.take 64)) (b.drop 64)

def lenBytes (n : Nat) : List Nat := [8 * n / 2 ^ 56 % 256, 8 * n / 2 ^ 48 % 256, 8 * n / 2 ^ 40 % 256, 8 * n / 2 ^ 32 % 256, 8 * n / 2 ^ 24 % 256, 8 * n / 2 ^ 16 % 256, 8 * n / 2 ^ 8 % 256, 8 * n % 256]
/-- How many zeros are put behind n bytes and the mark. -/
def zerosN (n : Nat) : Nat := (119 - n % 64) % 64
def padN (s : List Nat) : List Nat := s ++ 128 :: (List.replicate (zerosN s.length) 0 ++ lenBytes s.length)
theorem padN_length (s : List Nat) : ∃ m, (padN s).length = 64 * (m + 1) := by
  unfold padN zerosN lenBytes
  simp only [List.length_append, List.length_cons, List.length_replicate, List.length_nil]
  refine ⟨(s.length + 8) / 64, ?_⟩
  omega

def bytesOfW (x : Nat) : List Nat := [x / 16777216 % 256, x / 65536 % 256, x / 256 % 256, x % 256]
def bytesOfH (v : H8) : List Nat := bytesOfW v.a ++ (bytesOfW v.b ++ (bytesOfW v.c ++ (bytesOfW v.d ++ (bytesOfW v.e ++ (bytesOfW v.f ++ (bytesOfW v.g ++ bytesOfW v.h))))))
theorem bytesOfH_length (v : H8) : (bytesOfH v).length = 32 := rfl
def shaN (s : List Nat) : List Nat := bytesOfH (blocksF ((padN s).length / 64) h0N (padN s))
theorem shaN_length (s : List Nat) : (shaN s).length = 32 := rfl

/-- The digest of a string. -/
def sumS (s : ByteArray) : ByteArray := ⟨((shaN (s.data.toList.map UInt8.toNat)).map UInt8.ofNat).toArray⟩
theorem sumS_size (s : ByteArray) : (sumS s).size = 32 := rfl
end Go.Proofs.YtinfpbkbnhcifaaGreatDoor

/- Proofs of entries and of growth: what they are, that they are accepted, how long they are. Plain theory, no condition. -/
namespace Go.Proofs.YtinfpbkbnhcifaaGreatDoor

section
variable {S : Type} (leaf : S → S) (node : S → S → S) (none' : S)

/-- The proof of an entry, the last digest first. -/
def downL (l : List S) (i : Nat) : List S :=
  if _h : l.length ≤ 1 then []
  else if i < leftN l.length then rootL leaf node none' (l.drop (leftN l.length)) :: downL (l.take (leftN l.length)) i
  else rootL leaf node none' (l.take (leftN l.length)) :: downL (l.drop (leftN l.length)) (i - leftN l.length)
termination_by l.length
decreasing_by
  · have := leftN_lt (n := l.length) (by omega); rw [List.length_take]; omega
  · have := leftN_lt (n := l.length) (by omega); have := leftN_pos l.length; rw [List.length_drop]; omega

/-- The value of a proof, the last digest first. -/
def valueL (s : S) : List S → Nat → Nat → Option S
  | [], n, _ => if n ≤ 1 then some (leaf s) else none
  | x :: r, n, i => if n ≤ 1 then none
    else if i < leftN n then (valueL s r (leftN n) i).map (fun v => node v x)
    else (valueL s r (n - leftN n) (i - leftN n)).map (fun v => node x v)

theorem value_down (l : List S) (i : Nat) (s : S) (h : l[i]? = some s) : valueL leaf node s (downL leaf node none' l i) l.length i = some (rootL leaf node none' l) := by
  obtain ⟨n, hn⟩ : ∃ n, l.length = n := ⟨_, rfl⟩
  induction n using Nat.strongRecOn generalizing l i with
  | _ n ih =>
    have hi : i < l.length := by
      rcases Nat.lt_or_ge i l.length with h' | h'
      · exact h'
      · rw [List.getElem?_eq_none h'] at h; cases h
    rw [downL]
    split
    · rename_i h1
      obtain ⟨a, rfl⟩ : ∃ a, l = [a] := by
        match l, h1, hi with
        | [a], _, _ => exact ⟨a, rfl⟩
      have : i = 0 := by simp at hi; omega
      subst this
      simp at h
      subst h
      rfl
    · rename_i h1
      have h3 := leftN_lt (n := l.length) (by omega)
      have h4 := leftN_pos l.length
      rw [rootL_two leaf node none' l (by omega)]
      generalize hk : leftN l.length = k at *
      split
      · rename_i h2
        have := ih k (by omega) (l.take k) i (by rw [List.getElem?_take_of_lt h2]; exact h) (by rw [List.length_take]; omega)
        rw [List.length_take, Nat.min_eq_left (by omega)] at this
        rw [valueL, if_neg (by omega), hk, if_pos h2, this]
        rfl
      · rename_i h2
        have := ih (n - k) (by omega) (l.drop k) (i - k) (by rw [List.getElem?_drop, show k + (i - k) = i by omega]; exact h) (by rw [List.length_drop]; omega)
        rw [List.length_drop] at this
        rw [valueL, if_neg (by omega), hk, if_neg h2, this]
        rfl

theorem downL_len (l : List S) (i : Nat) : (downL leaf node none' l i).length ≤ l.length := by
  obtain ⟨n, hn⟩ : ∃ n, l.length = n := ⟨_, rfl⟩
  induction n using Nat.strongRecOn generalizing l i with
  | _ n ih =>
    rw [downL]
    split
    · simp
    · have h3 := leftN_lt (n := l.length) (by omega)
      have h4 := leftN_pos l.length
      split
      · have := ih (leftN l.length) (by omega) (l.take (leftN l.length)) i (by rw [List.length_take]; omega)
        rw [List.length_take] at this
        simp only [List.length_cons]; omega
      · have := ih (l.length - leftN l.length) (by omega) (l.drop (leftN l.length)) (i - leftN l.length) (by rw [List.length_drop])
        rw [List.length_drop] at this
        simp only [List.length_cons]; omega

/-- All digests of a proof are roots or such. -/
theorem downL_all (p : S → Prop) (hr : ∀ l, l ≠ [] → p (rootL leaf node none' l)) (l : List S) (i : Nat) : ∀ x ∈ downL leaf node none' l i, p x := by
  obtain ⟨n, hn⟩ : ∃ n, l.length = n := ⟨_, rfl⟩
  induction n using Nat.strongRecOn generalizing l i with
  | _ n ih =>
    rw [downL]
    split
    · simp
    · have h3 := leftN_lt (n := l.length) (by omega)
      have h4 := leftN_pos l.length
      split
      · intro x hx
        rcases List.mem_cons.1 hx with rfl | hx
        · refine hr _ fun e => ?_
          have := congrArg List.length e
          rw [List.length_drop, List.length_nil] at this; omega
        · exact ih (leftN l.length) (by omega) (l.take (leftN l.length)) i (by rw [List.length_take]; omega) x hx
      · intro x hx
        rcases List.mem_cons.1 hx with rfl | hx
        · refine hr _ fun e => ?_
          have := congrArg List.length e
          rw [List.length_take, List.length_nil] at this; omega
        · exact ih (l.length - leftN l.length) (by omega) (l.drop (leftN l.length)) (i - leftN l.length) (by rw [List.length_drop]) x hx

/-- The proof of growth from m entries on, the last digest first. -/
def extD (l : List S) (m : Nat) (whole : Bool) : List S :=
  if _h : l.length ≤ m ∨ l.length ≤ 1 then (if whole then [] else [rootL leaf node none' l])
  else if m ≤ leftN l.length then rootL leaf node none' (l.drop (leftN l.length)) :: extD (l.take (leftN l.length)) m whole
  else rootL leaf node none' (l.take (leftN l.length)) :: extD (l.drop (leftN l.length)) (m - leftN l.length) false
termination_by l.length
decreasing_by
  · have := leftN_lt (n := l.length) (by omega); rw [List.length_take]; omega
  · have := leftN_lt (n := l.length) (by omega); have := leftN_pos l.length; rw [List.length_drop]; omega

/-- The two values of a proof of growth, the last digest first. -/
def bothL (old : S) : List S → Nat → Nat → Bool → Option (S × S)
  | [], m, n, whole => if n ≤ m ∧ whole = true then some (old, old) else none
  | x :: r, m, n, whole => if n ≤ m then (if whole = true then none else if r = [] then some (x, x) else none)
    else if m ≤ leftN n then (bothL old r m (leftN n) whole).map (fun v => (v.1, node v.2 x))
    else (bothL old r (m - leftN n) (n - leftN n) false).map (fun v => (node x v.1, node x v.2))

theorem both_ext (old : S) (l : List S) (m : Nat) (whole : Bool) (h1 : 1 ≤ m) (h2 : m ≤ l.length) (ho : whole = true → old = rootL leaf node none' (l.take m)) :
    bothL node old (extD leaf node none' l m whole) m l.length whole = some (rootL leaf node none' (l.take m), rootL leaf node none' l) := by
  obtain ⟨n, hn⟩ : ∃ n, l.length = n := ⟨_, rfl⟩
  induction n using Nat.strongRecOn generalizing l m whole with
  | _ n ih =>
    rw [extD]
    split
    · rename_i h
      have hm : m = l.length := by omega
      have ht : l.take m = l := List.take_of_length_le (by omega)
      rw [ht] at ho ⊢
      cases whole
      · simp only [Bool.false_eq_true, if_false]
        rw [bothL, if_pos (by omega)]
        simp
      · simp only [if_true]
        rw [bothL, if_pos ⟨by omega, rfl⟩, ho rfl]
    · rename_i h
      have h3 := leftN_lt (n := l.length) (by omega)
      have h4 := leftN_pos l.length
      have h5 := leftN_ge (n := l.length) (by omega)
      rw [rootL_two leaf node none' l (by omega)]
      generalize hk : leftN l.length = k at *
      split
      · rename_i h6
        have ht : (l.take k).take m = l.take m := by rw [List.take_take, Nat.min_eq_left h6]
        have := ih k (by omega) (l.take k) m whole h1 (by rw [List.length_take]; omega) (by rw [ht]; exact ho) (by rw [List.length_take]; omega)
        rw [List.length_take, Nat.min_eq_left (by omega), ht] at this
        rw [bothL, if_neg (by omega), hk, if_pos h6, this]
        rfl
      · rename_i h6
        have := ih (n - k) (by omega) (l.drop k) (m - k) false (by omega) (by rw [List.length_drop]; omega) (by simp) (by rw [List.length_drop]; omega)
        rw [List.length_drop] at this
        rw [bothL, if_neg (by omega), hk, if_neg h6, this]
        obtain ⟨j, hj⟩ : ∃ j, k = 2 ^ j := ⟨Nat.log2 (l.length - 1), by rw [← hk]; rfl⟩
        have e : l.take m = l.take k ++ (l.drop k).take (m - k) := by
          conv => lhs; rw [show m = k + (m - k) by omega, List.take_add]
        rw [e, rootL_join leaf node none' (l.take k) ((l.drop k).take (m - k)) j (by rw [List.length_take]; omega) (by rw [List.length_take, List.length_drop]; omega) (by rw [List.length_take, List.length_drop]; omega)]
        rfl

theorem extD_len (l : List S) (m : Nat) (whole : Bool) : (extD leaf node none' l m whole).length ≤ l.length + 1 := by
  obtain ⟨n, hn⟩ : ∃ n, l.length = n := ⟨_, rfl⟩
  induction n using Nat.strongRecOn generalizing l m whole with
  | _ n ih =>
    rw [extD]
    split
    · cases whole <;> simp
    · have h3 := leftN_lt (n := l.length) (by omega)
      have h4 := leftN_pos l.length
      split
      · have := ih (leftN l.length) (by omega) (l.take (leftN l.length)) m whole (by rw [List.length_take]; omega)
        rw [List.length_take] at this
        simp only [List.length_cons]; omega
      · have := ih (l.length - leftN l.length) (by omega) (l.drop (leftN l.length)) (m - leftN l.length) false (by rw [List.length_drop])
        rw [List.length_drop] at this
        simp only [List.length_cons]; omega

theorem extD_all (p : S → Prop) (hr : ∀ l, l ≠ [] → p (rootL leaf node none' l)) (l : List S) (hl : l ≠ []) (m : Nat) (whole : Bool) : ∀ x ∈ extD leaf node none' l m whole, p x := by
  obtain ⟨n, hn⟩ : ∃ n, l.length = n := ⟨_, rfl⟩
  induction n using Nat.strongRecOn generalizing l m whole with
  | _ n ih =>
    rw [extD]
    split
    · cases whole
      · intro x hx; simp at hx; subst hx; exact hr l hl
      · simp
    · have h3 := leftN_lt (n := l.length) (by omega)
      have h4 := leftN_pos l.length
      have n1 : l.take (leftN l.length) ≠ [] := fun e => by
        have := congrArg List.length e
        rw [List.length_take, List.length_nil] at this; omega
      have n2 : l.drop (leftN l.length) ≠ [] := fun e => by
        have := congrArg List.length e
        rw [List.length_drop, List.length_nil] at this; omega
      split
      · intro x hx
        rcases List.mem_cons.1 hx with rfl | hx
        · exact hr _ n2
        · exact ih (leftN l.length) (by omega) (l.take (leftN l.length)) n1 m whole (by rw [List.length_take]; omega) x hx
      · intro x hx
        rcases List.mem_cons.1 hx with rfl | hx
        · exact hr _ n1
        · exact ih (l.length - leftN l.length) (by omega) (l.drop (leftN l.length)) n2 (m - leftN l.length) false (by rw [List.length_drop]) x hx
end
end Go.Proofs.YtinfpbkbnhcifaaGreatDoor
