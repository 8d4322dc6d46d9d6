/- What the functions of package register answer: plain functions, and what they say of each other. No condition. -/
import Derived.Test.YtinfpbkbnhcifaaGreatDoorQDG18
import Derived.Test.YtinfpbkbnhcifaaGreatDoorQDG17
namespace Go.Proofs.YtinfpbkbnhcifaaGreatDoor

structure HeadP where
  car : Int
  siz : Int
  root : ByteArray
  sl : ByteArray
deriving DecidableEq

structure ItemP where
  idx : Int
  ent : ByteArray
  prf : List ByteArray
deriving DecidableEq

structure PartP where
  head : HeadP
  items : List ItemP
deriving DecidableEq

structure RegP where
  car : Int
  ents : List ByteArray
deriving DecidableEq

/-- The bytes that are signed for a head, of small numbers. -/
def contentB (h : HeadP) : ByteArray := ⟨([8, UInt8.ofNat (2 * h.car.toNat), UInt8.ofNat (2 * h.siz.toNat)] ++ h.root.data.toList).toArray⟩
def signedB (key : ByteArray) (h : HeadP) : ByteArray := nodeS key (leafS (contentB h))
theorem signedB_size (key : ByteArray) (h : HeadP) : (signedB key h).size = 32 := rfl
def validB (r : RegP) : Bool := decide (0 ≤ r.car ∧ r.car ≤ 7 ∧ r.ents.length ≤ 60 ∧ ∀ s ∈ r.ents, s.size ≤ 1000)

def headS (key : ByteArray) (car : Int) (ents : List ByteArray) (n : Nat) : HeadP :=
  { car := car, siz := n, root := rootB (ents.take n), sl := signedB key { car := car, siz := n, root := rootB (ents.take n), sl := ⟨#[]⟩ } }
def signB (key : ByteArray) (r : RegP) (n : Int) : Option HeadP :=
  if key.size = 32 ∧ validB r = true ∧ 0 ≤ n ∧ n ≤ r.ents.length then some (headS key r.car r.ents n.toNat) else none
def genuineB (key : ByteArray) (h : HeadP) : Bool :=
  decide (key.size = 32 ∧ (0 ≤ h.car ∧ h.car ≤ 7) ∧ (0 ≤ h.siz ∧ h.siz ≤ 60) ∧ h.root.size = 32 ∧ h.sl = signedB key h)

def proofB (l : List ByteArray) (i : Nat) : List ByteArray := (downL leafS nodeS (sumS ⟨#[]⟩) l i).reverse
/-- The items that a part shows, if the indices ascend and lie below n. -/
def itemsB (ents : List ByteArray) (n : Nat) : List Int → Option Int → Option (List ItemP)
  | [], _ => some []
  | i :: l, prev => if 0 ≤ i ∧ i < n ∧ (∀ j, prev = some j → j < i) then
      (itemsB ents n l (some i)).map (fun z => { idx := i, ent := ents.getD i.toNat ⟨#[]⟩, prf := proofB (ents.take n) i.toNat } :: z) else none
def showB (key : ByteArray) (r : RegP) (n : Int) (l : List Int) : Option PartP :=
  match signB key r n with
  | none => none
  | some h => (itemsB r.ents n.toNat l none).map fun z => { head := h, items := z }

def verifyB (root : ByteArray) (n i : Int) (s : ByteArray) (pr : List ByteArray) : Bool :=
  if 0 ≤ i ∧ i < n ∧ pr.all isDig = true then verB root n.toNat i.toNat s pr else false
def itemOk (root : ByteArray) (n : Int) (x : ItemP) (prev : Option Int) : Bool :=
  decide (∀ j, prev = some j → j < x.idx) && decide (x.ent.size ≤ 1000) && verifyB root n x.idx x.ent x.prf
def itemsOk (root : ByteArray) (n : Int) : List ItemP → Option Int → Bool
  | [], _ => true
  | x :: xs, prev => itemOk root n x prev && itemsOk root n xs (some x.idx)
def checkB (key : ByteArray) (p : PartP) : Bool := genuineB key p.head && itemsOk p.head.root p.head.siz p.items none

def grownB (r : RegP) (m n : Int) : Option (List ByteArray) :=
  if validB r = true ∧ (0 ≤ n ∧ n ≤ r.ents.length) ∧ (0 ≤ m ∧ m ≤ n) then
    some (if m = 0 then [] else (extB (r.ents.take n.toNat) m.toNat true).reverse) else none
def vextB (old : ByteArray) (m : Int) (root : ByteArray) (n : Int) (pr : List ByteArray) : Bool :=
  if m ≤ n ∧ pr.all isDig = true then vexB old m.toNat root n.toNat pr else false
def extendsB (key : ByteArray) (old h : HeadP) (pr : List ByteArray) : Bool :=
  genuineB key old && (genuineB key h && (decide (old.car = h.car) && vextB old.root old.siz h.root h.siz pr))

/-- What is known at an index: the last item with it. -/
def knownB : List ItemP → Int → Option ByteArray
  | [], _ => none
  | x :: xs, i => match knownB xs i with
    | some s => some s
    | none => if x.idx = i then some x.ent else none
def differs (k : Int → Option ByteArray) (x : ItemP) : Bool :=
  match k x.idx with
  | none => false
  | some s => decide (s ≠ x.ent)
def convB (a b : PartP) : Bool :=
  decide (a.head.car = b.head.car) && (decide (a.head.siz = b.head.siz ∧ a.head.root ≠ b.head.root) || b.items.any (differs (knownB a.items)))
def convictsB (key : ByteArray) (a b : PartP) : Bool := checkB key a && (checkB key b && convB a b)

/-! ### What they say of each other -/
theorem sign_some {key : ByteArray} {r : RegP} {n : Int} {h : HeadP} (e : signB key r n = some h) : key.size = 32 ∧ validB r = true ∧ 0 ≤ n ∧ n ≤ r.ents.length ∧ h = headS key r.car r.ents n.toNat := by
  unfold signB at e
  split at e
  · rename_i hc
    cases e
    exact ⟨hc.1, hc.2.1, hc.2.2.1, hc.2.2.2, rfl⟩
  · cases e
theorem valid_parts {r : RegP} (h : validB r = true) : 0 ≤ r.car ∧ r.car ≤ 7 ∧ r.ents.length ≤ 60 ∧ ∀ s ∈ r.ents, s.size ≤ 1000 := by
  unfold validB at h
  exact of_decide_eq_true h
theorem head_genuine {key : ByteArray} {car : Int} {ents : List ByteArray} {n : Nat} (hk : key.size = 32) (hc : 0 ≤ car ∧ car ≤ 7) (hn : n ≤ 60) : genuineB key (headS key car ents n) = true := by
  unfold genuineB
  apply decide_eq_true
  refine ⟨hk, hc, ⟨?_, ?_⟩, rootB_size _, rfl⟩
  · show (0 : Int) ≤ (n : Int); omega
  · show (n : Int) ≤ 60; omega
theorem sign_genuine {key : ByteArray} {r : RegP} {n : Int} {h : HeadP} (e : signB key r n = some h) : genuineB key h = true := by
  obtain ⟨h1, h2, h3, h4, rfl⟩ := sign_some e
  obtain ⟨a, b, c, _⟩ := valid_parts h2
  exact head_genuine h1 ⟨a, b⟩ (by omega)

theorem verify_down (l : List ByteArray) (i : Nat) (h : i < l.length) : verB (rootB l) l.length i (l.getD i ⟨#[]⟩) (proofB l i) = true := by
  unfold verB proofB
  rw [List.reverse_reverse]
  apply decide_eq_true
  refine value_down leafS nodeS (sumS ⟨#[]⟩) l i _ ?_
  rw [List.getD_eq_getElem?_getD, List.getElem?_eq_getElem h]
  rfl
theorem proofB_dig (l : List ByteArray) (i : Nat) : (proofB l i).all isDig = true := by
  unfold proofB
  rw [List.all_reverse, List.all_eq_true]
  intro x hx
  unfold isDig
  exact decide_eq_true (downL_all leafS nodeS (sumS ⟨#[]⟩) (fun x => x.size = 32) (fun l _ => rootB_size l) l i x hx)

theorem items_ok {ents : List ByteArray} {n : Nat} (hn : n ≤ ents.length) (hs : ∀ s ∈ ents, s.size ≤ 1000) : ∀ (l : List Int) (prev : Option Int) (z : List ItemP), itemsB ents n l prev = some z → itemsOk (rootB (ents.take n)) n z prev = true := by
  intro l
  induction l with
  | nil => intro prev z h; cases h; rfl
  | cons i l ih =>
    intro prev z h
    unfold itemsB at h
    split at h
    · rename_i hc
      obtain ⟨h0, h1, h2⟩ := hc
      cases hz : itemsB ents n l (some i) with
      | none => rw [hz] at h; cases h
      | some z' =>
        rw [hz] at h
        cases h
        have h3 : i.toNat < n := by omega
        have h4 : i.toNat < ents.length := by omega
        have e1 : (ents.take n).length = n := by rw [List.length_take]; omega
        have e2 : (ents.take n).getD i.toNat ⟨#[]⟩ = ents.getD i.toNat ⟨#[]⟩ := by
          rw [List.getD_eq_getElem?_getD, List.getD_eq_getElem?_getD, List.getElem?_take_of_lt h3]
        have e3 := verify_down (ents.take n) i.toNat (by rw [e1]; exact h3)
        rw [e1, e2] at e3
        have e4 : (ents.getD i.toNat ⟨#[]⟩).size ≤ 1000 := by
          rw [List.getD_eq_getElem?_getD, List.getElem?_eq_getElem h4]
          exact hs _ (List.getElem_mem h4)
        show (itemOk _ _ _ _ && itemsOk _ _ _ _) = true
        rw [Bool.and_eq_true]
        refine ⟨?_, ih _ _ hz⟩
        unfold itemOk
        rw [Bool.and_eq_true, Bool.and_eq_true]
        refine ⟨⟨decide_eq_true h2, decide_eq_true e4⟩, ?_⟩
        show verifyB (rootB (ents.take n)) (n : Int) i _ _ = true
        unfold verifyB
        rw [if_pos ⟨h0, h1, proofB_dig _ _⟩]
        exact e3
    · cases h

theorem show_check {key : ByteArray} {r : RegP} {n : Int} {l : List Int} {p : PartP} (e : showB key r n l = some p) : checkB key p = true := by
  unfold showB at e
  cases hs : signB key r n with
  | none => rw [hs] at e; cases e
  | some h =>
    rw [hs] at e
    cases hz : itemsB r.ents n.toNat l none with
    | none => simp only [hz] at e; cases e
    | some z =>
      simp only [hz] at e
      cases e
      unfold checkB
      rw [sign_genuine hs, Bool.true_and]
      obtain ⟨h1, h2, h3, h4, rfl⟩ := sign_some hs
      obtain ⟨_, _, _, d⟩ := valid_parts h2
      exact items_ok (n := n.toNat) (by omega) d l none z hz

theorem extB_dig (l : List ByteArray) (hl : l ≠ []) (m : Nat) (wh : Bool) : (extB l m wh).reverse.all isDig = true := by
  rw [List.all_reverse, List.all_eq_true]
  intro x hx
  unfold isDig
  exact decide_eq_true (extD_all leafS nodeS (sumS ⟨#[]⟩) (fun x => x.size = 32) (fun l _ => rootB_size l) l hl m wh x hx)

/-- What Grown answers, Extends accepts, between heads over the same entries. -/
theorem grown_extends (key : ByteArray) (car : Int) (ents : List ByteArray) (m n : Nat) (hk : key.size = 32) (hc : 0 ≤ car ∧ car ≤ 7) (hn : n ≤ 60) (hl : n ≤ ents.length) (hm : m ≤ n) :
    extendsB key (headS key car ents m) (headS key car ents n) (if (m : Int) = 0 then [] else (extB (ents.take n) m true).reverse) = true := by
  unfold extendsB
  rw [head_genuine hk hc (by omega), head_genuine hk hc hn, Bool.true_and, Bool.true_and, Bool.and_eq_true]
  refine ⟨decide_eq_true rfl, ?_⟩
  show vextB (rootB (ents.take m)) (m : Int) (rootB (ents.take n)) (n : Int) _ = true
  unfold vextB
  have e1 : (ents.take n).length = n := by rw [List.length_take]; omega
  by_cases h0 : m = 0
  · subst h0
    have e2 : (if ((0 : Nat) : Int) = 0 then ([] : List ByteArray) else (extB (ents.take n) 0 true).reverse) = [] := if_pos rfl
    rw [e2, if_pos ⟨by omega, rfl⟩]
    show vexB (rootB (ents.take 0)) 0 _ _ [] = true
    unfold vexB
    rw [if_pos rfl]
    rfl
  · have h1 : ents.take n ≠ [] := fun e => by
      have := congrArg List.length e
      rw [e1, List.length_nil] at this
      omega
    have e2 : (if (m : Int) = 0 then ([] : List ByteArray) else (extB (ents.take n) m true).reverse) = (extB (ents.take n) m true).reverse := if_neg (by omega)
    rw [e2, if_pos ⟨by omega, extB_dig _ h1 _ _⟩]
    show vexB (rootB (ents.take m)) m (rootB (ents.take n)) n _ = true
    rw [vexB_pos (by omega), List.reverse_reverse]
    apply decide_eq_true
    have ht : (ents.take n).take m = ents.take m := by rw [List.take_take, Nat.min_eq_left hm]
    have := both_ext leafS nodeS (sumS ⟨#[]⟩) (rootB (ents.take m)) (ents.take n) m true (by omega) (by rw [e1]; exact hm) (fun _ => by rw [ht]; rfl)
    rw [e1, ht] at this
    exact this
end Go.Proofs.YtinfpbkbnhcifaaGreatDoor

/- What Join answers: plain functions; what they come to for parts of one register. No condition. -/
namespace Go.Proofs.YtinfpbkbnhcifaaGreatDoor

/-- What parts know at an index: the last item with it. -/
def knownL (l : List PartP) : Int → Option ByteArray := knownB (l.flatMap fun p => p.items)
def itemsK (K : Int → Option ByteArray) : List ItemP := (List.range 60).filterMap fun i : Nat => (K i).map fun s => { idx := i, ent := s, prf := [] }
/-- The pairs of different places, the lesser one first, in order. -/
def pairsOf (n i : Nat) : List (Nat × Nat) := (List.range' (i + 1) (n - (i + 1))).map fun k => (i, k)
def pairsL (n : Nat) : List (Nat × Nat) := (List.range n).flatMap (pairsOf n)
def pairAt (l : List PartP) (x : Nat × Nat) : Bool :=
  match l[x.1]?, l[x.2]? with
  | some a, some b => convB a b
  | _, _ => false
def firstCar : List PartP → Int
  | [] => 0
  | p :: _ => p.head.car
def badP (key : ByteArray) (car : Int) (p : PartP) : Bool := !checkB key p || decide (p.head.car ≠ car)
def joinBad (key : ByteArray) (l : List PartP) : Bool := !decide (key.size = 32) || l.any (badP key (firstCar l))
def joinP2 (l : List PartP) : List ItemP × Int × Int :=
  match (pairsL l.length).find? (pairAt l) with
  | some x => ([], x.1, x.2)
  | none => (itemsK (knownL l), -1, -1)
def joinR (key : ByteArray) (l : List PartP) : Option (List ItemP × Int × Int) := if joinBad key l = true then none else some (joinP2 l)

/-! ### Indices that a checked part shows -/
theorem itemsOk_mem {root : ByteArray} {n : Int} : ∀ {l : List ItemP} {prev : Option Int}, itemsOk root n l prev = true → ∀ x ∈ l, 0 ≤ x.idx ∧ x.idx < n ∧ x.ent.size ≤ 1000 := by
  intro l
  induction l with
  | nil => intro prev _ x hx; simp at hx
  | cons y l ih =>
    intro prev h x hx
    rw [itemsOk, Bool.and_eq_true] at h
    rcases List.mem_cons.1 hx with e | e
    · subst e
      have h1 := h.1
      unfold itemOk at h1
      rw [Bool.and_eq_true, Bool.and_eq_true] at h1
      have h2 := h1.2
      unfold verifyB at h2
      split at h2
      · rename_i hc
        exact ⟨hc.1, hc.2.1, of_decide_eq_true h1.1.2⟩
      · cases h2
    · exact ih h.2 x e
theorem check_mem {key : ByteArray} {p : PartP} (h : checkB key p = true) : ∀ x ∈ p.items, 0 ≤ x.idx ∧ x.idx < 60 ∧ x.ent.size ≤ 1000 := by
  intro x hx
  unfold checkB at h
  rw [Bool.and_eq_true] at h
  obtain ⟨a, b, c⟩ := itemsOk_mem h.2 x hx
  have hg := h.1
  unfold genuineB at hg
  have := of_decide_eq_true hg
  exact ⟨a, by omega, c⟩

/-! ### Parts of one register -/
def idxItem (xs : List ByteArray) (n : Nat) (i : Nat) : ItemP := { idx := i, ent := xs.getD i ⟨#[]⟩, prf := proofB (xs.take n) i }
def partS (key : ByteArray) (car : Int) (xs : List ByteArray) (n : Nat) (is : List Nat) : PartP := { head := headS key car xs n, items := is.map (idxItem xs n) }

theorem items_asc (xs : List ByteArray) (n : Nat) : ∀ (is : List Nat) (prev : Option Int), is.Pairwise (· < ·) → (∀ i ∈ is, i < n) → (∀ j, prev = some j → ∀ i ∈ is, j < (i : Int)) →
    itemsB xs n (is.map fun i : Nat => (i : Int)) prev = some (is.map (idxItem xs n)) := by
  intro is
  induction is with
  | nil => intro prev _ _ _; rfl
  | cons i is ih =>
    intro prev hp hn hj
    rw [List.pairwise_cons] at hp
    rw [List.map_cons]
    rw [itemsB, if_pos ⟨by omega, by have := hn i (by simp); omega, fun j e => hj j e i (by simp)⟩, ih (some (i : Int)) hp.2 (fun k hk => hn k (by simp [hk])) (fun j e k hk => by cases e; have := hp.1 k hk; omega)]
    rfl
theorem show_asc {key : ByteArray} {car : Int} {xs : List ByteArray} {n : Nat} {is : List Nat} (hk : key.size = 32) (hv : validB ⟨car, xs⟩ = true) (hn : n ≤ xs.length) (hp : is.Pairwise (· < ·)) (hi : ∀ i ∈ is, i < n) :
    showB key ⟨car, xs⟩ n (is.map fun i : Nat => (i : Int)) = some (partS key car xs n is) := by
  unfold showB signB
  rw [if_pos ⟨hk, hv, by omega, by show (n : Int) ≤ (xs.length : Int); omega⟩]
  show (itemsB xs ((n : Int)).toNat _ none).map _ = _
  rw [Int.toNat_natCast, items_asc xs n is none hp hi (fun j e => by cases e)]
  rfl
theorem part_check {key : ByteArray} {car : Int} {xs : List ByteArray} {n : Nat} {is : List Nat} (hk : key.size = 32) (hv : validB ⟨car, xs⟩ = true) (hn : n ≤ xs.length) (hp : is.Pairwise (· < ·)) (hi : ∀ i ∈ is, i < n) : checkB key (partS key car xs n is) = true :=
  show_check (show_asc hk hv hn hp hi)

/-- Items that say what a list holds. -/
def Says1 (xs : List ByteArray) (l : List ItemP) : Prop := ∀ x ∈ l, 0 ≤ x.idx ∧ x.ent = xs.getD x.idx.toNat ⟨#[]⟩
theorem part_says (key : ByteArray) (car : Int) (xs : List ByteArray) (n : Nat) (is : List Nat) : Says1 xs (partS key car xs n is).items := by
  intro x hx
  show _ ∧ _
  unfold partS at hx
  obtain ⟨i, _, rfl⟩ := List.mem_map.1 hx
  exact ⟨by show (0 : Int) ≤ (i : Int); omega, rfl⟩
theorem known_says {xs : List ByteArray} {l : List ItemP} (h : Says1 xs l) (i : Int) : knownB l i = if l.any (fun x => decide (x.idx = i)) = true then some (xs.getD i.toNat ⟨#[]⟩) else none := by
  induction l with
  | nil => rfl
  | cons y l ih =>
    rw [knownB, ih (fun x hx => h x (by simp [hx])), List.any_cons]
    by_cases h1 : l.any (fun x => decide (x.idx = i)) = true
    · rw [if_pos h1]
      simp only [h1, Bool.or_true, if_true]
    · rw [if_neg h1]
      by_cases h2 : y.idx = i
      · have := (h y (by simp)).2
        rw [h2] at this
        simp only [h2, decide_true, Bool.true_or, if_true, this]
      · simp only [h2, decide_false, Bool.false_or, if_false, h1, Bool.false_eq_true]
theorem conv_no {key : ByteArray} {car : Int} {xs : List ByteArray} (n m : Nat) (is js : List Nat) : convB (partS key car xs n is) (partS key car xs m js) = false := by
  unfold convB
  have h1 : decide ((partS key car xs n is).head.siz = (partS key car xs m js).head.siz ∧ (partS key car xs n is).head.root ≠ (partS key car xs m js).head.root) = false := by
    apply decide_eq_false
    rintro ⟨a, b⟩
    have e : n = m := by
      have : (n : Int) = (m : Int) := a
      omega
    subst e
    exact b rfl
  rw [h1, Bool.false_or]
  have h2 : (partS key car xs m js).items.any (differs (knownB (partS key car xs n is).items)) = false := by
    rw [List.any_eq_false]
    intro x hx
    have hs := (part_says key car xs m js x hx).2
    unfold differs
    rw [known_says (part_says key car xs n is)]
    split
    · simp
    · rename_i s hs'
      split at hs'
      · cases hs'
        rw [hs]
        simp
      · cases hs'
  rw [h2, Bool.and_false]

/-- What Join gives for parts of one register. -/
def joinedS (xs : List ByteArray) (S : Nat → Bool) : List ItemP := (List.range 60).filterMap fun i => if S i = true then some { idx := i, ent := xs.getD i ⟨#[]⟩, prf := [] } else none
def seenS (q : List (Nat × List Nat)) (i : Nat) : Bool := q.any fun y => y.2.any fun j => decide (j = i)
def partsS (key : ByteArray) (car : Int) (xs : List ByteArray) (q : List (Nat × List Nat)) : List PartP := q.map fun y => partS key car xs y.1 y.2
theorem joined_is {key : ByteArray} {car : Int} {xs : List ByteArray} {q : List (Nat × List Nat)} (hk : key.size = 32) (hv : validB ⟨car, xs⟩ = true) (hq : ∀ y ∈ q, y.1 ≤ xs.length ∧ y.2.Pairwise (· < ·) ∧ ∀ i ∈ y.2, i < y.1) :
    joinR key (partsS key car xs q) = some (joinedS xs (seenS q), -1, -1) := by
  unfold joinR
  have h1 : joinBad key (partsS key car xs q) = false := by
    unfold joinBad
    rw [decide_eq_true hk, Bool.not_true, Bool.false_or, List.any_eq_false]
    intro p hp
    unfold badP
    have hc : ∀ p ∈ partsS key car xs q, p.head.car = car := by
      intro p hp
      unfold partsS at hp
      obtain ⟨y, _, rfl⟩ := List.mem_map.1 hp
      rfl
    have hf : firstCar (partsS key car xs q) = car := by
      cases q with
      | nil => simp [partsS] at hp
      | cons y q => rfl
    rw [hf, hc p hp]
    unfold partsS at hp
    obtain ⟨y, hy, rfl⟩ := List.mem_map.1 hp
    obtain ⟨a, b, c⟩ := hq y hy
    rw [part_check hk hv a b c]
    simp
  rw [if_neg (by rw [h1]; simp)]
  unfold joinP2
  have h2 : (pairsL (partsS key car xs q).length).find? (pairAt (partsS key car xs q)) = none := by
    rw [List.find?_eq_none]
    rintro ⟨i, k⟩ _
    unfold pairAt
    show ¬ (match (partsS key car xs q)[i]?, (partsS key car xs q)[k]? with | some a, some b => convB a b | _, _ => false) = true
    unfold partsS
    rw [List.getElem?_map, List.getElem?_map]
    cases q[i]? with
    | none => simp
    | some y =>
      cases q[k]? with
      | none => simp
      | some z =>
        show ¬ convB _ _ = true
        rw [conv_no]
        simp
  rw [h2]
  show some (itemsK (knownL (partsS key car xs q)), (-1 : Int), (-1 : Int)) = _
  have hit : itemsK (knownL (partsS key car xs q)) = joinedS xs (seenS q) := ?_
  · rw [hit]
  unfold itemsK joinedS
  congr 1
  funext i
  unfold knownL
  have hs : Says1 xs ((partsS key car xs q).flatMap fun p => p.items) := by
    intro x hx
    obtain ⟨p, hp, hx⟩ := List.mem_flatMap.1 hx
    unfold partsS at hp
    obtain ⟨y, _, rfl⟩ := List.mem_map.1 hp
    exact part_says _ _ _ _ _ x hx
  rw [known_says hs]
  have e : ((partsS key car xs q).flatMap fun p => p.items).any (fun x => decide (x.idx = (i : Int))) = seenS q i := by
    unfold partsS seenS
    rw [List.any_flatMap, List.any_map]
    congr 1
    funext y
    show (partS key car xs y.1 y.2).items.any _ = _
    unfold partS
    rw [List.any_map]
    congr 1
    funext j
    show decide ((j : Int) = (i : Int)) = decide (j = i)
    rw [Bool.eq_iff_iff, decide_eq_true_iff, decide_eq_true_iff]
    omega
  rw [e]
  cases seenS q i <;> simp
end Go.Proofs.YtinfpbkbnhcifaaGreatDoor

/- Two different strings with the same digest: what follows where proofs are accepted that show something else. Plain theory, no condition. -/
namespace Go.Proofs.YtinfpbkbnhcifaaGreatDoor

def markL (s : ByteArray) : ByteArray := ⟨#[0]⟩ ++ s
def markN (a b : ByteArray) : ByteArray := ⟨#[1]⟩ ++ (a ++ b)
theorem app_inj {a b c d : ByteArray} (h : a ++ b = c ++ d) (hs : a.size = c.size) : a = c ∧ b = d := by
  have h1 : a.data.toList ++ b.data.toList = c.data.toList ++ d.data.toList := by
    rw [← Array.toList_append, ← Array.toList_append, ← ByteArray.data_append, ← ByteArray.data_append, h]
  have hl : a.data.toList.length = c.data.toList.length := by
    rw [Array.length_toList, Array.length_toList]
    exact hs
  obtain ⟨e1, e2⟩ := List.append_inj h1 hl
  exact ⟨ByteArray.ext (Array.toList_inj.1 e1), ByteArray.ext (Array.toList_inj.1 e2)⟩
theorem markL_inj {s t : ByteArray} (h : markL s = markL t) : s = t := (app_inj h rfl).2
theorem markN_inj {a b c d : ByteArray} (h : markN a b = markN c d) (hs : a.size = c.size) : a = c ∧ b = d := app_inj (app_inj h rfl).2 hs

/-- Two lists have different strings with one digest. -/
def collS (a b : List ByteArray) : Bool := a.any fun x => b.any fun y => decide (x ≠ y) && decide (sumS x = sumS y)
theorem coll_of {a b : List ByteArray} {x y : ByteArray} (hx : x ∈ a) (hy : y ∈ b) (h1 : x ≠ y) (h2 : sumS x = sumS y) : collS a b = true := by
  unfold collS
  rw [List.any_eq_true]
  refine ⟨x, hx, ?_⟩
  rw [List.any_eq_true]
  exact ⟨y, hy, by rw [decide_eq_true h1, decide_eq_true h2]; rfl⟩
theorem coll_parts {a b : List ByteArray} (h : collS a b = true) : ∃ x ∈ a, ∃ y ∈ b, x ≠ y ∧ sumS x = sumS y := by
  unfold collS at h
  rw [List.any_eq_true] at h
  obtain ⟨x, hx, h⟩ := h
  rw [List.any_eq_true] at h
  obtain ⟨y, hy, h⟩ := h
  rw [Bool.and_eq_true] at h
  exact ⟨x, hx, y, hy, of_decide_eq_true h.1, of_decide_eq_true h.2⟩
theorem coll_mono {a b a' b' : List ByteArray} (h : collS a b = true) (h1 : ∀ x ∈ a, x ∈ a') (h2 : ∀ x ∈ b, x ∈ b') : collS a' b' = true := by
  obtain ⟨x, hx, y, hy, e1, e2⟩ := coll_parts h
  exact coll_of (h1 x hx) (h2 y hy) e1 e2
/-- .. within one list. -/
theorem coll_any {a b c : List ByteArray} (h : collS a b = true) (h1 : ∀ x ∈ a, x ∈ c) (h2 : ∀ x ∈ b, x ∈ c) : collS c c = true := coll_mono h h1 h2

/-- The strings whose digests are reckoned for a root. -/
def hashedF : Nat → List ByteArray → List ByteArray
  | 0, _ => [⟨#[]⟩]
  | f + 1, l => match l with
    | [] => [⟨#[]⟩]
    | [s] => [markL s]
    | l => hashedF f (l.take (leftN l.length)) ++ hashedF f (l.drop (leftN l.length)) ++ [markN (rootB (l.take (leftN l.length))) (rootB (l.drop (leftN l.length)))]
def hashedS (l : List ByteArray) : List ByteArray := hashedF l.length l
theorem hashedF_two (f : Nat) (l : List ByteArray) (h : 2 ≤ l.length) : hashedF (f + 1) l = hashedF f (l.take (leftN l.length)) ++ hashedF f (l.drop (leftN l.length)) ++ [markN (rootB (l.take (leftN l.length))) (rootB (l.drop (leftN l.length)))] := by
  match l, h with
  | _ :: _ :: _, _ => rfl
theorem hashedF_more (f g : Nat) (l : List ByteArray) (hf : l.length ≤ f) (hg : l.length ≤ g) : hashedF f l = hashedF g l := by
  induction f generalizing g l with
  | zero =>
    have : l = [] := List.eq_nil_of_length_eq_zero (by omega)
    subst this
    cases g <;> rfl
  | succ f ih =>
    cases g with
    | zero =>
      have : l = [] := List.eq_nil_of_length_eq_zero (by omega)
      subst this; rfl
    | succ g =>
      rcases Nat.lt_or_ge l.length 2 with h | h
      · match l, h with
        | [], _ => rfl
        | [_], _ => rfl
      · have h3 := leftN_lt h
        have h4 := leftN_pos l.length
        rw [hashedF_two f l h, hashedF_two g l h]
        generalize leftN l.length = k at *
        rw [ih g (l.take k) (by rw [List.length_take]; omega) (by rw [List.length_take]; omega), ih g (l.drop k) (by rw [List.length_drop]; omega) (by rw [List.length_drop]; omega)]
theorem hashedS_one (s : ByteArray) : hashedS [s] = [markL s] := rfl
theorem hashedS_two (l : List ByteArray) (h : 2 ≤ l.length) : hashedS l = hashedS (l.take (leftN l.length)) ++ hashedS (l.drop (leftN l.length)) ++ [markN (rootB (l.take (leftN l.length))) (rootB (l.drop (leftN l.length)))] := by
  have h3 := leftN_lt h
  have h4 := leftN_pos l.length
  obtain ⟨n, hn⟩ : ∃ n, l.length = n + 1 := ⟨l.length - 1, by omega⟩
  have e : hashedS l = hashedF (n + 1) l := by unfold hashedS; rw [hn]
  rw [e, hashedF_two n l h]
  generalize leftN l.length = k at *
  unfold hashedS
  rw [hashedF_more n (l.take k).length (l.take k) (by rw [List.length_take]; omega) (Nat.le_refl _), hashedF_more n (l.drop k).length (l.drop k) (by rw [List.length_drop]; omega) (Nat.le_refl _)]
theorem rootB_one (s : ByteArray) : rootB [s] = leafS s := rfl
theorem rootB_two (l : List ByteArray) (h : 2 ≤ l.length) : rootB l = nodeS (rootB (l.take (leftN l.length))) (rootB (l.drop (leftN l.length))) := rootL_two leafS nodeS (sumS ⟨#[]⟩) l h

/-- The strings whose digests are reckoned when a proof is checked, the last digest first; and its value. -/
def walkedS (s : ByteArray) : List ByteArray → Nat → Nat → List ByteArray × ByteArray
  | [], _, _ => ([markL s], leafS s)
  | x :: r, n, i => if n ≤ 1 then ([markL s], leafS s)
    else if i < leftN n then ((walkedS s r (leftN n) i).1 ++ [markN (walkedS s r (leftN n) i).2 x], nodeS (walkedS s r (leftN n) i).2 x)
    else ((walkedS s r (n - leftN n) (i - leftN n)).1 ++ [markN x (walkedS s r (n - leftN n) (i - leftN n)).2], nodeS x (walkedS s r (n - leftN n) (i - leftN n)).2)
theorem walked_value (s : ByteArray) (r : List ByteArray) (n i : Nat) (v : ByteArray) (h : valueL leafS nodeS s r n i = some v) : (walkedS s r n i).2 = v := by
  induction r generalizing n i v with
  | nil =>
    rw [valueL] at h
    split at h
    · cases h; rfl
    · cases h
  | cons x r ih =>
    rw [valueL] at h
    rw [walkedS]
    split at h
    · cases h
    · rename_i h1
      rw [if_neg h1]
      split at h
      · rename_i h2
        rw [if_pos h2]
        obtain ⟨u, hu, rfl⟩ := Option.map_eq_some_iff.1 h
        show nodeS _ _ = _
        rw [ih _ _ _ hu]
      · rename_i h2
        rw [if_neg h2]
        obtain ⟨u, hu, rfl⟩ := Option.map_eq_some_iff.1 h
        show nodeS _ _ = _
        rw [ih _ _ _ hu]
theorem walked_size (s : ByteArray) (r : List ByteArray) (n i : Nat) : (walkedS s r n i).2.size = 32 := by
  cases r with
  | nil => rfl
  | cons x r =>
    rw [walkedS]
    split
    · rfl
    · split <;> rfl

/-- A proof that is accepted shows what the list has there, or there are two strings with one digest. -/
theorem value_coll (s : ByteArray) (l : List ByteArray) (r : List ByteArray) (i : Nat) (hi : i < l.length) (hr : ∀ x ∈ r, x.size = 32) (h : valueL leafS nodeS s r l.length i = some (rootB l)) :
    l[i]? = some s ∨ collS (walkedS s r l.length i).1 (hashedS l) = true := by
  obtain ⟨n, hn⟩ : ∃ n, l.length = n := ⟨_, rfl⟩
  induction n using Nat.strongRecOn generalizing l r i with
  | _ n ih =>
    rcases Nat.lt_or_ge l.length 2 with h2 | h2
    · obtain ⟨a, rfl⟩ : ∃ a, l = [a] := by
        match l, hi, h2 with
        | [a], _, _ => exact ⟨a, rfl⟩
      have hi0 : i = 0 := by simp at hi; exact hi
      subst hi0
      have hv : leafS s = leafS a := by
        cases r with
        | nil =>
          rw [valueL, if_pos (by simp)] at h
          exact Option.some.inj h
        | cons x r =>
          rw [valueL, if_pos (by simp)] at h
          cases h
      by_cases e : markL s = markL a
      · left
        rw [markL_inj e]
        rfl
      · right
        refine coll_of (x := markL s) (y := markL a) ?_ (by rw [hashedS_one]; simp) e hv
        cases r with
        | nil => simp [walkedS]
        | cons x r => rw [walkedS, if_pos (by simp)]; simp
    · have h3 := leftN_lt h2
      have h4 := leftN_pos l.length
      cases r with
      | nil =>
        rw [valueL, if_neg (by omega)] at h
        cases h
      | cons x r =>
        have hx := hr x (by simp)
        have hr' : ∀ y ∈ r, y.size = 32 := fun y hy => hr y (by simp [hy])
        rw [valueL, if_neg (by omega)] at h
        rw [walkedS, if_neg (by omega), hashedS_two l h2]
        rw [rootB_two l h2] at h
        generalize hk : leftN l.length = k at *
        by_cases hik : i < k
        · rw [if_pos hik] at h ⊢
          obtain ⟨u, hu, he⟩ := Option.map_eq_some_iff.1 h
          have hw := walked_value s r k i u hu
          by_cases e : markN u x = markN (rootB (l.take k)) (rootB (l.drop k))
          · have hus : u.size = 32 := by rw [← hw]; exact walked_size s r k i
            obtain ⟨e1, _⟩ := markN_inj e (by rw [hus, rootB_size])
            have hlt : (l.take k).length = k := by rw [List.length_take]; omega
            rw [e1] at hu
            have := ih k (by omega) (l.take k) r i (by omega) hr' (by rw [hlt]; exact hu) hlt
            rcases this with h5 | h5
            · left
              rw [List.getElem?_take_of_lt hik] at h5
              exact h5
            · right
              rw [hlt] at h5
              exact coll_mono h5 (fun y hy => by simp [hy]) (fun y hy => by simp [hy])
          · right
            refine coll_of (x := markN u x) (y := markN (rootB (l.take k)) (rootB (l.drop k))) ?_ (by simp) e he
            rw [hw]
            simp
        · rw [if_neg hik] at h ⊢
          obtain ⟨u, hu, he⟩ := Option.map_eq_some_iff.1 h
          have hw := walked_value s r (l.length - k) (i - k) u hu
          by_cases e : markN x u = markN (rootB (l.take k)) (rootB (l.drop k))
          · obtain ⟨_, e1⟩ := markN_inj e (by rw [hx, rootB_size])
            have hlt : (l.drop k).length = l.length - k := by rw [List.length_drop]
            rw [e1] at hu
            have := ih (l.length - k) (by omega) (l.drop k) r (i - k) (by omega) hr' (by rw [hlt]; exact hu) hlt
            rcases this with h5 | h5
            · left
              rw [List.getElem?_drop, show k + (i - k) = i by omega] at h5
              exact h5
            · right
              rw [hlt] at h5
              exact coll_mono h5 (fun y hy => by simp [hy]) (fun y hy => by simp [hy])
          · right
            refine coll_of (x := markN x u) (y := markN (rootB (l.take k)) (rootB (l.drop k))) ?_ (by simp) e he
            rw [hw]
            simp

/-- Lists of one length with one root are one, or there are two strings with one digest. -/
theorem roots_same (a b : List ByteArray) (hl : a.length = b.length) (h : rootB a = rootB b) : a = b ∨ collS (hashedS a) (hashedS b) = true := by
  obtain ⟨n, hn⟩ : ∃ n, a.length = n := ⟨_, rfl⟩
  induction n using Nat.strongRecOn generalizing a b with
  | _ n ih =>
    rcases Nat.lt_or_ge a.length 2 with h2 | h2
    · match a, b, hl, h2 with
      | [], [], _, _ => exact .inl rfl
      | [x], [y], _, _ =>
        by_cases e : markL x = markL y
        · exact .inl (by rw [markL_inj e])
        · exact .inr (coll_of (x := markL x) (y := markL y) (by rw [hashedS_one]; simp) (by rw [hashedS_one]; simp) e h)
    · have h3 := leftN_lt h2
      have h4 := leftN_pos a.length
      rw [hashedS_two a h2, hashedS_two b (by omega)]
      rw [rootB_two a h2, rootB_two b (by omega)] at h
      rw [← hl] at h ⊢
      generalize hk : leftN a.length = k at *
      by_cases e : markN (rootB (a.take k)) (rootB (a.drop k)) = markN (rootB (b.take k)) (rootB (b.drop k))
      · obtain ⟨e1, e2⟩ := markN_inj e (by rw [rootB_size, rootB_size])
        have l1 : (a.take k).length = (b.take k).length := by rw [List.length_take, List.length_take, hl]
        have l2 : (a.drop k).length = (b.drop k).length := by rw [List.length_drop, List.length_drop, hl]
        rcases ih (a.take k).length (by rw [List.length_take]; omega) (a.take k) (b.take k) l1 e1 rfl with h5 | h5
        · rcases ih (a.drop k).length (by rw [List.length_drop]; omega) (a.drop k) (b.drop k) l2 e2 rfl with h6 | h6
          · left
            rw [← List.take_append_drop k a, ← List.take_append_drop k b, h5, h6]
          · right
            exact coll_mono h6 (fun y hy => by simp [hy]) (fun y hy => by simp [hy])
        · right
          exact coll_mono h5 (fun y hy => by simp [hy]) (fun y hy => by simp [hy])
      · right
        exact coll_of (x := markN (rootB (a.take k)) (rootB (a.drop k))) (y := markN (rootB (b.take k)) (rootB (b.drop k))) (by simp) (by simp) e h

/-- The strings whose digests are reckoned when a proof of growth is checked, the last digest first; and its two values. -/
def grewS (old : ByteArray) : List ByteArray → Nat → Nat → Bool → List ByteArray × ByteArray × ByteArray
  | [], _, _, _ => ([], old, old)
  | x :: r, m, n, whole => if n ≤ m then (if whole then ([], old, old) else ([], (x :: r).getLast (by simp), (x :: r).getLast (by simp)))
    else if m ≤ leftN n then
      let g := grewS old r m (leftN n) whole
      (g.1 ++ [markN g.2.2 x], g.2.1, nodeS g.2.2 x)
    else
      let g := grewS old r (m - leftN n) (n - leftN n) false
      (g.1 ++ [markN x g.2.1, markN x g.2.2], nodeS x g.2.1, nodeS x g.2.2)
theorem grew_both (old : ByteArray) (r : List ByteArray) (m n : Nat) (whole : Bool) (v : ByteArray × ByteArray) (h : bothL nodeS old r m n whole = some v) : (grewS old r m n whole).2 = v := by
  induction r generalizing m n whole v with
  | nil =>
    rw [bothL] at h
    split at h
    · cases h; rfl
    · cases h
  | cons x r ih =>
    rw [bothL] at h
    rw [grewS]
    split at h
    · rename_i h1
      rw [if_pos h1]
      split at h
      · cases h
      · rename_i hw
        rw [if_neg hw]
        split at h
        · rename_i hr
          cases h
          subst hr
          rfl
        · cases h
    · rename_i h1
      rw [if_neg h1]
      split at h
      · rename_i h2
        rw [if_pos h2]
        obtain ⟨u, hu, rfl⟩ := Option.map_eq_some_iff.1 h
        show (_, nodeS _ _) = _
        rw [ih _ _ _ _ hu]
      · rename_i h2
        rw [if_neg h2]
        obtain ⟨u, hu, rfl⟩ := Option.map_eq_some_iff.1 h
        show (nodeS _ _, nodeS _ _) = _
        rw [ih _ _ _ _ hu]
theorem both_size (old : ByteArray) (ho : old.size = 32) (r : List ByteArray) (hr : ∀ x ∈ r, x.size = 32) (m n : Nat) (whole : Bool) (v : ByteArray × ByteArray) (h : bothL nodeS old r m n whole = some v) : v.1.size = 32 ∧ v.2.size = 32 := by
  induction r generalizing m n whole v with
  | nil =>
    rw [bothL] at h
    split at h
    · cases h; exact ⟨ho, ho⟩
    · cases h
  | cons x r ih =>
    have hx := hr x (by simp)
    rw [bothL] at h
    split at h
    · split at h
      · cases h
      · split at h
        · cases h; exact ⟨hx, hx⟩
        · cases h
    · split at h
      · obtain ⟨u, hu, rfl⟩ := Option.map_eq_some_iff.1 h
        exact ⟨(ih (fun y hy => hr y (by simp [hy])) _ _ _ _ hu).1, rfl⟩
      · obtain ⟨u, hu, rfl⟩ := Option.map_eq_some_iff.1 h
        exact ⟨rfl, rfl⟩

/-- A proof of growth that is accepted shows that the one list begins with the other, or there are two strings with one digest. -/
theorem grew_coll (old : ByteArray) (ho : old.size = 32) (xs ys r : List ByteArray) (whole : Bool) (hm : 1 ≤ xs.length) (hn : xs.length ≤ ys.length) (hr : ∀ x ∈ r, x.size = 32) (h : bothL nodeS old r xs.length ys.length whole = some (rootB xs, rootB ys)) :
    xs = ys.take xs.length ∨ ∃ c, (∀ x ∈ c, x ∈ hashedS xs ++ hashedS ys ++ (grewS old r xs.length ys.length whole).1) ∧ collS c c = true := by
  obtain ⟨n, hln⟩ : ∃ n, ys.length = n := ⟨_, rfl⟩
  induction n using Nat.strongRecOn generalizing xs ys r whole with
  | _ n ih =>
    -- where the lists are of one length
    have same : xs.length = ys.length → rootB xs = rootB ys → xs = ys.take xs.length ∨ ∃ c, (∀ x ∈ c, x ∈ hashedS xs ++ hashedS ys ++ (grewS old r xs.length ys.length whole).1) ∧ collS c c = true := fun hl he => by
      rcases roots_same xs ys hl he with e | e
      · left
        rw [hl, List.take_length]
        exact e
      · right
        exact ⟨hashedS xs ++ hashedS ys, fun x hx => by simp only [List.mem_append] at hx ⊢; exact .inl hx, coll_any e (fun y hy => by simp [hy]) (fun y hy => by simp [hy])⟩
    cases r with
    | nil =>
      rw [bothL] at h
      split at h
      · rename_i hc
        obtain ⟨h1, h2⟩ := Prod.mk.inj (Option.some.inj h)
        exact same (by omega) (h1.symm.trans h2)
      · cases h
    | cons x r =>
      have hx := hr x (by simp)
      have hr' : ∀ y ∈ r, y.size = 32 := fun y hy => hr y (by simp [hy])
      rw [bothL] at h
      by_cases hc : ys.length ≤ xs.length
      · rw [if_pos hc] at h
        split at h
        · cases h
        · split at h
          · obtain ⟨h1, h2⟩ := Prod.mk.inj (Option.some.inj h)
            exact same (by omega) (h1.symm.trans h2)
          · cases h
      · rw [if_neg hc] at h
        clear same
        rw [grewS, if_neg hc]
        have h2 : 2 ≤ ys.length := by omega
        have h3 := leftN_lt h2
        have h4 := leftN_pos ys.length
        have h5 := leftN_ge h2
        rw [hashedS_two ys h2]
        rw [rootB_two ys h2] at h
        obtain ⟨j, hj⟩ : ∃ j, leftN ys.length = 2 ^ j := ⟨Nat.log2 (ys.length - 1), rfl⟩
        generalize hk : leftN ys.length = k at *
        have lt : (ys.take k).length = k := by rw [List.length_take]; omega
        have ld : (ys.drop k).length = ys.length - k := by rw [List.length_drop]
        by_cases hmk : xs.length ≤ k
        · rw [if_pos hmk] at h ⊢
          obtain ⟨u, hu, he⟩ := Option.map_eq_some_iff.1 h
          obtain ⟨e1, e2⟩ := Prod.mk.inj he
          have hg := grew_both old r xs.length k whole u hu
          have hus := (both_size old ho r hr' _ _ _ _ hu).2
          by_cases e : markN u.2 x = markN (rootB (ys.take k)) (rootB (ys.drop k))
          · obtain ⟨e3, _⟩ := markN_inj e (by rw [hus, rootB_size])
            have hu2 : bothL nodeS old r xs.length (ys.take k).length whole = some (rootB xs, rootB (ys.take k)) := by
              rw [lt, hu, ← e1, ← e3]
            rcases ih k (by omega) xs (ys.take k) r whole hm (by omega) hr' hu2 lt with h6 | ⟨c, h6, h7⟩
            · left
              rw [List.take_take, Nat.min_eq_left hmk] at h6
              exact h6
            · right
              refine ⟨c, fun y hy => ?_, h7⟩
              have := h6 y hy
              rw [lt] at this
              simp only [List.mem_append] at this ⊢
              rcases this with (h8 | h8) | h8
              · exact .inl (.inl h8)
              · exact .inl (.inr (.inl (.inl h8)))
              · exact .inr (.inl h8)
          · right
            refine ⟨[markN u.2 x, markN (rootB (ys.take k)) (rootB (ys.drop k))], fun y hy => ?_, coll_of (x := markN u.2 x) (y := markN (rootB (ys.take k)) (rootB (ys.drop k))) (by simp) (by simp) e e2⟩
            rw [← hg] at hy
            simp only [List.mem_cons, List.not_mem_nil, or_false, List.mem_append] at hy ⊢
            rcases hy with hy | hy
            · exact .inr (.inr hy)
            · exact .inl (.inr (.inr hy))
        · rw [if_neg hmk] at h ⊢
          obtain ⟨u, hu, he⟩ := Option.map_eq_some_iff.1 h
          obtain ⟨e1, e2⟩ := Prod.mk.inj he
          have hg := grew_both old r _ _ false u hu
          have hlx : leftN xs.length = k := by
            rw [hj]
            exact leftN_of (by omega) (by omega)
          have hx2 : 2 ≤ xs.length := by omega
          rw [hashedS_two xs hx2, hlx]
          rw [rootB_two xs hx2, hlx] at e1
          have lxt : (xs.take k).length = k := by rw [List.length_take]; omega
          have lxd : (xs.drop k).length = xs.length - k := by rw [List.length_drop]
          by_cases ea : markN x u.1 = markN (rootB (xs.take k)) (rootB (xs.drop k))
          · by_cases eb : markN x u.2 = markN (rootB (ys.take k)) (rootB (ys.drop k))
            · obtain ⟨a1, a2⟩ := markN_inj ea (by rw [hx, rootB_size])
              obtain ⟨b1, b2⟩ := markN_inj eb (by rw [hx, rootB_size])
              have hu2 : bothL nodeS old r (xs.drop k).length (ys.drop k).length false = some (rootB (xs.drop k), rootB (ys.drop k)) := by
                rw [lxd, ld, hu, ← a2, ← b2]
              rcases roots_same (xs.take k) (ys.take k) (by rw [lt, lxt]) (a1.symm.trans b1) with h6 | h6
              · rcases ih (ys.length - k) (by omega) (xs.drop k) (ys.drop k) r false (by omega) (by omega) hr' hu2 ld with h7 | ⟨c, h7, h8⟩
                · left
                  rw [lxd] at h7
                  have e : xs.length = k + (xs.length - k) := by omega
                  rw [e, List.take_add, ← h6, ← h7, List.take_append_drop]
                · right
                  refine ⟨c, fun y hy => ?_, h8⟩
                  have := h7 y hy
                  rw [lxd, ld] at this
                  simp only [List.mem_append] at this ⊢
                  rcases this with (h9 | h9) | h9
                  · exact .inl (.inl (.inl (.inr h9)))
                  · exact .inl (.inr (.inl (.inr h9)))
                  · exact .inr (.inl h9)
              · right
                refine ⟨hashedS (xs.take k) ++ hashedS (ys.take k), fun y hy => ?_, coll_any h6 (fun y hy => by simp [hy]) (fun y hy => by simp [hy])⟩
                simp only [List.mem_append] at hy ⊢
                rcases hy with hy | hy
                · exact .inl (.inl (.inl (.inl hy)))
                · exact .inl (.inr (.inl (.inl hy)))
            · right
              refine ⟨[markN x u.2, markN (rootB (ys.take k)) (rootB (ys.drop k))], fun y hy => ?_, coll_of (x := markN x u.2) (y := markN (rootB (ys.take k)) (rootB (ys.drop k))) (by simp) (by simp) eb e2⟩
              rw [← hg] at hy
              simp only [List.mem_cons, List.not_mem_nil, or_false, List.mem_append] at hy ⊢
              rcases hy with hy | hy
              · exact .inr (.inr (.inr hy))
              · exact .inl (.inr (.inr hy))
          · right
            refine ⟨[markN x u.1, markN (rootB (xs.take k)) (rootB (xs.drop k))], fun y hy => ?_, coll_of (x := markN x u.1) (y := markN (rootB (xs.take k)) (rootB (xs.drop k))) (by simp) (by simp) ea e1⟩
            rw [← hg] at hy
            simp only [List.mem_cons, List.not_mem_nil, or_false, List.mem_append] at hy ⊢
            rcases hy with hy | hy
            · exact .inr (.inr (.inl hy))
            · exact .inl (.inl (.inr hy))
end Go.Proofs.YtinfpbkbnhcifaaGreatDoor

/- Heads: what is signed for different heads differs, or there are two strings with one digest. Plain theory, no condition. -/
namespace Go.Proofs.YtinfpbkbnhcifaaGreatDoor

theorem content_inj {h z : HeadP} (h1 : 0 ≤ h.car ∧ h.car ≤ 7) (h2 : 0 ≤ h.siz ∧ h.siz ≤ 60) (z1 : 0 ≤ z.car ∧ z.car ≤ 7) (z2 : 0 ≤ z.siz ∧ z.siz ≤ 60) (e : contentB h = contentB z) : h.car = z.car ∧ h.siz = z.siz ∧ h.root = z.root := by
  have key : ∀ a b : Int, 0 ≤ a → a ≤ 60 → 0 ≤ b → b ≤ 60 → UInt8.ofNat (2 * a.toNat) = UInt8.ofNat (2 * b.toNat) → a = b := by
    intro a b a0 a1 b0 b1 he
    have := congrArg UInt8.toNat he
    rw [UInt8.toNat_ofNat', UInt8.toNat_ofNat'] at this
    omega
  have e1 := congrArg (fun x : ByteArray => x.data.toList) e
  simp only [contentB, List.cons_append, List.nil_append, List.toList_toArray] at e1
  injection e1 with _ e1
  injection e1 with e2 e1
  injection e1 with e3 e1
  exact ⟨key _ _ h1.1 (by omega) z1.1 (by omega) e2, key _ _ h2.1 h2.2 z2.1 z2.2 e3, ByteArray.ext (Array.toList_inj.1 e1)⟩

theorem signed_coll (key : ByteArray) (h z : HeadP) (e : signedB key h = signedB key z) :
    contentB h = contentB z ∨ collS [markL (contentB h), markN key (leafS (contentB h))] [markL (contentB z), markN key (leafS (contentB z))] = true := by
  by_cases e1 : markN key (leafS (contentB h)) = markN key (leafS (contentB z))
  · obtain ⟨_, e2⟩ := markN_inj e1 rfl
    by_cases e3 : markL (contentB h) = markL (contentB z)
    · exact .inl (markL_inj e3)
    · exact .inr (coll_of (x := markL (contentB h)) (y := markL (contentB z)) (by simp) (by simp) e3 e2)
  · exact .inr (coll_of (x := markN key (leafS (contentB h))) (y := markN key (leafS (contentB z))) (by simp) (by simp) e1 e)

theorem keys_coll (key strange : ByteArray) (h : HeadP) (hs : key.size = strange.size) (hne : key ≠ strange) (e : signedB key h = signedB strange h) : collS [markN key (leafS (contentB h))] [markN strange (leafS (contentB h))] = true :=
  coll_of (x := markN key (leafS (contentB h))) (y := markN strange (leafS (contentB h))) (by simp) (by simp) (fun e1 => hne (markN_inj e1 hs).1) e

/-- A genuine head that bears another one's seal is that one, or there are two strings with one digest. -/
theorem genuine_coll {key : ByteArray} {h z : HeadP} (hg : genuineB key h = true) (zg : genuineB key z = true) (hs : z.sl = h.sl) (hne : z ≠ h) :
    collS [markL (contentB h), markN key (leafS (contentB h))] [markL (contentB z), markN key (leafS (contentB z))] = true := by
  unfold genuineB at hg zg
  obtain ⟨_, a1, a2, _, a4⟩ := of_decide_eq_true hg
  obtain ⟨_, b1, b2, _, b4⟩ := of_decide_eq_true zg
  rcases signed_coll key h z (by rw [← a4, ← b4, hs]) with e | e
  · obtain ⟨c1, c2, c3⟩ := content_inj a1 a2 b1 b2 e
    exfalso
    apply hne
    cases h; cases z
    simp only at c1 c2 c3 hs
    subst c1 c2 c3 hs
    rfl
  · exact e
end Go.Proofs.YtinfpbkbnhcifaaGreatDoor

/- What the reference's makers of registers answer: plain functions. No condition. -/
namespace Go.Proofs.YtinfpbkbnhcifaaGreatDoor

/-- An index that an integer determines. -/
def pickI (c n : Int) : Int := (if c < 0 then -(c + 1) else c) % n
theorem pickI_range (c : Int) {n : Int} (h : 0 < n) : 0 ≤ pickI c n ∧ pickI c n < n := by
  unfold pickI
  exact ⟨Int.emod_nonneg _ (by omega), Int.emod_lt_of_pos _ h⟩
def keyS (c : Int) : ByteArray := ⟨(List.replicate 32 (UInt8.ofNat ((100 + c).toNat % 256))).toArray⟩
theorem keyS_size (c : Int) : (keyS c).size = 32 := by
  show (List.replicate 32 _).toArray.size = 32
  simp
def entryS (n : Int) : ByteArray :=
  if (pickI n 676) % 2 = 1 then ⟨#[UInt8.ofNat (97 + (pickI n 676).toNat % 26), UInt8.ofNat (97 + (pickI n 676).toNat / 26)]⟩ else ⟨#[UInt8.ofNat (97 + (pickI n 676).toNat % 26)]⟩
theorem entryS_size (n : Int) : (entryS n).size ≤ 2 := by
  unfold entryS
  split
  · show (#[_, _] : Array UInt8).size ≤ 2; simp
  · show (#[_] : Array UInt8).size ≤ 2; simp
def madeL (x : List Int) : List ByteArray := (x.take 12).map entryS
def madeR (carrier : Int) (x : List Int) : RegP := { car := pickI carrier 8, ents := madeL x }
theorem madeL_len (x : List Int) : (madeL x).length ≤ 12 := by unfold madeL; rw [List.length_map, List.length_take]; omega
theorem madeL_small (x : List Int) : ∀ s ∈ madeL x, s.size ≤ 2 := by
  intro s hs
  unfold madeL at hs
  obtain ⟨n, _, rfl⟩ := List.mem_map.1 hs
  exact entryS_size n
theorem made_valid (carrier : Int) (x : List Int) : validB (madeR carrier x) = true := by
  have h := pickI_range carrier (n := 8) (by omega)
  unfold validB madeR
  apply decide_eq_true
  exact ⟨h.1, by show pickI carrier 8 ≤ 7; omega, by have := madeL_len x; show (madeL x).length ≤ 60; omega, fun s hs => by have := madeL_small x s hs; omega⟩
/-- A register that is like another one up to an entry. -/
def otherL (xs : List ByteArray) (at' : Int) (y : List Int) : List ByteArray :=
  let k := (pickI at' (xs.length + 1)).toNat
  xs.take k ++ (y.take (12 - k)).map entryS
/-- The bits of an integer, as indices. -/
def bitI (bits : Int) (i : Nat) : Bool := decide ((pickI bits 65536).toNat / 2 ^ i % 2 = 1)
def idxS (bits : Int) (n : Nat) : List Nat := (List.range n).filter (bitI bits)
theorem idxS_asc (bits : Int) (n : Nat) : (idxS bits n).Pairwise (· < ·) := List.Pairwise.filter _ List.pairwise_lt_range
theorem idxS_lt (bits : Int) (n : Nat) : ∀ i ∈ idxS bits n, i < n := by
  intro i hi
  unfold idxS at hi
  rw [List.mem_filter, List.mem_range] at hi
  exact hi.1
end Go.Proofs.YtinfpbkbnhcifaaGreatDoor

/- Plain laws of registers: what the statements ask of parts, heads and proofs. No condition. -/
namespace Go.Proofs.YtinfpbkbnhcifaaGreatDoor

/-! ### Two parts -/
theorem known_part (key : ByteArray) (car : Int) (xs : List ByteArray) (n : Nat) (is : List Nat) (t : Nat) : knownB (partS key car xs n is).items (t : Int) = if t ∈ is then some (xs.getD t ⟨#[]⟩) else none := by
  rw [known_says (part_says key car xs n is)]
  have e : ((partS key car xs n is).items.any fun x => decide (x.idx = (t : Int))) = true ↔ t ∈ is := by
    rw [List.any_eq_true]
    constructor
    · rintro ⟨x, hx, hd⟩
      unfold partS at hx
      obtain ⟨i, hi, rfl⟩ := List.mem_map.1 hx
      have h : (i : Int) = (t : Int) := of_decide_eq_true hd
      obtain rfl : i = t := by omega
      exact hi
    · intro h
      exact ⟨idxItem xs n t, List.mem_map.2 ⟨t, h, rfl⟩, decide_eq_true rfl⟩
  by_cases h : t ∈ is
  · rw [if_pos (e.2 h), if_pos h, Int.toNat_natCast]
  · rw [if_neg (fun h' => h (e.1 h')), if_neg h]
/-- Two parts show different entries at an index. -/
def Differ (xs ys : List ByteArray) (is js : List Nat) : Prop := ∃ t, t ∈ is ∧ t ∈ js ∧ xs.getD t ⟨#[]⟩ ≠ ys.getD t ⟨#[]⟩
theorem Differ.symm {xs ys : List ByteArray} {is js : List Nat} (h : Differ xs ys is js) : Differ ys xs js is := by
  obtain ⟨t, h1, h2, h3⟩ := h
  exact ⟨t, h2, h1, h3.symm⟩
theorem any_differs (key : ByteArray) (car : Int) (xs ys : List ByteArray) (n m : Nat) (is js : List Nat) : (partS key car ys m js).items.any (differs (knownB (partS key car xs n is).items)) = true ↔ Differ xs ys is js := by
  rw [List.any_eq_true]
  constructor
  · rintro ⟨x, hx, hd⟩
    unfold partS at hx
    obtain ⟨t, ht, rfl⟩ := List.mem_map.1 hx
    unfold differs at hd
    rw [show (idxItem ys m t).idx = (t : Int) from rfl, known_part] at hd
    by_cases h : t ∈ is
    · rw [if_pos h] at hd
      have h3 : xs.getD t ⟨#[]⟩ ≠ (idxItem ys m t).ent := of_decide_eq_true hd
      exact ⟨t, h, ht, h3⟩
    · rw [if_neg h] at hd
      cases hd
  · rintro ⟨t, h1, h2, h3⟩
    refine ⟨idxItem ys m t, List.mem_map.2 ⟨t, h2, rfl⟩, ?_⟩
    unfold differs
    rw [show (idxItem ys m t).idx = (t : Int) from rfl, known_part, if_pos h1]
    exact decide_eq_true h3
theorem conv_true {key : ByteArray} {car : Int} {xs ys : List ByteArray} {n m : Nat} {is js : List Nat} : convB (partS key car xs n is) (partS key car ys m js) = true ↔ ((n = m ∧ rootB (xs.take n) ≠ rootB (ys.take m)) ∨ Differ xs ys is js) := by
  unfold convB
  rw [show (partS key car xs n is).head.car = (partS key car ys m js).head.car from rfl, decide_eq_true (rfl : (partS key car ys m js).head.car = (partS key car ys m js).head.car), Bool.true_and, Bool.or_eq_true, any_differs]
  have e : decide ((partS key car xs n is).head.siz = (partS key car ys m js).head.siz ∧ (partS key car xs n is).head.root ≠ (partS key car ys m js).head.root) = true ↔ (n = m ∧ rootB (xs.take n) ≠ rootB (ys.take m)) := by
    rw [decide_eq_true_iff]
    constructor
    · rintro ⟨a, b⟩
      have a : (n : Int) = (m : Int) := a
      exact ⟨by omega, b⟩
    · rintro ⟨a, b⟩
      exact ⟨by show (n : Int) = (m : Int); omega, b⟩
  rw [e]
theorem convicts_symm {key : ByteArray} {car : Int} {xs ys : List ByteArray} {n m : Nat} {is js : List Nat} : convictsB key (partS key car xs n is) (partS key car ys m js) = convictsB key (partS key car ys m js) (partS key car xs n is) := by
  have e : convB (partS key car xs n is) (partS key car ys m js) = convB (partS key car ys m js) (partS key car xs n is) := by
    rw [Bool.eq_iff_iff, conv_true, conv_true]
    constructor
    · rintro (⟨a, b⟩ | h)
      · exact .inl ⟨a.symm, b.symm⟩
      · exact .inr h.symm
    · rintro (⟨a, b⟩ | h)
      · exact .inl ⟨a.symm, b.symm⟩
      · exact .inr h.symm
  unfold convictsB
  rw [e]
  cases checkB key (partS key car xs n is) <;> cases checkB key (partS key car ys m js) <;> rfl
theorem convicts_parts {key : ByteArray} {car : Int} {xs ys : List ByteArray} {n m : Nat} {is js : List Nat} (hk : key.size = 32) (hx : validB ⟨car, xs⟩ = true) (hy : validB ⟨car, ys⟩ = true) (hn : n ≤ xs.length) (hm : m ≤ ys.length) (hp : is.Pairwise (· < ·)) (hq : js.Pairwise (· < ·)) (hi : ∀ i ∈ is, i < n) (hj : ∀ j ∈ js, j < m) :
    convictsB key (partS key car xs n is) (partS key car ys m js) = convB (partS key car xs n is) (partS key car ys m js) := by
  unfold convictsB
  rw [part_check hk hx hn hp hi, part_check hk hy hm hq hj, Bool.true_and, Bool.true_and]
/-- Parts of one size of registers that differ below it convict, or there are two strings with one digest. -/
theorem convicts_size {key : ByteArray} {car : Int} {xs ys : List ByteArray} {n : Nat} {is js : List Nat} (hk : key.size = 32) (hx : validB ⟨car, xs⟩ = true) (hy : validB ⟨car, ys⟩ = true) (hn : n ≤ xs.length) (hm : n ≤ ys.length) (hp : is.Pairwise (· < ·)) (hq : js.Pairwise (· < ·)) (hi : ∀ i ∈ is, i < n) (hj : ∀ j ∈ js, j < n)
    (hne : xs.take n ≠ ys.take n) : convictsB key (partS key car xs n is) (partS key car ys n js) = true ∨ collS (hashedS (xs.take n)) (hashedS (ys.take n)) = true := by
  by_cases e : rootB (xs.take n) = rootB (ys.take n)
  · rcases roots_same (xs.take n) (ys.take n) (by rw [List.length_take, List.length_take]; omega) e with h | h
    · exact absurd h hne
    · exact .inr h
  · left
    rw [convicts_parts hk hx hy hn hm hp hq hi hj, conv_true]
    exact .inl ⟨rfl, e⟩
theorem convicts_none {key : ByteArray} {car : Int} {xs : List ByteArray} (n m : Nat) (is js : List Nat) : convictsB key (partS key car xs n is) (partS key car xs m js) = false := by
  unfold convictsB
  rw [conv_no]
  cases checkB key (partS key car xs n is) <;> cases checkB key (partS key car xs m js) <;> rfl

/-! ### What a part under the head of a register shows -/
theorem itemsOk_verify {root : ByteArray} {n : Int} : ∀ {l : List ItemP} {prev : Option Int}, itemsOk root n l prev = true → ∀ x ∈ l, verifyB root n x.idx x.ent x.prf = true := by
  intro l
  induction l with
  | nil => intro prev _ x hx; simp at hx
  | cons y l ih =>
    intro prev h x hx
    rw [itemsOk, Bool.and_eq_true] at h
    rcases List.mem_cons.1 hx with e | e
    · subst e
      have h1 := h.1
      unfold itemOk at h1
      rw [Bool.and_eq_true, Bool.and_eq_true] at h1
      exact h1.2
    · exact ih h.2 x e
/-- An item that is accepted under the head of a register has its entry, or there are two strings with one digest. -/
theorem shows_item {key : ByteArray} {car : Int} {xs : List ByteArray} {n : Nat} (hn : n ≤ xs.length) {z : PartP} (hz : checkB key z = true) (hh : z.head = headS key car xs n) {x : ItemP} (hx : x ∈ z.items) :
    ∃ i : Nat, x.idx = (i : Int) ∧ i < n ∧ (∀ s ∈ x.prf, s.size = 32) ∧ x.ent.size ≤ 1000 ∧ (xs.getD i ⟨#[]⟩ = x.ent ∨ collS (walkedS x.ent x.prf.reverse n i).1 (hashedS (xs.take n)) = true) := by
  unfold checkB at hz
  rw [Bool.and_eq_true] at hz
  have h2 := hz.2
  rw [hh] at h2
  obtain ⟨a0, a1, a2⟩ := itemsOk_mem h2 x hx
  have a1 : x.idx < (n : Int) := a1
  have hv : verifyB (rootB (xs.take n)) (n : Int) x.idx x.ent x.prf = true := itemsOk_verify h2 x hx
  unfold verifyB at hv
  split at hv
  · rename_i hc
    obtain ⟨_, _, hd⟩ := hc
    obtain ⟨i, hi⟩ := Int.eq_ofNat_of_zero_le a0
    have hin : i < n := by omega
    rw [hi, Int.toNat_natCast, Int.toNat_natCast] at hv
    have hd' : ∀ s ∈ x.prf, s.size = 32 := fun s hs => by
      have := List.all_eq_true.1 hd s hs
      unfold isDig at this
      exact of_decide_eq_true this
    unfold verB at hv
    have hv := of_decide_eq_true hv
    have e1 : (xs.take n).length = n := by rw [List.length_take]; omega
    have h3 := value_coll x.ent (xs.take n) x.prf.reverse i (by rw [e1]; exact hin) (fun s hs => hd' s (List.mem_reverse.1 hs)) (by rw [e1]; exact hv)
    rw [e1] at h3
    refine ⟨i, hi, hin, hd', a2, ?_⟩
    rcases h3 with h3 | h3
    · left
      rw [List.getElem?_take_of_lt hin] at h3
      rw [List.getD_eq_getElem?_getD, h3]
      rfl
    · exact .inr h3
  · cases hv

/-! ### Growth -/
theorem grown_law {key : ByteArray} {car car' : Int} {xs ys : List ByteArray} {m n : Nat} {pr : List ByteArray} (hm : m ≤ xs.length) (hn : n ≤ ys.length) (h : extendsB key (headS key car xs m) (headS key car' ys n) pr = true) :
    m ≤ n ∧ (∀ s ∈ pr, s.size = 32) ∧ ∀ k, k < m → (xs.getD k ⟨#[]⟩ = ys.getD k ⟨#[]⟩ ∨ collS (hashedS (xs.take m) ++ hashedS (ys.take n) ++ (grewS (rootB (xs.take m)) pr.reverse m n true).1) (hashedS (xs.take m) ++ hashedS (ys.take n) ++ (grewS (rootB (xs.take m)) pr.reverse m n true).1) = true) := by
  unfold extendsB at h
  rw [Bool.and_eq_true, Bool.and_eq_true, Bool.and_eq_true] at h
  have h4 : vextB (rootB (xs.take m)) (m : Int) (rootB (ys.take n)) (n : Int) pr = true := h.2.2.2
  unfold vextB at h4
  split at h4
  · rename_i hc
    obtain ⟨h5, hd⟩ := hc
    have hd' : ∀ s ∈ pr, s.size = 32 := fun s hs => by
      have := List.all_eq_true.1 hd s hs
      unfold isDig at this
      exact of_decide_eq_true this
    have hmn : m ≤ n := by omega
    refine ⟨hmn, hd', fun k hk => ?_⟩
    rw [Int.toNat_natCast, Int.toNat_natCast, vexB_pos (by omega)] at h4
    have h4 := of_decide_eq_true h4
    have e1 : (xs.take m).length = m := by rw [List.length_take]; omega
    have e2 : (ys.take n).length = n := by rw [List.length_take]; omega
    have h6 := grew_coll (rootB (xs.take m)) (rootB_size _) (xs.take m) (ys.take n) pr.reverse true (by rw [e1]; omega) (by rw [e1, e2]; exact hmn) (fun s hs => hd' s (List.mem_reverse.1 hs)) (by rw [e1, e2]; exact h4)
    rw [e1, e2] at h6
    rcases h6 with h6 | ⟨c, h6, h7⟩
    · left
      rw [List.take_take, Nat.min_eq_left hmn] at h6
      have e3 : (xs.take m)[k]? = (ys.take m)[k]? := by rw [h6]
      rw [List.getElem?_take_of_lt hk, List.getElem?_take_of_lt hk] at e3
      rw [List.getD_eq_getElem?_getD, List.getD_eq_getElem?_getD, e3]
    · right
      exact coll_any h7 h6 h6
  · cases h4

/-! ### Heads -/
theorem forged_law {key : ByteArray} {car : Int} {xs : List ByteArray} {n : Nat} (hk : key.size = 32) (hc : 0 ≤ car ∧ car ≤ 7) (hn : n ≤ 60) (sl : ByteArray) : genuineB key { headS key car xs n with sl := sl } = decide (sl = (headS key car xs n).sl) := by
  have hg := head_genuine (key := key) (car := car) (ents := xs) (n := n) hk hc hn
  unfold genuineB at hg ⊢
  obtain ⟨a1, a2, a3, a4, a5⟩ := of_decide_eq_true hg
  refine decide_eq_decide.2 ⟨fun h => h.2.2.2.2, fun h => ⟨a1, a2, a3, a4, h⟩⟩
theorem keyS_ne {c d : Int} (h0 : 0 ≤ c) (h7 : c ≤ 7) (h8 : 8 ≤ d) (h9 : d ≤ 107) : keyS c ≠ keyS d := by
  intro e
  have e1 := congrArg (fun x : ByteArray => x.data.toList.head?) e
  simp only [keyS] at e1
  have e2 : (List.replicate 32 (UInt8.ofNat ((100 + c).toNat % 256))).head? = (List.replicate 32 (UInt8.ofNat ((100 + d).toNat % 256))).head? := e1
  rw [List.replicate_succ, List.replicate_succ] at e2
  have e3 : UInt8.ofNat ((100 + c).toNat % 256) = UInt8.ofNat ((100 + d).toNat % 256) := Option.some.inj e2
  have := congrArg UInt8.toNat e3
  rw [UInt8.toNat_ofNat', UInt8.toNat_ofNat'] at this
  omega
theorem strange_law {key strange : ByteArray} {h : HeadP} (hg : genuineB key h = true) (hs : genuineB strange h = true) (hne : key ≠ strange) : collS [markN key (leafS (contentB h))] [markN strange (leafS (contentB h))] = true := by
  unfold genuineB at hg hs
  obtain ⟨a1, _, _, _, a5⟩ := of_decide_eq_true hg
  obtain ⟨b1, _, _, _, b5⟩ := of_decide_eq_true hs
  exact keys_coll key strange h (by omega) hne (by rw [← a5, ← b5])

/-! ### The register like another one -/
theorem other_valid {car : Int} {xs : List ByteArray} (at' : Int) (y : List Int) (hc : 0 ≤ car ∧ car ≤ 7) (hl : xs.length ≤ 12) (hs : ∀ s ∈ xs, s.size ≤ 2) : validB ⟨car, otherL xs at' y⟩ = true ∧ (otherL xs at' y).length ≤ 12 ∧ ∀ s ∈ otherL xs at' y, s.size ≤ 2 := by
  have hp := pickI_range at' (n := (xs.length : Int) + 1) (by omega)
  have h1 : (otherL xs at' y).length ≤ 12 := by
    unfold otherL
    simp only [List.length_append, List.length_take, List.length_map]
    omega
  have h2 : ∀ s ∈ otherL xs at' y, s.size ≤ 2 := by
    intro s h
    unfold otherL at h
    rcases List.mem_append.1 h with h | h
    · exact hs s (List.mem_of_mem_take h)
    · obtain ⟨n, _, rfl⟩ := List.mem_map.1 h
      exact entryS_size n
  refine ⟨?_, h1, h2⟩
  unfold validB
  apply decide_eq_true
  exact ⟨hc.1, hc.2, by show (otherL xs at' y).length ≤ 60; omega, fun s h => by have := h2 s h; omega⟩
end Go.Proofs.YtinfpbkbnhcifaaGreatDoor

/- Plain laws of parts and heads that are changed: what Bent answers. No condition. -/
namespace Go.Proofs.YtinfpbkbnhcifaaGreatDoor

/-! ### Plain -/
def bentI (its : List ItemP) (j : Nat) (f : ItemP → ItemP) : List ItemP := match its[j]? with
  | some x => its.set j (f x)
  | none => its
def bendK (how : Int) (len : Nat) : Nat := if len = 0 ∧ 3 < (pickI how 7).toNat then (pickI how 7).toNat - 4 else (pickI how 7).toNat
def bentK (p : PartP) (k : Nat) (n at' : Int) : PartP :=
  match k with
  | 0 => { p with head := { p.head with car := n } }
  | 1 => { p with head := { p.head with siz := n } }
  | 2 => { p with head := { p.head with root := sumS p.head.root } }
  | 3 => { p with head := { p.head with siz := IntKind.i64.wrap (p.head.siz + 1) } }
  | 4 => { p with items := bentI p.items (pickI at' p.items.length).toNat fun x => { x with ent := entryS n } }
  | 5 => { p with items := bentI p.items (pickI at' p.items.length).toNat fun x => { x with idx := n } }
  | _ => { p with items := bentI p.items (pickI at' p.items.length).toNat fun x => { x with ent := x.ent ++ ⟨#[120]⟩ } }
def bentP (p : PartP) (how n at' : Int) : PartP := bentK p (bendK how p.items.length) n at'
theorem bendK_le (how : Int) (len : Nat) : bendK how len ≤ 6 ∧ (len = 0 → bendK how len ≤ 3) := by
  have h := pickI_range how (n := 7) (by omega)
  unfold bendK
  split <;> omega

theorem bentK_sl (p : PartP) (k : Nat) (n at' : Int) : (bentK p k n at').head.sl = p.head.sl := by
  unfold bentK
  split <;> rfl
theorem bentK_nil (h : HeadP) (k : Nat) (n at' : Int) : (bentK ⟨h, []⟩ k n at').items = [] := by
  unfold bentK
  split <;> rfl
theorem bentK_root (p : PartP) (k : Nat) (n at' : Int) (hr : p.head.root.size ≤ 1000) : (bentK p k n at').head.root.size ≤ 1000 := by
  unfold bentK
  split
  · exact hr
  · exact hr
  · show (sumS p.head.root).size ≤ 1000
    rw [sumS_size]; omega
  · exact hr
  · exact hr
  · exact hr
  · exact hr
theorem bentI_prop (P : ItemP → Prop) (its : List ItemP) (j : Nat) (f : ItemP → ItemP) (h : ∀ x ∈ its, P x) (hf : ∀ x, P x → P (f x)) : ∀ x ∈ bentI its j f, P x := by
  unfold bentI
  split
  · rename_i y hy
    intro x hx
    rcases List.mem_or_eq_of_mem_set hx with e | e
    · exact h x e
    · rw [e]
      exact hf y (h y (List.mem_of_getElem? hy))
  · exact h
theorem bentI_len (its : List ItemP) (j : Nat) (f : ItemP → ItemP) : (bentI its j f).length = its.length := by
  unfold bentI
  split
  · rw [List.length_set]
  · rfl
theorem bentK_len (p : PartP) (k : Nat) (n at' : Int) : (bentK p k n at').items.length = p.items.length := by
  unfold bentK
  split <;> first | rfl | exact bentI_len _ _ _
theorem bentK_items (P : ItemP → Prop) (p : PartP) (k : Nat) (n at' : Int) (h : ∀ x ∈ p.items, P x) (h4 : ∀ x, P x → P { x with ent := entryS n }) (h5 : ∀ x, P x → P { x with idx := n }) (h6 : ∀ x, P x → P { x with ent := x.ent ++ ⟨#[120]⟩ }) : ∀ x ∈ (bentK p k n at').items, P x := by
  unfold bentK
  split
  · exact h
  · exact h
  · exact h
  · exact h
  · exact bentI_prop P _ _ _ h h4
  · exact bentI_prop P _ _ _ h h5
  · exact bentI_prop P _ _ _ h h6
theorem content_size (h : HeadP) : (contentB h).size = 3 + h.root.size := by
  unfold contentB
  show (List.toArray _).size = _
  simp
  omega
/-- A head that is changed is genuine no more, or there are two strings with one digest. -/
theorem heads_law {key : ByteArray} {h z : HeadP} (hg : genuineB key h = true) (hs : z.sl = h.sl) (hz : genuineB key z = true) (hne : z ≠ h) : collS [markL (contentB h), markN key (leafS (contentB h))] [markL (contentB z), markN key (leafS (contentB z))] = true :=
  genuine_coll hg hz hs hne
theorem pick_pick (how : Int) : pickI (pickI how 4) 7 = pickI how 4 := by
  have h := pickI_range how (n := 4) (by omega)
  generalize pickI how 4 = k at *
  unfold pickI
  rw [if_neg (by omega)]
  omega
end Go.Proofs.YtinfpbkbnhcifaaGreatDoor
