/- The walk of digest.Extension. The conditions: what the slice reads as, lengths, the table of constants. -/
import Derived.Test.YtinfpbkbnhcifaaGreatDoorQ09
import Derived.Test.YtinfpbkbnhcifaaGreatDoorQ11
import Derived.Lib.Builder
import Derived.Lib.UnsafeStr
import Derived.Lib.AppendStr
import Derived.Laws.Externs
import Derived.Test.YtinfpbkbnhcifaaGreatDoorQ04
namespace Go.Proofs.YtinfpbkbnhcifaaGreatDoor
open Go.RowKit Go.BigFrame Go.Shelf

attribute [local go_sem] Oper.semAt_some

/-- The proof that a list begins with m entries. -/
def extB (l : List ByteArray) (m : Nat) (wh : Bool) : List ByteArray := extD leafS nodeS (sumS ⟨#[]⟩) l m wh
theorem extB_end (l : List ByteArray) (m : Nat) (wh : Bool) (h : l.length ≤ m) : extB l m wh = if wh then [] else [rootB l] := by
  unfold extB; rw [extD, dif_pos (.inl h)]; rfl
theorem extB_left (l : List ByteArray) (m : Nat) (wh : Bool) (h : m < l.length) (h1 : 1 ≤ m) (hi : m ≤ leftN l.length) : extB l m wh = rootB (l.drop (leftN l.length)) :: extB (l.take (leftN l.length)) m wh := by
  unfold extB; rw [extD, dif_neg (by omega), if_pos hi]; rfl
theorem extB_right (l : List ByteArray) (m : Nat) (wh : Bool) (h : m < l.length) (h1 : 1 ≤ m) (hi : leftN l.length < m) : extB l m wh = rootB (l.take (leftN l.length)) :: extB (l.drop (leftN l.length)) (m - leftN l.length) false := by
  unfold extB; rw [extD, dif_neg (by omega), if_neg (by omega)]; rfl

set_option maxHeartbeats 4000000 in
set_option maxRecDepth 100000 in
theorem ext_zero {w : World} {v : Value} {xs : List ByteArray} (hr : SS w v xs) :
    Calls Tryz.prog 76 #[v, .int .i64 0] w fun e w' => e = .returned (.tuple #[.slice none 0 0, .int .i64 0]) ∧ w' = w := by
  obtain ⟨a, cap, rfl, l1, l2, l3⟩ := hr.opened
  clear l3 hr
  generalize xs.length = n at *
  have hd : ¬ ((n : Int) < 0) := by omega
  go_enter Tryz.func76, Tryz.ntmps76
  go_wp2
  exact bodyPost_ret (results_tmp2 rfl _ _ _) rfl ⟨rfl, rfl⟩

set_option maxHeartbeats 4000000 in
set_option maxRecDepth 100000 in
theorem ext_any {w : World} {v : Value} {xs : List ByteArray} (M : Nat) (hr : SS w v xs) (hl : xs.length ≤ 1000) (hx : ∀ x ∈ xs, x.size ≤ 100000) (he : Env w) (hg : 0 < w.heap.size) (hM1 : 1 ≤ M) (hM : M ≤ xs.length) :
    Calls Tryz.prog 76 #[v, .int .i64 M] w fun e w' => ∃ v', e = .returned (.tuple #[v', .int .i64 0]) ∧ SS w' v' (extB xs M true).reverse ∧ Below w.heap.size w w' := by
  obtain ⟨a, cap, rfl, l1, l2, l3⟩ := hr.opened
  obtain ⟨b, off, rfl, hb, c1⟩ := l3 0 _ (List.getElem?_eq_getElem (by omega))
  have HR := Lib.hid hr
  have HX := Lib.hid hx
  have HE := Lib.hid he
  have HG := Lib.hid hg
  clear l3 hr hx he hg c1
  unfold maxLen at l2
  obtain ⟨D, hD⟩ : ∃ D, D = extB xs M true := ⟨_, rfl⟩
  rw [← hD]
  have HD1 : Hid (∃ n, n = xs.length ∧ M ≤ n ∧ n ≤ cap ∧ n ≤ 1000) := Lib.hid ⟨_, rfl, hM, l1, hl⟩
  have HD0 : Hid ([] ++ extB xs M true = D) := Lib.hid hD.symm
  clear hD hM l1 hl
  obtain ⟨n, hn, hM, l1, hl⟩ := HD1.out
  have HN := Lib.hid hn
  rw [← hn] at HR ⊢
  clear HD1 hn
  have hd0 : ¬ ((M : Int) < 0) := by omega
  have hd1 : ¬ ((n : Int) < (M : Int)) := by omega
  have hd2 : ((M : Int) == 0) = false := by simp; omega
  go_enter Tryz.func76, Tryz.ntmps76
  go_wp2
  go_loopw [0, 1, 6, 7] (fun vl vi vo vh wr => ∃ (ys ds : List ByteArray) (j m b off cap : Nat) (wh : Bool), vl = .slice (some ⟨b, off, none⟩) m cap ∧ vi = .int .i64 j ∧ vh = .bool wh ∧ 1 ≤ j ∧ j ≤ m ∧ m ≤ 1000 ∧ Hid (ds ++ extB ys j wh = D ∧ ys.length = m ∧ ds.length + m ≤ 1000 ∧ ∀ y ∈ ys, y ∈ xs) ∧ Hid (SS w (.slice (some ⟨b, off, none⟩) m cap) ys) ∧ Hid (OwnS wr w.heap.size vo ds ∧ Below w.heap.size w wr)) (fun vl _ _ _ wr => lenOf vl)
  case atStart => exact ⟨xs, [], M, n, b, off, cap, true, rfl, rfl, rfl, hM1, hM, hl, Lib.hid ⟨HD0.out, HN.out.symm, by simpa using hl, fun y h => h⟩, HR, Lib.hid ⟨OwnE.nil _ _ _ _, Below.refl _ _⟩⟩
  case round =>
    obtain ⟨ys, ds, j, m, b, off, cap, wh, rfl, rfl, rfl, hj1, hj, hm, HI, HS, HO⟩ := hrel
    obtain ⟨hy, hc, hcm⟩ := HS.out.len
    unfold maxLen at hcm
    clear hy
    have hyx : Hid (∀ y ∈ ys, y.size ≤ 100000) := Lib.hid (fun y hy => HX.out y (HI.out.2.2.2 y hy))
    by_cases h1 : j = m
    · subst h1
      have HE1 : Hid (D = ds ++ if wh then [] else [rootB ys]) := Lib.hid (by rw [← HI.out.1, extB_end _ _ _ (by rw [HI.out.2.1]; exact Nat.le_refl _)])
      cases wh
      · have HRt : Hid (Calls Tryz.prog 74 #[.slice (some ⟨b, off, none⟩) j cap] wr fun e w' => e = .returned (.string (rootB ys)) ∧ Below wr.heap.size wr w') := Lib.hid
          (root_any (HS.out.below HO.out.2) (by rw [HI.out.2.1]; exact hm) (fun y hy => hyx.out y hy) (HE.out.below HO.out.2 HG.out) (Nat.lt_of_lt_of_le HG.out HO.out.2.size))
        have HE2 : Hid (D = ds ++ [rootB ys]) := Lib.hid HE1.out
        go_wp2_with (first | (go_at_call 74; refine HRt.out.mono ?_; rintro e w2 ⟨rfl, hb2⟩; have HO2 : Hid (OwnS w2 w.heap.size _ ds ∧ Below w.heap.size w w2) := Lib.hid ⟨OwnE.far HO.out.1 hb2 (Nat.le_refl _), HO.out.2.trans (hb2.mono HO.out.2.size)⟩; clear hb2) | (at_builtin; refine wpList_append_str (.tmp 52) (.tmp 55) w.heap.size _ ds w2.heap.size (rootB ys) (0, 0) (HO2.out.1.alloc _) (by have := HI.out.2.2.1; omega) (Nat.le_trans HO2.out.2.size (by simp)) (heap_alloc_new _ _) rfl rfl rfl rfl ?_; intro v3 w3 ho3 hg3; have HO3 : Hid (OwnS w3 w.heap.size v3 (ds ++ [rootB ys]) ∧ Below w.heap.size w w3) := Lib.hid ⟨ho3, below_own (HO2.out.2.alloc HO2.out.2.size _) (HO2.out.1.alloc _) hg3 (Nat.le_refl _)⟩; clear ho3 hg3) | (go_at_call 86; refine (reverse_own HO3.out.1 (by have := HI.out.2.2.1; rw [List.length_append]; simp; omega)).mono ?_; rintro e w4 ⟨rfl, hs1, hg1, _⟩; have HS1 := Lib.hid hs1; have HG1 := Lib.hid hg1; clear hs1 hg1))
        refine bodyPost_ret (results_tmp2 rfl _ _ _) rfl ⟨_, rfl, ?_, ?_⟩
        · rw [HE2.out]; exact HS1.out
        · exact below_own HO3.out.2 HO3.out.1 HG1.out (Nat.le_refl _)
      · have HE2 : Hid (D = ds) := Lib.hid (by rw [HE1.out]; exact List.append_nil _)
        have HRV := Lib.hid (reverse_own HO.out.1 (by have := HI.out.2.2.1; omega))
        go_wp2_with (go_at_call 86; refine HRV.out.mono ?_; rintro e w1 ⟨rfl, hs1, hg1, _⟩; have HS1 := Lib.hid hs1; have HG1 := Lib.hid hg1; clear hs1 hg1)
        refine bodyPost_ret (results_tmp2 rfl _ _ _) rfl ⟨_, rfl, ?_, ?_⟩
        · rw [HE2.out]; exact HS1.out
        · exact below_own HO.out.2 HO.out.1 HG1.out (Nat.le_refl _)
    · have hlt : (j : Int) < (m : Int) := by omega
      have HL := Lib.hid (left_any m wr (by omega) (by omega))
      have hk1 := leftN_pos m
      have hk2 := leftN_lt (n := m) (by omega)
      obtain ⟨k, hk⟩ : ∃ k, k = leftN m := ⟨_, rfl⟩
      rw [← hk] at HL hk1 hk2
      have HK := Lib.hid hk
      clear hk
      have HST := Lib.hid (HS.out.cut k (by omega))
      have HSD := Lib.hid (HS.out.drop k (by omega))
      by_cases hjk : k < j
      · have HRt : Hid (∀ q, Calls Tryz.prog 74 #[.slice (some ⟨b, off, none⟩) k cap] (wr.drewN q) fun e w' => e = .returned (.string (rootB (ys.take k))) ∧ Below (wr.drewN q).heap.size (wr.drewN q) w') := Lib.hid (fun q =>
          root_any ((HST.out.below HO.out.2).drewN q) (by rw [List.length_take]; omega) (fun y hy => hyx.out y (List.mem_of_mem_take hy)) (HE.out.below (below_drewN HO.out.2 q) HG.out) (Nat.lt_of_lt_of_le HG.out HO.out.2.size))
        have f1 : IntKind.i64.wrap ((j : Int) - (k : Int)) = ((j - k : Nat) : Int) := by rw [IntWalk.i64_in _ (by omega)]; omega
        have hd : (k : Int) < (j : Int) := by omega
        have HN1 : Hid (ds ++ [rootB (ys.take k)] ++ extB (ys.drop k) (j - k) false = D ∧ (ys.drop k).length = m - k ∧ (ds ++ [rootB (ys.take k)]).length + (m - k) ≤ 1000 ∧ ∀ y ∈ ys.drop k, y ∈ xs) := Lib.hid (by
          obtain ⟨e1, e2, e3, e4⟩ := HI.out
          have e5 := extB_right ys j wh (by omega) hj1 (by rw [e2, ← HK.out]; exact hjk)
          rw [e2, ← HK.out] at e5
          refine ⟨?_, ?_, ?_, fun y hy => e4 y (List.mem_of_mem_drop hy)⟩
          · rw [← e1, e5]; simp
          · rw [List.length_drop, e2]
          · rw [List.length_append]; simp; omega)
        go_wp2_with (first | (go_at_call 85; refine HL.out.mono ?_; rintro e w1 ⟨rfl, rfl⟩) | (go_quiet (fail)) | (go_at_call 74; refine (HRt.out _).mono ?_; rintro e w2 ⟨rfl, hb2⟩; have HO2 : Hid (OwnS w2 w.heap.size _ ds ∧ Below w.heap.size w w2) := Lib.hid ⟨OwnE.far (OwnE.drewN HO.out.1 _) hb2 (Nat.le_refl _), (below_drewN HO.out.2 _).trans (hb2.mono HO.out.2.size)⟩; clear hb2) | (at_builtin; refine wpList_append_str (.tmp 44) (.tmp 47) w.heap.size _ ds w2.heap.size (rootB (ys.take k)) (0, 0) (HO2.out.1.alloc _) (by have := HI.out.2.2.1; omega) (Nat.le_trans HO2.out.2.size (by simp)) (heap_alloc_new _ _) rfl rfl rfl rfl ?_; intro v3 w3 ho3 hg3; have HO3 : Hid (OwnS w3 w.heap.size v3 (ds ++ [rootB (ys.take k)]) ∧ Below w.heap.size w w3) := Lib.hid ⟨ho3, below_own (HO2.out.2.alloc HO2.out.2.size _) (HO2.out.1.alloc _) hg3 (Nat.le_refl _)⟩; clear ho3 hg3))
        go_roundw
        case rel => exact ⟨ys.drop k, ds ++ [rootB (ys.take k)], j - k, m - k, b, off + k, cap - k, false, rfl, rfl, rfl, by omega, by omega, by omega, HN1, HSD, HO3⟩
        case measure => simp only [lenOf]; omega
      · have HRt : Hid (∀ q, Calls Tryz.prog 74 #[.slice (some ⟨b, off + k, none⟩) (m - k) (cap - k)] (wr.drewN q) fun e w' => e = .returned (.string (rootB (ys.drop k))) ∧ Below (wr.drewN q).heap.size (wr.drewN q) w') := Lib.hid (fun q =>
          root_any ((HSD.out.below HO.out.2).drewN q) (by rw [List.length_drop]; have := HI.out.2.1; omega) (fun y hy => hyx.out y (List.mem_of_mem_drop hy)) (HE.out.below (below_drewN HO.out.2 q) HG.out) (Nat.lt_of_lt_of_le HG.out HO.out.2.size))
        have hd : ¬ (k : Int) < (j : Int) := by omega
        have HN1 : Hid (ds ++ [rootB (ys.drop k)] ++ extB (ys.take k) j wh = D ∧ (ys.take k).length = k ∧ (ds ++ [rootB (ys.drop k)]).length + k ≤ 1000 ∧ ∀ y ∈ ys.take k, y ∈ xs) := Lib.hid (by
          obtain ⟨e1, e2, e3, e4⟩ := HI.out
          have e5 := extB_left ys j wh (by omega) hj1 (by rw [e2, ← HK.out]; omega)
          rw [e2, ← HK.out] at e5
          refine ⟨?_, ?_, ?_, fun y hy => e4 y (List.mem_of_mem_take hy)⟩
          · rw [← e1, e5]; simp
          · rw [List.length_take, e2]; omega
          · rw [List.length_append]; simp; omega)
        go_wp2_with (first | (go_at_call 85; refine HL.out.mono ?_; rintro e w1 ⟨rfl, rfl⟩) | (go_quiet (fail)) | (go_at_call 74; refine (HRt.out _).mono ?_; rintro e w2 ⟨rfl, hb2⟩; have HO2 : Hid (OwnS w2 w.heap.size _ ds ∧ Below w.heap.size w w2) := Lib.hid ⟨OwnE.far (OwnE.drewN HO.out.1 _) hb2 (Nat.le_refl _), (below_drewN HO.out.2 _).trans (hb2.mono HO.out.2.size)⟩; clear hb2) | (at_builtin; refine wpList_append_str (.tmp 44) (.tmp 47) w.heap.size _ ds w2.heap.size (rootB (ys.drop k)) (0, 0) (HO2.out.1.alloc _) (by have := HI.out.2.2.1; omega) (Nat.le_trans HO2.out.2.size (by simp)) (heap_alloc_new _ _) rfl rfl rfl rfl ?_; intro v3 w3 ho3 hg3; have HO3 : Hid (OwnS w3 w.heap.size v3 (ds ++ [rootB (ys.drop k)]) ∧ Below w.heap.size w w3) := Lib.hid ⟨ho3, below_own (HO2.out.2.alloc HO2.out.2.size _) (HO2.out.1.alloc _) hg3 (Nat.le_refl _)⟩; clear ho3 hg3))
        go_roundw
        case rel => exact ⟨ys.take k, ds ++ [rootB (ys.drop k)], j, k, b, off, cap, wh, rfl, rfl, rfl, by omega, by omega, by omega, HN1, HST, HO3⟩
        case measure => simp only [lenOf]; omega
end Go.Proofs.YtinfpbkbnhcifaaGreatDoor

/- What the functions of package register answer: plain functions, and what they say of each other. No condition. -/
namespace Go.Proofs.YtinfpbkbnhcifaaGreatDoor

structure HeadP where
  car : Int
  siz : Int
  root : ByteArray
  sl : ByteArray
deriving DecidableEq

structure ItemP where
  idx : Int
  ent : ByteArray
  prf : List ByteArray
deriving DecidableEq

structure PartP where
  head : HeadP
  items : List ItemP
deriving DecidableEq

structure RegP where
  car : Int
  ents : List ByteArray
deriving DecidableEq

/-- The bytes that are signed for a head, of small numbers. -/
def contentB (h : HeadP) : ByteArray := ⟨([8, UInt8.ofNat (2 * h.car.toNat), UInt8.ofNat (2 * h.siz.toNat)] ++ h.root.data.toList).toArray⟩
def signedB (key : ByteArray) (h : HeadP) : ByteArray := nodeS key (leafS (contentB h))
def validB (r : RegP) : Bool := decide (0 ≤ r.car ∧ r.car ≤ 7 ∧ r.ents.length ≤ 60 ∧ ∀ s ∈ r.ents, s.size ≤ 1000)

def headS (key : ByteArray) (car : Int) (ents : List ByteArray) (n : Nat) : HeadP :=
  { car := car, siz := n, root := rootB (ents.take n), sl := signedB key { car := car, siz := n, root := rootB (ents.take n), sl := ⟨#[]⟩ } }
def signB (key : ByteArray) (r : RegP) (n : Int) : Option HeadP :=
  if key.size = 32 ∧ validB r = true ∧ 0 ≤ n ∧ n ≤ r.ents.length then some (headS key r.car r.ents n.toNat) else none
def genuineB (key : ByteArray) (h : HeadP) : Bool :=
  decide (key.size = 32 ∧ (0 ≤ h.car ∧ h.car ≤ 7) ∧ (0 ≤ h.siz ∧ h.siz ≤ 60) ∧ h.root.size = 32 ∧ h.sl = signedB key h)

def proofB (l : List ByteArray) (i : Nat) : List ByteArray := (downL leafS nodeS (sumS ⟨#[]⟩) l i).reverse
/-- The items that a part shows, if the indices ascend and lie below n. -/
def itemsB (ents : List ByteArray) (n : Nat) : List Int → Option Int → Option (List ItemP)
  | [], _ => some []
  | i :: l, prev => if 0 ≤ i ∧ i < n ∧ (∀ j, prev = some j → j < i) then
      (itemsB ents n l (some i)).map (fun z => { idx := i, ent := ents.getD i.toNat ⟨#[]⟩, prf := proofB (ents.take n) i.toNat } :: z) else none
def showB (key : ByteArray) (r : RegP) (n : Int) (l : List Int) : Option PartP :=
  match signB key r n with
  | none => none
  | some h => (itemsB r.ents n.toNat l none).map fun z => { head := h, items := z }

def verifyB (root : ByteArray) (n i : Int) (s : ByteArray) (pr : List ByteArray) : Bool :=
  if 0 ≤ i ∧ i < n ∧ pr.all isDig = true then verB root n.toNat i.toNat s pr else false
def itemOk (root : ByteArray) (n : Int) (x : ItemP) (prev : Option Int) : Bool :=
  decide (∀ j, prev = some j → j < x.idx) && decide (x.ent.size ≤ 1000) && verifyB root n x.idx x.ent x.prf
def itemsOk (root : ByteArray) (n : Int) : List ItemP → Option Int → Bool
  | [], _ => true
  | x :: xs, prev => itemOk root n x prev && itemsOk root n xs (some x.idx)
def checkB (key : ByteArray) (p : PartP) : Bool := genuineB key p.head && itemsOk p.head.root p.head.siz p.items none

def grownB (r : RegP) (m n : Int) : Option (List ByteArray) :=
  if validB r = true ∧ (0 ≤ n ∧ n ≤ r.ents.length) ∧ (0 ≤ m ∧ m ≤ n) then
    some (if m = 0 then [] else (extB (r.ents.take n.toNat) m.toNat true).reverse) else none
def vextB (old : ByteArray) (m : Int) (root : ByteArray) (n : Int) (pr : List ByteArray) : Bool :=
  if m ≤ n ∧ pr.all isDig = true then vexB old m.toNat root n.toNat pr else false
def extendsB (key : ByteArray) (old h : HeadP) (pr : List ByteArray) : Bool :=
  genuineB key old && (genuineB key h && (decide (old.car = h.car) && vextB old.root old.siz h.root h.siz pr))

/-- What is known at an index: the last item with it. -/
def knownB : List ItemP → Int → Option ByteArray
  | [], _ => none
  | x :: xs, i => match knownB xs i with
    | some s => some s
    | none => if x.idx = i then some x.ent else none
def differs (k : Int → Option ByteArray) (x : ItemP) : Bool :=
  match k x.idx with
  | none => false
  | some s => decide (s ≠ x.ent)
def convB (a b : PartP) : Bool :=
  decide (a.head.car = b.head.car) && (decide (a.head.siz = b.head.siz ∧ a.head.root ≠ b.head.root) || b.items.any (differs (knownB a.items)))
def convictsB (key : ByteArray) (a b : PartP) : Bool := checkB key a && (checkB key b && convB a b)

/-! ### What they say of each other -/
theorem sign_some {key : ByteArray} {r : RegP} {n : Int} {h : HeadP} (e : signB key r n = some h) : key.size = 32 ∧ validB r = true ∧ 0 ≤ n ∧ n ≤ r.ents.length ∧ h = headS key r.car r.ents n.toNat := by
  unfold signB at e
  split at e
  · rename_i hc
    cases e
    exact ⟨hc.1, hc.2.1, hc.2.2.1, hc.2.2.2, rfl⟩
  · cases e
theorem valid_parts {r : RegP} (h : validB r = true) : 0 ≤ r.car ∧ r.car ≤ 7 ∧ r.ents.length ≤ 60 ∧ ∀ s ∈ r.ents, s.size ≤ 1000 := by
  unfold validB at h
  exact of_decide_eq_true h
theorem head_genuine {key : ByteArray} {car : Int} {ents : List ByteArray} {n : Nat} (hk : key.size = 32) (hc : 0 ≤ car ∧ car ≤ 7) (hn : n ≤ 60) : genuineB key (headS key car ents n) = true := by
  unfold genuineB
  apply decide_eq_true
  refine ⟨hk, hc, ⟨?_, ?_⟩, rootB_size _, rfl⟩
  · show (0 : Int) ≤ (n : Int); omega
  · show (n : Int) ≤ 60; omega
theorem sign_genuine {key : ByteArray} {r : RegP} {n : Int} {h : HeadP} (e : signB key r n = some h) : genuineB key h = true := by
  obtain ⟨h1, h2, h3, h4, rfl⟩ := sign_some e
  obtain ⟨a, b, c, _⟩ := valid_parts h2
  exact head_genuine h1 ⟨a, b⟩ (by omega)

theorem verify_down (l : List ByteArray) (i : Nat) (h : i < l.length) : verB (rootB l) l.length i (l.getD i ⟨#[]⟩) (proofB l i) = true := by
  unfold verB proofB
  rw [List.reverse_reverse]
  apply decide_eq_true
  refine value_down leafS nodeS (sumS ⟨#[]⟩) l i _ ?_
  rw [List.getD_eq_getElem?_getD, List.getElem?_eq_getElem h]
  rfl
theorem proofB_dig (l : List ByteArray) (i : Nat) : (proofB l i).all isDig = true := by
  unfold proofB
  rw [List.all_reverse, List.all_eq_true]
  intro x hx
  unfold isDig
  exact decide_eq_true (downL_all leafS nodeS (sumS ⟨#[]⟩) (fun x => x.size = 32) (fun l _ => rootB_size l) l i x hx)

theorem items_ok {ents : List ByteArray} {n : Nat} (hn : n ≤ ents.length) (hs : ∀ s ∈ ents, s.size ≤ 1000) : ∀ (l : List Int) (prev : Option Int) (z : List ItemP), itemsB ents n l prev = some z → itemsOk (rootB (ents.take n)) n z prev = true := by
  intro l
  induction l with
  | nil => intro prev z h; cases h; rfl
  | cons i l ih =>
    intro prev z h
    unfold itemsB at h
    split at h
    · rename_i hc
      obtain ⟨h0, h1, h2⟩ := hc
      cases hz : itemsB ents n l (some i) with
      | none => rw [hz] at h; cases h
      | some z' =>
        rw [hz] at h
        cases h
        have h3 : i.toNat < n := by omega
        have h4 : i.toNat < ents.length := by omega
        have e1 : (ents.take n).length = n := by rw [List.length_take]; omega
        have e2 : (ents.take n).getD i.toNat ⟨#[]⟩ = ents.getD i.toNat ⟨#[]⟩ := by
          rw [List.getD_eq_getElem?_getD, List.getD_eq_getElem?_getD, List.getElem?_take_of_lt h3]
        have e3 := verify_down (ents.take n) i.toNat (by rw [e1]; exact h3)
        rw [e1, e2] at e3
        have e4 : (ents.getD i.toNat ⟨#[]⟩).size ≤ 1000 := by
          rw [List.getD_eq_getElem?_getD, List.getElem?_eq_getElem h4]
          exact hs _ (List.getElem_mem h4)
        show (itemOk _ _ _ _ && itemsOk _ _ _ _) = true
        rw [Bool.and_eq_true]
        refine ⟨?_, ih _ _ hz⟩
        unfold itemOk
        rw [Bool.and_eq_true, Bool.and_eq_true]
        refine ⟨⟨decide_eq_true h2, decide_eq_true e4⟩, ?_⟩
        show verifyB (rootB (ents.take n)) (n : Int) i _ _ = true
        unfold verifyB
        rw [if_pos ⟨h0, h1, proofB_dig _ _⟩]
        exact e3
    · cases h

theorem show_check {key : ByteArray} {r : RegP} {n : Int} {l : List Int} {p : PartP} (e : showB key r n l = some p) : checkB key p = true := by
  unfold showB at e
  cases hs : signB key r n with
  | none => rw [hs] at e; cases e
  | some h =>
    rw [hs] at e
    cases hz : itemsB r.ents n.toNat l none with
    | none => simp only [hz] at e; cases e
    | some z =>
      simp only [hz] at e
      cases e
      unfold checkB
      rw [sign_genuine hs, Bool.true_and]
      obtain ⟨h1, h2, h3, h4, rfl⟩ := sign_some hs
      obtain ⟨_, _, _, d⟩ := valid_parts h2
      exact items_ok (n := n.toNat) (by omega) d l none z hz

theorem extB_dig (l : List ByteArray) (hl : l ≠ []) (m : Nat) (wh : Bool) : (extB l m wh).reverse.all isDig = true := by
  rw [List.all_reverse, List.all_eq_true]
  intro x hx
  unfold isDig
  exact decide_eq_true (extD_all leafS nodeS (sumS ⟨#[]⟩) (fun x => x.size = 32) (fun l _ => rootB_size l) l hl m wh x hx)

end Go.Proofs.YtinfpbkbnhcifaaGreatDoor

/- strings.Builder's methods at a builder that lies in a writer's block: copyCheck, WriteString, String. The conditions: what the builder holds, lengths. -/
namespace Go.Proofs.YtinfpbkbnhcifaaGreatDoor
open Go.RowKit Go.BigFrame Go.Shelf

theorem builderSize : (Tryz.prog.info? 141).map (·.size) = some 2 := by kernel_rfl
theorem builderLies : liesAt Tryz.prog Tryz.prog.depth 143 (2 / Tryz.prog.cellsOf 143) 0 141 1 = true := by kernel_rfl

set_option maxHeartbeats 1000000 in
set_option maxRecDepth 100000 in
theorem copyCheck_used (b : Nat) (w : World) (h0 : w.cell? ⟨b, 0, none⟩ = some (.pointer (some ⟨b, 0, none⟩))) :
    Calls Tryz.prog 128 #[.pointer (some ⟨b, 0, none⟩)] w fun e w' => e = .returned (.tuple #[]) ∧ w' = w := by
  obtain ⟨j, hj, _⟩ := Option.map_eq_some_iff.1 builderSize
  go_enter Tryz.func128, Tryz.ntmps128
  go_wp2
  rw [Lib.run_neq_ptr_same w _ Tryz.underlying139 hj]
  go_wp2
  go_end0
  exact ⟨rfl, rfl⟩

set_option maxHeartbeats 1000000 in
set_option maxRecDepth 100000 in
theorem copyCheck_fresh (b : Nat) (w : World) (h0 : w.cell? ⟨b, 0, none⟩ = some (.pointer none)) (hsh : w.shape? b = some (143, 2)) (hfz : w.frozen? ⟨b, 0, none⟩ = false) :
    Calls Tryz.prog 128 #[.pointer (some ⟨b, 0, none⟩)] w fun e w' => e = .returned (.tuple #[]) ∧ w' = w.setCell ⟨b, 0, none⟩ (.pointer (some ⟨b, 0, none⟩)) := by
  obtain ⟨j, hj, hjs⟩ := Option.map_eq_some_iff.1 builderSize
  go_enter Tryz.func128, Tryz.ntmps128
  go_wp2
  rw [Lib.run_to_unsafe w ⟨b, 0, none⟩ Tryz.underlying139 Tryz.underlying194 hj (by rw [hjs]; decide) hsh (Nat.zero_lt_succ 1)]
  simp only [Result.andThen]
  rw [Oper.upon_value]
  go_wp2
  rw [run_callFunc_extern Tryz.func146 (by kernel_rfl) (by kernel_rfl) (by kernel_rfl) (e := Extern.AbiNoEscape.same) (by kernel_rfl)]
  rw [Lib.run_noEscape]
  simp only [Result.andThen]
  rw [Oper.upon_value]
  go_wp2
  rw [Lib.run_from_unsafe w ⟨b, 0, none⟩ Tryz.underlying194 Tryz.underlying139 hj hsh builderLies]
  simp only [Result.andThen]
  rw [Oper.upon_value]
  go_wp2
  go_end0
  exact ⟨rfl, rfl⟩

theorem copyCheck_any (B b : Nat) (bs : List Value) (w : World) (h : Lib.IsBuilder 143 5 B b bs w) :
    Calls Tryz.prog 128 #[.pointer (some ⟨b, 0, none⟩)] w fun e w' => e = .returned (.tuple #[]) ∧ (Lib.BuilderAt 143 5 B b (.pointer (some ⟨b, 0, none⟩)) bs w' ∧ Below B w w') := by
  rcases h with h | h
  · refine (copyCheck_fresh b w h.cell0 h.shape h.frozen0).mono ?_
    rintro e w' ⟨rfl, rfl⟩
    exact ⟨rfl, h.used _, (Below.refl B w).setCell (p := ⟨b, 0, none⟩) h.1 _⟩
  · refine (copyCheck_used b w h.cell0).mono ?_
    rintro e w' ⟨rfl, rfl⟩
    exact ⟨rfl, h, Below.refl B _⟩

set_option maxHeartbeats 2000000 in
set_option maxRecDepth 100000 in
theorem writeString_any (B b : Nat) (bs : List Value) (s : ByteArray) (w : World) (h : Lib.IsBuilder 143 5 B b bs w) (hlen : bs.length + s.size ≤ 140737488355328) (hBw : B ≤ w.heap.size) :
    Calls Tryz.prog 107 #[.pointer (some ⟨b, 0, none⟩), .string s] w fun e w' => e = .returned (.tuple #[.int .i64 s.size, .nilIface]) ∧ (Lib.BuilderAt 143 5 B b (.pointer (some ⟨b, 0, none⟩)) (bs ++ Lib.strCells s) w' ∧ Below B w w') := by
  obtain ⟨i0, hi, hz0, hz1, hz2⟩ := info_parts infoByte
  go_enter Tryz.func107, Tryz.ntmps107
  go_wp2_with (go_at_call 128; refine (copyCheck_any B b bs _ h).mono ?_)
  rintro e w1 ⟨rfl, h1, hb1⟩
  obtain ⟨hB, v, hbk, hown, hne⟩ := h1
  have c0 : w1.cell? ⟨b, 0, none⟩ = some (.pointer (some ⟨b, 0, none⟩)) := by rw [Lib.cell_of_heap hbk]; rfl
  have c1 : w1.cell? ⟨b, 1, none⟩ = some v := by rw [Lib.cell_of_heap hbk]; rfl
  go_wp2_with (at_builtin; refine Lib.wpList_append_own_string _ rfl _ _ 88 9 rfl B 5 i0 (by kernel_rfl) (by kernel_rfl) hi hz0 hz1 hz2 _ _ _ rfl hown s rfl ?c3 ?c4 ?c5 ?_)
  case c3 => unfold maxLen; omega
  case c4 => omega
  case c5 => have := hb1.size; omega
  intro v' w2 hown' hgrow _
  have hlt : b < w1.heap.size := by
    rcases Nat.lt_or_ge b w1.heap.size with h' | h'
    · exact h'
    · simp [Array.getElem?_eq_none h'] at hbk
  have hb2 : w2.heap[b]? = some (.cells #[.pointer (some ⟨b, 0, none⟩), v] 143 (0, 0)) := by
    rw [hgrow.block b hlt (fun e => hne e.symm)]
    exact hbk
  have d0 : w2.cell? ⟨b, 0, none⟩ = some (.pointer (some ⟨b, 0, none⟩)) := by rw [Lib.cell_of_heap hb2]; rfl
  have d1 : w2.cell? ⟨b, 1, none⟩ = some v := by rw [Lib.cell_of_heap hb2]; rfl
  have f1 : w2.frozen? ⟨b, 1, none⟩ = false := Lib.frozen_of_heap hb2 1
  obtain ⟨ao, n', cap, rfl⟩ : ∃ ao n' cap, v' = .slice ao n' cap := by
    rcases hown'.2 with ⟨hv, _⟩ | ⟨g, cap, cur, hv, _⟩
    · exact ⟨_, _, _, hv⟩
    · exact ⟨_, _, _, hv⟩
  go_wp2
  go_ret2
  refine ⟨rfl, ?_, ?_⟩
  · exact Lib.BuilderAt.put (T := 143) (e := 5) hB hb2 (bs' := bs ++ Lib.strCells s) (by simpa [Lib.strCells_length] using hown') (by decide)
  · exact (hb1.grown hgrow (by have := hb1.size; omega) (fun k hk => (hown.lt k hk).1)).setCell (p := ⟨b, 1, none⟩) hB _

set_option maxHeartbeats 1000000 in
set_option maxRecDepth 100000 in
theorem bstring_any (B b : Nat) (l : List UInt8) (w : World) (h : Lib.BuilderAt 143 5 B b (.pointer (some ⟨b, 0, none⟩)) (Lib.byteCells l) w) (h0 : l ≠ []) :
    Calls Tryz.prog 108 #[.pointer (some ⟨b, 0, none⟩)] w fun e w' => e = .returned (.string ⟨l.toArray⟩) ∧ Below B w w' := by
  obtain ⟨hB, v, hbk, hown, hne⟩ := h
  have hl0 : l.length ≠ 0 := by simpa using h0
  rw [Lib.byteCells_length] at hown
  obtain ⟨g, cap, cur, rfl, hbg, hg, hnc, hcm, hcs, htake⟩ : ∃ g cap cur, v = .slice (some ⟨g, 0, none⟩) l.length cap ∧ B ≤ g ∧ w.heap[g]? = some (.cells cur 5 (0, 0)) ∧ l.length ≤ cap ∧ cap ≤ maxLen ∧ cur.size = cap * 1 ∧ cur.toList.take (l.length * 1) = Lib.byteCells l := by
    rcases hown.2 with ⟨_, hz⟩ | ⟨g, cap, cur, hv, r⟩
    · exact absurd hz hl0
    · exact ⟨g, cap, cur, hv, r⟩
  have c1 : w.drew.cell? ⟨b, 1, none⟩ = some (.slice (some ⟨g, 0, none⟩) l.length cap) := by
    have : w.drew.heap[b]? = some (.cells #[.pointer (some ⟨b, 0, none⟩), .slice (some ⟨g, 0, none⟩) l.length cap] 143 (0, 0)) := hbk
    rw [Lib.cell_of_heap this]; rfl
  have hSD : (Builtin.unsafeSliceData_ #[88] 173 #[.slice (some ⟨g, 0, none⟩) l.length cap]).run Tryz.prog w.drew = .ok (.pointer (some ⟨g, 0, none⟩)) w.drew :=
    Lib.run_unsafeSliceData_row _ _ _ _ _ _ (by omega)
  have hUS : (Builtin.unsafeString_ #[173, 3] 9 #[.pointer (some ⟨g, 0, none⟩), .int .i64 l.length]).run Tryz.prog w.drew = .ok (.string ⟨l.toArray⟩) (w.drew.freeze ⟨g, 0, none⟩ l.length) := by
    refine Lib.run_unsafeString_row w.drew 173 3 9 5 (by kernel_rfl) (by kernel_rfl) g cur.size (by have hg' : w.drew.heap[g]? = some (.cells cur 5 (0, 0)) := hg; simp [World.shape?, hg']) l h0 (by omega) (by unfold maxLen at hcm; omega) ?_
    intro j x hx
    have := hown.cells (g := g) rfl j (.int .u8 x.toNat) (by simp [Lib.byteCells, hx])
    exact this
  go_enter Tryz.func108, Tryz.ntmps108
  go_wp2
  go_region
  all_goals (go_wp2; go_ret; exact ⟨rfl, Lib.below_freeze (Below.drew (Below.refl B w)) (p := ⟨g, 0, none⟩) hbg _⟩)
end Go.Proofs.YtinfpbkbnhcifaaGreatDoor

/- Walks of package register: isWithin, isKey, Valid. The conditions: what the slices read as. -/
namespace Go.Proofs.YtinfpbkbnhcifaaGreatDoor
open Go.RowKit Go.BigFrame

set_option maxHeartbeats 400000 in
theorem within_any (n lo hi : Int) (w : World) :
    Calls Tryz.prog 73 #[.int .i64 n, .int .i64 lo, .int .i64 hi] w fun e w' => e = .returned (.bool (decide (lo ≤ n ∧ n ≤ hi))) ∧ w' = w := by
  by_cases h1 : lo ≤ n
  · have hd : decide (lo ≤ n) = true := decide_eq_true h1
    go_enter Tryz.func73, Tryz.ntmps73
    go_wp2
    go_ret
    refine ⟨ret_bool ?_, rfl⟩
    rw [Bool.eq_iff_iff]
    simp
    try omega
  · have hd : decide (lo ≤ n) = false := decide_eq_false h1
    go_enter Tryz.func73, Tryz.ntmps73
    go_wp2
    go_ret
    refine ⟨ret_bool ?_, rfl⟩
    simp

set_option maxHeartbeats 400000 in
theorem isKey_any (s : ByteArray) (w : World) : Calls Tryz.prog 63 #[.string s] w fun e w' => e = .returned (.bool (decide (s.size = 32))) ∧ w' = w := by
  go_enter Tryz.func63, Tryz.ntmps63
  go_wp2
  go_ret
  refine ⟨ret_bool ?_, rfl⟩
  rw [Bool.eq_iff_iff]
  simp
  try omega

theorem valid1_fn : PredFn 80 (fun s => decide (1000 < s.size)) := by
  refine ⟨fun _ _ => by kernel_rfl, fun s w => ?_⟩
  go_enter Tryz.func80, Tryz.ntmps80
  go_wp2
  go_ret
  refine ⟨ret_bool ?_, rfl⟩
  rw [Bool.eq_iff_iff]
  simp
  try omega

theorem validB_is (car : Int) (xs : List ByteArray) : validB ⟨car, xs⟩ = (decide (0 ≤ car ∧ car ≤ 7) && (decide ((xs.length : Int) ≤ 60) && !(xs.any fun s => decide (1000 < s.size)))) := by
  rw [Bool.eq_iff_iff]
  simp [validB]
  constructor
  · rintro ⟨a, b, c, d⟩
    exact ⟨⟨a, b⟩, by omega, d⟩
  · rintro ⟨⟨a, b⟩, c, d⟩
    exact ⟨a, b, by omega, d⟩

set_option maxHeartbeats 1000000 in
theorem valid_any (car : Int) {w : World} {v : Value} {xs : List ByteArray} (hr : SS w v xs) :
    Calls Tryz.prog 44 #[.agg #[.int .i64 car, v]] w fun e w' => e = .returned (.bool (validB ⟨car, xs⟩)) ∧ w' = w.alloc (.cells #[.int .i64 car, v] 26) := by
  obtain ⟨a, cap, rfl, l1, l2, l3⟩ := hr.opened
  have HC := Lib.hid (containsS_any 80 _ valid1_fn (hr.below (w' := w.alloc (.cells #[.int .i64 car, .slice a xs.length cap] 26)) ((Below.refl _ _).alloc (Nat.le_refl _) _)))
  rw [validB_is]
  generalize xs.any (fun s => decide (1000 < s.size)) = b at *
  generalize xs.length = n at *
  clear l3 hr
  by_cases h1 : 0 ≤ car ∧ car ≤ 7
  · have d1 : decide (0 ≤ car ∧ car ≤ 7) = true := decide_eq_true h1
    by_cases h2 : (n : Int) ≤ 60
    · have d2 : decide ((n : Int) ≤ 60) = true := decide_eq_true h2
      go_enter Tryz.func44, Tryz.ntmps44
      go_wp2_with (first | (go_at_call 73; refine (within_any _ _ _ _).mono ?_; rintro e w1 ⟨rfl, rfl⟩; rw [d1]) | (go_at_call 81; refine HC.out.mono ?_; rintro e w1 ⟨rfl, rfl⟩))
      go_ret
      refine ⟨ret_bool ?_, rfl⟩
      simp [d1, d2]
    · have d2 : decide ((n : Int) ≤ 60) = false := decide_eq_false h2
      go_enter Tryz.func44, Tryz.ntmps44
      go_wp2_with (first | (go_at_call 73; refine (within_any _ _ _ _).mono ?_; rintro e w1 ⟨rfl, rfl⟩; rw [d1]) | (go_at_call 81; refine HC.out.mono ?_; rintro e w1 ⟨rfl, rfl⟩))
      go_ret
      refine ⟨ret_bool ?_, rfl⟩
      simp [d1, d2]
  · have d1 : decide (0 ≤ car ∧ car ≤ 7) = false := decide_eq_false h1
    go_enter Tryz.func44, Tryz.ntmps44
    go_wp2_with (first | (go_at_call 73; refine (within_any _ _ _ _).mono ?_; rintro e w1 ⟨rfl, rfl⟩; rw [d1]) | (go_at_call 81; refine HC.out.mono ?_; rintro e w1 ⟨rfl, rfl⟩))
    go_ret
    refine ⟨ret_bool ?_, rfl⟩
    simp [d1]
end Go.Proofs.YtinfpbkbnhcifaaGreatDoor
