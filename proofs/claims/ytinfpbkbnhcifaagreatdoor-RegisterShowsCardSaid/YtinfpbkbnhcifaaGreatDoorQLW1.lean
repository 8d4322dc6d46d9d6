/- What the walks of the laws use besides: Other and boxes at what is known; strings that are hashed are short. The conditions: what is known, lengths. -/
import Derived.Test.YtinfpbkbnhcifaaGreatDoorQRO1
import Derived.Test.YtinfpbkbnhcifaaGreatDoorQRS6
import Derived.Test.YtinfpbkbnhcifaaGreatDoorQMSpec
import Derived.Test.YtinfpbkbnhcifaaGreatDoorQJN2
import Derived.Test.YtinfpbkbnhcifaaGreatDoorQRS4
namespace Go.Proofs.YtinfpbkbnhcifaaGreatDoor
open Go.RowKit Go.BigFrame

theorem other_at {w0 w : World} {ls : List Dat} (k : Know w0 w ls) (i : Nat) {v : Value} {xs : List ByteArray} (hi : ls[i]? = some (.S v xs)) (hl : xs.length ≤ 12) {vy : Value} {ys : List Int} (hy : IL w vy ys) (hr : ∀ n ∈ ys, I64 n) (at' : Int) (ia : I64 at') (car : Int) :
    Calls Tryz.prog 14 #[.agg #[.int .i64 car, v], .int .i64 at', vy] w (HandsR w0 ls car (otherL xs at' ys)) :=
  (other_any car at' ia (k.all i _ hi : SS w v xs) hl hy hr).mono fun _ _ ⟨r, h1, h2, h3⟩ => ⟨r, h1, (k.step h3).put (d := .S r _) h2.ss⟩

theorem hashedF_size (B : Nat) (hB : 65 ≤ B) : ∀ (f : Nat) (l : List ByteArray), (∀ s ∈ l, s.size + 1 ≤ B) → ∀ x ∈ hashedF f l, x.size ≤ B := by
  intro f
  induction f with
  | zero => intro l _ x hx; simp only [hashedF, List.mem_singleton] at hx; subst hx; exact Nat.zero_le _
  | succ f ih =>
    intro l hl x hx
    rcases Nat.lt_or_ge l.length 2 with h | h
    · match l, h with
      | [], _ => simp only [hashedF, List.mem_singleton] at hx; subst hx; exact Nat.zero_le _
      | [s], _ =>
        simp only [hashedF, List.mem_singleton] at hx
        subst hx
        have e : (markL s).size = 1 + s.size := by unfold markL; rw [ByteArray.size_append]; rfl
        have := hl s (by simp)
        omega
    · rw [hashedF_two f l h] at hx
      rcases List.mem_append.1 hx with hx | hx
      · rcases List.mem_append.1 hx with hx | hx
        · exact ih _ (fun s hs => hl s (List.mem_of_mem_take hs)) x hx
        · exact ih _ (fun s hs => hl s (List.mem_of_mem_drop hs)) x hx
      · rw [List.mem_singleton] at hx
        subst hx
        have e : (markN (rootB (l.take (leftN l.length))) (rootB (l.drop (leftN l.length)))).size = 1 + (32 + 32) := by
          unfold markN
          rw [ByteArray.size_append, ByteArray.size_append, rootB_size, rootB_size]
          rfl
        omega
theorem hashed_small (l : List ByteArray) (h : ∀ s ∈ l, s.size ≤ 1000) : ∀ x ∈ hashedS l, x.size ≤ 1001 := hashedF_size 1001 (by omega) _ l (fun s hs => by have := h s hs; omega)
theorem five_cells {W : World} {b : Nat} {c0 c1 c2 c3 c4 : Value} {T : TypeId} (h : W.heap[b]? = some (.cells #[c0, c1, c2, c3, c4] T (0, 0))) : W.cell? ⟨b, 0, none⟩ = some c0 ∧ W.cell? ⟨b, 1, none⟩ = some c1 ∧ W.cell? ⟨b, 2, none⟩ = some c2 ∧ W.cell? ⟨b, 3, none⟩ = some c3 ∧ W.cell? ⟨b, 4, none⟩ = some c4 :=
  ⟨cell_of_row W _ 0 _ _ _ h, cell_of_row W _ 1 _ _ _ h, cell_of_row W _ 2 _ _ _ h, cell_of_row W _ 3 _ _ _ h, cell_of_row W _ 4 _ _ _ h⟩

theorem four_cells {W : World} {b : Nat} {c0 c1 c2 c3 : Value} {T : TypeId} (h : W.heap[b]? = some (.cells #[c0, c1, c2, c3] T (0, 0))) : W.cell? ⟨b, 0, none⟩ = some c0 ∧ W.cell? ⟨b, 1, none⟩ = some c1 ∧ W.cell? ⟨b, 2, none⟩ = some c2 ∧ W.cell? ⟨b, 3, none⟩ = some c3 :=
  ⟨cell_of_row W _ 0 _ _ _ h, cell_of_row W _ 1 _ _ _ h, cell_of_row W _ 2 _ _ _ h, cell_of_row W _ 3 _ _ _ h⟩
theorem markN_size (a b : ByteArray) : (markN a b).size = 1 + (a.size + b.size) := by unfold markN; rw [ByteArray.size_append, ByteArray.size_append]; rfl
theorem grew_small (old : ByteArray) (ho : old.size ≤ 1000) (r : List ByteArray) : (∀ x ∈ r, x.size ≤ 1000) → ∀ m n wh, ∀ x ∈ (grewS old r m n wh).1, x.size ≤ 2001 := by
  induction r with
  | nil => intro _ m n wh x hx; simp [grew_nil] at hx
  | cons y r ih =>
    intro hr m n wh x hx
    have hr' : ∀ z ∈ r, z.size ≤ 1000 := fun z hz => hr z (by simp [hz])
    have hy := hr y (by simp)
    by_cases h : n ≤ m
    · rw [grewS, if_pos h] at hx
      split at hx <;> simp at hx
    · by_cases h2 : m ≤ leftN n
      · rw [grew_less _ _ _ _ _ _ h h2] at hx
        obtain ⟨_, _, c⟩ := grew_facts old ho r hr' m (leftN n) wh
        rcases List.mem_append.1 hx with e | e
        · exact ih hr' _ _ _ x e
        · rw [List.mem_singleton] at e
          subst e
          rw [markN_size]; omega
      · rw [grew_more _ _ _ _ _ _ h h2] at hx
        obtain ⟨_, b, c⟩ := grew_facts old ho r hr' (m - leftN n) (n - leftN n) false
        rcases List.mem_append.1 hx with e | e
        · exact ih hr' _ _ _ x e
        · simp only [List.mem_cons, List.not_mem_nil, or_false] at e
          rcases e with e | e <;> (subst e; rw [markN_size]; omega)
theorem grown_facts {car : Int} {xs : List ByteArray} {m n : Nat} (hv : validB ⟨car, xs⟩ = true) (hn : n ≤ xs.length) (hm : m ≤ n) : ∃ zs, grownB ⟨car, xs⟩ m n = some zs ∧ zs.length ≤ 61 ∧ ∀ s ∈ zs, s.size ≤ 1000 := by
  obtain ⟨_, _, h60, _⟩ := valid_parts hv
  refine ⟨_, by
    unfold grownB
    rw [if_pos ⟨hv, ⟨by omega, by show (n : Int) ≤ (xs.length : Int); omega⟩, by omega, by omega⟩], ?_, ?_⟩
  · split
    · simp
    · rw [List.length_reverse]
      unfold extB
      change (extD leafS nodeS (sumS ⟨#[]⟩) (xs.take (n : Int).toNat) (m : Int).toNat true).length ≤ 61
      have := extD_len leafS nodeS (sumS ⟨#[]⟩) (xs.take (n : Int).toNat) (m : Int).toNat true
      rw [List.length_take] at this
      have h60 : xs.length ≤ 60 := h60
      omega
  · split
    · simp
    · rename_i h0
      intro s hs
      have hne : xs.take (n : Int).toNat ≠ [] := fun e => by
        have := congrArg List.length e
        rw [List.length_take, List.length_nil] at this
        omega
      have := List.all_eq_true.1 (extB_dig _ hne (m : Int).toNat true) s hs
      unfold isDig at this
      have := of_decide_eq_true this
      omega
theorem grown_is {car : Int} {xs : List ByteArray} {m n : Nat} {zs : List ByteArray} (h : grownB ⟨car, xs⟩ m n = some zs) : (if (m : Int) = 0 then [] else (extB (xs.take n) m true).reverse) = zs := by
  unfold grownB at h
  split at h
  · exact Option.some.inj h
  · cases h
end Go.Proofs.YtinfpbkbnhcifaaGreatDoor

/- The reference's numbers of one byte, and what is signed for a head. The conditions: the numbers are small. -/
namespace Go.Proofs.YtinfpbkbnhcifaaGreatDoor
open Go.RowKit Go.BigFrame

theorem zigzag_any (n : Nat) (hn : n < 64) (w : World) : Calls Tryz.prog 110 #[.int .i64 n] w fun e w' => e = .returned (.int .u64 ((2 * n : Nat) : Int)) ∧ w' = w := by
  have t0 : ¬ (n : Int) < 0 := by omega
  go_enter Tryz.func110, Tryz.ntmps110
  go_wp2
  go_ret
  exact ⟨ret_int (by omega), rfl⟩

set_option maxHeartbeats 1000000 in
theorem r1putInt_any (n : Nat) (hn : n < 64) (w : World) : Calls Tryz.prog 78 #[.int .i64 n] w fun e w' => e = .returned (.tuple #[.string (strOf [2 * n]), .int .i64 0]) ∧ Below w.heap.size w w' := by
  have HZ := Lib.hid (zigzag_any n hn w)
  have t1 : ¬ (n : Int) < -4611686018427387903 := by omega
  have t2 : ¬ (4611686018427387903 : Int) < (n : Int) := by omega
  have t3 : ¬ (128 : Int) ≤ ((2 * n : Nat) : Int) := by omega
  go_enter Tryz.func78, Tryz.ntmps78
  go_wp2_with (go_at_call 110; refine HZ.out.mono ?_; rintro e w1 ⟨rfl, rfl⟩)
  go_loopw [4, 5] (fun z v wr => z = .int .u64 (2 * (n : Int)) ∧ v = .slice none 0 0 ∧ wr = w1) (fun _ _ _ => 0)
  case atStart => exact ⟨rfl, rfl, rfl⟩
  case round =>
    obtain ⟨rfl, rfl, rfl⟩ := hrel
    have t4 : ¬ (128 : Int) ≤ 2 * (n : Int) := by omega
    have HOA : Hid (OwnB (wr.alloc (.cells #[.int .u8 (2 * (n : Int))] 5)) wr.heap.size (.slice none 0 0) []) := Lib.hid (OwnE.nil _ _ _ _)
    have HNA := Lib.hid (heap_alloc_new wr (.cells #[.int .u8 (2 * (n : Int))] 5))
    have HBA := Lib.hid ((Below.refl _ wr).alloc (Nat.le_refl _) (.cells #[.int .u8 (2 * (n : Int))] 5))
    have HY : Hid (2 * (n : Int) = ((2 * n : Nat) : Int)) := Lib.hid (by omega)
    go_upto_region 8 with fail
    go_wp2_with (first | (at_builtin; refine wpList_append_byte _ _ wr.heap.size _ [] wr.heap.size _ (2 * n) HY.out _ HOA.out (by simp) HBA.out.size HNA.out rfl rfl rfl rfl ?_; intro v7 w7 hown7 hgr7; have HO7 : Hid (OwnB w7 wr.heap.size v7 [2 * n]) := Lib.hid hown7; have HB7 := Lib.hid (HBA.out.grown hgr7 HBA.out.size (fun j e => OwnE.ge HOA.out j e)); clear hown7 hgr7; obtain ⟨gx, ox, cx, hv7, _, _, _, hx3⟩ := HO7.out.cells (by simp); have HX3 := Lib.hid hx3; clear hx3; subst hv7) | (refine wpList_convS [2 * n] (fun y hy => by rw [List.mem_singleton] at hy; omega) 88 9 5 _ gx ox 1 cx rfl rfl rfl rfl (by kernel_rfl) (by kernel_rfl) (by kernel_rfl) HX3.out ?_))
    go_ret2
    exact ⟨rfl, HB7.out⟩

/-- What is signed, as the reference makes it. -/
theorem content_str (car siz : Nat) (root sl : ByteArray) : strOf [2 * 4] ++ strOf [2 * car] ++ strOf [2 * siz] ++ root = contentB ⟨car, siz, root, sl⟩ := by
  apply ByteArray.ext
  apply Array.toList_inj.1
  simp [ByteArray.data_append, strOf, contentB]

set_option maxHeartbeats 1000000 in
theorem content_any (h : HeadP) (hc : 0 ≤ h.car ∧ h.car ≤ 7) (hs : 0 ≤ h.siz ∧ h.siz ≤ 60) (hr : h.root.size ≤ 1000) (w : World) :
    Calls Tryz.prog 37 #[.agg #[.int .i64 h.car, .int .i64 h.siz, .string h.root, .string h.sl]] w fun e w' => e = .returned (.string (contentB h)) ∧ Below w.heap.size w w' := by
  obtain ⟨car, siz, root, sl⟩ := h
  simp only at hc hs hr ⊢
  obtain ⟨c, rfl⟩ := Int.eq_ofNat_of_zero_le hc.1
  obtain ⟨z, rfl⟩ := Int.eq_ofNat_of_zero_le hs.1
  have H4 := Lib.hid (fun W => r1putInt_any 4 (by omega) W)
  have HC := Lib.hid (fun W => r1putInt_any c (by omega) W)
  have HZ := Lib.hid (fun W => r1putInt_any z (by omega) W)
  have HE := Lib.hid (content_str c z root sl)
  generalize contentB ⟨c, z, root, sl⟩ = R at *
  have z4 := strOf_size [2 * 4]
  have zc := strOf_size [2 * c]
  have zz := strOf_size [2 * z]
  generalize strOf [2 * 4] = A at *
  generalize strOf [2 * c] = B at *
  generalize strOf [2 * z] = C at *
  simp only [List.length_cons, List.length_nil] at z4 zc zz
  go_enter Tryz.func37, Tryz.ntmps37
  have HH0 : Hid ((w.alloc (.cells #[.int .i64 c, .int .i64 z, .string root, .string sl] 35)).heap[w.heap.size]? = some (.cells #[.int .i64 c, .int .i64 z, .string root, .string sl] 35 (0, 0))) := Lib.hid (heap_alloc_new w _)
  have HB0 : Hid (Below w.heap.size w (w.alloc (.cells #[.int .i64 c, .int .i64 z, .string root, .string sl] 35))) := Lib.hid ((Below.refl _ _).alloc (Nat.le_refl _) _)
  go_wp2_with fail
  generalize w.alloc (.cells #[.int .i64 c, .int .i64 z, .string root, .string sl] 35) = w0 at *
  refine (H4.out _).mono ?_
  rintro e w1 ⟨rfl, hb1⟩
  have HH1 := Lib.hid ((hb1.block _ (Array.getElem?_eq_some_iff.1 HH0.out).1).trans HH0.out)
  have HB1 := Lib.hid (HB0.out.trans (hb1.mono HB0.out.size))
  have c1 := cell_of_row w1 w.heap.size 0 _ _ _ HH1.out
  clear hb1
  go_wp2_with fail
  clear c1
  refine (HC.out _).mono ?_
  rintro e w2 ⟨rfl, hb2⟩
  have HH2 := Lib.hid ((hb2.block _ (Array.getElem?_eq_some_iff.1 HH1.out).1).trans HH1.out)
  have HB2 := Lib.hid (HB1.out.trans (hb2.mono HB1.out.size))
  have c2 := cell_of_row w2 w.heap.size 1 _ _ _ HH2.out
  clear hb2
  go_wp2_with fail
  clear c2
  refine (HZ.out _).mono ?_
  rintro e w3 ⟨rfl, hb3⟩
  have HH3 := Lib.hid ((hb3.block _ (Array.getElem?_eq_some_iff.1 HH2.out).1).trans HH2.out)
  have HB3 := Lib.hid (HB2.out.trans (hb3.mono HB2.out.size))
  have c3 := cell_of_row w3 w.heap.size 2 _ _ _ HH3.out
  clear hb3
  have y1 : (A ++ B).size = 2 := by rw [ByteArray.size_append]; omega
  have y2 : (A ++ B ++ C).size = 3 := by rw [ByteArray.size_append]; omega
  go_wp2
  go_ret
  exact ⟨ret_str HE.out, HB3.out⟩
end Go.Proofs.YtinfpbkbnhcifaaGreatDoor

/- The contracts of the laws' walks, for whatever world comes after one that is known. The conditions: what is known, lengths. -/
namespace Go.Proofs.YtinfpbkbnhcifaaGreatDoor
open Go.RowKit Go.BigFrame
section
variable {w0 w : World} {ls : List Dat}
theorem genuine_w (k : Know w0 w ls) (key : ByteArray) (h : HeadP) (hk : key.size ≤ 1000) (hr : h.root.size ≤ 1000) (b : Bool) (hb : genuineB key h = b) :
    ∀ W, Below w.heap.size w W → Calls Tryz.prog 40 #[.string key, .agg #[.int .i64 h.car, .int .i64 h.siz, .string h.root, .string h.sl]] W fun e w' => e = .returned (.bool b) ∧ Below W.heap.size W w' :=
  fun _ hW => (genuine_at (k.step hW).here key h hk hr b hb).mono fun _ _ ⟨h1, h2⟩ => ⟨h1, h2.below⟩
end
end Go.Proofs.YtinfpbkbnhcifaaGreatDoor
