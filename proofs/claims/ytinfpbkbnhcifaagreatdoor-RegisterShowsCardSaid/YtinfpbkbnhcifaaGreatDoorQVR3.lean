/- Walks of package register: the writer's number, what is signed for a head. The conditions: the numbers are small, lengths, the table of constants. -/
import Derived.Test.YtinfpbkbnhcifaaGreatDoorQVR1
import Derived.Test.YtinfpbkbnhcifaaGreatDoorQDG19
import Derived.Deep.RegionHeld3
import Derived.BigQuiet
namespace Go.Proofs.YtinfpbkbnhcifaaGreatDoor
open Go.RowKit Go.BigFrame

theorem below_grown {w w' : World} (hb : Below w.heap.size w w') : w.grownBy w' none := ⟨hb.os, hb.tape, hb.output, hb.size, fun i hi _ => hb.block i hi⟩
theorem builder_keep {T e : TypeId} {B b : Nat} {p : Value} {bs : List Value} {w w' : World} (h : Lib.BuilderAt T e B b p bs w) (hb : Below w.heap.size w w') : Lib.BuilderAt T e B b p bs w' := by
  have hlt := h.lt
  obtain ⟨hB, v, hbk, hown, hne⟩ := h
  refine ⟨hB, v, (hb.block b hlt).trans hbk, ?_, hne⟩
  exact owns_any hown (below_grown hb)
theorem isBuilder_keep {T e : TypeId} {B b : Nat} {bs : List Value} {w w' : World} (h : Lib.IsBuilder T e B b bs w) (hb : Below w.heap.size w w') : Lib.IsBuilder T e B b bs w' := by
  rcases h with h | h
  · exact .inl (builder_keep h hb)
  · exact .inr (builder_keep h hb)

set_option maxHeartbeats 1000000 in
theorem number_any (B b : Nat) (bs : List Value) (i : Int) (n : Nat) (hi : i = n) (hn : n < 64) (w : World) (h : Lib.IsBuilder 143 5 B b bs w) (hlen : bs.length ≤ 1000000) (hBw : B ≤ w.heap.size) :
    Calls Tryz.prog 106 #[.pointer (some ⟨b, 0, none⟩), .int .i64 i] w fun e w' => e = .returned (.tuple #[]) ∧ Lib.BuilderAt 143 5 B b (.pointer (some ⟨b, 0, none⟩)) (bs ++ Lib.strCells (strOf [2 * n])) w' ∧ Below B w w' := by
  subst hi
  have HP := Lib.hid (putInt_any n hn w)
  have HW : Hid (∀ W, Below w.heap.size w W → Calls Tryz.prog 107 #[.pointer (some ⟨b, 0, none⟩), .string (strOf [2 * n])] W fun e w' => e = .returned (.tuple #[.int .i64 (strOf [2 * n]).size, .nilIface]) ∧ (Lib.BuilderAt 143 5 B b (.pointer (some ⟨b, 0, none⟩)) (bs ++ Lib.strCells (strOf [2 * n])) w' ∧ Below B W w')) := Lib.hid (fun W hW =>
    writeString_any B b bs (strOf [2 * n]) W (isBuilder_keep h hW) (by rw [strOf_size]; simp; omega) (Nat.le_trans hBw hW.size))
  obtain ⟨S, hS⟩ : ∃ S, S = strOf [2 * n] := ⟨_, rfl⟩
  rw [← hS] at HP HW ⊢
  clear hS h
  go_enter Tryz.func106, Tryz.ntmps106
  go_wp2_with (first | (go_at_call 127; refine HP.out.mono ?_; rintro e w1 ⟨rfl, hb1⟩; have HB1 := Lib.hid hb1; clear hb1) | (go_at_call 107; refine (HW.out _ HB1.out).mono ?_; rintro e w2 ⟨rfl, hb2, hb3⟩))
  go_end0
  exact ⟨rfl, hb2, (HB1.out.mono hBw).trans hb3⟩

def headV (h : HeadP) : Value := .agg #[.int .i64 h.car, .int .i64 h.siz, .string h.root, .string h.sl]

theorem small_byte : ∀ n : Fin 128, UInt8.ofNat n.val = UInt8.ofNat n.val := fun _ => rfl
theorem cells_content (c s : Nat) (root : ByteArray) : (((([] : List Value) ++ Lib.strCells (strOf [2 * 4])) ++ Lib.strCells (strOf [2 * c])) ++ Lib.strCells (strOf [2 * s])) ++ Lib.strCells root = Lib.byteCells ([8, UInt8.ofNat (2 * c), UInt8.ofNat (2 * s)] ++ root.data.toList) := by
  rw [Lib.byteCells_append]
  rfl

set_option maxHeartbeats 2000000 in
set_option maxRecDepth 100000 in
theorem sealed_any (key : ByteArray) (car siz : Int) (root sl : ByteArray) (c s : Nat) (hc : car = c) (hs : siz = s) (hc6 : c < 64) (hs6 : s < 64) (w : World) (hk : key.size ≤ 1000) (hr : root.size ≤ 1000) (he : Env w) (hg : 0 < w.heap.size) :
    Calls Tryz.prog 75 #[.string key, .agg #[.int .i64 car, .int .i64 siz, .string root, .string sl]] w fun e w' => e = .returned (.string (signedB key ⟨car, siz, root, sl⟩)) ∧ Below w.heap.size w w' := by
  have HE := Lib.hid he
  have HG := Lib.hid hg
  clear he hg
  have hR : Hid (signedB key ⟨car, siz, root, sl⟩ = nodeS key (leafS ⟨([8, UInt8.ofNat (2 * c), UInt8.ofNat (2 * s)] ++ root.data.toList).toArray⟩)) := Lib.hid (by subst hc hs; rfl)
  obtain ⟨R, hR0⟩ : ∃ R, R = signedB key ⟨car, siz, root, sl⟩ := ⟨_, rfl⟩
  rw [← hR0] at hR ⊢
  have HCc := Lib.hid hc
  have HSs := Lib.hid hs
  clear hR0 hc hs
  go_enter Tryz.func75, Tryz.ntmps75
  go_wp2_with fail
  obtain ⟨W1, hW1⟩ : ∃ W1, W1 = (w.alloc (.cells #[.int .i64 car, .int .i64 siz, .string root, .string sl] 35)).alloc (.cells #[.pointer none, .slice none 0 0] 143) := ⟨_, rfl⟩
  rw [← hW1]
  have HB1 : Hid (Below w.heap.size w W1) := Lib.hid (by rw [hW1]; exact ((Below.refl _ _).alloc (Nat.le_refl _) _).alloc (by simp) _)
  have HH1 : Hid (W1.heap[w.heap.size]? = some (.cells #[.int .i64 car, .int .i64 siz, .string root, .string sl] 35 (0, 0))) := Lib.hid (by rw [hW1]; exact at_past w _ _)
  have HF1 : Hid (Lib.IsBuilder 143 5 (w.heap.size + 1) (w.heap.size + 1) [] W1) := Lib.hid (by
    have := Lib.fresh_isBuilder 143 5 (w.alloc (.cells #[.int .i64 car, .int .i64 siz, .string root, .string sl] 35))
    rw [World.size_alloc] at this
    rw [hW1]
    exact this)
  have hs1 : W1.heap.size = w.heap.size + 2 := by rw [hW1]; simp
  clear hW1
  refine (number_any (w.heap.size + 1) (w.heap.size + 1) [] 4 4 rfl (by omega) W1 HF1.out (by simp) (by omega)).mono ?_
  rintro e w1 ⟨rfl, hf2, hb2⟩
  have HF2 := Lib.hid hf2
  have HB2 := Lib.hid hb2
  have HH2 : Hid (w1.heap[w.heap.size]? = some (.cells #[.int .i64 car, .int .i64 siz, .string root, .string sl] 35 (0, 0))) := Lib.hid ((hb2.block w.heap.size (by omega)).trans HH1.out)
  have cc2 : w1.cell? ⟨w.heap.size, 0, none⟩ = some (.int .i64 car) := cell_of_row w1 _ 0 _ _ _ HH2.out
  have hs2 := hb2.size
  clear hf2 hb2
  go_wp2_with fail
  clear cc2
  refine (number_any (w.heap.size + 1) (w.heap.size + 1) _ car c HCc.out hc6 w1 (.inr HF2.out) (by simp [Lib.strCells_length, strOf_size]) (by omega)).mono ?_
  rintro e w2 ⟨rfl, hf3, hb3⟩
  have HF3 := Lib.hid hf3
  have HB3 := Lib.hid (HB2.out.trans hb3)
  have HH3 : Hid (w2.heap[w.heap.size]? = some (.cells #[.int .i64 car, .int .i64 siz, .string root, .string sl] 35 (0, 0))) := Lib.hid ((hb3.block w.heap.size (by omega)).trans HH2.out)
  have cc3 : w2.cell? ⟨w.heap.size, 1, none⟩ = some (.int .i64 siz) := cell_of_row w2 _ 1 _ _ _ HH3.out
  have hs3 := hb3.size
  clear hf3 hb3
  go_wp2_with fail
  clear cc3
  refine (number_any (w.heap.size + 1) (w.heap.size + 1) _ siz s HSs.out hs6 w2 (.inr HF3.out) (by simp [Lib.strCells_length, strOf_size]) (by omega)).mono ?_
  rintro e w3 ⟨rfl, hf4, hb4⟩
  have HF4 := Lib.hid hf4
  have HB4 := Lib.hid (HB3.out.trans hb4)
  have HH4 : Hid (w3.heap[w.heap.size]? = some (.cells #[.int .i64 car, .int .i64 siz, .string root, .string sl] 35 (0, 0))) := Lib.hid ((hb4.block w.heap.size (by omega)).trans HH3.out)
  have cc4 : w3.cell? ⟨w.heap.size, 2, none⟩ = some (.string root) := cell_of_row w3 _ 2 _ _ _ HH4.out
  have hs4 := hb4.size
  clear hf4 hb4
  go_wp2_with fail
  clear cc4
  refine (writeString_any (w.heap.size + 1) (w.heap.size + 1) _ root w3 (.inr HF4.out) (by simp [Lib.strCells_length, strOf_size]; omega) (by omega)).mono ?_
  rintro e w4 ⟨rfl, hf5, hb5⟩
  rw [cells_content] at hf5
  have HF5 := Lib.hid hf5
  have HB5 := Lib.hid (HB4.out.trans hb5)
  have hs5 := hb5.size
  clear hf5 hb5
  go_wp2_with fail
  refine (bstring_any (w.heap.size + 1) (w.heap.size + 1) _ w4 HF5.out (by simp)).mono ?_
  rintro e w5 ⟨rfl, hb6⟩
  have HB6 := Lib.hid (HB5.out.trans hb6)
  have hs6 := hb6.size
  clear hb6
  have HT : Hid (Below w.heap.size w w5) := Lib.hid (HB1.out.trans (HB6.out.mono (by omega)))
  have hcs : ((⟨([8, UInt8.ofNat (2 * c), UInt8.ofNat (2 * s)] ++ root.data.toList).toArray⟩ : ByteArray)).size ≤ 1003 := by
    show (List.toArray _).size ≤ _
    simp only [List.size_toArray, List.length_append, List.length_cons, List.length_nil, Array.length_toList]
    have : root.data.size = root.size := rfl
    omega
  obtain ⟨C, hC⟩ : ∃ C : ByteArray, C = ⟨([8, UInt8.ofNat (2 * c), UInt8.ofNat (2 * s)] ++ root.data.toList).toArray⟩ := ⟨_, rfl⟩
  rw [← hC] at hR hcs ⊢
  clear hC
  go_wp2_with fail
  refine (leaf_any C w5 (by omega) (HE.out.below (HT.out.mono (by omega)) HG.out) (Nat.lt_of_lt_of_le HG.out HT.out.size)).mono ?_
  rintro e w6 ⟨rfl, hb7⟩
  have HT2 := Lib.hid (HT.out.trans (hb7.mono (by have := HT.out.size; omega)))
  clear hb7
  go_wp2_with fail
  refine (node_any key (leafS C) w6 (by omega) (by rw [leafS_size]; omega) (HE.out.below (HT2.out.mono (by omega)) HG.out) (Nat.lt_of_lt_of_le HG.out HT2.out.size)).mono ?_
  rintro e w7 ⟨rfl, hb8⟩
  rw [← hR.out]
  go_wp2_with fail
  go_ret
  refine ⟨rfl, ?_⟩
  exact HT2.out.trans (hb8.mono (by have := HT2.out.size; omega))
end Go.Proofs.YtinfpbkbnhcifaaGreatDoor

/- Walks of package register: Genuine. The conditions: lengths, the table of constants. -/
namespace Go.Proofs.YtinfpbkbnhcifaaGreatDoor
open Go.RowKit Go.BigFrame

theorem genuine_no (key : ByteArray) (car siz : Int) (root sl : ByteArray) (h : ¬ (key.size = 32 ∧ (0 ≤ car ∧ car ≤ 7) ∧ (0 ≤ siz ∧ siz ≤ 60) ∧ root.size = 32)) : genuineB key ⟨car, siz, root, sl⟩ = false := by
  unfold genuineB
  apply decide_eq_false
  rintro ⟨a, b, c, d, _⟩
  exact h ⟨a, b, c, d⟩
theorem genuine_yes (key : ByteArray) (car siz : Int) (root sl : ByteArray) (h0 : key.size = 32) (h1 : 0 ≤ car ∧ car ≤ 7) (h2 : 0 ≤ siz ∧ siz ≤ 60) (h3 : root.size = 32) : genuineB key ⟨car, siz, root, sl⟩ = decide (sl = signedB key ⟨car, siz, root, sl⟩) := by
  unfold genuineB
  rw [Bool.eq_iff_iff, decide_eq_true_iff, decide_eq_true_iff]
  exact ⟨fun h => h.2.2.2.2, fun h => ⟨h0, h1, h2, h3, h⟩⟩

set_option maxHeartbeats 4000000 in
set_option maxRecDepth 100000 in
theorem genuine_any (key : ByteArray) (car siz : Int) (root sl : ByteArray) (w : World) (hk : key.size ≤ 1000) (hr : root.size ≤ 1000) (he : Env w) (hg : 0 < w.heap.size) :
    Calls Tryz.prog 40 #[.string key, .agg #[.int .i64 car, .int .i64 siz, .string root, .string sl]] w fun e w' => e = .returned (.bool (genuineB key ⟨car, siz, root, sl⟩)) ∧ Below w.heap.size w w' := by
  have HE := Lib.hid he
  have HG := Lib.hid hg
  clear he hg
  by_cases h0 : key.size = 32
  · have d0 : decide (key.size = 32) = true := decide_eq_true h0
    by_cases h1 : 0 ≤ car ∧ car ≤ 7
    · have d1 : decide (0 ≤ car ∧ car ≤ 7) = true := decide_eq_true h1
      by_cases h2 : 0 ≤ siz ∧ siz ≤ 60
      · have d2 : decide (0 ≤ siz ∧ siz ≤ 60) = true := decide_eq_true h2
        by_cases h3 : root.size = 32
        · have HY := Lib.hid (genuine_yes key car siz root sl h0 h1 h2 h3)
          obtain ⟨c, hc⟩ := Int.eq_ofNat_of_zero_le h1.1
          obtain ⟨s, hs⟩ := Int.eq_ofNat_of_zero_le h2.1
          obtain ⟨G, hG⟩ : ∃ G, G = genuineB key ⟨car, siz, root, sl⟩ := ⟨_, rfl⟩
          rw [← hG] at HY ⊢
          clear hG
          have HS : Hid (∀ W : World, Below w.heap.size w W → Calls Tryz.prog 75 #[.string key, .agg #[.int .i64 car, .int .i64 siz, .string root, .string sl]] W fun e w' => e = .returned (.string (signedB key ⟨car, siz, root, sl⟩)) ∧ Below W.heap.size W w') := Lib.hid (fun W hW => sealed_any key car siz root sl c s hc hs (by omega) (by omega) W hk hr (HE.out.below hW HG.out) (Nat.lt_of_lt_of_le HG.out hW.size))
          generalize signedB key ⟨car, siz, root, sl⟩ = Z at *
          have b3 : ((root.size : Int) == 32) = true := by rw [h3]; rfl
          clear h0 h1 h2 h3 hc hs
          go_enter Tryz.func40, Tryz.ntmps40
          go_wp2_with (go_at_call 73; refine (within_any _ _ _ _).mono ?_; rintro e w1 ⟨rfl, rfl⟩; (first | rw [d1] | rw [d2]))
          have hC : ∀ W : World, Below w.heap.size w W → W.heap[w.heap.size]? = some (.cells #[.int .i64 car, .int .i64 siz, .string root, .string sl] 35 (0, 0)) → W.cell? ⟨w.heap.size, 0, none⟩ = some (.int .i64 car) ∧ W.cell? ⟨w.heap.size, 1, none⟩ = some (.int .i64 siz) ∧ W.cell? ⟨w.heap.size, 2, none⟩ = some (.string root) ∧ W.cell? ⟨w.heap.size, 3, none⟩ = some (.string sl) := fun W _ h => ⟨cell_of_row W _ 0 _ _ _ h, cell_of_row W _ 1 _ _ _ h, cell_of_row W _ 2 _ _ _ h, cell_of_row W _ 3 _ _ _ h⟩
          have HC := Lib.hid hC
          clear hC
          have HB0 : Hid (∀ q, Below w.heap.size w ((w.alloc (.cells #[.int .i64 car, .int .i64 siz, .string root, .string sl] 35)).drewN q)) := Lib.hid (fun q => below_drewN ((Below.refl _ _).alloc (Nat.le_refl _) _) q)
          have HH0 : Hid (∀ q, ((w.alloc (.cells #[.int .i64 car, .int .i64 siz, .string root, .string sl] 35)).drewN q).heap[w.heap.size]? = some (.cells #[.int .i64 car, .int .i64 siz, .string root, .string sl] 35 (0, 0))) := Lib.hid (fun q => heap_alloc_new w _)
          have C0 := (HC.out _ (HB0.out 1) (HH0.out 1)).1
          have C1 := (HC.out _ (HB0.out 1) (HH0.out 1)).2.1
          have C2 := (HC.out _ (HB0.out 1) (HH0.out 1)).2.2.1
          have C3 := (HC.out _ (HB0.out 1) (HH0.out 1)).2.2.2
          go_region_held3 (fun w' => w'.cell? ⟨w.heap.size, 0, none⟩ = some (.int .i64 car) ∧ w'.cell? ⟨w.heap.size, 1, none⟩ = some (.int .i64 siz) ∧ w'.cell? ⟨w.heap.size, 2, none⟩ = some (.string root) ∧ w'.cell? ⟨w.heap.size, 3, none⟩ = some (.string sl))
            (first | (exact ⟨C0, C1, C2, C3⟩) | (exact HC2.out) | (simp [*]; done))
            ((first | (go_at_call 63; refine (isKey_any _ _).mono ?_; rintro e w1 ⟨rfl, rfl⟩; rw [d0]) | (go_at_call 75; refine (HS.out _ (HB0.out 1)).mono ?_; rintro e w2 ⟨rfl, hb2⟩; have HC2 := Lib.hid (HC.out _ ((HB0.out 1).trans (hb2.mono (HB0.out 1).size)) ((hb2.block _ (by simp)).trans (HH0.out 1))); have HB2 := Lib.hid ((HB0.out 1).trans (hb2.mono (HB0.out 1).size)); clear hb2)))
          all_goals
            go_wp2
            go_ret
            refine ⟨ret_bool ?_, HB2.out⟩
            rw [HY.out, same_str]

        · have b3 : ((root.size : Int) == 32) = false := by simp; omega
          have HN := Lib.hid (genuine_no key car siz root sl (by omega))
          rw [HN.out]
          clear HN
          go_enter Tryz.func40, Tryz.ntmps40
          go_wp2_with (go_at_call 73; refine (within_any _ _ _ _).mono ?_; rintro e w1 ⟨rfl, rfl⟩; (first | rw [d1] | rw [d2]))
          go_quiet ((refine (isKey_any _ _).mono ?_; rintro e w1 ⟨rfl, rfl⟩; rw [d0]; exact ⟨rfl, _, rfl⟩))
          go_wp2
          go_ret
          exact ⟨rfl, below_drewN ((Below.refl _ _).alloc (Nat.le_refl _) _) _⟩
      · have d2 : decide (0 ≤ siz ∧ siz ≤ 60) = false := decide_eq_false h2
        have HN := Lib.hid (genuine_no key car siz root sl (by omega))
        rw [HN.out]
        clear HN
        go_enter Tryz.func40, Tryz.ntmps40
        go_wp2_with (go_at_call 73; refine (within_any _ _ _ _).mono ?_; rintro e w1 ⟨rfl, rfl⟩; (first | rw [d1] | rw [d2]))
        go_quiet ((refine (isKey_any _ _).mono ?_; rintro e w1 ⟨rfl, rfl⟩; rw [d0]; exact ⟨rfl, _, rfl⟩))
        go_wp2
        go_ret
        exact ⟨rfl, below_drewN ((Below.refl _ _).alloc (Nat.le_refl _) _) _⟩
    · have d1 : decide (0 ≤ car ∧ car ≤ 7) = false := decide_eq_false h1
      have HN := Lib.hid (genuine_no key car siz root sl (by omega))
      rw [HN.out]
      clear HN
      go_enter Tryz.func40, Tryz.ntmps40
      go_wp2_with (go_at_call 73; refine (within_any _ _ _ _).mono ?_; rintro e w1 ⟨rfl, rfl⟩; (first | rw [d1] | rw [d2]))
      go_quiet ((refine (isKey_any _ _).mono ?_; rintro e w1 ⟨rfl, rfl⟩; rw [d0]; exact ⟨rfl, _, rfl⟩))
      go_wp2
      go_ret
      exact ⟨rfl, below_drewN ((Below.refl _ _).alloc (Nat.le_refl _) _) _⟩
  · have d0 : decide (key.size = 32) = false := decide_eq_false h0
    by_cases h1 : 0 ≤ car ∧ car ≤ 7
    · have d1 : decide (0 ≤ car ∧ car ≤ 7) = true := decide_eq_true h1
      by_cases h2 : 0 ≤ siz ∧ siz ≤ 60
      · have d2 : decide (0 ≤ siz ∧ siz ≤ 60) = true := decide_eq_true h2
        by_cases h3 : root.size = 32
        · have b3 : ((root.size : Int) == 32) = true := by rw [h3]; rfl
          have HN := Lib.hid (genuine_no key car siz root sl (by omega))
          rw [HN.out]
          clear HN
          go_enter Tryz.func40, Tryz.ntmps40
          go_wp2_with (go_at_call 73; refine (within_any _ _ _ _).mono ?_; rintro e w1 ⟨rfl, rfl⟩; (first | rw [d1] | rw [d2]))
          go_quiet ((refine (isKey_any _ _).mono ?_; rintro e w1 ⟨rfl, rfl⟩; rw [d0]; exact ⟨rfl, _, rfl⟩))
          go_wp2
          go_ret
          exact ⟨rfl, below_drewN ((Below.refl _ _).alloc (Nat.le_refl _) _) _⟩
        · have b3 : ((root.size : Int) == 32) = false := by simp; omega
          have HN := Lib.hid (genuine_no key car siz root sl (by omega))
          rw [HN.out]
          clear HN
          go_enter Tryz.func40, Tryz.ntmps40
          go_wp2_with (go_at_call 73; refine (within_any _ _ _ _).mono ?_; rintro e w1 ⟨rfl, rfl⟩; (first | rw [d1] | rw [d2]))
          go_quiet ((refine (isKey_any _ _).mono ?_; rintro e w1 ⟨rfl, rfl⟩; rw [d0]; exact ⟨rfl, _, rfl⟩))
          go_wp2
          go_ret
          exact ⟨rfl, below_drewN ((Below.refl _ _).alloc (Nat.le_refl _) _) _⟩
      · have d2 : decide (0 ≤ siz ∧ siz ≤ 60) = false := decide_eq_false h2
        have HN := Lib.hid (genuine_no key car siz root sl (by omega))
        rw [HN.out]
        clear HN
        go_enter Tryz.func40, Tryz.ntmps40
        go_wp2_with (go_at_call 73; refine (within_any _ _ _ _).mono ?_; rintro e w1 ⟨rfl, rfl⟩; (first | rw [d1] | rw [d2]))
        go_quiet ((refine (isKey_any _ _).mono ?_; rintro e w1 ⟨rfl, rfl⟩; rw [d0]; exact ⟨rfl, _, rfl⟩))
        go_wp2
        go_ret
        exact ⟨rfl, below_drewN ((Below.refl _ _).alloc (Nat.le_refl _) _) _⟩
    · have d1 : decide (0 ≤ car ∧ car ≤ 7) = false := decide_eq_false h1
      have HN := Lib.hid (genuine_no key car siz root sl (by omega))
      rw [HN.out]
      clear HN
      go_enter Tryz.func40, Tryz.ntmps40
      go_wp2_with (go_at_call 73; refine (within_any _ _ _ _).mono ?_; rintro e w1 ⟨rfl, rfl⟩; (first | rw [d1] | rw [d2]))
      go_quiet ((refine (isKey_any _ _).mono ?_; rintro e w1 ⟨rfl, rfl⟩; rw [d0]; exact ⟨rfl, _, rfl⟩))
      go_wp2
      go_ret
      exact ⟨rfl, below_drewN ((Below.refl _ _).alloc (Nat.le_refl _) _) _⟩
end Go.Proofs.YtinfpbkbnhcifaaGreatDoor
