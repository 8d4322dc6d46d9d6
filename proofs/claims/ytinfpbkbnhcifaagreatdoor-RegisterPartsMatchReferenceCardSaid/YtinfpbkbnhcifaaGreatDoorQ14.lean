/- Walks of package register: Sign. The conditions: what the slice reads as, lengths, the table of constants. -/
import Derived.Test.YtinfpbkbnhcifaaGreatDoorQ13
namespace Go.Proofs.YtinfpbkbnhcifaaGreatDoor
open Go.RowKit Go.BigFrame

def headZ : Value := .agg #[.int .i64 0, .int .i64 0, .string ⟨#[]⟩, .string ⟨#[]⟩]
theorem infoHead : (Tryz.prog.info? 35).map (·.size) = some 4 := by kernel_rfl
theorem infoPart : (Tryz.prog.info? 38).map (·.size) = some 5 := by kernel_rfl
theorem infoReg : (Tryz.prog.info? 26).map (·.size) = some 2 := by kernel_rfl
theorem sign_parts {key : ByteArray} {r : RegP} {n : Int} (h : signB key r n = none) : ¬ key.size = 32 ∨ validB r = false ∨ ¬ (0 ≤ n ∧ n ≤ r.ents.length) := by
  unfold signB at h
  split at h
  · cases h
  · rename_i hc
    by_cases h1 : key.size = 32
    · by_cases h2 : validB r = true
      · exact .inr (.inr fun h3 => hc ⟨h1, h2, h3.1, h3.2⟩)
      · exact .inr (.inl (by simpa using h2))
    · exact .inl h1

set_option maxHeartbeats 2000000 in
set_option maxRecDepth 100000 in
theorem sign_no {key : ByteArray} {car : Int} {w : World} {v : Value} {xs : List ByteArray} {n : Int} (hr : SS w v xs) (hn : signB key ⟨car, xs⟩ n = none) :
    Calls Tryz.prog 33 #[.string key, .agg #[.int .i64 car, v], .int .i64 n] w fun e w' => e = .returned (.tuple #[headZ, .int .i64 180]) ∧ Below w.heap.size w w' := by
  obtain ⟨a, cap, rfl, l1, l2, l3⟩ := hr.opened
  have hp := sign_parts hn
  have HV := Lib.hid (fun W (hW : Below w.heap.size w W) => valid_any car (hr.below hW))
  change ¬ key.size = 32 ∨ _ ∨ ¬ (0 ≤ n ∧ n ≤ (xs.length : Int)) at hp
  generalize validB ⟨car, xs⟩ = b at *
  generalize xs.length = m at *
  clear l3 hr hn
  have HB2 : Hid (Below w.heap.size w ((w.alloc (.cells #[.int .i64 car, .slice a m cap] 26)).alloc (.cells #[.int .i64 0, .int .i64 0, .string ⟨#[]⟩, .string ⟨#[]⟩] 35))) := Lib.hid (((Below.refl _ _).alloc (Nat.le_refl _) _).alloc (by simp) _)
  have HZ2 : Hid (((w.alloc (.cells #[.int .i64 car, .slice a m cap] 26)).alloc (.cells #[.int .i64 0, .int .i64 0, .string ⟨#[]⟩, .string ⟨#[]⟩] 35)).heap[w.heap.size + 1]? = some (.cells #[.int .i64 0, .int .i64 0, .string ⟨#[]⟩, .string ⟨#[]⟩] 35 (0, 0))) := Lib.hid (at_second w _ _)
  have HB3 : Hid (Below w.heap.size w (((w.alloc (.cells #[.int .i64 car, .slice a m cap] 26)).alloc (.cells #[.int .i64 0, .int .i64 0, .string ⟨#[]⟩, .string ⟨#[]⟩] 35)).alloc (.cells #[.int .i64 car, .slice a m cap] 26))) := Lib.hid (HB2.out.alloc (by simp <;> omega) _)
  have HZ3 : Hid ((((w.alloc (.cells #[.int .i64 car, .slice a m cap] 26)).alloc (.cells #[.int .i64 0, .int .i64 0, .string ⟨#[]⟩, .string ⟨#[]⟩] 35)).alloc (.cells #[.int .i64 car, .slice a m cap] 26)).heap[w.heap.size + 1]? = some (.cells #[.int .i64 0, .int .i64 0, .string ⟨#[]⟩, .string ⟨#[]⟩] 35 (0, 0))) := Lib.hid ((Below.heap_alloc _ _ _ (by simp)).trans HZ2.out)
  by_cases h0 : key.size = 32
  · have d0 : decide (key.size = 32) = true := decide_eq_true h0
    cases b with
    | false =>
      go_enter Tryz.func33, Tryz.ntmps33
      go_wp2_with (first | (go_at_call 63; refine (isKey_any _ _).mono ?_; rintro e w1 ⟨rfl, rfl⟩; rw [d0]) | (go_at_call 44; refine (HV.out _ HB2.out).mono ?_; rintro e w2 ⟨rfl, rfl⟩))
      exact bodyPost_ret (results_cellA_tmp rfl _ (w.heap.size + 1) 35 #[.int .i64 0, .int .i64 0, .string ⟨#[]⟩, .string ⟨#[]⟩] (0, 0) _ rfl HZ3.out Tryz.underlying35 rfl infoHead) rfl ⟨rfl, HB3.out⟩
    | true =>
      have h3 : ¬ (0 ≤ n ∧ n ≤ (m : Int)) := by
        rcases hp with h | h | h
        · exact absurd h0 h
        · cases h
        · exact h
      have d3 : decide (0 ≤ n ∧ n ≤ (m : Int)) = false := decide_eq_false h3
      go_enter Tryz.func33, Tryz.ntmps33
      go_wp2_with (first | (go_at_call 63; refine (isKey_any _ _).mono ?_; rintro e w1 ⟨rfl, rfl⟩; rw [d0]) | (go_at_call 44; refine (HV.out _ HB2.out).mono ?_; rintro e w2 ⟨rfl, rfl⟩) | (go_at_call 73; refine (within_any _ _ _ _).mono ?_; rintro e w3 ⟨rfl, rfl⟩; rw [d3]))
      exact bodyPost_ret (results_cellA_tmp rfl _ (w.heap.size + 1) 35 #[.int .i64 0, .int .i64 0, .string ⟨#[]⟩, .string ⟨#[]⟩] (0, 0) _ rfl HZ3.out Tryz.underlying35 rfl infoHead) rfl ⟨rfl, HB3.out⟩
  · have d0 : decide (key.size = 32) = false := decide_eq_false h0
    go_enter Tryz.func33, Tryz.ntmps33
    go_wp2_with (first | (go_at_call 63; refine (isKey_any _ _).mono ?_; rintro e w1 ⟨rfl, rfl⟩; rw [d0]))
    exact bodyPost_ret (results_cellA_tmp rfl _ (w.heap.size + 1) 35 #[.int .i64 0, .int .i64 0, .string ⟨#[]⟩, .string ⟨#[]⟩] (0, 0) _ rfl HZ2.out Tryz.underlying35 rfl infoHead) rfl ⟨rfl, HB2.out⟩

set_option maxHeartbeats 4000000 in
set_option maxRecDepth 100000 in
theorem sign_yes {key : ByteArray} {car : Int} {w : World} {v : Value} {xs : List ByteArray} {n : Nat} (hr : SS w v xs) (hk : key.size = 32) (hv : validB ⟨car, xs⟩ = true) (hn : n ≤ xs.length) (he : Env w) (hg : 0 < w.heap.size) :
    Calls Tryz.prog 33 #[.string key, .agg #[.int .i64 car, v], .int .i64 n] w fun e w' => e = .returned (.tuple #[headV (headS key car xs n), .int .i64 0]) ∧ Below w.heap.size w w' := by
  obtain ⟨v1, v2, v3, v4⟩ : 0 ≤ car ∧ car ≤ 7 ∧ xs.length ≤ 60 ∧ ∀ s ∈ xs, s.size ≤ 1000 := valid_parts hv
  obtain ⟨a, cap, rfl, l1, l2, l3⟩ := hr.opened
  have HV := Lib.hid (fun W (hW : Below w.heap.size w W) => valid_any car (hr.below hW))
  rw [hv] at HV
  have HRt : Hid (∀ W : World, Below w.heap.size w W → Calls Tryz.prog 74 #[.slice a n cap] W fun e w' => e = .returned (.string (rootB (xs.take n))) ∧ Below W.heap.size W w') := Lib.hid (fun W hW =>
    root_any ((hr.cut n hn).below hW) (by rw [List.length_take]; omega) (fun x hx => Nat.le_trans (v4 x (List.mem_of_mem_take hx)) (by omega)) (he.below hW hg) (Nat.lt_of_lt_of_le hg hW.size))
  have hrs : (rootB (xs.take n)).size = 32 := rootB_size _
  have HHd : Hid (headS key car xs n = ⟨car, n, rootB (xs.take n), signedB key ⟨car, n, rootB (xs.take n), ⟨#[]⟩⟩⟩) := Lib.hid rfl
  obtain ⟨H, hH⟩ : ∃ H, H = headS key car xs n := ⟨_, rfl⟩
  rw [← hH] at HHd ⊢
  generalize rootB (xs.take n) = R at *
  obtain ⟨c, hc⟩ := Int.eq_ofNat_of_zero_le v1
  have HS : Hid (∀ W : World, Below w.heap.size w W → Calls Tryz.prog 75 #[.string key, .agg #[.int .i64 car, .int .i64 n, .string R, .string ⟨#[]⟩]] W fun e w' => e = .returned (.string (signedB key ⟨car, n, R, ⟨#[]⟩⟩)) ∧ Below W.heap.size W w') := Lib.hid (fun W hW => sealed_any key car n R ⟨#[]⟩ c n hc rfl (by omega) (by omega) W (by omega) (by omega) (he.below hW hg) (Nat.lt_of_lt_of_le hg hW.size))
  generalize signedB key ⟨car, n, R, ⟨#[]⟩⟩ = Z at *
  have hn6 : (n : Int) ≤ (xs.length : Int) := by omega
  generalize xs.length = m at *
  have d0 : decide (key.size = 32) = true := decide_eq_true hk
  have d3 : decide (0 ≤ (n : Int) ∧ (n : Int) ≤ (m : Int)) = true := decide_eq_true ⟨by omega, hn6⟩
  clear l3 hr hv v1 v2 v3 v4 hc hH he hg
  have HB2 : Hid (Below w.heap.size w ((w.alloc (.cells #[.int .i64 car, .slice a m cap] 26)).alloc (.cells #[.int .i64 0, .int .i64 0, .string ⟨#[]⟩, .string ⟨#[]⟩] 35))) := Lib.hid (((Below.refl _ _).alloc (Nat.le_refl _) _).alloc (by simp) _)
  go_enter Tryz.func33, Tryz.ntmps33
  go_wp2_with (first | (go_at_call 63; refine (isKey_any _ _).mono ?_; rintro e w1 ⟨rfl, rfl⟩; rw [d0]) | (go_at_call 44; refine (HV.out _ HB2.out).mono ?_; rintro e w2 ⟨rfl, rfl⟩) | (go_at_call 73; refine (within_any _ _ _ _).mono ?_; rintro e w3 ⟨rfl, rfl⟩; rw [d3]))
  have HB3 : Hid (Below w.heap.size w (((w.alloc (.cells #[.int .i64 car, .slice a m cap] 26)).alloc (.cells #[.int .i64 0, .int .i64 0, .string ⟨#[]⟩, .string ⟨#[]⟩] 35)).alloc (.cells #[.int .i64 car, .slice a m cap] 26))) := Lib.hid (HB2.out.alloc (by simp <;> omega) _)
  have HZ3 : Hid ((((w.alloc (.cells #[.int .i64 car, .slice a m cap] 26)).alloc (.cells #[.int .i64 0, .int .i64 0, .string ⟨#[]⟩, .string ⟨#[]⟩] 35)).alloc (.cells #[.int .i64 car, .slice a m cap] 26)).heap[w.heap.size + 1]? = some (.cells #[.int .i64 0, .int .i64 0, .string ⟨#[]⟩, .string ⟨#[]⟩] 35 (0, 0))) := Lib.hid ((Below.heap_alloc _ _ _ (by simp)).trans (at_second w _ _))
  have HA3 : Hid ((((w.alloc (.cells #[.int .i64 car, .slice a m cap] 26)).alloc (.cells #[.int .i64 0, .int .i64 0, .string ⟨#[]⟩, .string ⟨#[]⟩] 35)).alloc (.cells #[.int .i64 car, .slice a m cap] 26)).heap[w.heap.size]? = some (.cells #[.int .i64 car, .slice a m cap] 26 (0, 0))) := Lib.hid ((Below.heap_alloc _ _ _ (by simp <;> omega)).trans (at_past w _ _))
  have hs3 : (((w.alloc (.cells #[.int .i64 car, .slice a m cap] 26)).alloc (.cells #[.int .i64 0, .int .i64 0, .string ⟨#[]⟩, .string ⟨#[]⟩] 35)).alloc (.cells #[.int .i64 car, .slice a m cap] 26)).heap.size = w.heap.size + 3 := by simp
  generalize ((w.alloc (.cells #[.int .i64 car, .slice a m cap] 26)).alloc (.cells #[.int .i64 0, .int .i64 0, .string ⟨#[]⟩, .string ⟨#[]⟩] 35)).alloc (.cells #[.int .i64 car, .slice a m cap] 26) = W3 at *
  have hnc : n ≤ cap := by omega
  unfold maxLen at l2
  have C0 : W3.drew.cell? ⟨w.heap.size, 0, none⟩ = some (.int .i64 car) := cell_of_row W3 _ 0 _ _ _ HA3.out
  have C1 : W3.drew.cell? ⟨w.heap.size, 1, none⟩ = some (.slice a m cap) := cell_of_row W3 _ 1 _ _ _ HA3.out
  have HBd : Hid (Below w.heap.size w W3.drew) := Lib.hid (below_drewN HB3.out 1)
  have HBv : Hid (Below w.heap.size w (W3.alloc (.cells #[.int .i64 0, .int .i64 0, .string ⟨#[]⟩, .string ⟨#[]⟩] 35)).drew) := Lib.hid (below_drewN (HB3.out.alloc (by omega) _) 1)
  have HCv : Hid ((W3.alloc (.cells #[.int .i64 0, .int .i64 0, .string ⟨#[]⟩, .string ⟨#[]⟩] 35)).heap[w.heap.size]? = some (.cells #[.int .i64 car, .slice a m cap] 26 (0, 0)) ∧ (W3.alloc (.cells #[.int .i64 0, .int .i64 0, .string ⟨#[]⟩, .string ⟨#[]⟩] 35)).heap[w.heap.size + 1]? = some (.cells #[.int .i64 0, .int .i64 0, .string ⟨#[]⟩, .string ⟨#[]⟩] 35 (0, 0)) ∧ (W3.alloc (.cells #[.int .i64 0, .int .i64 0, .string ⟨#[]⟩, .string ⟨#[]⟩] 35)).heap[w.heap.size + 3]? = some (.cells #[.int .i64 0, .int .i64 0, .string ⟨#[]⟩, .string ⟨#[]⟩] 35 (0, 0))) := Lib.hid
    ⟨(Below.heap_alloc _ _ _ (by omega)).trans HA3.out, (Below.heap_alloc _ _ _ (by omega)).trans HZ3.out, by rw [← hs3]; exact heap_alloc_new _ _⟩
  have hsv : (W3.alloc (.cells #[.int .i64 0, .int .i64 0, .string ⟨#[]⟩, .string ⟨#[]⟩] 35)).drew.heap.size = w.heap.size + 4 := by show (W3.alloc _).heap.size = _; rw [World.size_alloc, hs3]
  have CV : (W3.alloc (.cells #[.int .i64 0, .int .i64 0, .string ⟨#[]⟩, .string ⟨#[]⟩] 35)).drew.cell? ⟨w.heap.size, 0, none⟩ = some (.int .i64 car) ∧ (W3.alloc (.cells #[.int .i64 0, .int .i64 0, .string ⟨#[]⟩, .string ⟨#[]⟩] 35)).drew.cell? ⟨w.heap.size, 1, none⟩ = some (.slice a m cap) := ⟨cell_of_row (W3.alloc _) _ 0 _ _ _ HCv.out.1, cell_of_row (W3.alloc _) _ 1 _ _ _ HCv.out.1⟩
  have HCV := Lib.hid CV
  clear CV
  go_region_held3 (fun w' => w'.cell? ⟨w.heap.size, 0, none⟩ = some (.int .i64 car) ∧ w'.cell? ⟨w.heap.size, 1, none⟩ = some (.slice a m cap))
    (first | (exact ⟨C0, C1⟩) | (exact HCV.out) | (exact HC2.out) | (exact HC5.out _) | (simp [World.cell?_setCell_other, HC2.out.1, HC2.out.2]; done))
    ((first | (go_at_call 74; (with_reducible refine (HRt.out _ HBv.out).mono ?_); rintro e w4 ⟨rfl, hb4⟩; rw [hsv] at hb4; have HBw4 := Lib.hid (HBv.out.trans (hb4.mono (by omega))); have HA4 := Lib.hid ((hb4.block w.heap.size (by omega)).trans HCv.out.1); have HZ4 := Lib.hid ((hb4.block (w.heap.size + 1) (by omega)).trans HCv.out.2.1); have HH4 := Lib.hid ((hb4.block (w.heap.size + 3) (by omega)).trans HCv.out.2.2); clear hb4; have HC2 : Hid (w4.cell? ⟨w.heap.size, 0, none⟩ = some (.int .i64 car) ∧ w4.cell? ⟨w.heap.size, 1, none⟩ = some (.slice a m cap)) := Lib.hid ⟨cell_of_row w4 _ 0 _ _ _ HA4.out, cell_of_row w4 _ 1 _ _ _ HA4.out⟩; have z0 : w4.cell? ⟨w.heap.size + 3, 0, none⟩ = some (.int .i64 0) := cell_of_row w4 _ 0 _ _ _ HH4.out; have z1 : w4.cell? ⟨w.heap.size + 3, 1, none⟩ = some (.int .i64 0) := cell_of_row w4 _ 1 _ _ _ HH4.out; have z2 : w4.cell? ⟨w.heap.size + 3, 2, none⟩ = some (.string ⟨#[]⟩) := cell_of_row w4 _ 2 _ _ _ HH4.out; have z3 : w4.cell? ⟨w.heap.size + 3, 3, none⟩ = some (.string ⟨#[]⟩) := cell_of_row w4 _ 3 _ _ _ HH4.out; have zf : ∀ j, w4.frozen? ⟨w.heap.size + 3, j, none⟩ = false := (fun j => by simp [World.frozen?, HH4.out])) | (go_at_call 74; (with_reducible refine (HRt.out _ HBd.out).mono ?_); rintro e w4 ⟨rfl, hb4⟩; have HC2 : Hid (w4.cell? ⟨w.heap.size, 0, none⟩ = some (.int .i64 car) ∧ w4.cell? ⟨w.heap.size, 1, none⟩ = some (.slice a m cap)) := Lib.hid ⟨(hb4.cell (p := ⟨w.heap.size, 0, none⟩) (by show w.heap.size < W3.heap.size; omega)).trans C0, (hb4.cell (p := ⟨w.heap.size, 1, none⟩) (by show w.heap.size < W3.heap.size; omega)).trans C1⟩; have HB4 := Lib.hid (HBd.out.trans (hb4.mono HBd.out.size)); have HZ4 := Lib.hid ((hb4.block (w.heap.size + 1) (by show w.heap.size + 1 < W3.heap.size; omega)).trans HZ3.out); have hs4 := hb4.size; have HL5 : Hid (W3.heap.size ≤ w4.heap.size) := Lib.hid hs4; have HC5 : Hid (∀ o, (w4.alloc o).cell? ⟨w.heap.size, 0, none⟩ = some (.int .i64 car) ∧ (w4.alloc o).cell? ⟨w.heap.size, 1, none⟩ = some (.slice a m cap)) := Lib.hid (fun o => have hl : w.heap.size < w4.heap.size := (by have : W3.heap.size ≤ w4.heap.size := hs4; omega); ⟨(((Below.refl _ w4).alloc (Nat.le_refl _) o).cell (p := ⟨w.heap.size, 0, none⟩) hl).trans HC2.out.1, (((Below.refl _ w4).alloc (Nat.le_refl _) o).cell (p := ⟨w.heap.size, 1, none⟩) hl).trans HC2.out.2⟩); clear hb4 hs4)))
  · have HH5 : Hid ((w4.alloc (.cells #[.int .i64 car, .int .i64 n, .string R, .string ⟨#[]⟩] 35)).heap[w4.heap.size]? = some (.cells #[.int .i64 car, .int .i64 n, .string R, .string ⟨#[]⟩] 35 (0, 0))) := Lib.hid (heap_alloc_new _ _)
    have hl4 : w.heap.size + 3 ≤ w4.heap.size := by have := HL5.out; omega
    have HB5 : Hid (Below w.heap.size w (w4.alloc (.cells #[.int .i64 car, .int .i64 n, .string R, .string ⟨#[]⟩] 35))) := Lib.hid (HB4.out.alloc (by omega) _)
    have HZ5 := Lib.hid ((Below.heap_alloc w4 (.cells #[.int .i64 car, .int .i64 n, .string R, .string ⟨#[]⟩] 35) (w.heap.size + 1) (by omega)).trans HZ4.out)
    have hp : ¬ w4.heap.size = w.heap.size + 1 := by omega
    have hp0 : w.heap.size ≤ w4.heap.size := by omega
    clear HC5 HL5 HB4 HZ4 hl4
    rename_i hHeld
    clear hHeld
    generalize w4.alloc (.cells #[.int .i64 car, .int .i64 n, .string R, .string ⟨#[]⟩] 35) = W5 at *
    generalize w4.heap.size = p at *
    clear HC2 HCV HBd HBv HCv C0 C1 hsv HB3 HZ3 HA3 HV d0 d3 HRt
    have e0 : W5.cell? ⟨p, 0, none⟩ = some (.int .i64 car) := cell_of_row W5 _ 0 _ _ _ HH5.out
    have e1 : W5.cell? ⟨p, 1, none⟩ = some (.int .i64 n) := cell_of_row W5 _ 1 _ _ _ HH5.out
    have e2 : W5.cell? ⟨p, 2, none⟩ = some (.string R) := cell_of_row W5 _ 2 _ _ _ HH5.out
    have e3 : W5.cell? ⟨p, 3, none⟩ = some (.string ⟨#[]⟩) := cell_of_row W5 _ 3 _ _ _ HH5.out
    go_wp2_with fail
    refine (HS.out W5 HB5.out).mono ?_
    rintro e w6 ⟨rfl, hb6⟩
    clear e0 e1 e2 e3
    have HB6 := Lib.hid (HB5.out.trans (hb6.mono HB5.out.size))
    have HH6 := Lib.hid ((hb6.block p (Array.getElem?_eq_some_iff.1 HH5.out).1).trans HH5.out)
    have HZ6 := Lib.hid ((hb6.block (w.heap.size + 1) (Array.getElem?_eq_some_iff.1 HZ5.out).1).trans HZ5.out)
    clear hb6
    have e0 : w6.cell? ⟨p, 0, none⟩ = some (.int .i64 car) := cell_of_row w6 _ 0 _ _ _ HH6.out
    have e1 : w6.cell? ⟨p, 1, none⟩ = some (.int .i64 n) := cell_of_row w6 _ 1 _ _ _ HH6.out
    have e2 : w6.cell? ⟨p, 2, none⟩ = some (.string R) := cell_of_row w6 _ 2 _ _ _ HH6.out
    have e3 : w6.cell? ⟨p, 3, none⟩ = some (.string ⟨#[]⟩) := cell_of_row w6 _ 3 _ _ _ HH6.out
    have ef : w6.frozen? ⟨p, 3, none⟩ = false := by simp [World.frozen?, HH6.out]
    have y0 : w6.cell? ⟨w.heap.size + 1, 0, none⟩ = some (.int .i64 0) := cell_of_row w6 _ 0 _ _ _ HZ6.out
    have y1 : w6.cell? ⟨w.heap.size + 1, 1, none⟩ = some (.int .i64 0) := cell_of_row w6 _ 1 _ _ _ HZ6.out
    have y2 : w6.cell? ⟨w.heap.size + 1, 2, none⟩ = some (.string ⟨#[]⟩) := cell_of_row w6 _ 2 _ _ _ HZ6.out
    have y3 : w6.cell? ⟨w.heap.size + 1, 3, none⟩ = some (.string ⟨#[]⟩) := cell_of_row w6 _ 3 _ _ _ HZ6.out
    have yf : ∀ j, w6.frozen? ⟨w.heap.size + 1, j, none⟩ = false := fun j => by simp [World.frozen?, HZ6.out]
    have hp' : ¬ w.heap.size + 1 = p := fun e => hp e.symm
    go_wp2_with fail
    have HR6 := Lib.hid (heap_setCell_same (i := 3) (.string Z) (heap_setCell_same (i := 2) (.string R) (heap_setCell_same (i := 1) (.int .i64 n) (heap_setCell_same (i := 0) (.int .i64 car) ((Below.heap_setCell w6 ⟨p, 3, none⟩ (.string Z) (w.heap.size + 1) hp').trans HZ6.out)))))
    refine bodyPost_ret (results_cellA_tmp rfl _ (w.heap.size + 1) 35 #[.int .i64 car, .int .i64 n, .string R, .string Z] (0, 0) _ rfl HR6.out Tryz.underlying35 rfl infoHead) rfl ⟨?_, ?_⟩
    · rw [HHd.out]; rfl
    · exact ((((HB6.out.setCell (p := ⟨p, 3, none⟩) hp0 _).setCell (p := ⟨w.heap.size + 1, 0, none⟩) (Nat.le_succ _) _).setCell (p := ⟨w.heap.size + 1, 1, none⟩) (Nat.le_succ _) _).setCell (p := ⟨w.heap.size + 1, 2, none⟩) (Nat.le_succ _) _).setCell (p := ⟨w.heap.size + 1, 3, none⟩) (Nat.le_succ _) _
  · rename_i hHeld
    clear hHeld z0 z1 z2 z3 zf
    have HH5 : Hid (((((w4.setCell ⟨w.heap.size + 3, 0, none⟩ (.int .i64 car)).setCell ⟨w.heap.size + 3, 1, none⟩ (.int .i64 n)).setCell ⟨w.heap.size + 3, 2, none⟩ (.string R)).setCell ⟨w.heap.size + 3, 3, none⟩ (.string ⟨#[]⟩)).heap[w.heap.size + 3]? = some (.cells #[.int .i64 car, .int .i64 n, .string R, .string ⟨#[]⟩] 35 (0, 0))) := Lib.hid (heap_setCell_same _ (heap_setCell_same _ (heap_setCell_same _ (heap_setCell_same _ HH4.out))))
    have HB5 : Hid (Below w.heap.size w ((((w4.setCell ⟨w.heap.size + 3, 0, none⟩ (.int .i64 car)).setCell ⟨w.heap.size + 3, 1, none⟩ (.int .i64 n)).setCell ⟨w.heap.size + 3, 2, none⟩ (.string R)).setCell ⟨w.heap.size + 3, 3, none⟩ (.string ⟨#[]⟩))) := Lib.hid ((((HBw4.out.setCell (p := ⟨w.heap.size + 3, 0, none⟩) (by simp) _).setCell (p := ⟨w.heap.size + 3, 1, none⟩) (by simp) _).setCell (p := ⟨w.heap.size + 3, 2, none⟩) (by simp) _).setCell (p := ⟨w.heap.size + 3, 3, none⟩) (by simp) _)
    have HZ5 : Hid (((((w4.setCell ⟨w.heap.size + 3, 0, none⟩ (.int .i64 car)).setCell ⟨w.heap.size + 3, 1, none⟩ (.int .i64 n)).setCell ⟨w.heap.size + 3, 2, none⟩ (.string R)).setCell ⟨w.heap.size + 3, 3, none⟩ (.string ⟨#[]⟩)).heap[w.heap.size + 1]? = some (.cells #[.int .i64 0, .int .i64 0, .string ⟨#[]⟩, .string ⟨#[]⟩] 35 (0, 0))) := Lib.hid (by
      rw [Below.heap_setCell _ _ _ _ (by simp), Below.heap_setCell _ _ _ _ (by simp), Below.heap_setCell _ _ _ _ (by simp), Below.heap_setCell _ _ _ _ (by simp)]
      exact HZ4.out)
    have hp : ¬ w.heap.size + 3 = w.heap.size + 1 := by omega
    have hp0 : w.heap.size ≤ w.heap.size + 3 := by omega
    clear HBw4 HZ4 HH4 HA4
    generalize (((w4.setCell ⟨w.heap.size + 3, 0, none⟩ (.int .i64 car)).setCell ⟨w.heap.size + 3, 1, none⟩ (.int .i64 n)).setCell ⟨w.heap.size + 3, 2, none⟩ (.string R)).setCell ⟨w.heap.size + 3, 3, none⟩ (.string ⟨#[]⟩) = W5 at *
    generalize w.heap.size + 3 = p at *
    clear HC2 HCV HBd HBv HCv C0 C1 hsv HB3 HZ3 HA3 HV d0 d3 HRt
    have e0 : W5.cell? ⟨p, 0, none⟩ = some (.int .i64 car) := cell_of_row W5 _ 0 _ _ _ HH5.out
    have e1 : W5.cell? ⟨p, 1, none⟩ = some (.int .i64 n) := cell_of_row W5 _ 1 _ _ _ HH5.out
    have e2 : W5.cell? ⟨p, 2, none⟩ = some (.string R) := cell_of_row W5 _ 2 _ _ _ HH5.out
    have e3 : W5.cell? ⟨p, 3, none⟩ = some (.string ⟨#[]⟩) := cell_of_row W5 _ 3 _ _ _ HH5.out
    go_wp2_with fail
    refine (HS.out W5 HB5.out).mono ?_
    rintro e w6 ⟨rfl, hb6⟩
    clear e0 e1 e2 e3
    have HB6 := Lib.hid (HB5.out.trans (hb6.mono HB5.out.size))
    have HH6 := Lib.hid ((hb6.block p (Array.getElem?_eq_some_iff.1 HH5.out).1).trans HH5.out)
    have HZ6 := Lib.hid ((hb6.block (w.heap.size + 1) (Array.getElem?_eq_some_iff.1 HZ5.out).1).trans HZ5.out)
    clear hb6
    have e0 : w6.cell? ⟨p, 0, none⟩ = some (.int .i64 car) := cell_of_row w6 _ 0 _ _ _ HH6.out
    have e1 : w6.cell? ⟨p, 1, none⟩ = some (.int .i64 n) := cell_of_row w6 _ 1 _ _ _ HH6.out
    have e2 : w6.cell? ⟨p, 2, none⟩ = some (.string R) := cell_of_row w6 _ 2 _ _ _ HH6.out
    have e3 : w6.cell? ⟨p, 3, none⟩ = some (.string ⟨#[]⟩) := cell_of_row w6 _ 3 _ _ _ HH6.out
    have ef : w6.frozen? ⟨p, 3, none⟩ = false := by simp [World.frozen?, HH6.out]
    have y0 : w6.cell? ⟨w.heap.size + 1, 0, none⟩ = some (.int .i64 0) := cell_of_row w6 _ 0 _ _ _ HZ6.out
    have y1 : w6.cell? ⟨w.heap.size + 1, 1, none⟩ = some (.int .i64 0) := cell_of_row w6 _ 1 _ _ _ HZ6.out
    have y2 : w6.cell? ⟨w.heap.size + 1, 2, none⟩ = some (.string ⟨#[]⟩) := cell_of_row w6 _ 2 _ _ _ HZ6.out
    have y3 : w6.cell? ⟨w.heap.size + 1, 3, none⟩ = some (.string ⟨#[]⟩) := cell_of_row w6 _ 3 _ _ _ HZ6.out
    have yf : ∀ j, w6.frozen? ⟨w.heap.size + 1, j, none⟩ = false := fun j => by simp [World.frozen?, HZ6.out]
    have hp' : ¬ w.heap.size + 1 = p := fun e => hp e.symm
    go_wp2_with fail
    have HR6 := Lib.hid (heap_setCell_same (i := 3) (.string Z) (heap_setCell_same (i := 2) (.string R) (heap_setCell_same (i := 1) (.int .i64 n) (heap_setCell_same (i := 0) (.int .i64 car) ((Below.heap_setCell w6 ⟨p, 3, none⟩ (.string Z) (w.heap.size + 1) hp').trans HZ6.out)))))
    refine bodyPost_ret (results_cellA_tmp rfl _ (w.heap.size + 1) 35 #[.int .i64 car, .int .i64 n, .string R, .string Z] (0, 0) _ rfl HR6.out Tryz.underlying35 rfl infoHead) rfl ⟨?_, ?_⟩
    · rw [HHd.out]; rfl
    · exact ((((HB6.out.setCell (p := ⟨p, 3, none⟩) hp0 _).setCell (p := ⟨w.heap.size + 1, 0, none⟩) (Nat.le_succ _) _).setCell (p := ⟨w.heap.size + 1, 1, none⟩) (Nat.le_succ _) _).setCell (p := ⟨w.heap.size + 1, 2, none⟩) (Nat.le_succ _) _).setCell (p := ⟨w.heap.size + 1, 3, none⟩) (Nat.le_succ _) _
end Go.Proofs.YtinfpbkbnhcifaaGreatDoor

/- Walks of package register: Grown, Extends. The conditions: what the slices read as, lengths, the table of constants. -/
namespace Go.Proofs.YtinfpbkbnhcifaaGreatDoor
open Go.RowKit Go.BigFrame

theorem grown_parts {r : RegP} {m n : Int} (h : grownB r m n = none) : validB r = false ∨ ¬ (0 ≤ n ∧ n ≤ r.ents.length) ∨ ¬ (0 ≤ m ∧ m ≤ n) := by
  unfold grownB at h
  split at h
  · cases h
  · rename_i hc
    by_cases h1 : validB r = true
    · by_cases h2 : 0 ≤ n ∧ n ≤ r.ents.length
      · exact .inr (.inr fun h3 => hc ⟨h1, h2, h3⟩)
      · exact .inr (.inl h2)
    · exact .inl (by simpa using h1)

set_option maxHeartbeats 2000000 in
set_option maxRecDepth 100000 in
theorem grown_no {car : Int} {w : World} {v : Value} {xs : List ByteArray} {m n : Int} (hr : SS w v xs) (hn : grownB ⟨car, xs⟩ m n = none) :
    Calls Tryz.prog 34 #[.agg #[.int .i64 car, v], .int .i64 m, .int .i64 n] w fun e w' => e = .returned (.tuple #[.slice none 0 0, .int .i64 180]) ∧ Below w.heap.size w w' := by
  obtain ⟨a, cap, rfl, l1, l2, l3⟩ := hr.opened
  have hp := grown_parts hn
  have HV := Lib.hid (fun W (hW : Below w.heap.size w W) => valid_any car (hr.below hW))
  change _ ∨ ¬ (0 ≤ n ∧ n ≤ (xs.length : Int)) ∨ _ at hp
  generalize validB ⟨car, xs⟩ = b at *
  generalize xs.length = k at *
  clear l3 hr hn
  have HB1 : Hid (Below w.heap.size w (w.alloc (.cells #[.int .i64 car, .slice a k cap] 26))) := Lib.hid ((Below.refl _ _).alloc (Nat.le_refl _) _)
  have HB2 : Hid (Below w.heap.size w ((w.alloc (.cells #[.int .i64 car, .slice a k cap] 26)).alloc (.cells #[.int .i64 car, .slice a k cap] 26))) := Lib.hid (HB1.out.alloc (by simp) _)
  cases b with
  | false =>
    clear hp
    go_enter Tryz.func34, Tryz.ntmps34
    go_wp2_with (go_at_call 44; refine (HV.out _ HB1.out).mono ?_; rintro e w2 ⟨rfl, rfl⟩)
    exact bodyPost_ret (results_tmp2 rfl _ _ _) rfl ⟨rfl, HB2.out⟩
  | true =>
    by_cases h1 : 0 ≤ n ∧ n ≤ (k : Int)
    · have d1 : decide (0 ≤ n ∧ n ≤ (k : Int)) = true := decide_eq_true h1
      have h2 : ¬ (0 ≤ m ∧ m ≤ n) := by
        rcases hp with h | h | h
        · cases h
        · exact absurd h1 h
        · exact h
      have d2 : decide (0 ≤ m ∧ m ≤ n) = false := decide_eq_false h2
      clear hp
      go_enter Tryz.func34, Tryz.ntmps34
      go_wp2_with (first | (go_at_call 44; refine (HV.out _ HB1.out).mono ?_; rintro e w2 ⟨rfl, rfl⟩) | (go_at_call 73; refine (within_any _ _ _ _).mono ?_; rintro e w3 ⟨rfl, rfl⟩; (first | rw [d1] | rw [d2])))
      exact bodyPost_ret (results_tmp2 rfl _ _ _) rfl ⟨rfl, HB2.out⟩
    · have d1 : decide (0 ≤ n ∧ n ≤ (k : Int)) = false := decide_eq_false h1
      clear hp
      go_enter Tryz.func34, Tryz.ntmps34
      go_wp2_with (first | (go_at_call 44; refine (HV.out _ HB1.out).mono ?_; rintro e w2 ⟨rfl, rfl⟩) | (go_at_call 73; refine (within_any _ _ _ _).mono ?_; rintro e w3 ⟨rfl, rfl⟩; rw [d1]))
      exact bodyPost_ret (results_tmp2 rfl _ _ _) rfl ⟨rfl, HB2.out⟩

/-- digest.Extension, whatever there is to show. -/
theorem ext_all {w : World} {v : Value} {xs : List ByteArray} (m : Nat) (hr : SS w v xs) (hl : xs.length ≤ 1000) (hx : ∀ x ∈ xs, x.size ≤ 100000) (he : Env w) (hg : 0 < w.heap.size) (hm : m ≤ xs.length) :
    Calls Tryz.prog 76 #[v, .int .i64 m] w fun e w' => ∃ v', e = .returned (.tuple #[v', .int .i64 0]) ∧ SS w' v' (if (m : Int) = 0 then [] else (extB xs m true).reverse) ∧ Below w.heap.size w w' := by
  by_cases h0 : m = 0
  · subst h0
    refine (ext_zero hr).mono ?_
    rintro e w' ⟨rfl, rfl⟩
    have e0 : (if ((0 : Nat) : Int) = 0 then ([] : List ByteArray) else (extB xs 0 true).reverse) = [] := if_pos rfl
    rw [e0]
    exact ⟨_, rfl, SliceAt.nil _ _, Below.refl _ _⟩
  · rw [if_neg (by omega)]
    exact ext_any m hr hl hx he hg (by omega) hm

set_option maxHeartbeats 2000000 in
set_option maxRecDepth 100000 in
theorem grown_yes {car : Int} {w : World} {v : Value} {xs : List ByteArray} {m n : Nat} (hr : SS w v xs) (hv : validB ⟨car, xs⟩ = true) (hn : n ≤ xs.length) (hm : m ≤ n) (he : Env w) (hg : 0 < w.heap.size) :
    Calls Tryz.prog 34 #[.agg #[.int .i64 car, v], .int .i64 m, .int .i64 n] w fun e w' => ∃ v', e = .returned (.tuple #[v', .int .i64 0]) ∧ SS w' v' (if (m : Int) = 0 then [] else (extB (xs.take n) m true).reverse) ∧ Below w.heap.size w w' := by
  obtain ⟨v1, v2, v3, v4⟩ : 0 ≤ car ∧ car ≤ 7 ∧ xs.length ≤ 60 ∧ ∀ s ∈ xs, s.size ≤ 1000 := valid_parts hv
  obtain ⟨a, cap, rfl, l1, l2, l3⟩ := hr.opened
  have HV := Lib.hid (fun W (hW : Below w.heap.size w W) => valid_any car (hr.below hW))
  rw [hv] at HV
  have HX : Hid (∀ W : World, Below w.heap.size w W → Calls Tryz.prog 76 #[.slice a n cap, .int .i64 m] W fun e w' => ∃ v', e = .returned (.tuple #[v', .int .i64 0]) ∧ SS w' v' (if (m : Int) = 0 then [] else (extB (xs.take n) m true).reverse) ∧ Below W.heap.size W w') := Lib.hid (fun W hW =>
    ext_all m ((hr.cut n hn).below hW) (by rw [List.length_take]; omega) (fun x hx => Nat.le_trans (v4 x (List.mem_of_mem_take hx)) (by omega)) (he.below hW hg) (Nat.lt_of_lt_of_le hg hW.size) (by rw [List.length_take]; omega))
  generalize (if (m : Int) = 0 then ([] : List ByteArray) else (extB (xs.take n) m true).reverse) = D at *
  have hn6 : (n : Int) ≤ (xs.length : Int) := by omega
  generalize xs.length = k at *
  have d1 : decide (0 ≤ (n : Int) ∧ (n : Int) ≤ (k : Int)) = true := decide_eq_true ⟨by omega, hn6⟩
  have d2 : decide (0 ≤ (m : Int) ∧ (m : Int) ≤ (n : Int)) = true := decide_eq_true ⟨by omega, by omega⟩
  clear l3 hr hv v1 v2 v3 v4 he hg
  unfold maxLen at l2
  have hnc : n ≤ cap := by omega
  have HB1 : Hid (Below w.heap.size w (w.alloc (.cells #[.int .i64 car, .slice a k cap] 26))) := Lib.hid ((Below.refl _ _).alloc (Nat.le_refl _) _)
  have HB2 : Hid (Below w.heap.size w ((w.alloc (.cells #[.int .i64 car, .slice a k cap] 26)).alloc (.cells #[.int .i64 car, .slice a k cap] 26))) := Lib.hid (HB1.out.alloc (by simp) _)
  go_enter Tryz.func34, Tryz.ntmps34
  go_wp2_with (first | (go_at_call 44; refine (HV.out _ HB1.out).mono ?_; rintro e w2 ⟨rfl, rfl⟩) | (go_at_call 73; refine (within_any _ _ _ _).mono ?_; rintro e w3 ⟨rfl, rfl⟩; (first | rw [d1] | rw [d2])) | (go_at_call 76; refine (HX.out _ HB2.out).mono ?_; rintro e w4 ⟨v', rfl, hs4, hb4⟩; have HS4 := Lib.hid hs4; have HB4 := Lib.hid (HB2.out.trans (hb4.mono HB2.out.size)); clear hs4 hb4))
  refine bodyPost_ret (results_tmp2 rfl _ _ _) rfl ⟨_, rfl, HS4.out, HB4.out⟩

/-- digest.VerifyExtension between digests. -/
theorem vext_any {w : World} {v : Value} {pr : List ByteArray} (old root : ByteArray) (m n : Nat) (hr : SS w v pr) (hl : pr.length ≤ 1000) (he : Env w) (hg : 0 < w.heap.size) (hn : n ≤ 1000) (h1 : old.size = 32) (h2 : root.size = 32) :
    Calls Tryz.prog 77 #[.string old, .int .i64 m, .string root, .int .i64 n, v] w fun e w' => e = .returned (.bool (vextB old m root n pr)) ∧ Below w.heap.size w w' := by
  by_cases hc : (m : Int) ≤ (n : Int) ∧ pr.all isDig = true
  · have e : vextB old m root n pr = vexB old m root n pr := by
      unfold vextB
      rw [if_pos hc]
      rfl
    rw [e]
    obtain ⟨hmn, ha⟩ := hc
    by_cases h0 : m = 0
    · subst h0
      exact vex_zero old root n hr ha h1 h2 he hg
    · by_cases h3 : m = n
      · subst h3
        exact vex_same old root m (by omega) hr ha h1 h2
      · exact vex_any old root m n hr hl he hg (by omega) (by omega) (by omega) ha h1 h2
  · have e : vextB old m root n pr = false := by
      unfold vextB
      rw [if_neg hc]
    rw [e]
    refine (vex_no old root m n hr ?_).mono ?_
    · by_cases h : pr.all isDig = true
      · exact .inl (by have : ¬ (m : Int) ≤ (n : Int) := fun h' => hc ⟨h', h⟩; omega)
      · exact .inr (by simpa using h)
    · rintro e w' ⟨rfl, rfl⟩
      exact ⟨rfl, Below.refl _ _⟩

theorem genuine_parts {key : ByteArray} {h : HeadP} (e : genuineB key h = true) : key.size = 32 ∧ (0 ≤ h.car ∧ h.car ≤ 7) ∧ (0 ≤ h.siz ∧ h.siz ≤ 60) ∧ h.root.size = 32 := by
  unfold genuineB at e
  obtain ⟨a, b, c, d, _⟩ := of_decide_eq_true e
  exact ⟨a, b, c, d⟩

set_option maxHeartbeats 2000000 in
set_option maxRecDepth 100000 in
theorem extends_any (key : ByteArray) (c1 s1 : Int) (r1 l1 : ByteArray) (c2 s2 : Int) (r2 l2 : ByteArray) {w : World} {v : Value} {pr : List ByteArray} (hk : key.size ≤ 1000) (hr1 : r1.size ≤ 1000) (hr2 : r2.size ≤ 1000) (hr : SS w v pr) (hl : pr.length ≤ 1000) (he : Env w) (hg : 0 < w.heap.size) :
    Calls Tryz.prog 35 #[.string key, .agg #[.int .i64 c1, .int .i64 s1, .string r1, .string l1], .agg #[.int .i64 c2, .int .i64 s2, .string r2, .string l2], v] w fun e w' => e = .returned (.bool (extendsB key ⟨c1, s1, r1, l1⟩ ⟨c2, s2, r2, l2⟩ pr)) ∧ Below w.heap.size w w' := by
  obtain ⟨W2, hW2⟩ : ∃ W2, W2 = (w.alloc (.cells #[.int .i64 c1, .int .i64 s1, .string r1, .string l1] 35)).alloc (.cells #[.int .i64 c2, .int .i64 s2, .string r2, .string l2] 35) := ⟨_, rfl⟩
  have HB2 : Hid (Below w.heap.size w W2) := Lib.hid (by rw [hW2]; exact ((Below.refl _ _).alloc (Nat.le_refl _) _).alloc (by simp) _)
  have HX2 : Hid (W2.heap[w.heap.size]? = some (.cells #[.int .i64 c1, .int .i64 s1, .string r1, .string l1] 35 (0, 0))) := Lib.hid (by rw [hW2]; exact at_past w _ _)
  have HY2 : Hid (W2.heap[w.heap.size + 1]? = some (.cells #[.int .i64 c2, .int .i64 s2, .string r2, .string l2] 35 (0, 0))) := Lib.hid (by rw [hW2]; exact at_second w _ _)
  have HG1 := Lib.hid (genuine_any key c1 s1 r1 l1 W2 hk hr1 (he.below HB2.out hg) (Nat.lt_of_lt_of_le hg HB2.out.size))
  have HG2 : Hid (∀ W : World, Below w.heap.size w W → Calls Tryz.prog 40 #[.string key, .agg #[.int .i64 c2, .int .i64 s2, .string r2, .string l2]] W fun e w' => e = .returned (.bool (genuineB key ⟨c2, s2, r2, l2⟩)) ∧ Below W.heap.size W w') := Lib.hid (fun W hW => genuine_any key c2 s2 r2 l2 W hk hr2 (he.below hW hg) (Nat.lt_of_lt_of_le hg hW.size))
  have HVx : Hid (genuineB key ⟨c1, s1, r1, l1⟩ = true → genuineB key ⟨c2, s2, r2, l2⟩ = true → ∀ W : World, Below w.heap.size w W → Calls Tryz.prog 77 #[.string r1, .int .i64 s1, .string r2, .int .i64 s2, v] W fun e w' => e = .returned (.bool (vextB r1 s1 r2 s2 pr)) ∧ Below W.heap.size W w') := Lib.hid (fun g1 g2 W hW => by
    obtain ⟨_, _, ⟨a1, a2⟩, a3⟩ := genuine_parts g1
    obtain ⟨_, _, ⟨b1, b2⟩, b3⟩ := genuine_parts g2
    simp only at a1 a2 a3 b1 b2 b3
    obtain ⟨m, rfl⟩ := Int.eq_ofNat_of_zero_le a1
    obtain ⟨n, rfl⟩ := Int.eq_ofNat_of_zero_le b1
    exact vext_any r1 r2 m n (hr.below hW) hl (he.below hW hg) (Nat.lt_of_lt_of_le hg hW.size) (by omega) a3 b3)
  have HR : Hid (extendsB key ⟨c1, s1, r1, l1⟩ ⟨c2, s2, r2, l2⟩ pr = (genuineB key ⟨c1, s1, r1, l1⟩ && (genuineB key ⟨c2, s2, r2, l2⟩ && (decide (c1 = c2) && vextB r1 s1 r2 s2 pr)))) := Lib.hid rfl
  generalize extendsB key ⟨c1, s1, r1, l1⟩ ⟨c2, s2, r2, l2⟩ pr = RR at *
  generalize genuineB key ⟨c1, s1, r1, l1⟩ = g1 at *
  generalize genuineB key ⟨c2, s2, r2, l2⟩ = g2 at *
  generalize vextB r1 s1 r2 s2 pr = g3 at *
  clear hr he hg hl hr1 hr2 hk
  cases g1 with
  | false =>
    go_enter Tryz.func35, Tryz.ntmps35
    go_wp2_with fail
    rw [← hW2]
    refine HG1.out.mono ?_
    rintro e w3 ⟨rfl, hb3⟩
    go_wp2
    go_ret
    exact ⟨ret_bool (by rw [HR.out]; rfl), HB2.out.trans (hb3.mono HB2.out.size)⟩
  | true =>
    have fin : ∀ w3, Below W2.heap.size W2 w3 → Below w.heap.size w w3 ∧ w3.heap[w.heap.size]? = some (.cells #[.int .i64 c1, .int .i64 s1, .string r1, .string l1] 35 (0, 0)) ∧ w3.heap[w.heap.size + 1]? = some (.cells #[.int .i64 c2, .int .i64 s2, .string r2, .string l2] 35 (0, 0)) := fun w3 hb => ⟨HB2.out.trans (hb.mono HB2.out.size), (hb.block _ (Array.getElem?_eq_some_iff.1 HX2.out).1).trans HX2.out, (hb.block _ (Array.getElem?_eq_some_iff.1 HY2.out).1).trans HY2.out⟩
    have FIN := Lib.hid fin
    clear fin
    have HW2 := Lib.hid hW2
    clear hW2
    cases g2 with
    | false =>
      go_enter Tryz.func35, Tryz.ntmps35
      go_wp2_with fail
      rw [← HW2.out]
      refine HG1.out.mono ?_
      rintro e w3 ⟨rfl, hb3⟩
      obtain ⟨hb, hx, hy⟩ := FIN.out w3 hb3
      have y0 : w3.cell? ⟨w.heap.size + 1, 0, none⟩ = some (.int .i64 c2) := cell_of_row w3 _ 0 _ _ _ hy
      have y1 : w3.cell? ⟨w.heap.size + 1, 1, none⟩ = some (.int .i64 s2) := cell_of_row w3 _ 1 _ _ _ hy
      have y2 : w3.cell? ⟨w.heap.size + 1, 2, none⟩ = some (.string r2) := cell_of_row w3 _ 2 _ _ _ hy
      have y3 : w3.cell? ⟨w.heap.size + 1, 3, none⟩ = some (.string l2) := cell_of_row w3 _ 3 _ _ _ hy
      have HB3 := Lib.hid hb
      clear hb hx hy hb3
      go_wp2_with fail
      refine (HG2.out w3 HB3.out).mono ?_
      rintro e w4 ⟨rfl, hb4⟩
      go_wp2
      go_ret
      exact ⟨ret_bool (by rw [HR.out]; rfl), HB3.out.trans (hb4.mono HB3.out.size)⟩
    | true =>
      have fin4 : ∀ w3 w4, Below W2.heap.size W2 w3 → Below w3.heap.size w3 w4 → Below w.heap.size w w4 ∧ w4.heap[w.heap.size]? = some (.cells #[.int .i64 c1, .int .i64 s1, .string r1, .string l1] 35 (0, 0)) ∧ w4.heap[w.heap.size + 1]? = some (.cells #[.int .i64 c2, .int .i64 s2, .string r2, .string l2] 35 (0, 0)) := fun w3 w4 hb hb4 => FIN.out w4 (hb.trans (hb4.mono hb.size))
      have FIN4 := Lib.hid fin4
      clear fin4
      by_cases hcc : c1 = c2
      · have dc : (c1 == c2) = true := by simpa using hcc
        have dd : decide (c1 = c2) = true := decide_eq_true hcc
        clear hcc
        go_enter Tryz.func35, Tryz.ntmps35
        go_wp2_with fail
        rw [← HW2.out]
        refine HG1.out.mono ?_
        rintro e w3 ⟨rfl, hb3⟩
        obtain ⟨hb, hx, hy⟩ := FIN.out w3 hb3
        have y0 : w3.cell? ⟨w.heap.size + 1, 0, none⟩ = some (.int .i64 c2) := cell_of_row w3 _ 0 _ _ _ hy
        have y1 : w3.cell? ⟨w.heap.size + 1, 1, none⟩ = some (.int .i64 s2) := cell_of_row w3 _ 1 _ _ _ hy
        have y2 : w3.cell? ⟨w.heap.size + 1, 2, none⟩ = some (.string r2) := cell_of_row w3 _ 2 _ _ _ hy
        have y3 : w3.cell? ⟨w.heap.size + 1, 3, none⟩ = some (.string l2) := cell_of_row w3 _ 3 _ _ _ hy
        have HB3 := Lib.hid hb
        have HBB := Lib.hid hb3
        clear hb hx hy hb3
        go_wp2_with fail
        refine (HG2.out w3 HB3.out).mono ?_
        rintro e w4 ⟨rfl, hb4⟩
        clear y0 y1 y2 y3
        obtain ⟨hb, hx, hy⟩ := FIN4.out w3 w4 HBB.out hb4
        have x0 : w4.cell? ⟨w.heap.size, 0, none⟩ = some (.int .i64 c1) := cell_of_row w4 _ 0 _ _ _ hx
        have x1 : w4.cell? ⟨w.heap.size, 1, none⟩ = some (.int .i64 s1) := cell_of_row w4 _ 1 _ _ _ hx
        have x2 : w4.cell? ⟨w.heap.size, 2, none⟩ = some (.string r1) := cell_of_row w4 _ 2 _ _ _ hx
        have y0 : w4.cell? ⟨w.heap.size + 1, 0, none⟩ = some (.int .i64 c2) := cell_of_row w4 _ 0 _ _ _ hy
        have y1 : w4.cell? ⟨w.heap.size + 1, 1, none⟩ = some (.int .i64 s2) := cell_of_row w4 _ 1 _ _ _ hy
        have y2 : w4.cell? ⟨w.heap.size + 1, 2, none⟩ = some (.string r2) := cell_of_row w4 _ 2 _ _ _ hy
        have HB4 := Lib.hid hb
        clear hb hx hy hb4
        go_wp2_with fail
        refine (HVx.out (by simp) (by simp) w4 HB4.out).mono ?_
        rintro e w5 ⟨rfl, hb5⟩
        go_wp2
        go_ret
        exact ⟨ret_bool (by rw [HR.out, dd]; rfl), HB4.out.trans (hb5.mono HB4.out.size)⟩
      · have dc : (c1 == c2) = false := by simpa using hcc
        have dd : decide (c1 = c2) = false := decide_eq_false hcc
        clear hcc
        go_enter Tryz.func35, Tryz.ntmps35
        go_wp2_with fail
        rw [← HW2.out]
        refine HG1.out.mono ?_
        rintro e w3 ⟨rfl, hb3⟩
        obtain ⟨hb, hx, hy⟩ := FIN.out w3 hb3
        have y0 : w3.cell? ⟨w.heap.size + 1, 0, none⟩ = some (.int .i64 c2) := cell_of_row w3 _ 0 _ _ _ hy
        have y1 : w3.cell? ⟨w.heap.size + 1, 1, none⟩ = some (.int .i64 s2) := cell_of_row w3 _ 1 _ _ _ hy
        have y2 : w3.cell? ⟨w.heap.size + 1, 2, none⟩ = some (.string r2) := cell_of_row w3 _ 2 _ _ _ hy
        have y3 : w3.cell? ⟨w.heap.size + 1, 3, none⟩ = some (.string l2) := cell_of_row w3 _ 3 _ _ _ hy
        have HB3 := Lib.hid hb
        have HBB := Lib.hid hb3
        clear hb hx hy hb3
        go_wp2_with fail
        refine (HG2.out w3 HB3.out).mono ?_
        rintro e w4 ⟨rfl, hb4⟩
        clear y0 y1 y2 y3
        obtain ⟨hb, hx, hy⟩ := FIN4.out w3 w4 HBB.out hb4
        have x0 : w4.cell? ⟨w.heap.size, 0, none⟩ = some (.int .i64 c1) := cell_of_row w4 _ 0 _ _ _ hx
        have y0 : w4.cell? ⟨w.heap.size + 1, 0, none⟩ = some (.int .i64 c2) := cell_of_row w4 _ 0 _ _ _ hy
        have HB4 := Lib.hid hb
        clear hb hx hy hb4
        go_wp2
        go_ret
        exact ⟨ret_bool (by rw [HR.out, dd]; rfl), HB4.out⟩
end Go.Proofs.YtinfpbkbnhcifaaGreatDoor
