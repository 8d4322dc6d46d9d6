/- Walks of package register: Sign. The conditions: what the slice reads as, lengths, the table of constants. -/
import Derived.Test.YtinfpbkbnhcifaaGreatDoorQVR3
namespace Go.Proofs.YtinfpbkbnhcifaaGreatDoor
open Go.RowKit Go.BigFrame

def headZ : Value := .agg #[.int .i64 0, .int .i64 0, .string ⟨#[]⟩, .string ⟨#[]⟩]
theorem infoHead : (Tryz.prog.info? 35).map (·.size) = some 4 := by kernel_rfl
theorem infoPart : (Tryz.prog.info? 38).map (·.size) = some 5 := by kernel_rfl
theorem infoReg : (Tryz.prog.info? 26).map (·.size) = some 2 := by kernel_rfl
theorem sign_parts {key : ByteArray} {r : RegP} {n : Int} (h : signB key r n = none) : ¬ key.size = 32 ∨ validB r = false ∨ ¬ (0 ≤ n ∧ n ≤ r.ents.length) := by
  unfold signB at h
  split at h
  · cases h
  · rename_i hc
    by_cases h1 : key.size = 32
    · by_cases h2 : validB r = true
      · exact .inr (.inr fun h3 => hc ⟨h1, h2, h3.1, h3.2⟩)
      · exact .inr (.inl (by simpa using h2))
    · exact .inl h1

set_option maxHeartbeats 2000000 in
set_option maxRecDepth 100000 in
theorem sign_no {key : ByteArray} {car : Int} {w : World} {v : Value} {xs : List ByteArray} {n : Int} (hr : SS w v xs) (hn : signB key ⟨car, xs⟩ n = none) :
    Calls Tryz.prog 33 #[.string key, .agg #[.int .i64 car, v], .int .i64 n] w fun e w' => e = .returned (.tuple #[headZ, .int .i64 180]) ∧ Below w.heap.size w w' := by
  obtain ⟨a, cap, rfl, l1, l2, l3⟩ := hr.opened
  have hp := sign_parts hn
  have HV := Lib.hid (fun W (hW : Below w.heap.size w W) => valid_any car (hr.below hW))
  change ¬ key.size = 32 ∨ _ ∨ ¬ (0 ≤ n ∧ n ≤ (xs.length : Int)) at hp
  generalize validB ⟨car, xs⟩ = b at *
  generalize xs.length = m at *
  clear l3 hr hn
  have HB2 : Hid (Below w.heap.size w ((w.alloc (.cells #[.int .i64 car, .slice a m cap] 26)).alloc (.cells #[.int .i64 0, .int .i64 0, .string ⟨#[]⟩, .string ⟨#[]⟩] 35))) := Lib.hid (((Below.refl _ _).alloc (Nat.le_refl _) _).alloc (by simp) _)
  have HZ2 : Hid (((w.alloc (.cells #[.int .i64 car, .slice a m cap] 26)).alloc (.cells #[.int .i64 0, .int .i64 0, .string ⟨#[]⟩, .string ⟨#[]⟩] 35)).heap[w.heap.size + 1]? = some (.cells #[.int .i64 0, .int .i64 0, .string ⟨#[]⟩, .string ⟨#[]⟩] 35 (0, 0))) := Lib.hid (at_second w _ _)
  have HB3 : Hid (Below w.heap.size w (((w.alloc (.cells #[.int .i64 car, .slice a m cap] 26)).alloc (.cells #[.int .i64 0, .int .i64 0, .string ⟨#[]⟩, .string ⟨#[]⟩] 35)).alloc (.cells #[.int .i64 car, .slice a m cap] 26))) := Lib.hid (HB2.out.alloc (by simp <;> omega) _)
  have HZ3 : Hid ((((w.alloc (.cells #[.int .i64 car, .slice a m cap] 26)).alloc (.cells #[.int .i64 0, .int .i64 0, .string ⟨#[]⟩, .string ⟨#[]⟩] 35)).alloc (.cells #[.int .i64 car, .slice a m cap] 26)).heap[w.heap.size + 1]? = some (.cells #[.int .i64 0, .int .i64 0, .string ⟨#[]⟩, .string ⟨#[]⟩] 35 (0, 0))) := Lib.hid ((Below.heap_alloc _ _ _ (by simp)).trans HZ2.out)
  by_cases h0 : key.size = 32
  · have d0 : decide (key.size = 32) = true := decide_eq_true h0
    cases b with
    | false =>
      go_enter Tryz.func33, Tryz.ntmps33
      go_wp2_with (first | (go_at_call 63; refine (isKey_any _ _).mono ?_; rintro e w1 ⟨rfl, rfl⟩; rw [d0]) | (go_at_call 44; refine (HV.out _ HB2.out).mono ?_; rintro e w2 ⟨rfl, rfl⟩))
      exact bodyPost_ret (results_cellA_tmp rfl _ (w.heap.size + 1) 35 #[.int .i64 0, .int .i64 0, .string ⟨#[]⟩, .string ⟨#[]⟩] (0, 0) _ rfl HZ3.out Tryz.underlying35 rfl infoHead) rfl ⟨rfl, HB3.out⟩
    | true =>
      have h3 : ¬ (0 ≤ n ∧ n ≤ (m : Int)) := by
        rcases hp with h | h | h
        · exact absurd h0 h
        · cases h
        · exact h
      have d3 : decide (0 ≤ n ∧ n ≤ (m : Int)) = false := decide_eq_false h3
      go_enter Tryz.func33, Tryz.ntmps33
      go_wp2_with (first | (go_at_call 63; refine (isKey_any _ _).mono ?_; rintro e w1 ⟨rfl, rfl⟩; rw [d0]) | (go_at_call 44; refine (HV.out _ HB2.out).mono ?_; rintro e w2 ⟨rfl, rfl⟩) | (go_at_call 73; refine (within_any _ _ _ _).mono ?_; rintro e w3 ⟨rfl, rfl⟩; rw [d3]))
      exact bodyPost_ret (results_cellA_tmp rfl _ (w.heap.size + 1) 35 #[.int .i64 0, .int .i64 0, .string ⟨#[]⟩, .string ⟨#[]⟩] (0, 0) _ rfl HZ3.out Tryz.underlying35 rfl infoHead) rfl ⟨rfl, HB3.out⟩
  · have d0 : decide (key.size = 32) = false := decide_eq_false h0
    go_enter Tryz.func33, Tryz.ntmps33
    go_wp2_with (first | (go_at_call 63; refine (isKey_any _ _).mono ?_; rintro e w1 ⟨rfl, rfl⟩; rw [d0]))
    exact bodyPost_ret (results_cellA_tmp rfl _ (w.heap.size + 1) 35 #[.int .i64 0, .int .i64 0, .string ⟨#[]⟩, .string ⟨#[]⟩] (0, 0) _ rfl HZ2.out Tryz.underlying35 rfl infoHead) rfl ⟨rfl, HB2.out⟩

set_option maxHeartbeats 4000000 in
set_option maxRecDepth 100000 in
theorem sign_yes {key : ByteArray} {car : Int} {w : World} {v : Value} {xs : List ByteArray} {n : Nat} (hr : SS w v xs) (hk : key.size = 32) (hv : validB ⟨car, xs⟩ = true) (hn : n ≤ xs.length) (he : Env w) (hg : 0 < w.heap.size) :
    Calls Tryz.prog 33 #[.string key, .agg #[.int .i64 car, v], .int .i64 n] w fun e w' => e = .returned (.tuple #[headV (headS key car xs n), .int .i64 0]) ∧ Below w.heap.size w w' := by
  obtain ⟨v1, v2, v3, v4⟩ : 0 ≤ car ∧ car ≤ 7 ∧ xs.length ≤ 60 ∧ ∀ s ∈ xs, s.size ≤ 1000 := valid_parts hv
  obtain ⟨a, cap, rfl, l1, l2, l3⟩ := hr.opened
  have HV := Lib.hid (fun W (hW : Below w.heap.size w W) => valid_any car (hr.below hW))
  rw [hv] at HV
  have HRt : Hid (∀ W : World, Below w.heap.size w W → Calls Tryz.prog 74 #[.slice a n cap] W fun e w' => e = .returned (.string (rootB (xs.take n))) ∧ Below W.heap.size W w') := Lib.hid (fun W hW =>
    root_any ((hr.cut n hn).below hW) (by rw [List.length_take]; omega) (fun x hx => Nat.le_trans (v4 x (List.mem_of_mem_take hx)) (by omega)) (he.below hW hg) (Nat.lt_of_lt_of_le hg hW.size))
  have hrs : (rootB (xs.take n)).size = 32 := rootB_size _
  have HHd : Hid (headS key car xs n = ⟨car, n, rootB (xs.take n), signedB key ⟨car, n, rootB (xs.take n), ⟨#[]⟩⟩⟩) := Lib.hid rfl
  obtain ⟨H, hH⟩ : ∃ H, H = headS key car xs n := ⟨_, rfl⟩
  rw [← hH] at HHd ⊢
  generalize rootB (xs.take n) = R at *
  obtain ⟨c, hc⟩ := Int.eq_ofNat_of_zero_le v1
  have HS : Hid (∀ W : World, Below w.heap.size w W → Calls Tryz.prog 75 #[.string key, .agg #[.int .i64 car, .int .i64 n, .string R, .string ⟨#[]⟩]] W fun e w' => e = .returned (.string (signedB key ⟨car, n, R, ⟨#[]⟩⟩)) ∧ Below W.heap.size W w') := Lib.hid (fun W hW => sealed_any key car n R ⟨#[]⟩ c n hc rfl (by omega) (by omega) W (by omega) (by omega) (he.below hW hg) (Nat.lt_of_lt_of_le hg hW.size))
  generalize signedB key ⟨car, n, R, ⟨#[]⟩⟩ = Z at *
  have hn6 : (n : Int) ≤ (xs.length : Int) := by omega
  generalize xs.length = m at *
  have d0 : decide (key.size = 32) = true := decide_eq_true hk
  have d3 : decide (0 ≤ (n : Int) ∧ (n : Int) ≤ (m : Int)) = true := decide_eq_true ⟨by omega, hn6⟩
  clear l3 hr hv v1 v2 v3 v4 hc hH he hg
  have HB2 : Hid (Below w.heap.size w ((w.alloc (.cells #[.int .i64 car, .slice a m cap] 26)).alloc (.cells #[.int .i64 0, .int .i64 0, .string ⟨#[]⟩, .string ⟨#[]⟩] 35))) := Lib.hid (((Below.refl _ _).alloc (Nat.le_refl _) _).alloc (by simp) _)
  go_enter Tryz.func33, Tryz.ntmps33
  go_wp2_with (first | (go_at_call 63; refine (isKey_any _ _).mono ?_; rintro e w1 ⟨rfl, rfl⟩; rw [d0]) | (go_at_call 44; refine (HV.out _ HB2.out).mono ?_; rintro e w2 ⟨rfl, rfl⟩) | (go_at_call 73; refine (within_any _ _ _ _).mono ?_; rintro e w3 ⟨rfl, rfl⟩; rw [d3]))
  have HB3 : Hid (Below w.heap.size w (((w.alloc (.cells #[.int .i64 car, .slice a m cap] 26)).alloc (.cells #[.int .i64 0, .int .i64 0, .string ⟨#[]⟩, .string ⟨#[]⟩] 35)).alloc (.cells #[.int .i64 car, .slice a m cap] 26))) := Lib.hid (HB2.out.alloc (by simp <;> omega) _)
  have HZ3 : Hid ((((w.alloc (.cells #[.int .i64 car, .slice a m cap] 26)).alloc (.cells #[.int .i64 0, .int .i64 0, .string ⟨#[]⟩, .string ⟨#[]⟩] 35)).alloc (.cells #[.int .i64 car, .slice a m cap] 26)).heap[w.heap.size + 1]? = some (.cells #[.int .i64 0, .int .i64 0, .string ⟨#[]⟩, .string ⟨#[]⟩] 35 (0, 0))) := Lib.hid ((Below.heap_alloc _ _ _ (by simp)).trans (at_second w _ _))
  have HA3 : Hid ((((w.alloc (.cells #[.int .i64 car, .slice a m cap] 26)).alloc (.cells #[.int .i64 0, .int .i64 0, .string ⟨#[]⟩, .string ⟨#[]⟩] 35)).alloc (.cells #[.int .i64 car, .slice a m cap] 26)).heap[w.heap.size]? = some (.cells #[.int .i64 car, .slice a m cap] 26 (0, 0))) := Lib.hid ((Below.heap_alloc _ _ _ (by simp <;> omega)).trans (at_past w _ _))
  have hs3 : (((w.alloc (.cells #[.int .i64 car, .slice a m cap] 26)).alloc (.cells #[.int .i64 0, .int .i64 0, .string ⟨#[]⟩, .string ⟨#[]⟩] 35)).alloc (.cells #[.int .i64 car, .slice a m cap] 26)).heap.size = w.heap.size + 3 := by simp
  generalize ((w.alloc (.cells #[.int .i64 car, .slice a m cap] 26)).alloc (.cells #[.int .i64 0, .int .i64 0, .string ⟨#[]⟩, .string ⟨#[]⟩] 35)).alloc (.cells #[.int .i64 car, .slice a m cap] 26) = W3 at *
  have hnc : n ≤ cap := by omega
  unfold maxLen at l2
  have C0 : W3.drew.cell? ⟨w.heap.size, 0, none⟩ = some (.int .i64 car) := cell_of_row W3 _ 0 _ _ _ HA3.out
  have C1 : W3.drew.cell? ⟨w.heap.size, 1, none⟩ = some (.slice a m cap) := cell_of_row W3 _ 1 _ _ _ HA3.out
  have HBd : Hid (Below w.heap.size w W3.drew) := Lib.hid (below_drewN HB3.out 1)
  have HBv : Hid (Below w.heap.size w (W3.alloc (.cells #[.int .i64 0, .int .i64 0, .string ⟨#[]⟩, .string ⟨#[]⟩] 35)).drew) := Lib.hid (below_drewN (HB3.out.alloc (by omega) _) 1)
  have HCv : Hid ((W3.alloc (.cells #[.int .i64 0, .int .i64 0, .string ⟨#[]⟩, .string ⟨#[]⟩] 35)).heap[w.heap.size]? = some (.cells #[.int .i64 car, .slice a m cap] 26 (0, 0)) ∧ (W3.alloc (.cells #[.int .i64 0, .int .i64 0, .string ⟨#[]⟩, .string ⟨#[]⟩] 35)).heap[w.heap.size + 1]? = some (.cells #[.int .i64 0, .int .i64 0, .string ⟨#[]⟩, .string ⟨#[]⟩] 35 (0, 0)) ∧ (W3.alloc (.cells #[.int .i64 0, .int .i64 0, .string ⟨#[]⟩, .string ⟨#[]⟩] 35)).heap[w.heap.size + 3]? = some (.cells #[.int .i64 0, .int .i64 0, .string ⟨#[]⟩, .string ⟨#[]⟩] 35 (0, 0))) := Lib.hid
    ⟨(Below.heap_alloc _ _ _ (by omega)).trans HA3.out, (Below.heap_alloc _ _ _ (by omega)).trans HZ3.out, by rw [← hs3]; exact heap_alloc_new _ _⟩
  have hsv : (W3.alloc (.cells #[.int .i64 0, .int .i64 0, .string ⟨#[]⟩, .string ⟨#[]⟩] 35)).drew.heap.size = w.heap.size + 4 := by show (W3.alloc _).heap.size = _; rw [World.size_alloc, hs3]
  have CV : (W3.alloc (.cells #[.int .i64 0, .int .i64 0, .string ⟨#[]⟩, .string ⟨#[]⟩] 35)).drew.cell? ⟨w.heap.size, 0, none⟩ = some (.int .i64 car) ∧ (W3.alloc (.cells #[.int .i64 0, .int .i64 0, .string ⟨#[]⟩, .string ⟨#[]⟩] 35)).drew.cell? ⟨w.heap.size, 1, none⟩ = some (.slice a m cap) := ⟨cell_of_row (W3.alloc _) _ 0 _ _ _ HCv.out.1, cell_of_row (W3.alloc _) _ 1 _ _ _ HCv.out.1⟩
  have HCV := Lib.hid CV
  clear CV
  go_region_held3 (fun w' => w'.cell? ⟨w.heap.size, 0, none⟩ = some (.int .i64 car) ∧ w'.cell? ⟨w.heap.size, 1, none⟩ = some (.slice a m cap))
    (first | (exact ⟨C0, C1⟩) | (exact HCV.out) | (exact HC2.out) | (exact HC5.out _) | (simp [World.cell?_setCell_other, HC2.out.1, HC2.out.2]; done))
    ((first | (go_at_call 74; (with_reducible refine (HRt.out _ HBv.out).mono ?_); rintro e w4 ⟨rfl, hb4⟩; rw [hsv] at hb4; have HBw4 := Lib.hid (HBv.out.trans (hb4.mono (by omega))); have HA4 := Lib.hid ((hb4.block w.heap.size (by omega)).trans HCv.out.1); have HZ4 := Lib.hid ((hb4.block (w.heap.size + 1) (by omega)).trans HCv.out.2.1); have HH4 := Lib.hid ((hb4.block (w.heap.size + 3) (by omega)).trans HCv.out.2.2); clear hb4; have HC2 : Hid (w4.cell? ⟨w.heap.size, 0, none⟩ = some (.int .i64 car) ∧ w4.cell? ⟨w.heap.size, 1, none⟩ = some (.slice a m cap)) := Lib.hid ⟨cell_of_row w4 _ 0 _ _ _ HA4.out, cell_of_row w4 _ 1 _ _ _ HA4.out⟩; have z0 : w4.cell? ⟨w.heap.size + 3, 0, none⟩ = some (.int .i64 0) := cell_of_row w4 _ 0 _ _ _ HH4.out; have z1 : w4.cell? ⟨w.heap.size + 3, 1, none⟩ = some (.int .i64 0) := cell_of_row w4 _ 1 _ _ _ HH4.out; have z2 : w4.cell? ⟨w.heap.size + 3, 2, none⟩ = some (.string ⟨#[]⟩) := cell_of_row w4 _ 2 _ _ _ HH4.out; have z3 : w4.cell? ⟨w.heap.size + 3, 3, none⟩ = some (.string ⟨#[]⟩) := cell_of_row w4 _ 3 _ _ _ HH4.out; have zf : ∀ j, w4.frozen? ⟨w.heap.size + 3, j, none⟩ = false := (fun j => by simp [World.frozen?, HH4.out])) | (go_at_call 74; (with_reducible refine (HRt.out _ HBd.out).mono ?_); rintro e w4 ⟨rfl, hb4⟩; have HC2 : Hid (w4.cell? ⟨w.heap.size, 0, none⟩ = some (.int .i64 car) ∧ w4.cell? ⟨w.heap.size, 1, none⟩ = some (.slice a m cap)) := Lib.hid ⟨(hb4.cell (p := ⟨w.heap.size, 0, none⟩) (by show w.heap.size < W3.heap.size; omega)).trans C0, (hb4.cell (p := ⟨w.heap.size, 1, none⟩) (by show w.heap.size < W3.heap.size; omega)).trans C1⟩; have HB4 := Lib.hid (HBd.out.trans (hb4.mono HBd.out.size)); have HZ4 := Lib.hid ((hb4.block (w.heap.size + 1) (by show w.heap.size + 1 < W3.heap.size; omega)).trans HZ3.out); have hs4 := hb4.size; have HL5 : Hid (W3.heap.size ≤ w4.heap.size) := Lib.hid hs4; have HC5 : Hid (∀ o, (w4.alloc o).cell? ⟨w.heap.size, 0, none⟩ = some (.int .i64 car) ∧ (w4.alloc o).cell? ⟨w.heap.size, 1, none⟩ = some (.slice a m cap)) := Lib.hid (fun o => have hl : w.heap.size < w4.heap.size := (by have : W3.heap.size ≤ w4.heap.size := hs4; omega); ⟨(((Below.refl _ w4).alloc (Nat.le_refl _) o).cell (p := ⟨w.heap.size, 0, none⟩) hl).trans HC2.out.1, (((Below.refl _ w4).alloc (Nat.le_refl _) o).cell (p := ⟨w.heap.size, 1, none⟩) hl).trans HC2.out.2⟩); clear hb4 hs4)))
  · have HH5 : Hid ((w4.alloc (.cells #[.int .i64 car, .int .i64 n, .string R, .string ⟨#[]⟩] 35)).heap[w4.heap.size]? = some (.cells #[.int .i64 car, .int .i64 n, .string R, .string ⟨#[]⟩] 35 (0, 0))) := Lib.hid (heap_alloc_new _ _)
    have hl4 : w.heap.size + 3 ≤ w4.heap.size := by have := HL5.out; omega
    have HB5 : Hid (Below w.heap.size w (w4.alloc (.cells #[.int .i64 car, .int .i64 n, .string R, .string ⟨#[]⟩] 35))) := Lib.hid (HB4.out.alloc (by omega) _)
    have HZ5 := Lib.hid ((Below.heap_alloc w4 (.cells #[.int .i64 car, .int .i64 n, .string R, .string ⟨#[]⟩] 35) (w.heap.size + 1) (by omega)).trans HZ4.out)
    have hp : ¬ w4.heap.size = w.heap.size + 1 := by omega
    have hp0 : w.heap.size ≤ w4.heap.size := by omega
    clear HC5 HL5 HB4 HZ4 hl4
    rename_i hHeld
    clear hHeld
    generalize w4.alloc (.cells #[.int .i64 car, .int .i64 n, .string R, .string ⟨#[]⟩] 35) = W5 at *
    generalize w4.heap.size = p at *
    clear HC2 HCV HBd HBv HCv C0 C1 hsv HB3 HZ3 HA3 HV d0 d3 HRt
    have e0 : W5.cell? ⟨p, 0, none⟩ = some (.int .i64 car) := cell_of_row W5 _ 0 _ _ _ HH5.out
    have e1 : W5.cell? ⟨p, 1, none⟩ = some (.int .i64 n) := cell_of_row W5 _ 1 _ _ _ HH5.out
    have e2 : W5.cell? ⟨p, 2, none⟩ = some (.string R) := cell_of_row W5 _ 2 _ _ _ HH5.out
    have e3 : W5.cell? ⟨p, 3, none⟩ = some (.string ⟨#[]⟩) := cell_of_row W5 _ 3 _ _ _ HH5.out
    go_wp2_with fail
    refine (HS.out W5 HB5.out).mono ?_
    rintro e w6 ⟨rfl, hb6⟩
    clear e0 e1 e2 e3
    have HB6 := Lib.hid (HB5.out.trans (hb6.mono HB5.out.size))
    have HH6 := Lib.hid ((hb6.block p (Array.getElem?_eq_some_iff.1 HH5.out).1).trans HH5.out)
    have HZ6 := Lib.hid ((hb6.block (w.heap.size + 1) (Array.getElem?_eq_some_iff.1 HZ5.out).1).trans HZ5.out)
    clear hb6
    have e0 : w6.cell? ⟨p, 0, none⟩ = some (.int .i64 car) := cell_of_row w6 _ 0 _ _ _ HH6.out
    have e1 : w6.cell? ⟨p, 1, none⟩ = some (.int .i64 n) := cell_of_row w6 _ 1 _ _ _ HH6.out
    have e2 : w6.cell? ⟨p, 2, none⟩ = some (.string R) := cell_of_row w6 _ 2 _ _ _ HH6.out
    have e3 : w6.cell? ⟨p, 3, none⟩ = some (.string ⟨#[]⟩) := cell_of_row w6 _ 3 _ _ _ HH6.out
    have ef : w6.frozen? ⟨p, 3, none⟩ = false := by simp [World.frozen?, HH6.out]
    have y0 : w6.cell? ⟨w.heap.size + 1, 0, none⟩ = some (.int .i64 0) := cell_of_row w6 _ 0 _ _ _ HZ6.out
    have y1 : w6.cell? ⟨w.heap.size + 1, 1, none⟩ = some (.int .i64 0) := cell_of_row w6 _ 1 _ _ _ HZ6.out
    have y2 : w6.cell? ⟨w.heap.size + 1, 2, none⟩ = some (.string ⟨#[]⟩) := cell_of_row w6 _ 2 _ _ _ HZ6.out
    have y3 : w6.cell? ⟨w.heap.size + 1, 3, none⟩ = some (.string ⟨#[]⟩) := cell_of_row w6 _ 3 _ _ _ HZ6.out
    have yf : ∀ j, w6.frozen? ⟨w.heap.size + 1, j, none⟩ = false := fun j => by simp [World.frozen?, HZ6.out]
    have hp' : ¬ w.heap.size + 1 = p := fun e => hp e.symm
    go_wp2_with fail
    have HR6 := Lib.hid (heap_setCell_same (i := 3) (.string Z) (heap_setCell_same (i := 2) (.string R) (heap_setCell_same (i := 1) (.int .i64 n) (heap_setCell_same (i := 0) (.int .i64 car) ((Below.heap_setCell w6 ⟨p, 3, none⟩ (.string Z) (w.heap.size + 1) hp').trans HZ6.out)))))
    refine bodyPost_ret (results_cellA_tmp rfl _ (w.heap.size + 1) 35 #[.int .i64 car, .int .i64 n, .string R, .string Z] (0, 0) _ rfl HR6.out Tryz.underlying35 rfl infoHead) rfl ⟨?_, ?_⟩
    · rw [HHd.out]; rfl
    · exact ((((HB6.out.setCell (p := ⟨p, 3, none⟩) hp0 _).setCell (p := ⟨w.heap.size + 1, 0, none⟩) (Nat.le_succ _) _).setCell (p := ⟨w.heap.size + 1, 1, none⟩) (Nat.le_succ _) _).setCell (p := ⟨w.heap.size + 1, 2, none⟩) (Nat.le_succ _) _).setCell (p := ⟨w.heap.size + 1, 3, none⟩) (Nat.le_succ _) _
  · rename_i hHeld
    clear hHeld z0 z1 z2 z3 zf
    have HH5 : Hid (((((w4.setCell ⟨w.heap.size + 3, 0, none⟩ (.int .i64 car)).setCell ⟨w.heap.size + 3, 1, none⟩ (.int .i64 n)).setCell ⟨w.heap.size + 3, 2, none⟩ (.string R)).setCell ⟨w.heap.size + 3, 3, none⟩ (.string ⟨#[]⟩)).heap[w.heap.size + 3]? = some (.cells #[.int .i64 car, .int .i64 n, .string R, .string ⟨#[]⟩] 35 (0, 0))) := Lib.hid (heap_setCell_same _ (heap_setCell_same _ (heap_setCell_same _ (heap_setCell_same _ HH4.out))))
    have HB5 : Hid (Below w.heap.size w ((((w4.setCell ⟨w.heap.size + 3, 0, none⟩ (.int .i64 car)).setCell ⟨w.heap.size + 3, 1, none⟩ (.int .i64 n)).setCell ⟨w.heap.size + 3, 2, none⟩ (.string R)).setCell ⟨w.heap.size + 3, 3, none⟩ (.string ⟨#[]⟩))) := Lib.hid ((((HBw4.out.setCell (p := ⟨w.heap.size + 3, 0, none⟩) (by simp) _).setCell (p := ⟨w.heap.size + 3, 1, none⟩) (by simp) _).setCell (p := ⟨w.heap.size + 3, 2, none⟩) (by simp) _).setCell (p := ⟨w.heap.size + 3, 3, none⟩) (by simp) _)
    have HZ5 : Hid (((((w4.setCell ⟨w.heap.size + 3, 0, none⟩ (.int .i64 car)).setCell ⟨w.heap.size + 3, 1, none⟩ (.int .i64 n)).setCell ⟨w.heap.size + 3, 2, none⟩ (.string R)).setCell ⟨w.heap.size + 3, 3, none⟩ (.string ⟨#[]⟩)).heap[w.heap.size + 1]? = some (.cells #[.int .i64 0, .int .i64 0, .string ⟨#[]⟩, .string ⟨#[]⟩] 35 (0, 0))) := Lib.hid (by
      rw [Below.heap_setCell _ _ _ _ (by simp), Below.heap_setCell _ _ _ _ (by simp), Below.heap_setCell _ _ _ _ (by simp), Below.heap_setCell _ _ _ _ (by simp)]
      exact HZ4.out)
    have hp : ¬ w.heap.size + 3 = w.heap.size + 1 := by omega
    have hp0 : w.heap.size ≤ w.heap.size + 3 := by omega
    clear HBw4 HZ4 HH4 HA4
    generalize (((w4.setCell ⟨w.heap.size + 3, 0, none⟩ (.int .i64 car)).setCell ⟨w.heap.size + 3, 1, none⟩ (.int .i64 n)).setCell ⟨w.heap.size + 3, 2, none⟩ (.string R)).setCell ⟨w.heap.size + 3, 3, none⟩ (.string ⟨#[]⟩) = W5 at *
    generalize w.heap.size + 3 = p at *
    clear HC2 HCV HBd HBv HCv C0 C1 hsv HB3 HZ3 HA3 HV d0 d3 HRt
    have e0 : W5.cell? ⟨p, 0, none⟩ = some (.int .i64 car) := cell_of_row W5 _ 0 _ _ _ HH5.out
    have e1 : W5.cell? ⟨p, 1, none⟩ = some (.int .i64 n) := cell_of_row W5 _ 1 _ _ _ HH5.out
    have e2 : W5.cell? ⟨p, 2, none⟩ = some (.string R) := cell_of_row W5 _ 2 _ _ _ HH5.out
    have e3 : W5.cell? ⟨p, 3, none⟩ = some (.string ⟨#[]⟩) := cell_of_row W5 _ 3 _ _ _ HH5.out
    go_wp2_with fail
    refine (HS.out W5 HB5.out).mono ?_
    rintro e w6 ⟨rfl, hb6⟩
    clear e0 e1 e2 e3
    have HB6 := Lib.hid (HB5.out.trans (hb6.mono HB5.out.size))
    have HH6 := Lib.hid ((hb6.block p (Array.getElem?_eq_some_iff.1 HH5.out).1).trans HH5.out)
    have HZ6 := Lib.hid ((hb6.block (w.heap.size + 1) (Array.getElem?_eq_some_iff.1 HZ5.out).1).trans HZ5.out)
    clear hb6
    have e0 : w6.cell? ⟨p, 0, none⟩ = some (.int .i64 car) := cell_of_row w6 _ 0 _ _ _ HH6.out
    have e1 : w6.cell? ⟨p, 1, none⟩ = some (.int .i64 n) := cell_of_row w6 _ 1 _ _ _ HH6.out
    have e2 : w6.cell? ⟨p, 2, none⟩ = some (.string R) := cell_of_row w6 _ 2 _ _ _ HH6.out
    have e3 : w6.cell? ⟨p, 3, none⟩ = some (.string ⟨#[]⟩) := cell_of_row w6 _ 3 _ _ _ HH6.out
    have ef : w6.frozen? ⟨p, 3, none⟩ = false := by simp [World.frozen?, HH6.out]
    have y0 : w6.cell? ⟨w.heap.size + 1, 0, none⟩ = some (.int .i64 0) := cell_of_row w6 _ 0 _ _ _ HZ6.out
    have y1 : w6.cell? ⟨w.heap.size + 1, 1, none⟩ = some (.int .i64 0) := cell_of_row w6 _ 1 _ _ _ HZ6.out
    have y2 : w6.cell? ⟨w.heap.size + 1, 2, none⟩ = some (.string ⟨#[]⟩) := cell_of_row w6 _ 2 _ _ _ HZ6.out
    have y3 : w6.cell? ⟨w.heap.size + 1, 3, none⟩ = some (.string ⟨#[]⟩) := cell_of_row w6 _ 3 _ _ _ HZ6.out
    have yf : ∀ j, w6.frozen? ⟨w.heap.size + 1, j, none⟩ = false := fun j => by simp [World.frozen?, HZ6.out]
    have hp' : ¬ w.heap.size + 1 = p := fun e => hp e.symm
    go_wp2_with fail
    have HR6 := Lib.hid (heap_setCell_same (i := 3) (.string Z) (heap_setCell_same (i := 2) (.string R) (heap_setCell_same (i := 1) (.int .i64 n) (heap_setCell_same (i := 0) (.int .i64 car) ((Below.heap_setCell w6 ⟨p, 3, none⟩ (.string Z) (w.heap.size + 1) hp').trans HZ6.out)))))
    refine bodyPost_ret (results_cellA_tmp rfl _ (w.heap.size + 1) 35 #[.int .i64 car, .int .i64 n, .string R, .string Z] (0, 0) _ rfl HR6.out Tryz.underlying35 rfl infoHead) rfl ⟨?_, ?_⟩
    · rw [HHd.out]; rfl
    · exact ((((HB6.out.setCell (p := ⟨p, 3, none⟩) hp0 _).setCell (p := ⟨w.heap.size + 1, 0, none⟩) (Nat.le_succ _) _).setCell (p := ⟨w.heap.size + 1, 1, none⟩) (Nat.le_succ _) _).setCell (p := ⟨w.heap.size + 1, 2, none⟩) (Nat.le_succ _) _).setCell (p := ⟨w.heap.size + 1, 3, none⟩) (Nat.le_succ _) _
end Go.Proofs.YtinfpbkbnhcifaaGreatDoor
