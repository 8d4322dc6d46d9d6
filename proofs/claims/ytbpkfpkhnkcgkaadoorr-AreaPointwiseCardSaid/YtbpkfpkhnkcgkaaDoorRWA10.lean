/- The walks of Valid, Of and Has. The conditions: what the slice reads as, the table of bits.TrailingZeros64. -/
import Derived.Test.YtbpkfpkhnkcgkaaDoorRWA9
import Derived.Test.YtbpkfpkhnkcgkaaDoorRWA3
namespace Go.Proofs.YtbpkfpkhnkcgkaaDoorR
open Go.RowKit Go.BigFrame

set_option maxHeartbeats 1000000 in
set_option maxRecDepth 100000 in
theorem valid_any {w : World} {v : Value} {xs : List R4} (hr : RS w v xs) (he : Env w) :
    Calls Tryd.prog 16 #[v] w fun e w' => e = .returned (.bool (openS xs).2) ∧ Below w.heap.size w w' := by
  have HR := Lib.hid hr
  have HE := Lib.hid he
  clear hr he
  obtain ⟨G, hG⟩ : ∃ G, G = (openS xs).1 := ⟨_, rfl⟩
  obtain ⟨ok, hok⟩ : ∃ ok, ok = (openS xs).2 := ⟨_, rfl⟩
  rw [← hok]
  have HG := Lib.hid hG
  have HO := Lib.hid hok
  clear hG hok
  go_enter Tryd.func16, Tryd.ntmps16
  go_wp2_with (first | (refine wpList_declA 62 (gcells zeroG) (gcells G) 3 (.tmp 8) zeroGrid rfl rfl rfl rfl rfl rfl rfl (gridSize _) (by simp only [gcells_size]) (gcells_one _) ?_) | (go_at_call 37; refine (open_any HR.out HE.out).mono ?_; rintro e w2 ⟨rfl, hb2⟩; rw [← HO.out, ← HG.out]; have hb3 := Lib.hid (hb2.alloc hb2.size (.cells (gcells G) 62)); clear hb2))
  go_ret
  exact ⟨rfl, hb3.out⟩

theorem RS.cut {w : World} {a : Option Addr} {n cap : Nat} {xs : List R4} (h : RS w (.slice a n cap) xs) (k : Nat) (hk : k ≤ n) : RS w (.slice a k cap) (xs.take k) := by
  unfold RS
  rw [List.map_take]
  exact SliceAt.cut h k hk

/-- The area of rectangles. -/
def ofS (xs : List R4) : List R4 × Int := if xs.length ≤ 400 ∧ (setS xs).2 = true then gareaS (setS xs).1 else ([], 290)

set_option maxHeartbeats 2000000 in
set_option maxRecDepth 100000 in
theorem of_any {w : World} {v : Value} {xs : List R4} (hr : RS w v xs) (he : Env w) :
    Calls Tryd.prog 21 #[v] w fun e w' => ∃ r, e = .returned (.tuple #[r, .int .i64 (ofS xs).2]) ∧ RS w' r (ofS xs).1 ∧ Below w.heap.size w w' := by
  obtain ⟨a, cap, rfl, l1, l2, l3⟩ := hr.opened
  have HR := Lib.hid hr
  have HE := Lib.hid he
  clear l3 hr he
  unfold maxLen at l2
  obtain ⟨n, hn⟩ : ∃ n, n = xs.length := ⟨_, rfl⟩
  rw [← hn] at l1 HR ⊢
  have HN := Lib.hid hn
  clear hn
  by_cases c : n ≤ 400
  · have hmin : min (n : Int) 400 = n := by omega
    by_cases ok : (setS xs).2 = true
    · have OK := Lib.hid ok
      clear ok
      obtain ⟨G, hG⟩ : ∃ G, G = (setS xs).1 := ⟨_, rfl⟩
      have hS : Hid (ofS xs = gareaS G) := Lib.hid (by unfold ofS; rw [if_pos ⟨by rw [← HN.out]; exact c, OK.out⟩, ← hG])
      have HG := Lib.hid hG
      have HW : Hid (Words G) := Lib.hid (by rw [hG]; exact setS_words xs)
      clear hG
      go_enter Tryd.func21, Tryd.ntmps21
      go_wp2_with (first | (refine wpList_declA 62 (gcells zeroG) (gcells G) 4 (.tmp 13) zeroGrid rfl rfl rfl rfl rfl rfl rfl (gridSize _) (by simp only [gcells_size]) (gcells_one _) ?_) | (go_at_call 40; refine (set_any HR.out).mono ?_; rintro e w2 ⟨rfl, hb2⟩; rw [OK.out, ← HG.out]; have hb3 := Lib.hid (hb2.alloc hb2.size (.cells (gcells G) 62)); clear hb2) | (go_at_call 36; refine (garea_any w2.heap.size G _ (heap_alloc_new _ _) HW.out (HE.out.below hb3.out (Nat.le_refl _))).mono ?_; rintro e w4 ⟨r, rfl, hr4, hb4⟩; have HR4 := Lib.hid hr4; have hb5 := Lib.hid (Below.trans hb3.out (hb4.mono hb3.out.size)); clear hr4 hb4))
      refine bodyPost_ret (results_tmp2 rfl _ _ _) rfl ?_
      rw [hS.out]
      exact ⟨_, rfl, HR4.out, hb5.out⟩
    · have hS : Hid (ofS xs = ([], 290)) := Lib.hid (by unfold ofS; rw [if_neg (fun h => ok h.2)])
      have OK : Hid ((setS xs).2 = false) := Lib.hid (by simpa using ok)
      clear ok
      obtain ⟨G, hG⟩ : ∃ G, G = (setS xs).1 := ⟨_, rfl⟩
      have HG := Lib.hid hG
      clear hG
      go_enter Tryd.func21, Tryd.ntmps21
      go_wp2_with (first | (refine wpList_declA 62 (gcells zeroG) (gcells G) 4 (.tmp 13) zeroGrid rfl rfl rfl rfl rfl rfl rfl (gridSize _) (by simp only [gcells_size]) (gcells_one _) ?_) | (go_at_call 40; refine (set_any HR.out).mono ?_; rintro e w2 ⟨rfl, hb2⟩; rw [OK.out, ← HG.out]; have hb3 := Lib.hid (hb2.alloc hb2.size (.cells (gcells G) 62)); clear hb2))
      refine bodyPost_ret (results_tmp2 rfl _ _ _) rfl ?_
      rw [hS.out]
      exact ⟨_, rfl, RS.nil _, hb3.out⟩
  · have hmin : min (n : Int) 400 = 400 := by omega
    have hS : Hid (ofS xs = ([], 290)) := Lib.hid (by unfold ofS; rw [if_neg (fun h => c (by rw [HN.out]; exact h.1))])
    have HC : Hid (RS w (.slice a 400 cap) (xs.take 400)) := Lib.hid (HR.out.cut 400 (by omega))
    obtain ⟨G, hG⟩ : ∃ G, G = (setS (xs.take 400)).1 := ⟨_, rfl⟩
    obtain ⟨ok, hok⟩ : ∃ ok, ok = (setS (xs.take 400)).2 := ⟨_, rfl⟩
    have HG := Lib.hid hG
    have HO := Lib.hid hok
    clear hG hok
    cases ok
    · go_enter Tryd.func21, Tryd.ntmps21
      go_wp2_with (first | (refine wpList_declA 62 (gcells zeroG) (gcells G) 4 (.tmp 13) zeroGrid rfl rfl rfl rfl rfl rfl rfl (gridSize _) (by simp only [gcells_size]) (gcells_one _) ?_) | (go_at_call 40; refine (set_any HC.out).mono ?_; rintro e w2 ⟨rfl, hb2⟩; rw [← HO.out, ← HG.out]; have hb3 := Lib.hid (hb2.alloc hb2.size (.cells (gcells G) 62)); clear hb2))
      refine bodyPost_ret (results_tmp2 rfl _ _ _) rfl ?_
      rw [hS.out]
      exact ⟨_, rfl, RS.nil _, hb3.out⟩
    · go_enter Tryd.func21, Tryd.ntmps21
      go_wp2_with (first | (refine wpList_declA 62 (gcells zeroG) (gcells G) 4 (.tmp 13) zeroGrid rfl rfl rfl rfl rfl rfl rfl (gridSize _) (by simp only [gcells_size]) (gcells_one _) ?_) | (go_at_call 40; refine (set_any HC.out).mono ?_; rintro e w2 ⟨rfl, hb2⟩; rw [← HO.out, ← HG.out]; have hb3 := Lib.hid (hb2.alloc hb2.size (.cells (gcells G) 62)); clear hb2))
      refine bodyPost_ret (results_tmp2 rfl _ _ _) rfl ?_
      rw [hS.out]
      exact ⟨_, rfl, RS.nil _, hb3.out⟩

/-- Whether an area has a place. -/
def hasA (xs : List R4) (x y : Int) : Bool := xs.any (inR x y) && (openS xs).2

set_option maxHeartbeats 2000000 in
theorem has_any {w : World} {v : Value} {xs : List R4} (x y : Int) (hr : RS w v xs) (he : Env w) :
    Calls Tryd.prog 17 #[v, .int .i64 x, .int .i64 y] w fun e w' => e = .returned (.bool (hasA xs x y)) ∧ Below w.heap.size w w' := by
  have hB1 : Below w.heap.size w ((w.alloc (.cells #[.int .i64 x] 3)).alloc (.cells #[.int .i64 y] 3)) := ((Below.refl _ _).alloc (Nat.le_refl _) _).alloc (by simp) _
  have HR1 := Lib.hid (hr.below hB1)
  have HE1 := Lib.hid (he.below hB1 (Nat.le_refl _))
  have HC1 := Lib.hid (cell_of_row _ _ 0 _ _ _ (heap_alloc2_old w (.cells #[.int .i64 x] 3) (.cells #[.int .i64 y] 3)))
  have HC2 := Lib.hid (cell_of_row _ _ 0 _ _ _ (heap_alloc2_new w (.cells #[.int .i64 x] 3) (.cells #[.int .i64 y] 3)))
  have HB1 := Lib.hid hB1
  clear hr he hB1
  by_cases c : xs.any (inR x y) = true
  · have HA := Lib.hid c
    clear c
    go_enter Tryd.func17, Tryd.ntmps17
    go_wp2_with (first | (go_at_call 39; refine (containsFunc_any x y w.heap.size (w.heap.size + 1) HR1.out HC1.out HC2.out (by simp; omega) (by simp)).mono ?_; rintro e w2 ⟨rfl, hb2⟩; rw [HA.out]; have hb3 := Lib.hid hb2; clear hb2) | (go_at_call 16; refine (valid_any (HR1.out.below hb3.out) (HE1.out.below hb3.out (Nat.le_refl _))).mono ?_; rintro e w4 ⟨rfl, hb4⟩; have hb5 := Lib.hid (Below.trans HB1.out ((Below.trans hb3.out (hb4.mono hb3.out.size)).mono HB1.out.size)); clear hb4))
    go_ret
    exact ⟨ret_bool (by unfold hasA; rw [HA.out]; rfl), hb5.out⟩
  · have HA : Hid (xs.any (inR x y) = false) := Lib.hid (by simpa using c)
    clear c
    go_enter Tryd.func17, Tryd.ntmps17
    go_wp2_with (go_at_call 39; refine (containsFunc_any x y w.heap.size (w.heap.size + 1) HR1.out HC1.out HC2.out (by simp; omega) (by simp)).mono ?_; rintro e w2 ⟨rfl, hb2⟩; rw [HA.out]; have hb3 := Lib.hid hb2; clear hb2)
    go_ret
    exact ⟨ret_bool (by unfold hasA; rw [HA.out]; rfl), HB1.out.trans (hb3.out.mono HB1.out.size)⟩
end Go.Proofs.YtbpkfpkhnkcgkaaDoorR
