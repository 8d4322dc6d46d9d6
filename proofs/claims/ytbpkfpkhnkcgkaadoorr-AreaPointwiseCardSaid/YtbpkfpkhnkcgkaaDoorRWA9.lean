/- The walks of area, open, Valid: what is an area. The conditions: what the slice reads as, the table of bits.TrailingZeros64. -/
import Derived.Test.YtbpkfpkhnkcgkaaDoorRWA8
import Derived.Test.YtbpkfpkhnkcgkaaDoorRWA2
namespace Go.Proofs.YtbpkfpkhnkcgkaaDoorR
open Go.RowKit Go.BigFrame

/-- What a call may lean on: the table of bits.TrailingZeros64 lies in its variable. -/
def Env (w : World) : Prop := Tab w ∧ 0 < w.heap.size
theorem Env.below {B : Nat} {w w' : World} (h : Env w) (hb : Below B w w') (hB : w.heap.size ≤ B) : Env w' := ⟨h.1.below hb (Nat.lt_of_lt_of_le h.2 hB), Nat.lt_of_lt_of_le h.2 hb.size⟩
theorem Env.drewN {w : World} (h : Env w) (n : Nat) : Env (w.drewN n) := h

/-- The area of a set, and whether it has one. -/
def gareaS (g : Nat → Nat) : List R4 × Int := if (rectsS (bitsOf g)).length ≤ 100 then (rectsS (bitsOf g), 0) else ([], 290)

set_option maxHeartbeats 1000000 in
theorem garea_any (b : Nat) (g : Nat → Nat) (w : World) (hb : w.heap[b]? = some (.cells (gcells g) 62 (0, 0))) (hg : Words g) (he : Env w) :
    Calls Tryd.prog 36 #[.pointer (some ⟨b, 0, none⟩)] w fun e w' => ∃ v, e = .returned (.tuple #[v, .int .i64 (gareaS g).2]) ∧ RS w' v (gareaS g).1 ∧ Below w.heap.size w w' := by
  have HB := Lib.hid hb
  have HE := Lib.hid he
  have HG := Lib.hid hg
  clear hb he hg
  obtain ⟨n, hn⟩ : ∃ n, n = (rectsS (bitsOf g)).length := ⟨_, rfl⟩
  have HN := Lib.hid hn
  clear hn
  by_cases c : n ≤ 100
  · have hS : Hid (gareaS g = (rectsS (bitsOf g), 0)) := Lib.hid (by unfold gareaS; rw [if_pos (by rw [← HN.out]; exact c)])
    go_enter Tryd.func36, Tryd.ntmps36
    go_wp2_with (go_at_call 46; refine (grects_any b g w HB.out HG.out HE.out.1 HE.out.2).mono ?_; rintro e w1 ⟨v, rfl, hv, hb1⟩; obtain ⟨sa, sc, hsl, sl1, sl2, sl3⟩ := hv.opened; rw [← HN.out] at hsl sl1; subst hsl; have HV := Lib.hid hv; clear sl3 hv; unfold maxLen at sl2)
    refine bodyPost_ret (results_tmp2 rfl _ _ _) rfl ?_
    rw [hS.out]
    exact ⟨_, rfl, HV.out, hb1⟩
  · have hS : Hid (gareaS g = ([], 290)) := Lib.hid (by unfold gareaS; rw [if_neg (by rw [← HN.out]; exact c)])
    go_enter Tryd.func36, Tryd.ntmps36
    go_wp2_with (go_at_call 46; refine (grects_any b g w HB.out HG.out HE.out.1 HE.out.2).mono ?_; rintro e w1 ⟨v, rfl, hv, hb1⟩; obtain ⟨sa, sc, hsl, sl1, sl2, sl3⟩ := hv.opened; rw [← HN.out] at hsl sl1; subst hsl; have HV := Lib.hid hv; clear sl3 hv; unfold maxLen at sl2)
    refine bodyPost_ret (results_tmp2 rfl _ _ _) rfl ?_
    rw [hS.out]
    exact ⟨_, rfl, RS.nil _, hb1⟩

/-- The places of an area; nothing if it is none. -/
def openS (xs : List R4) : (Nat → Nat) × Bool := if xs.length ≤ 100 ∧ (setS xs).2 = true ∧ rectsS (bitsOf (setS xs).1) = xs then ((setS xs).1, true) else (zeroG, false)
theorem openS_words (xs : List R4) : Words (openS xs).1 := by
  unfold openS
  split
  · exact setS_words xs
  · exact zeroG_words

set_option maxHeartbeats 2000000 in
set_option maxRecDepth 100000 in
theorem open_any {w : World} {v : Value} {xs : List R4} (hr : RS w v xs) (he : Env w) :
    Calls Tryd.prog 37 #[v] w fun e w' => e = .returned (.tuple #[.agg (gcells (openS xs).1), .bool (openS xs).2]) ∧ Below w.heap.size w w' := by
  obtain ⟨a, cap, rfl, l1, l2, l3⟩ := hr.opened
  have HR := Lib.hid hr
  have HE := Lib.hid he
  clear l3 hr he
  unfold maxLen at l2
  obtain ⟨n, hn⟩ : ∃ n, n = xs.length := ⟨_, rfl⟩
  rw [← hn] at l1 HR ⊢
  have HN := Lib.hid hn
  clear hn
  by_cases c : n ≤ 100
  · obtain ⟨w1, hw1⟩ : ∃ w1, w1 = w.alloc (.cells (gcells zeroG) 62) := ⟨_, rfl⟩
    have hB1 : Below w.heap.size w w1 := by rw [hw1]; exact (Below.refl _ _).alloc (Nat.le_refl _) _
    have hs1 : w1.heap.size = w.heap.size + 1 := by rw [hw1]; simp
    have hr1 : w1.heap[w.heap.size]? = some (.cells (gcells zeroG) 62 (0, 0)) := by rw [hw1]; exact heap_alloc_new _ _
    have hR1 : RS w1 (.slice a n cap) xs := HR.out.below hB1
    obtain ⟨G, hG⟩ : ∃ G, G = (setS xs).1 := ⟨_, rfl⟩
    have hGw : Words G := by rw [hG]; exact setS_words xs
    have HGE := Lib.hid hG
    have HW1 := Lib.hid hw1
    have HR1 := Lib.hid hR1
    have HP1 := Lib.hid hr1
    have HGW := Lib.hid hGw
    clear hG hw1 hR1 hr1 hGw
    have fin : ∀ (w5 : World) (R : Nat → Nat) (f : Bool), Below (w.heap.size + 1) w1 w5 → Below w.heap.size w (w5.setRow w.heap.size (gcells R)) ∧ (w5.setRow w.heap.size (gcells R)).heap[w.heap.size]? = some (.cells (gcells R) 62 (0, 0)) ∧ w5.heap[w.heap.size]? = some (.cells (gcells zeroG) 62 (0, 0)) := fun w5 R f hB => by
      have h5 : w5.heap[w.heap.size]? = some (.cells (gcells zeroG) 62 (0, 0)) := (hB.block _ (by omega)).trans HP1.out
      exact ⟨hB1.trans ((hB.mono (by omega)).trans ⟨rfl, rfl, rfl, by simp, fun j hj => setRow_other _ _ _ _ (by omega)⟩), setRow_heap _ _ _ _ _ _ h5, h5⟩
    have FIN := Lib.hid fin
    clear fin
    have HRX : ∀ {w5 : World}, Below (w.heap.size + 1) w1 w5 → RS w5 (.slice a n cap) xs := fun hB => HR1.out.below (by rw [hs1]; exact hB)
    have HE3 : ∀ {w5 : World}, Below (w.heap.size + 1) w1 w5 → Env w5 := fun hB => (HE.out.below hB1 (Nat.le_refl _)).below hB (by omega)
    by_cases ok : (setS xs).2 = true
    · have OK := Lib.hid ok
      clear ok
      by_cases eq : rectsS (bitsOf G) = xs
      · have hS : Hid (openS xs = (G, true)) := Lib.hid (by unfold openS; rw [if_pos ⟨by rw [← HN.out]; exact c, OK.out, by rw [← HGE.out]; exact eq⟩, ← HGE.out])
        have DE : Hid (decide (rectsS (bitsOf G) = xs) = true) := Lib.hid (by simpa using eq)
        clear eq
        go_enter Tryd.func37, Tryd.ntmps37
        go_wp2_with (first | (refine wpList_declA 62 (gcells zeroG) (gcells G) 4 (.tmp 13) zeroGrid rfl rfl rfl rfl rfl rfl rfl (gridSize _) (by simp only [gcells_size]) (gcells_one _) ?_) | (refine wpList_allocA 62 (gcells zeroG) zeroGrid rfl rfl ?_; rw [← HW1.out]) | (go_at_call 40; refine (set_any HR1.out).mono ?_; rintro e w2 ⟨rfl, hb2⟩; rw [OK.out, ← HGE.out]; rw [hs1] at hb2; have hs2 := hb2.size; have hb3 := Lib.hid (hb2.alloc (by omega) (.cells (gcells G) 62)); clear hb2) | (go_at_call 46; refine (grects_any w2.heap.size G _ (heap_alloc_new _ _) HGW.out (HE3 hb3.out).1 (HE3 hb3.out).2).mono ?_; rintro e w4 ⟨rv, rfl, hrv, hb4⟩; have hs4 := hb4.size; have hb5 := Lib.hid (Below.trans hb3.out (hb4.mono (by simp; omega))); have HRV := Lib.hid hrv; have hld := Lib.hid ((hb4.block w2.heap.size (by simp)).trans (heap_alloc_new w2 _)); clear hrv hb4) | (go_at_call 47; refine (equal_any HRV.out (HRX hb5.out)).mono ?_; rintro e w5 ⟨rfl, ⟨nd, rfl⟩⟩; rw [DE.out]; have hb6 := Lib.hid (below_drewN hb5.out nd)) | (refine wpList_loadA 62 _ w2.heap.size 62 (gcells G) (0, 0) _ rfl rfl rfl hld.out gridDesc rfl (gridSize _) ?_) | (refine wpList_store_row rfl 62 _ _ rfl w.heap.size (gcells G) rfl rfl 62 (gcells zeroG) (FIN.out _ zeroG false hb6.out).2.2 (gridSize _) (by simp only [gcells_size]) (gcells_one _) ?_))
        refine bodyPost_ret (results_cellA_tmp rfl _ w.heap.size 62 (gcells G) (0, 0) _ rfl (FIN.out _ G false hb6.out).2.1 gridDesc rfl (gridSize _)) rfl ⟨by rw [hS.out]; rfl, (FIN.out _ G false hb6.out).1⟩
      · have hS : Hid (openS xs = (zeroG, false)) := Lib.hid (by unfold openS; rw [if_neg (fun h => eq (by rw [HGE.out]; exact h.2.2))])
        have DE : Hid (decide (rectsS (bitsOf G) = xs) = false) := Lib.hid (by simpa using eq)
        clear eq
        go_enter Tryd.func37, Tryd.ntmps37
        go_wp2_with (first | (refine wpList_declA 62 (gcells zeroG) (gcells G) 4 (.tmp 13) zeroGrid rfl rfl rfl rfl rfl rfl rfl (gridSize _) (by simp only [gcells_size]) (gcells_one _) ?_) | (refine wpList_allocA 62 (gcells zeroG) zeroGrid rfl rfl ?_; rw [← HW1.out]) | (go_at_call 40; refine (set_any HR1.out).mono ?_; rintro e w2 ⟨rfl, hb2⟩; rw [OK.out, ← HGE.out]; rw [hs1] at hb2; have hs2 := hb2.size; have hb3 := Lib.hid (hb2.alloc (by omega) (.cells (gcells G) 62)); clear hb2) | (go_at_call 46; refine (grects_any w2.heap.size G _ (heap_alloc_new _ _) HGW.out (HE3 hb3.out).1 (HE3 hb3.out).2).mono ?_; rintro e w4 ⟨rv, rfl, hrv, hb4⟩; have hs4 := hb4.size; have hb5 := Lib.hid (Below.trans hb3.out (hb4.mono (by simp; omega))); have HRV := Lib.hid hrv; have hld := Lib.hid ((hb4.block w2.heap.size (by simp)).trans (heap_alloc_new w2 _)); clear hrv hb4) | (go_at_call 47; refine (equal_any HRV.out (HRX hb5.out)).mono ?_; rintro e w5 ⟨rfl, ⟨nd, rfl⟩⟩; rw [DE.out]; have hb6 := Lib.hid (below_drewN hb5.out nd)) | (refine wpList_buildA 62 (gcells zeroG) rfl rfl buildGrid ?_) | (refine wpList_store_row rfl 62 _ _ rfl w.heap.size (gcells zeroG) rfl rfl 62 (gcells zeroG) (FIN.out _ zeroG false hb6.out).2.2 (gridSize _) (by simp only [gcells_size]) (gcells_one _) ?_))
        refine bodyPost_ret (results_cellA_tmp rfl _ w.heap.size 62 (gcells zeroG) (0, 0) _ rfl (FIN.out _ zeroG false hb6.out).2.1 gridDesc rfl (gridSize _)) rfl ⟨by rw [hS.out]; rfl, (FIN.out _ zeroG false hb6.out).1⟩
    · have hS : Hid (openS xs = (zeroG, false)) := Lib.hid (by unfold openS; rw [if_neg (fun h => ok h.2.1)])
      have OK : Hid ((setS xs).2 = false) := Lib.hid (by simpa using ok)
      clear ok
      go_enter Tryd.func37, Tryd.ntmps37
      go_wp2_with (first | (refine wpList_declA 62 (gcells zeroG) (gcells G) 4 (.tmp 13) zeroGrid rfl rfl rfl rfl rfl rfl rfl (gridSize _) (by simp only [gcells_size]) (gcells_one _) ?_) | (refine wpList_allocA 62 (gcells zeroG) zeroGrid rfl rfl ?_; rw [← HW1.out]) | (go_at_call 40; refine (set_any HR1.out).mono ?_; rintro e w2 ⟨rfl, hb2⟩; rw [OK.out, ← HGE.out]; rw [hs1] at hb2; have hs2 := hb2.size; have hb3 := Lib.hid (hb2.alloc (by omega) (.cells (gcells G) 62)); clear hb2) | (refine wpList_buildA 62 (gcells zeroG) rfl rfl buildGrid ?_) | (refine wpList_store_row rfl 62 _ _ rfl w.heap.size (gcells zeroG) rfl rfl 62 (gcells zeroG) (FIN.out _ zeroG false hb3.out).2.2 (gridSize _) rfl (gcells_one _) ?_))
      refine bodyPost_ret (results_cellA_tmp rfl _ w.heap.size 62 (gcells zeroG) (0, 0) _ rfl (FIN.out _ zeroG false hb3.out).2.1 gridDesc rfl (gridSize _)) rfl ⟨by rw [hS.out]; rfl, (FIN.out _ zeroG false hb3.out).1⟩
  · have hS : Hid (openS xs = (zeroG, false)) := Lib.hid (by unfold openS; rw [if_neg (fun h => c (by rw [HN.out]; exact h.1))])
    go_enter Tryd.func37, Tryd.ntmps37
    go_wp2_with (first | (refine wpList_allocA 62 (gcells zeroG) zeroGrid rfl rfl ?_) | (refine wpList_buildA 62 (gcells zeroG) rfl rfl buildGrid ?_) | (refine wpList_store_row rfl 62 _ _ rfl w.heap.size (gcells zeroG) rfl rfl 62 (gcells zeroG) (heap_alloc_new _ _) (gridSize _) rfl (gcells_one _) ?_; rw [setRow_alloc]))
    refine bodyPost_ret (results_cellA_tmp rfl _ w.heap.size 62 (gcells zeroG) (0, 0) _ rfl (heap_alloc_new _ _) gridDesc rfl (gridSize _)) rfl ⟨by rw [hS.out]; rfl, ?_⟩
    exact (Below.refl _ _).alloc (Nat.le_refl _) _
end Go.Proofs.YtbpkfpkhnkcgkaaDoorR
