/- The walk of digest.Extension. The conditions: what the slice reads as, lengths, the table of constants. -/
import Derived.Test.YtinfpbkbnhcifaaGreatDoorQDG14
import Derived.Test.YtinfpbkbnhcifaaGreatDoorQDG15
namespace Go.Proofs.YtinfpbkbnhcifaaGreatDoor
open Go.RowKit Go.BigFrame Go.Shelf

attribute [local go_sem] Oper.semAt_some

/-- The proof that a list begins with m entries. -/
def extB (l : List ByteArray) (m : Nat) (wh : Bool) : List ByteArray := extD leafS nodeS (sumS ⟨#[]⟩) l m wh
theorem extB_end (l : List ByteArray) (m : Nat) (wh : Bool) (h : l.length ≤ m) : extB l m wh = if wh then [] else [rootB l] := by
  unfold extB; rw [extD, dif_pos (.inl h)]; rfl
theorem extB_left (l : List ByteArray) (m : Nat) (wh : Bool) (h : m < l.length) (h1 : 1 ≤ m) (hi : m ≤ leftN l.length) : extB l m wh = rootB (l.drop (leftN l.length)) :: extB (l.take (leftN l.length)) m wh := by
  unfold extB; rw [extD, dif_neg (by omega), if_pos hi]; rfl
theorem extB_right (l : List ByteArray) (m : Nat) (wh : Bool) (h : m < l.length) (h1 : 1 ≤ m) (hi : leftN l.length < m) : extB l m wh = rootB (l.take (leftN l.length)) :: extB (l.drop (leftN l.length)) (m - leftN l.length) false := by
  unfold extB; rw [extD, dif_neg (by omega), if_neg (by omega)]; rfl

set_option maxHeartbeats 4000000 in
set_option maxRecDepth 100000 in
theorem ext_zero {w : World} {v : Value} {xs : List ByteArray} (hr : SS w v xs) :
    Calls Tryz.prog 76 #[v, .int .i64 0] w fun e w' => e = .returned (.tuple #[.slice none 0 0, .int .i64 0]) ∧ w' = w := by
  obtain ⟨a, cap, rfl, l1, l2, l3⟩ := hr.opened
  clear l3 hr
  generalize xs.length = n at *
  have hd : ¬ ((n : Int) < 0) := by omega
  go_enter Tryz.func76, Tryz.ntmps76
  go_wp2
  exact bodyPost_ret (results_tmp2 rfl _ _ _) rfl ⟨rfl, rfl⟩

set_option maxHeartbeats 4000000 in
set_option maxRecDepth 100000 in
theorem ext_any {w : World} {v : Value} {xs : List ByteArray} (M : Nat) (hr : SS w v xs) (hl : xs.length ≤ 1000) (hx : ∀ x ∈ xs, x.size ≤ 100000) (he : Env w) (hg : 0 < w.heap.size) (hM1 : 1 ≤ M) (hM : M ≤ xs.length) :
    Calls Tryz.prog 76 #[v, .int .i64 M] w fun e w' => ∃ v', e = .returned (.tuple #[v', .int .i64 0]) ∧ SS w' v' (extB xs M true).reverse ∧ Below w.heap.size w w' := by
  obtain ⟨a, cap, rfl, l1, l2, l3⟩ := hr.opened
  obtain ⟨b, off, rfl, hb, c1⟩ := l3 0 _ (List.getElem?_eq_getElem (by omega))
  have HR := Lib.hid hr
  have HX := Lib.hid hx
  have HE := Lib.hid he
  have HG := Lib.hid hg
  clear l3 hr hx he hg c1
  unfold maxLen at l2
  obtain ⟨D, hD⟩ : ∃ D, D = extB xs M true := ⟨_, rfl⟩
  rw [← hD]
  have HD1 : Hid (∃ n, n = xs.length ∧ M ≤ n ∧ n ≤ cap ∧ n ≤ 1000) := Lib.hid ⟨_, rfl, hM, l1, hl⟩
  have HD0 : Hid ([] ++ extB xs M true = D) := Lib.hid hD.symm
  clear hD hM l1 hl
  obtain ⟨n, hn, hM, l1, hl⟩ := HD1.out
  have HN := Lib.hid hn
  rw [← hn] at HR ⊢
  clear HD1 hn
  have hd0 : ¬ ((M : Int) < 0) := by omega
  have hd1 : ¬ ((n : Int) < (M : Int)) := by omega
  have hd2 : ((M : Int) == 0) = false := by simp; omega
  go_enter Tryz.func76, Tryz.ntmps76
  go_wp2
  go_loopw [0, 1, 6, 7] (fun vl vi vo vh wr => ∃ (ys ds : List ByteArray) (j m b off cap : Nat) (wh : Bool), vl = .slice (some ⟨b, off, none⟩) m cap ∧ vi = .int .i64 j ∧ vh = .bool wh ∧ 1 ≤ j ∧ j ≤ m ∧ m ≤ 1000 ∧ Hid (ds ++ extB ys j wh = D ∧ ys.length = m ∧ ds.length + m ≤ 1000 ∧ ∀ y ∈ ys, y ∈ xs) ∧ Hid (SS w (.slice (some ⟨b, off, none⟩) m cap) ys) ∧ Hid (OwnS wr w.heap.size vo ds ∧ Below w.heap.size w wr)) (fun vl _ _ _ wr => lenOf vl)
  case atStart => exact ⟨xs, [], M, n, b, off, cap, true, rfl, rfl, rfl, hM1, hM, hl, Lib.hid ⟨HD0.out, HN.out.symm, by simpa using hl, fun y h => h⟩, HR, Lib.hid ⟨OwnE.nil _ _ _ _, Below.refl _ _⟩⟩
  case round =>
    obtain ⟨ys, ds, j, m, b, off, cap, wh, rfl, rfl, rfl, hj1, hj, hm, HI, HS, HO⟩ := hrel
    obtain ⟨hy, hc, hcm⟩ := HS.out.len
    unfold maxLen at hcm
    clear hy
    have hyx : Hid (∀ y ∈ ys, y.size ≤ 100000) := Lib.hid (fun y hy => HX.out y (HI.out.2.2.2 y hy))
    by_cases h1 : j = m
    · subst h1
      have HE1 : Hid (D = ds ++ if wh then [] else [rootB ys]) := Lib.hid (by rw [← HI.out.1, extB_end _ _ _ (by rw [HI.out.2.1]; exact Nat.le_refl _)])
      cases wh
      · have HRt : Hid (Calls Tryz.prog 74 #[.slice (some ⟨b, off, none⟩) j cap] wr fun e w' => e = .returned (.string (rootB ys)) ∧ Below wr.heap.size wr w') := Lib.hid
          (root_any (HS.out.below HO.out.2) (by rw [HI.out.2.1]; exact hm) (fun y hy => hyx.out y hy) (HE.out.below HO.out.2 HG.out) (Nat.lt_of_lt_of_le HG.out HO.out.2.size))
        have HE2 : Hid (D = ds ++ [rootB ys]) := Lib.hid HE1.out
        go_wp2_with (first | (go_at_call 74; refine HRt.out.mono ?_; rintro e w2 ⟨rfl, hb2⟩; have HO2 : Hid (OwnS w2 w.heap.size _ ds ∧ Below w.heap.size w w2) := Lib.hid ⟨OwnE.far HO.out.1 hb2 (Nat.le_refl _), HO.out.2.trans (hb2.mono HO.out.2.size)⟩; clear hb2) | (at_builtin; refine wpList_append_str (.tmp 52) (.tmp 55) w.heap.size _ ds w2.heap.size (rootB ys) (0, 0) (HO2.out.1.alloc _) (by have := HI.out.2.2.1; omega) (Nat.le_trans HO2.out.2.size (by simp)) (heap_alloc_new _ _) rfl rfl rfl rfl ?_; intro v3 w3 ho3 hg3; have HO3 : Hid (OwnS w3 w.heap.size v3 (ds ++ [rootB ys]) ∧ Below w.heap.size w w3) := Lib.hid ⟨ho3, below_own (HO2.out.2.alloc HO2.out.2.size _) (HO2.out.1.alloc _) hg3 (Nat.le_refl _)⟩; clear ho3 hg3) | (go_at_call 86; refine (reverse_own HO3.out.1 (by have := HI.out.2.2.1; rw [List.length_append]; simp; omega)).mono ?_; rintro e w4 ⟨rfl, hs1, hg1, _⟩; have HS1 := Lib.hid hs1; have HG1 := Lib.hid hg1; clear hs1 hg1))
        refine bodyPost_ret (results_tmp2 rfl _ _ _) rfl ⟨_, rfl, ?_, ?_⟩
        · rw [HE2.out]; exact HS1.out
        · exact below_own HO3.out.2 HO3.out.1 HG1.out (Nat.le_refl _)
      · have HE2 : Hid (D = ds) := Lib.hid (by rw [HE1.out]; exact List.append_nil _)
        have HRV := Lib.hid (reverse_own HO.out.1 (by have := HI.out.2.2.1; omega))
        go_wp2_with (go_at_call 86; refine HRV.out.mono ?_; rintro e w1 ⟨rfl, hs1, hg1, _⟩; have HS1 := Lib.hid hs1; have HG1 := Lib.hid hg1; clear hs1 hg1)
        refine bodyPost_ret (results_tmp2 rfl _ _ _) rfl ⟨_, rfl, ?_, ?_⟩
        · rw [HE2.out]; exact HS1.out
        · exact below_own HO.out.2 HO.out.1 HG1.out (Nat.le_refl _)
    · have hlt : (j : Int) < (m : Int) := by omega
      have HL := Lib.hid (left_any m wr (by omega) (by omega))
      have hk1 := leftN_pos m
      have hk2 := leftN_lt (n := m) (by omega)
      obtain ⟨k, hk⟩ : ∃ k, k = leftN m := ⟨_, rfl⟩
      rw [← hk] at HL hk1 hk2
      have HK := Lib.hid hk
      clear hk
      have HST := Lib.hid (HS.out.cut k (by omega))
      have HSD := Lib.hid (HS.out.drop k (by omega))
      by_cases hjk : k < j
      · have HRt : Hid (∀ q, Calls Tryz.prog 74 #[.slice (some ⟨b, off, none⟩) k cap] (wr.drewN q) fun e w' => e = .returned (.string (rootB (ys.take k))) ∧ Below (wr.drewN q).heap.size (wr.drewN q) w') := Lib.hid (fun q =>
          root_any ((HST.out.below HO.out.2).drewN q) (by rw [List.length_take]; omega) (fun y hy => hyx.out y (List.mem_of_mem_take hy)) (HE.out.below (below_drewN HO.out.2 q) HG.out) (Nat.lt_of_lt_of_le HG.out HO.out.2.size))
        have f1 : IntKind.i64.wrap ((j : Int) - (k : Int)) = ((j - k : Nat) : Int) := by rw [IntWalk.i64_in _ (by omega)]; omega
        have hd : (k : Int) < (j : Int) := by omega
        have HN1 : Hid (ds ++ [rootB (ys.take k)] ++ extB (ys.drop k) (j - k) false = D ∧ (ys.drop k).length = m - k ∧ (ds ++ [rootB (ys.take k)]).length + (m - k) ≤ 1000 ∧ ∀ y ∈ ys.drop k, y ∈ xs) := Lib.hid (by
          obtain ⟨e1, e2, e3, e4⟩ := HI.out
          have e5 := extB_right ys j wh (by omega) hj1 (by rw [e2, ← HK.out]; exact hjk)
          rw [e2, ← HK.out] at e5
          refine ⟨?_, ?_, ?_, fun y hy => e4 y (List.mem_of_mem_drop hy)⟩
          · rw [← e1, e5]; simp
          · rw [List.length_drop, e2]
          · rw [List.length_append]; simp; omega)
        go_wp2_with (first | (go_at_call 85; refine HL.out.mono ?_; rintro e w1 ⟨rfl, rfl⟩) | (go_quiet (fail)) | (go_at_call 74; refine (HRt.out _).mono ?_; rintro e w2 ⟨rfl, hb2⟩; have HO2 : Hid (OwnS w2 w.heap.size _ ds ∧ Below w.heap.size w w2) := Lib.hid ⟨OwnE.far (OwnE.drewN HO.out.1 _) hb2 (Nat.le_refl _), (below_drewN HO.out.2 _).trans (hb2.mono HO.out.2.size)⟩; clear hb2) | (at_builtin; refine wpList_append_str (.tmp 44) (.tmp 47) w.heap.size _ ds w2.heap.size (rootB (ys.take k)) (0, 0) (HO2.out.1.alloc _) (by have := HI.out.2.2.1; omega) (Nat.le_trans HO2.out.2.size (by simp)) (heap_alloc_new _ _) rfl rfl rfl rfl ?_; intro v3 w3 ho3 hg3; have HO3 : Hid (OwnS w3 w.heap.size v3 (ds ++ [rootB (ys.take k)]) ∧ Below w.heap.size w w3) := Lib.hid ⟨ho3, below_own (HO2.out.2.alloc HO2.out.2.size _) (HO2.out.1.alloc _) hg3 (Nat.le_refl _)⟩; clear ho3 hg3))
        go_roundw
        case rel => exact ⟨ys.drop k, ds ++ [rootB (ys.take k)], j - k, m - k, b, off + k, cap - k, false, rfl, rfl, rfl, by omega, by omega, by omega, HN1, HSD, HO3⟩
        case measure => simp only [lenOf]; omega
      · have HRt : Hid (∀ q, Calls Tryz.prog 74 #[.slice (some ⟨b, off + k, none⟩) (m - k) (cap - k)] (wr.drewN q) fun e w' => e = .returned (.string (rootB (ys.drop k))) ∧ Below (wr.drewN q).heap.size (wr.drewN q) w') := Lib.hid (fun q =>
          root_any ((HSD.out.below HO.out.2).drewN q) (by rw [List.length_drop]; have := HI.out.2.1; omega) (fun y hy => hyx.out y (List.mem_of_mem_drop hy)) (HE.out.below (below_drewN HO.out.2 q) HG.out) (Nat.lt_of_lt_of_le HG.out HO.out.2.size))
        have hd : ¬ (k : Int) < (j : Int) := by omega
        have HN1 : Hid (ds ++ [rootB (ys.drop k)] ++ extB (ys.take k) j wh = D ∧ (ys.take k).length = k ∧ (ds ++ [rootB (ys.drop k)]).length + k ≤ 1000 ∧ ∀ y ∈ ys.take k, y ∈ xs) := Lib.hid (by
          obtain ⟨e1, e2, e3, e4⟩ := HI.out
          have e5 := extB_left ys j wh (by omega) hj1 (by rw [e2, ← HK.out]; omega)
          rw [e2, ← HK.out] at e5
          refine ⟨?_, ?_, ?_, fun y hy => e4 y (List.mem_of_mem_take hy)⟩
          · rw [← e1, e5]; simp
          · rw [List.length_take, e2]; omega
          · rw [List.length_append]; simp; omega)
        go_wp2_with (first | (go_at_call 85; refine HL.out.mono ?_; rintro e w1 ⟨rfl, rfl⟩) | (go_quiet (fail)) | (go_at_call 74; refine (HRt.out _).mono ?_; rintro e w2 ⟨rfl, hb2⟩; have HO2 : Hid (OwnS w2 w.heap.size _ ds ∧ Below w.heap.size w w2) := Lib.hid ⟨OwnE.far (OwnE.drewN HO.out.1 _) hb2 (Nat.le_refl _), (below_drewN HO.out.2 _).trans (hb2.mono HO.out.2.size)⟩; clear hb2) | (at_builtin; refine wpList_append_str (.tmp 44) (.tmp 47) w.heap.size _ ds w2.heap.size (rootB (ys.drop k)) (0, 0) (HO2.out.1.alloc _) (by have := HI.out.2.2.1; omega) (Nat.le_trans HO2.out.2.size (by simp)) (heap_alloc_new _ _) rfl rfl rfl rfl ?_; intro v3 w3 ho3 hg3; have HO3 : Hid (OwnS w3 w.heap.size v3 (ds ++ [rootB (ys.drop k)]) ∧ Below w.heap.size w w3) := Lib.hid ⟨ho3, below_own (HO2.out.2.alloc HO2.out.2.size _) (HO2.out.1.alloc _) hg3 (Nat.le_refl _)⟩; clear ho3 hg3))
        go_roundw
        case rel => exact ⟨ys.take k, ds ++ [rootB (ys.drop k)], j, k, b, off, cap, wh, rfl, rfl, rfl, by omega, by omega, by omega, HN1, HST, HO3⟩
        case measure => simp only [lenOf]; omega
end Go.Proofs.YtinfpbkbnhcifaaGreatDoor

/- digest.VerifyExtension: the plain side, and the walks of the short ways. -/
namespace Go.Proofs.YtinfpbkbnhcifaaGreatDoor
open Go.RowKit Go.BigFrame Go.Shelf

attribute [local go_sem] Oper.semAt_some

/-- Does a proof show growth. -/
def vexB (old : ByteArray) (m : Nat) (root : ByteArray) (n : Nat) (pr : List ByteArray) : Bool :=
  if m = 0 then decide (pr.length = 0) && decide (old = sumS ⟨#[]⟩) else decide (bothL nodeS old pr.reverse m n true = some (old, root))

/-- The steps of those that lie behind. -/
def firstsF (ws : List (ByteArray × Bool)) (v : ByteArray) : ByteArray := ws.foldr (fun x v => if x.2 then sideS x v else v) v
def WayE (old : ByteArray) (pr : List ByteArray) (m n : Nat) (ws : List (ByteArray × Bool)) (ps : List ByteArray) (m' n' : Nat) (wh : Bool) : Prop :=
  bothL nodeS old pr.reverse m n true = (bothL nodeS old ps.reverse m' n' wh).map fun v => (firstsF ws v.1, ws.foldr sideS v.2)
theorem WayE.start (old : ByteArray) (pr : List ByteArray) (m n : Nat) : WayE old pr m n [] pr m n true := by
  unfold WayE firstsF
  cases bothL nodeS old pr.reverse m n true <;> rfl
theorem WayE.step {old : ByteArray} {pr : List ByteArray} {m n : Nat} {ws : List (ByteArray × Bool)} {ps : List ByteArray} {x : ByteArray} {m' n' : Nat} {wh : Bool} (h : WayE old pr m n ws (ps ++ [x]) m' n' wh) (hn : m' < n') :
    (leftN n' < m' → WayE old pr m n (ws ++ [(x, true)]) ps (m' - leftN n') (n' - leftN n') false) ∧ (m' ≤ leftN n' → WayE old pr m n (ws ++ [(x, false)]) ps m' (leftN n') wh) := by
  unfold WayE at *
  rw [List.reverse_append, List.reverse_singleton, List.singleton_append, bothL, if_neg (by omega)] at h
  refine ⟨fun h1 => ?_, fun h1 => ?_⟩
  · rw [if_neg (by omega)] at h
    rw [h, Option.map_map]
    congr 1
    funext v
    simp [sideS, firstsF]
  · rw [if_pos h1] at h
    rw [h, Option.map_map]
    congr 1
    funext v
    simp [sideS, firstsF]
theorem vexB_pos {old : ByteArray} {m : Nat} {root : ByteArray} {n : Nat} {pr : List ByteArray} (hm : 1 ≤ m) : vexB old m root n pr = decide (bothL nodeS old pr.reverse m n true = some (old, root)) := by
  unfold vexB; rw [if_neg (by omega)]
theorem WayE.short {old : ByteArray} {pr : List ByteArray} {m n : Nat} {ws : List (ByteArray × Bool)} {m' n' : Nat} {wh : Bool} (h : WayE old pr m n ws [] m' n' wh) (hn : m' < n') (hm : 1 ≤ m) (root : ByteArray) : vexB old m root n pr = false := by
  unfold WayE at h
  rw [List.reverse_nil, bothL, if_neg (by omega)] at h
  rw [vexB_pos hm, h]
  simp
/-- At the foot. -/
theorem WayE.whole {old : ByteArray} {pr : List ByteArray} {m n : Nat} {ws : List (ByteArray × Bool)} {ps : List ByteArray} {m' n' : Nat} (h : WayE old pr m n ws ps m' n' true) (hn : n' ≤ m') (hm : 1 ≤ m) (root : ByteArray) :
    vexB old m root n pr = (decide (ps.length = 0) && (decide (firstsF ws old = old) && decide (ws.foldr sideS old = root))) := by
  unfold WayE at h
  rcases List.eq_nil_or_concat ps with rfl | ⟨ps', x, rfl⟩
  · rw [List.reverse_nil, bothL, if_pos ⟨hn, rfl⟩] at h
    rw [vexB_pos hm, h]
    simp
  · rw [List.concat_eq_append, List.reverse_append, List.reverse_singleton, List.singleton_append, bothL, if_pos hn, if_pos rfl] at h
    rw [vexB_pos hm, h]
    simp
theorem WayE.part {old : ByteArray} {pr : List ByteArray} {m n : Nat} {ws : List (ByteArray × Bool)} {ps : List ByteArray} {m' n' : Nat} (h : WayE old pr m n ws ps m' n' false) (hn : n' ≤ m') (hm : 1 ≤ m) (root : ByteArray) :
    (ps.length ≠ 1 → vexB old m root n pr = false) ∧ ∀ x, ps = [x] → vexB old m root n pr = (decide (firstsF ws x = old) && decide (ws.foldr sideS x = root)) := by
  unfold WayE at h
  refine ⟨fun h1 => ?_, fun x hx => ?_⟩
  · rcases List.eq_nil_or_concat ps with rfl | ⟨ps', x, rfl⟩
    · rw [List.reverse_nil, bothL, if_neg (by simp)] at h
      rw [vexB_pos hm, h]
      simp
    · rw [List.concat_eq_append] at h1 h
      rw [List.reverse_append, List.reverse_singleton, List.singleton_append, bothL, if_pos hn, if_neg (by simp), if_neg (by intro e; rw [List.reverse_eq_nil_iff] at e; subst e; exact h1 rfl)] at h
      rw [vexB_pos hm, h]
      simp
  · subst hx
    rw [List.reverse_singleton, bothL, if_pos hn, if_neg (by simp), if_pos rfl] at h
    rw [vexB_pos hm, h]
    simp
theorem vexB_same {old : ByteArray} {n : Nat} {root : ByteArray} {pr : List ByteArray} (hn : 1 ≤ n) : vexB old n root n pr = (decide (pr.length = 0) && decide (old = root)) := by
  rw [(WayE.start old pr n n).whole (Nat.le_refl _) hn root]
  show (_ && (decide (old = old) && _)) = _
  rw [decide_eq_true rfl, Bool.true_and]
  rfl
/-- What is reckoned from the foot up, in the first ones alone. -/
def upG (last : ByteArray) (xs : List DgX) : ByteArray := xs.foldl (fun out x => if x.1.2.2 then sideS x.1.2 out else out) last
theorem upG_snoc (last : ByteArray) (xs : List DgX) (x : DgX) : upG last (xs ++ [x]) = if x.1.2.2 then sideS x.1.2 (upG last xs) else upG last xs := by simp [upG]
theorem upG_size (last : ByteArray) (h : last.size = 32) (xs : List DgX) : (upG last xs).size = 32 := by
  induction xs generalizing last with
  | nil => exact h
  | cons x xs ih =>
    refine ih (if x.1.2.2 then sideS x.1.2 last else last) ?_
    split
    · exact sideS_size _ _
    · exact h
theorem upG_all (last : ByteArray) (xs : List DgX) (ws : List (ByteArray × Bool)) (h : xs.map (fun x => x.1.2) = ws.reverse) : upG last xs = firstsF ws last := by
  unfold firstsF
  rw [← List.foldl_reverse, ← h, List.foldl_map]
  rfl

set_option maxHeartbeats 4000000 in
set_option maxRecDepth 100000 in
theorem vex_no {w : World} {v : Value} {pr : List ByteArray} (old root : ByteArray) (m n : Nat) (hr : SS w v pr) (hi : n < m ∨ pr.all isDig = false) :
    Calls Tryz.prog 77 #[.string old, .int .i64 m, .string root, .int .i64 n, v] w fun e w' => e = .returned (.bool false) ∧ w' = w := by
  have HA := Lib.hid (allD_any hr)
  clear hr
  generalize pr.all isDig = al at *
  have h1 : ¬ ((m : Int) < 0) := by omega
  go_enter Tryz.func77, Tryz.ntmps77
  by_cases h2 : (n : Int) < (m : Int)
  · go_wp2
    exact bodyPost_ret (results_tmp rfl _ _ _) rfl ⟨rfl, rfl⟩
  · have h3 : al = false := by
      rcases hi with h | h
      · exact absurd (by omega) h2
      · exact h
    subst h3
    go_wp2_with (go_at_call 91; refine HA.out.mono ?_; rintro e w1 ⟨rfl, rfl⟩)
    exact bodyPost_ret (results_tmp rfl _ _ _) rfl ⟨rfl, rfl⟩

set_option maxHeartbeats 4000000 in
set_option maxRecDepth 100000 in
theorem vex_zero {w : World} {v : Value} {pr : List ByteArray} (old root : ByteArray) (n : Nat) (hr : SS w v pr) (ha : pr.all isDig = true) (h1 : old.size = 32) (h2 : root.size = 32) (he : Env w) (hg : 0 < w.heap.size) :
    Calls Tryz.prog 77 #[.string old, .int .i64 0, .string root, .int .i64 n, v] w fun e w' => e = .returned (.bool (vexB old 0 root n pr)) ∧ Below w.heap.size w w' := by
  have HA := Lib.hid (allD_any hr)
  rw [ha] at HA
  have e0 : vexB old 0 root n pr = (decide (pr.length = 0) && decide (old = sumS ⟨#[]⟩)) := rfl
  rw [e0]
  obtain ⟨a, cap, rfl, l1, l2, _⟩ := hr.opened
  have HD1 := Lib.hid (fun w => isDigest_any old w)
  have HD2 := Lib.hid (fun w => isDigest_any root w)
  have hz1 : isDig old = true := decide_eq_true h1
  have hz2 : isDig root = true := decide_eq_true h2
  rw [hz1] at HD1
  rw [hz2] at HD2
  have HS := Lib.hid (sum_any ⟨#[]⟩ w (by decide) he hg)
  clear hr ha he hg hz1 hz2 e0 h1 h2
  generalize pr.length = L at *
  have hd1 : ¬ ((n : Int) < 0) := by omega
  go_enter Tryz.func77, Tryz.ntmps77
  rcases Nat.eq_zero_or_pos L with h0 | h0
  · subst h0
    go_wp2_with (first | (go_at_call 91; refine HA.out.mono ?_; rintro e w1 ⟨rfl, rfl⟩) | (go_at_call 109; first | (refine (HD1.out _).mono ?_; rintro e w1 ⟨rfl, rfl⟩) | (refine (HD2.out _).mono ?_; rintro e w1 ⟨rfl, rfl⟩)) | (go_at_call 104; refine HS.out.mono ?_; rintro e w1 ⟨rfl, hb1⟩))
    refine bodyPost_ret (results_tmp rfl _ _ _) rfl ⟨?_, hb1⟩
    rw [← same_str]
    simp [Array.getD]
  · have hd : ((L : Int) == 0) = false := by simp; omega
    go_wp2_with (first | (go_at_call 91; refine HA.out.mono ?_; rintro e w1 ⟨rfl, rfl⟩) | (go_at_call 109; first | (refine (HD1.out _).mono ?_; rintro e w1 ⟨rfl, rfl⟩) | (refine (HD2.out _).mono ?_; rintro e w1 ⟨rfl, rfl⟩)))
    refine bodyPost_ret (results_tmp rfl _ _ _) rfl ⟨?_, Below.refl _ _⟩
    rw [decide_eq_false (by omega)]
    rfl

set_option maxHeartbeats 4000000 in
set_option maxRecDepth 100000 in
theorem vex_same {w : World} {v : Value} {pr : List ByteArray} (old root : ByteArray) (n : Nat) (hn : 1 ≤ n) (hr : SS w v pr) (ha : pr.all isDig = true) (h1 : old.size = 32) (h2 : root.size = 32) :
    Calls Tryz.prog 77 #[.string old, .int .i64 n, .string root, .int .i64 n, v] w fun e w' => e = .returned (.bool (vexB old n root n pr)) ∧ Below w.heap.size w w' := by
  have HA := Lib.hid (allD_any hr)
  rw [ha] at HA
  rw [vexB_same hn]
  obtain ⟨a, cap, rfl, l1, l2, _⟩ := hr.opened
  have HD1 := Lib.hid (fun w => isDigest_any old w)
  have HD2 := Lib.hid (fun w => isDigest_any root w)
  have hz1 : isDig old = true := decide_eq_true h1
  have hz2 : isDig root = true := decide_eq_true h2
  rw [hz1] at HD1
  rw [hz2] at HD2
  clear hr ha hz1 hz2 h1 h2
  generalize pr.length = L at *
  have hd1 : ¬ ((n : Int) < 0) := by omega
  have hd2 : ¬ ((n : Int) < (n : Int)) := by omega
  have hd3 : ((n : Int) == 0) = false := by simp; omega
  go_enter Tryz.func77, Tryz.ntmps77
  rcases Nat.eq_zero_or_pos L with h0 | h0
  · subst h0
    go_wp2_with (first | (go_at_call 91; refine HA.out.mono ?_; rintro e w1 ⟨rfl, rfl⟩) | (go_at_call 109; first | (refine (HD1.out _).mono ?_; rintro e w1 ⟨rfl, rfl⟩) | (refine (HD2.out _).mono ?_; rintro e w1 ⟨rfl, rfl⟩)))
    refine bodyPost_ret (results_tmp rfl _ _ _) rfl ⟨?_, Below.refl _ _⟩
    rw [← same_str]
    simp [Array.getD]
  · have hd : ((L : Int) == 0) = false := by simp; omega
    go_wp2_with (first | (go_at_call 91; refine HA.out.mono ?_; rintro e w1 ⟨rfl, rfl⟩) | (go_at_call 109; first | (refine (HD1.out _).mono ?_; rintro e w1 ⟨rfl, rfl⟩) | (refine (HD2.out _).mono ?_; rintro e w1 ⟨rfl, rfl⟩)))
    refine bodyPost_ret (results_tmp rfl _ _ _) rfl ⟨?_, Below.refl _ _⟩
    rw [decide_eq_false (by omega)]
    rfl
end Go.Proofs.YtinfpbkbnhcifaaGreatDoor
