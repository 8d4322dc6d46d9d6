/- The walk of register.Join where two parts contradict each other; what Join answers, whatever the parts. The conditions: what the slices read as, lengths, the table of constants. -/
import Derived.Test.YtinfpbkbnhcifaaGreatDoorQVR13
namespace Go.Proofs.YtinfpbkbnhcifaaGreatDoor
open Go.RowKit Go.BigFrame Go.Shelf

attribute [local go_sem] Oper.semAt_some

theorem find_prefix {α : Type} {L pre : List α} {p : α → Bool} {y : α} (h : (pre ++ [y]) <+: L) (hp : ∀ x ∈ pre, p x = false) (hy : p y = true) : L.find? p = some y := by
  obtain ⟨t, rfl⟩ := h
  induction pre with
  | nil => simp [hy]
  | cons x pre ih =>
    rw [List.cons_append, List.cons_append, List.find?_cons_of_neg (by rw [hp x (by simp)]; simp)]
    exact ih (fun z hz => hp z (by simp [hz]))

set_option maxHeartbeats 8000000 in
set_option maxRecDepth 100000 in
theorem join_conv {key : ByteArray} {w : World} {v : Value} {zs : List (PartP × Value)} {x0 : Nat × Nat} (hz : PS w v zs) (hf : FitP zs) (he : Env w) (hg : 0 < w.heap.size) (hgood : joinBad key (zs.map (·.1)) = false) (hsome : (pairsL zs.length).find? (pairAt (zs.map (·.1))) = some x0) :
    Calls Tryz.prog 26 #[.string key, v] w fun e w' => e = .returned (.tuple #[.slice none 0 0, .int .i64 (x0.1 : Nat), .int .i64 (x0.2 : Nat), .int .i64 0]) ∧ Below w.heap.size w w' := by
  obtain ⟨hk32, hany, hck⟩ := good_parts hgood
  obtain ⟨a, cap, rfl, l1, l2, l3⟩ := hz.opened
  have HL3 := Lib.hid l3
  have HJ := Lib.hid (JoinAt.start w key (.slice a zs.length cap))
  have HBd := Lib.hid (bad_at hz hf (by omega) he hg HJ.out)
  rw [hany] at HBd
  have HFd : Hid (∀ (pre : List (Nat × Nat)) (y : Nat × Nat), (pre ++ [y]) <+: pairsL zs.length → (∀ x ∈ pre, pairAt (zs.map (·.1)) x = false) → pairAt (zs.map (·.1)) y = true → y = x0) := Lib.hid (fun pre y h1 h2 h3 => by
    have := find_prefix h1 h2 h3
    rw [hsome] at this
    exact (Option.some.inj this).symm)
  have HNo : Hid (¬ ∀ x ∈ pairsL zs.length, pairAt (zs.map (·.1)) x = false) := Lib.hid (fun h => by
    have := List.find?_some hsome
    rw [h _ (List.mem_of_find?_eq_some hsome)] at this
    cases this)
  have HCv : Hid (∀ (W : World) (i k : Nat) (zi zk : PartP × Value), Below w.heap.size w W → zs[i]? = some zi → zs[k]? = some zk → Calls Tryz.prog 58 #[partV zi, partV zk] W fun e w' => e = .returned (.bool (pairAt (zs.map (·.1)) (i, k))) ∧ Below W.heap.size W w') := Lib.hid (fun W i k zi zk hW hi hk => conv_at hz hf hck hi hk hW)
  obtain ⟨W6, hW6⟩ : ∃ W6, W6 = joinW w key (.slice a zs.length cap) := ⟨_, rfl⟩
  rw [← hW6] at HJ HBd
  unfold joinW at hW6
  have HW6 := Lib.hid hW6
  have HI := Lib.hid (isKey_any key W6)
  rw [decide_eq_true hk32] at HI
  have HZ := Lib.hid hz
  have HCK := Lib.hid hck
  have HF := Lib.hid hf
  have hzl := hf.1
  obtain ⟨PA, hPA⟩ : ∃ PA, PA = pairAt (zs.map (·.1)) := ⟨_, rfl⟩
  rw [← hPA] at HNo HCv HFd
  clear hPA
  obtain ⟨n, hn⟩ : ∃ n, n = zs.length := ⟨_, rfl⟩
  rw [← hn] at HJ HBd HW6 HNo HFd l1 hzl ⊢
  have HN := Lib.hid hn
  clear hW6 hz hf he hg hgood hsome hany hck l3 hn hk32
  obtain ⟨c1, c2⟩ := HJ.out.cells
  have hmm := @run_makeMap Tryz.prog
  refine calls_of_callsIn (n := 8) Wide.wide (callsIn_of_wp_marks Tryz.func26 rfl trivial ?_)
  simp only [Tryz.ntmps26, List.size_toArray, List.length_cons, List.length_nil, Nat.reduceAdd, Nat.reduceSub, Array.replicate_succ, Array.replicate_zero, List.push_toArray, List.append_toArray, List.nil_append, List.cons_append]
  refine wpIn_wide.2 ?_
  go_wp2_with (first | (go_at_call 63; rw [← HW6.out]; refine HI.out.mono ?_; rintro e w3 ⟨rfl, rfl⟩) | (go_at_call 64; refine HBd.out.mono ?_; rintro e w4 ⟨rfl, hb4⟩; have HJ4 := Lib.hid (HJ.out.far hb4); obtain ⟨c1, c2⟩ := HJ4.out.cells; clear hb4) | (go_at_call 65; refine (pairs_any _ _ _ _).mono ?_; rintro e w5 ⟨rfl, rfl⟩))
  have hs4 := HJ4.out.size
  have HJ5 := Lib.hid (HJ4.out.far ((Below.refl _ _).alloc (Nat.le_refl _) (.cells #[.slice a n cap] 30)))
  have HP5 := Lib.hid (heap_alloc_new w4 (.cells #[.slice a n cap] 30))
  have hs5 : (w4.alloc (.cells #[.slice a n cap] 30)).heap.size = w4.heap.size + 1 := by simp
  generalize w4.alloc (.cells #[.slice a n cap] 30) = W5 at *
  clear c1 c2 HI HBd HJ HW6 HJ4
  refine (wpIn_wide (n := 8)).1 ?_
  refine wpIn_range (n := 8) Wide.wide rfl (gf := 99) (lb := #[.pointer (some ⟨w4.heap.size, 0, none⟩)]) ?ev (fun args w => ?enter) (pairs1_iter w4.heap.size n cap a W5 (by omega) HP5.out) (Below.refl _ _) (fun x => rfl) (fun q e => by cases e) (fun h h' => h'.trans h) (fun W l o o' h1 h2 h3 h4 => ?kb)
    (fun pre W => JoinAt w W key (.slice a n cap) (.slice none 0 0) (.int .i64 0) (.int .i64 0) (.int .i64 0) ∧ (W.heap[w4.heap.size]? = some (.cells #[.slice a n cap] 30 (0, 0)) ∧ ∀ x ∈ pre, PA x.1 = false))
    (fun c pre W => ∃ y : Pair n, (c = .ret ∧ ∃ pre', pre = pre' ++ [y] ∧ (∀ x ∈ pre', PA x.1 = false) ∧ PA y.1 = true) ∧ JoinAt w W key (.slice a n cap) (.slice none 0 0) (.int .i64 (y.1.1 : Nat)) (.int .i64 (y.1.2 : Nat)) (.int .i64 0)) ?abide (fun c => ?abidex) ⟨HJ5.out, HP5.out, by simp⟩ (fun x => ⟨#[.string key, .slice a n cap, .pointer (some ⟨w.heap.size, 0, none⟩), .pointer (some ⟨w.heap.size + 1, 0, none⟩), .pointer (some ⟨w.heap.size + 1 + 1, 0, none⟩), .pointer (some ⟨w.heap.size + 1 + 1 + 1, 0, none⟩), .pointer (some ⟨w.heap.size + 1 + 1 + 1 + 1, 0, none⟩), .pointer (some ⟨w.heap.size + 1 + 1 + 1 + 1 + 1, 0, none⟩), .func (.func 62) #[] #[.pointer (some ⟨w.heap.size, 0, none⟩), .pointer (some ⟨w.heap.size + 1, 0, none⟩)], .int .i64 (x.1.1 : Nat), .int .i64 (x.1.2 : Nat), undef, undef, undef, undef, undef, undef, .func (.func 62) #[] #[.pointer (some ⟨w.heap.size, 0, none⟩), .pointer (some ⟨w.heap.size + 1, 0, none⟩)], .string key, .bool true, .bool false, .bool false, .slice a n cap, .func (.func 62) #[] #[.pointer (some ⟨w.heap.size, 0, none⟩), .pointer (some ⟨w.heap.size + 1, 0, none⟩)], .bool false, .bool false, .slice a n cap, .func (.func 99) #[] #[.pointer (some ⟨w4.heap.size, 0, none⟩)], .int .i64 (x.1.1 : Nat), .int .i64 (x.1.2 : Nat), undef, undef, undef, undef, undef, undef, undef, undef, undef, undef, undef, undef, undef, undef, undef, undef, undef, undef, undef, undef, undef, undef, undef, undef, undef, undef, undef, undef, undef, undef, undef, undef, undef, undef, undef, undef, undef, undef, undef, undef, undef], []⟩) (fun l x W K hK => ?assign) (fun l pre x W hI hlen => ?body) (fun Dm xs W hDm hS hI hDd => ?done) (fun Dm c pre W hDm hSp hIx hDd => ?stop)
  case assign =>
    simp only [pairV, List.zip_toArray, List.zip_cons_cons, List.zip_nil_right, List.foldl_toArray', List.foldl_cons, List.foldl_nil, List.setIfInBounds_toArray, List.set_cons_succ, List.set_cons_zero]
    gi_wp2
    exact hK
  case ev => rfl
  case enter => kernel_rfl
  case kb => exact World.putObj_heap_other (fun e => by omega)
  case abide => exact abide_and (abide_join (by omega)) (abide_and (abide_old _ (by omega) (by simp)) (abide_pure (α := Pair n) _ _ (fun pre => ∀ x ∈ pre, PA x.1 = false)))
  case abidex => exact abide_ex (fun y => abide_and (abide_pure (α := Pair n) _ _ (fun pre => c = .ret ∧ ∃ pre', pre = pre' ++ [y] ∧ (∀ x ∈ pre', PA x.1 = false) ∧ PA y.1 = true)) (abide_join (by omega)))
  case body =>
    obtain ⟨hJ, hP, hpre⟩ := hI
    obtain ⟨⟨i, k⟩, hik, hkn⟩ := x
    simp only at hik hkn
    obtain ⟨zi, ei⟩ : ∃ z, zs[i]? = some z := ⟨_, List.getElem?_eq_getElem (by rw [← HN.out]; omega)⟩
    obtain ⟨zk, ek⟩ : ∃ z, zs[k]? = some z := ⟨_, List.getElem?_eq_getElem (by rw [← HN.out]; omega)⟩
    obtain ⟨b, off, rfl, hb, hpi⟩ := HL3.out i zi ei
    obtain ⟨b', off', eb, hb', hpk⟩ := HL3.out k zk ek
    injection eb with eb
    injection eb with e1 e2 _
    subst e1 e2
    obtain ⟨p0, p1, p2, p3, p4⟩ := hpi.keep hJ.1 hb
    obtain ⟨q0, q1, q2, q3, q4⟩ := hpk.keep hJ.1 hb
    obtain ⟨fa, fn, fc, hf1⟩ := (HZ.out.2 zi (List.mem_of_getElem? ei)).form
    obtain ⟨fa', fn', fc', hf2⟩ := (HZ.out.2 zk (List.mem_of_getElem? ek)).form
    have hni : i < n := by omega
    have u1 : (0 : Int) ≤ (i : Int) := by omega
    have u2 : (i : Int) < (n : Int) := by omega
    have u3 : (0 : Int) ≤ (k : Int) := by omega
    have u4 : (k : Int) < (n : Int) := by omega
    have HC : Hid (∀ q, Calls Tryz.prog 58 #[partV zi, partV zk] (W.drewN q) fun e w' => e = .returned (.bool (PA (i, k))) ∧ Below (W.drewN q).heap.size (W.drewN q) w') := Lib.hid (fun q => HCv.out (W.drewN q) i k zi zk (below_drewN hJ.1 q) ei ek)
    obtain ⟨⟨⟨a1, a2, a3, a4⟩, its1⟩, v1⟩ := zi
    obtain ⟨⟨⟨b1, b2, b3, b4⟩, its2⟩, v2⟩ := zk
    simp only at p0 p1 p2 p3 p4 q0 q1 q2 q3 q4 hf1 hf2
    subst hf1 hf2
    unfold partV at HC
    simp only at HC
    obtain ⟨c1, c2⟩ := hJ.cells
    have HJW := Lib.hid hJ
    have HPW := Lib.hid hP
    have HPre := Lib.hid hpre
    clear ei ek hJ hP hpre hpi hpk
    gi_wp2
    refine wpIn_region_quiet_tail 8 (fun w' => ∃ q, w' = W.drewN q) (Wide.inRound Wide.wide _) (by kernel_rfl) (by kernel_rfl) ⟨1, rfl⟩ ?_
    simp only [List.take_succ_cons, List.take_zero, List.drop_succ_cons, List.drop_zero]
    repeat (go_big_quiet_step (fail))
    refine wpQuiet_nil ?_
    rintro _ ⟨nq, rfl⟩
    have HC1 := Lib.hid (HC.out nq)
    clear p0 p1 p2 p3 p4 q0 q1 q2 q3 q4 c1 c2 HC
    have HJq : Hid (JoinAt w (W.drewN nq) key (.slice (some ⟨b, off, none⟩) n cap) (.slice none 0 0) (.int .i64 0) (.int .i64 0) (.int .i64 0)) := Lib.hid (HJW.out.far (below_drewN (Below.refl _ _) nq))
    have hWq : (W.drewN nq).heap = W.heap := rfl

    cases hpa : PA (i, k)
    · have HPf := Lib.hid hpa
      rw [hpa] at HC1
      clear hpa
      gi_wp2_with (refine ⟨trivial, ?_⟩; gi_at_call 58; refine (callsIn_of_calls (Wide.inRound Wide.wide _) HC1.out).mono ?_; rintro e W' ⟨rfl, hb2⟩)
      have hJ' := HJq.out.far hb2
      have hkp : ∀ (q : Nat) (o : Obj), W.heap[q]? = some o → W'.heap[q]? = some o := fun q o hq => (hb2.block q (Array.getElem?_eq_some_iff.1 hq).1).trans hq
      refine ⟨⟨hb2.size, fun q o _ hq _ => hkp q o hq⟩, (hkp _ _ HPW.out).trans HPW.out.symm, hJ', hkp _ _ HPW.out, fun x hx => ?_⟩
      rcases List.mem_append.1 hx with hx | hx
      · exact HPre.out x hx
      · rw [List.mem_singleton] at hx
        subst hx
        exact HPf.out
    · have HPf := Lib.hid hpa
      rw [hpa] at HC1
      clear hpa
      gi_wp2_with (refine ⟨trivial, ?_⟩; gi_at_call 58; refine (callsIn_of_calls (Wide.inRound Wide.wide _) HC1.out).mono ?_; rintro e W' ⟨rfl, hb2⟩; obtain ⟨f1, f2, f3, f4, g1, g2, g3, g4⟩ := (HJq.out.far hb2).rets)
      have HE := Lib.hid ((HJq.out.far hb2).set (.slice none 0 0) (.int .i64 (i : Nat)) (.int .i64 (k : Nat)) (.int .i64 0))
      have hkp : ∀ (q : Nat) (o : Obj), W.heap[q]? = some o → W'.heap[q]? = some o := fun q o hq => (hb2.block q (Array.getElem?_eq_some_iff.1 hq).1).trans hq
      refine ⟨⟨?_, fun q o hB hq _ => ?_⟩, ⟨(i, k), hik, hkn⟩, ⟨rfl, pre, rfl, HPre.out, HPf.out⟩, HE.out⟩
      · simpa [World.setCell] using hb2.size
      · refine (Below.heap_setCell _ _ _ _ (by show q ≠ w.heap.size + 5; omega)).trans ((Below.heap_setCell _ _ _ _ (by show q ≠ w.heap.size + 4; omega)).trans ((Below.heap_setCell _ _ _ _ (by show q ≠ w.heap.size + 3; omega)).trans ((Below.heap_setCell _ _ _ _ (by show q ≠ w.heap.size + 2; omega)).trans (hkp q o hq))))
  case done =>
    obtain ⟨_, _, hall⟩ := hI
    refine absurd (fun y hy => ?_) HNo.out
    rw [← hS] at hy
    obtain ⟨z, hz, rfl⟩ := List.mem_map.1 hy
    exact hall z hz
  case stop =>
    obtain ⟨y, ⟨rfl, pre', rfl, hp1, hp2⟩, hJ⟩ := hIx
    have hx0 : y.1 = x0 := HFd.out (pre'.map (·.1)) y.1 (by rw [List.map_append] at hSp; exact hSp) (fun x hx => by
      obtain ⟨z, hz, rfl⟩ := List.mem_map.1 hx
      exact hp1 z hz) hp2
    have HJ := Lib.hid hJ
    have HDd := Lib.hid hDd
    have hsW := hJ.size
    have hDm6 : w.heap.size ≤ Dm := by omega
    clear hJ hSp hDd HCv HNo HP5 HJ5 hp1 hp2
    refine wpIn_wide.2 ?_
    go_wp2
    have hM : Marks w.heap.size [Dm] W := ⟨by simp, fun D hD => by
      rw [List.mem_singleton] at hD
      rw [hD]
      exact ⟨hDm6, HDd.out⟩⟩
    refine leaves_marks (B := w.heap.size) [Dm] _ hM (fun W'' hT => ⟨_, (HJ.out.taken hT (Nat.le_refl _)).results _ rfl rfl rfl rfl, by rw [← hx0], (HJ.out.taken hT (Nat.le_refl _)).1⟩)

/-- What Join answers. -/
theorem join_any {key : ByteArray} {w : World} {v : Value} {zs : List (PartP × Value)} (hz : PS w v zs) (hf : FitP zs) (hk : key.size ≤ 1000) (he : Env w) (hg : 0 < w.heap.size) :
    Calls Tryz.prog 26 #[.string key, v] w fun e w' => (match joinR key (zs.map (·.1)) with
      | none => e = .returned (.tuple #[.slice none 0 0, .int .i64 (-1), .int .i64 (-1), .int .i64 180])
      | some (its, i, k) => ∃ v', e = .returned (.tuple #[v', .int .i64 i, .int .i64 k, .int .i64 0]) ∧ IT w' v' its) ∧ Below w.heap.size w w' := by
  cases hb : joinBad key (zs.map (·.1)) with
  | true =>
    have e1 : joinR key (zs.map (·.1)) = none := by unfold joinR; rw [if_pos hb]
    rw [e1]
    exact join_bad hz hf hk he hg hb
  | false =>
    have e1 : joinR key (zs.map (·.1)) = some (joinP2 (zs.map (·.1))) := by unfold joinR; rw [if_neg (by rw [hb]; simp)]
    rw [e1]
    cases hx : (pairsL zs.length).find? (pairAt (zs.map (·.1))) with
    | none =>
      have e2 : joinP2 (zs.map (·.1)) = (itemsK (knownL (zs.map (·.1))), -1, -1) := by unfold joinP2; rw [List.length_map, hx]
      rw [e2]
      exact (join_yes hz hf he hg hb hx).mono fun e w' ⟨v', h1, h2, h3⟩ => ⟨⟨v', h1, h2⟩, h3⟩
    | some x0 =>
      have e2 : joinP2 (zs.map (·.1)) = ([], (x0.1 : Int), (x0.2 : Int)) := by unfold joinP2; rw [List.length_map, hx]
      rw [e2]
      exact (join_conv hz hf he hg hb hx).mono fun e w' ⟨h1, h2⟩ => ⟨⟨_, h1, [], rfl, ISt.nil w'⟩, h2⟩
end Go.Proofs.YtinfpbkbnhcifaaGreatDoor
