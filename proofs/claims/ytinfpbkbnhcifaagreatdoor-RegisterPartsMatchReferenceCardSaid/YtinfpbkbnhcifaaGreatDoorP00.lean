/- The walk of register.Join where two parts contradict each other; what Join answers, whatever the parts. The conditions: what the slices read as, lengths, the table of constants. -/
import Derived.Test.YtinfpbkbnhcifaaGreatDoorQ26
import Derived.Test.YtinfpbkbnhcifaaGreatDoorQ22
import Derived.Test.YtinfpbkbnhcifaaGreatDoorQ25
namespace Go.Proofs.YtinfpbkbnhcifaaGreatDoor
open Go.RowKit Go.BigFrame Go.Shelf

attribute [local go_sem] Oper.semAt_some

theorem find_prefix {α : Type} {L pre : List α} {p : α → Bool} {y : α} (h : (pre ++ [y]) <+: L) (hp : ∀ x ∈ pre, p x = false) (hy : p y = true) : L.find? p = some y := by
  obtain ⟨t, rfl⟩ := h
  induction pre with
  | nil => simp [hy]
  | cons x pre ih =>
    rw [List.cons_append, List.cons_append, List.find?_cons_of_neg (by rw [hp x (by simp)]; simp)]
    exact ih (fun z hz => hp z (by simp [hz]))

set_option maxHeartbeats 8000000 in
set_option maxRecDepth 100000 in
theorem join_conv {key : ByteArray} {w : World} {v : Value} {zs : List (PartP × Value)} {x0 : Nat × Nat} (hz : PS w v zs) (hf : FitP zs) (he : Env w) (hg : 0 < w.heap.size) (hgood : joinBad key (zs.map (·.1)) = false) (hsome : (pairsL zs.length).find? (pairAt (zs.map (·.1))) = some x0) :
    Calls Tryz.prog 26 #[.string key, v] w fun e w' => e = .returned (.tuple #[.slice none 0 0, .int .i64 (x0.1 : Nat), .int .i64 (x0.2 : Nat), .int .i64 0]) ∧ Below w.heap.size w w' := by
  obtain ⟨hk32, hany, hck⟩ := good_parts hgood
  obtain ⟨a, cap, rfl, l1, l2, l3⟩ := hz.opened
  have HL3 := Lib.hid l3
  have HJ := Lib.hid (JoinAt.start w key (.slice a zs.length cap))
  have HBd := Lib.hid (bad_at hz hf (by omega) he hg HJ.out)
  rw [hany] at HBd
  have HFd : Hid (∀ (pre : List (Nat × Nat)) (y : Nat × Nat), (pre ++ [y]) <+: pairsL zs.length → (∀ x ∈ pre, pairAt (zs.map (·.1)) x = false) → pairAt (zs.map (·.1)) y = true → y = x0) := Lib.hid (fun pre y h1 h2 h3 => by
    have := find_prefix h1 h2 h3
    rw [hsome] at this
    exact (Option.some.inj this).symm)
  have HNo : Hid (¬ ∀ x ∈ pairsL zs.length, pairAt (zs.map (·.1)) x = false) := Lib.hid (fun h => by
    have := List.find?_some hsome
    rw [h _ (List.mem_of_find?_eq_some hsome)] at this
    cases this)
  have HCv : Hid (∀ (W : World) (i k : Nat) (zi zk : PartP × Value), Below w.heap.size w W → zs[i]? = some zi → zs[k]? = some zk → Calls Tryz.prog 58 #[partV zi, partV zk] W fun e w' => e = .returned (.bool (pairAt (zs.map (·.1)) (i, k))) ∧ Below W.heap.size W w') := Lib.hid (fun W i k zi zk hW hi hk => conv_at hz hf hck hi hk hW)
  obtain ⟨W6, hW6⟩ : ∃ W6, W6 = joinW w key (.slice a zs.length cap) := ⟨_, rfl⟩
  rw [← hW6] at HJ HBd
  unfold joinW at hW6
  have HW6 := Lib.hid hW6
  have HI := Lib.hid (isKey_any key W6)
  rw [decide_eq_true hk32] at HI
  have HZ := Lib.hid hz
  have HCK := Lib.hid hck
  have HF := Lib.hid hf
  have hzl := hf.1
  obtain ⟨PA, hPA⟩ : ∃ PA, PA = pairAt (zs.map (·.1)) := ⟨_, rfl⟩
  rw [← hPA] at HNo HCv HFd
  clear hPA
  obtain ⟨n, hn⟩ : ∃ n, n = zs.length := ⟨_, rfl⟩
  rw [← hn] at HJ HBd HW6 HNo HFd l1 hzl ⊢
  have HN := Lib.hid hn
  clear hW6 hz hf he hg hgood hsome hany hck l3 hn hk32
  obtain ⟨c1, c2⟩ := HJ.out.cells
  have hmm := @run_makeMap Tryz.prog
  refine calls_of_callsIn (n := 8) Wide.wide (callsIn_of_wp_marks Tryz.func26 rfl trivial ?_)
  simp only [Tryz.ntmps26, List.size_toArray, List.length_cons, List.length_nil, Nat.reduceAdd, Nat.reduceSub, Array.replicate_succ, Array.replicate_zero, List.push_toArray, List.append_toArray, List.nil_append, List.cons_append]
  refine wpIn_wide.2 ?_
  go_wp2_with (first | (go_at_call 63; rw [← HW6.out]; refine HI.out.mono ?_; rintro e w3 ⟨rfl, rfl⟩) | (go_at_call 64; refine HBd.out.mono ?_; rintro e w4 ⟨rfl, hb4⟩; have HJ4 := Lib.hid (HJ.out.far hb4); obtain ⟨c1, c2⟩ := HJ4.out.cells; clear hb4) | (go_at_call 65; refine (pairs_any _ _ _ _).mono ?_; rintro e w5 ⟨rfl, rfl⟩))
  have hs4 := HJ4.out.size
  have HJ5 := Lib.hid (HJ4.out.far ((Below.refl _ _).alloc (Nat.le_refl _) (.cells #[.slice a n cap] 30)))
  have HP5 := Lib.hid (heap_alloc_new w4 (.cells #[.slice a n cap] 30))
  have hs5 : (w4.alloc (.cells #[.slice a n cap] 30)).heap.size = w4.heap.size + 1 := by simp
  generalize w4.alloc (.cells #[.slice a n cap] 30) = W5 at *
  clear c1 c2 HI HBd HJ HW6 HJ4
  refine (wpIn_wide (n := 8)).1 ?_
  refine wpIn_range (n := 8) Wide.wide rfl (gf := 99) (lb := #[.pointer (some ⟨w4.heap.size, 0, none⟩)]) ?ev (fun args w => ?enter) (pairs1_iter w4.heap.size n cap a W5 (by omega) HP5.out) (Below.refl _ _) (fun x => rfl) (fun q e => by cases e) (fun h h' => h'.trans h) (fun W l o o' h1 h2 h3 h4 => ?kb)
    (fun pre W => JoinAt w W key (.slice a n cap) (.slice none 0 0) (.int .i64 0) (.int .i64 0) (.int .i64 0) ∧ (W.heap[w4.heap.size]? = some (.cells #[.slice a n cap] 30 (0, 0)) ∧ ∀ x ∈ pre, PA x.1 = false))
    (fun c pre W => ∃ y : Pair n, (c = .ret ∧ ∃ pre', pre = pre' ++ [y] ∧ (∀ x ∈ pre', PA x.1 = false) ∧ PA y.1 = true) ∧ JoinAt w W key (.slice a n cap) (.slice none 0 0) (.int .i64 (y.1.1 : Nat)) (.int .i64 (y.1.2 : Nat)) (.int .i64 0)) ?abide (fun c => ?abidex) ⟨HJ5.out, HP5.out, by simp⟩ (fun x => ⟨#[.string key, .slice a n cap, .pointer (some ⟨w.heap.size, 0, none⟩), .pointer (some ⟨w.heap.size + 1, 0, none⟩), .pointer (some ⟨w.heap.size + 1 + 1, 0, none⟩), .pointer (some ⟨w.heap.size + 1 + 1 + 1, 0, none⟩), .pointer (some ⟨w.heap.size + 1 + 1 + 1 + 1, 0, none⟩), .pointer (some ⟨w.heap.size + 1 + 1 + 1 + 1 + 1, 0, none⟩), .func (.func 62) #[] #[.pointer (some ⟨w.heap.size, 0, none⟩), .pointer (some ⟨w.heap.size + 1, 0, none⟩)], .int .i64 (x.1.1 : Nat), .int .i64 (x.1.2 : Nat), undef, undef, undef, undef, undef, undef, .func (.func 62) #[] #[.pointer (some ⟨w.heap.size, 0, none⟩), .pointer (some ⟨w.heap.size + 1, 0, none⟩)], .string key, .bool true, .bool false, .bool false, .slice a n cap, .func (.func 62) #[] #[.pointer (some ⟨w.heap.size, 0, none⟩), .pointer (some ⟨w.heap.size + 1, 0, none⟩)], .bool false, .bool false, .slice a n cap, .func (.func 99) #[] #[.pointer (some ⟨w4.heap.size, 0, none⟩)], .int .i64 (x.1.1 : Nat), .int .i64 (x.1.2 : Nat), undef, undef, undef, undef, undef, undef, undef, undef, undef, undef, undef, undef, undef, undef, undef, undef, undef, undef, undef, undef, undef, undef, undef, undef, undef, undef, undef, undef, undef, undef, undef, undef, undef, undef, undef, undef, undef, undef, undef, undef, undef], []⟩) (fun l x W K hK => ?assign) (fun l pre x W hI hlen => ?body) (fun Dm xs W hDm hS hI hDd => ?done) (fun Dm c pre W hDm hSp hIx hDd => ?stop)
  case assign =>
    simp only [pairV, List.zip_toArray, List.zip_cons_cons, List.zip_nil_right, List.foldl_toArray', List.foldl_cons, List.foldl_nil, List.setIfInBounds_toArray, List.set_cons_succ, List.set_cons_zero]
    gi_wp2
    exact hK
  case ev => rfl
  case enter => kernel_rfl
  case kb => exact World.putObj_heap_other (fun e => by omega)
  case abide => exact abide_and (abide_join (by omega)) (abide_and (abide_old _ (by omega) (by simp)) (abide_pure (α := Pair n) _ _ (fun pre => ∀ x ∈ pre, PA x.1 = false)))
  case abidex => exact abide_ex (fun y => abide_and (abide_pure (α := Pair n) _ _ (fun pre => c = .ret ∧ ∃ pre', pre = pre' ++ [y] ∧ (∀ x ∈ pre', PA x.1 = false) ∧ PA y.1 = true)) (abide_join (by omega)))
  case body =>
    obtain ⟨hJ, hP, hpre⟩ := hI
    obtain ⟨⟨i, k⟩, hik, hkn⟩ := x
    simp only at hik hkn
    obtain ⟨zi, ei⟩ : ∃ z, zs[i]? = some z := ⟨_, List.getElem?_eq_getElem (by rw [← HN.out]; omega)⟩
    obtain ⟨zk, ek⟩ : ∃ z, zs[k]? = some z := ⟨_, List.getElem?_eq_getElem (by rw [← HN.out]; omega)⟩
    obtain ⟨b, off, rfl, hb, hpi⟩ := HL3.out i zi ei
    obtain ⟨b', off', eb, hb', hpk⟩ := HL3.out k zk ek
    injection eb with eb
    injection eb with e1 e2 _
    subst e1 e2
    obtain ⟨p0, p1, p2, p3, p4⟩ := hpi.keep hJ.1 hb
    obtain ⟨q0, q1, q2, q3, q4⟩ := hpk.keep hJ.1 hb
    obtain ⟨fa, fn, fc, hf1⟩ := (HZ.out.2 zi (List.mem_of_getElem? ei)).form
    obtain ⟨fa', fn', fc', hf2⟩ := (HZ.out.2 zk (List.mem_of_getElem? ek)).form
    have hni : i < n := by omega
    have u1 : (0 : Int) ≤ (i : Int) := by omega
    have u2 : (i : Int) < (n : Int) := by omega
    have u3 : (0 : Int) ≤ (k : Int) := by omega
    have u4 : (k : Int) < (n : Int) := by omega
    have HC : Hid (∀ q, Calls Tryz.prog 58 #[partV zi, partV zk] (W.drewN q) fun e w' => e = .returned (.bool (PA (i, k))) ∧ Below (W.drewN q).heap.size (W.drewN q) w') := Lib.hid (fun q => HCv.out (W.drewN q) i k zi zk (below_drewN hJ.1 q) ei ek)
    obtain ⟨⟨⟨a1, a2, a3, a4⟩, its1⟩, v1⟩ := zi
    obtain ⟨⟨⟨b1, b2, b3, b4⟩, its2⟩, v2⟩ := zk
    simp only at p0 p1 p2 p3 p4 q0 q1 q2 q3 q4 hf1 hf2
    subst hf1 hf2
    unfold partV at HC
    simp only at HC
    obtain ⟨c1, c2⟩ := hJ.cells
    have HJW := Lib.hid hJ
    have HPW := Lib.hid hP
    have HPre := Lib.hid hpre
    clear ei ek hJ hP hpre hpi hpk
    gi_wp2
    refine wpIn_region_quiet_tail 8 (fun w' => ∃ q, w' = W.drewN q) (Wide.inRound Wide.wide _) (by kernel_rfl) (by kernel_rfl) ⟨1, rfl⟩ ?_
    simp only [List.take_succ_cons, List.take_zero, List.drop_succ_cons, List.drop_zero]
    repeat (go_big_quiet_step (fail))
    refine wpQuiet_nil ?_
    rintro _ ⟨nq, rfl⟩
    have HC1 := Lib.hid (HC.out nq)
    clear p0 p1 p2 p3 p4 q0 q1 q2 q3 q4 c1 c2 HC
    have HJq : Hid (JoinAt w (W.drewN nq) key (.slice (some ⟨b, off, none⟩) n cap) (.slice none 0 0) (.int .i64 0) (.int .i64 0) (.int .i64 0)) := Lib.hid (HJW.out.far (below_drewN (Below.refl _ _) nq))
    have hWq : (W.drewN nq).heap = W.heap := rfl

    cases hpa : PA (i, k)
    · have HPf := Lib.hid hpa
      rw [hpa] at HC1
      clear hpa
      gi_wp2_with (refine ⟨trivial, ?_⟩; gi_at_call 58; refine (callsIn_of_calls (Wide.inRound Wide.wide _) HC1.out).mono ?_; rintro e W' ⟨rfl, hb2⟩)
      have hJ' := HJq.out.far hb2
      have hkp : ∀ (q : Nat) (o : Obj), W.heap[q]? = some o → W'.heap[q]? = some o := fun q o hq => (hb2.block q (Array.getElem?_eq_some_iff.1 hq).1).trans hq
      refine ⟨⟨hb2.size, fun q o _ hq _ => hkp q o hq⟩, (hkp _ _ HPW.out).trans HPW.out.symm, hJ', hkp _ _ HPW.out, fun x hx => ?_⟩
      rcases List.mem_append.1 hx with hx | hx
      · exact HPre.out x hx
      · rw [List.mem_singleton] at hx
        subst hx
        exact HPf.out
    · have HPf := Lib.hid hpa
      rw [hpa] at HC1
      clear hpa
      gi_wp2_with (refine ⟨trivial, ?_⟩; gi_at_call 58; refine (callsIn_of_calls (Wide.inRound Wide.wide _) HC1.out).mono ?_; rintro e W' ⟨rfl, hb2⟩; obtain ⟨f1, f2, f3, f4, g1, g2, g3, g4⟩ := (HJq.out.far hb2).rets)
      have HE := Lib.hid ((HJq.out.far hb2).set (.slice none 0 0) (.int .i64 (i : Nat)) (.int .i64 (k : Nat)) (.int .i64 0))
      have hkp : ∀ (q : Nat) (o : Obj), W.heap[q]? = some o → W'.heap[q]? = some o := fun q o hq => (hb2.block q (Array.getElem?_eq_some_iff.1 hq).1).trans hq
      refine ⟨⟨?_, fun q o hB hq _ => ?_⟩, ⟨(i, k), hik, hkn⟩, ⟨rfl, pre, rfl, HPre.out, HPf.out⟩, HE.out⟩
      · simpa [World.setCell] using hb2.size
      · refine (Below.heap_setCell _ _ _ _ (by show q ≠ w.heap.size + 5; omega)).trans ((Below.heap_setCell _ _ _ _ (by show q ≠ w.heap.size + 4; omega)).trans ((Below.heap_setCell _ _ _ _ (by show q ≠ w.heap.size + 3; omega)).trans ((Below.heap_setCell _ _ _ _ (by show q ≠ w.heap.size + 2; omega)).trans (hkp q o hq))))
  case done =>
    obtain ⟨_, _, hall⟩ := hI
    refine absurd (fun y hy => ?_) HNo.out
    rw [← hS] at hy
    obtain ⟨z, hz, rfl⟩ := List.mem_map.1 hy
    exact hall z hz
  case stop =>
    obtain ⟨y, ⟨rfl, pre', rfl, hp1, hp2⟩, hJ⟩ := hIx
    have hx0 : y.1 = x0 := HFd.out (pre'.map (·.1)) y.1 (by rw [List.map_append] at hSp; exact hSp) (fun x hx => by
      obtain ⟨z, hz, rfl⟩ := List.mem_map.1 hx
      exact hp1 z hz) hp2
    have HJ := Lib.hid hJ
    have HDd := Lib.hid hDd
    have hsW := hJ.size
    have hDm6 : w.heap.size ≤ Dm := by omega
    clear hJ hSp hDd HCv HNo HP5 HJ5 hp1 hp2
    refine wpIn_wide.2 ?_
    go_wp2
    have hM : Marks w.heap.size [Dm] W := ⟨by simp, fun D hD => by
      rw [List.mem_singleton] at hD
      rw [hD]
      exact ⟨hDm6, HDd.out⟩⟩
    refine leaves_marks (B := w.heap.size) [Dm] _ hM (fun W'' hT => ⟨_, (HJ.out.taken hT (Nat.le_refl _)).results _ rfl rfl rfl rfl, by rw [← hx0], (HJ.out.taken hT (Nat.le_refl _)).1⟩)

theorem join_any {key : ByteArray} {w : World} {v : Value} {zs : List (PartP × Value)} (hz : PS w v zs) (hf : FitP zs) (hk : key.size ≤ 1000) (he : Env w) (hg : 0 < w.heap.size) :
    Calls Tryz.prog 26 #[.string key, v] w fun e w' => (match joinR key (zs.map (·.1)) with
      | none => e = .returned (.tuple #[.slice none 0 0, .int .i64 (-1), .int .i64 (-1), .int .i64 180])
      | some (its, i, k) => ∃ v', e = .returned (.tuple #[v', .int .i64 i, .int .i64 k, .int .i64 0]) ∧ IT w' v' its) ∧ Below w.heap.size w w' := by
  cases hb : joinBad key (zs.map (·.1)) with
  | true =>
    have e1 : joinR key (zs.map (·.1)) = none := by unfold joinR; rw [if_pos hb]
    rw [e1]
    exact join_bad hz hf hk he hg hb
  | false =>
    have e1 : joinR key (zs.map (·.1)) = some (joinP2 (zs.map (·.1))) := by unfold joinR; rw [if_neg (by rw [hb]; simp)]
    rw [e1]
    cases hx : (pairsL zs.length).find? (pairAt (zs.map (·.1))) with
    | none =>
      have e2 : joinP2 (zs.map (·.1)) = (itemsK (knownL (zs.map (·.1))), -1, -1) := by unfold joinP2; rw [List.length_map, hx]
      rw [e2]
      exact (join_yes hz hf he hg hb hx).mono fun e w' ⟨v', h1, h2, h3⟩ => ⟨⟨v', h1, h2⟩, h3⟩
    | some x0 =>
      have e2 : joinP2 (zs.map (·.1)) = ([], (x0.1 : Int), (x0.2 : Int)) := by unfold joinP2; rw [List.length_map, hx]
      rw [e2]
      exact (join_conv hz hf he hg hb hx).mono fun e w' ⟨h1, h2⟩ => ⟨⟨_, h1, [], rfl, ISt.nil w'⟩, h2⟩
end Go.Proofs.YtinfpbkbnhcifaaGreatDoor

/- The walks of the reference's Indices, Same (of strings), SameItems. The conditions: what the slices read as, ranges. -/
namespace Go.Proofs.YtinfpbkbnhcifaaGreatDoor
open Go.RowKit Go.BigFrame

def idxI (bits : Int) (n : Nat) : List Int := (idxS bits n).map fun i : Nat => (i : Int)
theorem idxI_succ (bits : Int) (n : Nat) : idxI bits (n + 1) = idxI bits n ++ if bitI bits n = true then [(n : Int)] else [] := by
  unfold idxI idxS
  rw [List.range_succ, List.filter_append, List.map_append]
  congr 1
  rw [List.filter_cons]
  by_cases h : bitI bits n = true
  · simp [h]
  · simp [h]
theorem idxI_len (bits : Int) (n : Nat) : (idxI bits n).length ≤ n := by
  unfold idxI idxS
  rw [List.length_map]
  exact Nat.le_trans (List.length_filter_le _ _) (by rw [List.length_range]; exact Nat.le_refl _)

set_option maxHeartbeats 2000000 in
set_option maxRecDepth 100000 in
theorem indices_any (bits : Int) (hb : I64 bits) (n : Nat) (hn : n ≤ 60) (w : World) :
    Calls Tryz.prog 17 #[.int .i64 bits, .int .i64 n] w fun e w' => ∃ v', e = .returned v' ∧ IL w' v' (idxI bits n) ∧ Below w.heap.size w w' := by
  have HP := Lib.hid (fun W => rpick_any bits 65536 W hb (by omega) (by omega))
  obtain ⟨r0, r1⟩ := pickI_range bits (n := 65536) (by omega)
  have HB : Hid (∀ i : Nat, bitI bits i = decide ((pickI bits 65536).toNat / 2 ^ i % 2 = 1)) := Lib.hid (fun i => rfl)
  have HS := Lib.hid (idxI_succ bits)
  have HL := Lib.hid (idxI_len bits)
  have H0 : Hid (OwnI w w.heap.size (.slice none 0 0) (idxI bits 0)) := Lib.hid (OwnE.nil _ _ _ _)
  obtain ⟨p, hp⟩ := Int.eq_ofNat_of_zero_le r0
  rw [hp] at HP HB r1
  clear hp r0 hb
  generalize idxI bits = ID at *
  generalize bitI bits = BT at *
  go_enter Tryz.func17, Tryz.ntmps17
  go_wp2
  go_loopw [5, 6] (fun v i wr => ∃ k : Nat, k ≤ n ∧ i = .int .i64 k ∧ Hid (OwnI wr w.heap.size v (ID k)) ∧ Hid (Below w.heap.size w wr)) (fun _ i _ => n - (intOf i).toNat)
  case atStart => exact ⟨0, by omega, rfl, H0, Below.refl _ _⟩
  case round =>
    obtain ⟨k, hk, rfl, hO, hB⟩ := hrel
    obtain ⟨va, vc, hv⟩ := OwnE.form hO.out
    subst hv
    by_cases hlt : k < n
    · have HBk := Lib.hid (HB.out k)
      have hk64 : k < 64 := by omega
      have tkn : (k : Int) < (n : Int) := by omega
      have hsz := hB.out.size
      have HOa := Lib.hid (OwnE.alloc hO.out (.cells #[.int .i64 k] 3))
      have HNa := Lib.hid (heap_alloc_new wr (.cells #[.int .i64 k] 3))
      have HBa := Lib.hid (hB.out.alloc hsz (.cells #[.int .i64 k] 3))
      obtain ⟨t, ht⟩ : ∃ t, t = p / 2 ^ k := ⟨_, rfl⟩
      have f3 : (p : Int) / 2 ^ k = (t : Int) := by rw [ht, Int.natCast_ediv, Int.natCast_pow]; rfl
      have HQ : Hid ((p / 2 ^ k % 2 = 1) = (t % 2 = 1)) := Lib.hid (by rw [ht])
      have hq : (t : Int) % 2 = 0 ∨ (t : Int) % 2 = 1 := by omega
      clear ht
      rcases hq with hq | hq
      · have HS1 : Hid (ID (k + 1) = ID k) := Lib.hid (by
          rw [HS.out k, HBk.out, decide_eq_false (fun h => by rw [Int.toNat_natCast, HQ.out] at h; omega)]
          simp)
        go_wp2_with (go_at_call 53; refine (HP.out _).mono ?_; rintro e w1 ⟨rfl, rfl⟩)
        go_roundw
        case rel =>
          refine ⟨k + 1, by omega, by go_num, ?_, hB⟩
          rw [HS1.out]
          exact hO
        case measure => simp [intOf]; omega
      · have HS1 : Hid (ID (k + 1) = ID k ++ [(k : Int)]) := Lib.hid (by
          rw [HS.out k, HBk.out, decide_eq_true (by rw [Int.toNat_natCast, HQ.out]; omega)]
          simp)
        have hlk := HL.out k
        go_wp2_with (first | (go_at_call 53; refine (HP.out _).mono ?_; rintro e w1 ⟨rfl, hw1⟩; replace hw1 := hw1.symm; subst hw1) | (at_builtin; refine wpList_append_int _ _ w.heap.size _ (ID k) wr.heap.size (k : Int) _ HOa.out (by omega) HBa.out.size HNa.out rfl rfl rfl rfl ?_; intro v7 w7 hown7 hgr7; have HO7 := Lib.hid hown7; have HB7 := Lib.hid (HBa.out.grown hgr7 HBa.out.size (fun j e => OwnE.ge HOa.out j e)); clear hown7 hgr7))
        go_roundw
        case rel =>
          refine ⟨k + 1, by omega, by go_num, ?_, HB7⟩
          rw [HS1.out]
          exact HO7
        case measure => simp [intOf]; omega
    · have ek : k = n := by omega
      subst ek
      go_wp2
      go_ret
      exact ⟨_, rfl, hO.out.is, hB.out⟩

/-! ### Strings, items compared -/
set_option maxHeartbeats 2000000 in
set_option maxRecDepth 100000 in
theorem same2_any {w : World} {v v' : Value} {xs ys : List ByteArray} (hx : SS w v xs) (hy : SS w v' ys) :
    Calls Tryz.prog 39 #[v, v'] w fun e w' => e = .returned (.bool (decide (xs = ys))) ∧ Below w.heap.size w w' := by
  obtain ⟨a, cap, rfl, l1, l2, l3⟩ := hx.opened
  obtain ⟨a', cap', rfl, k1, k2, k3⟩ := hy.opened
  have HX := Lib.hid l3
  have HY := Lib.hid k3
  unfold maxLen at l2 k2
  obtain ⟨n, hn⟩ : ∃ n, n = xs.length := ⟨_, rfl⟩
  obtain ⟨m, hm⟩ : ∃ m, m = ys.length := ⟨_, rfl⟩
  rw [← hn] at l1 ⊢
  rw [← hm] at k1 ⊢
  have HN := Lib.hid hn
  have HM := Lib.hid hm
  clear l3 k3 hn hm hx hy
  by_cases he : n = m
  · subst he
    go_enter Tryz.func39, Tryz.ntmps39
    go_wp2
    go_loopw [5] (fun i wr => ∃ k : Nat, k ≤ n ∧ i = .int .i64 k ∧ Hid (∀ j, j < k → xs[j]? = ys[j]?) ∧ ∃ q, wr = w.drewN q) (fun i _ => n - (intOf i).toNat)
    case atStart => exact ⟨0, by omega, rfl, by intro j hj; omega, 0, rfl⟩
    case round =>
      obtain ⟨k, hk, rfl, hall, q, rfl⟩ := hrel
      by_cases hlt : k < n
      · obtain ⟨x, ex⟩ : ∃ x, xs[k]? = some x := ⟨_, List.getElem?_eq_getElem (by rw [← HN.out]; exact hlt)⟩
        obtain ⟨y, ey⟩ : ∃ y, ys[k]? = some y := ⟨_, List.getElem?_eq_getElem (by rw [← HM.out]; exact hlt)⟩
        obtain ⟨b, off, rfl, _, c1⟩ := HX.out k x ex
        obtain ⟨b', off', rfl, _, d1⟩ := HY.out k y ey
        have EX := Lib.hid ex
        have EY := Lib.hid ey
        clear ex ey
        have u1 : (0 : Int) ≤ (k : Int) := by omega
        have u2 : (k : Int) < (n : Int) := by omega
        by_cases hxy : x = y
        · have hs : (x.toList == y.toList) = true := by rw [same_str]; exact decide_eq_true hxy
          have HXY := Lib.hid hxy
          clear hxy
          go_wp2
          go_quiet (fail)
          go_wp2
          go_roundw
          case rel =>
            refine ⟨k + 1, by omega, by go_num, ?_, _, rfl⟩
            intro j hj
            by_cases hjk : j = k
            · subst hjk; rw [EX.out, EY.out, HXY.out]
            · exact hall.out j (by omega)
          case measure => simp [intOf]; omega
        · have hs : (x.toList == y.toList) = false := by rw [same_str]; exact decide_eq_false hxy
          have HF : Hid (decide (xs = ys) = false) := Lib.hid (decide_eq_false (fun e => hxy (by
            have h1 := EX.out
            rw [e, EY.out] at h1
            exact (Option.some.inj h1).symm)))
          clear hxy
          go_wp2
          go_quiet (fail)
          go_wp2
          go_ret
          exact ⟨ret_bool HF.out.symm, below_drewN (below_drewN (Below.refl _ _) _) _⟩
      · have HT : Hid (decide (xs = ys) = true) := Lib.hid (decide_eq_true (List.ext_getElem? (fun j => by
          by_cases hj : j < k
          · exact hall.out j hj
          · rw [List.getElem?_eq_none (by rw [← HN.out]; omega), List.getElem?_eq_none (by rw [← HM.out]; omega)])))
        go_wp2
        go_ret
        exact ⟨ret_bool HT.out.symm, below_drewN (Below.refl _ _) _⟩
  · have HF : Hid (decide (xs = ys) = false) := Lib.hid (decide_eq_false (fun e => he (by rw [HN.out, HM.out, e])))
    have h' : ((n : Int) != (m : Int)) = true := by simp; omega
    go_enter Tryz.func39, Tryz.ntmps39
    go_wp2
    go_ret
    exact ⟨ret_bool HF.out.symm, Below.refl _ _⟩
end Go.Proofs.YtinfpbkbnhcifaaGreatDoor

/- What a law's walk keeps: slices of strings, of integers, of items, of parts, and blocks; and each function's contract where these are known. The conditions: the table of constants, lengths. -/
namespace Go.Proofs.YtinfpbkbnhcifaaGreatDoor
open Go.RowKit Go.BigFrame

inductive Dat
  | S (v : Value) (xs : List ByteArray)
  | N (v : Value) (l : List Int)
  | I (v : Value) (its : List ItemP)
  | P (v : Value) (ps : List PartP)
  | B (b : Nat) (cs : Array Value) (T : TypeId)
def PT (w : World) (v : Value) (ps : List PartP) : Prop := ∃ zs : List (PartP × Value), zs.map (·.1) = ps ∧ PS w v zs
theorem PT.below {w w' : World} {v : Value} {ps : List PartP} (h : PT w v ps) (hb : Below w.heap.size w w') : PT w' v ps := let ⟨zs, h1, h2⟩ := h; ⟨zs, h1, h2.below hb⟩
theorem PT.form {w : World} {v : Value} {ps : List PartP} (h : PT w v ps) : ∃ a c, v = .slice a ps.length c := by
  obtain ⟨zs, rfl, h⟩ := h
  obtain ⟨a, c, h, _⟩ := h.opened
  exact ⟨a, c, by rw [h, List.length_map]⟩
theorem IT.form2 {w : World} {v : Value} {its : List ItemP} (h : IT w v its) : ∃ a c, v = .slice a its.length c := by
  obtain ⟨ys, rfl, h⟩ := h
  obtain ⟨a, c, h, _⟩ := h.is.opened
  exact ⟨a, c, by rw [h, List.length_map]⟩
theorem SS.form2 {w : World} {v : Value} {xs : List ByteArray} (h : SS w v xs) : ∃ a c, v = .slice a xs.length c := by
  obtain ⟨a, c, h, _⟩ := h.opened
  exact ⟨a, c, h⟩
theorem IL.form2 {w : World} {v : Value} {xs : List Int} (h : IL w v xs) : ∃ a c, v = .slice a xs.length c := by
  obtain ⟨a, c, h, _⟩ := h.opened
  exact ⟨a, c, h⟩
def Dat.holds (w : World) : Dat → Prop
  | .S v xs => SS w v xs
  | .N v l => IL w v l
  | .I v its => IT w v its
  | .P v ps => PT w v ps
  | .B b cs T => w.heap[b]? = some (.cells cs T (0, 0))
theorem Dat.below {w w' : World} (hb : Below w.heap.size w w') : ∀ d : Dat, d.holds w → d.holds w'
  | .S _ _, h => SS.below h hb
  | .N _ _, h => IL.below h hb
  | .I _ _, h => IT.below h hb
  | .P _ _, h => PT.below h hb
  | .B b _ _, h => (hb.block b (Array.getElem?_eq_some_iff.1 h).1).trans h

structure Know (w0 w : World) (ls : List Dat) : Prop where
  below : Below w0.heap.size w0 w
  env : Env w
  tab : 0 < w.heap.size
  all : ∀ (i : Nat) (d : Dat), ls[i]? = some d → d.holds w
theorem Know.start {w : World} (he : Env w) (hg : 0 < w.heap.size) : Know w w [] := ⟨Below.refl _ _, he, hg, fun i d h => by simp at h⟩
theorem Know.step {w0 w w' : World} {ls : List Dat} (k : Know w0 w ls) (hb : Below w.heap.size w w') : Know w0 w' ls :=
  ⟨k.below.trans (hb.mono k.below.size), k.env.below hb k.tab, Nat.lt_of_lt_of_le k.tab hb.size, fun i d h => d.below hb (k.all i d h)⟩
theorem Know.put {w0 w : World} {ls : List Dat} (k : Know w0 w ls) {d : Dat} (hd : d.holds w) : Know w0 w (ls ++ [d]) := by
  refine ⟨k.below, k.env, k.tab, fun i d' h => ?_⟩
  rcases Nat.lt_or_ge i ls.length with hi | hi
  · rw [List.getElem?_append_left hi] at h
    exact k.all i d' h
  · rw [List.getElem?_append_right hi] at h
    rcases Nat.eq_zero_or_pos (i - ls.length) with h0 | h0
    · rw [h0] at h
      simp at h
      subst h
      exact hd
    · rw [List.getElem?_eq_none (by simp; omega)] at h
      cases h
theorem Know.alloc {w0 w : World} {ls : List Dat} (k : Know w0 w ls) (o : Obj) : Know w0 (w.alloc o) ls := k.step ((Below.refl _ _).alloc (Nat.le_refl _) _)
theorem Know.drewN {w0 w : World} {ls : List Dat} (k : Know w0 w ls) (n : Nat) : Know w0 (w.drewN n) ls := k.step (below_drewN (Below.refl _ _) n)
theorem Know.drew {w0 w : World} {ls : List Dat} (k : Know w0 w ls) : Know w0 w.drew ls := k.drewN 1
theorem Know.box {w0 w : World} {ls : List Dat} (k : Know w0 w ls) (cs : Array Value) (T : TypeId) : Know w0 (w.alloc (.cells cs T)) (ls ++ [.B w.heap.size cs T]) := (k.alloc _).put (heap_alloc_new w _)

/-! ### Slices that are written out -/
theorem slice_lit {w : World} {b n size : Nat} {T : TypeId} {fz : Nat × Nat} {cs : List (List Value)} (h : w.heap[b]? = some (.cells cs.flatten.toArray T fz)) (hs : ∀ c ∈ cs, c.length = size) (hn : n = cs.length) (hm : cs.length ≤ 1000) : SliceAt w (.slice (some ⟨b, 0, none⟩) n n) size cs := by
  subst hn
  refine ⟨_, cs.length, rfl, Nat.le_refl _, by unfold maxLen; omega, .inr ⟨b, 0, rfl, (Array.getElem?_eq_some_iff.1 h).1, fun i c hi j u hj => ?_⟩⟩
  have key : ∀ (ds : List (List Value)), (∀ c ∈ ds, c.length = size) → ∀ i c, ds[i]? = some c → ∀ j u, c[j]? = some u → ds.flatten[i * size + j]? = some u := by
    intro ds
    induction ds with
    | nil => intro _ i c hi; simp at hi
    | cons d ds ih =>
      intro hds i c hi j u hj
      cases i with
      | zero =>
        simp at hi; subst hi
        have hlt : j < d.length := (List.getElem?_eq_some_iff.1 hj).1
        simp only [List.flatten_cons, Nat.zero_mul, Nat.zero_add]
        rw [List.getElem?_append_left hlt]; exact hj
      | succ i =>
        simp at hi
        have hd : d.length = size := hds d (by simp)
        have := ih (fun c hc => hds c (by simp [hc])) i c hi j u hj
        simp only [List.flatten_cons]
        rw [List.getElem?_append_right (by rw [hd, Nat.succ_mul]; omega), ← this]
        congr 1
        rw [hd, Nat.succ_mul]; omega
  rw [cell_of_row w b _ _ T fz h, Nat.zero_add, List.getElem?_toArray]
  exact key cs hs i c hi j u hj
theorem SS.lit {w : World} {b n : Nat} {T : TypeId} {fz : Nat × Nat} (xs : List ByteArray) (h : w.heap[b]? = some (.cells (xs.map Value.string).toArray T fz)) (hn : n = xs.length) (hm : xs.length ≤ 1000) : SS w (.slice (some ⟨b, 0, none⟩) n n) xs := by
  have e : (scells xs).flatten = xs.map Value.string := by
    unfold scells
    clear h hn hm
    induction xs with
    | nil => rfl
    | cons x xs ih => simp [ih]
  refine slice_lit (cs := scells xs) (by rw [e]; exact h) (scells_one xs) (by unfold scells; rw [List.length_map]; exact hn) (by unfold scells; rw [List.length_map]; exact hm)
theorem IL.lit {w : World} {b n : Nat} {T : TypeId} {fz : Nat × Nat} (xs : List Int) (h : w.heap[b]? = some (.cells (xs.map (Value.int .i64)).toArray T fz)) (hn : n = xs.length) (hm : xs.length ≤ 1000) : IL w (.slice (some ⟨b, 0, none⟩) n n) xs := by
  have e : (icells xs).flatten = xs.map (Value.int .i64) := by
    unfold icells
    clear h hn hm
    induction xs with
    | nil => rfl
    | cons x xs ih => simp [ih]
  refine slice_lit (cs := icells xs) (by rw [e]; exact h) (icells_one xs) (by unfold icells; rw [List.length_map]; exact hn) (by unfold icells; rw [List.length_map]; exact hm)
def pbox (p : PartP) (iv : Value) : Array Value := #[.int .i64 p.head.car, .int .i64 p.head.siz, .string p.head.root, .string p.head.sl, iv]

/-! ### The contracts at what is known -/
section
variable {w0 w : World} {ls : List Dat}
def Says (w0 : World) (ls : List Dat) (r : Value) (e : Ending) (w' : World) : Prop := e = .returned r ∧ Know w0 w' ls

theorem shown_mem {key : ByteArray} {car : Int} {xs : List ByteArray} {n : Nat} {is : List Nat} : (partS key car xs n is).items.length = is.length := by unfold partS; rw [List.length_map]
def FitOne (p : PartP) : Prop := p.head.root.size ≤ 1000 ∧ p.items.length ≤ 100000 ∧ ∀ x ∈ p.items, x.prf.length ≤ 1000
theorem proofB_len (l : List ByteArray) (i : Nat) : (proofB l i).length ≤ l.length := by
  unfold proofB
  rw [List.length_reverse]
  exact downL_len leafS nodeS (sumS ⟨#[]⟩) l i
theorem fit_part (key : ByteArray) (car : Int) (xs : List ByteArray) (n : Nat) (is : List Nat) (h : is.length ≤ 1000) (hx : xs.length ≤ 1000) : FitOne (partS key car xs n is) := by
  refine ⟨?_, by rw [shown_mem]; omega, fun x hx' => ?_⟩
  · show (rootB _).size ≤ 1000
    rw [rootB_size]; omega
  · unfold partS at hx'
    obtain ⟨i, _, rfl⟩ := List.mem_map.1 hx'
    show (proofB (xs.take n) i).length ≤ 1000
    have := proofB_len (xs.take n) i
    rw [List.length_take] at this
    omega

theorem check_at (k : Know w0 w ls) (i : Nat) {iv : Value} {key : ByteArray} {p : PartP} (hi : ls[i]? = some (.I iv p.items)) (hk : key.size ≤ 1000) (hf : FitOne p) (b : Bool) (hb : checkB key p = b) :
    Calls Tryz.prog 24 #[.string key, .agg (pbox p iv)] w (Says w0 ls (.bool b)) := by
  obtain ⟨ys, hys, his⟩ := (k.all i _ hi : IT w iv p.items)
  obtain ⟨⟨c, s, r, l⟩, its⟩ := p
  obtain ⟨f1, f2, f3⟩ := hf
  simp only at hys f1 f2 f3
  subst hys
  exact (check_any key c s r l his.is hk f1 (by rw [List.length_map] at f2; exact f2) (fun y hy => f3 y.1 (List.mem_map.2 ⟨y, hy, rfl⟩)) k.env k.tab).mono fun _ _ ⟨h1, h2⟩ => ⟨by rw [h1, ← hb], k.step h2⟩
theorem conv_at2 (k : Know w0 w ls) (i j : Nat) {iv jv : Value} {key : ByteArray} {p q : PartP} (hi : ls[i]? = some (.I iv p.items)) (hj : ls[j]? = some (.I jv q.items)) (hk : key.size ≤ 1000) (hf : FitOne p) (hf' : FitOne q) (b : Bool) (hb : convictsB key p q = b) :
    Calls Tryz.prog 22 #[.string key, .agg (pbox p iv), .agg (pbox q jv)] w (Says w0 ls (.bool b)) := by
  obtain ⟨ys, hys, his⟩ := (k.all i _ hi : IT w iv p.items)
  obtain ⟨ys', hys', his'⟩ := (k.all j _ hj : IT w jv q.items)
  obtain ⟨⟨c, s, r, l⟩, its⟩ := p
  obtain ⟨⟨c', s', r', l'⟩, its'⟩ := q
  obtain ⟨f1, f2, f3⟩ := hf
  obtain ⟨g1, g2, g3⟩ := hf'
  simp only at hys hys' f1 f2 f3 g1 g2 g3
  subst hys hys'
  exact (convicts2_any key c s r l c' s' r' l' his.is his'.is (by rw [List.length_map] at f2; exact f2) (by rw [List.length_map] at g2; exact g2) hk f1 g1 (fun y hy => f3 y.1 (List.mem_map.2 ⟨y, hy, rfl⟩)) (fun y hy => g3 y.1 (List.mem_map.2 ⟨y, hy, rfl⟩)) k.env k.tab).mono fun _ _ ⟨h1, h2⟩ => ⟨by rw [h1, ← hb], k.step h2⟩
def hbox (h : HeadP) : Array Value := #[.int .i64 h.car, .int .i64 h.siz, .string h.root, .string h.sl]
theorem genuine_at (k : Know w0 w ls) (key : ByteArray) (h : HeadP) (hk : key.size ≤ 1000) (hr : h.root.size ≤ 1000) (b : Bool) (hb : genuineB key h = b) :
    Calls Tryz.prog 40 #[.string key, .agg (hbox h)] w (Says w0 ls (.bool b)) :=
  (genuine_any key h.car h.siz h.root h.sl w hk hr k.env k.tab).mono fun _ _ ⟨h1, h2⟩ => ⟨by rw [h1, ← hb], k.step h2⟩
theorem extends_at (k : Know w0 w ls) (i : Nat) {v : Value} {pr : List ByteArray} (hi : ls[i]? = some (.S v pr)) (key : ByteArray) (h h' : HeadP) (hk : key.size ≤ 1000) (hr : h.root.size ≤ 1000) (hr' : h'.root.size ≤ 1000) (hl : pr.length ≤ 1000) (b : Bool) (hb : extendsB key h h' pr = b) :
    Calls Tryz.prog 35 #[.string key, .agg (hbox h), .agg (hbox h'), v] w (Says w0 ls (.bool b)) :=
  (extends_any key h.car h.siz h.root h.sl h'.car h'.siz h'.root h'.sl hk hr hr' (k.all i _ hi : SS w v pr) hl k.env k.tab).mono fun _ _ ⟨h1, h2⟩ => ⟨by rw [h1, ← hb], k.step h2⟩
theorem key_at (k : Know w0 w ls) (c : Nat) (hc : c ≤ 1000) : Calls Tryz.prog 15 #[.int .i64 c] w (Says w0 ls (.string (keyS c))) :=
  (key_any c hc w).mono fun _ _ ⟨h1, h2⟩ => ⟨h1, k.step h2⟩
theorem valid_at (k : Know w0 w ls) (i : Nat) {v : Value} {xs : List ByteArray} (hi : ls[i]? = some (.S v xs)) (car : Int) (b : Bool) (hb : validB ⟨car, xs⟩ = b) :
    Calls Tryz.prog 44 #[.agg #[.int .i64 car, v]] w (Says w0 ls (.bool b)) :=
  (valid_any car (k.all i _ hi : SS w v xs)).mono fun _ _ ⟨h1, h2⟩ => ⟨by rw [h1, hb], by rw [h2]; exact k.alloc _⟩
def GivesS (w0 : World) (ls : List Dat) (zs : List ByteArray) (err : Int) (e : Ending) (w' : World) : Prop := ∃ r, e = .returned (.tuple #[r, .int .i64 err]) ∧ Know w0 w' (ls ++ [.S r zs])
theorem grown_at (k : Know w0 w ls) (i : Nat) {v : Value} {xs : List ByteArray} (hi : ls[i]? = some (.S v xs)) (car : Int) (m n : Nat) (hv : validB ⟨car, xs⟩ = true) (hn : n ≤ xs.length) (hm : m ≤ n) (zs : List ByteArray) (hz : grownB ⟨car, xs⟩ m n = some zs) :
    Calls Tryz.prog 34 #[.agg #[.int .i64 car, v], .int .i64 m, .int .i64 n] w (GivesS w0 ls zs 0) := by
  have e : (if (m : Int) = 0 then [] else (extB (xs.take n) m true).reverse) = zs := by
    unfold grownB at hz
    rw [if_pos ⟨hv, ⟨by omega, by show (n : Int) ≤ (xs.length : Int); omega⟩, by omega, by omega⟩] at hz
    exact Option.some.inj hz
  refine (grown_yes (car := car) (k.all i _ hi : SS w v xs) hv hn hm k.env k.tab).mono ?_
  rintro e1 w' ⟨v', rfl, h2, h3⟩
  rw [e] at h2
  exact ⟨v', rfl, (k.step h3).put h2⟩
def GivesP (w0 : World) (ls : List Dat) (p : PartP) (e : Ending) (w' : World) : Prop := ∃ iv, e = .returned (.tuple #[.agg (pbox p iv), .int .i64 0]) ∧ Know w0 w' (ls ++ [.I iv p.items])
theorem show_at (k : Know w0 w ls) (i j : Nat) {v vl : Value} {xs : List ByteArray} (hi : ls[i]? = some (.S v xs)) (is : List Nat) (hj : ls[j]? = some (.N vl (is.map fun i : Nat => (i : Int)))) (key : ByteArray) (car : Int) (n : Nat) (hk : key.size = 32) (hv : validB ⟨car, xs⟩ = true) (hn : n ≤ xs.length) (hp : is.Pairwise (· < ·)) (hl : ∀ i ∈ is, i < n) (hll : is.length ≤ 1000) :
    Calls Tryz.prog 18 #[.string key, .agg #[.int .i64 car, v], .int .i64 n, vl] w (GivesP w0 ls (partS key car xs n is)) := by
  refine (show_yes (k.all i _ hi : SS w v xs) (k.all j _ hj : IL w vl _) hk hv hn (by rw [List.length_map]; omega) k.env k.tab).mono ?_
  have e := items_asc xs n is none hp hl (fun j e => by cases e)
  rintro e1 w' ⟨h1, h2⟩
  rw [e] at h1
  rcases h1 with ⟨h1, _⟩ | ⟨v', ys, h3, rfl, h5⟩
  · cases h1
  · refine ⟨v', rfl, (k.step h2).put (d := .I v' (partS key car xs n is).items) ⟨ys, ?_, h5⟩⟩
    exact (Option.some.inj h3).symm
def GivesJ (w0 : World) (ls : List Dat) (its : List ItemP) (i j : Int) (e : Ending) (w' : World) : Prop := ∃ r, e = .returned (.tuple #[r, .int .i64 i, .int .i64 j, .int .i64 0]) ∧ Know w0 w' (ls ++ [.I r its])
theorem join_at (k : Know w0 w ls) (i : Nat) {v : Value} {ps : List PartP} (hi : ls[i]? = some (.P v ps)) (key : ByteArray) (hk : key.size ≤ 1000) (hl : ps.length ≤ 1000) (hf : ∀ p ∈ ps, FitOne p) (its : List ItemP) (a b : Int) (h : joinR key ps = some (its, a, b)) :
    Calls Tryz.prog 26 #[.string key, v] w (GivesJ w0 ls its a b) := by
  obtain ⟨zs, rfl, hz⟩ := (k.all i _ hi : PT w v ps)
  refine (join_any hz ⟨by rw [List.length_map] at hl; exact hl, fun z hz' => hf z.1 (List.mem_map.2 ⟨z, hz', rfl⟩)⟩ hk k.env k.tab).mono ?_
  rintro e w' ⟨h1, h2⟩
  rw [h] at h1
  obtain ⟨r, rfl, h3⟩ := h1
  exact ⟨r, rfl, (k.step h2).put (d := .I r its) h3⟩
def HandsR (w0 : World) (ls : List Dat) (car : Int) (xs : List ByteArray) (e : Ending) (w' : World) : Prop := ∃ r, e = .returned (.agg #[.int .i64 car, r]) ∧ Know w0 w' (ls ++ [.S r xs])
theorem made_at (k : Know w0 w ls) {v : Value} {x : List Int} (hx : IL w v x) (hr : ∀ n ∈ x, I64 n) (car : Int) (hc : I64 car) : Calls Tryz.prog 13 #[.int .i64 car, v] w (HandsR w0 ls (pickI car 8) (madeL x)) :=
  (made_any car hc hx hr).mono fun _ _ ⟨r, h1, h2, h3⟩ => ⟨r, h1, (k.step h3).put (d := .S r _) h2⟩
end
end Go.Proofs.YtinfpbkbnhcifaaGreatDoor
