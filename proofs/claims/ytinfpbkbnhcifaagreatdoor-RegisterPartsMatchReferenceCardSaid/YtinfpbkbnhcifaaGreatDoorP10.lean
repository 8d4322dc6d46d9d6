/- The walk of the reference's Join. The conditions: what the slices read as, lengths. -/
import Derived.Test.YtinfpbkbnhcifaaGreatDoorP09
namespace Go.Proofs.YtinfpbkbnhcifaaGreatDoor
open Go.RowKit Go.BigFrame

theorem results_tmp4 {fn : Func} {t u v x : Tmp} (h : fn.results = #[.tmp t, .tmp u, .tmp v, .tmp x]) (tmps : Array Value) (P : Program) (w : World) :
    (results fn tmps).run P w = .ok (.tuple #[tmps.getD t undef, tmps.getD u undef, tmps.getD v undef, tmps.getD x undef]) w := by
  simp [results, h]
set_option maxHeartbeats 8000000 in
set_option maxRecDepth 100000 in
theorem rjoin_any (key : ByteArray) {w : World} {v : Value} {zs : List (PartP × Value)} (hz : PS w v zs) (hf : FitP zs) (hk : key.size ≤ 1000) :
    Calls Tryz.prog 27 #[.string key, v] w (JoinIs w (joinZ (joinR key (zs.map (·.1)))) (joinE (joinR key (zs.map (·.1))))) := by
  obtain ⟨a, cap, rfl, l1, l2, l3⟩ := hz.opened
  unfold maxLen at l2
  have H3 := Lib.hid l3
  obtain ⟨R, hR⟩ : ∃ R, R = joinR key (zs.map (·.1)) := ⟨_, rfl⟩
  have HR := Lib.hid hR
  rw [← hR]
  have hn1000 : zs.length ≤ 1000 := hf.1
  obtain ⟨n, hn⟩ : ∃ n, n = zs.length := ⟨_, rfl⟩
  rw [← hn] at l1 hn1000 ⊢
  have HN := Lib.hid hn
  have HCK : Hid (∀ (k : Nat) (z : PartP × Value), zs[k]? = some z → ∀ W, Below w.heap.size w W → Calls Tryz.prog 25 #[.string key, .agg #[.int .i64 z.1.head.car, .int .i64 z.1.head.siz, .string z.1.head.root, .string z.1.head.sl, z.2]] W fun e w' => e = .returned (.bool (checkB key z.1)) ∧ Below W.heap.size W w') := Lib.hid (fun k z hz' W hW => by
    have h1 := IT.below (hz.2 z (List.mem_of_getElem? hz')) hW
    have h2 : FitOne z.1 := hf.2 z (List.mem_of_getElem? hz')
    exact rcheck_it key z.1 h1 h2 hk)
  have HCV : Hid (∀ (k : Nat) (z : PartP × Value) (k' : Nat) (z' : PartP × Value), zs[k]? = some z → zs[k']? = some z' → ∀ W, Below w.heap.size w W → Calls Tryz.prog 59 #[.agg #[.int .i64 z.1.head.car, .int .i64 z.1.head.siz, .string z.1.head.root, .string z.1.head.sl, z.2], .agg #[.int .i64 z'.1.head.car, .int .i64 z'.1.head.siz, .string z'.1.head.root, .string z'.1.head.sl, z'.2]] W fun e w' => e = .returned (.bool (convR z.1 z'.1)) ∧ Below W.heap.size W w') := Lib.hid (fun k z k' z' h h' W hW => by
    have h1 := IT.below (hz.2 z (List.mem_of_getElem? h)) hW
    have h2 := IT.below (hz.2 z' (List.mem_of_getElem? h')) hW
    exact rconv_it z.1 z'.1 h1 h2)
  have HIT : Hid (∀ (k : Nat) (z : PartP × Value), zs[k]? = some z → IT w z.2 z.1.items) := Lib.hid (fun k z h => hz.2 z (List.mem_of_getElem? h))
  have HLN : Hid (∀ (k : Nat) (z : PartP × Value), zs[k]? = some z → z.1.items.length ≤ 100000) := Lib.hid (fun k z h => (hf.2 z (List.mem_of_getElem? h)).2.1)
  clear hR hn l3 hz hf
  by_cases hk32 : key.size = 32
  · have t0 : ¬ ¬ (key.size : Int) = 32 := by omega
    have HBD : Hid (∀ b, (zs.any fun z => badP key (firstCar (zs.map (·.1))) z.1) = b → joinBad key (zs.map (·.1)) = b) := Lib.hid (fun b h => by
      unfold joinBad
      rw [decide_eq_true hk32, List.any_map]
      exact h)
    obtain ⟨car0, hcar0⟩ : ∃ c, c = firstCar (zs.map (·.1)) := ⟨_, rfl⟩
    have HC0 : Hid (0 < n → ∃ b off, a = some ⟨b, off, none⟩ ∧ b < w.heap.size ∧ w.cell? ⟨b, off, none⟩ = some (.int .i64 car0)) := Lib.hid (fun h => by
      obtain ⟨z, ez⟩ : ∃ z, zs[0]? = some z := ⟨_, List.getElem?_eq_getElem (by rw [← HN.out]; exact h)⟩
      obtain ⟨b, off, ea, hb, hat⟩ := H3.out 0 z ez
      refine ⟨b, off, ea, hb, ?_⟩
      have h0 := hat.1
      rw [Nat.zero_mul, Nat.add_zero] at h0
      rw [h0, hcar0]
      cases zs with
      | nil => cases ez
      | cons y l => injection ez with ez; subst ez; rfl)
    rw [← hcar0] at HBD
    clear hcar0
    go_enter Tryz.func27, Tryz.ntmps27
    have HA0 : Hid (zs.any (fun z => badP key car0 z.1) = (zs.drop 0).any fun z => badP key car0 z.1) := Lib.hid rfl
    obtain ⟨AB, hAB⟩ : ∃ AB, AB = zs.any fun z => badP key car0 z.1 := ⟨_, rfl⟩
    rw [← hAB] at HA0 HBD
    clear hAB
    have HBs : Hid (Below w.heap.size w w) := Lib.hid (Below.refl _ _)
    go_wp2
    go_loopw [8] (fun i wr => ∃ k : Nat, k ≤ n ∧ i = .int .i64 k ∧ Hid (AB = (zs.drop k).any fun z => badP key car0 z.1) ∧ Hid (Below w.heap.size w wr)) (fun i _ => n - (intOf i).toNat)
    case atStart => exact ⟨0, by omega, rfl, HA0, HBs⟩
    case round =>
      clear HA0 HBs
      obtain ⟨k, hk', rfl, hA, hB⟩ := hrel
      by_cases hlt : k < n
      · obtain ⟨z, ez⟩ : ∃ z, zs[k]? = some z := ⟨_, List.getElem?_eq_getElem (by rw [← HN.out]; exact hlt)⟩
        obtain ⟨b, off, rfl, hb, hat⟩ := H3.out k z ez
        obtain ⟨b', off', eb, _, hc0⟩ := HC0.out (by omega)
        cases eb
        have HCK' := Lib.hid (fun W (hW : Below wr.heap.size wr W) => HCK.out k z ez W (below_next hB.out hW))
        have HL : Hid (∀ W, Below wr.heap.size wr W → (W.cell? ⟨b, off + k * 5, none⟩ = some (.int .i64 z.1.head.car) ∧ W.cell? ⟨b, off + k * 5 + 1, none⟩ = some (.int .i64 z.1.head.siz) ∧ W.cell? ⟨b, off + k * 5 + 2, none⟩ = some (.string z.1.head.root) ∧ W.cell? ⟨b, off + k * 5 + 3, none⟩ = some (.string z.1.head.sl) ∧ W.cell? ⟨b, off + k * 5 + 4, none⟩ = some z.2) ∧ W.cell? ⟨b, off, none⟩ = some (.int .i64 car0)) := Lib.hid (fun W hW => ⟨hat.keep (below_next hB.out hW) hb, cell_keepB (below_next hB.out hW) hb hc0⟩)
        have HA2 : Hid (AB = (badP key car0 z.1 || (zs.drop (k + 1)).any fun z => badP key car0 z.1)) := Lib.hid (by rw [hA.out, any_drop _ ez])
        obtain ⟨ia, il, ic, hiv⟩ := (HIT.out k z ez).form
        have tk : (k : Int) < (n : Int) := by omega
        have tk0 : (0 : Int) ≤ (k : Int) := by omega
        have tn : (0 : Int) < (n : Int) := by omega
        have tnn : 0 < n := by omega
        obtain ⟨⟨⟨c, s, r, sl⟩, its⟩, pv⟩ := z
        simp only at hiv HCK' HL HA2
        subst hiv
        obtain ⟨T, hT⟩ : ∃ T, T = badP key car0 ⟨⟨c, s, r, sl⟩, its⟩ := ⟨_, rfl⟩
        have HT : Hid (T = (!checkB key ⟨⟨c, s, r, sl⟩, its⟩ || decide (c ≠ car0))) := Lib.hid hT
        rw [← hT] at HA2
        generalize checkB key ⟨⟨c, s, r, sl⟩, its⟩ = cb at *
        clear hT hat hc0 ez hA
        have HCK := HCK'
        clear HCK'
        go_upto_region 6 with fail
        go_cut [45] (fun t wx => t = .bool T ∧ Hid (Below wr.heap.size wr wx))
        case first =>
          cases cb with
          | false =>
            have HF : Hid (T = true) := Lib.hid (by rw [HT.out]; rfl)
            refine wp_region_noPanic ?_
            refine wp_region_lexB [.q 0, .q 1, .q 2, .q 3, .q 4, .b 5, .q 6, .q 7, .q 8, .q 9, .q 10, .q 11, .q 12, .q 13, .q 14, .q 15, .q 16, .q 17, .q 18, .q 19, .q 20] (by kernel_rfl) (by kernel_rfl) (fun _ _ _ _ h => h) ?_
            iterate 5 (refine wpFl_qL (v := ?_) rfl (Or.inl ⟨by rfl, ?_⟩) ?_; rotate_left; (focus (intro w' hSw; (try dsimp only [OldKept] at hSw); obtain ⟨⟨e0, e1, e2, e3, e4⟩, f0⟩ := HL.out w' hSw; go_simp; (try with_reducible rfl); done)); simp only [Act.put, List.setIfInBounds_toArray, List.set_cons_zero, List.set_cons_succ])
            refine wpFl_bL rfl (fun w8 hn8 hs8 K hK => ?_)
            go_simp
            go_at_call 25
            (with_reducible refine (HCK.out _ hs8).mono ?_)
            rintro e w9 ⟨rfl, hb9⟩
            have HB9 := Lib.hid (below_next hs8 hb9)
            refine hK.out _ _ HB9.out (Keeps.below hb9) ?_
            clear hK K hn8 hs8 hb9
            refine wpFl_qL (v := .bool true) rfl (Or.inl ⟨by rfl, ?_⟩) ?_
            focus (intro w' hSw; go_simp; done)
            simp only [Act.put, List.setIfInBounds_toArray, List.set_cons_zero, List.set_cons_succ]
            refine wpFl_qL (v := ?_) rfl (Or.inl ⟨by rfl, ?_⟩) ?_
            rotate_left
            focus (intro w' hSw; (try dsimp only [OldKept] at hSw); go_simp; (try with_reducible rfl); done)
            simp only [Act.put, List.setIfInBounds_toArray, List.set_cons_zero, List.set_cons_succ]
            iterate 12 (refine wpFl_qL (v := undef) rfl (Or.inr ⟨by rfl, rfl⟩) ?_; simp only [Act.put, List.setIfInBounds_toArray, List.set_cons_zero, List.set_cons_succ])
            refine wpFl_qL (v := .bool true) rfl (Or.inl ⟨by rfl, ?_⟩) ?_
            focus (intro w' hSw; go_simp; done)
            simp only [Act.put, List.setIfInBounds_toArray, List.set_cons_zero, List.set_cons_succ]
            refine wpFl_nil ?_
            refine NoPanic.normal ?_
            go_wp2
            go_meet
            case rel => exact ⟨by simp [HF.out], HB9⟩
          | true =>
            by_cases hcc : c = car0
            · have HF : Hid (T = false) := Lib.hid (by rw [HT.out, decide_eq_false (fun h => h hcc)]; rfl)
              subst hcc
              refine wp_region_noPanic ?_
              refine wp_region_lexB [.q 0, .q 1, .q 2, .q 3, .q 4, .b 5, .q 6, .q 7, .q 8, .q 9, .q 10, .q 11, .q 12, .q 13, .q 14, .q 15, .q 16, .q 17, .q 18, .q 19, .q 20] (by kernel_rfl) (by kernel_rfl) (fun _ _ _ _ h => h) ?_
              iterate 5 (refine wpFl_qL (v := ?_) rfl (Or.inl ⟨by rfl, ?_⟩) ?_; rotate_left; (focus (intro w' hSw; (try dsimp only [OldKept] at hSw); obtain ⟨⟨e0, e1, e2, e3, e4⟩, f0⟩ := HL.out w' hSw; go_simp; (try with_reducible rfl); done)); simp only [Act.put, List.setIfInBounds_toArray, List.set_cons_zero, List.set_cons_succ])
              refine wpFl_bL rfl (fun w8 hn8 hs8 K hK => ?_)
              go_simp
              go_at_call 25
              (with_reducible refine (HCK.out _ hs8).mono ?_)
              rintro e w9 ⟨rfl, hb9⟩
              have HB9 := Lib.hid (below_next hs8 hb9)
              refine hK.out _ _ HB9.out (Keeps.below hb9) ?_
              clear hK K hn8 hs8 hb9
              refine wpFl_qL (v := .bool false) rfl (Or.inl ⟨by rfl, ?_⟩) ?_
              focus (intro w' hSw; go_simp; done)
              simp only [Act.put, List.setIfInBounds_toArray, List.set_cons_zero, List.set_cons_succ]
              refine wpFl_qL (v := ?_) rfl (Or.inl ⟨by rfl, ?_⟩) ?_
              rotate_left
              focus (intro w' hSw; (try dsimp only [OldKept] at hSw); go_simp; (try with_reducible rfl); done)
              simp only [Act.put, List.setIfInBounds_toArray, List.set_cons_zero, List.set_cons_succ]
              iterate 11 (refine wpFl_qL (v := ?_) rfl (Or.inl ⟨by rfl, ?_⟩) ?_; rotate_left; (focus (intro w' hSw; (try dsimp only [OldKept] at hSw); obtain ⟨⟨e0, e1, e2, e3, e4⟩, f0⟩ := HL.out w' hSw; go_simp; (try with_reducible rfl); done)); simp only [Act.put, List.setIfInBounds_toArray, List.set_cons_zero, List.set_cons_succ])
              refine wpFl_qL (v := .bool false) rfl (Or.inl ⟨by rfl, ?_⟩) ?_
              focus (intro w' hSw; go_simp; done)
              simp only [Act.put, List.setIfInBounds_toArray, List.set_cons_zero, List.set_cons_succ]
              refine wpFl_qL (v := .bool false) rfl (Or.inl ⟨by rfl, ?_⟩) ?_
              focus (intro w' hSw; go_simp; done)
              simp only [Act.put, List.setIfInBounds_toArray, List.set_cons_zero, List.set_cons_succ]
              refine wpFl_nil ?_
              refine NoPanic.normal ?_
              go_wp2
              go_meet
              case rel => exact ⟨by simp [HF.out], HB9⟩
            · have HF : Hid (T = true) := Lib.hid (by rw [HT.out, decide_eq_true hcc]; rfl)
              have hd : decide (c = car0) = false := decide_eq_false hcc
              refine wp_region_noPanic ?_
              refine wp_region_lexB [.q 0, .q 1, .q 2, .q 3, .q 4, .b 5, .q 6, .q 7, .q 8, .q 9, .q 10, .q 11, .q 12, .q 13, .q 14, .q 15, .q 16, .q 17, .q 18, .q 19, .q 20] (by kernel_rfl) (by kernel_rfl) (fun _ _ _ _ h => h) ?_
              iterate 5 (refine wpFl_qL (v := ?_) rfl (Or.inl ⟨by rfl, ?_⟩) ?_; rotate_left; (focus (intro w' hSw; (try dsimp only [OldKept] at hSw); obtain ⟨⟨e0, e1, e2, e3, e4⟩, f0⟩ := HL.out w' hSw; go_simp; (try with_reducible rfl); done)); simp only [Act.put, List.setIfInBounds_toArray, List.set_cons_zero, List.set_cons_succ])
              refine wpFl_bL rfl (fun w8 hn8 hs8 K hK => ?_)
              go_simp
              go_at_call 25
              (with_reducible refine (HCK.out _ hs8).mono ?_)
              rintro e w9 ⟨rfl, hb9⟩
              have HB9 := Lib.hid (below_next hs8 hb9)
              refine hK.out _ _ HB9.out (Keeps.below hb9) ?_
              clear hK K hn8 hs8 hb9
              refine wpFl_qL (v := .bool false) rfl (Or.inl ⟨by rfl, ?_⟩) ?_
              focus (intro w' hSw; go_simp; done)
              simp only [Act.put, List.setIfInBounds_toArray, List.set_cons_zero, List.set_cons_succ]
              refine wpFl_qL (v := ?_) rfl (Or.inl ⟨by rfl, ?_⟩) ?_
              rotate_left
              focus (intro w' hSw; (try dsimp only [OldKept] at hSw); go_simp; (try with_reducible rfl); done)
              simp only [Act.put, List.setIfInBounds_toArray, List.set_cons_zero, List.set_cons_succ]
              iterate 11 (refine wpFl_qL (v := ?_) rfl (Or.inl ⟨by rfl, ?_⟩) ?_; rotate_left; (focus (intro w' hSw; (try dsimp only [OldKept] at hSw); obtain ⟨⟨e0, e1, e2, e3, e4⟩, f0⟩ := HL.out w' hSw; go_simp; (try with_reducible rfl); done)); simp only [Act.put, List.setIfInBounds_toArray, List.set_cons_zero, List.set_cons_succ])
              refine wpFl_qL (v := .bool true) rfl (Or.inl ⟨by rfl, ?_⟩) ?_
              focus (intro w' hSw; go_simp; done)
              simp only [Act.put, List.setIfInBounds_toArray, List.set_cons_zero, List.set_cons_succ]
              refine wpFl_qL (v := .bool true) rfl (Or.inl ⟨by rfl, ?_⟩) ?_
              focus (intro w' hSw; go_simp; done)
              simp only [Act.put, List.setIfInBounds_toArray, List.set_cons_zero, List.set_cons_succ]
              refine wpFl_nil ?_
              refine NoPanic.normal ?_
              go_wp2
              go_meet
              case rel => exact ⟨by simp [HF.out], HB9⟩
        case rest =>
        obtain ⟨ht, HBc⟩ := hcut
        subst ht
        have HB2 := Lib.hid (below_next hB.out HBc.out)
        cases T with
        | true =>
          have HF : Hid (R = none) := Lib.hid (by
            rw [HR.out]
            unfold joinR
            rw [if_pos (HBD.out true (by rw [HA2.out]; rfl))])
          go_wp2
          rw [HF.out]
          exact bodyPost_ret (results_tmp4 rfl _ _ _) rfl ⟨none, 0, rfl, ⟨[], rfl, ISt.nil _⟩, HB2.out⟩
        | false =>
          have HF : Hid (AB = (zs.drop (k + 1)).any fun z => badP key car0 z.1) := Lib.hid (by rw [HA2.out]; rfl)
          go_wp2
          go_roundw
          case rel => exact ⟨k + 1, by omega, by go_num, HF, HB2⟩
          case measure => simp [intOf]; omega
      · have tk : ¬ (k : Int) < (n : Int) := by omega
        have HJB : Hid (joinBad key (zs.map (·.1)) = false) := Lib.hid (HBD.out false (by rw [hA.out, any_drop_end _ (by rw [← HN.out]; omega)]))
        have HRJ : Hid (R = some (joinP2 (zs.map (·.1)))) := Lib.hid (by rw [HR.out]; unfold joinR; rw [if_neg (by rw [HJB.out]; simp)])
        clear HBD HC0 hA HR
        obtain ⟨ps, hps⟩ : ∃ ps, ps = zs.map (·.1) := ⟨_, rfl⟩
        rw [← hps] at HJB HRJ
        have HPN : Hid (ps.length = n) := Lib.hid (by rw [hps, List.length_map, ← HN.out])
        have HPG : Hid (∀ (k : Nat) (z : PartP × Value), zs[k]? = some z → ps[k]? = some z.1) := Lib.hid (fun k z h => by rw [hps, List.getElem?_map, h]; rfl)
        clear hps
        have HPA : Hid (∀ (i k : Nat) (z z' : PartP × Value), zs[i]? = some z → zs[k]? = some z' → pairAt ps (i, k) = convR z.1 z'.1) := Lib.hid (fun i k z z' h h' => by
          unfold pairAt
          rw [HPG.out i z h, HPG.out k z' h']
          exact conv_asc (check_asc (good_all HJB.out z.1 (List.mem_of_getElem? (HPG.out i z h))).1))
        have HP0 : Hid (∀ i k : Nat, i < 0 → i < k → k < n → pairAt ps (i, k) = false) := Lib.hid (fun i k h => absurd h (Nat.not_lt_zero i))
        go_wp2
        go_loopw [9] (fun i wr => ∃ p : Nat, p ≤ n ∧ i = .int .i64 p ∧ Hid (∀ i k : Nat, i < p → i < k → k < n → pairAt ps (i, k) = false) ∧ Hid (Below w.heap.size w wr)) (fun i _ => n - (intOf i).toNat)
        case atStart => exact ⟨0, by omega, rfl, HP0, hB⟩
        case round =>
          clear HP0 hB
          obtain ⟨p, hp, rfl, hP, hB⟩ := hrel
          by_cases hlp : p < n
          · obtain ⟨z, ez⟩ : ∃ z, zs[p]? = some z := ⟨_, List.getElem?_eq_getElem (by rw [← HN.out]; exact hlp)⟩
            obtain ⟨b, off, rfl, hb, hat⟩ := H3.out p z ez
            have HAT := Lib.hid (fun W (hW : Below w.heap.size w W) => hat.keep hW hb)
            have HEZ := Lib.hid ez
            have tp : (p : Int) < (n : Int) := by omega
            have tp0 : (0 : Int) ≤ (p : Int) := by omega
            obtain ⟨ia, il, ic, hiv⟩ := (HIT.out p z ez).form
            have HQ0 : Hid (∀ k : Nat, p < k → k < p + 1 → pairAt ps (p, k) = false) := Lib.hid (fun k h1 h2 => by omega)
            clear hat ez
            go_wp2
            go_loopw [10] (fun j wr => ∃ q : Nat, p + 1 ≤ q ∧ q ≤ n ∧ j = .int .i64 q ∧ Hid (∀ k : Nat, p < k → k < q → pairAt ps (p, k) = false) ∧ Hid (Below w.heap.size w wr)) (fun j _ => n - (intOf j).toNat)
            case atStart => exact ⟨p + 1, by omega, by omega, by go_num, HQ0, hB⟩
            case round =>
              clear HQ0 hB
              obtain ⟨q, hpq, hq, rfl, hQ, hB⟩ := hrel
              by_cases hlq : q < n
              · obtain ⟨z', ez'⟩ : ∃ z, zs[q]? = some z := ⟨_, List.getElem?_eq_getElem (by rw [← HN.out]; exact hlq)⟩
                obtain ⟨b', off', eb, hb', hat'⟩ := H3.out q z' ez'
                cases eb
                have HL := Lib.hid (fun W (hW : Below wr.heap.size wr W) => And.intro (HAT.out W (below_next hB.out hW)) (hat'.keep (below_next hB.out hW) hb'))
                have HCV' := Lib.hid (fun W (hW : Below wr.heap.size wr W) => HCV.out p z q z' HEZ.out ez' W (below_next hB.out hW))
                have HPC := Lib.hid (HPA.out p q z z' HEZ.out ez')
                obtain ⟨ia', il', ic', hiv'⟩ := (HIT.out q z' ez').form
                have tq : (q : Int) < (n : Int) := by omega
                have tq0 : (0 : Int) ≤ (q : Int) := by omega
                unfold PAt at HL
                clear hat' ez'
                generalize convR z.1 z'.1 = C at *
                obtain ⟨⟨⟨d1, d2, d3, d4⟩, dits⟩, dv⟩ := z'
                obtain ⟨⟨⟨c1, c2, c3, c4⟩, cits⟩, cv⟩ := z
                simp only at hiv hiv' HL HCV'
                subst hiv hiv'
                go_upto_region 14 with fail
                refine wp_region_noPanic ?_
                refine wp_region_lexB [.q 0, .q 1, .q 2, .q 3, .q 4, .q 5, .q 6, .q 7, .b 8] (by kernel_rfl) (by kernel_rfl) (fun _ _ _ _ h => h) ?_
                iterate 8 (refine wpFl_qL (v := ?_) rfl (Or.inl ⟨by rfl, ?_⟩) ?_; rotate_left; (focus (intro w' hSw; (try dsimp only [OldKept] at hSw); obtain ⟨⟨e0, e1, e2, e3, e4⟩, f0, f1, f2, f3, f4⟩ := HL.out w' hSw; go_simp; (try with_reducible rfl); done)); simp only [Act.put, List.setIfInBounds_toArray, List.set_cons_zero, List.set_cons_succ])
                refine wpFl_bL rfl (fun w8 hn8 hs8 K hK => ?_)
                go_simp
                go_at_call 59
                (with_reducible refine (HCV'.out _ hs8).mono ?_)
                rintro e w9 ⟨rfl, hb9⟩
                have HB9 := Lib.hid (below_next hB.out (below_next hs8 hb9))
                refine hK.out _ _ (below_next hs8 hb9) (Keeps.below hb9) ?_
                clear hK K hn8 hs8 hb9
                refine wpFl_nil ?_
                refine NoPanic.normal ?_
                cases C with
                | true =>
                  have HF : Hid (R = some ([], (p : Int), (q : Int))) := Lib.hid (by
                    rw [HRJ.out]
                    unfold joinP2
                    rw [HPN.out, find_pair (i := p) (k := q) (by omega) hlq HPC.out (fun i' k' h1 h2 h3 => by
                      rcases h3 with h3 | ⟨h3, h4⟩
                      · exact hP.out i' k' h3 h1 h2
                      · subst h3
                        exact hQ.out k' h1 h4)])
                  go_wp2
                  rw [HF.out]
                  exact bodyPost_ret (results_tmp4 rfl _ _ _) rfl ⟨none, 0, rfl, ⟨[], rfl, ISt.nil _⟩, HB9.out⟩
                | false =>
                  have HF : Hid (∀ k : Nat, p < k → k < q + 1 → pairAt ps (p, k) = false) := Lib.hid (fun k h1 h2 => by
                    rcases Nat.lt_or_ge k q with h | h
                    · exact hQ.out k h1 h
                    · obtain rfl : k = q := by omega
                      exact HPC.out)
                  go_wp2
                  go_roundw
                  case rel => exact ⟨q + 1, by omega, by omega, by go_num, HF, HB9⟩
                  case measure => simp [intOf]; omega
              · have tq : ¬ (q : Int) < (n : Int) := by omega
                have HF : Hid (∀ i k : Nat, i < p + 1 → i < k → k < n → pairAt ps (i, k) = false) := Lib.hid (fun i k h1 h2 h3 => by
                  rcases Nat.lt_or_ge i p with h | h
                  · exact hP.out i k h h2 h3
                  · obtain rfl : i = p := by omega
                    exact hQ.out k h2 (by omega))
                go_wp2
                go_roundw
                case rel => exact ⟨p + 1, by omega, by go_num, HF, hB⟩
                case measure => simp [intOf]; omega
          · have tp : ¬ (p : Int) < (n : Int) := by omega
            have HNN : Hid ((pairsL ps.length).find? (pairAt ps) = none) := Lib.hid (by
              rw [HPN.out]
              exact find_none (fun i k h1 h2 => hP.out i k (by omega) h1 h2))
            obtain ⟨F, hF⟩ : ∃ F, F = firstB (allItems ps) := ⟨_, rfl⟩
            have HF := Lib.hid hF
            have HRR : Hid (R = some (outQ F 60, -1, -1)) := Lib.hid (by rw [HRJ.out, join_items HJB.out HNN.out, hF])
            have HO0 : Hid (OutAt w wr (.slice none 0 0) []) := Lib.hid ⟨hB.out, OwnE.nil _ _ _ _, fun y hy => absurd hy List.not_mem_nil⟩
            clear hF HNN HRJ HPA hP HCV HCK HJB
            go_wp2
            go_loopw [11, 12] (fun v i wr => ∃ (q : Nat) (ys : List (ItemP × Value)), q ≤ 60 ∧ i = .int .i64 q ∧ Hid (ys.map (·.1) = outQ F q) ∧ Hid (OutAt w wr v ys)) (fun _ i _ => 60 - (intOf i).toNat)
            case atStart => exact ⟨0, [], by omega, rfl, Lib.hid rfl, HO0⟩
            case round =>
              clear HO0 hB
              obtain ⟨q, ys, hq, rfl, hM, hO⟩ := hrel
              by_cases hlq : q < 60
              · have tq : (q : Int) < 60 := by omega
                go_wp2
                go_loopw [11, 13, 14] (fun v f i wr => ∃ (p : Nat) (fd : Bool) (ys : List (ItemP × Value)), p ≤ n ∧ i = .int .i64 p ∧ f = .bool fd ∧ Hid (ys.map (·.1) = outQ F (if fd = true then q + 1 else q)) ∧ Hid (fd = false → F q = firstB (allItems (ps.drop p)) q) ∧ Hid (OutAt w wr v ys)) (fun _ _ i _ => n - (intOf i).toNat)
                case atStart => exact ⟨0, false, ys, by omega, rfl, rfl, hM, Lib.hid (fun _ => by rw [HF.out]; rfl), hO⟩
                case round =>
                  clear hM hO
                  obtain ⟨p, fd, ys, hp, rfl, rfl, hM, hE, hO⟩ := hrel
                  by_cases hlp : p < n
                  · have tp : (p : Int) < (n : Int) := by omega
                    cases fd with
                    | true =>
                      go_wp2
                      go_roundw
                      case rel => exact ⟨q + 1, ys, by omega, by go_num, hM, hO⟩
                      case measure => simp [intOf]; omega
                    | false =>
                      obtain ⟨z, ez⟩ : ∃ z, zs[p]? = some z := ⟨_, List.getElem?_eq_getElem (by rw [← HN.out]; exact hlp)⟩
                      obtain ⟨b, off, rfl, hb, hat⟩ := H3.out p z ez
                      have HAT := Lib.hid (fun W (hW : Below w.heap.size w W) => (hat.keep hW hb).2.2.2.2)
                      obtain ⟨ia, ic, hiv, _, _, hcx⟩ := (HIT.out p z ez).opened
                      have hil := HLN.out p z ez
                      have HCX := Lib.hid hcx
                      have HE : Hid (F q = firstB (z.1.items.drop 0 ++ allItems (ps.drop (p + 1))) q) := Lib.hid (by
                        rw [hE.out rfl, drop_get (HPG.out p z ez)]
                        rfl)
                      have tp0 : (0 : Int) ≤ (p : Int) := by omega
                      obtain ⟨⟨⟨c1, c2, c3, c4⟩, its⟩, cv⟩ := z
                      simp only at hiv HCX HAT HE hil
                      subst hiv
                      obtain ⟨il, hile⟩ : ∃ il, il = its.length := ⟨_, rfl⟩
                      rw [← hile] at HAT hil
                      have HIL := Lib.hid hile
                      clear hat hcx ez hE hile
                      go_wp2
                      go_loopw [11, 13, 15] (fun v f i wr => ∃ (k : Nat) (fd : Bool) (ys : List (ItemP × Value)), k ≤ il ∧ i = .int .i64 k ∧ f = .bool fd ∧ Hid (ys.map (·.1) = outQ F (if fd = true then q + 1 else q)) ∧ Hid (fd = false → F q = firstB (its.drop k ++ allItems (ps.drop (p + 1))) q) ∧ Hid (OutAt w wr v ys)) (fun _ _ i _ => il - (intOf i).toNat)
                      case atStart => exact ⟨0, false, ys, by omega, rfl, rfl, hM, Lib.hid (fun _ => HE.out), hO⟩
                      case round =>
                        clear hM hO HE
                        obtain ⟨k, fd, ys, hk', rfl, rfl, hM, hE, hO⟩ := hrel
                        have i4 := HAT.out wr hO.out.1
                        by_cases hlk : k < il
                        · have tk : (k : Int) < (il : Int) := by omega
                          have tk0 : (0 : Int) ≤ (k : Int) := by omega
                          cases fd with
                          | true =>
                            go_wp2
                            go_roundw
                            case rel => exact ⟨p + 1, true, ys, by omega, by go_num, rfl, hM, Lib.hid (fun h => by cases h), hO⟩
                            case measure => simp [intOf]; omega
                          | false =>
                            obtain ⟨x, ex⟩ : ∃ x, its[k]? = some x := ⟨_, List.getElem?_eq_getElem (by rw [← HIL.out]; exact hlk)⟩
                            obtain ⟨b1, o1, pv1, ea1, hb1, x0, x1, _, _⟩ := HCX.out k x ex
                            subst ea1
                            have d0 := cell_keepB hO.out.1 hb1 x0
                            have d1 := cell_keepB hO.out.1 hb1 x1
                            have HE : Hid (F q = firstB (x :: (its.drop (k + 1) ++ allItems (ps.drop (p + 1)))) q) := Lib.hid (by
                              rw [hE.out rfl, drop_get ex]
                              rfl)
                            obtain ⟨ix, en, pr⟩ := x
                            simp only at d0 d1
                            clear x0 x1 ex hE
                            by_cases hxi : ix = (q : Int)
                            · have HFQ : Hid (F q = some en) := Lib.hid (by rw [HE.out]; exact firstB_hit hxi)
                              have hyl : ys.length ≤ 60 := by
                                have h1 := outQ_len F q
                                have h2 := congrArg List.length hM.out
                                rw [List.length_map] at h2
                                simp only [Bool.false_eq_true, if_false] at h2
                                omega
                              have HM2 : Hid ((ys ++ [((⟨(q : Int), en, []⟩ : ItemP), Value.slice none 0 0)]).map (·.1) = outQ F (q + 1)) := Lib.hid (by
                                rw [List.map_append, hM.out, outQ_succ, HFQ.out]
                                rfl)
                              have HN1 : Hid ((wr.alloc (.cells #[.int .i64 q, .string en, .slice none 0 0] 53)).heap[wr.heap.size]? = some (.cells #[.int .i64 q, .string en, .slice none 0 0] 53 (0, 0))) := Lib.hid (heap_alloc_new wr _)
                              have HOA := Lib.hid (hO.out.far ((Below.refl _ _).alloc (Nat.le_refl _) (.cells #[.int .i64 q, .string en, .slice none 0 0] 53)))
                              have HI1 := Lib.hid (IS.one HN1.out (pr := []) (SliceAt.nil _ _))
                              subst hxi
                              clear HE
                              go_wp2_with (at_builtin; refine wpList_append_items rfl _ _ w.heap.size _ ys [((⟨(q : Int), en, []⟩ : ItemP), Value.slice none 0 0)] (.slice (some ⟨wr.heap.size, 0, none⟩) 1 1) HOA.out.2.1 HI1.out (by simp) (by simp; omega) HOA.out.1.size rfl rfl rfl ?_; intro v9 w9 hown9 hgr9; have HO9 := Lib.hid (HOA.out.grow (q : Int) en hown9 hgr9); clear hown9 hgr9)
                              go_roundw
                              case rel => exact ⟨k + 1, true, _, by omega, by go_num, rfl, HM2, Lib.hid (fun h => by cases h), HO9⟩
                              case measure => simp [intOf]; omega
                            · have hd : decide (ix = (q : Int)) = false := decide_eq_false hxi
                              have HE2 : Hid (F q = firstB (its.drop (k + 1) ++ allItems (ps.drop (p + 1))) q) := Lib.hid (by rw [HE.out]; exact firstB_miss hxi)
                              clear HE
                              go_wp2
                              go_roundw
                              case rel => exact ⟨k + 1, false, ys, by omega, by go_num, rfl, hM, Lib.hid (fun _ => HE2.out), hO⟩
                              case measure => simp [intOf]; omega
                        · have tk : ¬ (k : Int) < (il : Int) := by omega
                          have HE2 : Hid (fd = false → F q = firstB (allItems (ps.drop (p + 1))) q) := Lib.hid (fun h => by
                            rw [hE.out h, List.drop_eq_nil_of_le (by rw [← HIL.out]; omega), List.nil_append])
                          go_wp2
                          go_roundw
                          case rel => exact ⟨p + 1, fd, ys, by omega, by go_num, rfl, hM, HE2, hO⟩
                          case measure => simp [intOf]; omega
                  · have tp : ¬ (p : Int) < (n : Int) := by omega
                    have HM2 : Hid (ys.map (·.1) = outQ F (q + 1)) := Lib.hid (by
                      rw [hM.out]
                      cases fd with
                      | true => rfl
                      | false =>
                        rw [outQ_succ, hE.out rfl, List.drop_eq_nil_of_le (by rw [HPN.out]; omega)]
                        show _ = _ ++ []
                        rw [List.append_nil]
                        rfl)
                    go_wp2
                    go_roundw
                    case rel => exact ⟨q + 1, ys, by omega, by go_num, HM2, hO⟩
                    case measure => simp [intOf]; omega
              · have tq : ¬ (q : Int) < 60 := by omega
                obtain rfl : q = 60 := by omega
                have HOI := Lib.hid hO.out.it
                obtain ⟨va, vc, hv⟩ := HOI.out.form2
                have HM2 := Lib.hid hM.out
                rw [HM2.out] at HOI hv
                subst hv
                go_wp2
                rw [HRR.out]
                exact bodyPost_ret (results_tmp4 rfl _ _ _) rfl ⟨va, vc, rfl, HOI.out, hO.out.1⟩
  · have HF : Hid (R = none) := Lib.hid (by
      rw [HR.out]
      unfold joinR joinBad
      rw [decide_eq_false hk32]
      rfl)
    rw [HF.out]
    have t0 : ¬ (key.size : Int) = 32 := by omega
    go_enter Tryz.func27, Tryz.ntmps27
    go_wp2
    exact bodyPost_ret (results_tmp4 rfl _ _ _) rfl ⟨none, 0, rfl, ⟨[], rfl, ISt.nil _⟩, Below.refl _ _⟩
end Go.Proofs.YtinfpbkbnhcifaaGreatDoor
