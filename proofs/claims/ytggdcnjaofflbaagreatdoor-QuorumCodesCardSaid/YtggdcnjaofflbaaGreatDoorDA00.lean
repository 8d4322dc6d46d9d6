/- Walk of the law: QuorumCodes. The conditions: what the row holds, the tables of constants. -/
import Derived.Deep.DeepCutAuto
import Derived.Deep.CutBlock
import Derived.Test.YtggdcnjaofflbaaGreatDoorC20
import Derived.Test.YtggdcnjaofflbaaGreatDoorC19
import Derived.Test.YtggdcnjaofflbaaGreatDoorC21
import Derived.Test.YtggdcnjaofflbaaGreatDoorC13
namespace Go.Proofs.YtggdcnjaofflbaaGreatDoor
open Go.RowKit Go.BigFrame

theorem extract_size (s : ByteArray) (a b : Nat) : (s.extract a b).size ≤ s.size := by
  rw [ByteArray.size_extract]
  omega
theorem conv_byte (W : World) (b bt : Nat) (hb : bt < 256) (h : W.heap[b]? = some (.cells #[.int .u8 (bt : Int)] 5 (0, 0))) : (convert 80 9 (.slice (some ⟨b, 0, none⟩) 1 1)).run Tryz.prog W = .ok (.string (strOf [bt])) W :=
  run_convert_bytes_back (P := Tryz.prog) W 80 9 5 ⟨b, 0, none⟩ 1 [UInt8.ofNat bt] (by kernel_rfl) (by kernel_rfl) (by kernel_rfl) (fun j hj => by
    match j, hj with
    | 0, _ =>
      rw [Addr.add_mid, cell_of_row W b _ _ _ _ h]
      simp only [List.getElem_cons_zero]
      rw [UInt8.toNat_ofNat_of_lt' (by simpa using hb)]
      rfl)

set_option maxHeartbeats 4000000 in
set_option maxRecDepth 100000 in
theorem codes_walk {w : World} {x : Value} {xs : List R4} (which b0 b1 place : Int) (bt : Nat) (hx : RS w x xs) (hi : ∀ q ∈ xs, Int4 q) (iw : I64 which) (i0 : I64 b0) (i1 : I64 b1) (ip : I64 place) (hb : bt < 256) (he : QEnv w) :
    Calls Tryz.prog 9 #[x, .int .i64 which, .agg #[.int .i64 b0, .int .i64 b1], .int .i64 place, .int .u8 (bt : Int)] w fun e w' => e = .returned (.bool true) ∧ Below w.heap.size w w' := by
  obtain ⟨W1, hW1⟩ : ∃ W1, W1 = w.alloc (.cells #[.int .i64 b0, .int .i64 b1] 23) := ⟨_, rfl⟩
  have HB1 : Hid (Below w.heap.size w W1) := Lib.hid (by rw [hW1]; exact (Below.refl _ _).alloc (Nat.le_refl _) _)
  have HX1 : Hid (W1.heap[w.heap.size]? = some (.cells #[.int .i64 b0, .int .i64 b1] 23 (0, 0))) := Lib.hid (by rw [hW1]; exact heap_alloc_new w _)
  have HSA := Lib.hid (sane_any (he.step HB1.out))
  have HX := Lib.hid (hx.below HB1.out)
  have HI := Lib.hid hi
  have HW1 := Lib.hid hW1
  obtain ⟨bb, hbb⟩ : ∃ bb, bb = w.heap.size := ⟨_, rfl⟩
  have HBB := Lib.hid hbb
  clear hx hi he hW1
  go_enter Tryz.func9, Tryz.ntmps9
  go_upto_region 1 with fail
  rw [← HW1.out, ← HBB.out]
  rw [← hbb] at HX1
  clear hbb HW1
  go_upto_region 4 with (go_at_call 11; refine HSA.out.mono ?_; rintro e w2 ⟨rfl, hb2⟩)
  have HPO := Lib.hid (pool_any (HX.out.below hb2) HI.out)
  have HB2 := Lib.hid hb2
  clear hb2 HX HI HSA
  go_upto_region 5 with (go_at_call 15; refine HPO.out.mono ?_; rintro e w3 ⟨vp, rfl, hvp, hb3⟩)
  obtain ⟨pa, pc, rfl, hpl, hpm, hp3⟩ := hvp.opened
  have HP3 := Lib.hid hp3
  have HB3 := Lib.hid (q_next HB2.out hb3)
  have HPF := Lib.hid (fun v (h : v ∈ poolN xs) => poolN_formed h)
  have hl30 := poolN_len xs
  generalize poolN xs = PL at *
  obtain ⟨n, hn⟩ : ∃ n, n = PL.length := ⟨_, rfl⟩
  rw [← hn] at hl30 ⊢
  have HN := Lib.hid hn
  clear hvp hpl hpm hp3 hb3 hn HPO HB2
  by_cases hn0 : n = 0
  · have t0 : (n : Int) = 0 := by omega
    go_wp2
    go_ret
    exact ⟨rfl, HB1.out.trans (HB3.out.mono HB1.out.size)⟩
  · have t0 : ¬ (n : Int) = 0 := by omega
    have hpk := pickI_range which (show (0 : Int) < (n : Int) by omega)
    obtain ⟨p, hp⟩ : ∃ p : Nat, pickI which n = (p : Int) := ⟨(pickI which n).toNat, by omega⟩
    have HPK := Lib.hid (fun W => lpickQ_any which n W iw (by omega) (by omega))
    rw [hp] at HPK hpk
    obtain ⟨v, ev⟩ : ∃ v, PL[p]? = some v := ⟨_, List.getElem?_eq_getElem (by rw [← HN.out]; omega)⟩
    obtain ⟨gb, go1, rfl, hgb, hv⟩ := HP3.out p v ev
    have HF := Lib.hid (HPF.out v (List.mem_of_getElem? ev))
    have HBT := Lib.hid (fun W => rbent_any v b0 b1 i0 i1 W)
    obtain ⟨S, hS⟩ : ∃ S, S = encV v := ⟨_, rfl⟩
    have HEN := Lib.hid (fun W => enc_any v (some S) (by unfold encodeV; rw [if_pos HF.out, hS]) W)
    have hS68 : 68 ≤ S.size := by rw [hS]; exact enc_size HF.out
    have hS200 : S.size ≤ 200 := by
      have h5 := formed_facts HF.out
      have h6 := voteC_le h5.2.2.2.1
      rw [hS]
      show (voteC v ++ v.sl).size ≤ 200
      rw [ByteArray.size_append]
      omega
    have HDS : Hid (decodeV S = some v) := Lib.hid (by rw [hS]; exact decode_enc HF.out)
    have HD1 := Lib.hid (fun W => decode_any S (by omega) W)
    rw [HDS.out] at HD1
    have HUF : Hid (formedV (bentV v b0 b1) = true → True) := Lib.hid (fun _ => trivial)
    have hbs := bentV_small (v := v) b0 b1 (by have := (formed_facts HF.out).2.2.2.1; omega) (by have := (formed_facts HF.out).2.2.2.2; omega)
    obtain ⟨u, hu⟩ : ∃ u, u = bentV v b0 b1 := ⟨_, rfl⟩
    rw [← hu] at HBT hbs
    have hnv := neqVote v v
    rw [decide_eq_true rfl] at hnv
    obtain ⟨vc, vn, vs, vv, vl⟩ := v
    obtain ⟨uc, un, us, uv, ul⟩ := u
    obtain ⟨v0, v1, v2, v3, v4⟩ := hv
    simp only [castR, encR, vagg, Bool.not_true] at HEN HD1 HBT hnv v0 v1 v2 v3 v4
    clear hp hS hu HUF ev
    have tp : (0 : Int) ≤ (p : Int) := by omega
    have tp2 : (p : Int) < (n : Int) := by omega
    go_upto_region 8 with (go_at_call 16; (with_reducible refine (HPK.out _).mono ?_); rintro e w' ⟨rfl, hw'⟩; replace hw' := hw'.symm; subst hw')
    obtain ⟨w4, hw4⟩ : ∃ W, W = w3.alloc (.cells #[.int .i64 vc, .int .i64 vn, .int .i64 vs, .string vv, .string vl] 27) := ⟨_, rfl⟩
    have HV_w4 : Hid (w4.heap[w3.heap.size]? = some (.cells #[.int .i64 vc, .int .i64 vn, .int .i64 vs, .string vv, .string vl] 27 (0, 0))) := Lib.hid (by rw [hw4]; exact heap_alloc_new w3 _)
    have HS_w4 : Hid (Below w3.heap.size w3 w4) := Lib.hid (by rw [hw4]; exact (Below.refl _ _).alloc (Nat.le_refl _) _)
    have HB_w4 := Lib.hid (q_next HB3.out HS_w4.out)
    rw [← hw4]
    obtain ⟨b4, hb4⟩ : ∃ b, b = w3.heap.size := ⟨_, rfl⟩
    rw [← hb4] at HV_w4 ⊢
    clear hw4 hb4
    clear HP3 HPF HPK v0 v1 v2 v3 v4
    have HC_w4 : Hid (∀ W, Below w4.heap.size w4 W → _) := Lib.hid (fun W (hW : Below w4.heap.size w4 W) => vcellsAt ((hW.block _ (Array.getElem?_eq_some_iff.1 HV_w4.out).1).trans HV_w4.out))
    obtain ⟨v0, v1, v2, v3, v4⟩ := HC_w4.out w4 (Below.refl _ _)
    go_upto_region 9 with (go_at_call 19; (with_reducible refine (HEN.out _).mono ?_); rintro e w5 ⟨rfl, hb5⟩)
    go_upto_region 10 with (go_at_call 28; (with_reducible refine (HD1.out _).mono ?_); rintro e w6 ⟨rfl, hb6⟩)
    have HS6 := Lib.hid (q_next hb5 hb6)
    have HB_w6 := Lib.hid (q_next HB_w4.out HS6.out)
    clear v0 v1 v2 v3 v4 hb5 hb6
    obtain ⟨w7, hw7⟩ : ∃ W, W = w6.alloc (.cells #[.int .i64 vc, .int .i64 vn, .int .i64 vs, .string vv, .string vl] 27) := ⟨_, rfl⟩
    have HV_w7 : Hid (w7.heap[w6.heap.size]? = some (.cells #[.int .i64 vc, .int .i64 vn, .int .i64 vs, .string vv, .string vl] 27 (0, 0))) := Lib.hid (by rw [hw7]; exact heap_alloc_new w6 _)
    have HS_w7 : Hid (Below w6.heap.size w6 w7) := Lib.hid (by rw [hw7]; exact (Below.refl _ _).alloc (Nat.le_refl _) _)
    have HB_w7 := Lib.hid (q_next HB_w6.out HS_w7.out)
    rw [← hw7]
    obtain ⟨b7, hb7⟩ : ∃ b, b = w6.heap.size := ⟨_, rfl⟩
    rw [← hb7] at HV_w7 ⊢
    clear hw7 hb7
    have HC_w7 : Hid (∀ W, Below w7.heap.size w7 W → _) := Lib.hid (fun W (hW : Below w7.heap.size w7 W) => And.intro (vcellsAt ((hW.block _ (Array.getElem?_eq_some_iff.1 HV_w7.out).1).trans HV_w7.out)) (HC_w4.out W (q_next (q_next HS6.out HS_w7.out) hW)))
    obtain ⟨⟨a0, a1, a2, a3, a4⟩, v0, v1, v2, v3, v4⟩ := HC_w7.out w7 (Below.refl _ _)
    have t68 : ¬ (S.size : Int) < 68 := by omega
    go_upto_region 12 with fail
    obtain ⟨e0, e1⟩ := two_at ((HB_w7.out.block _ (Array.getElem?_eq_some_iff.1 HX1.out).1).trans HX1.out)
    clear t68 a0 a1 a2 a3 a4
    go_upto_region 13 with (go_at_call 17; (with_reducible refine (HBT.out _).mono ?_); rintro e w8 ⟨rfl, hb8⟩)
    have HS8 := Lib.hid hb8
    have HB_w8 := Lib.hid (q_next HB_w7.out HS8.out)
    clear e0 e1 hb8 v0 v1 v2 v3 v4
    obtain ⟨w9, hw9⟩ : ∃ W, W = w8.alloc (.cells #[.int .i64 uc, .int .i64 un, .int .i64 us, .string uv, .string ul] 27) := ⟨_, rfl⟩
    have HV_w9 : Hid (w9.heap[w8.heap.size]? = some (.cells #[.int .i64 uc, .int .i64 un, .int .i64 us, .string uv, .string ul] 27 (0, 0))) := Lib.hid (by rw [hw9]; exact heap_alloc_new w8 _)
    have HS_w9 : Hid (Below w8.heap.size w8 w9) := Lib.hid (by rw [hw9]; exact (Below.refl _ _).alloc (Nat.le_refl _) _)
    have HB_w9 := Lib.hid (q_next HB_w8.out HS_w9.out)
    rw [← hw9]
    obtain ⟨b9, hb9⟩ : ∃ b, b = w8.heap.size := ⟨_, rfl⟩
    rw [← hb9] at HV_w9 ⊢
    clear hw9 hb9
    have HC_w9 : Hid (∀ W, Below w9.heap.size w9 W → _) := Lib.hid (fun W (hW : Below w9.heap.size w9 W) => And.intro (vcellsAt ((hW.block _ (Array.getElem?_eq_some_iff.1 HV_w9.out).1).trans HV_w9.out)) (HC_w7.out W (q_next (q_next HS8.out HS_w9.out) hW)))
    obtain ⟨⟨a0, a1, a2, a3, a4⟩, -, v0, v1, v2, v3, v4⟩ := HC_w9.out w9 (Below.refl _ _)
    have hpk2 := pickI_range place (show (0 : Int) < (S.size : Int) by omega)
    obtain ⟨k, hk⟩ : ∃ k : Nat, pickI place S.size = (k : Int) := ⟨(pickI place S.size).toNat, by omega⟩
    have HPK2 := Lib.hid (fun W => lpickQ_any place S.size W ip (by omega) (by omega))
    rw [hk] at HPK2 hpk2
    have hkl : k < S.size := by omega
    clear hk hpk2 hpk
    have HDA := Lib.hid (fun s (h : s.size ≤ 1000000) W => decode_any s h W)
    cases hfu : formedV ⟨uc, un, us, uv, ul⟩ with
    | false =>
      have HEU := Lib.hid (fun W => enc_any ⟨uc, un, us, uv, ul⟩ none (by unfold encodeV; rw [hfu]; rfl) W)
      simp only [encR, vagg] at HEU
      go_upto_region 18 with (go_at_call 19; (with_reducible refine (HEU.out _).mono ?_); rintro e w10 ⟨rfl, hb10⟩)
      have HBX := Lib.hid (q_next HB_w9.out hb10)
      clear hb10 a0 a1 a2 a3 a4 v0 v1 v2 v3 v4 HEU
      go_upto_region 19 with (go_at_call 16; (with_reducible refine (HPK2.out _).mono ?_); rintro e w' ⟨rfl, hw'⟩; replace hw' := hw'.symm; subst hw')
      have HCV := Lib.hid (fun (W : World) (b : Nat) (h : W.heap[b]? = some (.cells #[.int .u8 (bt : Int)] 5 (0, 0))) => conv_byte W b bt hb h)
      obtain ⟨Z, hZ⟩ : ∃ Z, Z = (S.extract 0 k ++ strOf [bt]) ++ S.extract (k + 1) S.size := ⟨_, rfl⟩
      have HZE := Lib.hid hZ
      have z1 := extract_size S 0 k
      have z2 := extract_size S (k + 1) S.size
      have z3 := strOf_size [bt]
      simp only [List.length_cons, List.length_nil] at z3
      have hcat1 : ¬ 9223372036854775807 < min k S.size + 1 := by omega
      have z4 : (S.extract 0 k ++ strOf [bt]).size = (S.extract 0 k).size + (strOf [bt]).size := ByteArray.size_append
      have hcat2 : ¬ 9223372036854775807 < min k S.size + 1 + (S.size - (k + 1)) := by omega
      have hZs : Z.size ≤ 1000000 := by rw [hZ, ByteArray.size_append]; omega
      have k0 : (0 : Int) ≤ (k : Int) := by omega
      have k1 : (k : Int) ≤ (S.size : Int) := by omega
      have k2 : (0 : Int) ≤ (k : Int) + 1 := by omega
      have k3 : (k : Int) + 1 ≤ (S.size : Int) := by omega
      have kw : IntKind.i64.wrap ((k : Int) + 1) = (k : Int) + 1 := IntWalk.i64_in _ (by omega)
      have kt : ((k : Int) + 1).toNat = k + 1 := by omega
      have HDZ := Lib.hid (fun W => HDA.out Z hZs W)
      clear hZ HDA
      refine wp_region_noPanic ?_
      refine wp_region_lexB [.q 0, .q 1, .q 2, .q 3, .q 7, .q 8, .q 9, .q 10, .an 4, .co 4, .b 5, .q 6, .q 11, .q 12] (by kernel_rfl) (by kernel_rfl) (fun _ _ _ _ h => h) ?_
      iterate 8 (refine wpFl_qL (v := ?_) rfl (Or.inl ⟨by rfl, ?_⟩) ?_; rotate_left; (focus (intro w' hSw; (try dsimp only [OldKept] at hSw); go_simp; (try with_reducible rfl); done)); simp only [Act.put, List.setIfInBounds_toArray, List.set_cons_zero, List.set_cons_succ])
      refine wpFl_anL rfl (.cells #[.int .u8 (bt : Int)] 5 (0, 0)) (fun n => .slice (some ⟨n, 0, none⟩) 1 1) ⟨by rfl, fun w' => ?_⟩ ?_
      focus (go_simp; done)
      refine wpFl_coL rfl (.cells #[.int .u8 (bt : Int)] 5 (0, 0)) (fun n => .slice (some ⟨n, 0, none⟩) 1 1) (by rfl) (N' := []) (by rfl) (fun bz wz hn_wz hs_wz hb_bz hz_bz => ?_)
      simp only [Act.put, List.setIfInBounds_toArray, List.set_cons_zero, List.set_cons_succ]
      
      refine wpFl_bL rfl (fun wa hna hsa K hK => ?_)
      have hcv := HCV.out wa bz ((hna.block bz (Array.getElem?_eq_some_iff.1 hz_bz).1).trans hz_bz)
      go_simp
      refine hK.out _ _ hsa (Keeps.below (Below.refl _ _)) ?_
      clear hK K hna hcv
      iterate 3 (refine wpFl_qL (v := ?_) rfl (Or.inl ⟨by rfl, ?_⟩) ?_; rotate_left; (focus (intro w' hSw; (try dsimp only [OldKept] at hSw); go_simp; (try with_reducible rfl); done)); simp only [Act.put, List.setIfInBounds_toArray, List.set_cons_zero, List.set_cons_succ])
      refine wpFl_nil ?_
      refine NoPanic.normal ?_
      
      rw [← HZE.out]
      clear z1 z2 z3 z4 hcat1 hcat2 kw kt k0 k1 k2 k3
      have HB19 := Lib.hid (q_next HBX.out hsa)
      clear hsa hn_wz hs_wz hb_bz hz_bz
      cases hdz : decodeV Z with
      | none =>
        rw [hdz] at HDZ
        simp only [castR] at HDZ
        have hne : Z ≠ S := fun e => (by rw [e, HDS.out] at hdz; cases hdz)
        have hez := eqlVote ⟨0, 0, 0, ⟨#[]⟩, ⟨#[]⟩⟩ ⟨0, 0, 0, ⟨#[]⟩, ⟨#[]⟩⟩
        rw [decide_eq_true rfl] at hez
        simp only [vagg] at hez
        have hss := same_str Z S
        rw [decide_eq_false hne] at hss
        go_upto_region 21 with (go_at_call 28; (with_reducible refine (HDZ.out _).mono ?_); rintro e w20 ⟨rfl, hb20⟩)
        have HB20 := Lib.hid (q_next HB19.out hb20)
        clear hb20
        obtain ⟨w21, hw21⟩ : ∃ W, W = w20.alloc (.cells #[.int .i64 0, .int .i64 0, .int .i64 0, .string ⟨#[]⟩, .string ⟨#[]⟩] 27) := ⟨_, rfl⟩
        have HV_w21 : Hid (w21.heap[w20.heap.size]? = some (.cells #[.int .i64 0, .int .i64 0, .int .i64 0, .string ⟨#[]⟩, .string ⟨#[]⟩] 27 (0, 0))) := Lib.hid (by rw [hw21]; exact heap_alloc_new w20 _)
        have HS_w21 : Hid (Below w20.heap.size w20 w21) := Lib.hid (by rw [hw21]; exact (Below.refl _ _).alloc (Nat.le_refl _) _)
        have HB_w21 := Lib.hid (q_next HB20.out HS_w21.out)
        rw [← hw21]
        obtain ⟨b21, hb21⟩ : ∃ b, b = w20.heap.size := ⟨_, rfl⟩
        rw [← hb21] at HV_w21 ⊢
        clear hw21 hb21
      
        obtain ⟨a0, a1, a2, a3, a4⟩ := vcellsAt HV_w21.out
        go_wp2
        go_ret
        exact ⟨rfl, HB1.out.trans (HB_w21.out.mono HB1.out.size)⟩
      | some u2 =>
        obtain ⟨hf2, he2⟩ := enc_decode hdz
        rw [hdz] at HDZ
        obtain ⟨tc, tn, ts, tv, tl⟩ := u2
        have HE2 := Lib.hid (fun W => enc_any ⟨tc, tn, ts, tv, tl⟩ (some Z) (by unfold encodeV; rw [if_pos hf2, he2]) W)
        simp only [castR, encR, vagg] at HDZ HE2
        clear hf2 he2 hdz
        go_upto_region 21 with (go_at_call 28; (with_reducible refine (HDZ.out _).mono ?_); rintro e w20 ⟨rfl, hb20⟩)
        have HB20 := Lib.hid (q_next HB19.out hb20)
        clear hb20
        obtain ⟨w21, hw21⟩ : ∃ W, W = w20.alloc (.cells #[.int .i64 tc, .int .i64 tn, .int .i64 ts, .string tv, .string tl] 27) := ⟨_, rfl⟩
        have HV_w21 : Hid (w21.heap[w20.heap.size]? = some (.cells #[.int .i64 tc, .int .i64 tn, .int .i64 ts, .string tv, .string tl] 27 (0, 0))) := Lib.hid (by rw [hw21]; exact heap_alloc_new w20 _)
        have HS_w21 : Hid (Below w20.heap.size w20 w21) := Lib.hid (by rw [hw21]; exact (Below.refl _ _).alloc (Nat.le_refl _) _)
        have HB_w21 := Lib.hid (q_next HB20.out HS_w21.out)
        rw [← hw21]
        obtain ⟨b21, hb21⟩ : ∃ b, b = w20.heap.size := ⟨_, rfl⟩
        rw [← hb21] at HV_w21 ⊢
        clear hw21 hb21
      
        obtain ⟨a0, a1, a2, a3, a4⟩ := vcellsAt HV_w21.out
        go_wp2_with (go_at_call 19; (with_reducible refine (HE2.out _).mono ?_); rintro e w22 ⟨rfl, hb22⟩)
        go_ret
        exact ⟨rfl, HB1.out.trans ((q_next HB_w21.out hb22).mono HB1.out.size)⟩
    | true =>
      obtain ⟨T, hT⟩ : ∃ T, T = encV ⟨uc, un, us, uv, ul⟩ := ⟨_, rfl⟩
      have HEU := Lib.hid (fun W => enc_any ⟨uc, un, us, uv, ul⟩ (some T) (by unfold encodeV; rw [if_pos hfu, hT]) W)
      have hTz : T.size ≤ 1000000 := by
        have h5 := formed_facts hfu
        have h6 := voteC_le h5.2.2.2.1
        have h7 := h5.2.2.2.2
        rw [hT]
        show (voteC ⟨uc, un, us, uv, ul⟩ ++ ul).size ≤ 1000000
        rw [ByteArray.size_append]
        simp only at h7
        omega
      have HDU := Lib.hid (fun W => decode_any T hTz W)
      rw [show decodeV T = some ⟨uc, un, us, uv, ul⟩ by rw [hT]; exact decode_enc hfu] at HDU
      have hnu := neqVote ⟨uc, un, us, uv, ul⟩ ⟨uc, un, us, uv, ul⟩
      rw [decide_eq_true rfl] at hnu
      simp only [castR, encR, vagg, Bool.not_true] at HEU HDU hnu
      clear hT
      go_upto_region 15 with (go_at_call 19; (with_reducible refine (HEU.out _).mono ?_); rintro e w10 ⟨rfl, hb10⟩)
      clear a0 a1 a2 a3 a4 v0 v1 v2 v3 v4
      go_upto_region 16 with (go_at_call 28; (with_reducible refine (HDU.out _).mono ?_); rintro e w11 ⟨rfl, hb11⟩)
      have HS11 := Lib.hid (q_next hb10 hb11)
      have HB_w11 := Lib.hid (q_next HB_w9.out HS11.out)
      clear hb10 hb11
      obtain ⟨w12, hw12⟩ : ∃ W, W = w11.alloc (.cells #[.int .i64 uc, .int .i64 un, .int .i64 us, .string uv, .string ul] 27) := ⟨_, rfl⟩
      have HV_w12 : Hid (w12.heap[w11.heap.size]? = some (.cells #[.int .i64 uc, .int .i64 un, .int .i64 us, .string uv, .string ul] 27 (0, 0))) := Lib.hid (by rw [hw12]; exact heap_alloc_new w11 _)
      have HS_w12 : Hid (Below w11.heap.size w11 w12) := Lib.hid (by rw [hw12]; exact (Below.refl _ _).alloc (Nat.le_refl _) _)
      have HB_w12 := Lib.hid (q_next HB_w11.out HS_w12.out)
      rw [← hw12]
      obtain ⟨b12, hb12⟩ : ∃ b, b = w11.heap.size := ⟨_, rfl⟩
      rw [← hb12] at HV_w12 ⊢
      clear hw12 hb12
      have HC_w12 : Hid (∀ W, Below w12.heap.size w12 W → _) := Lib.hid (fun W (hW : Below w12.heap.size w12 W) => And.intro (vcellsAt ((hW.block _ (Array.getElem?_eq_some_iff.1 HV_w12.out).1).trans HV_w12.out)) (HC_w9.out W (q_next (q_next HS11.out HS_w12.out) hW)))
      obtain ⟨⟨a0, a1, a2, a3, a4⟩, ⟨c0, c1, c2, c3, c4⟩, -, v0, v1, v2, v3, v4⟩ := HC_w12.out w12 (Below.refl _ _)
      go_upto_region 18 with fail
      have HBX := HB_w12
      clear a0 a1 a2 a3 a4 c0 c1 c2 c3 c4 v0 v1 v2 v3 v4 HEU HDU hnu
      go_upto_region 19 with (go_at_call 16; (with_reducible refine (HPK2.out _).mono ?_); rintro e w' ⟨rfl, hw'⟩; replace hw' := hw'.symm; subst hw')
      have HCV := Lib.hid (fun (W : World) (b : Nat) (h : W.heap[b]? = some (.cells #[.int .u8 (bt : Int)] 5 (0, 0))) => conv_byte W b bt hb h)
      obtain ⟨Z, hZ⟩ : ∃ Z, Z = (S.extract 0 k ++ strOf [bt]) ++ S.extract (k + 1) S.size := ⟨_, rfl⟩
      have HZE := Lib.hid hZ
      have z1 := extract_size S 0 k
      have z2 := extract_size S (k + 1) S.size
      have z3 := strOf_size [bt]
      simp only [List.length_cons, List.length_nil] at z3
      have hcat1 : ¬ 9223372036854775807 < min k S.size + 1 := by omega
      have z4 : (S.extract 0 k ++ strOf [bt]).size = (S.extract 0 k).size + (strOf [bt]).size := ByteArray.size_append
      have hcat2 : ¬ 9223372036854775807 < min k S.size + 1 + (S.size - (k + 1)) := by omega
      have hZs : Z.size ≤ 1000000 := by rw [hZ, ByteArray.size_append]; omega
      have k0 : (0 : Int) ≤ (k : Int) := by omega
      have k1 : (k : Int) ≤ (S.size : Int) := by omega
      have k2 : (0 : Int) ≤ (k : Int) + 1 := by omega
      have k3 : (k : Int) + 1 ≤ (S.size : Int) := by omega
      have kw : IntKind.i64.wrap ((k : Int) + 1) = (k : Int) + 1 := IntWalk.i64_in _ (by omega)
      have kt : ((k : Int) + 1).toNat = k + 1 := by omega
      have HDZ := Lib.hid (fun W => HDA.out Z hZs W)
      clear hZ HDA
      refine wp_region_noPanic ?_
      refine wp_region_lexB [.q 0, .q 1, .q 2, .q 3, .q 7, .q 8, .q 9, .q 10, .an 4, .co 4, .b 5, .q 6, .q 11, .q 12] (by kernel_rfl) (by kernel_rfl) (fun _ _ _ _ h => h) ?_
      iterate 8 (refine wpFl_qL (v := ?_) rfl (Or.inl ⟨by rfl, ?_⟩) ?_; rotate_left; (focus (intro w' hSw; (try dsimp only [OldKept] at hSw); go_simp; (try with_reducible rfl); done)); simp only [Act.put, List.setIfInBounds_toArray, List.set_cons_zero, List.set_cons_succ])
      refine wpFl_anL rfl (.cells #[.int .u8 (bt : Int)] 5 (0, 0)) (fun n => .slice (some ⟨n, 0, none⟩) 1 1) ⟨by rfl, fun w' => ?_⟩ ?_
      focus (go_simp; done)
      refine wpFl_coL rfl (.cells #[.int .u8 (bt : Int)] 5 (0, 0)) (fun n => .slice (some ⟨n, 0, none⟩) 1 1) (by rfl) (N' := []) (by rfl) (fun bz wz hn_wz hs_wz hb_bz hz_bz => ?_)
      simp only [Act.put, List.setIfInBounds_toArray, List.set_cons_zero, List.set_cons_succ]
      
      refine wpFl_bL rfl (fun wa hna hsa K hK => ?_)
      have hcv := HCV.out wa bz ((hna.block bz (Array.getElem?_eq_some_iff.1 hz_bz).1).trans hz_bz)
      go_simp
      refine hK.out _ _ hsa (Keeps.below (Below.refl _ _)) ?_
      clear hK K hna hcv
      iterate 3 (refine wpFl_qL (v := ?_) rfl (Or.inl ⟨by rfl, ?_⟩) ?_; rotate_left; (focus (intro w' hSw; (try dsimp only [OldKept] at hSw); go_simp; (try with_reducible rfl); done)); simp only [Act.put, List.setIfInBounds_toArray, List.set_cons_zero, List.set_cons_succ])
      refine wpFl_nil ?_
      refine NoPanic.normal ?_
      
      rw [← HZE.out]
      clear z1 z2 z3 z4 hcat1 hcat2 kw kt k0 k1 k2 k3
      have HB19 := Lib.hid (q_next HBX.out hsa)
      clear hsa hn_wz hs_wz hb_bz hz_bz
      cases hdz : decodeV Z with
      | none =>
        rw [hdz] at HDZ
        simp only [castR] at HDZ
        have hne : Z ≠ S := fun e => (by rw [e, HDS.out] at hdz; cases hdz)
        have hez := eqlVote ⟨0, 0, 0, ⟨#[]⟩, ⟨#[]⟩⟩ ⟨0, 0, 0, ⟨#[]⟩, ⟨#[]⟩⟩
        rw [decide_eq_true rfl] at hez
        simp only [vagg] at hez
        have hss := same_str Z S
        rw [decide_eq_false hne] at hss
        go_upto_region 21 with (go_at_call 28; (with_reducible refine (HDZ.out _).mono ?_); rintro e w20 ⟨rfl, hb20⟩)
        have HB20 := Lib.hid (q_next HB19.out hb20)
        clear hb20
        obtain ⟨w21, hw21⟩ : ∃ W, W = w20.alloc (.cells #[.int .i64 0, .int .i64 0, .int .i64 0, .string ⟨#[]⟩, .string ⟨#[]⟩] 27) := ⟨_, rfl⟩
        have HV_w21 : Hid (w21.heap[w20.heap.size]? = some (.cells #[.int .i64 0, .int .i64 0, .int .i64 0, .string ⟨#[]⟩, .string ⟨#[]⟩] 27 (0, 0))) := Lib.hid (by rw [hw21]; exact heap_alloc_new w20 _)
        have HS_w21 : Hid (Below w20.heap.size w20 w21) := Lib.hid (by rw [hw21]; exact (Below.refl _ _).alloc (Nat.le_refl _) _)
        have HB_w21 := Lib.hid (q_next HB20.out HS_w21.out)
        rw [← hw21]
        obtain ⟨b21, hb21⟩ : ∃ b, b = w20.heap.size := ⟨_, rfl⟩
        rw [← hb21] at HV_w21 ⊢
        clear hw21 hb21
      
        obtain ⟨a0, a1, a2, a3, a4⟩ := vcellsAt HV_w21.out
        go_wp2
        go_ret
        exact ⟨rfl, HB1.out.trans (HB_w21.out.mono HB1.out.size)⟩
      | some u2 =>
        obtain ⟨hf2, he2⟩ := enc_decode hdz
        rw [hdz] at HDZ
        obtain ⟨tc, tn, ts, tv, tl⟩ := u2
        have HE2 := Lib.hid (fun W => enc_any ⟨tc, tn, ts, tv, tl⟩ (some Z) (by unfold encodeV; rw [if_pos hf2, he2]) W)
        simp only [castR, encR, vagg] at HDZ HE2
        clear hf2 he2 hdz
        go_upto_region 21 with (go_at_call 28; (with_reducible refine (HDZ.out _).mono ?_); rintro e w20 ⟨rfl, hb20⟩)
        have HB20 := Lib.hid (q_next HB19.out hb20)
        clear hb20
        obtain ⟨w21, hw21⟩ : ∃ W, W = w20.alloc (.cells #[.int .i64 tc, .int .i64 tn, .int .i64 ts, .string tv, .string tl] 27) := ⟨_, rfl⟩
        have HV_w21 : Hid (w21.heap[w20.heap.size]? = some (.cells #[.int .i64 tc, .int .i64 tn, .int .i64 ts, .string tv, .string tl] 27 (0, 0))) := Lib.hid (by rw [hw21]; exact heap_alloc_new w20 _)
        have HS_w21 : Hid (Below w20.heap.size w20 w21) := Lib.hid (by rw [hw21]; exact (Below.refl _ _).alloc (Nat.le_refl _) _)
        have HB_w21 := Lib.hid (q_next HB20.out HS_w21.out)
        rw [← hw21]
        obtain ⟨b21, hb21⟩ : ∃ b, b = w20.heap.size := ⟨_, rfl⟩
        rw [← hb21] at HV_w21 ⊢
        clear hw21 hb21
      
        obtain ⟨a0, a1, a2, a3, a4⟩ := vcellsAt HV_w21.out
        go_wp2_with (go_at_call 19; (with_reducible refine (HE2.out _).mono ?_); rintro e w22 ⟨rfl, hb22⟩)
        go_ret
        exact ⟨rfl, HB1.out.trans ((q_next HB_w21.out hb22).mono HB1.out.size)⟩
end Go.Proofs.YtggdcnjaofflbaaGreatDoor
