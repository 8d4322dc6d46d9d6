/- Walk of the law: QuorumSuffices. The conditions: what the row holds, the tables of constants. -/
import Derived.Deep.DeepCutAuto
import Derived.Deep.CutBlock
import Derived.Test.YtggdcnjaofflbaaGreatDoorC20
import Derived.Test.YtggdcnjaofflbaaGreatDoorDB00
import Derived.Test.YtggdcnjaofflbaaGreatDoorC19
namespace Go.Proofs.YtggdcnjaofflbaaGreatDoor
open Go.RowKit Go.BigFrame

def honA (H : List Nat) : Array Value := ((List.range 8).map fun j => Value.bool (decide (j ∈ H))).toArray
theorem honA_get (H : List Nat) {j : Nat} (h : j < 8) : (honA H)[j]? = some (.bool (decide (j ∈ H))) := by
  unfold honA
  rw [List.getElem?_toArray, List.getElem?_map, List.getElem?_range h]
  rfl
theorem honA_set (H : List Nat) (j : Nat) : (honA H).setIfInBounds j (.bool true) = honA (H ++ [j]) := by
  refine Array.ext_getElem? fun i => ?_
  rw [Array.getElem?_setIfInBounds]
  have hs : ∀ H, (honA H).size = 8 := fun H => by unfold honA; simp
  rcases Nat.lt_or_ge i 8 with hi | hi
  · rw [honA_get _ hi, honA_get _ hi]
    by_cases e : j = i
    · subst e
      rw [if_pos rfl, if_pos (by rw [hs]; exact hi)]
      simp
    · rw [if_neg e]
      have : i ≠ j := fun e' => e e'.symm
      simp [this]
  · rw [Array.getElem?_eq_none (by rw [hs]; exact hi), Array.getElem?_eq_none (by rw [hs]; exact hi)]
    split
    · rename_i e
      rw [if_neg (by rw [hs]; omega)]
    · rfl
def SuAt (w0 : World) (A : Array Value) (v : Value) (l : List VoteP) (W : World) : Prop := Below w0.heap.size w0 W ∧ W.heap[w0.heap.size]? = some (.cells A 4 (0, 0)) ∧ OwnV W (w0.heap.size + 1) v l
theorem SuAt.far {w0 : World} {A : Array Value} {v : Value} {l : List VoteP} {W W' : World} (h : SuAt w0 A v l W) (hb : Below W.heap.size W W') : SuAt w0 A v l W' :=
  ⟨q_next h.1 hb, (hb.block _ (Array.getElem?_eq_some_iff.1 h.2.1).1).trans h.2.1, OwnE.far h.2.2 hb (Nat.le_refl _)⟩
theorem SuAt.set {w0 : World} {H : List Nat} {v : Value} {l : List VoteP} {W : World} (h : SuAt w0 (honA H) v l W) (j : Nat) : SuAt w0 (honA (H ++ [j])) v l (W.setCell ⟨w0.heap.size, j, none⟩ (.bool true)) := by
  refine ⟨h.1.setCell (p := ⟨w0.heap.size, j, none⟩) (Nat.le_refl _) _, ?_, OwnE.grownT h.2.2 h.2.1 (fun c e => by cases e) (grown_setCell (grown_refl _ _) ⟨w0.heap.size, j, none⟩ (.inl rfl) _)⟩
  rw [← honA_set]
  exact heap_setCell_same (i := j) _ h.2.1
theorem SuAt.free {w0 : World} {A : Array Value} {v : Value} {l : List VoteP} {W : World} (h : SuAt w0 A v l W) (j : Nat) : W.frozen? ⟨w0.heap.size, j, none⟩ = false := by
  unfold World.frozen?
  rw [h.2.1]
  simp
theorem SuAt.row {w0 : World} {A : Array Value} {v v' : Value} {l l' : List VoteP} {W W' : World} (h : SuAt w0 A v l W) {o : Obj} (hg : (W.alloc o).grownBy W' v.ownBlock) (ho : OwnV W' (w0.heap.size + 1) v' l') : SuAt w0 A v' l' W' := by
  have hs := (Array.getElem?_eq_some_iff.1 h.2.1).1
  refine ⟨(h.1.alloc h.1.size o).grown hg (by simp; omega) (fun j e => by have := OwnE.ge h.2.2 j e; omega), ?_, ho⟩
  refine (hg.block _ (by simp; omega) (fun e => ?_)).trans (alloc_at h.2.1)
  have := OwnE.ge h.2.2 _ e.symm
  omega
def KeepBut (g0 : Nat) (wq wr : World) : Prop := wq.heap.size ≤ wr.heap.size ∧ ∀ b, b < wq.heap.size → b ≠ g0 → wr.heap[b]? = wq.heap[b]?
theorem KeepBut.refl (g0 : Nat) (w : World) : KeepBut g0 w w := ⟨Nat.le_refl _, fun _ _ _ => rfl⟩
theorem KeepBut.far {g0 : Nat} {wq wr w' : World} (h : KeepBut g0 wq wr) (hb : Below wr.heap.size wr w') : KeepBut g0 wq w' :=
  ⟨Nat.le_trans h.1 hb.size, fun b h1 h2 => (hb.block b (Nat.lt_of_lt_of_le h1 h.1)).trans (h.2 b h1 h2)⟩
theorem KeepBut.row {g0 : Nat} {wq W W' : World} (h : KeepBut g0 wq W) {o : Obj} {g : Nat} (hg : (W.alloc o).grownBy W' (some g)) (hgg : g = g0 ∨ wq.heap.size ≤ g) : KeepBut g0 wq W' := by
  have hs := hg.size
  simp at hs
  refine ⟨by have := h.1; omega, fun b h1 h2 => ?_⟩
  have hb : b < W.heap.size := Nat.lt_of_lt_of_le h1 h.1
  exact (hg.block b (by simp; omega) (fun e => by have := Option.some.inj e; omega)).trans ((Below.heap_alloc _ _ _ hb).trans (h.2 b h1 h2))
theorem KeepBut.votes {g0 : Nat} {wq wr : World} (h : KeepBut g0 wq wr) {b o : Nat} {v : VoteP} (hb : b < wq.heap.size) (hne : b ≠ g0) (hv : VAt wq b o v) : VAt wr b o v := by
  have key : ∀ j, wr.cell? ⟨b, j, none⟩ = wq.cell? ⟨b, j, none⟩ := fun j => World.cell?_of_block (a := ⟨b, j, none⟩) (h.2 b hb hne)
  unfold VAt at *
  simp only [key]
  exact hv
theorem filter_snoc {α : Type} {l : List α} {k : Nat} {x : α} (p : α → Bool) (h : l[k]? = some x) : (l.take (k + 1)).filter p = (l.take k).filter p ++ (if p x then [x] else []) := by
  rw [List.take_add_one, h, List.filter_append]
  simp [List.filter_cons]
set_option maxHeartbeats 8000000 in
set_option maxRecDepth 100000 in
theorem suffices_walk {w : World} {x : Value} {xs : List R4} (n at1 value first : Int) (hx : RS w x xs) (hi : ∀ q ∈ xs, Int4 q) (i0 : I64 n) (i1 : I64 at1) (i2 : I64 value) (i3 : I64 first) (he : QEnv w) :
    Calls Tryz.prog 7 #[.int .i64 n, .int .i64 at1, .int .i64 value, .int .i64 first, x] w fun e w' => e = .returned (.bool true) ∧ Below w.heap.size w w' := by
  have HSA := Lib.hid (sane_any he)
  have HMA := Lib.hid (fun W => made19_any n i0 W)
  have HAT := Lib.hid (fun W => at_any at1 i1 W)
  have HVL := Lib.hid (fun W => valN_any value i2 W)
  have HX := Lib.hid hx
  have HI := Lib.hid hi
  have HE := Lib.hid he
  have hm := madeN_or n
  have hnr := atNum_range at1
  have hsr := atStp_range at1
  have hus := valN_size value
  have hpr := pickI_range first (show (0 : Int) < (madeN n : Int) by omega)
  have HPK := Lib.hid (fun W => lpickQ_any first (madeN n) W i3 (by omega) (by omega))
  obtain ⟨p, hp⟩ : ∃ p : Nat, pickI first (madeN n) = (p : Int) := ⟨(pickI first (madeN n)).toNat, by omega⟩
  rw [hp] at HPK hpr
  generalize madeN n = m at *
  generalize atNum at1 = num at *
  generalize atStp at1 = stp at *
  generalize valN value = u at *
  clear hx hi he hp
  go_enter Tryz.func7, Tryz.ntmps7
  go_upto_region 4 with (go_at_call 11; refine HSA.out.mono ?_; rintro e w2 ⟨rfl, hb2⟩)
  go_upto_region 5 with (go_at_call 12; refine (HMA.out _).mono ?_; rintro e w3 ⟨kv, rfl, hks, hb3⟩; obtain ⟨ka, kc, hkv, -, -, -⟩ := hks.opened; rw [madeQ_len] at hkv; subst hkv)
  have HB3 := Lib.hid (q_next hb2 hb3)
  have HK3 := Lib.hid hks
  clear hb2 hb3 hks
  obtain ⟨w4, hw4⟩ : ∃ W, W = w3.alloc (.cells #[.slice ka m kc] 31) := ⟨_, rfl⟩
  have HV_w4 : Hid (w4.heap[w3.heap.size]? = some (.cells #[.slice ka m kc] 31 (0, 0))) := Lib.hid (by rw [hw4]; exact heap_alloc_new w3 _)
  have HS_w4 : Hid (Below w3.heap.size w3 w4) := Lib.hid (by rw [hw4]; exact (Below.refl _ _).alloc (Nat.le_refl _) _)
  have HB_w4 := Lib.hid (q_next HB3.out HS_w4.out)
  rw [← hw4]
  obtain ⟨bc, hbc⟩ : ∃ b, b = w3.heap.size := ⟨_, rfl⟩
  rw [← hbc] at HV_w4 ⊢
  clear hw4 hbc
  go_upto_region 6 with (go_at_call 13; refine (HAT.out _).mono ?_; rintro e w5 ⟨rfl, hb5⟩)
  have HB5 := Lib.hid (q_next HB_w4.out hb5)
  have HV5 := Lib.hid ((hb5.block _ (Array.getElem?_eq_some_iff.1 HV_w4.out).1).trans HV_w4.out)
  have HK5 := Lib.hid (HK3.out.below (q_next HS_w4.out hb5))
  clear hb5 HV_w4 HS_w4 HB_w4 HK3 HB3
  obtain ⟨w6, hw6⟩ : ∃ W, W = w5.alloc (.cells #[.int .i64 num, .int .i64 stp] 25) := ⟨_, rfl⟩
  have HV_w6 : Hid (w6.heap[w5.heap.size]? = some (.cells #[.int .i64 num, .int .i64 stp] 25 (0, 0))) := Lib.hid (by rw [hw6]; exact heap_alloc_new w5 _)
  have HS_w6 : Hid (Below w5.heap.size w5 w6) := Lib.hid (by rw [hw6]; exact (Below.refl _ _).alloc (Nat.le_refl _) _)
  have HB_w6 := Lib.hid (q_next HB5.out HS_w6.out)
  rw [← hw6]
  obtain ⟨bs, hbs⟩ : ∃ b, b = w5.heap.size := ⟨_, rfl⟩
  rw [← hbs] at HV_w6 ⊢
  clear hw6 hbs
  go_upto_region 7 with (go_at_call 14; refine (HVL.out _).mono ?_; rintro e w7 ⟨rfl, hb7⟩)
  have HB7 := Lib.hid (q_next HB_w6.out hb7)
  have HK7 := Lib.hid (HK5.out.below (q_next HS_w6.out hb7))
  have HVC := Lib.hid (((q_next HS_w6.out hb7).block _ (Array.getElem?_eq_some_iff.1 HV5.out).1).trans HV5.out)
  have HVS := Lib.hid ((hb7.block _ (Array.getElem?_eq_some_iff.1 HV_w6.out).1).trans HV_w6.out)
  clear hb7 HV_w6 HS_w6 HB_w6 HK5 HB5 HV5 HSA HMA HAT HVL
  have HCB : Hid (∀ W, Below w7.heap.size w7 W → W.cell? ⟨bc, 0, none⟩ = some (.slice ka m kc) ∧ W.cell? ⟨bs, 0, none⟩ = some (.int .i64 num) ∧ W.cell? ⟨bs, 1, none⟩ = some (.int .i64 stp)) := Lib.hid (fun W hW => by
    have h := two_at ((hW.block bs (Array.getElem?_eq_some_iff.1 HVS.out).1).trans HVS.out)
    exact ⟨cell_of_row W _ 0 _ _ _ ((hW.block bc (Array.getElem?_eq_some_iff.1 HVC.out).1).trans HVC.out), h.1, h.2⟩)
  have hmk : ∀ W : World, (Instr.makeSlice 73 (.int .i64 8) (.int .i64 8)).run Tryz.prog W = .ok (.slice (some ⟨W.heap.size, 0, none⟩) 8 8) (W.alloc (.cells #[.bool false, .bool false, .bool false, .bool false, .bool false, .bool false, .bool false, .bool false] 4)) := fun _ => by kernel_rfl
  go_upto_region 9 with fail
  obtain ⟨W8, hW8⟩ : ∃ W8, W8 = w7.alloc (.cells #[.bool false, .bool false, .bool false, .bool false, .bool false, .bool false, .bool false, .bool false] 4) := ⟨_, rfl⟩
  have HS0 : Hid (SuAt w7 (honA (honL p m 0)) (.slice none 0 0) ((honL p m 0).map (castL · num stp u)) W8) := Lib.hid (by rw [hW8]; exact ⟨(Below.refl _ _).alloc (Nat.le_refl _) _, heap_alloc_new w7 _, OwnE.nil _ _ _ _⟩)
  rw [← hW8]
  clear hW8 hmk
  obtain ⟨f, hf⟩ : ∃ f, f = (m - 1) / 3 := ⟨_, rfl⟩
  have hf2 : f ≤ 2 := by omega
  have hfm : 2 * f + 1 ≤ m := by omega
  have HEN : Hid (enoughC (madeQ m) = 2 * f + 1) := Lib.hid (by unfold enoughC; rw [madeQ_len, hf])
  have HFA := Lib.hid (fun W => faults_any hm ka kc W)
  rw [← hf] at HFA
  have HE7 := Lib.hid (HE.out.step HB7.out)
  have HCA : Hid (∀ j : Nat, j < 256 → ∀ W, Below w7.heap.size w7 W → Calls Tryz.prog 43 #[.int .i64 j, .agg #[.int .i64 num, .int .i64 stp], .string u] W fun e w' => e = .returned (vagg (castL j num stp u)) ∧ Below W.heap.size W w') := Lib.hid (fun j hj W hW => by
    have h := HE7.out.step hW
    exact castL_any j hj num stp u W h.env h.round)
  have hm7 : m ≤ 7 := by omega
  have hm1 : 1 ≤ m := by omega
  have HM := Lib.hid hm
  clear hf hm
  go_wp2
  go_loopw [15, 17] (fun v i wr => ∃ k : Nat, k ≤ 2 * f + 1 ∧ i = .int .i64 k ∧ Hid (SuAt w7 (honA (honL p m k)) v ((honL p m k).map (castL · num stp u)) wr)) (fun _ i _ => 2 * f + 1 - (intOf i).toNat)
  case atStart => exact ⟨0, by omega, rfl, HS0⟩
  case round =>
    obtain ⟨k, hk, rfl, hS⟩ := hrel
    clear HS0
    obtain ⟨va, vc, hv⟩ := hS.out.2.2.form
    rw [List.length_map, honL_len] at hv
    subst hv
    obtain ⟨c0, t0, t1⟩ := HCB.out wr hS.out.1
    by_cases hlt : k < 2 * f + 1
    · have tk : (k : Int) < 2 * (f : Int) + 1 := by omega
      obtain ⟨j, hj⟩ : ∃ j, j = (p + k) % m := ⟨_, rfl⟩
      have hjm : j < m := by rw [hj]; exact Nat.mod_lt _ (by omega)
      have hjI : (IntKind.i64.wrap ((p : Int) + (k : Int))).tmod (m : Int) = (j : Int) := by
        rw [IntWalk.i64_in _ (by omega), Int.tmod_eq_emod_of_nonneg (by omega), hj, Int.natCast_emod, Int.natCast_add]
      have HSN : Hid (honL p m (k + 1) = honL p m k ++ [j]) := Lib.hid (by rw [honL_snoc, ← hj])
      clear hj
      go_upto_region 12 with (go_at_call 36; refine (HFA.out _).mono ?_; rintro e wa ⟨rfl, hba⟩)
      have hSa := Lib.hid (hS.out.far hba)
      clear c0 t0 t1 hba hS
      have hm0 : ¬ m = 0 := by omega
      refine wp_region_noPanic ?_
      refine wp_region_lexB [.q 0, .q 1, .q 2, .q 3, .q 5, .q 7, .q 8, .q 9, .b 4, .q 6, .q 10, .q 11] (by kernel_rfl) (by kernel_rfl) (fun _ _ _ _ h => h) ?_
      iterate 8 (refine wpFl_qL (v := ?_) rfl (Or.inl ⟨by rfl, ?_⟩) ?_; rotate_left; (focus (intro w' hSw; (try dsimp only [OldKept] at hSw); obtain ⟨c0, -, -⟩ := HCB.out w' (q_next hSa.out.1 hSw); go_simp; (try with_reducible rfl); done)); simp only [Act.put, List.setIfInBounds_toArray, List.set_cons_zero, List.set_cons_succ])
      refine wpFl_bL rfl (fun wb hnb hsb K hK => ?_)
      go_simp
      go_at_call 16
      (with_reducible refine (HPK.out _).mono ?_)
      rintro e w' ⟨rfl, hw'⟩
      replace hw' := hw'.symm
      subst hw'
      refine hK.out _ _ hsb (Keeps.below (Below.refl _ _)) ?_
      clear hK K hnb
      iterate 3 (refine wpFl_qL (v := ?_) rfl (Or.inl ⟨by rfl, ?_⟩) ?_; rotate_left; (focus (intro w' hSw; (try dsimp only [OldKept] at hSw); go_simp; (try with_reducible rfl); done)); simp only [Act.put, List.setIfInBounds_toArray, List.set_cons_zero, List.set_cons_succ])
      refine wpFl_nil ?_
      refine NoPanic.normal ?_
      have hSb := Lib.hid (hSa.out.far hsb)
      clear hjI hm0 tk hSa hsb
      have zf := hSb.out.free
      have jc : wb.cell? ⟨w7.heap.size, j, none⟩ = some (.bool (decide (j ∈ honL p m k))) := (cell_of_row wb _ j _ _ _ hSb.out.2.1).trans (honA_get _ (by omega))
      have tj0 : (0 : Int) ≤ (j : Int) := by omega
      have tj8 : (j : Int) < 8 := by omega
      go_upto_region 14 with fail
      clear zf jc
      have hSc := Lib.hid (hSb.out.set j)
      rw [← HSN.out] at hSc
      generalize wb.setCell ⟨w7.heap.size, j, none⟩ (.bool true) = wc at *
      obtain ⟨-, t0, t1⟩ := HCB.out wc hSc.out.1
      have HCJ := Lib.hid (HCA.out j (by omega))
      obtain ⟨z, hz⟩ : ∃ z, z = castL j num stp u := ⟨_, rfl⟩
      have HPS : Hid ((honL p m (k + 1)).map (castL · num stp u) = (honL p m k).map (castL · num stp u) ++ [z]) := Lib.hid (by rw [HSN.out, List.map_append, hz]; rfl)
      have hPL : Hid (((honL p m k).map (castL · num stp u)).length = k) := Lib.hid (by rw [List.length_map, honL_len])
      rw [← hz] at HCJ
      obtain ⟨PL, hPLe⟩ : ∃ PL, PL = (honL p m k).map (castL · num stp u) := ⟨_, rfl⟩
      rw [← hPLe] at HPS hSc hPL
      obtain ⟨zc, zn, zs, zv, zl⟩ := z
      simp only [vagg] at HCJ
      have HCW := Lib.hid (HCJ.out wc hSc.out.1)
      clear hz hPLe hSb HCJ
      go_wp2_with (first | (go_at_call 43; (with_reducible refine HCW.out.mono ?_); rintro e wd ⟨rfl, hbd⟩; have HSD := Lib.hid (hSc.out.far hbd); have HOA : Hid (OwnV (wd.alloc (.cells #[.int .i64 zc, .int .i64 zn, .int .i64 zs, .string zv, .string zl] 27)) (w7.heap.size + 1) (.slice va k vc) PL) := Lib.hid (OwnE.alloc HSD.out.2.2 _); have HNA := Lib.hid (heap_alloc_new wd (.cells #[.int .i64 zc, .int .i64 zn, .int .i64 zs, .string zv, .string zl] 27)); have HBA : Hid (w7.heap.size + 1 ≤ (wd.alloc (.cells #[.int .i64 zc, .int .i64 zn, .int .i64 zs, .string zv, .string zl] 27)).heap.size) := Lib.hid (by have := (Array.getElem?_eq_some_iff.1 HSD.out.2.1).1; simp; omega); have hl6 : Hid (PL.length ≤ 1000000) := Lib.hid (by rw [hPL.out]; omega)) | (at_builtin; refine wpList_append_voteB _ _ (w7.heap.size + 1) _ PL ⟨zc, zn, zs, zv, zl⟩ wd.heap.size _ HOA.out hl6.out HBA.out HNA.out rfl rfl rfl rfl ?_; intro g7 c7 w12 hown7 hgr7 _; have HS9 := Lib.hid (HSD.out.row hgr7 hown7); clear hown7 hgr7))
      go_roundw
      case rel => exact ⟨k + 1, by omega, by go_num, Lib.hid (by rw [HPS.out]; exact HS9.out)⟩
      case measure => simp [intOf]; omega
    · obtain rfl : k = 2 * f + 1 := by omega
      have tk : ¬ ((2 * f + 1 : Nat) : Int) < 2 * (f : Int) + 1 := by omega
      obtain ⟨P0, hP0⟩ : ∃ P0, P0 = (honL p m (2 * f + 1)).map (castL · num stp u) := ⟨_, rfl⟩
      have hPL : P0.length = 2 * f + 1 := by rw [hP0, List.length_map, honL_len]
      have HP0 := Lib.hid hP0
      rw [← hP0] at hS
      obtain ⟨H, hH⟩ : ∃ H, H = honL p m (2 * f + 1) := ⟨_, rfl⟩
      have HH := Lib.hid hH
      rw [← hH] at hS
      clear hP0 hH hk
      obtain ⟨g0, rfl, hg0⟩ : ∃ g0, va = some ⟨g0, 0, none⟩ ∧ g0 < wr.heap.size := by
        rcases hS.out.2.2.2 with ⟨_, h0⟩ | ⟨g, cap, cur, hv, hb, hg, _⟩
        · rw [List.length_map, hPL] at h0
          omega
        · injection hv with e1 _ _
          exact ⟨g, e1, (Array.getElem?_eq_some_iff.1 hg).1⟩
      have HXR := Lib.hid (fun W (hW : Below w7.heap.size w7 W) => pool_own (HX.out.below (q_next HB7.out hW)) HI.out)
      go_upto_region 15 with (go_at_call 36; refine (HFA.out _).mono ?_; rintro e wa ⟨rfl, hba⟩)
      clear c0 t0 t1
      have HSa := Lib.hid (hS.out.far hba)
      have hg0a : g0 < wa.heap.size := Nat.lt_of_lt_of_le hg0 hba.size
      have HPO := Lib.hid (HXR.out wa HSa.out.1)
      clear hba hg0 hS HXR
      go_upto_region 16 with (go_at_call 15; refine HPO.out.mono ?_; rintro e wq ⟨vo, rfl, hvo, hbq⟩)
      have HSq := Lib.hid (HSa.out.far hbq)
      have hoge := fun b (h : vo.ownBlock = some b) => OwnE.ge hvo b h
      obtain ⟨oa, oc, hov, hol, hom, ho3⟩ := hvo.vs.opened
      subst hov
      have HO3 : Hid (∀ k o, (poolN xs)[k]? = some o → ∃ b off, oa = some ⟨b, off, none⟩ ∧ b < wq.heap.size ∧ b ≠ g0 ∧ VAt wq b (off + k * 5) o) := Lib.hid (fun k o hk => by
        obtain ⟨b, off, e, h1, h2⟩ := ho3 k o hk
        refine ⟨b, off, e, h1, fun e' => ?_, h2⟩
        subst e e'
        have := hoge b rfl
        omega)
      have HOF := Lib.hid (fun o (h : o ∈ poolN xs) => poolN_formed h)
      have hN30 := poolN_len xs
      clear hvo hbq hoge hol hom ho3 HPO HSa
      generalize poolN xs = OT at *
      obtain ⟨N, hN⟩ : ∃ N, N = OT.length := ⟨_, rfl⟩
      rw [← hN] at hN30 ⊢
      have HN := Lib.hid hN
      have HS0 : Hid (SuAt w7 (honA H) (.slice (some ⟨g0, 0, none⟩) (2 * f + 1) vc) (P0 ++ (OT.take 0).filter (leftIn H num stp)) wq) := Lib.hid (by rw [List.take_zero, List.filter_nil, List.append_nil]; exact HSq.out)
      clear hN HSq
      go_wp2
      go_loopw [15, 20] (fun v i wr => ∃ (k g L gc : Nat), k ≤ N ∧ i = .int .i64 k ∧ v = .slice (some ⟨g, 0, none⟩) L gc ∧ L ≤ 2 * f + 1 + k ∧ Hid (SuAt w7 (honA H) (.slice (some ⟨g, 0, none⟩) L gc) (P0 ++ (OT.take k).filter (leftIn H num stp)) wr) ∧ Hid (KeepBut g0 wq wr) ∧ Hid (g = g0 ∨ wq.heap.size ≤ g)) (fun _ i _ => N - (intOf i).toNat)
      case atStart => exact ⟨0, g0, 2 * f + 1, vc, by omega, rfl, rfl, by omega, HS0, Lib.hid (KeepBut.refl _ _), Lib.hid (.inl rfl)⟩
      case round =>
        obtain ⟨k, g, L, gc, hk, rfl, rfl, hL, hS, hK, HGG⟩ := hrel
        clear HS0
        by_cases hlt : k < N
        · have tk : (k : Int) < (N : Int) := by omega
          have tk0 : (0 : Int) ≤ (k : Int) := by omega
          obtain ⟨o, eo⟩ : ∃ o, OT[k]? = some o := ⟨_, List.getElem?_eq_getElem (by rw [← HN.out]; exact hlt)⟩
          obtain ⟨ob, oo, rfl, hob, hone, hov⟩ := HO3.out k o eo
          have hof := (formed_facts (HOF.out o (List.mem_of_getElem? eo))).1
          have HTS := Lib.hid (filter_snoc (leftIn H num stp) eo)
          have HOV := Lib.hid (hK.out.votes hob hone hov)
          obtain ⟨oc1, on1, os, ov, ol⟩ := o
          simp only at hof
          obtain ⟨cN, rfl⟩ := Int.eq_ofNat_of_zero_le hof.1
          have hc8 : cN < 8 := by omega
          obtain ⟨FL, hFL⟩ : ∃ FL, FL = P0 ++ (OT.take k).filter (leftIn H num stp) := ⟨_, rfl⟩
          have HFL : Hid (FL.length = L) := Lib.hid (by
            have := hS.out.2.2.form
            obtain ⟨a', c', e⟩ := this
            injection e with _ e2 _
            rw [hFL, ← e2])
          have HFE := Lib.hid hFL
          rw [← hFL] at hS
          have HOC : Hid (∀ W, Below wr.heap.size wr W → W.cell? ⟨w7.heap.size, cN, none⟩ = some (.bool (decide (cN ∈ H))) ∧ VAt W ob (oo + k * 5) ⟨(cN : Int), on1, os, ov, ol⟩) := Lib.hid (fun W hW => by
            refine ⟨(cell_of_row W _ cN _ _ _ ((hW.block _ (Array.getElem?_eq_some_iff.1 hS.out.2.1).1).trans hS.out.2.1)).trans (honA_get _ hc8), HOV.out.keep hW (Nat.lt_of_lt_of_le hob hK.out.1)⟩)
          have HTB := Lib.hid (fun W (hW : Below wr.heap.size wr W) => (HCB.out W (q_next hS.out.1 hW)).2)
          have HLFE : Hid (leftIn H num stp ⟨(cN : Int), on1, os, ov, ol⟩ = (!(decide (cN ∈ H)) || !decide (on1 = num ∧ os = stp))) := Lib.hid rfl
          clear eo hov hone hFL hof
          have tc0 : (0 : Int) ≤ (cN : Int) := by omega
          have tc8 : (cN : Int) < 8 := by omega
          have HSL := Lib.hid (fun W => neqSlot on1 os num stp W)
          obtain ⟨hb, hhb⟩ : ∃ hb, hb = decide (cN ∈ H) := ⟨_, rfl⟩
          rw [← hhb] at HOC HLFE
          obtain ⟨se, hse⟩ : ∃ se, se = decide (on1 = num ∧ os = stp) := ⟨_, rfl⟩
          rw [← hse] at HSL HLFE
          have hsl := HSL.out
          clear hhb hse
          cases hb with
          | false =>
            have HLF : Hid (leftIn H num stp ⟨(cN : Int), on1, os, ov, ol⟩ = true) := Lib.hid (by rw [HLFE.out]; rfl)
            go_upto_region 19 with fail
            refine wp_region_noPanic ?_
            refine wp_region_lexB [.q 0, .q 1, .q 2, .q 3, .q 4, .q 5, .q 6, .q 7, .q 8, .q 9, .q 10, .q 11, .q 12, .q 13, .q 14, .q 15, .q 16, .q 17] (by kernel_rfl) (by kernel_rfl) (fun _ _ _ _ h => h) ?_
            iterate 10 (refine wpFl_qL (v := ?_) rfl (Or.inl ⟨by rfl, ?_⟩) ?_; rotate_left; (focus (intro w' hSw; (try dsimp only [OldKept] at hSw); obtain ⟨hn0, o0, o1, o2, o3, o4⟩ := HOC.out w' hSw; obtain ⟨t0, t1⟩ := HTB.out w' hSw; go_simp; (try with_reducible rfl); done)); simp only [Act.put, List.setIfInBounds_toArray, List.set_cons_zero, List.set_cons_succ])
            iterate 7 (refine wpFl_qL (v := undef) rfl (Or.inr ⟨by rfl, rfl⟩) ?_; simp only [Act.put, List.setIfInBounds_toArray, List.set_cons_zero, List.set_cons_succ])
            refine wpFl_qL (v := ?_) rfl (Or.inl ⟨by rfl, ?_⟩) ?_
            rotate_left
            focus (intro w' hSw; (try dsimp only [OldKept] at hSw); go_simp; (try with_reducible rfl); done)
            simp only [Act.put, List.setIfInBounds_toArray, List.set_cons_zero, List.set_cons_succ]
            refine wpFl_nil ?_
            refine NoPanic.normal ?_
            have hse : Below wr.heap.size wr wr.drew := Below.drew (Below.refl _ _)
            have HSE := Lib.hid (hS.out.far hse)
            have HKE := Lib.hid (hK.out.far hse)
            generalize wr.drew = we at *
            have HOA : Hid (OwnV (we.alloc (.cells #[.int .i64 (cN : Int), .int .i64 on1, .int .i64 os, .string ov, .string ol] 27)) (w7.heap.size + 1) (.slice (some ⟨g, 0, none⟩) L gc) FL) := Lib.hid (OwnE.alloc HSE.out.2.2 _)
            have HNA := Lib.hid (heap_alloc_new we (.cells #[.int .i64 (cN : Int), .int .i64 on1, .int .i64 os, .string ov, .string ol] 27))
            have HBA : Hid (w7.heap.size + 1 ≤ (we.alloc (.cells #[.int .i64 (cN : Int), .int .i64 on1, .int .i64 os, .string ov, .string ol] 27)).heap.size) := Lib.hid (by have := (Array.getElem?_eq_some_iff.1 HSE.out.2.1).1; simp; omega)
            have hl6 : Hid (FL.length ≤ 1000000) := Lib.hid (by rw [HFL.out]; omega)
            obtain ⟨-, o0, o1, o2, o3, o4⟩ := HOC.out we hse
            go_wp2_with (at_builtin; refine wpList_append_voteB _ _ (w7.heap.size + 1) _ FL ⟨(cN : Int), on1, os, ov, ol⟩ we.heap.size _ HOA.out hl6.out HBA.out HNA.out rfl rfl rfl rfl ?_; intro g7 c7 w12 hown7 hgr7 hgg7; have HS9 := Lib.hid (HSE.out.row hgr7 hown7); have HK9 := Lib.hid (HKE.out.row hgr7 HGG.out); have HG9 := Lib.hid hgg7; clear hown7 hgr7 hgg7)
            go_roundw
            case rel =>
              refine ⟨k + 1, g7, FL.length + 1, c7, by omega, by go_num, rfl, by rw [HFL.out]; omega, ?_, HK9, Lib.hid ?_⟩
              · rw [HTS.out, if_pos HLF.out, ← List.append_assoc, ← HFE.out]
                exact HS9
              · rcases HG9.out with e | e
                · have := Option.some.inj e
                  subst this
                  exact HGG.out
                · right
                  rw [e]
                  have := HKE.out.1
                  simp
                  omega
            case measure => simp [intOf]; omega
          | true =>
            cases se with
            | false =>
              have HLF : Hid (leftIn H num stp ⟨(cN : Int), on1, os, ov, ol⟩ = true) := Lib.hid (by rw [HLFE.out]; rfl)
              go_upto_region 19 with fail
              refine wp_region_noPanic ?_
              refine wp_region_lexB [.q 0, .q 1, .q 2, .q 3, .q 4, .q 5, .q 6, .q 7, .q 8, .q 9, .q 10, .q 11, .q 12, .q 13, .q 14, .q 15, .q 16, .q 17] (by kernel_rfl) (by kernel_rfl) (fun _ _ _ _ h => h) ?_
              iterate 18 (refine wpFl_qL (v := ?_) rfl (Or.inl ⟨by rfl, ?_⟩) ?_; rotate_left; (focus (intro w' hSw; (try dsimp only [OldKept] at hSw); obtain ⟨hn0, o0, o1, o2, o3, o4⟩ := HOC.out w' hSw; obtain ⟨t0, t1⟩ := HTB.out w' hSw; go_simp; (try with_reducible rfl); done)); simp only [Act.put, List.setIfInBounds_toArray, List.set_cons_zero, List.set_cons_succ])
              refine wpFl_nil ?_
              refine NoPanic.normal ?_
              have hse : Below wr.heap.size wr wr.drew := Below.drew (Below.refl _ _)
              have HSE := Lib.hid (hS.out.far hse)
              have HKE := Lib.hid (hK.out.far hse)
              generalize wr.drew = we at *
              have HOA : Hid (OwnV (we.alloc (.cells #[.int .i64 (cN : Int), .int .i64 on1, .int .i64 os, .string ov, .string ol] 27)) (w7.heap.size + 1) (.slice (some ⟨g, 0, none⟩) L gc) FL) := Lib.hid (OwnE.alloc HSE.out.2.2 _)
              have HNA := Lib.hid (heap_alloc_new we (.cells #[.int .i64 (cN : Int), .int .i64 on1, .int .i64 os, .string ov, .string ol] 27))
              have HBA : Hid (w7.heap.size + 1 ≤ (we.alloc (.cells #[.int .i64 (cN : Int), .int .i64 on1, .int .i64 os, .string ov, .string ol] 27)).heap.size) := Lib.hid (by have := (Array.getElem?_eq_some_iff.1 HSE.out.2.1).1; simp; omega)
              have hl6 : Hid (FL.length ≤ 1000000) := Lib.hid (by rw [HFL.out]; omega)
              obtain ⟨-, o0, o1, o2, o3, o4⟩ := HOC.out we hse
              go_wp2_with (at_builtin; refine wpList_append_voteB _ _ (w7.heap.size + 1) _ FL ⟨(cN : Int), on1, os, ov, ol⟩ we.heap.size _ HOA.out hl6.out HBA.out HNA.out rfl rfl rfl rfl ?_; intro g7 c7 w12 hown7 hgr7 hgg7; have HS9 := Lib.hid (HSE.out.row hgr7 hown7); have HK9 := Lib.hid (HKE.out.row hgr7 HGG.out); have HG9 := Lib.hid hgg7; clear hown7 hgr7 hgg7)
              go_roundw
              case rel =>
                refine ⟨k + 1, g7, FL.length + 1, c7, by omega, by go_num, rfl, by rw [HFL.out]; omega, ?_, HK9, Lib.hid ?_⟩
                · rw [HTS.out, if_pos HLF.out, ← List.append_assoc, ← HFE.out]
                  exact HS9
                · rcases HG9.out with e | e
                  · have := Option.some.inj e
                    subst this
                    exact HGG.out
                  · right
                    rw [e]
                    have := HKE.out.1
                    simp
                    omega
              case measure => simp [intOf]; omega
            | true =>
              have HLF : Hid (leftIn H num stp ⟨(cN : Int), on1, os, ov, ol⟩ = false) := Lib.hid (by rw [HLFE.out]; rfl)
              go_upto_region 19 with fail
              refine wp_region_noPanic ?_
              refine wp_region_lexB [.q 0, .q 1, .q 2, .q 3, .q 4, .q 5, .q 6, .q 7, .q 8, .q 9, .q 10, .q 11, .q 12, .q 13, .q 14, .q 15, .q 16, .q 17] (by kernel_rfl) (by kernel_rfl) (fun _ _ _ _ h => h) ?_
              iterate 18 (refine wpFl_qL (v := ?_) rfl (Or.inl ⟨by rfl, ?_⟩) ?_; rotate_left; (focus (intro w' hSw; (try dsimp only [OldKept] at hSw); obtain ⟨hn0, o0, o1, o2, o3, o4⟩ := HOC.out w' hSw; obtain ⟨t0, t1⟩ := HTB.out w' hSw; go_simp; (try with_reducible rfl); done)); simp only [Act.put, List.setIfInBounds_toArray, List.set_cons_zero, List.set_cons_succ])
              refine wpFl_nil ?_
              refine NoPanic.normal ?_
              have hse : Below wr.heap.size wr wr.drew := Below.drew (Below.refl _ _)
              have HSE := Lib.hid (hS.out.far hse)
              have HKE := Lib.hid (hK.out.far hse)
              go_wp2
              go_roundw
              case rel =>
                refine ⟨k + 1, g, L, gc, by omega, by go_num, rfl, by omega, ?_, HKE, HGG⟩
                rw [HTS.out, if_neg (by rw [HLF.out]; decide), List.append_nil, ← HFE.out]
                exact HSE
              case measure => simp [intOf]; omega
        · obtain rfl : k = N := by omega
          have tk : ¬ (k : Int) < (k : Int) := by omega
          have hfin : OT.take k = OT := by rw [HN.out, List.take_length]
          rw [hfin] at hS
          obtain ⟨P, hP⟩ : ∃ P, P = P0 ++ OT.filter (leftIn H num stp) := ⟨_, rfl⟩
          rw [← hP] at hS
          have hlw := suffices_made (p := p) HM.out (num := num) (stp := stp) (by omega) (by omega) hus (others := OT) (by rw [← HN.out]; exact hN30) P (by rw [hP, HP0.out, HH.out, HEN.out])
          obtain ⟨⟨l, hl1, hl2⟩, hl3⟩ := hlw
          have HW7 := Lib.hid hS.out.1
          have HEW := Lib.hid (HE7.out.step hS.out.1)
          have HKW := Lib.hid (HK7.out.below hS.out.1)
          have HVW := Lib.hid hS.out.2.2.vs
          have HP1 := Lib.hid (prove_w HEW.out HKW.out HVW.out num stp u hus (some l) hl1)
          have HD1 := Lib.hid (decided_w HEW.out HKW.out (madeQ_valid HM.out) HVW.out num stp (some u) hl3)
          have HL2 := Lib.hid hl2
          simp only [decR] at HD1
          obtain ⟨c0, t0, t1⟩ := HCB.out wr HW7.out
          clear hfin hP hl1 hl2 hl3 hS hK HGG HO3 HOF HX HI HPK HFA HCA HP0
          go_upto_region 22 with (go_at_call 34; refine (HP1.out wr (Below.refl _ _)).mono ?_; rintro e wx ⟨vl, rfl, hvl, hbx⟩; simp only [Option.isSome_some, Option.getD_some] at hvl ⊢)
          have HVL2 := Lib.hid hvl
          have HBX := Lib.hid hbx
          clear hvl hbx c0 t0 t1
          obtain ⟨c0, t0, t1⟩ := HCB.out wx (q_next HW7.out HBX.out)
          go_upto_region 23 with (go_at_call 44; refine (HD1.out wx HBX.out).mono ?_; rintro e wy ⟨rfl, hby⟩)
          have HBY := Lib.hid (q_next HBX.out hby)
          have HVY := Lib.hid (HVL2.out.below hby)
          clear hby c0 t0 t1
          have HEY := Lib.hid (HEW.out.step HBY.out)
          have HKY := Lib.hid (HKW.out.below HBY.out)
          have HC1 := Lib.hid (qcheck_w HEY.out HKY.out HVY.out num stp u true HL2.out)
          obtain ⟨c0, t0, t1⟩ := HCB.out wy (q_next HW7.out HBY.out)
          go_wp2_with (go_at_call 39; refine (HC1.out wy (Below.refl _ _)).mono ?_; rintro e wz ⟨rfl, hbz⟩)
          go_ret
          exact ⟨rfl, HB7.out.trans ((q_next HW7.out (q_next HBY.out hbz)).mono HB7.out.size)⟩
end Go.Proofs.YtggdcnjaofflbaaGreatDoor
