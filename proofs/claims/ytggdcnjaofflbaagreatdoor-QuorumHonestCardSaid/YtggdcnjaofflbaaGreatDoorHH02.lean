/- Walk of the law: QuorumHonest, from the pool on. The conditions: what is known. -/
import Derived.Test.YtggdcnjaofflbaaGreatDoorC21
import Derived.Test.YtggdcnjaofflbaaGreatDoorHH00
import Derived.Test.YtggdcnjaofflbaaGreatDoorHH01
namespace Go.Proofs.YtggdcnjaofflbaaGreatDoor
open Go.RowKit Go.BigFrame

theorem wp_of_eqH {P : Program} {c L : Code} {Q : Exit → Act → World → Prop} {a : Act} {w : World} (h : c.wp P Q a w) (e : c = L) : L.wp P Q a w := e ▸ h
def HoAt (w0 : World) (v : Value) (l : List VoteP) (W : World) : Prop := Below w0.heap.size w0 W ∧ OwnV W w0.heap.size v l
theorem HoAt.far {w0 : World} {v : Value} {l : List VoteP} {W W' : World} (h : HoAt w0 v l W) (hb : Below W.heap.size W W') : HoAt w0 v l W' := ⟨q_next h.1 hb, OwnE.far h.2 hb (Nat.le_refl _)⟩
theorem HoAt.row {w0 : World} {v v' : Value} {l l' : List VoteP} {W W' : World} (h : HoAt w0 v l W) {o : Obj} (hg : (W.alloc o).grownBy W' v.ownBlock) (ho : OwnV W' w0.heap.size v' l') : HoAt w0 v' l' W' :=
  ⟨(h.1.alloc h.1.size o).grown hg (by simp; have := h.1.size; omega) (fun j e => OwnE.ge h.2 j e), ho⟩
theorem KeepBut.rowO {g0 : Nat} {wq W W' : World} (h : KeepBut g0 wq W) {o : Obj} {x : Option Nat} (hg : (W.alloc o).grownBy W' x) (hgg : ∀ g, x = some g → g = g0 ∨ wq.heap.size ≤ g) : KeepBut g0 wq W' := by
  have hs := hg.size
  simp at hs
  refine ⟨by have := h.1; omega, fun b h1 h2 => ?_⟩
  have hb : b < W.heap.size := Nat.lt_of_lt_of_le h1 h.1
  exact (hg.block b (by simp; omega) (fun e => by have := hgg b e.symm; omega)).trans ((Below.heap_alloc _ _ _ hb).trans (h.2 b h1 h2))
def rtQHB (c : Code) : Code := rtQ (rtQ (rtQ (rtQ (rtQ (rtQ (rtQ (c)))))))
theorem tailQHB {c L : Code} (h : ∃ a0 a1 a2 a3 a4 a5 a6 : Code, Tryz.f5.body = some (a0.seq (a1.seq (a2.seq (a3.seq (a4.seq (a5.seq (a6.seq (c))))))))) (hL : Tryz.f5.body.map rtQHB = some L := by rfl) : c = L := by
  obtain ⟨a0, a1, a2, a3, a4, a5, a6, e⟩ := h
  rw [e] at hL
  exact Option.some.inj hL
set_option maxHeartbeats 16000000 in
set_option maxRecDepth 100000 in
theorem honest_pool {w w0 wb : World} (HB0 : Hid (Below w.heap.size w w0)) (HE0 : Hid (QEnv w0)) (bc m kc who : Nat) (ka : Option Addr) (x v0 : Value) (xs : List R4) (l : List VoteP) (HX : Hid (RS w0 x xs)) (HI : Hid (∀ q ∈ xs, Int4 q)) (hm : m = 1 ∨ m = 4 ∨ m = 7)
    (HK : Hid (SS w0 (.slice ka m kc) (madeQ m))) (HCB : Hid (∀ W, Below w0.heap.size w0 W → W.cell? ⟨bc, 0, none⟩ = some (.slice ka m kc))) (hbc : bc < w0.heap.size)
    (HO : Hid (HoAt w0 v0 l wb)) (hl : l.length ≤ 20) (HH : Hid (honP who l)) (u0 u1 u2 u4 u5 u6 u7 u8 u13 u14 u15 u16 u17 u18 u19 u20 u21 u22 u23 u24 u25 u26 u27 u28 u29 u30 u31 u32 u33 u34 u35 u36 u37 u38 u39 u40 u41 u42 u43 u44 u45 u46 u47 u48 u49 u50 u51 u52 u53 u54 u55 u56 u57 u58 u59 u60 u61 u62 u63 u64 u65 u66 u67 u68 u69 u70 u71 u72 u73 u74 u75 u76 u77 u78 u79 u80 u81 u82 u83 u84 u85 u86 u87 u88 u89 u90 u91 u92 u93 u94 u95 u96 u97 u98 u99 u100 u101 u102 u103 u104 u105 u106 u107 u108 u109 u110 u111 u112 u113 u114 u115 u116 u117 u118 u119 u120 u121 u122 u123 u124 u125 u126 u127 u128 u129 u130 u131 u132 u133 u134 u135 u136 u137 u138 u139 u140 u141 u142 u143 u144 u145 u146 u147 u148 u149 u150 u151 u152 u153 u154 u155 u156 u157 u158 u159 u160 u161 u162 u163 u164 u165 u166 u167 u168 u169 u170 u171 u172 u173 u174 u175 u176 u177 u178 u179 u180 u181 u182 u183 u184 u185 u186 u187 u188 u189 u190 u191 u192 u193 u194 u195 u196 u197 u198 u199 u200 : Value) :
    ∃ c : Code, (∃ a0 a1 a2 a3 a4 a5 a6 : Code, Tryz.f5.body = some (a0.seq (a1.seq (a2.seq (a3.seq (a4.seq (a5.seq (a6.seq (c))))))))) ∧ c.wp Tryz.prog (bodyPost Tryz.prog Tryz.f5 fun e w' => e = .returned (.bool true) ∧ Below w.heap.size w w') { tmps := #[u0, u1, u2, x, u4, u5, u6, u7, u8, .bool true, .pointer (some ⟨bc, 0, none⟩), .int .i64 (who : Int), v0, u13, u14, u15, u16, u17, u18, u19, u20, u21, u22, u23, u24, u25, u26, u27, u28, u29, u30, u31, u32, u33, u34, u35, u36, u37, u38, u39, u40, u41, u42, u43, u44, u45, u46, u47, u48, u49, u50, u51, u52, u53, u54, u55, u56, u57, u58, u59, u60, u61, u62, u63, u64, u65, u66, u67, u68, u69, u70, u71, u72, u73, u74, u75, u76, u77, u78, u79, u80, u81, u82, u83, u84, u85, u86, u87, u88, u89, u90, u91, u92, u93, u94, u95, u96, u97, u98, u99, u100, u101, u102, u103, u104, u105, u106, u107, u108, u109, u110, u111, u112, u113, u114, u115, u116, u117, u118, u119, u120, u121, u122, u123, u124, u125, u126, u127, u128, u129, u130, u131, u132, u133, u134, u135, u136, u137, u138, u139, u140, u141, u142, u143, u144, u145, u146, u147, u148, u149, u150, u151, u152, u153, u154, u155, u156, u157, u158, u159, u160, u161, u162, u163, u164, u165, u166, u167, u168, u169, u170, u171, u172, u173, u174, u175, u176, u177, u178, u179, u180, u181, u182, u183, u184, u185, u186, u187, u188, u189, u190, u191, u192, u193, u194, u195, u196, u197, u198, u199, u200], defers := [] } wb := by
  refine ⟨_, ⟨_, _, _, _, _, _, _, rfl⟩, ?_⟩
  have HPO := Lib.hid (pool_own (HX.out.below HO.out.1) HI.out)
  have hpl := poolN_len xs
  have hvk := madeQ_valid hm
  obtain ⟨g0, hg0, hgv⟩ : ∃ g0, g0 < wb.heap.size ∧ ∀ g, v0.ownBlock = some g → g = g0 := by
    cases hv : v0.ownBlock with
    | none => exact ⟨bc, Nat.lt_of_lt_of_le hbc HO.out.1.size, fun g e => by cases e⟩
    | some g => exact ⟨g, (World.ownsRow.lt HO.out.2 g hv).2, fun g' e => (Option.some.inj e).symm⟩
  have HGV := Lib.hid hgv
  generalize poolN xs = O at *
  go_upto_region 24 with (go_at_call 15; refine HPO.out.mono ?_; rintro e wq ⟨vo, rfl, hvo, hbq⟩)
  have hoge := fun b (h : vo.ownBlock = some b) => OwnE.ge hvo b h
  obtain ⟨oa, oc, hov, hol, hom, ho3⟩ := hvo.vs.opened
  subst hov
  have HO3 : Hid (∀ k o, O[k]? = some o → ∃ b off, oa = some ⟨b, off, none⟩ ∧ b < wq.heap.size ∧ b ≠ g0 ∧ VAt wq b (off + k * 5) o) := Lib.hid (fun k o hk => by
    obtain ⟨b, off, e, h1, h2⟩ := ho3 k o hk
    refine ⟨b, off, e, h1, fun e' => ?_, h2⟩
    subst e
    have := hoge b rfl
    omega)
  have HOq := Lib.hid (HO.out.far hbq)
  obtain ⟨M, hM⟩ : ∃ M, M = O.length := ⟨_, rfl⟩
  rw [← hM] at hpl ⊢
  have HM := Lib.hid hM
  have HST : Hid (HoAt w0 v0 (l ++ (O.take 0).filter (notW who)) wq) := Lib.hid (by rw [List.take_zero, List.filter_nil, List.append_nil]; exact HOq.out)
  have HG0 : Hid (∀ g, v0.ownBlock = some g → g = g0 ∨ wq.heap.size ≤ g) := Lib.hid (fun g e => Or.inl (HGV.out g e))
  clear ho3 hoge hvo hbq hM hol hom hgv hg0
  go_upto_block 4 with fail
  go_cut [20] (fun v wx => ∃ v' : Value, v = v' ∧ Hid (HoAt w0 v' (l ++ O.filter (notW who)) wx))
  case first =>
    go_wp2
    go_loopw [20, 22] (fun v i wr => ∃ (k : Nat) (v' : Value), k ≤ M ∧ v = v' ∧ i = .int .i64 k ∧ Hid (HoAt w0 v' (l ++ (O.take k).filter (notW who)) wr) ∧ Hid (KeepBut g0 wq wr) ∧ Hid (∀ g, v'.ownBlock = some g → g = g0 ∨ wq.heap.size ≤ g)) (fun _ i _ => M - (intOf i).toNat)
    case atStart => exact ⟨0, v0, by omega, rfl, rfl, HST, Lib.hid (KeepBut.refl _ _), HG0⟩
    case round =>
      clear HST HG0
      obtain ⟨k, v', hk, rfl, rfl, hS, hK, hG⟩ := hrel
      by_cases hlt : k < M
      · have tk : (k : Int) < (M : Int) := by omega
        have tk0 : (0 : Int) ≤ (k : Int) := by omega
        obtain ⟨o, eo⟩ : ∃ o, O[k]? = some o := ⟨_, List.getElem?_eq_getElem (by rw [← HM.out]; exact hlt)⟩
        obtain ⟨ob, oo, rfl, hob, hone, hov⟩ := HO3.out k o eo
        have HTS := Lib.hid (filter_snoc (notW who) eo)
        obtain ⟨FL, hFL⟩ : ∃ FL, FL = l ++ (O.take k).filter (notW who) := ⟨_, rfl⟩
        have hFLl : FL.length ≤ 1000000 := by
          have h1 := List.length_filter_le (notW who) (O.take k)
          have h2 := List.length_take_le k O
          rw [hFL, List.length_append]
          omega
        have HFE := Lib.hid hFL
        rw [← hFL] at hS
        obtain ⟨v0', v1', v2', v3', v4'⟩ := hK.out.votes hob hone hov
        obtain ⟨ocar, on1, os, ov, ol⟩ := o
        simp only at v0' v1' v2' v3' v4'
        clear eo hov hone hFL
        by_cases hcc : ocar = (who : Int)
        · have hbq : (ocar == (who : Int)) = true := by simp [hcc]
          have HNW : Hid (notW who ⟨ocar, on1, os, ov, ol⟩ = false) := Lib.hid (by unfold notW; simp [hcc])
          go_wp2
          go_roundw
          case rel =>
            refine ⟨k + 1, _, by omega, rfl, by go_num, ?_, hK, hG⟩
            rw [HTS.out, if_neg (by rw [HNW.out]; decide), List.append_nil, ← HFE.out]
            exact hS
          case measure => simp [intOf]; omega
        · have hbq : (ocar == (who : Int)) = false := by simp [hcc]
          have HNW : Hid (notW who ⟨ocar, on1, os, ov, ol⟩ = true) := Lib.hid (by unfold notW; simp [hcc])
          have HOA : Hid (OwnV (wr.alloc (.cells #[.int .i64 ocar, .int .i64 on1, .int .i64 os, .string ov, .string ol] 27)) w0.heap.size _ FL) := Lib.hid (OwnE.alloc hS.out.2 _)
          have HNA := Lib.hid (heap_alloc_new wr (.cells #[.int .i64 ocar, .int .i64 on1, .int .i64 os, .string ov, .string ol] 27))
          have HBA : Hid (w0.heap.size ≤ (wr.alloc (.cells #[.int .i64 ocar, .int .i64 on1, .int .i64 os, .string ov, .string ol] 27)).heap.size) := Lib.hid (by have := hS.out.1.size; simp; omega)
          go_wp2_with (at_builtin; refine wpList_append_voteB _ _ w0.heap.size _ FL ⟨ocar, on1, os, ov, ol⟩ wr.heap.size _ HOA.out hFLl HBA.out HNA.out rfl rfl rfl rfl ?_; intro g7 c7 w12 hown7 hgr7 hgg7; have HS9 := Lib.hid (hS.out.row hgr7 hown7); have HK9 := Lib.hid (hK.out.rowO hgr7 hG.out); have HG9 := Lib.hid hgg7; clear hown7 hgr7 hgg7)
          go_roundw
          case rel =>
            refine ⟨k + 1, _, by omega, rfl, by go_num, ?_, HK9, Lib.hid ?_⟩
            · rw [HTS.out, if_pos HNW.out, ← List.append_assoc, ← HFE.out]
              exact HS9
            · intro g e
              rcases HG9.out with e2 | e2
              · exact hG.out g (e2.trans e)
              · right
                have e3 : g7 = g := Option.some.inj e
                rw [← e3, e2]
                have := hK.out.1
                simp
                omega
          case measure => simp [intOf]; omega
      · obtain rfl : k = M := by omega
        have tk : ¬ (k : Int) < (k : Int) := by omega
        have hfin : O.take k = O := by rw [HM.out, List.take_length]
        rw [hfin] at hS
        go_wp2
        go_meet
        case rel => exact ⟨_, rfl, hS⟩
  case rest =>
  obtain ⟨v', hv', hS⟩ := hcut
  subst hv'
  have HEc := Lib.hid (HE0.out.step hS.out.1)
  have HKc := Lib.hid (HK.out.below hS.out.1)
  have HVc := Lib.hid hS.out.2.vs
  have HD1 := Lib.hid (doubles_w HEc.out HKc.out hvk HVc.out (doublesV (madeQ m) (l ++ O.filter (notW who))) rfl)
  have HGz : Hid (∀ d ∈ doublesV (madeQ m) (l ++ O.filter (notW who)), d.1.car ≠ (who : Int) ∧ d.2.car ≠ (who : Int) ∧ convictsV (madeQ m) d = true) := Lib.hid (fun d hd => hon_doubles hm HH.out O hd)
  obtain c0 := HCB.out wc hS.out.1
  go_wp2_with fail
  go_at_call 35
  (with_reducible refine (HD1.out wc (Below.refl _ _)).mono ?_)
  rintro e wz ⟨vl, rfl, hvl, hbz⟩
  have HLz := Lib.hid hvl
  have HBz := Lib.hid (q_next hS.out.1 hbz)
  have HBW := Lib.hid (HB0.out.trans (HBz.out.mono HB0.out.size))
  have HEz := Lib.hid (HE0.out.step HBz.out)
  have HKz := Lib.hid (HK.out.below HBz.out)
  have HCz := Lib.hid (fun W (hW : Below wz.heap.size wz W) => HCB.out W (q_next HBz.out hW))
  dsimp only
  iterate 7 go_step
  refine wp_of_eqH (honest_last HBW HEz bc m kc who ka (madeQ m) vl (doublesV (madeQ m) (l ++ O.filter (notW who))) HKz HCz HLz HGz _ _ _ _ _ _ _ _ _ _ _ _ _ _ _ _ _ _ _ _ _ _ _ _ _ _ _ _ _ _ _ _ _ _ _ _ _ _ _ _ _ _ _ _ _ _ _ _ _ _ _ _ _ _ _ _ _ _ _ _ _ _ _ _ _ _ _ _ _ _ _ _ _ _ _ _ _ _ _ _ _ _ _ _ _ _ _ _ _ _ _ _ _ _ _ _ _ _ _ _ _ _ _ _ _ _ _ _ _ _ _ _ _ _ _ _ _ _ _ _ _ _ _ _ _ _ _ _ _ _ _ _ _ _ _ _ _ _ _ _ _ _ _ _ _ _ _ _ _ _ _ _ _ _ _ _ _ _ _ _ _ _ _ _ _ _ _ _ _ _ _ _ _ _ _ _ _ _ _ _ _ _ _ _ _ _ _ _ _ _ _ _ _ _ _ _ _).choose_spec.2 ?_
  exact tailQHC (honest_last HBW HEz bc m kc who ka (madeQ m) vl (doublesV (madeQ m) (l ++ O.filter (notW who))) HKz HCz HLz HGz _ _ _ _ _ _ _ _ _ _ _ _ _ _ _ _ _ _ _ _ _ _ _ _ _ _ _ _ _ _ _ _ _ _ _ _ _ _ _ _ _ _ _ _ _ _ _ _ _ _ _ _ _ _ _ _ _ _ _ _ _ _ _ _ _ _ _ _ _ _ _ _ _ _ _ _ _ _ _ _ _ _ _ _ _ _ _ _ _ _ _ _ _ _ _ _ _ _ _ _ _ _ _ _ _ _ _ _ _ _ _ _ _ _ _ _ _ _ _ _ _ _ _ _ _ _ _ _ _ _ _ _ _ _ _ _ _ _ _ _ _ _ _ _ _ _ _ _ _ _ _ _ _ _ _ _ _ _ _ _ _ _ _ _ _ _ _ _ _ _ _ _ _ _ _ _ _ _ _ _ _ _ _ _ _ _ _ _ _ _ _ _ _ _ _ _ _).choose_spec.1
end Go.Proofs.YtggdcnjaofflbaaGreatDoor
