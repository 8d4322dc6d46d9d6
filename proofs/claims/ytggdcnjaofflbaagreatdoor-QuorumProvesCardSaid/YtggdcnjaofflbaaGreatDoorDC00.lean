/- The law QuorumProves in the form in which its walk ends. No condition. -/
import Derived.Test.YtggdcnjaofflbaaGreatDoorC18
import Derived.Test.YtggdcnjaofflbaaGreatDoorC08
import Derived.Deep.DeepCutAuto
import Derived.Deep.CutBlock
import Derived.Test.YtggdcnjaofflbaaGreatDoorC20
import Derived.Test.YtggdcnjaofflbaaGreatDoorC22
import Derived.Test.YtggdcnjaofflbaaGreatDoorC19
import Derived.Test.YtggdcnjaofflbaaGreatDoorC13
import Derived.Deep.AppendLies
import Derived.Deep.Upon
namespace Go.Proofs.YtggdcnjaofflbaaGreatDoor

theorem bent_coll {ks : List ByteArray} (hks : ks.all isDig = true) {v : VoteP} {how n : Int} (hv : genV ks v = true) (hu : genV ks (bentV v how n) = true) (hne : v ≠ bentV v how n) :
    collS [markL (voteC v), markN (ks.getD v.car.toNat ⟨#[]⟩) (leafS (voteC v))] [markL (voteC (bentV v how n)), markN (ks.getD (bentV v how n).car.toNat ⟨#[]⟩) (leafS (voteC (bentV v how n)))] = true := by
  refine vote_coll hks hv hu ?_ hne
  by_cases h4 : pickI how 6 = 4
  · exfalso
    have e : bentV v how n = { v with sl := valN n } := by
      unfold bentV
      rw [if_neg (by omega), if_neg (by omega), if_neg (by omega), if_neg (by omega), if_pos h4]
    rw [e] at hu hne
    exact hne (gen_one hv hu rfl rfl rfl rfl)
  · unfold bentV
    split
    · rfl
    split
    · rfl
    split
    · rfl
    split
    · rfl
    · rfl
def enoughT (q : Nat) (val : ByteArray) (l : List (ByteArray × Nat)) : Bool := l.any fun t => decide (t.1 = val) && decide (q ≤ t.2)
theorem enoughT_snoc {q : Nat} {val : ByteArray} {l : List (ByteArray × Nat)} {k : Nat} {t : ByteArray × Nat} (h : l[k]? = some t) : enoughT q val (l.take (k + 1)) = (enoughT q val (l.take k) || (decide (t.1 = val) && decide (q ≤ t.2))) := by
  unfold enoughT
  rw [List.take_add_one, h, List.any_append]
  simp
theorem enoughT_is {ks : List ByteArray} {num stp : Int} {val : ByteArray} {pool : List VoteP} (hp : isPool ks pool = true) : enoughT (enoughC ks) val (tallyV ks num stp pool) = (proveV ks num stp val pool).isSome := by
  rw [prove_iff hp]
  exact prove_tally hp
theorem check_nil {ks : List ByteArray} {num stp : Int} {val : ByteArray} : checkV ks num stp val [] = false := by
  have h := enough_pos ks
  unfold checkV
  rw [decide_eq_false (show ¬ ([] : List VoteP).length = enoughC ks by simp; omega)]
  simp
theorem tally_asc {ks : List ByteArray} {num stp : Int} {pool : List VoteP} {k : Nat} {s t : ByteArray × Nat} (hs : (tallyV ks num stp pool)[k]? = some s) (ht : (tallyV ks num stp pool)[k + 1]? = some t) : s.1.toList < t.1.toList := by
  have h := tally_sorted ks num stp pool
  obtain ⟨h1, rfl⟩ := List.getElem?_eq_some_iff.1 hs
  obtain ⟨h2, rfl⟩ := List.getElem?_eq_some_iff.1 ht
  exact List.pairwise_iff_getElem.1 h k (k + 1) h1 h2 (Nat.lt_succ_self k)
end Go.Proofs.YtggdcnjaofflbaaGreatDoor

/- Walk of the law: QuorumProves, from region 26 on: the strings that collide. The conditions: what is known. -/
namespace Go.Proofs.YtggdcnjaofflbaaGreatDoor
open Go.RowKit Go.BigFrame

theorem two_strs {w : World} {b : Nat} {x y : ByteArray} {T : TypeId} (h : w.heap[b]? = some (.cells #[.string x, .string y] T (0, 0))) : SS w (.slice (some ⟨b, 0, none⟩) 2 2) [x, y] := by
  refine ⟨_, 2, rfl, Nat.le_refl _, by decide, .inr ⟨b, 0, rfl, (Array.getElem?_eq_some_iff.1 h).1, fun i cs hi j u hj => ?_⟩⟩
  match i, hi with
  | 0, hi => cases hi; match j, hj with
    | 0, hj => cases hj; exact cell_of_row w b 0 _ _ _ h
  | 1, hi => cases hi; match j, hj with
    | 0, hj => cases hj; exact cell_of_row w b 1 _ _ _ h
def rtQP (c : Code) : Code := rtQ (rtQ (rtQ (rtQ (rtQ (rtQ (rtQ (rtQ (rtQ (rtQ (rtQ (rtQ (rtQ (rtQ (rtQ (rtQ (rtQ (c)))))))))))))))))
theorem tailQP {c L : Code} (h : ∃ a0 a1 a2 a3 a4 a5 a6 a7 a8 a9 a10 a11 a12 a13 a14 a15 a16 : Code, Tryz.f6.body = some (a0.seq (a1.seq (a2.seq (a3.seq (a4.seq (a5.seq (a6.seq (a7.seq (a8.seq (a9.seq (a10.seq (a11.seq (a12.seq (a13.seq (a14.seq (a15.seq (a16.seq (c))))))))))))))))))) (hL : Tryz.f6.body.map rtQP = some L := by rfl) : c = L := by
  obtain ⟨a0, a1, a2, a3, a4, a5, a6, a7, a8, a9, a10, a11, a12, a13, a14, a15, a16, e⟩ := h
  rw [e] at hL
  exact Option.some.inj hL
set_option maxHeartbeats 16000000 in
set_option maxRecDepth 100000 in
theorem proves_tail {w wb : World} (HBW : Hid (Below w.heap.size w wb)) (bc pb po g j L m : Nat) (pc gc kc : Nat) (ka : Option Addr) (ks : List ByteArray) (v z : VoteP) (hjL : j < L) (hmk : ks.length = m) (hm : m ≤ 7)
    (HC : Hid (∀ W, Below wb.heap.size wb W → W.cell? ⟨bc, 0, none⟩ = some (.slice ka m kc) ∧ VAt W pb (po + j * 5) v ∧ VAt W g (j * 5) z)) (HK : Hid (SS wb (.slice ka m kc) ks)) (HKZ : Hid (∀ k ∈ ks, k.size = 32))
    (HGV : Hid (genV ks v = true)) (HGZ : Hid (genV ks z = true)) (HCO : Hid (collS [markL (voteC v), markN (ks.getD v.car.toNat ⟨#[]⟩) (leafS (voteC v))] [markL (voteC z), markN (ks.getD z.car.toNat ⟨#[]⟩) (leafS (voteC z))] = true)) (u0 u1 u2 u3 u4 u5 u6 u7 u8 u9 u10 u11 u12 u13 u15 u16 u17 u19 u20 u21 u22 u25 u26 u27 u28 u29 u30 u31 u32 u33 u34 u35 u36 u37 u38 u39 u40 u41 u42 u43 u44 u45 u46 u47 u48 u49 u50 u51 u52 u53 u54 u55 u56 u57 u58 u59 u60 u61 u62 u63 u64 u65 u66 u67 u68 u69 u70 u71 u72 u73 u74 u75 u76 u77 u78 u79 u80 u81 u82 u83 u84 u85 u86 u87 u88 u89 u90 u91 u92 u93 u94 u95 u96 u97 u98 u99 u100 u101 u102 u103 u104 u105 u106 u107 u108 u109 u110 u111 u112 u113 u114 u115 u116 u117 u118 u119 u120 u121 u122 u123 u124 u125 u126 u127 u128 u129 u130 u131 u132 u133 u134 u135 u136 u137 u138 u139 u140 u141 u142 u143 u144 u145 u146 u147 u148 u149 u150 u151 u152 u153 u154 u155 u156 u157 u158 u159 u160 u161 u162 u163 u164 u165 u166 u167 u168 u169 u170 u171 u172 u173 u174 u175 u176 u177 u178 u179 u180 u181 u182 u183 u184 u185 u186 u187 u188 u189 u190 u191 u192 u193 u194 u195 u196 u197 u198 u199 u200 u201 u202 u203 u204 u205 u206 u207 u208 u209 u210 u211 u212 u213 u214 : Value) :
    ∃ c : Code, (∃ a0 a1 a2 a3 a4 a5 a6 a7 a8 a9 a10 a11 a12 a13 a14 a15 a16 : Code, Tryz.f6.body = some (a0.seq (a1.seq (a2.seq (a3.seq (a4.seq (a5.seq (a6.seq (a7.seq (a8.seq (a9.seq (a10.seq (a11.seq (a12.seq (a13.seq (a14.seq (a15.seq (a16.seq (c))))))))))))))))))) ∧ c.wp Tryz.prog (bodyPost Tryz.prog Tryz.f6 fun e w' => e = .returned (.bool true) ∧ Below w.heap.size w w') { tmps := #[u0, u1, u2, u3, u4, u5, u6, u7, u8, u9, u10, u11, u12, u13, .pointer (some ⟨bc, 0, none⟩), u15, u16, u17, .slice (some ⟨pb, po, none⟩) L pc, u19, u20, u21, u22, .int .i64 (j : Int), .slice (some ⟨g, 0, none⟩) L gc, u25, u26, u27, u28, u29, u30, u31, u32, u33, u34, u35, u36, u37, u38, u39, u40, u41, u42, u43, u44, u45, u46, u47, u48, u49, u50, u51, u52, u53, u54, u55, u56, u57, u58, u59, u60, u61, u62, u63, u64, u65, u66, u67, u68, u69, u70, u71, u72, u73, u74, u75, u76, u77, u78, u79, u80, u81, u82, u83, u84, u85, u86, u87, u88, u89, u90, u91, u92, u93, u94, u95, u96, u97, u98, u99, u100, u101, u102, u103, u104, u105, u106, u107, u108, u109, u110, u111, u112, u113, u114, u115, u116, u117, u118, u119, u120, u121, u122, u123, u124, u125, u126, u127, u128, u129, u130, u131, u132, u133, u134, u135, u136, u137, u138, u139, u140, u141, u142, u143, u144, u145, u146, u147, u148, u149, u150, u151, u152, u153, u154, u155, u156, u157, u158, u159, u160, u161, u162, u163, u164, u165, u166, u167, u168, u169, u170, u171, u172, u173, u174, u175, u176, u177, u178, u179, u180, u181, u182, u183, u184, u185, u186, u187, u188, u189, u190, u191, u192, u193, u194, u195, u196, u197, u198, u199, u200, u201, u202, u203, u204, u205, u206, u207, u208, u209, u210, u211, u212, u213, u214], defers := [] } wb := by
  refine ⟨_, ⟨_, _, _, _, _, _, _, _, _, _, _, _, _, _, _, _, _, rfl⟩, ?_⟩
  obtain ⟨a1, a2, a3, a4, a5⟩ := gen_facts HGV.out
  obtain ⟨e1, e2, e3, e4, e5⟩ := gen_facts HGZ.out
  obtain ⟨vc, vn, vs, vv, vl⟩ := v
  obtain ⟨zc, zn, zs, zv, zl⟩ := z
  simp only at a1 a2 a3 a4 a5 e1 e2 e3 e4 e5
  obtain ⟨vi, rfl⟩ := Int.eq_ofNat_of_zero_le a1.1
  obtain ⟨zi, rfl⟩ := Int.eq_ofNat_of_zero_le e1.1
  rw [Int.toNat_natCast] at a2 e2
  have HC1 := Lib.hid (fun W => rcontent_any ⟨(vi : Int), vn, vs, vv, vl⟩ ⟨a1, a3, a4, a5⟩ W)
  have HC2 := Lib.hid (fun W => rcontent_any ⟨(zi : Int), zn, zs, zv, zl⟩ ⟨e1, e3, e4, e5⟩ W)
  have hc1 : (voteC ⟨(vi : Int), vn, vs, vv, vl⟩).size ≤ 48 := voteC_le a5
  have hc2 : (voteC ⟨(zi : Int), zn, zs, zv, zl⟩).size ≤ 48 := voteC_le e5
  simp only [Int.toNat_natCast] at HCO
  generalize voteC ⟨(vi : Int), vn, vs, vv, vl⟩ = C1 at *
  generalize voteC ⟨(zi : Int), zn, zs, zv, zl⟩ = C2 at *
  obtain ⟨key1, hk1⟩ : ∃ k, ks[vi]? = some k := ⟨_, List.getElem?_eq_getElem a2⟩
  obtain ⟨key2, hk2⟩ : ∃ k, ks[zi]? = some k := ⟨_, List.getElem?_eq_getElem e2⟩
  have hz1 : key1.size = 32 := HKZ.out _ (List.mem_of_getElem? hk1)
  have hz2 : key2.size = 32 := HKZ.out _ (List.mem_of_getElem? hk2)
  rw [List.getD_eq_getElem?_getD, List.getD_eq_getElem?_getD, hk1, hk2, Option.getD_some, Option.getD_some] at HCO
  obtain ⟨ka', kc', hke, _, _, hk3⟩ := HK.out.opened
  obtain ⟨kb, ko, hka, hkb, hkc1⟩ := hk3 vi key1 hk1
  obtain ⟨kb2, ko2, hka2, _, hkc2⟩ := hk3 zi key2 hk2
  injection hke with hke1 hke2 hke3
  subst hke1 hka
  clear hke2 hke3
  obtain ⟨rfl, rfl⟩ : kb2 = kb ∧ ko2 = ko := by
    injection hka2 with e
    injection e with e1 e2
    exact ⟨e1.symm, e2.symm⟩
  have HKC := Lib.hid (fun W (hW : Below wb.heap.size wb W) => cell_keepB hW hkb hkc1)
  have HKD := Lib.hid (fun W (hW : Below wb.heap.size wb W) => cell_keepB hW hkb hkc2)
  have HL1 := Lib.hid (fun W => r2leaf_any C1 W (by omega))
  have HL2 := Lib.hid (fun W => r2leaf_any C2 W (by omega))
  have hl1 : (leafS C1).size = 32 := leafS_size _
  have hl2 : (leafS C2).size = 32 := leafS_size _
  generalize leafS C1 = L1 at *
  generalize leafS C2 = L2 at *
  have hvm : vi < m := by omega
  have hzm : zi < m := by omega
  have hpz : pickI (zi : Int) (m : Int) = (zi : Int) := by
    unfold pickI
    rw [if_neg (by omega), Int.emod_eq_of_lt (by omega) (by omega)]
  have HPK := Lib.hid (fun W => lpickQ_any (zi : Int) (m : Int) W (by unfold I64; omega) (by omega) (by omega))
  rw [hpz] at HPK
  clear hpz hk1 hk2 hk3 hkc1 hkc2 hka2 HGV HGZ HKZ HK hmk a1 a2 a3 a4 a5 e1 e2 e3 e4 e5
  have tj0 : (0 : Int) ≤ (j : Int) := by omega
  have tjL : (j : Int) < (L : Int) := by omega
  have tv0 : (0 : Int) ≤ (vi : Int) := by omega
  have tvm : (vi : Int) < (m : Int) := by omega
  have tz0 : (0 : Int) ≤ (zi : Int) := by omega
  have tzm : (zi : Int) < (m : Int) := by omega
  obtain ⟨-, ⟨v0, v1, v2, v3, v4⟩, -⟩ := HC.out wb (Below.refl _ _)
  go_upto_region 27 with (go_at_call 40; (with_reducible refine (HC1.out _).mono ?_); rintro e wc ⟨rfl, hbc⟩)
  clear v0 v1 v2 v3 v4
  obtain ⟨-, -, z0, z1, z2, z3, z4⟩ := HC.out wc hbc
  go_upto_region 28 with (go_at_call 40; (with_reducible refine (HC2.out _).mono ?_); rintro e wd ⟨rfl, hbd⟩)
  have HB := Lib.hid (q_next hbc hbd)
  clear z0 z1 z2 z3 z4 hbc hbd
  have s1 : (((⟨#[1]⟩ : ByteArray) ++ key1)).size = key1.size + 1 := mark_size 1 key1
  have s2 : (((⟨#[1]⟩ : ByteArray) ++ key1) ++ L1).size = key1.size + 1 + L1.size := by rw [ByteArray.size_append, s1]
  have s3 : (((⟨#[1]⟩ : ByteArray) ++ key2)).size = key2.size + 1 := mark_size 1 key2
  have s3b : (((⟨#[1]⟩ : ByteArray) ++ key2) ++ L2).size = key2.size + 1 + L2.size := by rw [ByteArray.size_append, s3]
  have s4 : ((⟨#[0]⟩ : ByteArray) ++ C1).size = C1.size + 1 := mark_size 0 C1
  have s5 : ((⟨#[0]⟩ : ByteArray) ++ C2).size = C2.size + 1 := mark_size 0 C2
  have s6 : ¬ 9223372036854775807 < 1 + C1.size := by omega
  have s7 : ¬ 9223372036854775807 < 1 + C2.size := by omega
  have s8 : ¬ 9223372036854775807 < 1 + key1.size := by omega
  have s9 : ¬ 9223372036854775807 < 1 + key2.size := by omega
  refine wp_region_noPanic ?_
  refine wp_region_lexB [.q 0, .q 1, .q 2, .q 3, .q 4, .q 5, .q 6, .q 7, .q 8, .q 9, .q 10, .q 11, .q 12, .q 16, .q 17, .q 18, .q 19, .q 20, .q 21, .q 22, .q 23, .q 24, .q 25, .q 26, .q 27, .q 32, .b 13, .q 14, .an 15, .b 28, .q 29, .q 30, .q 31, .b 33, .q 34, .an 35, .co 15, .co 35, .b 36, .q 37] (by kernel_rfl) (by kernel_rfl) (fun _ _ _ _ h => h) ?_
  iterate 26 (refine wpFl_qL (v := ?_) rfl (Or.inl ⟨by rfl, ?_⟩) ?_; rotate_left; (focus (intro w' hSw; (try dsimp only [OldKept] at hSw); obtain ⟨c0, ⟨v0, v1, v2, v3, v4⟩, z0, z1, z2, z3, z4⟩ := HC.out w' (q_next HB.out hSw); have k1 := HKC.out w' (q_next HB.out hSw); have k2 := HKD.out w' (q_next HB.out hSw); go_simp; (try with_reducible rfl); done)); simp only [Act.put, List.setIfInBounds_toArray, List.set_cons_zero, List.set_cons_succ])
  refine wpFl_bL rfl (fun waa hnaa hsaa K hK => ?_)
  go_simp
  go_at_call 42
  (with_reducible refine (HL1.out _).mono ?_)
  rintro e wba ⟨rfl, hba⟩
  refine hK.out _ _ (q_next hsaa hba) (Keeps.below hba) ?_
  clear hK K hnaa hsaa
  refine wpFl_qL (v := ?_) rfl (Or.inl ⟨by rfl, ?_⟩) ?_
  rotate_left
  focus (intro w' hSw; (try dsimp only [OldKept] at hSw); go_simp; (try with_reducible rfl); done)
  simp only [Act.put, List.setIfInBounds_toArray, List.set_cons_zero, List.set_cons_succ]
  refine wpFl_anL rfl (.cells #[.string ((⟨#[0]⟩ : ByteArray) ++ C1), .string (((⟨#[1]⟩ : ByteArray) ++ key1) ++ L1)] 9 (0, 0)) (fun n => .slice (some ⟨n, 0, none⟩) 2 2) ⟨by rfl, fun w' => ?_⟩ ?_
  focus (go_simp; done)
  refine wpFl_bL rfl (fun wab hnab hsab K hK => ?_)
  go_simp
  go_at_call 16
  (with_reducible refine (HPK.out _).mono ?_)
  rintro e w' ⟨rfl, hw'⟩
  replace hw' := hw'.symm
  subst hw'
  refine hK.out _ _ hsab (Keeps.below (Below.refl _ _)) ?_
  clear hK K
  iterate 3 (refine wpFl_qL (v := ?_) rfl (Or.inl ⟨by rfl, ?_⟩) ?_; rotate_left; (focus (intro w' hSw; (try dsimp only [OldKept] at hSw); obtain ⟨c0, ⟨v0, v1, v2, v3, v4⟩, z0, z1, z2, z3, z4⟩ := HC.out w' (q_next HB.out hSw); have k1 := HKC.out w' (q_next HB.out hSw); have k2 := HKD.out w' (q_next HB.out hSw); go_simp; (try with_reducible rfl); done)); simp only [Act.put, List.setIfInBounds_toArray, List.set_cons_zero, List.set_cons_succ])
  refine wpFl_bL rfl (fun wac hnac hsac K hK => ?_)
  go_simp
  go_at_call 42
  (with_reducible refine (HL2.out _).mono ?_)
  rintro e wbc ⟨rfl, hbc⟩
  refine hK.out _ _ (q_next hsac hbc) (Keeps.below hbc) ?_
  clear hK K hnac hsac
  refine wpFl_qL (v := ?_) rfl (Or.inl ⟨by rfl, ?_⟩) ?_
  rotate_left
  focus (intro w' hSw; (try dsimp only [OldKept] at hSw); go_simp; (try with_reducible rfl); done)
  simp only [Act.put, List.setIfInBounds_toArray, List.set_cons_zero, List.set_cons_succ]
  refine wpFl_anL rfl (.cells #[.string ((⟨#[0]⟩ : ByteArray) ++ C2), .string (((⟨#[1]⟩ : ByteArray) ++ key2) ++ L2)] 9 (0, 0)) (fun n => .slice (some ⟨n, 0, none⟩) 2 2) ⟨by rfl, fun w' => ?_⟩ ?_
  focus (go_simp; done)
  refine wpFl_coL rfl (.cells #[.string ((⟨#[0]⟩ : ByteArray) ++ C1), .string (((⟨#[1]⟩ : ByteArray) ++ key1) ++ L1)] 9 (0, 0)) (fun n => .slice (some ⟨n, 0, none⟩) 2 2) (by rfl) (N' := [(35, .cells #[.string ((⟨#[0]⟩ : ByteArray) ++ C2), .string (((⟨#[1]⟩ : ByteArray) ++ key2) ++ L2)] 9 (0, 0), fun n => .slice (some ⟨n, 0, none⟩) 2 2)]) (by rfl) (fun ba we hn_we hs_we hb_ba hz_ba => ?_)
  simp only [Act.put, List.setIfInBounds_toArray, List.set_cons_zero, List.set_cons_succ]
  have HSA := Lib.hid (two_strs hz_ba)
  refine wpFl_coL rfl (.cells #[.string ((⟨#[0]⟩ : ByteArray) ++ C2), .string (((⟨#[1]⟩ : ByteArray) ++ key2) ++ L2)] 9 (0, 0)) (fun n => .slice (some ⟨n, 0, none⟩) 2 2) (by rfl) (N' := []) (by rfl) (fun bb2 wf hn_wf hs_wf hb_bb2 hz_bb2 => ?_)
  simp only [Act.put, List.setIfInBounds_toArray, List.set_cons_zero, List.set_cons_succ]
  have HSA1 := Lib.hid (HSA.out.below hn_wf)
  have HSB := Lib.hid (two_strs hz_bb2)
  refine wpFl_bL rfl (fun wag hnag hsag K hK => ?_)
  go_simp
  go_at_call 41
  have hcd := collided_any (HSA1.out.below hnag) (HSB.out.below hnag) (by simp) (by simp) (by
    intro x hx
    simp only [List.mem_cons, List.not_mem_nil, or_false] at hx
    rcases hx with rfl | rfl <;> omega) (by
    intro x hx
    simp only [List.mem_cons, List.not_mem_nil, or_false] at hx
    rcases hx with rfl | rfl <;> omega)
  rw [show collS [(⟨#[0]⟩ : ByteArray) ++ C1, ((⟨#[1]⟩ : ByteArray) ++ key1) ++ L1] [(⟨#[0]⟩ : ByteArray) ++ C2, ((⟨#[1]⟩ : ByteArray) ++ key2) ++ L2] = true from by
    rw [ByteArray.append_assoc, ByteArray.append_assoc]; exact HCO.out] at hcd
  refine hcd.mono ?_
  rintro e wbg ⟨rfl, hbg⟩
  have HF := Lib.hid (q_next HB.out (q_next hsag hbg))
  refine hK.out _ _ (q_next hsag hbg) (Keeps.below hbg) ?_
  clear hK K
  refine wpFl_qL (v := ?_) rfl (Or.inl ⟨by rfl, ?_⟩) ?_
  rotate_left
  focus (intro w' hSw; (try dsimp only [OldKept] at hSw); go_simp; (try with_reducible rfl); done)
  simp only [Act.put, List.setIfInBounds_toArray, List.set_cons_zero, List.set_cons_succ]
  refine wpFl_nil ?_
  refine NoPanic.normal ?_
  go_wp2
  go_ret
  exact ⟨rfl, HBW.out.trans (HF.out.mono HBW.out.size)⟩
end Go.Proofs.YtggdcnjaofflbaaGreatDoor

/- Append at votes: of one, where the row comes to lie; of a whole slice. The conditions: what the rows hold, lengths. -/
namespace Go.Proofs.YtggdcnjaofflbaaGreatDoor
open Go.RowKit Go.BigFrame

theorem flat_get : ∀ (m : List VoteP) (j : Nat) (u : Value), (m.map vcells).flatten[j]? = some u → ∃ k i v, m[k]? = some v ∧ (vcells v)[i]? = some u ∧ j = k * 5 + i
  | [], j, u, h => by simp at h
  | v :: m, j, u, h => by
    rw [List.map_cons, List.flatten_cons] at h
    have h5 : (vcells v).length = 5 := rfl
    rcases Nat.lt_or_ge j 5 with hj | hj
    · rw [List.getElem?_append_left (by omega)] at h
      exact ⟨0, j, v, rfl, h, by omega⟩
    · rw [List.getElem?_append_right (by omega), h5] at h
      obtain ⟨k, i, v', h1, h2, h3⟩ := flat_get m (j - 5) u h
      exact ⟨k + 1, i, v', h1, h2, by rw [Nat.succ_mul]; omega⟩
theorem flat_len : ∀ m : List VoteP, (m.map vcells).flatten.length = m.length * 5
  | [] => rfl
  | v :: m => by
    rw [List.map_cons, List.flatten_cons, List.length_append, flat_len m, List.length_cons, Nat.succ_mul]
    have h5 : (vcells v).length = 5 := rfl
    omega
section
variable {ops : Array Oper} {rest : List Oper} {o : Oper} {a : Act} {w : World} {Q : Exit → Act → World → Prop}
theorem wpList_append_votes (s x : Operand) (base : Nat) (v : Value) (l m : List VoteP) (vy : Value) (hown : OwnV w base v l) (hy : VS w vy m) (hlen : l.length + m.length ≤ 1000000) (hbase : base ≤ w.heap.size)
    (hgd : o.guard = none) (ho : o.op = .call { callee := .builtin .append, args := #[s, x], argTypes := #[35, 35] }) (hs : a.eval s = v) (hx : a.eval x = vy)
    (h : ∀ v' w', OwnV w' base v' (l ++ m) → w.grownBy w' v.ownBlock → wpList Tryz.prog ops Q rest (a.put o.dst v') w') : wpList Tryz.prog ops Q (o :: rest) a w := by
  obtain ⟨i, i1, i2, i3, i4⟩ := info_parts infoVote3
  have hlv : (l.map vcells).length = l.length := List.length_map ..
  obtain ⟨ad, cap, rfl, _, _, hc⟩ := hy.opened
  rcases Nat.eq_zero_or_pos m.length with h0 | h0
  · have hm : m = [] := List.eq_nil_of_length_eq_zero h0
    subst hm
    obtain ⟨va, vc, hv, hle⟩ : ∃ va vc, v = .slice va l.length vc ∧ l.length ≤ vc := by
      rcases hown.2 with ⟨e1, e2⟩ | ⟨g, c, cur, e1, _, _, e4, _⟩
      · rw [hlv] at e2
        exact ⟨none, 0, by rw [e1, e2], by omega⟩
      · rw [hlv] at e1 e4
        exact ⟨_, _, e1, e4⟩
    subst hv
    have hsrc : Src Tryz.prog i.size 35 (.slice ad ([] : List VoteP).length cap) 0 [] w := by
      rw [List.length_nil]
      cases ad with
      | none => exact Src.ofNil w (e' := 27) (by kernel_rfl) cap
      | some ad => exact Src.ofSlice w (e' := 27) (by kernel_rfl) ad 0 cap [] (by simp) (by simp) (by simp)
    refine wpList_run hgd ?_ (h _ w (by rw [List.append_nil]; exact hown) (grown_refl _ _))
    have hr := run_append_nothing w 35 35 o.type 27 i (by kernel_rfl) i1 va l.length vc hle _ hsrc
    unfold execOp
    simp only [ho, resolve, invoke, builtin, Sem.run_bind, Sem.run_pure, Result.andThen_ok, List.map_toArray, List.map_cons, List.map_nil, hs, hx, hr]
  · obtain ⟨b, off, rfl, hb, _⟩ := hc 0 _ (List.getElem?_eq_getElem h0)
    refine wpList_append_own w hgd s x 35 ho base 27 i _ 5 56 (by kernel_rfl) i1 i2 i3 i4 rfl (by decide) v _ _ hs hown ⟨b, off, none⟩ m.length cap (m.map vcells).flatten hx ?_ ?_ ?_ (by rw [hlv]; unfold maxLen; omega) (by rw [hlv]; omega) hbase ?_
    · exact flat_len m
    · intro j u hj
      obtain ⟨k, i', y, hk, hi', rfl⟩ := flat_get m j u hj
      obtain ⟨b', o', e, _, c0, c1, c2, c3, c4⟩ := hc k y hk
      cases e
      rw [Addr.add_mid, ← Nat.add_assoc]
      match i', hi' with
      | 0, hi' => cases hi'; exact c0
      | 1, hi' => cases hi'; exact c1
      | 2, hi' => cases hi'; exact c2
      | 3, hi' => cases hi'; exact c3
      | 4, hi' => cases hi'; exact c4
    · intro u hu
      obtain ⟨c, hc1, hu⟩ := List.mem_flatten.1 hu
      obtain ⟨y, _, rfl⟩ := List.mem_map.1 hc1
      simp only [vcells, List.mem_cons, List.not_mem_nil, or_false] at hu
      rcases hu with rfl | rfl | rfl | rfl | rfl <;> rfl
    · intro v' w' h1 h2 _
      refine h v' w' ?_ h2
      unfold OwnV OwnE
      rw [List.map_append, List.length_append, List.flatten_append, hlv, List.length_map]
      rw [hlv] at h1
      exact h1
end
end Go.Proofs.YtggdcnjaofflbaaGreatDoor
