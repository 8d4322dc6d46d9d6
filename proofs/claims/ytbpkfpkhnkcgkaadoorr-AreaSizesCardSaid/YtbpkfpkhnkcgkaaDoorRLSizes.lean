/- AreaSizes: the walk of the law. The conditions: what the slices read as, the table of bits.TrailingZeros64. -/
import Derived.Test.YtbpkfpkhnkcgkaaDoorRWSane
import Derived.Test.YtbpkfpkhnkcgkaaDoorRWB1
import Derived.Test.YtbpkfpkhnkcgkaaDoorRPA4
namespace Go.Proofs.YtbpkfpkhnkcgkaaDoorR
open Go.RowKit Go.BigFrame

/-- A list whose size is the sum of its rectangles' sizes, which lie apart. -/
structure GoodL (xs : List R4) : Prop where
  valid : ∀ q ∈ xs, vrect q = true
  len : xs.length ≤ 100
  apart : xs.Pairwise Apart
  size : sizeS xs = areaSum xs

theorem gsum_cnt (g : Nat → Nat) (p : Nat → Nat → Bool) (h : ∀ y x, y < 64 → x < 64 → bitsOf g y x = p y x) : gsum g 64 = cnt p := by
  have h1 : ∀ k, gsum g k = sumN k fun y => bitsum 64 (g y) := by
    intro k
    induction k with
    | zero => rfl
    | succ k ih => rw [gsum, sumN, ih]
  rw [h1]
  unfold cnt
  refine sumN_congr 64 fun y hy => ?_
  rw [bitsum_sumN]
  exact sumN_congr 64 fun x hx => by rw [← h y x hy hx]; rfl
theorem size_cnt {xs : List R4} {p : Nat → Nat → Bool} (h : IsArea xs p) : sizeS xs = cnt p := gsum_cnt _ p (area_open h).2
theorem good_of {xs : List R4} {p : Nat → Nat → Bool} (h : IsArea xs p) : GoodL xs :=
  ⟨h.valid, h.2, by rw [h.1]; exact rects_apart p, by rw [size_cnt h, areaSum_ok h]⟩
theorem sizes_facts {A B U I M : List R4} {p q : Nat → Nat → Bool} (hA : IsArea A p) (hB : IsArea B q) (hU : IsArea U fun y x => p y x || q y x) (hI : IsArea I fun y x => p y x && q y x) (hM : IsArea M fun y x => p y x && !q y x) :
    sizeS U + sizeS I = sizeS A + sizeS B ∧ sizeS M + sizeS I = sizeS A := by
  rw [size_cnt hA, size_cnt hB, size_cnt hU, size_cnt hI, size_cnt hM]
  constructor
  · refine cnt_add fun y x _ _ => ?_
    cases p y x <;> cases q y x <;> rfl
  · have h := cnt_add (p := fun y x => p y x && !q y x) (q := fun y x => p y x && q y x) (r := p) (s := fun _ _ => false) fun y x _ _ => by
      cases p y x <;> cases q y x <;> rfl
    rw [h]
    have h0 : cnt (fun _ _ => false) = 0 := by
      unfold cnt
      exact (sumN_congr (g := fun _ => 0) 64 (fun y _ => (sumN_congr (g := fun _ => 0) 64 (fun x _ => rfl)).trans (sumN_zero 64))).trans (sumN_zero 64)
    rw [h0, Nat.add_zero]
theorem good_no {xs : List R4} (g : GoodL xs) {i k : Nat} {q r : R4} (hi : xs[i]? = some q) (hk : xs[k]? = some r) (hne : k < i) :
    ¬ (max q.l r.l < min q.r r.r ∧ max q.lo r.lo < min q.hi r.hi) := by
  rintro ⟨h1, h2⟩
  have hk' : k < xs.length := by
    rcases Nat.lt_or_ge k xs.length with h | h
    · exact h
    · rw [List.getElem?_eq_none h] at hk; cases hk
  have hi' : i < xs.length := by
    rcases Nat.lt_or_ge i xs.length with h | h
    · exact h
    · rw [List.getElem?_eq_none h] at hi; cases hi
  have hp := List.pairwise_iff_getElem.1 g.apart k i hk' hi' hne
  have e1 : xs[k] = r := by
    have := hk
    rw [List.getElem?_eq_getElem hk'] at this
    exact Option.some.inj this
  have e2 : xs[i] = q := by
    have := hi
    rw [List.getElem?_eq_getElem hi'] at this
    exact Option.some.inj this
  rw [e1, e2] at hp
  have hq := (vrect_iff q).1 (g.valid q (List.mem_of_getElem? hi))
  have hr := (vrect_iff r).1 (g.valid r (List.mem_of_getElem? hk))
  refine hp (max q.l r.l).toNat (max q.lo r.lo).toNat ?_ ?_
  · rw [inR_iff]; omega
  · rw [inR_iff]; omega
theorem sizes_small {xs : List R4} (g : GoodL xs) : sizeS xs ≤ 409600 := by
  have := areaSum_le xs g.valid
  have := g.len
  rw [g.size]; omega
theorem five_all {w0 w : World} {ls : List (Value × List R4)} {a b c d e : Value × List R4} {x y : Value × List R4} (k : Know w0 w (x :: y :: a :: b :: c :: d :: e :: ls)) (ga : GoodL a.2) (gb : GoodL b.2) (gc : GoodL c.2) (gd : GoodL d.2) (ge : GoodL e.2) :
    ∀ (j : Nat) (v : Value) (xs : List R4), [a, b, c, d, e][j]? = some (v, xs) → RS w v xs ∧ GoodL xs := by
  intro j v xs h
  match j with
  | 0 => simp at h; exact ⟨k.all 2 v xs (by simp [h]), by rw [h] at ga; exact ga⟩
  | 1 => simp at h; exact ⟨k.all 3 v xs (by simp [h]), by rw [h] at gb; exact gb⟩
  | 2 => simp at h; exact ⟨k.all 4 v xs (by simp [h]), by rw [h] at gc; exact gc⟩
  | 3 => simp at h; exact ⟨k.all 5 v xs (by simp [h]), by rw [h] at gd; exact gd⟩
  | 4 => simp at h; exact ⟨k.all 6 v xs (by simp [h]), by rw [h] at ge; exact ge⟩
  | j + 5 => simp at h
theorem five_cells (w : World) (t : TypeId) (a b c d e : Value) (A B C D E : List R4) : ∀ (j : Nat) (v : Value) (xs : List R4), [(a, A), (b, B), (c, C), (d, D), (e, E)][j]? = some (v, xs) → (w.alloc (.cells #[a, b, c, d, e] t)).cell? ⟨w.heap.size, j, none⟩ = some v := by
  intro j v xs h
  rw [cell_of_row _ _ j _ _ _ (heap_alloc_new w _)]
  match j with
  | 0 => simp at h; simp [h.1]
  | 1 => simp at h; simp [h.1]
  | 2 => simp at h; simp [h.1]
  | 3 => simp at h; simp [h.1]
  | 4 => simp at h; simp [h.1]
  | j + 5 => simp at h
theorem RS.at {w : World} {a : Option Addr} {n cap : Nat} {xs : List R4} (h : RS w (.slice a n cap) xs) : ∀ k x, xs[k]? = some x → ∃ b off, a = some ⟨b, off, none⟩ ∧ b < w.heap.size ∧ RAt w b (off + k * 4) x := by
  obtain ⟨a', cap', hv, _, _, h3⟩ := h.opened
  cases hv
  exact h3
theorem size_whole : sizeS wholeS = 4096 := by decide +kernel

set_option maxHeartbeats 12000000 in
set_option maxRecDepth 100000 in
theorem sizes_law {w : World} {vx vy : Value} {xs ys : List R4} (hx : RS w vx xs) (hy : RS w vy ys) (ix : ∀ q ∈ xs, Int4 q) (iy : ∀ q ∈ ys, Int4 q) (he : Env w) :
    Calls Tryd.prog 5 #[vx, vy] w fun e w' => e = .returned (.bool true) ∧ Below w.heap.size w w' := by
  obtain ⟨ax, cx, rfl, lx, mx, _⟩ := hx.opened
  unfold maxLen at mx
  obtain ⟨nx, hnx⟩ : ∃ n, n = xs.length := ⟨_, rfl⟩
  rw [← hnx] at lx hx ⊢
  obtain ⟨tx, tx1, tx2, tx3⟩ : ∃ t : Nat, t ≤ nx ∧ t ≤ 3 ∧ (if (3 : Int) < (nx : Int) then 3 else (nx : Int)) = (t : Int) := cut_min nx 3
  have Rx := hx.cut tx tx1
  have Ix := Lib.hid (fun q (hq : q ∈ xs.take tx) => ix q (List.mem_of_mem_take hq))
  have Lx := Lib.hid (show (xs.take tx).length ≤ 3 from by rw [List.length_take]; omega)
  generalize xs.take tx = Tx at *
  clear hx ix hnx
  obtain ⟨ay, cy, rfl, ly, my, _⟩ := hy.opened
  unfold maxLen at my
  obtain ⟨ny, hny⟩ : ∃ n, n = ys.length := ⟨_, rfl⟩
  rw [← hny] at ly hy ⊢
  obtain ⟨ty, ty1, ty2, ty3⟩ : ∃ t : Nat, t ≤ ny ∧ t ≤ 3 ∧ (if (3 : Int) < (ny : Int) then 3 else (ny : Int)) = (t : Int) := cut_min ny 3
  have Ry := hy.cut ty ty1
  have Iy := Lib.hid (fun q (hq : q ∈ ys.take ty) => iy q (List.mem_of_mem_take hq))
  have Ly := Lib.hid (show (ys.take ty).length ≤ 3 from by rw [List.length_take]; omega)
  generalize ys.take ty = Ty at *
  clear hy iy hny
  have k0 := ((Know.start he).put Rx).put Ry
  simp only [List.nil_append, List.cons_append] at k0
  have K0 := Lib.hid k0
  clear k0
  clear Rx Ry he
  obtain ⟨A, eA⟩ : ∃ X, madeS Tx = X := ⟨_, rfl⟩
  have aA := made_ar Tx 3 Lx.out (by omega)
  rw [eA] at aA
  generalize madeP Tx = pA at *
  have EA := Lib.hid eA
  clear eA
  obtain ⟨B, eB⟩ : ∃ X, madeS Ty = X := ⟨_, rfl⟩
  have aB := made_ar Ty 3 Ly.out (by omega)
  rw [eB] at aB
  generalize madeP Ty = pB at *
  have EB := Lib.hid eB
  clear eB
  obtain ⟨U, eU, aU⟩ := aA.union aB (by omega)
  obtain ⟨I, eI, aI⟩ := aA.common aB (by omega)
  obtain ⟨M, eM, aM⟩ := aA.minus aB (by omega)
  obtain ⟨f1, f2⟩ := sizes_facts aA.is aB.is aU.is aI.is aM.is
  have GA := Lib.hid (good_of aA.is)
  have bA := sizes_small GA.out
  have GB := Lib.hid (good_of aB.is)
  have bB := sizes_small GB.out
  have GU := Lib.hid (good_of aU.is)
  have bU := sizes_small GU.out
  have GI := Lib.hid (good_of aI.is)
  have bI := sizes_small GI.out
  have GM := Lib.hid (good_of aM.is)
  have bM := sizes_small GM.out
  clear aA aB aU aI aM
  obtain ⟨nA, hA⟩ : ∃ n, n = sizeS A := ⟨_, rfl⟩
  rw [← hA] at bA
  obtain ⟨nB, hB⟩ : ∃ n, n = sizeS B := ⟨_, rfl⟩
  rw [← hB] at bB
  obtain ⟨nU, hU⟩ : ∃ n, n = sizeS U := ⟨_, rfl⟩
  rw [← hU] at bU
  obtain ⟨nI, hI⟩ : ∃ n, n = sizeS I := ⟨_, rfl⟩
  rw [← hI] at bI
  obtain ⟨nM, hM⟩ : ∃ n, n = sizeS M := ⟨_, rfl⟩
  rw [← hM] at bM
  rw [← hA, ← hB, ← hU, ← hI] at f1
  rw [← hA, ← hI, ← hM] at f2
  have HeU := Lib.hid eU
  have HeI := Lib.hid eI
  have HeM := Lib.hid eM
  have Hf1 := Lib.hid f1
  have Hf2 := Lib.hid f2
  have HhA := Lib.hid hA
  have HhB := Lib.hid hB
  have HhU := Lib.hid hU
  have HhI := Lib.hid hI
  have HhM := Lib.hid hM
  have hf1 : ((nU : Int) + (nI : Int) != (nA : Int) + (nB : Int)) = false := by simp; omega
  have hf2 : ((nM : Int) != (nA : Int) - (nI : Int)) = false := by simp; omega
  have Hf1' := Lib.hid hf1
  have Hf2' := Lib.hid hf2
  clear hf1 hf2 eU eI eM f1 f2 hA hB hU hI hM
  go_enter Tryd.func5, Tryd.ntmps5
  go_wp2_with fail
  refine (sane_at K0.out).mono ?_
  rintro e w1 ⟨rfl, k1⟩
  have K1 := Lib.hid k1
  clear k1
  clear K0
  go_wp2_with fail
  refine (made_at K1.out (K1.out.all 0 _ _ rfl) Ix.out EA.out).mono ?_
  rintro e w2 ⟨r2, rfl, k2⟩
  simp only [List.nil_append, List.cons_append] at k2
  have K2 := Lib.hid k2
  clear k2
  clear K1
  go_wp2_with fail
  refine (made_at K2.out (K2.out.all 1 _ _ rfl) Iy.out EB.out).mono ?_
  rintro e w3 ⟨r3, rfl, k3⟩
  simp only [List.nil_append, List.cons_append] at k3
  have K3 := Lib.hid k3
  clear k3
  clear K2
  go_wp2_with fail
  refine (union_at K3.out 2 3 0 HeU.out rfl rfl).mono ?_
  rintro e w4 ⟨r4, rfl, k4⟩
  simp only [List.nil_append, List.cons_append] at k4
  have K4 := Lib.hid k4
  clear k4
  clear K3
  go_wp2_with fail
  refine (common_at K4.out 2 3 0 HeI.out rfl rfl).mono ?_
  rintro e w5 ⟨r5, rfl, k5⟩
  simp only [List.nil_append, List.cons_append] at k5
  have K5 := Lib.hid k5
  clear k5
  clear K4
  go_wp2_with fail
  refine (minus_at K5.out 2 3 0 HeM.out rfl rfl).mono ?_
  rintro e w6 ⟨r6, rfl, k6⟩
  simp only [List.nil_append, List.cons_append] at k6
  have K6 := Lib.hid k6
  clear k6
  clear K5
  go_wp2_with fail
  refine (size_at K6.out 4 nU (by rw [HhU.out]) rfl).mono ?_
  rintro e w7 ⟨rfl, k7⟩
  have K7 := Lib.hid k7
  clear k7
  clear K6
  go_wp2_with fail
  refine (size_at K7.out 5 nI (by rw [HhI.out]) rfl).mono ?_
  rintro e w8 ⟨rfl, k8⟩
  have K8 := Lib.hid k8
  clear k8
  clear K7
  go_wp2_with fail
  refine (size_at K8.out 2 nA (by rw [HhA.out]) rfl).mono ?_
  rintro e w9 ⟨rfl, k9⟩
  have K9 := Lib.hid k9
  clear k9
  clear K8
  go_wp2_with fail
  refine (size_at K9.out 3 nB (by rw [HhB.out]) rfl).mono ?_
  rintro e w10 ⟨rfl, k10⟩
  have K10 := Lib.hid k10
  clear k10
  clear K9
  have hf1 := Hf1'.out
  go_wp2_with fail
  refine (size_at K10.out 6 nM (by rw [HhM.out]) rfl).mono ?_
  rintro e w11 ⟨rfl, k11⟩
  have K11 := Lib.hid k11
  clear k11
  clear K10
  clear hf1
  go_wp2_with fail
  refine (size_at K11.out 2 nA (by rw [HhA.out]) rfl).mono ?_
  rintro e w12 ⟨rfl, k12⟩
  have K12 := Lib.hid k12
  clear k12
  clear K11
  go_wp2_with fail
  refine (size_at K12.out 5 nI (by rw [HhI.out]) rfl).mono ?_
  rintro e w13 ⟨rfl, k13⟩
  have K13 := Lib.hid k13
  clear k13
  clear K12
  have hf2 := Hf2'.out
  obtain ⟨sA, cA, vA, _, _, _⟩ := (K13.out.all 2 _ _ rfl).opened
  subst vA
  obtain ⟨sB, cB, vB, _, _, _⟩ := (K13.out.all 3 _ _ rfl).opened
  subst vB
  obtain ⟨sU, cU, vU, _, _, _⟩ := (K13.out.all 4 _ _ rfl).opened
  subst vU
  obtain ⟨sI, cI, vI, _, _, _⟩ := (K13.out.all 5 _ _ rfl).opened
  subst vI
  obtain ⟨sM, cM, vM, _, _, _⟩ := (K13.out.all 6 _ _ rfl).opened
  subst vM
  go_wp2_with fail
  have HVS := Lib.hid (five_all (K13.out.alloc (.cells #[.slice sA A.length cA, .slice sB B.length cB, .slice sU U.length cU, .slice sI I.length cI, .slice sM M.length cM] 24)) GA.out GB.out GU.out GI.out GM.out)
  have HCS := Lib.hid (five_cells w13 24 (.slice sA A.length cA) (.slice sB B.length cB) (.slice sU U.length cU) (.slice sI I.length cI) (.slice sM M.length cM) A B U I M)
  have KW := Lib.hid (K13.out.alloc (.cells #[.slice sA A.length cA, .slice sB B.length cB, .slice sU U.length cU, .slice sI I.length cI, .slice sM M.length cM] 24))
  have hbl : w13.heap.size < (w13.alloc (.cells #[.slice sA A.length cA, .slice sB B.length cB, .slice sU U.length cU, .slice sI I.length cI, .slice sM M.length cM] 24)).heap.size := by simp
  obtain ⟨vs, hvs⟩ : ∃ vs, vs = [(Value.slice sA A.length cA, A), (.slice sB B.length cB, B), (.slice sU U.length cU, U), (.slice sI I.length cI, I), (.slice sM M.length cM, M)] := ⟨_, rfl⟩
  rw [← hvs] at HVS HCS
  have hlen : vs.length = 5 := by rw [hvs]; rfl
  have HLEN := Lib.hid hlen
  clear hvs hlen
  generalize w13.alloc (.cells #[.slice sA A.length cA, .slice sB B.length cB, .slice sU U.length cU, .slice sI I.length cI, .slice sM M.length cM] 24) = W at *
  clear GA GB GU GI GM K13 tx1 tx2 tx3 ty1 ty2 ty3 mx my lx ly hf2 bA bB bU bI bM
  go_loopw [91] (fun i wr => ∃ j : Nat, j ≤ 5 ∧ i = .int .i64 j ∧ Below W.heap.size W wr) (fun i wr => 5 - (intOf i).toNat)
  case atStart => exact ⟨0, by omega, rfl, Below.refl _ _⟩
  case round =>
    obtain ⟨W1, rfl⟩ : ∃ x : World, x = wr := ⟨_, rfl⟩
    obtain ⟨j, hj, rfl, hB⟩ := hrel
    by_cases hlt : j < 5
    · obtain ⟨⟨v, xs⟩, hv⟩ : ∃ x, vs[j]? = some x := ⟨_, List.getElem?_eq_getElem (by rw [HLEN.out]; exact hlt)⟩
      obtain ⟨hrs, hgood⟩ := HVS.out j v xs hv
      have hc := cell_keepB hB hbl (HCS.out j v xs hv)
      have hrs1 := hrs.below hB
      obtain ⟨a, cap, rfl, l1, l2, _⟩ := hrs1.opened
      have HR := Lib.hid hrs1
      have HG := Lib.hid hgood
      have HE := Lib.hid (KW.out.env.below hB (Nat.le_refl _))
      have hsm : areaSum xs ≤ 409600 := by rw [← hgood.size]; exact sizes_small hgood
      have HSZ := Lib.hid hgood.size
      clear hv hrs hgood hrs1
      unfold maxLen at l2
      obtain ⟨n, hn⟩ : ∃ n, n = xs.length := ⟨_, rfl⟩
      rw [← hn] at l1 HR hc
      have HN := Lib.hid hn
      clear hn
      have hd5 : decide ((j : Int) < 5) = true := by simp; omega
      go_wp2_with fail
      refine (size_any HR.out HE.out).mono ?_
      rintro e w5 ⟨rfl, hb5⟩
      rw [HSZ.out]
      have HB5 := Lib.hid hb5
      clear hb5 hc
      go_wp2_with fail
      refine (sum_any (HR.out.below HB5.out) HG.out.valid (by have := HG.out.len; omega)).mono ?_
      rintro e w6 ⟨rfl, nq, rfl⟩
      have HB6 := Lib.hid (below_drewN HB5.out nq)
      have HR6 := Lib.hid ((HR.out.below HB5.out).drewN nq)
      generalize areaSum xs = sm at *
      obtain ⟨w6, hw6⟩ : ∃ x, x = World.drewN w5 nq := ⟨_, rfl⟩
      rw [← hw6] at HB6 HR6 ⊢
      clear hw6 HB5
      have H3 := Lib.hid (RS.at HR6.out)
      go_wp2_with fail
      go_loopw [16] (fun i wr => ∃ k q : Nat, k ≤ n ∧ i = .int .i64 k ∧ wr = w6.drewN q) (fun i wr => n - (intOf i).toNat)
      case atStart => exact ⟨0, 0, by omega, rfl, rfl⟩
      case round =>
        obtain ⟨k, q, hk, rfl, rfl⟩ := hrel
        by_cases hkn : k < n
        · have hdk : decide ((k : Int) < (n : Int)) = true := by simp; omega
          go_wp2
          go_loopw [17] (fun i wr => ∃ m q : Nat, m ≤ k ∧ i = .int .i64 m ∧ wr = w6.drewN q) (fun i wr => k - (intOf i).toNat)
          case atStart => exact ⟨0, q, by omega, rfl, rfl⟩
          case round =>
            obtain ⟨m, q, hm, rfl, rfl⟩ := hrel
            by_cases hmk : m < k
            · have hdm : decide ((m : Int) < (k : Int)) = true := by simp; omega
              obtain ⟨q1, e1⟩ : ∃ x, xs[k]? = some x := ⟨_, List.getElem?_eq_getElem (by rw [← HN.out]; exact hkn)⟩
              obtain ⟨q2, e2⟩ : ∃ x, xs[m]? = some x := ⟨_, List.getElem?_eq_getElem (by rw [← HN.out]; omega)⟩
              have hno := good_no HG.out e1 e2 hmk
              obtain ⟨b, off, rfl, _, c1, c2, c3, c4⟩ := H3.out k q1 e1
              obtain ⟨b', off', hab, _, d1, d2, d3, d4⟩ := H3.out m q2 e2
              obtain ⟨rfl, rfl⟩ : b = b' ∧ off = off' := by cases hab; exact ⟨rfl, rfl⟩
              obtain ⟨mx, emx⟩ : ∃ x, x = max q1.l q2.l := ⟨_, rfl⟩
              obtain ⟨mn, emn⟩ : ∃ x, x = min q1.r q2.r := ⟨_, rfl⟩
              obtain ⟨my, emy⟩ : ∃ x, x = max q1.lo q2.lo := ⟨_, rfl⟩
              obtain ⟨mz, emz⟩ : ∃ x, x = min q1.hi q2.hi := ⟨_, rfl⟩
              rw [← emx, ← emn, ← emy, ← emz] at hno
              have eA : (if q1.l < q2.l then q2.l else q1.l) = mx := by rw [emx]; split <;> omega
              have eB : (if q2.r < q1.r then q2.r else q1.r) = mn := by rw [emn]; split <;> omega
              have eC : (if q1.lo < q2.lo then q2.lo else q1.lo) = my := by rw [emy]; split <;> omega
              have eD : (if q2.hi < q1.hi then q2.hi else q1.hi) = mz := by rw [emz]; split <;> omega
              clear emx emn emy emz e1 e2 hab
              by_cases t1 : mx < mn
              · have hd1 : decide (mx < mn) = true := by simpa using t1
                have hd2 : decide (my < mz) = false := by rw [decide_eq_false_iff_not]; exact fun h => hno ⟨t1, h⟩
                clear hno t1
                go_wp2_with fail
                go_quiet (fail)
                go_wp2
                go_roundw
                case rel => exact ⟨m + 1, _, by omega, by go_num, rfl⟩
                case measure => simp [intOf]; omega
              · have hd1 : decide (mx < mn) = false := by simpa using t1
                clear hno t1
                go_wp2_with fail
                go_quiet (fail)
                go_wp2
                go_roundw
                case rel => exact ⟨m + 1, _, by omega, by go_num, rfl⟩
                case measure => simp [intOf]; omega
            · have hdm : decide ((m : Int) < (k : Int)) = false := by simp; omega
              go_wp2
              go_roundw
              case rel => exact ⟨k + 1, q, by omega, by go_num, rfl⟩
              case measure => simp [intOf]; omega
        · have hdk : decide ((k : Int) < (n : Int)) = false := by simp; omega
          go_wp2
          go_roundw
          case rel => exact ⟨j + 1, by omega, by go_num, hB.trans ((below_drewN HB6.out q).mono hB.size)⟩
          case measure => simp [intOf]; omega
    · have KE := Lib.hid (KW.out.step hB)
      have hd5 : decide ((j : Int) < 5) = false := by simp; omega
      go_wp2_with fail
      refine (whole_at KE.out rfl).mono ?_
      rintro e w8 ⟨r8, rfl, k8⟩
      have K8 := Lib.hid k8
      clear k8
      go_wp2_with fail
      refine (size_at K8.out 7 4096 (by rw [size_whole]; rfl) rfl).mono ?_
      rintro e w9 ⟨rfl, k9⟩
      have K9 := Lib.hid k9
      clear k9
      go_wp2
      go_ret
      exact ⟨rfl, K9.out.below⟩
end Go.Proofs.YtbpkfpkhnkcgkaaDoorR
