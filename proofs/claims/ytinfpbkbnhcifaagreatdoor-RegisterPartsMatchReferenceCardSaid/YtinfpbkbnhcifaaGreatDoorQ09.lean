/- Cuts of slices of strings; slices.Reverse at an owned slice; the walk of digest.Proof. The conditions: what the slice reads as, lengths, the table of constants. -/
import Derived.WalkMore
import Derived.Test.YtinfpbkbnhcifaaGreatDoorQ08
import Derived.Test.YtinfpbkbnhcifaaGreatDoorQ03
namespace Go.Proofs.YtinfpbkbnhcifaaGreatDoor
open Go.RowKit Go.BigFrame Go.Shelf

attribute [local go_sem] Oper.semAt_some

theorem SliceAt.drop {w : World} {b off n cap size : Nat} {cs : List (List Value)} (h : SliceAt w (.slice (some ⟨b, off, none⟩) n cap) size cs) (k : Nat) (hk : k ≤ n) : SliceAt w (.slice (some ⟨b, off + k * size, none⟩) (n - k) (cap - k)) size (cs.drop k) := by
  obtain ⟨a', cap', hv, h1, h2, h3⟩ := h
  injection hv with e1 e2 e3
  subst e1 e2 e3
  have hl : (cs.drop k).length = cs.length - k := by rw [List.length_drop]
  refine ⟨_, cap - k, by rw [hl], by omega, by omega, ?_⟩
  rcases h3 with h3 | ⟨b', off', ha, hb, hc⟩
  · exact .inl (by simp [h3])
  · cases ha
    refine .inr ⟨_, _, rfl, hb, fun i c hi j u hj => ?_⟩
    rw [List.getElem?_drop] at hi
    have := hc (k + i) c hi j u hj
    rw [← this, Nat.add_mul]
    congr 2
    omega
theorem SS.drop {w : World} {b off n cap : Nat} {xs : List ByteArray} (h : SS w (.slice (some ⟨b, off, none⟩) n cap) xs) (k : Nat) (hk : k ≤ n) : SS w (.slice (some ⟨b, off + k, none⟩) (n - k) (cap - k)) (xs.drop k) := by
  have := SliceAt.drop h k hk
  unfold SS scells at *
  rw [List.map_drop]
  simpa using this
theorem SS.len {w : World} {a : Option Addr} {n cap : Nat} {xs : List ByteArray} (h : SS w (.slice a n cap) xs) : xs.length = n ∧ n ≤ cap ∧ cap ≤ maxLen := by
  obtain ⟨a', cap', hv, h1, h2, _⟩ := h.opened
  injection hv with e1 e2 e3
  omega

theorem setCells_world (b : Nat) : ∀ (vs : List Value) (o : Nat) (w : World), w.grownBy (w.setCells b o vs) (some b)
  | [], _, w => grown_refl _ _
  | v :: r, o, w => by
    rw [World.setCells]
    have h1 := grown_setCell (grown_refl w (some b)) ⟨b, o, none⟩ (.inl rfl) v
    have h2 := setCells_world b r (o + 1) (w.setCell ⟨b, o, none⟩ v)
    exact ⟨h2.os.trans h1.os, h2.tape.trans h1.tape, h2.output.trans h1.output, Nat.le_trans h1.size h2.size, fun i hi hne => (h2.block i (Nat.lt_of_lt_of_le hi h1.size) hne).trans (h1.block i hi hne)⟩

/-- A slice that is not empty lies in a row of this type. -/
def RowTy (w : World) (T : TypeId) (v : Value) : Prop := ∀ (a : Addr) (n c : Nat), v = .slice (some a) n c → n = 0 ∨ ∃ cs fr, w.heap[a.block]? = some (.cells cs T fr)
theorem RowTy.below {w w' : World} {T : TypeId} {v : Value} (h : RowTy w T v) (hb : Below w.heap.size w w') : RowTy w' T v := fun a n c e => by
  rcases h a n c e with h | ⟨cs, fr, h⟩
  · exact .inl h
  · exact .inr ⟨cs, fr, (hb.block _ (Array.getElem?_eq_some_iff.1 h).1).trans h⟩
theorem setCells_ty (b : Nat) : ∀ (vs : List Value) (o : Nat) (w : World) (cs : Array Value) (T : TypeId) (fr : Nat × Nat), w.heap[b]? = some (.cells cs T fr) → ∃ cs', (w.setCells b o vs).heap[b]? = some (.cells cs' T fr)
  | [], _, _, cs, _, _, h => ⟨cs, h⟩
  | v :: r, o, w, _, T, fr, h => by
    rw [World.setCells]
    exact setCells_ty b r (o + 1) (w.setCell ⟨b, o, none⟩ v) _ T fr (heap_setCell_same v h)

/-- slices.Reverse at an owned slice of strings. -/
theorem reverse_own {w : World} {base : Nat} {v : Value} {xs : List ByteArray} (h : OwnS w base v xs) (hl : xs.length ≤ 100000) :
    Calls Tryz.prog 86 #[v] w fun e w' => e = .returned (.tuple #[]) ∧ SS w' v xs.reverse ∧ w.grownBy w' v.ownBlock ∧ RowTy w' 9 v := by
  obtain ⟨a, cap, hv⟩ := h.form
  have hlen : (scells xs).length = xs.length := by simp [scells]
  rw [hlen] at hv
  subst hv
  rcases Nat.eq_zero_or_pos xs.length with h0 | hpos
  · obtain rfl := List.eq_nil_of_length_eq_zero h0
    refine (Tryz.slices_Reverse_string_empty a cap w).mono ?_
    rintro e w' ⟨he, rfl⟩
    exact ⟨he, h.ss, grown_refl _ _, fun a' n c e => .inl (by injection e with _ e2 _; exact e2.symm)⟩
  · obtain ⟨g, o, rfl, hg, hb, hc, hcm, hat⟩ := h.block hpos
    have hss := h.ss
    have hat' := hat w hg
    obtain ⟨cs, fr, rfl, hfz, hsz⟩ : ∃ cs fr, o = .cells cs 9 fr ∧ fr = (0, 0) ∧ True := by
      rcases h.2 with ⟨hv, h0⟩ | ⟨g', cap', cur, hv, _, hg', _⟩
      · injection hv with e1 _ _; cases e1
      · injection hv with e1 _ _
        cases e1
        rw [hg] at hg'
        cases hg'
        exact ⟨_, _, rfl, rfl, trivial⟩
    subst hfz
    have hS : ∀ i, i < xs.length → w.cell? ⟨g, 0 + i, none⟩ = some (.string (xs.getD i ⟨#[]⟩)) := by
      intro i hi
      rw [Nat.zero_add]
      exact hat' i _ (by rw [List.getD_eq_getElem?_getD, List.getElem?_eq_getElem hi]; rfl)
    have hF : ∀ j, j < xs.length → w.frozen? ⟨g, 0 + j, none⟩ = false := by
      intro j _
      simp [World.frozen?, hg]
    refine (Tryz.slices_Reverse_string_cells g 0 xs.length cap (fun i => xs.getD i ⟨#[]⟩) w (by omega) hS hF).mono ?_
    rintro e w' ⟨he, q, rfl⟩
    have hlist : (Lib.strsOf (fun i => xs.getD i ⟨#[]⟩) xs.length).reverse.map encStr = xs.reverse.map Value.string := by
      have h1 : Lib.strsOf (fun i => xs.getD i ⟨#[]⟩) xs.length = xs.map (fun s => s.data.toList) := by
        apply List.ext_getElem?
        intro i
        unfold Lib.strsOf
        rw [List.getElem?_map, List.getElem?_map]
        rcases Nat.lt_or_ge i xs.length with hi | hi
        · rw [List.getElem?_range hi, List.getElem?_eq_getElem hi]
          simp [List.getElem?_eq_getElem hi]
        · rw [List.getElem?_eq_none (by simpa using hi), List.getElem?_eq_none hi]
          rfl
      rw [h1, ← List.map_reverse, List.map_map]
      rfl
    rw [hlist]
    have hgr := setCells_world g (xs.reverse.map Value.string) 0 (w.drewN q)
    have hgr' : w.grownBy ((w.drewN q).setCells g 0 (xs.reverse.map Value.string)) (some g) := ⟨hgr.os, hgr.tape, hgr.output, hgr.size, hgr.block⟩
    have hty : RowTy ((w.drewN q).setCells g 0 (xs.reverse.map Value.string)) 9 (.slice (some ⟨g, 0, none⟩) xs.length cap) := fun a' n' c' e => by
      injection e with e1 _ _
      injection e1 with e1
      subst e1
      obtain ⟨cs', h⟩ := setCells_ty g (xs.reverse.map Value.string) 0 (w.drewN q) _ _ _ hg
      exact .inr ⟨cs', _, h⟩
    refine ⟨he, ⟨_, cap, by simp [scells], by simp [scells]; omega, hcm, .inr ⟨g, 0, rfl, Nat.lt_of_lt_of_le (Array.getElem?_eq_some_iff.1 hg).1 hgr'.size, ?_⟩⟩, hgr', hty⟩
    intro i c hi j u hj
    unfold scells at hi
    rw [List.getElem?_map] at hi
    obtain ⟨s, hs, rfl⟩ := Option.map_eq_some_iff.1 hi
    match j, hj with
    | 0, hj =>
      simp at hj
      subst hj
      have hi' : i < (xs.reverse.map Value.string).length := by
        rw [List.length_map]
        exact (List.getElem?_eq_some_iff.1 hs).1
      have := World.cell?_setCells_in g (xs.reverse.map Value.string) 0 (w.drewN q) (fun j hj => by
        rw [show (w.drewN q).cell? ⟨g, 0 + j, none⟩ = w.cell? ⟨g, 0 + j, none⟩ from rfl, hS j (by simpa using hj)]; rfl) i hi'
      rw [show 0 + i * 1 + 0 = 0 + i by omega, this]
      congr 1
      rw [List.getElem_map]
      congr 1
      exact (List.getElem?_eq_some_iff.1 hs).2

def lenOf : Value → Nat
  | .slice _ n _ => n
  | _ => 0
theorem downL_one (l : List ByteArray) (i : Nat) (h : l.length ≤ 1) : downL leafS nodeS (sumS ⟨#[]⟩) l i = [] := by
  rw [downL, dif_pos h]
theorem downL_left (l : List ByteArray) (i : Nat) (h : 2 ≤ l.length) (hi : i < leftN l.length) : downL leafS nodeS (sumS ⟨#[]⟩) l i = rootB (l.drop (leftN l.length)) :: downL leafS nodeS (sumS ⟨#[]⟩) (l.take (leftN l.length)) i := by
  rw [downL, dif_neg (by omega), if_pos hi]; rfl
theorem downL_right (l : List ByteArray) (i : Nat) (h : 2 ≤ l.length) (hi : leftN l.length ≤ i) : downL leafS nodeS (sumS ⟨#[]⟩) l i = rootB (l.take (leftN l.length)) :: downL leafS nodeS (sumS ⟨#[]⟩) (l.drop (leftN l.length)) (i - leftN l.length) := by
  rw [downL, dif_neg (by omega), if_neg (by omega)]; rfl

set_option maxHeartbeats 4000000 in
set_option maxRecDepth 100000 in
theorem proof_no {w : World} {v : Value} {xs : List ByteArray} (i : Int) (hr : SS w v xs) (hi : i < 0 ∨ (xs.length : Int) ≤ i) :
    Calls Tryz.prog 54 #[v, .int .i64 i] w fun e w' => e = .returned (.tuple #[.slice none 0 0, .int .i64 2]) ∧ w' = w := by
  obtain ⟨a, cap, rfl, l1, l2, l3⟩ := hr.opened
  clear l3 hr
  generalize xs.length = n at *
  go_enter Tryz.func54, Tryz.ntmps54
  by_cases hn : i < 0
  · go_wp2
    go_step3
    go_wp2
    rw [Exit.noGoto_ret]
    exact bodyPost_ret (results_tmp2 rfl _ _ _) rfl ⟨rfl, rfl⟩
  · have hd2 : (n : Int) ≤ i := by omega
    go_wp2
    go_step3
    go_wp2
    rw [Exit.noGoto_ret]
    exact bodyPost_ret (results_tmp2 rfl _ _ _) rfl ⟨rfl, rfl⟩

set_option maxHeartbeats 4000000 in
set_option maxRecDepth 100000 in
theorem proof_any {w : World} {v : Value} {xs : List ByteArray} (i : Nat) (hr : SS w v xs) (hl : xs.length ≤ 1000) (hx : ∀ x ∈ xs, x.size ≤ 100000) (he : Env w) (hg : 0 < w.heap.size) (hi : i < xs.length) :
    Calls Tryz.prog 54 #[v, .int .i64 i] w fun e w' => ∃ v', e = .returned (.tuple #[v', .int .i64 0]) ∧ SS w' v' (downL leafS nodeS (sumS ⟨#[]⟩) xs i).reverse ∧ Below w.heap.size w w' ∧ RowTy w' 9 v' := by
  obtain ⟨a, cap, rfl, l1, l2, l3⟩ := hr.opened
  obtain ⟨b, off, rfl, hb, c1⟩ := l3 0 _ (List.getElem?_eq_getElem (by omega))
  have HR := Lib.hid hr
  have HX := Lib.hid hx
  have HE := Lib.hid he
  have HG := Lib.hid hg
  clear l3 hr hx he hg c1
  unfold maxLen at l2
  obtain ⟨D, hD⟩ : ∃ D, D = downL leafS nodeS (sumS ⟨#[]⟩) xs i := ⟨_, rfl⟩
  rw [← hD]
  have HD0 : Hid ([] ++ downL leafS nodeS (sumS ⟨#[]⟩) xs i = D ∧ xs.length = xs.length ∧ ([] : List ByteArray).length + xs.length ≤ 1000 ∧ ∀ y ∈ xs, y ∈ xs) := Lib.hid ⟨hD.symm, rfl, by simpa using hl, fun y h => h⟩
  clear hD
  have HD1 : Hid (∃ n, n = xs.length ∧ i < n ∧ n ≤ cap ∧ n ≤ 1000) := Lib.hid ⟨_, rfl, hi, l1, hl⟩
  obtain ⟨n, hn, hi, l1, hl⟩ := HD1.out
  have HN := Lib.hid hn
  rw [← hn] at HR ⊢
  clear HD1 hn
  have hd0 : ¬ ((i : Int) < 0) := by omega
  have hd1 : ¬ ((n : Int) ≤ (i : Int)) := by omega
  go_enter Tryz.func54, Tryz.ntmps54
  go_wp2
  go_step3
  go_wp2
  go_step3
  go_wp2
  generalize Value.bool (decide ((i : Int) < 0) || decide (n ≤ i)) = z3
  generalize Value.bool (decide (n ≤ i)) = z2
  generalize Value.bool (decide ((i : Int) < 0)) = z1
  go_loopw [0, 1, 6] (fun vl vi vo wr => ∃ (ys ds : List ByteArray) (j m b off cap : Nat), vl = .slice (some ⟨b, off, none⟩) m cap ∧ vi = .int .i64 j ∧ j < m ∧ m ≤ 1000 ∧ Hid (ds ++ downL leafS nodeS (sumS ⟨#[]⟩) ys j = D ∧ ys.length = m ∧ ds.length + m ≤ 1000 ∧ ∀ y ∈ ys, y ∈ xs) ∧ Hid (SS w (.slice (some ⟨b, off, none⟩) m cap) ys) ∧ Hid (OwnS wr w.heap.size vo ds ∧ Below w.heap.size w wr)) (fun vl _ _ wr => lenOf vl)
  case atStart => exact ⟨xs, [], i, n, b, off, cap, rfl, rfl, hi, hl, Lib.hid ⟨HD0.out.1, HN.out.symm, by simpa using hl, fun y h => h⟩, HR, Lib.hid ⟨OwnE.nil _ _ _ _, Below.refl _ _⟩⟩
  case round =>
    obtain ⟨ys, ds, j, m, b, off, cap, rfl, rfl, hj, hm, HI, HS, HO⟩ := hrel
    obtain ⟨hy, hc, hcm⟩ := HS.out.len
    unfold maxLen at hcm
    clear hy
    by_cases h1 : m = 1
    · have HE1 : Hid (D = ds) := Lib.hid (by rw [← HI.out.1, downL_one _ _ (by rw [HI.out.2.1]; omega), List.append_nil])
      subst h1
      have hb1 : (((1 : Nat) : Int) == 1) = true := rfl
      have HRV := Lib.hid (reverse_own HO.out.1 (by have := HI.out.2.2.1; omega))
      go_wp2_with (go_at_call 86; refine HRV.out.mono ?_; rintro e w1 ⟨rfl, hs1, hg1, ht1⟩; have HS1 := Lib.hid hs1; have HG1 := Lib.hid hg1; have HT1 := Lib.hid ht1; clear hs1 hg1 ht1)
      rw [Exit.noGoto_ret]
      refine bodyPost_ret (results_tmp2 rfl _ _ _) rfl ⟨_, rfl, ?_, ?_, HT1.out⟩
      · rw [HE1.out]; exact HS1.out
      · exact below_own HO.out.2 HO.out.1 HG1.out (Nat.le_refl _)
    · have hb1 : ((m : Int) == 1) = false := by simp; omega
      have HL := Lib.hid (left_any m wr (by omega) (by omega))
      have hk1 := leftN_pos m
      have hk2 := leftN_lt (n := m) (by omega)
      obtain ⟨k, hk⟩ : ∃ k, k = leftN m := ⟨_, rfl⟩
      rw [← hk] at HL hk1 hk2
      have HK := Lib.hid hk
      clear hk
      have HST := Lib.hid (HS.out.cut k (by omega))
      have HSD := Lib.hid (HS.out.drop k (by omega))
      have hyx : Hid (∀ y ∈ ys, y.size ≤ 100000) := Lib.hid (fun y hy => HX.out y (HI.out.2.2.2 y hy))
      by_cases hjk : k ≤ j
      · have HRt : Hid (∀ q, Calls Tryz.prog 74 #[.slice (some ⟨b, off, none⟩) k cap] (wr.drewN q) fun e w' => e = .returned (.string (rootB (ys.take k))) ∧ Below (wr.drewN q).heap.size (wr.drewN q) w') := Lib.hid (fun q =>
          root_any ((HST.out.below HO.out.2).drewN q) (by rw [List.length_take]; omega) (fun y hy => hyx.out y (List.mem_of_mem_take hy)) (HE.out.below (below_drewN HO.out.2 q) HG.out) (Nat.lt_of_lt_of_le HG.out HO.out.2.size))
        have f1 : IntKind.i64.wrap ((j : Int) - (k : Int)) = ((j - k : Nat) : Int) := by rw [IntWalk.i64_in _ (by omega)]; omega
        have hd : (k : Int) ≤ (j : Int) := by omega
        have HN1 : Hid (ds ++ [rootB (ys.take k)] ++ downL leafS nodeS (sumS ⟨#[]⟩) (ys.drop k) (j - k) = D ∧ (ys.drop k).length = m - k ∧ (ds ++ [rootB (ys.take k)]).length + (m - k) ≤ 1000 ∧ ∀ y ∈ ys.drop k, y ∈ xs) := Lib.hid (by
          obtain ⟨e1, e2, e3, e4⟩ := HI.out
          have e5 := downL_right ys j (by omega) (by rw [e2, ← HK.out]; exact hjk)
          rw [e2, ← HK.out] at e5
          refine ⟨?_, ?_, ?_, fun y hy => e4 y (List.mem_of_mem_drop hy)⟩
          · rw [← e1, e5]; simp
          · rw [List.length_drop, e2]
          · rw [List.length_append]; simp; omega)
        go_wp2_with (first | (go_at_call 85; refine HL.out.mono ?_; rintro e w1 ⟨rfl, rfl⟩) | (go_quiet (fail)) | (go_at_call 74; refine (HRt.out _).mono ?_; rintro e w2 ⟨rfl, hb2⟩; have HO2 : Hid (OwnS w2 w.heap.size _ ds ∧ Below w.heap.size w w2) := Lib.hid ⟨OwnE.far (OwnE.drewN HO.out.1 _) hb2 (Nat.le_refl _), (below_drewN HO.out.2 _).trans (hb2.mono HO.out.2.size)⟩; clear hb2) | (at_builtin; refine wpList_append_str (.tmp 38) (.tmp 41) w.heap.size _ ds w2.heap.size (rootB (ys.take k)) (0, 0) (HO2.out.1.alloc _) (by have := HI.out.2.2.1; omega) (Nat.le_trans HO2.out.2.size (by simp)) (heap_alloc_new _ _) rfl rfl rfl rfl ?_; intro v3 w3 ho3 hg3; have HO3 : Hid (OwnS w3 w.heap.size v3 (ds ++ [rootB (ys.take k)]) ∧ Below w.heap.size w w3) := Lib.hid ⟨ho3, below_own (HO2.out.2.alloc HO2.out.2.size _) (HO2.out.1.alloc _) hg3 (Nat.le_refl _)⟩; clear ho3 hg3))
        go_roundw
        case rel => exact ⟨ys.drop k, ds ++ [rootB (ys.take k)], j - k, m - k, b, off + k, cap - k, rfl, rfl, by omega, by omega, HN1, HSD, HO3⟩
        case measure => simp only [lenOf]; omega
      · have HRt : Hid (∀ q, Calls Tryz.prog 74 #[.slice (some ⟨b, off + k, none⟩) (m - k) (cap - k)] (wr.drewN q) fun e w' => e = .returned (.string (rootB (ys.drop k))) ∧ Below (wr.drewN q).heap.size (wr.drewN q) w') := Lib.hid (fun q =>
          root_any ((HSD.out.below HO.out.2).drewN q) (by rw [List.length_drop]; have := HI.out.2.1; omega) (fun y hy => hyx.out y (List.mem_of_mem_drop hy)) (HE.out.below (below_drewN HO.out.2 q) HG.out) (Nat.lt_of_lt_of_le HG.out HO.out.2.size))
        have hd : ¬ (k : Int) ≤ (j : Int) := by omega
        have HN1 : Hid (ds ++ [rootB (ys.drop k)] ++ downL leafS nodeS (sumS ⟨#[]⟩) (ys.take k) j = D ∧ (ys.take k).length = k ∧ (ds ++ [rootB (ys.drop k)]).length + k ≤ 1000 ∧ ∀ y ∈ ys.take k, y ∈ xs) := Lib.hid (by
          obtain ⟨e1, e2, e3, e4⟩ := HI.out
          have e5 := downL_left ys j (by omega) (by rw [e2, ← HK.out]; omega)
          rw [e2, ← HK.out] at e5
          refine ⟨?_, ?_, ?_, fun y hy => e4 y (List.mem_of_mem_take hy)⟩
          · rw [← e1, e5]; simp
          · rw [List.length_take, e2]; omega
          · rw [List.length_append]; simp; omega)
        go_wp2_with (first | (go_at_call 85; refine HL.out.mono ?_; rintro e w1 ⟨rfl, rfl⟩) | (go_quiet (fail)) | (go_at_call 74; refine (HRt.out _).mono ?_; rintro e w2 ⟨rfl, hb2⟩; have HO2 : Hid (OwnS w2 w.heap.size _ ds ∧ Below w.heap.size w w2) := Lib.hid ⟨OwnE.far (OwnE.drewN HO.out.1 _) hb2 (Nat.le_refl _), (below_drewN HO.out.2 _).trans (hb2.mono HO.out.2.size)⟩; clear hb2) | (at_builtin; refine wpList_append_str (.tmp 38) (.tmp 41) w.heap.size _ ds w2.heap.size (rootB (ys.drop k)) (0, 0) (HO2.out.1.alloc _) (by have := HI.out.2.2.1; omega) (Nat.le_trans HO2.out.2.size (by simp)) (heap_alloc_new _ _) rfl rfl rfl rfl ?_; intro v3 w3 ho3 hg3; have HO3 : Hid (OwnS w3 w.heap.size v3 (ds ++ [rootB (ys.drop k)]) ∧ Below w.heap.size w w3) := Lib.hid ⟨ho3, below_own (HO2.out.2.alloc HO2.out.2.size _) (HO2.out.1.alloc _) hg3 (Nat.le_refl _)⟩; clear ho3 hg3))
        go_roundw
        case rel => exact ⟨ys.take k, ds ++ [rootB (ys.drop k)], j, k, b, off, cap, rfl, rfl, by omega, by omega, HN1, HST, HO3⟩
        case measure => simp only [lenOf]; omega
end Go.Proofs.YtinfpbkbnhcifaaGreatDoor

/- A range over a function whose round begins by making memory (a variable of the round's). -/
namespace Go.Proofs.YtinfpbkbnhcifaaGreatDoor
open Go.RowKit

section
variable {P : Program} {α : Type}

theorem wpIn_rangeA {F : Fence} {n : Nat} {g : Operand} {ps : Array Tmp} {assign body : Code} {Q : Exit → Act → World → Prop} {a : Act} {w : World}
    (hF : Wide F) (hro : F.round = none) {gf : Nat} {lb : Array Value} (hg : a.eval g = .func (.func gf) #[] lb) (eg : ∀ args w, (callFunc gf args).run P w = .ok (.enter gf args) w)
    {encs : α → Array Value} {Kp : World → World → Prop} {row : Option Nat} {S Sp : List α → Prop} {N : Nat} {w0 : World} (hseq : Iter P gf lb encs Kp row S Sp N w0)
    (hb0 : Below w0.heap.size w0 w) (hps : ∀ x, (encs x).size = ps.size) (hrow : ∀ k, row = some k → k < w.heap.size)
    (hKt : ∀ {A B C : World}, Kp A B → Kp B C → Kp A C) (hKb : ∀ (W : World) (l : Nat) (o o' : Obj), w.heap.size ≤ l → W.heap[l]? = some o → o.isCells = false → o.isWalk = false → Kp W (W.putObj l o'))
    (I : List α → World → Prop) (Ix : Code → List α → World → Prop) (hI : Abide row w.heap.size I) (hIx : ∀ c, Abide row w.heap.size (Ix c)) (h0 : I [] w) (A1 : Act → α → Act → World → Prop) (hA1 : ∀ x a' W l o o', A1 a x a' W → w.heap.size ≤ l → W.heap[l]? = some o → o.isCells = false → A1 a x a' (W.putObj l o'))
    (hKg : ∀ A C : World, w.heap.size ≤ A.heap.size → A.grownBy C none → Kp A C)
    (hassign : ∀ (l : Nat) (pre : List α) (x : α) (W : World) (K : Act → World → Prop), I pre W → (∀ a' W', A1 a x a' W' → W.grownBy W' none → K a' W') →
      assign.wpIn (F.inRound l) (n - 1 - 1) P (Exit.then K (fun _ _ _ => False)) { tmps := (ps.zip (encs x)).foldl (fun t (p, v) => t.setIfInBounds p v) a.tmps, defers := [] } W)
    (hbody : ∀ (l : Nat) (pre : List α) (x : α) (a' : Act) (W : World), I pre W → pre.length < N → A1 a x a' W → body.wpIn (F.inRound l) (n - 1 - 1) P (ownPostG w.heap.size Kp I Ix (pre ++ [x]) W) a' W)
    (hdone : ∀ (D : Nat) (xs : List α) (W : World), w.heap.size ≤ D → S xs → I xs W → W.heap[D]? = some (.deferred (some [])) → Q .normal { a with defers := { target := .collected D, args := #[] } :: a.defers } W)
    (hstop : ∀ (D : Nat) (c : Code) (pre : List α) (W : World), w.heap.size ≤ D → Sp pre → Ix c pre W → W.heap[D]? = some (.deferred (some [])) → c.wpIn F n P Q { a with defers := { target := .collected D, args := #[] } :: a.defers } W) :
    (Code.rangeFunc g ps assign body).wpIn F n P Q a w := by
  refine wpIn_rangeFunc ?_
  intro fn hfn
  rw [hro]
  obtain ⟨rec, hrec⟩ : ∃ rec : LoopState → Option Code → Loop, rec = recOf fn a ps assign body w.heap.size := ⟨_, rfl⟩
  have hparams : ∀ st pe, (rec st pe).params = ps := by intro st pe; rw [hrec]; rfl
  obtain ⟨W1, hW1⟩ : ∃ W1, (w.alloc (.deferred (some []))).alloc (.loop (rec .ready none)) = W1 := ⟨_, rfl⟩
  have hsz : W1.heap.size = w.heap.size + 2 := by rw [← hW1]; simp
  have hB1 : Book w (rec .ready none) W1 := by
    rw [← hW1]
    exact ⟨heap_alloc2_new w _ _, heap_alloc2_old w _ _⟩
  have hI1 : I [] W1 := by
    rw [← hW1]
    exact hI.2 _ _ _ none (hI.2 _ _ _ none h0 (World.grownBy_alloc w _ none) (.inl rfl)) (World.grownBy_alloc _ _ none) (.inl rfl)
  have hb1 : Below w0.heap.size w0 W1 := by
    rw [← hW1]; exact hb0.trans ((((Below.refl _ w).alloc (Nat.le_refl _) _).alloc (by simp) _).mono hb0.size)
  -- a turn of the record is borne by all
  have put : ∀ {Z : List α → World → Prop} (pre : List α) (W : World) (r r' : Loop), Abide row w.heap.size Z → Z pre W → Book w r W → Z pre (W.putObj (w.heap.size + 1) (.loop r')) :=
    fun pre W r r' hZ hz hb => hZ.2 pre W _ (some (w.heap.size + 1)) hz (grownBy_putObj' W _ _) (.inr ⟨_, _, rfl, by omega, hb.1, rfl⟩)
  refine ⟨w.heap.size + 1, [{ target := .collected w.heap.size, args := #[] }], W1, { target := .fn (.func gf) lb, args := #[.func (.yield (w.heap.size + 1)) #[] #[]] }, W1, gf,
    #[.func (.yield (w.heap.size + 1)) #[] #[]] ++ lb, W1, ?_, ?_, ?_, ?_, ?_, ?_⟩
  · rw [← hW1, hrec]; exact run_enterLoop_outer _ _ _ _ _
  · simp only [resolve, hg]
    simp [go_sem]
  · intro f' _; exact hF.1 f'
  · simp [invoke, go_sem, eg]
  · intro h; rw [hF.2.1] at h; cases h
  refine (hseq F (n - 1) hF hro (w.heap.size + 1) (fun pre W => I pre W ∧ Book w (rec .ready none) W) (fun pre W => ∃ c, Ix c pre W ∧ Book w (rec .done (some c)) W) W1 hb1
    (fun pre A B h hg' => ⟨hI.1 pre A B h.1 hg', h.2.grown hg'.1 hrow⟩)
    (fun pre A B h hg' => let ⟨c, hc, hk⟩ := h; ⟨c, (hIx c).1 pre A B hc hg', hk.grown hg'.1 hrow⟩) ?round ⟨hI1, hB1⟩).mono ?behind
  case round =>
    rintro pre x U ⟨hi, hk⟩ hlen
    have hy := run_yield (P := P) (args := encs x) hk.1 (by rw [hparams]; exact hps x)
    rw [hrec] at hy
    refine ⟨fn, _, assign, body, hy, roundIn_of_wpIn hfn (hassign _ pre x U _ hi (fun a₁ W hA hga => ?_))⟩
    have hgr : U.grownBy W row := ⟨hga.os, hga.tape, hga.output, hga.size, fun i hi' _ => hga.block i hi' (by simp)⟩
    have hKa : Kp U W := hKg U W (by have := (Array.getElem?_eq_some_iff.1 hk.1).1; omega) hga
    replace hi : I pre W := hI.2 pre U W none hi hga (.inl rfl)
    replace hk : Book w (rec .ready none) W := hk.grown hgr hrow
    refine ⟨_, run_beginRound hk.1 (by rw [hrec]; rfl), ?_⟩
    have hbusy := hk.put { rec .ready none with state := .busy }
    have hKp1 : Kp U (W.putObj (w.heap.size + 1) (.loop { rec .ready none with state := .busy })) := hKt hKa (hKb _ _ _ _ (by omega) hk.1 rfl rfl)
    refine wpIn_mono (hbody _ pre x _ _ (put pre W _ _ hI hi hk) hlen (hA1 _ _ _ _ _ _ hA (by omega) hk.1 rfl)) ?_
    -- what the round's end leaves
    have fin : ∀ (jump : Option Code) (W3 : World), KeepsFrom w.heap.size (W.putObj (w.heap.size + 1) (.loop { rec .ready none with state := .busy })) W3 →
        (Instr.endRound (w.heap.size + 1) jump).run P W3 = .ok (.bool jump.isNone) (W3.putObj (w.heap.size + 1) (.loop (rec (if jump.isNone then .ready else .done) jump))) ∧ Book w { rec .ready none with state := .busy } W3 := fun jump W3 hk3 => by
      have hb3 := hbusy.keeps hk3
      refine ⟨?_, hb3⟩
      have := run_endRound (P := P) jump hb3.1
      rw [hrec] at this ⊢
      exact this
    have leave : ∀ (c : Code) (W3 : World), KeepsFrom w.heap.size (W.putObj (w.heap.size + 1) (.loop { rec .ready none with state := .busy })) W3 ∧ Ix c (pre ++ [x]) W3 →
        ∃ v w', (Instr.endRound (w.heap.size + 1) (some c)).run P W3 = .ok v w' ∧ ((Ending.returned v = .returned (.bool true) ∧ (I (pre ++ [x]) w' ∧ Book w (rec .ready none) w') ∧ Kp U w') ∨ (Ending.returned v = .returned (.bool false) ∧ ∃ c, Ix c (pre ++ [x]) w' ∧ Book w (rec .done (some c)) w')) := fun c W3 hp => by
      obtain ⟨hk3, hi3⟩ := hp
      obtain ⟨hr, hb3⟩ := fin (some c) W3 hk3
      exact ⟨_, _, hr, .inr ⟨rfl, c, put _ W3 _ _ (hIx c) hi3 hb3, hb3.put _⟩⟩
    rintro e a3 W3 hp
    cases e with
    | normal =>
      obtain ⟨hk3, hkp3, hi3⟩ := hp
      obtain ⟨hr, hb3⟩ := fin none W3 hk3
      exact ⟨_, _, hr, .inl ⟨rfl, ⟨put _ W3 _ _ hI hi3 hb3, hb3.put _⟩, hKt (hKt hKp1 hkp3) (hKb _ _ _ _ (by omega) hb3.1 rfl rfl)⟩⟩
    | ret => exact leave .ret W3 hp
    | exit id => exact leave (.exit id) W3 hp
    | goto t => exact leave (.goto t) W3 hp
    | panic ch => exact hp.elim
    | outgrown => exact hp.elim
  case behind =>
    rintro e W2 ⟨⟨v, rfl⟩, (⟨xs, hS, hi, hk⟩ | ⟨pre, hSp, c, hi, hk⟩)⟩
    · refine ⟨none, _, ?_, hdone _ xs _ (Nat.le_refl _) hS (put _ W2 _ { rec .ready none with state := .exhausted } hI hi hk) (hk.put _).2⟩
      have := run_endLoop (P := P) hk.1 (by rw [hrec]; simp [recOf])
      rw [hrec] at this ⊢
      exact this
    · refine ⟨some c, _, ?_, hstop _ c pre _ (Nat.le_refl _) hSp (put _ W2 _ { rec .done (some c) with state := .exhausted } (hIx c) hi hk) (hk.put _).2⟩
      have := run_endLoop (P := P) hk.1 (by rw [hrec]; simp [recOf])
      rw [hrec] at this ⊢
      exact this
end
end Go.Proofs.YtinfpbkbnhcifaaGreatDoor

/- Owned slices of sides; the walk of digest.Verify. The conditions: what the slice reads as, lengths, the table of constants. -/
namespace Go.Proofs.YtinfpbkbnhcifaaGreatDoor
open Go.RowKit Go.BigFrame Go.Shelf

attribute [local go_sem] Oper.semAt_some

/-- The cells of sides. -/
def xcells (l : List (ByteArray × Bool)) : List (List Value) := l.map fun s => [.string s.1, .bool s.2]
def OwnX (w : World) (base : Nat) (v : Value) (xs : List (ByteArray × Bool)) : Prop := OwnE w base 127 2 v (xcells xs)
theorem infoSide : (Tryz.prog.info? 127).map (fun i => (i.zero, i.size, i.bytes)) = some (some (.agg #[.string ⟨#[]⟩, .bool false]), 2, 24) := by kernel_rfl
section
variable {ops : Array Oper} {rest : List Oper} {o : Oper} {a : Act} {w : World} {Q : Exit → Act → World → Prop}
theorem wpList_append_side (s x : Operand) (base : Nat) (v : Value) (xs : List (ByteArray × Bool)) (b : Nat) (y : ByteArray × Bool) (fr : Nat × Nat) (hown : OwnX w base v xs) (hlen : xs.length ≤ 100000) (hbase : base ≤ w.heap.size)
    (hb : w.heap[b]? = some (.cells #[.string y.1, .bool y.2] 127 fr)) (hgd : o.guard = none) (ho : o.op = .call { callee := .builtin .append, args := #[s, x], argTypes := #[123, 123] }) (hs : a.eval s = v) (hx : a.eval x = .slice (some ⟨b, 0, none⟩) 1 1)
    (h : ∀ v' w', OwnX w' base v' (xs ++ [y]) → w.grownBy w' v.ownBlock → wpList Tryz.prog ops Q rest (a.put o.dst v') w') : wpList Tryz.prog ops Q (o :: rest) a w :=
  wpList_append_el 123 127 2 24 _ (by kernel_rfl) infoSide rfl (by decide) hgd s x ho base v (xcells xs) hs hown b [.string y.1, .bool y.2] rfl (fun u hu => by simp at hu; rcases hu with rfl | rfl <;> rfl) hx fr hb
    (by unfold xcells; rw [List.length_map]; unfold maxLen; omega) (by unfold xcells; rw [List.length_map]; omega) hbase fun v' w' h1 h2 => h v' w' (by unfold OwnX xcells; rw [List.map_append]; exact h1) h2
end
theorem xcells_at (xs : List (ByteArray × Bool)) : ∀ (k : Nat) (s : ByteArray × Bool), xs[k]? = some s → (xcells xs).flatten[k * 2]? = some (.string s.1) ∧ (xcells xs).flatten[k * 2 + 1]? = some (.bool s.2) := by
  unfold xcells
  induction xs with
  | nil => intro k s h; simp at h
  | cons x xs ih =>
    intro k s h
    cases k with
    | zero =>
      simp at h
      subst h
      exact ⟨rfl, rfl⟩
    | succ k =>
      have h1 := ih k s (by simpa using h)
      rw [List.map_cons, List.flatten_cons, show (k + 1) * 2 = k * 2 + 2 by omega]
      exact h1
theorem OwnX.form {w : World} {base : Nat} {v : Value} {xs : List (ByteArray × Bool)} (h : OwnX w base v xs) : ∃ a cap, v = .slice a xs.length cap := by
  obtain ⟨a, cap, h1⟩ := OwnE.form h
  unfold xcells at h1
  rw [List.length_map] at h1
  exact ⟨a, cap, h1⟩
theorem OwnX.block {w : World} {base : Nat} {a : Option Addr} {n cap : Nat} {xs : List (ByteArray × Bool)} (h : OwnX w base (.slice a n cap) xs) (h0 : 0 < w.heap.size) : xs.length = n ∧ n ≤ cap ∧ cap ≤ maxLen ∧ ∃ (g : Nat) (o : Obj), w.heap[g]? = some o ∧
    ∀ W : World, W.heap[g]? = some o → ∀ k s, xs[k]? = some s → ∃ b off, a = some ⟨b, off, none⟩ ∧ W.cell? ⟨b, off + k * 2, none⟩ = some (.string s.1) ∧ W.cell? ⟨b, off + k * 2 + 1, none⟩ = some (.bool s.2) := by
  rcases h.2 with ⟨hv, hl⟩ | ⟨g, cap', cur, hv, hb, hg, hnc, hcm, hcs, htake⟩
  · injection hv with e1 e2 e3
    subst e1 e2 e3
    unfold xcells at hl
    rw [List.length_map] at hl
    obtain rfl := List.eq_nil_of_length_eq_zero hl
    exact ⟨rfl, Nat.le_refl _, by decide, 0, _, Array.getElem?_eq_getElem h0, fun W _ k s hk => by simp at hk⟩
  · injection hv with e1 e2 e3
    subst e1 e3
    have hl : xs.length = n := by rw [e2]; unfold xcells; rw [List.length_map]
    refine ⟨hl, by omega, hcm, g, _, hg, fun W hW k s hk => ⟨g, 0, rfl, ?_⟩⟩
    obtain ⟨h1, h2⟩ := xcells_at xs k s hk
    rw [Nat.zero_add, cell_of_row W g _ _ _ _ hW, cell_of_row W g _ _ _ _ hW]
    rw [← htake, List.getElem?_take] at h1 h2
    split at h1
    · split at h2
      · exact ⟨by simpa using h1, by simpa using h2⟩
      · cases h2
    · cases h1

/-- Two strings compared, as the machine compares them. -/
theorem same_str (a b : ByteArray) : (a.toList == b.toList) = decide (a = b) := by
  rw [Bool.eq_iff_iff, beq_iff_eq, decide_eq_true_iff, ByteArray.toList_eq, ByteArray.toList_eq]
  constructor
  · intro h
    exact ByteArray.ext (Array.ext' h)
  · rintro rfl; rfl
/-- Does a proof show an entry. -/
def verB (root : ByteArray) (n i : Nat) (s : ByteArray) (pr : List ByteArray) : Bool := decide (valueL leafS nodeS s pr.reverse n i = some root)
/-- The value at the way's foot, carried up. -/
def WayI (s : ByteArray) (pr : List ByteArray) (n i : Nat) (ws : List (ByteArray × Bool)) (ps : List ByteArray) (n' i' : Nat) : Prop :=
  valueL leafS nodeS s pr.reverse n i = (valueL leafS nodeS s ps.reverse n' i').map fun v => ws.foldr sideS v
theorem WayI.start (s : ByteArray) (pr : List ByteArray) (n i : Nat) : WayI s pr n i [] pr n i := by
  unfold WayI
  cases valueL leafS nodeS s pr.reverse n i <;> rfl
theorem WayI.step {s : ByteArray} {pr : List ByteArray} {n i : Nat} {ws : List (ByteArray × Bool)} {ps : List ByteArray} {x : ByteArray} {n' i' : Nat} (h : WayI s pr n i ws (ps ++ [x]) n' i') (hn : 1 < n') :
    (leftN n' ≤ i' → WayI s pr n i (ws ++ [(x, true)]) ps (n' - leftN n') (i' - leftN n')) ∧ (i' < leftN n' → WayI s pr n i (ws ++ [(x, false)]) ps (leftN n') i') := by
  unfold WayI at *
  rw [List.reverse_append, List.reverse_singleton, List.singleton_append, valueL, if_neg (by omega)] at h
  refine ⟨fun h1 => ?_, fun h1 => ?_⟩
  · rw [if_neg (by omega)] at h
    rw [h, Option.map_map]
    congr 1
    funext v
    simp [sideS]
  · rw [if_pos h1] at h
    rw [h, Option.map_map]
    congr 1
    funext v
    simp [sideS]
theorem WayI.short {s : ByteArray} {pr : List ByteArray} {n i : Nat} {ws : List (ByteArray × Bool)} {n' i' : Nat} (h : WayI s pr n i ws [] n' i') (hn : 1 < n') (root : ByteArray) : verB root n i s pr = false := by
  unfold WayI at h
  rw [List.reverse_nil, valueL, if_neg (by omega)] at h
  unfold verB
  rw [h]
  simp
theorem WayI.long {s : ByteArray} {pr : List ByteArray} {n i : Nat} {ws : List (ByteArray × Bool)} {ps : List ByteArray} {n' i' : Nat} (h : WayI s pr n i ws ps n' i') (hn : n' ≤ 1) (hp : ps ≠ []) (root : ByteArray) : verB root n i s pr = false := by
  unfold WayI at h
  rcases List.eq_nil_or_concat ps with rfl | ⟨ps', x, rfl⟩
  · exact absurd rfl hp
  rw [List.concat_eq_append, List.reverse_append, List.reverse_singleton, List.singleton_append, valueL, if_pos hn] at h
  unfold verB
  rw [h]
  simp
theorem WayI.done {s : ByteArray} {pr : List ByteArray} {n i : Nat} {ws : List (ByteArray × Bool)} {n' i' : Nat} (h : WayI s pr n i ws [] n' i') (hn : n' ≤ 1) (root : ByteArray) : verB root n i s pr = decide (ws.foldr sideS (leafS s) = root) := by
  unfold WayI at h
  rw [List.reverse_nil, valueL, if_pos hn] at h
  unfold verB
  rw [h]
  simp
/-- What is reckoned from the foot up. -/
def upF (last : ByteArray) (xs : List DgX) : ByteArray := xs.foldl (fun out x => sideS x.1.2 out) last
theorem upF_snoc (last : ByteArray) (xs : List DgX) (x : DgX) : upF last (xs ++ [x]) = sideS x.1.2 (upF last xs) := by simp [upF]
theorem sideS_size (x : ByteArray × Bool) (p : ByteArray) : (sideS x p).size = 32 := by
  unfold sideS
  split <;> exact nodeS_size _ _
theorem upF_size (last : ByteArray) (h : last.size = 32) (xs : List DgX) : (upF last xs).size = 32 := by
  rcases List.eq_nil_or_concat xs with rfl | ⟨ys, y, rfl⟩
  · exact h
  · rw [List.concat_eq_append, upF_snoc]; exact sideS_size _ _
theorem upF_all (last : ByteArray) (xs : List DgX) (ws : List (ByteArray × Bool)) (h : xs.map (fun x => x.1.2) = ws.reverse) : upF last xs = ws.foldr sideS last := by
  rw [← List.foldl_reverse, ← h, List.foldl_map]
  rfl
end Go.Proofs.YtinfpbkbnhcifaaGreatDoor
