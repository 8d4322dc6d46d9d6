/- The law's spoiled: some list of strings. The conditions: what the slice reads as, lengths. -/
import Derived.Test.YtinfpbkbnhcifaaGreatDoorQ22
import Derived.Test.YtinfpbkbnhcifaaGreatDoorQ21
namespace Go.Proofs.YtinfpbkbnhcifaaGreatDoor
open Go.RowKit Go.BigFrame

theorem OwnS.lit0 (w : World) {base : Nat} (hb : base ≤ w.heap.size) : OwnS (w.alloc (.cells #[] 9)) base (.slice (some ⟨w.heap.size, 0, none⟩) 0 0) [] := World.ownsRow_lit w #[] 0 hb (by decide) rfl
/-- The beginning of an owned row, as an owned row. -/
theorem OwnS.front {w : World} {base : Nat} {a : Option Addr} {n c : Nat} {xs : List ByteArray} (h : OwnS w base (.slice a n c) xs) (k : Nat) (hk : k ≤ n) (ha : a ≠ none) : OwnS w base (.slice a k c) (xs.take k) := by
  obtain ⟨h1, h2⟩ := h
  rw [scells_len] at h2 h1
  unfold OwnS OwnE
  rcases h2 with ⟨h3, _⟩ | ⟨g, cap, cur, h3, h4, h5, h6, h7, h8, h9⟩
  · injection h3 with e1
    exact absurd e1 ha
  · injection h3 with e1 e2 e3
    subst e1 e2 e3
    rw [scells_len, scells_flat]
    refine ⟨by simp, .inr ⟨g, c, cur, ?_, h4, h5, by rw [List.length_take]; omega, h7, h8, ?_⟩⟩
    · rw [List.length_take, Nat.min_eq_left hk]
    · rw [List.length_take, Nat.min_eq_left hk, Nat.mul_one]
      rw [scells_flat, Nat.mul_one] at h9
      rw [List.map_take, ← h9, List.take_take, Nat.min_eq_left hk]
theorem OwnS.set {w : World} {base g n c : Nat} {xs : List ByteArray} (h : OwnS w base (.slice (some ⟨g, 0, none⟩) n c) xs) (k : Nat) (x : ByteArray) :
    OwnS (w.setCell ⟨g, k, none⟩ (.string x)) base (.slice (some ⟨g, 0, none⟩) n c) (xs.set k x) ∧ w.grownBy (w.setCell ⟨g, k, none⟩ (.string x)) (some g) := by
  have hn : (scells xs).length = n := by
    rcases h.2 with ⟨h1, _⟩ | ⟨g', cap, cur, h1, _⟩
    · injection h1 with e; cases e
    · injection h1 with _ e _; exact e.symm
  unfold OwnS OwnE at h ⊢
  rw [hn] at h
  obtain ⟨a, b⟩ := World.ownsRow.stored h k (.string x)
  refine ⟨?_, b⟩
  rw [scells_len, List.length_set, ← scells_len xs, hn, scells_flat, List.map_set]
  rw [scells_flat] at a
  exact a
theorem OwnS.head {w : World} {base g og n c : Nat} {xs : List ByteArray} (h : OwnS w base (.slice (some ⟨g, og, none⟩) n c) xs) : og = 0 := by
  rcases h.2 with ⟨h1, _⟩ | ⟨g', cap, cur, h1, _⟩
  · injection h1 with e; cases e
  · injection h1 with e; cases e; rfl
theorem OwnS.unfrozen {w : World} {base g n c : Nat} {xs : List ByteArray} (h : OwnS w base (.slice (some ⟨g, 0, none⟩) n c) xs) (k : Nat) : w.frozen? ⟨g, k, none⟩ = false := by
  rcases h.2 with ⟨h1, _⟩ | ⟨g', cap, cur, h1, _, hg, _⟩
  · injection h1 with e; cases e
  · injection h1 with e
    cases e
    simp [World.frozen?, hg]
section
variable {ops : Array Oper} {rest : List Oper} {o : Oper} {a : Act} {w : World} {Q : Exit → Act → World → Prop}
theorem wpList_append_cut (hgd : o.guard = none) (s x : Operand) (base : Nat) (v : Value) (xs ys : List ByteArray) (b off m cap : Nat) (hm : m = ys.length) (hown : OwnS w base v xs) (hc : ∀ (j : Nat) (y : ByteArray), ys[j]? = some y → w.cell? ⟨b, off + j, none⟩ = some (.string y)) (hlen : xs.length + ys.length ≤ 1000000) (hbase : base ≤ w.heap.size)
    (ho : o.op = .call { callee := .builtin .append, args := #[s, x], argTypes := #[24, 24] }) (hs : a.eval s = v) (hx : a.eval x = .slice (some ⟨b, off, none⟩) m cap)
    (h : ∀ v' w', OwnS w' base v' (xs ++ ys) → w.grownBy w' v.ownBlock → wpList Tryz.prog ops Q rest (a.put o.dst v') w') : wpList Tryz.prog ops Q (o :: rest) a w := by
  subst hm
  obtain ⟨i, i1, i2, i3, i4⟩ := info_parts infoStr
  refine wpList_append_own w hgd s x 24 ho base 9 i _ 1 16 (by kernel_rfl) i1 i2 i3 i4 rfl (by decide) v _ _ hs hown ⟨b, off, none⟩ ys.length cap (scells ys).flatten hx (by rw [scells_flat]; simp) ?_ ?_ (by rw [scells_len]; unfold maxLen; omega) (by rw [scells_len]; omega) hbase ?_
  · intro j u hj
    rw [scells_flat, List.getElem?_map] at hj
    obtain ⟨y, hy, rfl⟩ := Option.map_eq_some_iff.1 hj
    rw [Addr.add_mid]
    exact hc j y hy
  · intro u hu
    rw [scells_flat] at hu
    obtain ⟨y, _, rfl⟩ := List.mem_map.1 hu
    rfl
  · intro v' w' h1 h2 _
    refine h v' w' ?_ h2
    unfold OwnS OwnE
    have e : scells (xs ++ ys) = scells xs ++ scells ys := by unfold scells; rw [List.map_append]
    rw [e, List.length_append, List.flatten_append, scells_len ys]
    exact h1
end
set_option maxHeartbeats 8000000 in
set_option maxRecDepth 100000 in
theorem spoiled_own {w : World} {v : Value} {xs : List ByteArray} (how : Int) (hh : I64 how) (hv : SS w v xs) (hl : xs.length ≤ 1000) (hx : ∀ x ∈ xs, x.size ≤ 1000) :
    Calls Tryz.prog 29 #[v, .int .i64 how] w fun e w' => ∃ (v' : Value) (zs : List ByteArray), e = .returned v' ∧ OwnS w' w.heap.size v' zs ∧ zs.length ≤ xs.length + 1 ∧ (∀ x ∈ zs, x.size ≤ 1000) ∧ Below w.heap.size w w' := by
  obtain ⟨a, c, rfl, l1, l2, l3⟩ := hv.opened
  have HP3 := Lib.hid (fun W => lpick_any how 3 W hh (by omega) (by omega))
  obtain ⟨p0, p1⟩ := pickI_range how (n := 3) (by omega)
  generalize pickI how 3 = p3 at *
  have HSM := Lib.hid (fun W => r2sum_any ⟨#[109, 111, 114, 101]⟩ W (by decide))
  have hms : (sumS ⟨#[109, 111, 114, 101]⟩).size = 32 := sumS_size _
  generalize sumS ⟨#[109, 111, 114, 101]⟩ = SM at *
  have HO0 := Lib.hid (OwnS.lit0 w (Nat.le_refl _))
  have HB0 := Lib.hid ((Below.refl _ w).alloc (Nat.le_refl _) (.cells #[] 9))
  by_cases hn0 : xs.length = 0
  · have hx0 : xs = [] := List.eq_nil_of_length_eq_zero hn0
    subst hx0
    show Calls _ _ #[.slice a 0 c, .int .i64 how] w _
    have HOA : Hid (∀ W b, OwnS W w.heap.size (.slice (some ⟨b, 0, none⟩) 0 0) [] → w.heap.size ≤ W.heap.size → OwnS W w.heap.size (.slice (some ⟨b, 0, none⟩) 0 0) []) := Lib.hid (fun W b h _ => h)
    clear l3 hv hn0
    iterate 1
      go_enter Tryz.func29, Tryz.ntmps29
      go_upto_region 3 with (at_builtin; refine wpList_append_none rfl _ _ w.heap.size (.slice (some ⟨w.heap.size, 0, none⟩) 0 0) [] HO0.out a c rfl rfl rfl ?_)
      have HBd : Hid (Below w.heap.size w ((w.alloc (.cells #[] 9)))) := HB0
      generalize w.alloc (.cells #[] 9) = w1 at *
      go_wp2_with (first | (go_at_call 57; refine (HSM.out _).mono ?_; rintro e w2 ⟨rfl, hb⟩; have HO2 := Lib.hid (OwnE.far HO0.out hb (Nat.le_refl _)); have HB2 := Lib.hid (HB0.out.trans (hb.mono HB0.out.size)); have HOA2 := Lib.hid (OwnE.alloc HO2.out (.cells #[.string SM] 9)); have HSA2 := Lib.hid (SS.one (heap_alloc_new w2 (.cells #[.string SM] 9))); have HBA2 := Lib.hid (HB2.out.alloc HB2.out.size (.cells #[.string SM] 9)); clear hb) | (at_builtin; refine wpList_append_strs rfl _ _ w.heap.size _ [] _ (.slice (some ⟨w2.heap.size, 0, none⟩) 1 1) HOA2.out HSA2.out (by simp) (by simp) HBA2.out.size rfl rfl rfl ?_; intro v7 w7 hown7 hgr7; have HO7 := Lib.hid hown7; have HB7 := Lib.hid (HBA2.out.grown hgr7 HBA2.out.size (fun j e => OwnE.ge HOA2.out j e)); clear hown7 hgr7))
      go_ret
      refine ⟨_, _, rfl, HO7.out, by simp, fun x hx => ?_, HB7.out⟩
      simp at hx
      subst hx
      omega
  · obtain ⟨b, off, rfl, hb, _⟩ := l3 0 _ (List.getElem?_eq_getElem (by omega))
    have HV := Lib.hid (hv.below ((Below.refl _ w).alloc (Nat.le_refl _) (.cells #[] 9)))
    have HXS := Lib.hid hx
    obtain ⟨n, hn⟩ : ∃ n, n = xs.length := ⟨_, rfl⟩
    rw [← hn] at HV hn0 hl l1 ⊢
    have HN := Lib.hid hn
    have hnpos : 0 < n := by omega
    clear l3 hv hx hn
    obtain ⟨w1, hw1⟩ : ∃ W, W = w.alloc (.cells #[] 9) := ⟨_, rfl⟩
    rw [← hw1] at HV HO0 HB0
    go_enter Tryz.func29, Tryz.ntmps29
    go_upto_region 2 with (at_builtin; rw [← hw1]; refine wpList_append_strs rfl _ _ w.heap.size (.slice (some ⟨w.heap.size, 0, none⟩) 0 0) [] xs (.slice (some ⟨b, off, none⟩) n c) HO0.out HV.out (by rw [← HN.out]; exact hnpos) (by rw [← HN.out]; simp; omega) HB0.out.size rfl rfl rfl ?_; intro v2 w2 hown2 hgr2; have HO2 : Hid (OwnS w2 w.heap.size v2 xs) := Lib.hid hown2; have HB2 := Lib.hid (HB0.out.grown hgr2 HB0.out.size (fun j e => OwnE.ge HO0.out j e)); clear hown2 hgr2)
    obtain ⟨ga, gc, hg⟩ := OwnE.form HO2.out
    rw [scells_len, ← HN.out] at hg
    subst hg
    obtain ⟨ga', gc', eg, q1, q2, q3⟩ := HO2.out.ss.opened
    obtain ⟨g, og, eg2, hgb, _⟩ := q3 0 _ (List.getElem?_eq_getElem (by rw [← HN.out]; exact hnpos))
    have ega : ga = some ⟨g, og, none⟩ := by injection eg with e1; rw [e1]; exact eg2
    have q1' : n ≤ gc := by injection eg with _ e2 e3; omega
    have HQ3 : Hid (∀ (j : Nat) (y : ByteArray), xs[j]? = some y → w2.cell? ⟨g, og + j, none⟩ = some (.string y)) := Lib.hid (fun j y hy => by
      obtain ⟨g', og', e', _, hc⟩ := q3 j y hy
      rw [eg2] at e'
      cases e'
      exact hc)
    subst ega
    clear hw1 eg eg2 q1 q2 HV HO0 HB0
    have tn : ((n : Int) == 0) = false := by simp; omega
    have tnz : ¬ (n : Int) = 0 := by omega
    by_cases h0 : p3 = 0
    · have tp : (p3 == 0) = true := by simp [h0]
      clear h0 p0 p1
      go_wp2_with (first | (go_at_call 16; (with_reducible refine (HP3.out _).mono ?_); rintro e w3 ⟨rfl, hw3⟩; replace hw3 := hw3.symm; subst hw3) | (go_at_call 57; refine (HSM.out _).mono ?_; rintro e w3 ⟨rfl, hb⟩; have HO3 := Lib.hid (OwnE.far HO2.out hb (Nat.le_refl _)); have HB3 := Lib.hid (HB2.out.trans (hb.mono HB2.out.size)); have HOA2 := Lib.hid (OwnE.alloc HO3.out (.cells #[.string SM] 9)); have HSA2 := Lib.hid (SS.one (heap_alloc_new w3 (.cells #[.string SM] 9))); have HBA2 := Lib.hid (HB3.out.alloc HB3.out.size (.cells #[.string SM] 9)); clear hb) | (at_builtin; refine wpList_append_strs rfl _ _ w.heap.size _ xs _ (.slice (some ⟨w3.heap.size, 0, none⟩) 1 1) HOA2.out HSA2.out (by simp) (by rw [← HN.out]; simp; omega) HBA2.out.size rfl rfl rfl ?_; intro v7 w7 hown7 hgr7; have HO7 := Lib.hid hown7; have HB7 := Lib.hid (HBA2.out.grown hgr7 HBA2.out.size (fun j e => OwnE.ge HOA2.out j e)); clear hown7 hgr7))
      go_ret
      refine ⟨_, _, rfl, HO7.out, by rw [List.length_append, ← HN.out]; simp, fun x hx => ?_, HB7.out⟩
      rcases List.mem_append.1 hx with hx | hx
      · exact HXS.out x hx
      · simp at hx
        subst hx
        omega
    · have tp : (p3 == 0) = false := by simp [h0]
      have hq3 : I64 (how.tdiv 3) := by
        obtain ⟨a, b⟩ := hh
        have h3 : (how.tdiv 3).natAbs = how.natAbs / 3 := by rw [Int.natAbs_tdiv]; rfl
        unfold I64
        omega
      have fq : IntKind.i64.wrap (how.tdiv 3) = how.tdiv 3 := IntWalk.i64_in _ (by obtain ⟨a, b⟩ := hq3; omega)
      obtain ⟨k0, k1⟩ := pickI_range (how.tdiv 3) (n := (n : Int)) (by omega)
      have HPK := Lib.hid (fun W => lpick_any (how.tdiv 3) n W hq3 (by omega) (by omega))
      obtain ⟨k, hk⟩ := Int.eq_ofNat_of_zero_le k0
      rw [hk] at HPK k1
      have hkn : k < n := by omega
      clear hk k0
      by_cases h1 : p3 = 1
      · have tp1 : (p3 == 1) = true := by simp [h1]
        clear h0 h1 p0 p1
        have f1 : IntKind.i64.wrap ((k : Int) + 1) = ((k + 1 : Nat) : Int) := by rw [IntWalk.i64_in _ (by omega)]; omega
        go_upto_region 6 with (first | (go_at_call 16; (with_reducible refine (HP3.out _).mono ?_); rintro e w3 ⟨rfl, hw3⟩; replace hw3 := hw3.symm; subst hw3) | (go_at_call 16; (with_reducible refine (HPK.out _).mono ?_); rintro e w3 ⟨rfl, hw3⟩; replace hw3 := hw3.symm; subst hw3))
        have HPX := Lib.hid (OwnS.front HO2.out k (by omega) (by simp))
        have HCX : Hid (∀ (j : Nat) (y : ByteArray), (xs.drop (k + 1))[j]? = some y → w2.cell? ⟨g, og + (k + 1) + j, none⟩ = some (.string y)) := Lib.hid (fun j y h => by
          rw [List.getElem?_drop] at h
          rw [Nat.add_assoc]
          exact HQ3.out _ y h)
        have HDL : Hid (n - (k + 1) = (xs.drop (k + 1)).length) := Lib.hid (by rw [List.length_drop, HN.out])
        have HLL : Hid ((xs.take k).length + (xs.drop (k + 1)).length ≤ n) := Lib.hid (by rw [List.length_take, List.length_drop, ← HN.out]; omega)
        have HZS : Hid (∀ x ∈ xs.take k ++ xs.drop (k + 1), x.size ≤ 1000) := Lib.hid (fun x hx => by
          rcases List.mem_append.1 hx with hx | hx
          · exact HXS.out x (List.mem_of_mem_take hx)
          · exact HXS.out x (List.mem_of_mem_drop hx))
        generalize xs.take k = X1 at *
        generalize xs.drop (k + 1) = X2 at *
        have hgc : gc = k + 1 → n = k + 1 := fun e => by omega
        have u1 : (k : Int) ≤ (n : Int) := by omega
        have u0 : (0 : Int) ≤ (k : Int) := by omega
        have u2 : ((k + 1 : Nat) : Int) ≤ (n : Int) := by omega
        have u3 : (0 : Int) ≤ ((k + 1 : Nat) : Int) := by omega
        have u4 : k ≤ gc := by omega
        obtain ⟨k1', hk1⟩ : ∃ k1', k1' = k + 1 := ⟨_, rfl⟩
        rw [← hk1] at f1 u2 u3 hgc HCX HDL
        have hk1n : k1' ≤ n := by omega
        have HK1 := Lib.hid hk1
        clear hk1
        by_cases hge : gc = k1'
        · have hnk : n = k1' := hgc hge
          have hX2 : X2 = [] := List.eq_nil_of_length_eq_zero (by have := HDL.out; omega)
          subst hX2
          have HLn : Hid (n - k1' = 0) := Lib.hid (by omega)
          clear hgc
          go_wp2
          refine wp_region_quiet_tail 7 (fun w' => ∃ n, w' = w2.drewN n) (by kernel_rfl) (by kernel_rfl) ⟨1, rfl⟩ ?_
          simp only [List.take_succ_cons, List.take_zero, List.drop_succ_cons, List.drop_zero]
          repeat (go_big_quiet_step (fail))
          refine wpQuiet_nil ?_
          rintro _ ⟨nr, rfl⟩
          rw [hge] at HPX
          have HOA := Lib.hid (OwnE.drewN HPX.out nr)
          have HBA : Hid (Below w.heap.size w (w2.drewN nr)) := Lib.hid (below_drewN HB2.out nr)
          go_wp2_with (at_builtin; refine wpList_append_cut rfl _ _ w.heap.size (.slice (some ⟨g, og, none⟩) k k1') X1 [] g og 0 0 rfl HOA.out (fun j y h => by simp at h) (by have := HLL.out; simp at this ⊢; omega) HBA.out.size rfl rfl rfl ?_; intro v7 w7 hown7 hgr7; have HO7 := Lib.hid hown7; have HB7 := Lib.hid (HBA.out.grown hgr7 HBA.out.size (fun j e => OwnE.ge HOA.out j e)); clear hown7 hgr7)
          go_ret
          exact ⟨_, _, rfl, HO7.out, by have := HLL.out; simp at this ⊢; omega, HZS.out, HB7.out⟩
        · clear hgc
          go_wp2
          refine wp_region_quiet_tail 7 (fun w' => ∃ n, w' = w2.drewN n) (by kernel_rfl) (by kernel_rfl) ⟨1, rfl⟩ ?_
          simp only [List.take_succ_cons, List.take_zero, List.drop_succ_cons, List.drop_zero]
          repeat (go_big_quiet_step (fail))
          refine wpQuiet_nil ?_
          rintro _ ⟨nr, rfl⟩
          have HOA := Lib.hid (OwnE.drewN HPX.out nr)
          have HBA : Hid (Below w.heap.size w (w2.drewN nr)) := Lib.hid (below_drewN HB2.out nr)
          have HCA : Hid (∀ (j : Nat) (y : ByteArray), X2[j]? = some y → (w2.drewN nr).cell? ⟨g, og + k1' + j, none⟩ = some (.string y)) := HCX
          go_wp2_with (at_builtin; refine wpList_append_cut rfl _ _ w.heap.size (.slice (some ⟨g, og, none⟩) k gc) X1 X2 g (og + k1') (n - k1') (gc - k1') HDL.out HOA.out HCA.out (by have := HLL.out; omega) HBA.out.size rfl rfl rfl ?_; intro v7 w7 hown7 hgr7; have HO7 := Lib.hid hown7; have HB7 := Lib.hid (HBA.out.grown hgr7 HBA.out.size (fun j e => OwnE.ge HOA.out j e)); clear hown7 hgr7)
          go_ret
          exact ⟨_, _, rfl, HO7.out, by have := HLL.out; rw [List.length_append]; omega, HZS.out, HB7.out⟩
      · have tp1 : (p3 == 1) = false := by simp [h1]
        clear h0 h1 p0 p1
        obtain ⟨x, ex⟩ : ∃ x, xs[k]? = some x := ⟨_, List.getElem?_eq_getElem (by rw [← HN.out]; exact hkn)⟩
        have hcx := HQ3.out k x ex
        have HSX := Lib.hid (r2sum_any x w2 (by have := HXS.out x (List.mem_of_getElem? ex); omega))
        have hsx : (sumS x).size = 32 := sumS_size x
        obtain ⟨S, hS⟩ : ∃ S, S = sumS x := ⟨_, rfl⟩
        rw [← hS] at HSX hsx
        clear hS
        have u0 : (0 : Int) ≤ (k : Int) := by omega
        have u1 : (k : Int) < (n : Int) := by omega
        have hog := HO2.out.head
        subst hog
        rw [Nat.zero_add] at hcx
        have HF : Hid (∀ y ∈ xs.set k S, y.size ≤ 1000) := Lib.hid (fun y hy => by
          rcases List.mem_or_eq_of_mem_set hy with h | h
          · exact HXS.out y h
          · rw [h]; omega)
        go_wp2_with (first | (go_at_call 16; (with_reducible refine (HP3.out _).mono ?_); rintro e w3 ⟨rfl, hw3⟩; replace hw3 := hw3.symm; subst hw3) | (go_at_call 16; (with_reducible refine (HPK.out _).mono ?_); rintro e w3 ⟨rfl, hw3⟩; replace hw3 := hw3.symm; subst hw3) | (go_at_call 57; refine HSX.out.mono ?_; rintro e w3 ⟨rfl, hb3⟩; have HO3 := Lib.hid (OwnE.far HO2.out hb3 (Nat.le_refl _)); have HB3 := Lib.hid (HB2.out.trans (hb3.mono HB2.out.size)); have hcx3 := cell_keepB hb3 hgb hcx; have hfz3 := OwnS.unfrozen HO3.out k; clear hb3))
        have HS3 := Lib.hid (OwnS.set HO3.out k S)
        go_ret
        refine ⟨_, _, rfl, HS3.out.1, by rw [List.length_set, ← HN.out]; omega, HF.out, HB3.out.grown HS3.out.2 HB3.out.size (fun j e => ?_)⟩
        cases e
        exact OwnE.ge HO3.out g rfl
theorem spoiled_any {w : World} {v : Value} {xs : List ByteArray} (how : Int) (hh : I64 how) (hv : SS w v xs) (hl : xs.length ≤ 1000) (hx : ∀ x ∈ xs, x.size ≤ 1000) :
    Calls Tryz.prog 29 #[v, .int .i64 how] w fun e w' => ∃ (v' : Value) (zs : List ByteArray), e = .returned v' ∧ SS w' v' zs ∧ zs.length ≤ xs.length + 1 ∧ (∀ x ∈ zs, x.size ≤ 1000) ∧ Below w.heap.size w w' :=
  (spoiled_own how hh hv hl hx).mono fun _ _ ⟨v', zs, h1, h2, h3, h4, h5⟩ => ⟨v', zs, h1, h2.ss, h3, h4, h5⟩
end Go.Proofs.YtinfpbkbnhcifaaGreatDoor

/- Plain laws of registers: what the statements ask of parts, heads and proofs. No condition. -/
namespace Go.Proofs.YtinfpbkbnhcifaaGreatDoor

/-! ### Two parts -/
/-- Two parts show different entries at an index. -/
def Differ (xs ys : List ByteArray) (is js : List Nat) : Prop := ∃ t, t ∈ is ∧ t ∈ js ∧ xs.getD t ⟨#[]⟩ ≠ ys.getD t ⟨#[]⟩
theorem Differ.symm {xs ys : List ByteArray} {is js : List Nat} (h : Differ xs ys is js) : Differ ys xs js is := by
  obtain ⟨t, h1, h2, h3⟩ := h
  exact ⟨t, h2, h1, h3.symm⟩
/-! ### What a part under the head of a register shows -/
/-! ### Growth -/
/-! ### Heads -/
/-! ### The register like another one -/
theorem other_valid {car : Int} {xs : List ByteArray} (at' : Int) (y : List Int) (hc : 0 ≤ car ∧ car ≤ 7) (hl : xs.length ≤ 12) (hs : ∀ s ∈ xs, s.size ≤ 2) : validB ⟨car, otherL xs at' y⟩ = true ∧ (otherL xs at' y).length ≤ 12 ∧ ∀ s ∈ otherL xs at' y, s.size ≤ 2 := by
  have hp := pickI_range at' (n := (xs.length : Int) + 1) (by omega)
  have h1 : (otherL xs at' y).length ≤ 12 := by
    unfold otherL
    simp only [List.length_append, List.length_take, List.length_map]
    omega
  have h2 : ∀ s ∈ otherL xs at' y, s.size ≤ 2 := by
    intro s h
    unfold otherL at h
    rcases List.mem_append.1 h with h | h
    · exact hs s (List.mem_of_mem_take h)
    · obtain ⟨n, _, rfl⟩ := List.mem_map.1 h
      exact entryS_size n
  refine ⟨?_, h1, h2⟩
  unfold validB
  apply decide_eq_true
  exact ⟨hc.1, hc.2, by show (otherL xs at' y).length ≤ 60; omega, fun s h => by have := h2 s h; omega⟩
end Go.Proofs.YtinfpbkbnhcifaaGreatDoor
