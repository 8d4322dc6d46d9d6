/- The reference's Walked: the strings whose digests are reckoned when a proof is checked. The conditions: what the slice reads as, lengths. -/
import Derived.Test.YtinfpbkbnhcifaaGreatDoorQRS6
namespace Go.Proofs.YtinfpbkbnhcifaaGreatDoor
open Go.RowKit Go.BigFrame

theorem walked_base (s : ByteArray) (r : List ByteArray) (n i : Nat) (h : n ≤ 1 ∨ r = []) : walkedS s r n i = ([markL s], leafS s) := by
  cases r with
  | nil => rfl
  | cons x r =>
    rw [walkedS, if_pos]
    rcases h with h | h
    · exact h
    · cases h
theorem walked_less (s x : ByteArray) (r : List ByteArray) (n i : Nat) (h2 : 2 ≤ n) (h : i < leftN n) : walkedS s (x :: r) n i = ((walkedS s r (leftN n) i).1 ++ [markN (walkedS s r (leftN n) i).2 x], nodeS (walkedS s r (leftN n) i).2 x) := by
  rw [walkedS, if_neg (by omega), if_pos h]
theorem walked_more (s x : ByteArray) (r : List ByteArray) (n i : Nat) (h2 : 2 ≤ n) (h : ¬ i < leftN n) : walkedS s (x :: r) n i = ((walkedS s r (n - leftN n) (i - leftN n)).1 ++ [markN x (walkedS s r (n - leftN n) (i - leftN n)).2], nodeS x (walkedS s r (n - leftN n) (i - leftN n)).2) := by
  rw [walkedS, if_neg (by omega), if_neg h]
theorem walked_len (s : ByteArray) (r : List ByteArray) : ∀ n i, (walkedS s r n i).1.length ≤ r.length + 1 := by
  induction r with
  | nil => intro n i; rw [walked_base s [] n i (.inr rfl)]; simp
  | cons x r ih =>
    intro n i
    rcases Nat.lt_or_ge n 2 with h | h
    · rw [walked_base s (x :: r) n i (.inl (by omega))]; simp
    · by_cases hi : i < leftN n
      · rw [walked_less s x r n i h hi]
        have := ih (leftN n) i
        simp only [List.length_append, List.length_cons, List.length_nil]; omega
      · rw [walked_more s x r n i h hi]
        have := ih (n - leftN n) (i - leftN n)
        simp only [List.length_append, List.length_cons, List.length_nil]; omega

set_option maxHeartbeats 8000000 in
set_option maxRecDepth 100000 in
theorem rwalked_any (N : Nat) : ∀ {w : World} {v : Value} {pr : List ByteArray} (n i : Nat) (s : ByteArray), pr.length = N → SS w v pr → n ≤ 1000 → i ≤ 100000 → s.size ≤ 100000 → (∀ x ∈ pr, x.size ≤ 1000) → N ≤ 1000 →
    Calls Tryz.prog 30 #[.int .i64 n, .int .i64 i, .string s, v] w fun e w' => ∃ v', e = .returned (.tuple #[v', .string (walkedS s pr.reverse n i).2]) ∧ OwnS w' w.heap.size v' (walkedS s pr.reverse n i).1 ∧ Below w.heap.size w w' := by
  induction N with
  | zero =>
    intro w v pr n i s hl hv hn hi hs hp hN
    have hp0 : pr = [] := List.eq_nil_of_length_eq_zero hl
    subst hp0
    obtain ⟨a, c, rfl, _, _, _⟩ := hv.opened
    rw [List.reverse_nil, walked_base s _ n i (.inr rfl)]
    have HLf := Lib.hid (fun W => r2leaf_any s W (by omega))
    generalize leafS s = R at *
    have hz := mark_size 0 s
    show Calls _ _ #[.int .i64 n, .int .i64 i, .string s, .slice a 0 c] w fun e w' => ∃ v', e = .returned (.tuple #[v', .string R]) ∧ OwnS w' w.heap.size v' [⟨#[0]⟩ ++ s] ∧ Below w.heap.size w w'
    have HO0 := Lib.hid (OwnS.lit1 w (⟨#[0]⟩ ++ s) (Nat.le_refl _))
    have HB0 := Lib.hid ((Below.refl _ w).alloc (Nat.le_refl _) (.cells #[.string (⟨#[0]⟩ ++ s)] 9))
    by_cases h1 : n ≤ 1
    · have t1 : (n : Int) ≤ 1 := by omega
      go_enter Tryz.func30, Tryz.ntmps30
      go_wp2_with (go_at_call 38; refine (HLf.out _).mono ?_; rintro e w1 ⟨rfl, hb⟩; have HO1 := Lib.hid (OwnE.far HO0.out hb (Nat.le_refl _)); have HB1 := Lib.hid (HB0.out.trans (hb.mono HB0.out.size)); clear hb)
      go_ret2
      exact ⟨_, rfl, HO1.out, HB1.out⟩
    · have t1 : ¬ (n : Int) ≤ 1 := by omega
      go_enter Tryz.func30, Tryz.ntmps30
      go_wp2_with (go_at_call 38; refine (HLf.out _).mono ?_; rintro e w1 ⟨rfl, hb⟩; have HO1 := Lib.hid (OwnE.far HO0.out hb (Nat.le_refl _)); have HB1 := Lib.hid (HB0.out.trans (hb.mono HB0.out.size)); clear hb)
      go_ret2
      exact ⟨_, rfl, HO1.out, HB1.out⟩
  | succ N ih =>
    intro w v pr n i s hl hv hn hi hs hp hN
    obtain ⟨a, c, rfl, l1, l2, l3⟩ := hv.opened
    obtain ⟨M, hM⟩ : ∃ M, M = N + 1 := ⟨_, rfl⟩
    rw [← hM] at hl hN
    rw [hl] at hv l1 ⊢
    unfold maxLen at l2
    rcases Nat.lt_or_ge n 2 with h2 | h2
    · rw [walked_base s _ n i (.inl (by omega))]
      have HLf := Lib.hid (fun W => r2leaf_any s W (by omega))
      generalize leafS s = R at *
      have hz := mark_size 0 s
      show Calls _ _ #[.int .i64 n, .int .i64 i, .string s, .slice a M c] w fun e w' => ∃ v', e = .returned (.tuple #[v', .string R]) ∧ OwnS w' w.heap.size v' [⟨#[0]⟩ ++ s] ∧ Below w.heap.size w w'
      have HO0 := Lib.hid (OwnS.lit1 w (⟨#[0]⟩ ++ s) (Nat.le_refl _))
      have HB0 := Lib.hid ((Below.refl _ w).alloc (Nat.le_refl _) (.cells #[.string (⟨#[0]⟩ ++ s)] 9))
      have t1 : (n : Int) ≤ 1 := by omega
      clear l3 hv ih
      go_enter Tryz.func30, Tryz.ntmps30
      go_wp2_with (go_at_call 38; refine (HLf.out _).mono ?_; rintro e w1 ⟨rfl, hb⟩; have HO1 := Lib.hid (OwnE.far HO0.out hb (Nat.le_refl _)); have HB1 := Lib.hid (HB0.out.trans (hb.mono HB0.out.size)); clear hb)
      go_ret2
      exact ⟨_, rfl, HO1.out, HB1.out⟩
    · obtain ⟨x, ex⟩ : ∃ x, pr[N]? = some x := ⟨_, List.getElem?_eq_getElem (by omega)⟩
      obtain ⟨b, off, rfl, hb, c0⟩ := l3 N x ex
      have hrev : pr.reverse = x :: (pr.take N).reverse := by
        have e : pr = pr.take N ++ [x] := by
          have h1 := List.take_add_one (l := pr) (i := N)
          rw [ex, ← hM, ← hl, List.take_length] at h1
          exact h1
        rw [e, List.reverse_append]
        rw [← e]
        rfl
      rw [hrev]
      clear hrev
      have hxs := hp x (List.mem_of_getElem? ex)
      have HLf := Lib.hid (r2left_any n h2 (by omega) w)
      have h3 := leftN_lt h2
      have h4 := leftN_pos n
      have hv' : SS w (.slice (some ⟨b, off, none⟩) N c) (pr.take N) := hv.cut N (by omega)
      have hpt : ∀ x ∈ pr.take N, x.size ≤ 1000 := fun x hx => hp x (List.mem_of_mem_take hx)
      have hlt : (pr.take N).length = N := by rw [List.length_take]; omega
      have f1 : IntKind.i64.wrap ((M : Int) - 1) = (N : Int) := by rw [IntWalk.i64_in _ (by omega)]; omega
      have t1 : ¬ (n : Int) ≤ 1 := by omega
      have t2 : ((M : Int) == 0) = false := by simp; omega
      have u1 : (N : Int) ≤ (M : Int) := by omega
      have u0 : (0 : Int) ≤ (N : Int) := by omega
      have u2 : N ≤ c := by omega
      have u3 : (N : Int) < (M : Int) := by omega
      have hN1 : N ≤ 999 := by omega
      have e1 : ¬ 9223372036854775807 < 1 + x.size := by omega
      have e2 : ¬ 9223372036854775807 < 33 + x.size := by omega
      have e3 : ¬ 9223372036854775807 < 1 + x.size + 32 := by omega
      have e4 : ¬ 9223372036854775807 < x.size + 1 + 32 := by omega
      clear hM
      by_cases hik : i < leftN n
      · rw [walked_less s x _ n i h2 hik]
        have HW := Lib.hid (fun W (hW : Below w.heap.size w W) => ih (leftN n) i s hlt (hv'.below hW) (by omega) (by omega) hs hpt (by omega))
        have hz := walked_size s (pr.take N).reverse (leftN n) i
        have hll := walked_len s (pr.take N).reverse (leftN n) i
        rw [List.length_reverse, hlt] at hll
        generalize (walkedS s (pr.take N).reverse (leftN n) i).1 = X at *
        generalize (walkedS s (pr.take N).reverse (leftN n) i).2 = V at *
        have HN := Lib.hid (fun W => r2node_any V x W (by omega) (by omega))
        have hmk : markN V x = ((⟨#[1]⟩ : ByteArray) ++ V) ++ x := ByteArray.append_assoc.symm
        rw [hmk]
        clear hmk
        have hzm := mark_size 1 V
        generalize nodeS V x = R at *
        obtain ⟨k, hk⟩ : ∃ k, k = leftN n := ⟨_, rfl⟩
        rw [← hk] at hik h3 h4 HLf HW
        have tik :  (i : Int) < (k : Int) := by omega
        clear hv hv' l3 ih hk hpt hp hl ex
        have C0 := Lib.hid c0
        go_enter Tryz.func30, Tryz.ntmps30
        go_upto_region 7 with (first | (go_at_call 70; refine HLf.out.mono ?_; rintro e w1 ⟨rfl, hw1⟩; replace hw1 := hw1.symm; subst hw1) | (go_at_call 30; refine (HW.out _ (Below.refl _ _)).mono ?_; rintro e w2 ⟨v2, rfl, ho2, hb2⟩; have HO2 := Lib.hid ho2; have HB2 := Lib.hid hb2; clear ho2 hb2))
        have HBd : Hid (Below w.heap.size w w2.drew) := Lib.hid (below_drewN HB2.out 1)
        have HO2 : Hid (OwnS w2.drew w.heap.size v2 X) := Lib.hid (OwnE.drewN HO2.out 1)
        have s0 := cell_keepB HBd.out hb C0.out
        have HOA := Lib.hid (OwnE.alloc HO2.out (.cells #[.string (((⟨#[1]⟩ : ByteArray) ++ V) ++ x)] 9))
        have HSA := Lib.hid (SS.one (heap_alloc_new w2.drew (.cells #[.string (((⟨#[1]⟩ : ByteArray) ++ V) ++ x)] 9)))
        have HBA := Lib.hid (HBd.out.alloc HBd.out.size (.cells #[.string (((⟨#[1]⟩ : ByteArray) ++ V) ++ x)] 9))
        have s1 := cell_keepB HBA.out hb C0.out
        refine wp_region_noPanic ?_
        refine wp_region_lexO [8, 9, 15] [0, 1, 2, 3, 4, 5, 6, 7, 10, 11, 12, 13, 14, 8, 9, 15, 16, 17] (fun w' => w'.cell? ⟨b, off + N, none⟩ = some (.string x)) (by kernel_rfl) (by kernel_rfl) rfl (fun _ _ _ _ _ h => h) s0 ?_
        refine wpLexO_takeL (v := ?_) rfl (by rfl) (Or.inl ⟨by rfl, ?_⟩) ?_
        rotate_left
        · intro w hSw; (try dsimp only at hSw); go_simp; try with_reducible rfl
        simp only [Act.put, List.setIfInBounds_toArray, List.set_cons_zero, List.set_cons_succ]
        refine wpLexO_takeL (v := ?_) rfl (by rfl) (Or.inl ⟨by rfl, ?_⟩) ?_
        rotate_left
        · intro w hSw; (try dsimp only at hSw); go_simp; try with_reducible rfl
        simp only [Act.put, List.setIfInBounds_toArray, List.set_cons_zero, List.set_cons_succ]
        refine wpLexO_takeL (v := ?_) rfl (by rfl) (Or.inl ⟨by rfl, ?_⟩) ?_
        rotate_left
        · intro w hSw; (try dsimp only at hSw); go_simp; try with_reducible rfl
        simp only [Act.put, List.setIfInBounds_toArray, List.set_cons_zero, List.set_cons_succ]
        refine wpLexO_takeL (v := ?_) rfl (by rfl) (Or.inl ⟨by rfl, ?_⟩) ?_
        rotate_left
        · intro w hSw; (try dsimp only at hSw); go_simp; try with_reducible rfl
        simp only [Act.put, List.setIfInBounds_toArray, List.set_cons_zero, List.set_cons_succ]
        refine wpLexO_takeL (v := ?_) rfl (by rfl) (Or.inl ⟨by rfl, ?_⟩) ?_
        rotate_left
        · intro w hSw; (try dsimp only at hSw); go_simp; try with_reducible rfl
        simp only [Act.put, List.setIfInBounds_toArray, List.set_cons_zero, List.set_cons_succ]
        refine wpLexO_takeL (v := ?_) rfl (by rfl) (Or.inl ⟨by rfl, ?_⟩) ?_
        rotate_left
        · intro w hSw; (try dsimp only at hSw); go_simp; try with_reducible rfl
        simp only [Act.put, List.setIfInBounds_toArray, List.set_cons_zero, List.set_cons_succ]
        refine wpLexO_takeL (v := ?_) rfl (by rfl) (Or.inl ⟨by rfl, ?_⟩) ?_
        rotate_left
        · intro w hSw; (try dsimp only at hSw); go_simp; try with_reducible rfl
        simp only [Act.put, List.setIfInBounds_toArray, List.set_cons_zero, List.set_cons_succ]
        refine wpLexO_takeL (v := ?_) rfl (by rfl) (Or.inl ⟨by rfl, ?_⟩) ?_
        rotate_left
        · intro w hSw; (try dsimp only at hSw); go_simp; try with_reducible rfl
        simp only [Act.put, List.setIfInBounds_toArray, List.set_cons_zero, List.set_cons_succ]
        refine wpLexO_takeL (v := ?_) rfl (by rfl) (Or.inl ⟨by rfl, ?_⟩) ?_
        rotate_left
        · intro w hSw; (try dsimp only at hSw); go_simp; try with_reducible rfl
        simp only [Act.put, List.setIfInBounds_toArray, List.set_cons_zero, List.set_cons_succ]
        refine wpLexO_takeL (v := ?_) rfl (by rfl) (Or.inl ⟨by rfl, ?_⟩) ?_
        rotate_left
        · intro w hSw; (try dsimp only at hSw); go_simp; try with_reducible rfl
        simp only [Act.put, List.setIfInBounds_toArray, List.set_cons_zero, List.set_cons_succ]
        refine wpLexO_takeL (v := ?_) rfl (by rfl) (Or.inl ⟨by rfl, ?_⟩) ?_
        rotate_left
        · intro w hSw; (try dsimp only at hSw); go_simp; try with_reducible rfl
        simp only [Act.put, List.setIfInBounds_toArray, List.set_cons_zero, List.set_cons_succ]
        refine wpLexO_takeL (v := ?_) rfl (by rfl) (Or.inl ⟨by rfl, ?_⟩) ?_
        rotate_left
        · intro w hSw; (try dsimp only at hSw); go_simp; try with_reducible rfl
        simp only [Act.put, List.setIfInBounds_toArray, List.set_cons_zero, List.set_cons_succ]
        refine wpLexO_takeL (v := ?_) rfl (by rfl) (Or.inl ⟨by rfl, ?_⟩) ?_
        rotate_left
        · intro w hSw; (try dsimp only at hSw); go_simp; try with_reducible rfl
        simp only [Act.put, List.setIfInBounds_toArray, List.set_cons_zero, List.set_cons_succ]
        refine wpLexO_bigL rfl (by rfl) (fun K hK => ?_)
        go_simp
        refine hK.out _ _ s1 (fun _ => ?_)
        clear hK K
        refine wpLexO_bigL rfl (by rfl) (fun K hK => ?_)
        refine step_append_strs rfl _ _ w.heap.size v2 X _ (.slice (some ⟨w2.heap.size, 0, none⟩) 1 1) HOA.out HSA.out (by simp) (by simp; omega) HBA.out.size rfl rfl rfl ?_
        intro v7 w7 hown7 hgr7
        have HO7 := Lib.hid hown7
        have HB7 := Lib.hid (HBA.out.grown hgr7 HBA.out.size (fun j e => OwnE.ge HOA.out j e))
        have s7 := cell_keepB HB7.out hb C0.out
        clear hown7 hgr7
        refine hK.out _ _ s7 (fun _ => ?_)
        clear hK K
        refine wpLexO_bigL rfl (by rfl) (fun K hK => ?_)
        go_simp
        go_at_call 71
        with_reducible refine (HN.out _).mono ?_
        rintro e w8 ⟨rfl, hb8⟩
        have HB8 := Lib.hid (HB7.out.trans (hb8.mono HB7.out.size))
        have HO8 := Lib.hid (OwnE.far HO7.out hb8 (Nat.le_refl _))
        have s8 := cell_keepB HB8.out hb C0.out
        clear hb8
        refine hK.out _ _ s8 (fun _ => ?_)
        clear hK K
        refine wpLexO_takeL (v := ?_) rfl (by rfl) (Or.inl ⟨by rfl, ?_⟩) ?_
        rotate_left
        · intro w hSw; (try dsimp only at hSw); go_simp; try with_reducible rfl
        simp only [Act.put, List.setIfInBounds_toArray, List.set_cons_zero, List.set_cons_succ]
        refine wpLexO_takeL (v := ?_) rfl (by rfl) (Or.inl ⟨by rfl, ?_⟩) ?_
        rotate_left
        · intro w hSw; (try dsimp only at hSw); go_simp; try with_reducible rfl
        simp only [Act.put, List.setIfInBounds_toArray, List.set_cons_zero, List.set_cons_succ]
        refine wpLexO_nil ?_
        refine NoPanic.normal ?_
        go_wp2
        go_ret2
        exact ⟨_, rfl, HO8.out, HB8.out⟩
      · rw [walked_more s x _ n i h2 hik]
        have HW := Lib.hid (fun W (hW : Below w.heap.size w W) => ih (n - leftN n) (i - leftN n) s hlt (hv'.below hW) (by omega) (by omega) hs hpt (by omega))
        have hz := walked_size s (pr.take N).reverse (n - leftN n) (i - leftN n)
        have hll := walked_len s (pr.take N).reverse (n - leftN n) (i - leftN n)
        rw [List.length_reverse, hlt] at hll
        generalize (walkedS s (pr.take N).reverse (n - leftN n) (i - leftN n)).1 = X at *
        generalize (walkedS s (pr.take N).reverse (n - leftN n) (i - leftN n)).2 = V at *
        have HN := Lib.hid (fun W => r2node_any x V W (by omega) (by omega))
        have hmk : markN x V = ((⟨#[1]⟩ : ByteArray) ++ x) ++ V := ByteArray.append_assoc.symm
        rw [hmk]
        clear hmk
        have hzm := mark_size 1 x
        generalize nodeS x V = R at *
        obtain ⟨k, hk⟩ : ∃ k, k = leftN n := ⟨_, rfl⟩
        rw [← hk] at hik h3 h4 HLf HW
        have tik : ¬ (i : Int) < (k : Int) := by omega
        have g1 : IntKind.i64.wrap ((n : Int) - (k : Int)) = ((n - k : Nat) : Int) := by rw [IntWalk.i64_in _ (by omega)]; omega
        have g2 : IntKind.i64.wrap ((i : Int) - (k : Int)) = ((i - k : Nat) : Int) := by rw [IntWalk.i64_in _ (by omega)]; omega
        clear hv hv' l3 ih hk hpt hp hl ex
        have C0 := Lib.hid c0
        go_enter Tryz.func30, Tryz.ntmps30
        go_upto_region 9 with (first | (go_at_call 70; refine HLf.out.mono ?_; rintro e w1 ⟨rfl, hw1⟩; replace hw1 := hw1.symm; subst hw1) | (go_at_call 30; refine (HW.out _ (Below.refl _ _)).mono ?_; rintro e w2 ⟨v2, rfl, ho2, hb2⟩; have HO2 := Lib.hid ho2; have HB2 := Lib.hid hb2; clear ho2 hb2))
        have HBd : Hid (Below w.heap.size w w2.drew) := Lib.hid (below_drewN HB2.out 1)
        have HO2 : Hid (OwnS w2.drew w.heap.size v2 X) := Lib.hid (OwnE.drewN HO2.out 1)
        have s0 := cell_keepB HBd.out hb C0.out
        have HOA := Lib.hid (OwnE.alloc HO2.out (.cells #[.string (((⟨#[1]⟩ : ByteArray) ++ x) ++ V)] 9))
        have HSA := Lib.hid (SS.one (heap_alloc_new w2.drew (.cells #[.string (((⟨#[1]⟩ : ByteArray) ++ x) ++ V)] 9)))
        have HBA := Lib.hid (HBd.out.alloc HBd.out.size (.cells #[.string (((⟨#[1]⟩ : ByteArray) ++ x) ++ V)] 9))
        have s1 := cell_keepB HBA.out hb C0.out
        refine wp_region_noPanic ?_
        refine wp_region_lexO [8, 9, 15] [0, 1, 2, 3, 4, 5, 6, 7, 10, 11, 12, 13, 14, 8, 9, 15, 16, 17] (fun w' => w'.cell? ⟨b, off + N, none⟩ = some (.string x)) (by kernel_rfl) (by kernel_rfl) rfl (fun _ _ _ _ _ h => h) s0 ?_
        refine wpLexO_takeL (v := ?_) rfl (by rfl) (Or.inl ⟨by rfl, ?_⟩) ?_
        rotate_left
        · intro w hSw; (try dsimp only at hSw); go_simp; try with_reducible rfl
        simp only [Act.put, List.setIfInBounds_toArray, List.set_cons_zero, List.set_cons_succ]
        refine wpLexO_takeL (v := ?_) rfl (by rfl) (Or.inl ⟨by rfl, ?_⟩) ?_
        rotate_left
        · intro w hSw; (try dsimp only at hSw); go_simp; try with_reducible rfl
        simp only [Act.put, List.setIfInBounds_toArray, List.set_cons_zero, List.set_cons_succ]
        refine wpLexO_takeL (v := ?_) rfl (by rfl) (Or.inl ⟨by rfl, ?_⟩) ?_
        rotate_left
        · intro w hSw; (try dsimp only at hSw); go_simp; try with_reducible rfl
        simp only [Act.put, List.setIfInBounds_toArray, List.set_cons_zero, List.set_cons_succ]
        refine wpLexO_takeL (v := ?_) rfl (by rfl) (Or.inl ⟨by rfl, ?_⟩) ?_
        rotate_left
        · intro w hSw; (try dsimp only at hSw); go_simp; try with_reducible rfl
        simp only [Act.put, List.setIfInBounds_toArray, List.set_cons_zero, List.set_cons_succ]
        refine wpLexO_takeL (v := ?_) rfl (by rfl) (Or.inl ⟨by rfl, ?_⟩) ?_
        rotate_left
        · intro w hSw; (try dsimp only at hSw); go_simp; try with_reducible rfl
        simp only [Act.put, List.setIfInBounds_toArray, List.set_cons_zero, List.set_cons_succ]
        refine wpLexO_takeL (v := ?_) rfl (by rfl) (Or.inl ⟨by rfl, ?_⟩) ?_
        rotate_left
        · intro w hSw; (try dsimp only at hSw); go_simp; try with_reducible rfl
        simp only [Act.put, List.setIfInBounds_toArray, List.set_cons_zero, List.set_cons_succ]
        refine wpLexO_takeL (v := ?_) rfl (by rfl) (Or.inl ⟨by rfl, ?_⟩) ?_
        rotate_left
        · intro w hSw; (try dsimp only at hSw); go_simp; try with_reducible rfl
        simp only [Act.put, List.setIfInBounds_toArray, List.set_cons_zero, List.set_cons_succ]
        refine wpLexO_takeL (v := ?_) rfl (by rfl) (Or.inl ⟨by rfl, ?_⟩) ?_
        rotate_left
        · intro w hSw; (try dsimp only at hSw); go_simp; try with_reducible rfl
        simp only [Act.put, List.setIfInBounds_toArray, List.set_cons_zero, List.set_cons_succ]
        refine wpLexO_takeL (v := ?_) rfl (by rfl) (Or.inl ⟨by rfl, ?_⟩) ?_
        rotate_left
        · intro w hSw; (try dsimp only at hSw); go_simp; try with_reducible rfl
        simp only [Act.put, List.setIfInBounds_toArray, List.set_cons_zero, List.set_cons_succ]
        refine wpLexO_takeL (v := ?_) rfl (by rfl) (Or.inl ⟨by rfl, ?_⟩) ?_
        rotate_left
        · intro w hSw; (try dsimp only at hSw); go_simp; try with_reducible rfl
        simp only [Act.put, List.setIfInBounds_toArray, List.set_cons_zero, List.set_cons_succ]
        refine wpLexO_takeL (v := ?_) rfl (by rfl) (Or.inl ⟨by rfl, ?_⟩) ?_
        rotate_left
        · intro w hSw; (try dsimp only at hSw); go_simp; try with_reducible rfl
        simp only [Act.put, List.setIfInBounds_toArray, List.set_cons_zero, List.set_cons_succ]
        refine wpLexO_takeL (v := ?_) rfl (by rfl) (Or.inl ⟨by rfl, ?_⟩) ?_
        rotate_left
        · intro w hSw; (try dsimp only at hSw); go_simp; try with_reducible rfl
        simp only [Act.put, List.setIfInBounds_toArray, List.set_cons_zero, List.set_cons_succ]
        refine wpLexO_takeL (v := ?_) rfl (by rfl) (Or.inl ⟨by rfl, ?_⟩) ?_
        rotate_left
        · intro w hSw; (try dsimp only at hSw); go_simp; try with_reducible rfl
        simp only [Act.put, List.setIfInBounds_toArray, List.set_cons_zero, List.set_cons_succ]
        refine wpLexO_bigL rfl (by rfl) (fun K hK => ?_)
        go_simp
        refine hK.out _ _ s1 (fun _ => ?_)
        clear hK K
        refine wpLexO_bigL rfl (by rfl) (fun K hK => ?_)
        refine step_append_strs rfl _ _ w.heap.size v2 X _ (.slice (some ⟨w2.heap.size, 0, none⟩) 1 1) HOA.out HSA.out (by simp) (by simp; omega) HBA.out.size rfl rfl rfl ?_
        intro v7 w7 hown7 hgr7
        have HO7 := Lib.hid hown7
        have HB7 := Lib.hid (HBA.out.grown hgr7 HBA.out.size (fun j e => OwnE.ge HOA.out j e))
        have s7 := cell_keepB HB7.out hb C0.out
        clear hown7 hgr7
        refine hK.out _ _ s7 (fun _ => ?_)
        clear hK K
        refine wpLexO_bigL rfl (by rfl) (fun K hK => ?_)
        go_simp
        go_at_call 71
        with_reducible refine (HN.out _).mono ?_
        rintro e w8 ⟨rfl, hb8⟩
        have HB8 := Lib.hid (HB7.out.trans (hb8.mono HB7.out.size))
        have HO8 := Lib.hid (OwnE.far HO7.out hb8 (Nat.le_refl _))
        have s8 := cell_keepB HB8.out hb C0.out
        clear hb8
        refine hK.out _ _ s8 (fun _ => ?_)
        clear hK K
        refine wpLexO_takeL (v := ?_) rfl (by rfl) (Or.inl ⟨by rfl, ?_⟩) ?_
        rotate_left
        · intro w hSw; (try dsimp only at hSw); go_simp; try with_reducible rfl
        simp only [Act.put, List.setIfInBounds_toArray, List.set_cons_zero, List.set_cons_succ]
        refine wpLexO_takeL (v := ?_) rfl (by rfl) (Or.inl ⟨by rfl, ?_⟩) ?_
        rotate_left
        · intro w hSw; (try dsimp only at hSw); go_simp; try with_reducible rfl
        simp only [Act.put, List.setIfInBounds_toArray, List.set_cons_zero, List.set_cons_succ]
        refine wpLexO_nil ?_
        refine NoPanic.normal ?_
        go_wp2
        go_ret2
        exact ⟨_, rfl, HO8.out, HB8.out⟩
end Go.Proofs.YtinfpbkbnhcifaaGreatDoor
