/- The law QuorumOne, plain: what two proofs for two values show. No condition. -/
import Derived.Test.YtggdcnjaofflbaaGreatDoorC18
import Derived.Test.YtggdcnjaofflbaaGreatDoorC07
import Derived.Deep.DeepCutAuto
import Derived.Deep.CutBlock
import Derived.Test.YtggdcnjaofflbaaGreatDoorC09
import Derived.Test.YtggdcnjaofflbaaGreatDoorC12
import Derived.Test.YtggdcnjaofflbaaGreatDoorC10
import Derived.Test.YtggdcnjaofflbaaGreatDoorC14
import Derived.Test.YtggdcnjaofflbaaGreatDoorC19
namespace Go.Proofs.YtggdcnjaofflbaaGreatDoor

def atSlot (num stp : Int) (d : VoteP × VoteP) : Bool := decide (d.1.num = num ∧ d.1.stp = stp)
theorem one_facts {ks : List ByteArray} {num stp : Int} {u t : ByteArray} {pool p q : List VoteP} (hp : proveV ks num stp u pool = some p) (hq : proveV ks num stp t pool = some q) (hne : u ≠ t) :
    ∃ d, blameV ks p q = some d ∧ (ks.length - 1) / 3 + 1 ≤ d.length ∧ (∀ e ∈ d, convictsV ks e = true ∧ (e.1.num = num ∧ e.1.stp = stp) ∧ ∃ x ∈ doublesV ks pool, oneV x.1 e.1 = true) ∧
      (∀ (k : Nat) (a b : VoteP × VoteP), d[k]? = some a → d[k + 1]? = some b → a.1.car < b.1.car) ∧ d.length ≤ ((doublesV ks pool).filter (atSlot num stp)).length := by
  have hip : isPool ks pool = true := by
    unfold proveV at hp
    split at hp
    · rename_i h
      exact h.1
    · cases hp
  obtain ⟨d, hs, hl, hm, hb⟩ := one_law hp hq hne
  generalize hF : (fun i => if t.toList < u.toList then (mkV ks num stp t i, mkV ks num stp u i) else (mkV ks num stp u i, mkV ks num stp t i)) = F at hb
  have hcar : ∀ i, (F i).1.car = (i : Int) ∧ (F i).1.num = num ∧ (F i).1.stp = stp := by
    intro i
    rw [← hF]
    dsimp only
    split <;> exact ⟨rfl, rfl, rfl⟩
  have hall : ∀ i ∈ d, convictsV ks (F i) = true ∧ ∃ x ∈ doublesV ks pool, oneV x.1 (F i).1 = true := by
    intro i hi
    obtain ⟨h1, h2⟩ := hm i hi
    rw [← hF]
    dsimp only
    by_cases hlt : t.toList < u.toList
    · rw [if_pos hlt]
      exact two_double hip h2 h1 hlt
    · rw [if_neg hlt]
      rcases u8l_tri u.toList t.toList with h | h | h
      · exact two_double hip h1 h2 h
      · exact absurd (by rw [ByteArray.toList_eq, ByteArray.toList_eq] at h; cases u; cases t; rename_i a b; exact congrArg ByteArray.mk (Array.toList_inj.1 h)) hne
      · exact absurd h hlt
  have hone : ∀ (x y : VoteP), oneV x y = true → x.car = y.car ∧ x.num = y.num ∧ x.stp = y.stp := fun x y h => of_decide_eq_true h
  refine ⟨d.map F, hb, by rw [List.length_map]; exact hl, ?_, ?_, ?_⟩
  · intro e he
    obtain ⟨i, hi, rfl⟩ := List.mem_map.1 he
    exact ⟨(hall i hi).1, (hcar i).2, (hall i hi).2⟩
  · intro k a b h1 h2
    rw [List.getElem?_map, Option.map_eq_some_iff] at h1 h2
    obtain ⟨i, h1, rfl⟩ := h1
    obtain ⟨j, h2, rfl⟩ := h2
    rw [(hcar i).1, (hcar j).1]
    obtain ⟨l1, rfl⟩ := List.getElem?_eq_some_iff.1 h1
    obtain ⟨l2, rfl⟩ := List.getElem?_eq_some_iff.1 h2
    have := List.pairwise_iff_getElem.1 hs k (k + 1) l1 l2 (by omega)
    omega
  · rw [List.length_map]
    have h := nodup_le (xs := d) (ys := ((doublesV ks pool).filter (atSlot num stp)).map fun x => x.1.car.toNat) (hs.imp fun h => Nat.ne_of_lt h) ?_
    · rw [List.length_map] at h
      exact h
    · intro i hi
      obtain ⟨x, hx, h1⟩ := (hall i hi).2
      obtain ⟨e1, e2, e3⟩ := hone _ _ h1
      obtain ⟨c1, c2, c3⟩ := hcar i
      refine List.mem_map.2 ⟨x, List.mem_filter.2 ⟨hx, decide_eq_true ⟨by rw [e2, c2], by rw [e3, c3]⟩⟩, ?_⟩
      rw [e1, c1]
      rfl
end Go.Proofs.YtggdcnjaofflbaaGreatDoor

/- Walk of the law: liars. The conditions: what the slice reads as. -/
namespace Go.Proofs.YtggdcnjaofflbaaGreatDoor
open Go.RowKit Go.BigFrame

theorem filt_snoc {α : Type} {l : List α} {k : Nat} {x : α} (p : α → Bool) (h : l[k]? = some x) : ((l.take (k + 1)).filter p).length = ((l.take k).filter p).length + (p x).toNat := by
  rw [List.take_add_one, h, List.filter_append, List.length_append]
  cases e : p x <;> simp [e]
set_option maxHeartbeats 4000000 in
theorem liars_any {w : World} {x : Value} {l : List (VoteP × VoteP)} (hx : DS w x l) (num stp : Int) :
    Calls Tryz.prog 37 #[x, .agg #[.int .i64 num, .int .i64 stp]] w fun e w' => e = .returned (.int .i64 ((l.filter (atSlot num stp)).length : Int)) ∧ Below w.heap.size w w' := by
  obtain ⟨W1, hW1⟩ : ∃ W1, W1 = w.alloc (.cells #[.int .i64 num, .int .i64 stp] 25) := ⟨_, rfl⟩
  have HB1 : Hid (Below w.heap.size w W1) := Lib.hid (by rw [hW1]; exact (Below.refl _ _).alloc (Nat.le_refl _) _)
  have HX1 : Hid (W1.heap[w.heap.size]? = some (.cells #[.int .i64 num, .int .i64 stp] 25 (0, 0))) := Lib.hid (by rw [hW1]; exact heap_alloc_new w _)
  have HW1 := Lib.hid hW1
  obtain ⟨la, lc, rfl, hll, hlm, hl3⟩ := (hx.below HB1.out).opened
  have HL3 := Lib.hid hl3
  obtain ⟨N, hN⟩ : ∃ N, N = l.length := ⟨_, rfl⟩
  rw [← hN] at hll ⊢
  have HN := Lib.hid hN
  have hN9 : N ≤ 9223372036854775807 := by unfold maxLen at hlm; omega
  have hfl : (l.filter (atSlot num stp)).length ≤ N := by rw [hN]; exact List.length_filter_le ..
  clear hx hl3 hW1 hll hlm hN
  go_enter Tryz.func37, Tryz.ntmps37
  go_upto_region 1 with fail
  rw [← HW1.out]
  obtain ⟨bs, hbs⟩ : ∃ bs, bs = w.heap.size := ⟨_, rfl⟩
  rw [← hbs] at HX1 ⊢
  clear hbs HW1
  have HF0 : Hid (0 = ((l.take 0).filter (atSlot num stp)).length) := Lib.hid rfl
  go_wp2
  go_loopw [5, 6] (fun n i wr => ∃ k q : Nat, k ≤ N ∧ q ≤ k ∧ i = .int .i64 k ∧ n = .int .i64 q ∧ Hid (q = ((l.take k).filter (atSlot num stp)).length) ∧ Hid (Below W1.heap.size W1 wr)) (fun _ i _ => N - (intOf i).toNat)
  case atStart => exact ⟨0, 0, by omega, by omega, rfl, rfl, HF0, Lib.hid (Below.refl _ _)⟩
  case round =>
    clear HF0
    obtain ⟨k, q, hk, hqk, rfl, rfl, hF, hB⟩ := hrel
    by_cases hlt : k < N
    · have tk : (k : Int) < (N : Int) := by omega
      have tk0 : (0 : Int) ≤ (k : Int) := by omega
      obtain ⟨d, ed⟩ : ∃ d, l[k]? = some d := ⟨_, List.getElem?_eq_getElem (by rw [← HN.out]; exact hlt)⟩
      obtain ⟨db, do1, rfl, hdb, ⟨hd0, hd1, hd2, -, -⟩, -⟩ := HL3.out k d ed
      have HSN := Lib.hid (filt_snoc (atSlot num stp) ed)
      obtain ⟨⟨dcar, dnum, dstp, dv, dl⟩, d2'⟩ := d
      simp only at hd0 hd1 hd2
      have HC := Lib.hid (fun W (hW : Below wr.heap.size wr W) => And.intro (And.intro (cell_keepB (q_next hB.out hW) hdb hd1) (cell_keepB (q_next hB.out hW) hdb hd2)) (two_at (((q_next hB.out hW).block _ (Array.getElem?_eq_some_iff.1 HX1.out).1).trans HX1.out)))
      have HSL := Lib.hid (fun W => eqlSlot dnum dstp num stp W)
      obtain ⟨se, hse⟩ : ∃ se, se = atSlot num stp (⟨dcar, dnum, dstp, dv, dl⟩, d2') := ⟨_, rfl⟩
      rw [← hse] at HSN
      have hse' : decide (dnum = num ∧ dstp = stp) = se := by rw [hse]; rfl
      rw [hse'] at HSL
      have hsl := HSL.out
      clear ed hse hse' hd0 hd1 hd2
      go_upto_region 5 with fail
      refine wp_region_noPanic ?_
      refine wp_region_lexB [.q 0, .q 1, .q 2, .q 3, .q 4, .q 5, .q 6, .q 7] (by kernel_rfl) (by kernel_rfl) (fun _ _ _ _ h => h) ?_
      iterate 8 (refine wpFl_qL (v := ?_) rfl (Or.inl ⟨by rfl, ?_⟩) ?_; rotate_left; (focus (intro w' hSw; (try dsimp only [OldKept] at hSw); obtain ⟨⟨d1, d2⟩, s0, s1⟩ := HC.out w' hSw; go_simp; (try with_reducible rfl); done)); simp only [Act.put, List.setIfInBounds_toArray, List.set_cons_zero, List.set_cons_succ])
      refine wpFl_nil ?_
      refine NoPanic.normal ?_
      cases se with
      | true =>
        go_wp2
        go_roundw
        case rel => exact ⟨k + 1, q + 1, by omega, by omega, by go_num, by go_num, Lib.hid (by rw [HSN.out, ← hF.out]; rfl), Lib.hid (Below.drew hB.out)⟩
        case measure => simp [intOf]; omega
      | false =>
        go_wp2
        go_roundw
        case rel => exact ⟨k + 1, q, by omega, by omega, by go_num, rfl, Lib.hid (by rw [HSN.out, ← hF.out]; rfl), Lib.hid (Below.drew hB.out)⟩
        case measure => simp [intOf]; omega
    · obtain rfl : k = N := by omega
      have tk : ¬ (k : Int) < (k : Int) := by omega
      have hq : (q : Int) = ((l.filter (atSlot num stp)).length : Int) := by rw [hF.out, HN.out, List.take_length]
      go_wp2
      go_ret
      exact ⟨rfl, HB1.out.trans (hB.out.mono HB1.out.size)⟩
end Go.Proofs.YtggdcnjaofflbaaGreatDoor
