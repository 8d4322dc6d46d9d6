/- The walk of the reference's Bent. The conditions: what the slice reads as, lengths, ranges. -/
import Derived.Deep.CutBlock
import Derived.Test.YtinfpbkbnhcifaaGreatDoorP03
import Derived.Test.YtinfpbkbnhcifaaGreatDoorP00
import Derived.Test.YtinfpbkbnhcifaaGreatDoorQ21
namespace Go.Proofs.YtinfpbkbnhcifaaGreatDoor
open Go.RowKit Go.BigFrame

theorem OwnE.zeroItem {w : World} {b base : Nat} (h : w.heap[b]? = some (.cells #[] 53 (0, 0))) (hb : base ≤ b) : OwnE w base 53 3 (.slice (some ⟨b, 0, none⟩) 0 0) (itcells []) :=
  ⟨rfl, .inr ⟨b, 0, #[], rfl, hb, h, Nat.le_refl _, by decide, rfl, rfl⟩⟩

def BentKept (w : World) (B : Nat) (P : Array Value) (b : Nat) (hd : HeadP) (v : Value) (W : World) : World → Prop := fun W' => W.heap.size ≤ W'.heap.size ∧ ∃ ys', BentAt w B P W' b hd v ys'
theorem BentKept.more {w : World} {B : Nat} {P : Array Value} {b : Nat} {hd : HeadP} {v : Value} {W : World} (w1 w2 : World) (h : BentKept w B P b hd v W w1) (hb : Below w1.heap.size w1 w2) : BentKept w B P b hd v W w2 :=
  ⟨Nat.le_trans h.1 hb.size, let ⟨ys, h⟩ := h.2; ⟨ys, h.far hb⟩⟩
def EndKept (w : World) (b : Nat) (wc : World) (P V : Array Value) : World → Prop := fun W' => wc.heap.size ≤ W'.heap.size ∧ W'.heap[w.heap.size]? = some (.cells P 38 (0, 0)) ∧ W'.heap[b]? = some (.cells V 38 (0, 0))
theorem EndKept.more {w : World} {b : Nat} {wc : World} {P V : Array Value} (w1 w2 : World) (h : EndKept w b wc P V w1) (hb : Below w1.heap.size w1 w2) : EndKept w b wc P V w2 :=
  ⟨Nat.le_trans h.1 hb.size, kept_block h.2.1 hb, kept_block h.2.2 hb⟩
theorem pfive {W : World} {b : Nat} {c0 c1 c2 c3 c4 : Value} {T : TypeId} (h : W.heap[b]? = some (.cells #[c0, c1, c2, c3, c4] T (0, 0))) : W.cell? ⟨b, 0, none⟩ = some c0 ∧ W.cell? ⟨b, 1, none⟩ = some c1 ∧ W.cell? ⟨b, 2, none⟩ = some c2 ∧ W.cell? ⟨b, 3, none⟩ = some c3 ∧ W.cell? ⟨b, 4, none⟩ = some c4 :=
  ⟨cell_of_row W _ 0 _ _ _ h, cell_of_row W _ 1 _ _ _ h, cell_of_row W _ 2 _ _ _ h, cell_of_row W _ 3 _ _ _ h, cell_of_row W _ 4 _ _ _ h⟩

theorem EndKept.cells {w : World} {b : Nat} {wc : World} {p0 p1 p2 p3 p4 v0 v1 v2 v3 v4 : Value} {W : World} (h : EndKept w b wc #[p0, p1, p2, p3, p4] #[v0, v1, v2, v3, v4] W) :
    (W.cell? ⟨w.heap.size, 0, none⟩ = some p0 ∧ W.cell? ⟨w.heap.size, 1, none⟩ = some p1 ∧ W.cell? ⟨w.heap.size, 2, none⟩ = some p2 ∧ W.cell? ⟨w.heap.size, 3, none⟩ = some p3 ∧ W.cell? ⟨w.heap.size, 4, none⟩ = some p4) ∧
      W.cell? ⟨b, 0, none⟩ = some v0 ∧ W.cell? ⟨b, 1, none⟩ = some v1 ∧ W.cell? ⟨b, 2, none⟩ = some v2 ∧ W.cell? ⟨b, 3, none⟩ = some v3 ∧ W.cell? ⟨b, 4, none⟩ = some v4 := ⟨pfive h.2.1, pfive h.2.2⟩
theorem BentAt.store {w W : World} {B b : Nat} {P : Array Value} {hd : HeadP} {v : Value} {ys : List (ItemP × Value)} (h : BentAt w B P W b hd v ys) (v0 v1 v2 v3 v4 : Value) :
    Below w.heap.size w (((((W.setCell ⟨w.heap.size + 1, 0, none⟩ v0).setCell ⟨w.heap.size + 1, 1, none⟩ v1).setCell ⟨w.heap.size + 1, 2, none⟩ v2).setCell ⟨w.heap.size + 1, 3, none⟩ v3).setCell ⟨w.heap.size + 1, 4, none⟩ v4) ∧
    (((((W.setCell ⟨w.heap.size + 1, 0, none⟩ v0).setCell ⟨w.heap.size + 1, 1, none⟩ v1).setCell ⟨w.heap.size + 1, 2, none⟩ v2).setCell ⟨w.heap.size + 1, 3, none⟩ v3).setCell ⟨w.heap.size + 1, 4, none⟩ v4).heap[w.heap.size + 1]? = some (.cells #[v0, v1, v2, v3, v4] 38 (0, 0)) ∧
    ISt (((((W.setCell ⟨w.heap.size + 1, 0, none⟩ v0).setCell ⟨w.heap.size + 1, 1, none⟩ v1).setCell ⟨w.heap.size + 1, 2, none⟩ v2).setCell ⟨w.heap.size + 1, 3, none⟩ v3).setCell ⟨w.heap.size + 1, 4, none⟩ v4) v ys ∧
    W.heap.size ≤ (((((W.setCell ⟨w.heap.size + 1, 0, none⟩ v0).setCell ⟨w.heap.size + 1, 1, none⟩ v1).setCell ⟨w.heap.size + 1, 2, none⟩ v2).setCell ⟨w.heap.size + 1, 3, none⟩ v3).setCell ⟨w.heap.size + 1, 4, none⟩ v4).heap.size ∧
    (((((W.setCell ⟨w.heap.size + 1, 0, none⟩ v0).setCell ⟨w.heap.size + 1, 1, none⟩ v1).setCell ⟨w.heap.size + 1, 2, none⟩ v2).setCell ⟨w.heap.size + 1, 3, none⟩ v3).setCell ⟨w.heap.size + 1, 4, none⟩ v4).heap[w.heap.size]? = W.heap[w.heap.size]? ∧
    (((((W.setCell ⟨w.heap.size + 1, 0, none⟩ v0).setCell ⟨w.heap.size + 1, 1, none⟩ v1).setCell ⟨w.heap.size + 1, 2, none⟩ v2).setCell ⟨w.heap.size + 1, 3, none⟩ v3).setCell ⟨w.heap.size + 1, 4, none⟩ v4).heap[b]? = W.heap[b]? := by
  have hg := five_grown W (w.heap.size + 1) v0 v1 v2 v3 v4
  obtain ⟨h1, h2, h3, h4, h5, h6, h7, h8⟩ := h
  refine ⟨five_below h1 (Nat.le_succ _) _ _ _ _ _, five_heap h3 _ _ _ _ _, ?_, hg.size, hg.block _ (Array.getElem?_eq_some_iff.1 h2).1 (fun e => by injection e with e; omega), hg.block _ (Array.getElem?_eq_some_iff.1 h4).1 (fun e => by injection e with e; omega)⟩
  have ho' := h5.grownT h3 (fun c e => by cases e) hg
  have hy' := fun y hy => (h6 y hy).1.grownT (h6 y hy).2 hg (fun k e cs fr e' => by
    cases e
    rw [h3] at e'
    cases e')
  exact ⟨⟨ho'.slice (itcells_three ys), fun y hy => (hy' y hy).1⟩, rowTy_own ho', fun y hy => (hy' y hy).2⟩
theorem BentAt.free {w W : World} {B b g n c : Nat} {P : Array Value} {hd : HeadP} {ys : List (ItemP × Value)} (h : BentAt w B P W b hd (.slice (some ⟨g, 0, none⟩) n c) ys) (i : Nat) : W.frozen? ⟨g, i, none⟩ = false := by
  obtain ⟨_, cur, hcur⟩ := own_block h.2.2.2.2.1
  unfold World.frozen?
  rw [hcur]
  simp
theorem BentAt.cells {w W : World} {B b g n c : Nat} {P : Array Value} {hd : HeadP} {ys : List (ItemP × Value)} (h : BentAt w B P W b hd (.slice (some ⟨g, 0, none⟩) n c) ys) (j : Nat) (y : ItemP × Value) (hj : ys[j]? = some y) : W.cell? ⟨g, j * 3, none⟩ = some (.int .i64 y.1.idx) ∧ W.cell? ⟨g, j * 3 + 1, none⟩ = some (.string y.1.ent) := by
  obtain ⟨x1, x2, ex, _, _, hcel⟩ := h.is.is.opened
  obtain ⟨b', off', e', hgW, g0, g1, g2⟩ := hcel j y hj
  injection ex with ex1 ex2 ex3
  subst ex1
  cases e'
  rw [Nat.zero_add] at g0 g1
  exact ⟨g0, g1⟩
theorem list_str {x y : ByteArray} (h : x.toList = y.toList) : x = y := by
  have h1 := same_str x y
  rw [h] at h1
  simp at h1
  exact h1
set_option maxHeartbeats 8000000 in
set_option maxRecDepth 100000 in
theorem bent_any (p : PartP) (how n at' : Int) {w : World} {iv : Value} (hi : IT w iv p.items) (hh : I64 how) (hn : I64 n) (ha : I64 at') (hl : p.items.length ≤ 1000) (hr : p.head.root.size ≤ 1000) (he : ∀ x ∈ p.items, x.ent.size ≤ 100000) :
    Calls Tryz.prog 21 #[.agg (pbox p iv), .int .i64 how, .int .i64 n, .int .i64 at'] w fun e w' => ∃ iv', e = .returned (.tuple #[.agg (pbox (bentP p how n at') iv'), .bool (decide (bentP p how n at' ≠ p))]) ∧ IT w' iv' (bentP p how n at').items ∧ Below w.heap.size w w' := by
  obtain ⟨⟨pc, ps, pr, pl⟩, its⟩ := p
  simp only at hi hl hr he
  obtain ⟨ys0, hys0, hty⟩ := hi
  obtain ⟨ia, ic, hiv, hcl⟩ := hty.is.opened
  clear hcl
  have hlen : ys0.length = its.length := by rw [← hys0, List.length_map]
  rw [hlen] at hiv
  obtain ⟨m, hm⟩ : ∃ m, m = its.length := ⟨_, rfl⟩
  rw [← hm] at hiv hl hlen
  subst hiv
  have HIS := Lib.hid hty
  have HYS := Lib.hid hys0
  have HLEN := Lib.hid hlen
  have HM := Lib.hid hm
  have HITS : Hid (IT w (.slice ia m ic) its) := Lib.hid ⟨ys0, hys0, hty⟩
  clear hty hys0 hlen hm
  unfold bentP
  simp only []
  obtain ⟨hk6, hk3⟩ := bendK_le how its.length
  have hpk := pickI_range how (n := 7) (by omega)
  have HPH := Lib.hid (fun W => rpick_any how 7 W hh (by omega) (by omega))
  obtain ⟨kk, hkk⟩ := Int.eq_ofNat_of_zero_le hpk.1
  have HBK : Hid (bendK how its.length = if its.length = 0 ∧ 3 < kk then kk - 4 else kk) := Lib.hid (by unfold bendK; rw [hkk]; rfl)
  rw [hkk] at HPH hpk
  have hkk6 : kk ≤ 6 := by omega
  rw [← HM.out] at HBK hk6 hk3 ⊢
  clear hkk hpk hh
  generalize bendK how m = kb at *
  have HEN := Lib.hid he
  have HIN := Lib.hid hn
  have HIA := Lib.hid ha
  clear he hn ha
  simp only [pbox]
  go_enter Tryz.func21, Tryz.ntmps21
  go_upto_region 1 with fail
  have HB1 : Hid (Below w.heap.size w ((w.alloc (.cells #[.int .i64 pc, .int .i64 ps, .string pr, .string pl, .slice ia m ic] 38)).alloc (.cells #[.int .i64 0, .int .i64 0, .string ⟨#[]⟩, .string ⟨#[]⟩, .slice none 0 0] 38))) := Lib.hid (((Below.refl _ _).alloc (Nat.le_refl _) _).alloc (by simp) _)
  have HX1 : Hid (((w.alloc (.cells #[.int .i64 pc, .int .i64 ps, .string pr, .string pl, .slice ia m ic] 38)).alloc (.cells #[.int .i64 0, .int .i64 0, .string ⟨#[]⟩, .string ⟨#[]⟩, .slice none 0 0] 38)).heap[w.heap.size]? = some (.cells #[.int .i64 pc, .int .i64 ps, .string pr, .string pl, .slice ia m ic] 38 (0, 0))) := Lib.hid (at_past w _ _)
  have HR1 : Hid (((w.alloc (.cells #[.int .i64 pc, .int .i64 ps, .string pr, .string pl, .slice ia m ic] 38)).alloc (.cells #[.int .i64 0, .int .i64 0, .string ⟨#[]⟩, .string ⟨#[]⟩, .slice none 0 0] 38)).heap[w.heap.size + 1]? = some (.cells #[.int .i64 0, .int .i64 0, .string ⟨#[]⟩, .string ⟨#[]⟩, .slice none 0 0] 38 (0, 0))) := Lib.hid (at_second w _ _)
  obtain ⟨w1, hw1⟩ : ∃ W, W = (w.alloc (.cells #[.int .i64 pc, .int .i64 ps, .string pr, .string pl, .slice ia m ic] 38)).alloc (.cells #[.int .i64 0, .int .i64 0, .string ⟨#[]⟩, .string ⟨#[]⟩, .slice none 0 0] 38) := ⟨_, rfl⟩
  rw [← hw1] at HB1 HX1 HR1 ⊢
  clear hw1
  have HKP : Hid (∀ W, Below w1.heap.size w1 W → W.cell? ⟨w.heap.size, 0, none⟩ = some (.int .i64 pc) ∧ W.cell? ⟨w.heap.size, 1, none⟩ = some (.int .i64 ps) ∧ W.cell? ⟨w.heap.size, 2, none⟩ = some (.string pr) ∧ W.cell? ⟨w.heap.size, 3, none⟩ = some (.string pl) ∧ W.cell? ⟨w.heap.size, 4, none⟩ = some (.slice ia m ic)) := Lib.hid (fun W hW => pfive (kept_block HX1.out hW))
  refine wp_region_noPanic ?_
  refine wp_region_lexB [.q 0, .q 1, .an 2, .q 3, .q 4, .an 7, .co 2, .b 5, .q 6, .co 7, .b 8] (by kernel_rfl) (by kernel_rfl) (fun _ _ _ _ h => h) ?_
  iterate 2 (refine wpFl_qL (v := ?_) rfl (Or.inl ⟨by rfl, ?_⟩) ?_; rotate_left; (focus (intro w' hSw; (try dsimp only [OldKept] at hSw); obtain ⟨k0, k1, k2, k3, k4⟩ := HKP.out w' hSw; go_simp; (try with_reducible rfl); done)); simp only [Act.put, List.setIfInBounds_toArray, List.set_cons_zero, List.set_cons_succ])
  refine wpFl_anL rfl (.cells #[] 53 (0, 0)) (fun n => .slice (some ⟨n, 0, none⟩) 0 0) ⟨by rfl, fun w' => ?_⟩ ?_
  focus (go_simp; done)
  iterate 2 (refine wpFl_qL (v := ?_) rfl (Or.inl ⟨by rfl, ?_⟩) ?_; rotate_left; (focus (intro w' hSw; (try dsimp only [OldKept] at hSw); obtain ⟨k0, k1, k2, k3, k4⟩ := HKP.out w' hSw; go_simp; (try with_reducible rfl); done)); simp only [Act.put, List.setIfInBounds_toArray, List.set_cons_zero, List.set_cons_succ])
  refine wpFl_anL rfl (.cells #[.int .i64 0, .int .i64 0, .string ⟨#[]⟩, .string ⟨#[]⟩, .slice none 0 0] 38 (0, 0)) (fun n => .pointer (some ⟨n, 0, none⟩)) ⟨by rfl, fun w' => ?_⟩ ?_
  focus (go_simp; done)
  refine wpFl_coL rfl (.cells #[] 53 (0, 0)) (fun n => .slice (some ⟨n, 0, none⟩) 0 0) (by rfl) (N' := [(7, .cells #[.int .i64 0, .int .i64 0, .string ⟨#[]⟩, .string ⟨#[]⟩, .slice none 0 0] 38 (0, 0), fun n => .pointer (some ⟨n, 0, none⟩))]) (by rfl) (fun b6 w6 hn_w6 hs_w6 hb_b6 hz_b6 => ?_)
  simp only [Act.put, List.setIfInBounds_toArray, List.set_cons_zero, List.set_cons_succ]
  have HO6 := Lib.hid (OwnE.zeroItem hz_b6 hb_b6)
  clear hz_b6
  refine wpFl_bL rfl (fun w7 hn7 hs7 K hK => ?_)
  have HO7 := Lib.hid (OwnE.far HO6.out hn7 (Nat.le_refl _))
  have HS7 := Lib.hid (HIS.out.is.below (below_next HB1.out hs7))
  refine step_append_items rfl _ _ w1.heap.size (.slice (some ⟨b6, 0, none⟩) 0 0) [] ys0 (.slice ia m ic) HO7.out HS7.out (by rw [HLEN.out]; simp; omega) hs7.size rfl rfl rfl ?_
  intro v8 w8 hown8 hgr8
  rw [List.nil_append] at hown8
  have HB8 : Hid (Below w1.heap.size w1 w8) := Lib.hid (Below.grown hs7 hgr8 hs7.size (fun j e => OwnE.ge HO7.out j e))
  have HTP8 : Hid (∀ y ∈ ys0, SS w8 y.2 y.1.prf ∧ RowTy w8 9 y.2) := Lib.hid (fun y hy => ⟨(HIS.out.is.2 y hy).below (below_next HB1.out HB8.out), (HIS.out.tp y hy).below (below_next HB1.out HB8.out)⟩)
  refine hK.out _ _ HB8.out (Keeps.own HO7.out hgr8 (by intro x hx c e; rw [List.mem_singleton.1 hx] at e; cases e)) ?_
  clear hK K
  obtain ⟨a8, c8, hv8⟩ := OwnE.form hown8
  rw [itcells_len, HLEN.out] at hv8
  subst hv8
  have HO8 := Lib.hid hown8
  clear HO6 HO7 HS7 hown8 hgr8 hn7 hs7 hs_w6 hb_b6
  simp only [Act.put, List.setIfInBounds_toArray, List.set_cons_zero, List.set_cons_succ]
  refine wpFl_qL (v := ?_) rfl (Or.inl ⟨by rfl, ?_⟩) ?_
  rotate_left
  focus (intro w' hSw; (try dsimp only [OldKept] at hSw); go_simp; (try with_reducible rfl); done)
  simp only [Act.put, List.setIfInBounds_toArray, List.set_cons_zero, List.set_cons_succ]
  refine wpFl_coL rfl (.cells #[.int .i64 0, .int .i64 0, .string ⟨#[]⟩, .string ⟨#[]⟩, .slice none 0 0] 38 (0, 0)) (fun n => .pointer (some ⟨n, 0, none⟩)) (by rfl) (N' := []) (by rfl) (fun b9 w9 hn_w9 hs_w9 hb_b9 hz_b9 => ?_)
  simp only [Act.put, List.setIfInBounds_toArray, List.set_cons_zero, List.set_cons_succ]
  have HO9 := Lib.hid (OwnE.far HO8.out hn_w9 (Nat.le_refl _))
  clear HO8 hs_w9
  refine wpFl_bL rfl (fun w10 hn10 hs10 K hK => ?_)
  have HO10 := Lib.hid (OwnE.far HO9.out hn10 (Nat.le_refl _))
  have HZ10 := Lib.hid (kept_block hz_b9 hn10)
  obtain ⟨z0, z1, z2, z3, z4⟩ := pfive HZ10.out
  have zf : ∀ j, w10.frozen? ⟨b9, j, none⟩ = false := fun j => by unfold World.frozen?; rw [HZ10.out]; simp
  clear HO9 hz_b9
  go_simp
  refine hK.out _ _ (five_below hs10 hb_b9 _ _ _ _ _) Keeps.nil ?_
  clear hK K
  have hw1s : w.heap.size + 1 < w1.heap.size := (Array.getElem?_eq_some_iff.1 HR1.out).1
  have hA : BentAt w w1.heap.size #[.int .i64 pc, .int .i64 ps, .string pr, .string pl, .slice ia m ic] (((((w10.setCell ⟨b9, 0, none⟩ (.int .i64 pc)).setCell ⟨b9, 1, none⟩ (.int .i64 ps)).setCell ⟨b9, 2, none⟩ (.string pr)).setCell ⟨b9, 3, none⟩ (.string pl)).setCell ⟨b9, 4, none⟩ (.slice a8 m c8)) b9 ⟨pc, ps, pr, pl⟩ (.slice a8 m c8) ys0 := by
    have hb := five_below (Below.refl _ w1 |>.trans hs10) hb_b9 (.int .i64 pc) (.int .i64 ps) (.string pr) (.string pl) (.slice a8 m c8)
    refine ⟨below_next HB1.out hb, kept_block HX1.out hb, kept_block HR1.out hb, five_heap HZ10.out _ _ _ _ _, OwnE.grownT HO10.out HZ10.out (fun c e => by cases e) (five_grown _ _ _ _ _ _ _), fun y hy => ?_, by omega, hw1s⟩
    have h1 := HTP8.out y hy
    exact (h1.1.below hn_w9 |>.below hn10).grownT (h1.2.below hn_w9 |>.below hn10) (five_grown w10 b9 _ _ _ _ _) (fun k e cs fr e' => by
      cases e
      rw [HZ10.out] at e'
      cases e')
  have HA := Lib.hid hA
  clear hA HO10 HZ10 z0 z1 z2 z3 z4 zf hn10 hs10 HKP HB8 HB1 HX1 HR1 HTP8 HIS hb_b9 hn_w9
  generalize (((((w10.setCell ⟨b9, 0, none⟩ (.int .i64 pc)).setCell ⟨b9, 1, none⟩ (.int .i64 ps)).setCell ⟨b9, 2, none⟩ (.string pr)).setCell ⟨b9, 3, none⟩ (.string pl)).setCell ⟨b9, 4, none⟩ (.slice a8 m c8)) = W at *
  obtain ⟨P, hP⟩ : ∃ P, P = (#[.int .i64 pc, .int .i64 ps, .string pr, .string pl, .slice ia m ic] : Array Value) := ⟨_, rfl⟩
  have HPE := Lib.hid hP
  rw [← hP] at HA
  clear hP
  generalize w1.heap.size = B at *
  refine wpFl_nil ?_
  refine NoPanic.normal ?_
  obtain ⟨c0, c1, c2, c3, c4⟩ := pfive HA.out.2.2.2.1
  go_upto_region 3 with (go_at_call 53; (with_reducible refine (HPH.out _).mono ?_); rintro e w' ⟨rfl, hw'⟩; replace hw' := hw'.symm; subst hw')
  obtain ⟨D, hD⟩ : ∃ D, D = decide (m = 0 ∧ 3 < kk) := ⟨_, rfl⟩
  have HD := Lib.hid hD
  clear hD
  go_cut [29] (fun t wx => t = .bool D ∧ wx = W)
  case first =>
    rcases Nat.eq_zero_or_pos m with h0 | h0
    · subst h0
      by_cases h3 : 3 < kk
      · have u3 : (3 : Int) < (kk : Int) := by omega
        have HDT : Hid (D = true) := Lib.hid (by rw [HD.out]; exact decide_eq_true ⟨rfl, h3⟩)
        go_wp2
        go_meet
        case rel => exact ⟨by rw [HDT.out], rfl⟩
      · have u3 : ¬ (3 : Int) < (kk : Int) := by omega
        have HDT : Hid (D = false) := Lib.hid (by rw [HD.out]; exact decide_eq_false (fun h => h3 h.2))
        go_wp2
        go_meet
        case rel => exact ⟨by rw [HDT.out], rfl⟩
    · have u0 : ¬ (m : Int) = 0 := by omega
      have HDT : Hid (D = false) := Lib.hid (by rw [HD.out]; exact decide_eq_false (fun h => by omega))
      go_wp2
      go_meet
      case rel => exact ⟨by rw [HDT.out], rfl⟩
  case rest =>
  obtain ⟨ht29, hwc⟩ := hcut
  subst ht29
  replace hwc := hwc.symm
  subst hwc
  clear c0 c1 c2 c3 c4
  go_upto_if 29 with fail
  go_cut [11] (fun t wx => t = .int .i64 (kb : Int) ∧ wx = W)
  case first =>
    cases D with
    | true =>
      obtain ⟨h0, h3⟩ := of_decide_eq_true HD.out.symm
      have e1 : IntKind.i64.wrap ((kk : Int) - 4) = (kk : Int) - 4 := IntWalk.i64_in _ (by omega)
      have HE2 : Hid ((kk : Int) - 4 = (kb : Int)) := Lib.hid (by have := HBK.out; rw [if_pos ⟨h0, h3⟩] at this; omega)
      go_wp2
      go_meet
      case rel => exact ⟨by rw [HE2.out], rfl⟩
    | false =>
      have HE2 : Hid ((kk : Int) = (kb : Int)) := Lib.hid (by have := HBK.out; rw [if_neg (of_decide_eq_false HD.out.symm)] at this; omega)
      go_wp2
      go_meet
      case rel => exact ⟨by rw [HE2.out], rfl⟩
  case rest =>
  obtain ⟨ht11, hwd⟩ := hcut
  subst ht11
  replace hwd := hwd.symm
  subst hwd
  go_upto_block 0 with fail
  go_cut [11, 32, 12] (fun _ _ _ wx => Hid (∃ (hd' : HeadP) (v' : Value) (ys' : List (ItemP × Value)), BentAt w B P wx b9 hd' v' ys' ∧ bentK ⟨⟨pc, ps, pr, pl⟩, its⟩ kb n at' = ⟨hd', ys'.map (·.1)⟩ ∧ ys'.length = m))
  case first =>
    have HBH := Lib.hid (fun i x hd' hx => HA.out.head i x hd' hx)
    obtain ⟨c0, c1, c2, c3, c4⟩ := pfive HA.out.2.2.2.1
    have zf : ∀ j, W.frozen? ⟨b9, j, none⟩ = false := fun j => by unfold World.frozen?; rw [HA.out.2.2.2.1]; simp
    rcases (by omega : kb = 0 ∨ kb = 1 ∨ kb = 2 ∨ kb = 3 ∨ 4 ≤ kb) with hk | hk | hk | hk | h4
    · have ez : (kb : Int) = 0 := by omega
      have HK := Lib.hid hk
      have HN := Lib.hid (HBH.out 0 (.int .i64 n) ⟨n, ps, pr, pl⟩ rfl)
      rw [ez]
      clear hk ez
      go_wp2
      go_meet
      case rel => exact Lib.hid ⟨⟨n, ps, pr, pl⟩, _, ys0, HN.out, by rw [HK.out, HYS.out]; rfl, HLEN.out⟩
    · have ez : (kb : Int) = 1 := by omega
      have HK := Lib.hid hk
      have HN := Lib.hid (HBH.out 1 (.int .i64 n) ⟨pc, n, pr, pl⟩ rfl)
      rw [ez]
      clear hk ez
      go_wp2
      go_meet
      case rel => exact Lib.hid ⟨⟨pc, n, pr, pl⟩, _, ys0, HN.out, by rw [HK.out, HYS.out]; rfl, HLEN.out⟩
    · have ez : (kb : Int) = 2 := by omega
      have HK := Lib.hid hk
      rw [ez]
      clear hk ez
      go_wp2_with (go_at_call 57; refine (r2sum_any pr _ (by omega)).mono ?_; rintro e w5 ⟨rfl, hb5⟩; have HA5 := Lib.hid (HA.out.far hb5); obtain ⟨d0, d1, d2, d3, d4⟩ := pfive HA5.out.2.2.2.1; (have zf5 : ∀ j, w5.frozen? ⟨b9, j, none⟩ = false := fun j => by unfold World.frozen?; rw [HA5.out.2.2.2.1]; simp); clear c0 c1 c2 c3 c4 zf hb5)
      go_meet
      case rel => exact Lib.hid ⟨⟨pc, ps, sumS pr, pl⟩, _, ys0, HA5.out.head 2 (.string (sumS pr)) ⟨pc, ps, sumS pr, pl⟩ rfl, by rw [HK.out, HYS.out]; rfl, HLEN.out⟩
    · have ez : (kb : Int) = 3 := by omega
      have HK := Lib.hid hk
      obtain ⟨PS, hPS⟩ : ∃ z, IntKind.i64.wrap (ps + 1) = z := ⟨_, rfl⟩
      have HPS := Lib.hid hPS
      have HN := Lib.hid (HBH.out 1 (.int .i64 PS) ⟨pc, PS, pr, pl⟩ rfl)
      rw [ez]
      clear hk ez
      go_wp2
      go_meet
      case rel => exact Lib.hid ⟨⟨pc, PS, pr, pl⟩, _, ys0, HN.out, by rw [HK.out, HYS.out, ← HPS.out]; rfl, HLEN.out⟩
    · have hm0 : 0 < m := by rcases Nat.eq_zero_or_pos m with h | h <;> omega
      obtain ⟨q0, q1⟩ := pickI_range at' (n := (m : Int)) (by omega)
      have HPA := Lib.hid (fun W => rpick_any at' ((m : Nat) : Int) W HIA.out (by omega) (by omega))
      obtain ⟨j, hj⟩ := Int.eq_ofNat_of_zero_le q0
      have HJ : Hid ((pickI at' its.length).toNat = j) := Lib.hid (by rw [← HM.out, hj]; rfl)
      rw [hj] at HPA q1
      have hjm : j < m := by omega
      clear hj q0 q1
      obtain ⟨g, rfl⟩ : ∃ g, a8 = some ⟨g, 0, none⟩ := by
        rcases HA.out.2.2.2.2.1.2 with ⟨e, _⟩ | ⟨g, cap, cur, e, _⟩
        · cases e; omega
        · injection e with e; exact ⟨g, e⟩
      obtain ⟨y, ey⟩ : ∃ y, ys0[j]? = some y := ⟨_, List.getElem?_eq_getElem (by rw [HLEN.out]; exact hjm)⟩
      have HEY := Lib.hid ey
      have HYE : Hid (y.1.ent.size ≤ 100000) := Lib.hid (HEN.out y.1 (by rw [← HYS.out]; exact List.mem_map.2 ⟨y, List.mem_of_getElem? ey, rfl⟩))
      clear ey
      rcases (by omega : kb = 4 ∨ kb = 5 ∨ kb = 6) with hk | hk | hk
      · have ez : (kb : Int) = 4 := by omega
        have HK := Lib.hid hk
        have HEn := Lib.hid (fun W => entry_any n HIN.out W)
        rw [ez]
        clear hk ez h4
        have HS0 : Hid (BentKept w B P b9 ⟨pc, ps, pr, pl⟩ (.slice (some ⟨g, 0, none⟩) m c8) W W.drew) := Lib.hid ⟨Nat.le_refl _, ys0, HA.out.far (Below.drew (Below.refl _ _))⟩
        have HA1 := Lib.hid (HA.out.far (Below.drew (Below.refl _ _)))
        go_upto_region 17 with fail
        refine wp_region_noPanic ?_
        refine wp_region_lexF [.q 0, .q 1, .q 2, .q 3, .q 4, .q 5, .q 7, .b 6, .b 8, .q 9, .q 10, .b 11] (BentKept w B P b9 ⟨pc, ps, pr, pl⟩ (.slice (some ⟨g, 0, none⟩) m c8) W) (by kernel_rfl) (by kernel_rfl) (fun _ _ _ _ h => h) BentKept.more HS0.out ?_
        iterate 7 (refine wpFl_qL (v := ?_) rfl (Or.inl ⟨by rfl, ?_⟩) ?_; rotate_left; (focus (intro w' hSw; (try dsimp only [OldKept] at hSw); obtain ⟨_, ys', hSw⟩ := hSw; have k4 := (pfive hSw.2.2.2.1).2.2.2.2; go_simp; (try with_reducible rfl); done)); simp only [Act.put, List.setIfInBounds_toArray, List.set_cons_zero, List.set_cons_succ])
        refine wpFl_bS rfl (fun w3 hn3 hs3 K hK => ?_)
        go_simp
        go_at_call 53
        (with_reducible refine (HPA.out _).mono ?_)
        rintro e w' ⟨rfl, hw'⟩
        replace hw' := hw'.symm
        subst hw'
        refine hK.out _ _ hs3 hs3.1 (Keeps.below (Below.refl _ _)) ?_
        have HA3 := Lib.hid (HA1.out.far hn3)
        clear hK K hn3 hs3
        refine wpFl_bS rfl (fun w4 hn4 hs4 K hK => ?_)
        go_simp
        go_at_call 51
        (with_reducible refine (HEn.out _).mono ?_)
        rintro e w5 ⟨rfl, hb5⟩
        refine hK.out _ _ (BentKept.more _ _ hs4 hb5) (Nat.le_trans hs4.1 hb5.size) (Keeps.below hb5) ?_
        have HA5 := Lib.hid ((HA3.out.far hn4).far hb5)
        clear hK K hn4 hs4 hb5
        iterate 2 (refine wpFl_qL (v := ?_) rfl (Or.inl ⟨by rfl, ?_⟩) ?_; rotate_left; (focus (intro w' hSw; (try dsimp only [OldKept] at hSw); go_simp; (try with_reducible rfl); done)); simp only [Act.put, List.setIfInBounds_toArray, List.set_cons_zero, List.set_cons_succ])
        refine wpFl_bS rfl (fun w6 hn6 hs6 K hK => ?_)
        have HA6 := Lib.hid (HA5.out.far hn6)
        obtain ⟨e0, e1⟩ := HA6.out.cells j y HEY.out
        have e2 := HA6.out.free
        have HN := Lib.hid (HA6.out.ent j y HEY.out (entryS n))
        go_simp
        refine hK.out _ _ ⟨by simpa using hs6.1, _, HN.out⟩ (by simpa using hs6.1) Keeps.nil ?_
        clear hK K hn6 hs6 e0 e1 e2
        refine wpFl_nil ?_
        refine NoPanic.normal ?_
        go_wp2
        go_meet
        case rel => exact Lib.hid ⟨⟨pc, ps, pr, pl⟩, _, _, HN.out, by rw [HK.out, bentI_map ys0 j y HEY.out (fun x => { x with ent := entryS n }) y.2, HYS.out, ← HJ.out]; rfl, by rw [List.length_set]; exact HLEN.out⟩
      · have ez : (kb : Int) = 5 := by omega
        have HK := Lib.hid hk
        rw [ez]
        clear hk ez h4
        have HS0 : Hid (BentKept w B P b9 ⟨pc, ps, pr, pl⟩ (.slice (some ⟨g, 0, none⟩) m c8) W W.drew) := Lib.hid ⟨Nat.le_refl _, ys0, HA.out.far (Below.drew (Below.refl _ _))⟩
        have HA1 := Lib.hid (HA.out.far (Below.drew (Below.refl _ _)))
        go_upto_region 19 with fail
        refine wp_region_noPanic ?_
        refine wp_region_lexF [.q 0, .q 1, .q 2, .q 3, .q 4, .q 5, .q 7, .b 6, .q 8, .q 9, .b 10] (BentKept w B P b9 ⟨pc, ps, pr, pl⟩ (.slice (some ⟨g, 0, none⟩) m c8) W) (by kernel_rfl) (by kernel_rfl) (fun _ _ _ _ h => h) BentKept.more HS0.out ?_
        iterate 7 (refine wpFl_qL (v := ?_) rfl (Or.inl ⟨by rfl, ?_⟩) ?_; rotate_left; (focus (intro w' hSw; (try dsimp only [OldKept] at hSw); obtain ⟨_, ys', hSw⟩ := hSw; have k4 := (pfive hSw.2.2.2.1).2.2.2.2; go_simp; (try with_reducible rfl); done)); simp only [Act.put, List.setIfInBounds_toArray, List.set_cons_zero, List.set_cons_succ])
        refine wpFl_bS rfl (fun w3 hn3 hs3 K hK => ?_)
        go_simp
        go_at_call 53
        (with_reducible refine (HPA.out _).mono ?_)
        rintro e w' ⟨rfl, hw'⟩
        replace hw' := hw'.symm
        subst hw'
        refine hK.out _ _ hs3 hs3.1 (Keeps.below (Below.refl _ _)) ?_
        have HA5 := Lib.hid (HA1.out.far hn3)
        clear hK K hn3 hs3
        iterate 2 (refine wpFl_qL (v := ?_) rfl (Or.inl ⟨by rfl, ?_⟩) ?_; rotate_left; (focus (intro w' hSw; (try dsimp only [OldKept] at hSw); go_simp; (try with_reducible rfl); done)); simp only [Act.put, List.setIfInBounds_toArray, List.set_cons_zero, List.set_cons_succ])
        refine wpFl_bS rfl (fun w6 hn6 hs6 K hK => ?_)
        have HA6 := Lib.hid (HA5.out.far hn6)
        obtain ⟨e0, e1⟩ := HA6.out.cells j y HEY.out
        have e2 := HA6.out.free
        have HN := Lib.hid (HA6.out.idx j y HEY.out n)
        go_simp
        refine hK.out _ _ ⟨by simpa using hs6.1, _, HN.out⟩ (by simpa using hs6.1) Keeps.nil ?_
        clear hK K hn6 hs6 e0 e1 e2
        refine wpFl_nil ?_
        refine NoPanic.normal ?_
        go_wp2
        go_meet
        case rel => exact Lib.hid ⟨⟨pc, ps, pr, pl⟩, _, _, HN.out, by rw [HK.out, bentI_map ys0 j y HEY.out (fun x => { x with idx := n }) y.2, HYS.out, ← HJ.out]; rfl, by rw [List.length_set]; exact HLEN.out⟩
      · have ez : (kb : Int) = 6 := by omega
        have HK := Lib.hid hk
        obtain ⟨⟨yi, yE, yp⟩, ypv⟩ := y
        have hes := HYE.out
        have hxs : ((yE ++ ⟨#[120]⟩ : ByteArray)).size = yE.size + 1 := ByteArray.size_append
        obtain ⟨e0, e1⟩ := HA.out.cells j _ HEY.out
        have e2 := HA.out.free
        simp only at hes e0 e1
        rw [ez]
        clear hk ez h4
        have HN := Lib.hid ((HA.out.far (Below.drew (Below.refl _ _))).ent j _ HEY.out (yE ++ ⟨#[120]⟩))
        go_upto_region 7 with (go_at_call 53; (with_reducible refine (HPA.out _).mono ?_); rintro e w' ⟨rfl, hw'⟩; replace hw' := hw'.symm; subst hw')
        go_region
        all_goals
          go_wp2
          go_meet
          case rel => exact Lib.hid ⟨⟨pc, ps, pr, pl⟩, _, _, HN.out, by rw [HK.out, bentI_map ys0 j _ HEY.out (fun x => { x with ent := x.ent ++ ⟨#[120]⟩ }) ypv, HYS.out, ← HJ.out]; rfl, by rw [List.length_set]; exact HLEN.out⟩
  case rest =>
  obtain ⟨⟨dc, ds, dr, dl⟩, v', ys', hB, hbk, hyl⟩ := hcut.out
  obtain ⟨va, vc, hv'⟩ := OwnE.form hB.2.2.2.2.1
  rw [itcells_len, hyl] at hv'
  subst hv'
  have HB := Lib.hid hB
  have HBK2 := Lib.hid hbk
  rw [HPE.out] at HB
  have HI1 : Hid (∀ W', Below wc.heap.size wc W' → IT W' (.slice va m vc) (ys'.map (·.1))) := Lib.hid (fun W' hW => ⟨ys', rfl, (HB.out.far hW).is⟩)
  have HI2 : Hid (∀ W', Below wc.heap.size wc W' → IT W' (.slice ia m ic) its) := Lib.hid (fun W' hW => HITS.out.below (below_next HB.out.1 hW))
  have HS0 : Hid (EndKept w b9 wc (#[.int .i64 pc, .int .i64 ps, .string pr, .string pl, .slice ia m ic]) (#[.int .i64 dc, .int .i64 ds, .string dr, .string dl, .slice va m vc]) wc.drew) := Lib.hid ⟨Nat.le_refl _, HB.out.2.1, HB.out.2.2.2.1⟩
  clear hB hbk hyl hcut HPE
  by_cases hh : (⟨dc, ds, dr, dl⟩ : HeadP) = ⟨pc, ps, pr, pl⟩
  · injection hh with e1 e2 e3 e4
    subst e1 e2 e3 e4
    obtain ⟨b, hb⟩ : ∃ b, b = decide (ys'.map (·.1) = its) := ⟨_, rfl⟩
    have HBD := Lib.hid hb
    clear hb
    go_upto_region 20 with fail
    refine wp_region_noPanic ?_
    refine wp_region_lexF [.q 0, .q 1, .q 2, .q 3, .q 4, .q 5, .q 6, .q 7, .q 8, .q 9, .q 10, .b 11, .q 12, .q 13, .b 14, .q 15] (EndKept w b9 wc (#[.int .i64 dc, .int .i64 ds, .string dr, .string dl, .slice ia m ic]) (#[.int .i64 dc, .int .i64 ds, .string dr, .string dl, .slice va m vc])) (by kernel_rfl) (by kernel_rfl) (fun _ _ _ _ h => h) EndKept.more HS0.out ?_
    have HDEC : Hid (decide (bentK ⟨⟨dc, ds, dr, dl⟩, its⟩ kb n at' ≠ ⟨⟨dc, ds, dr, dl⟩, its⟩) = !b) := Lib.hid (by
      rw [HBK2.out, HBD.out]
      by_cases h : ys'.map (·.1) = its
      · rw [decide_eq_true h]; exact decide_eq_false (fun e => e (by rw [h]))
      · rw [decide_eq_false h]; exact decide_eq_true (fun e => h (congrArg (fun p : PartP => p.items) e)))
    iterate 11 (refine wpFl_qL (v := ?_) rfl (Or.inl ⟨by rfl, ?_⟩) ?_; rotate_left; (focus (intro w' hSw; (try dsimp only [OldKept] at hSw); obtain ⟨⟨c0, c1, c2, c3, c4⟩, d0, d1, d2, d3, d4⟩ := hSw.cells; go_simp; (try with_reducible rfl); done)); simp only [Act.put, List.setIfInBounds_toArray, List.set_cons_zero, List.set_cons_succ])
    refine wpFl_bS rfl (fun w3 hn3 hs3 K hK => ?_)
    go_simp
    go_at_call 28
    have hb3 : Below wc.heap.size wc w3 := below_next (Below.drew (Below.refl _ _)) hn3
    have hsi := sameItems_any (HI1.out _ hb3) (HI2.out _ hb3)
    rw [← HBD.out] at hsi
    refine hsi.mono ?_
    clear hsi
    rintro e w4 ⟨rfl, hb4⟩
    have HB4 := Lib.hid ((HB.out.far hb3).far hb4)
    refine hK.out _ _ (EndKept.more _ _ hs3 hb4) (Nat.le_trans hs3.1 hb4.size) (Keeps.below hb4) ?_
    clear hK K hn3 hs3 hb3 hb4
    iterate 2 (refine wpFl_qL (v := ?_) rfl (Or.inl ⟨by rfl, ?_⟩) ?_; rotate_left; (focus (intro w' hSw; (try dsimp only [OldKept] at hSw); go_simp; (try with_reducible rfl); done)); simp only [Act.put, List.setIfInBounds_toArray, List.set_cons_zero, List.set_cons_succ])
    refine wpFl_bS rfl (fun w6 hn6 hs6 K hK => ?_)
    have HB6 := Lib.hid (HB4.out.far hn6)
    obtain ⟨c0, c1, c2, c3, c4⟩ := pfive HB6.out.2.2.1
    have c5 : ∀ j, w6.frozen? ⟨w.heap.size + 1, j, none⟩ = false := fun j => by unfold World.frozen?; rw [HB6.out.2.2.1]; simp [zpartB]
    have HF := Lib.hid (HB6.out.store (.int .i64 dc) (.int .i64 ds) (.string dr) (.string dl) (.slice va m vc))
    go_simp
    refine hK.out _ _ ⟨Nat.le_trans hs6.1 HF.out.2.2.2.1, HF.out.2.2.2.2.1.trans hs6.2.1, HF.out.2.2.2.2.2.trans hs6.2.2⟩ (Nat.le_trans hs6.1 HF.out.2.2.2.1) Keeps.nil ?_
    clear hK K hn6 hs6 c0 c1 c2 c3 c4 c5
    generalize (((((w6.setCell ⟨w.heap.size + 1, 0, none⟩ (.int .i64 dc)).setCell ⟨w.heap.size + 1, 1, none⟩ (.int .i64 ds)).setCell ⟨w.heap.size + 1, 2, none⟩ (.string dr)).setCell ⟨w.heap.size + 1, 3, none⟩ (.string dl)).setCell ⟨w.heap.size + 1, 4, none⟩ (.slice va m vc)) = wz at *
    refine wpFl_qL (v := ?_) rfl (Or.inl ⟨by rfl, ?_⟩) ?_
    rotate_left
    focus (intro w' hSw; (try dsimp only [OldKept] at hSw); go_simp; (try with_reducible rfl); done)
    simp only [Act.put, List.setIfInBounds_toArray, List.set_cons_zero, List.set_cons_succ]
    refine wpFl_nil ?_
    refine NoPanic.normal ?_
    go_wp2
    refine bodyPost_ret (results_cellA_tmp rfl _ (w.heap.size + 1) 38 #[.int .i64 dc, .int .i64 ds, .string dr, .string dl, .slice va m vc] (0, 0) _ rfl HF.out.2.1 Tryz.underlying38 rfl infoPart) rfl ⟨.slice va m vc, ?_, ?_, HF.out.1⟩
    · rw [HDEC.out, HBK2.out]
      rfl
    · rw [HBK2.out]
      exact ⟨ys', rfl, HF.out.2.2.1⟩
  · have HDEC : Hid (decide (bentK ⟨⟨pc, ps, pr, pl⟩, its⟩ kb n at' ≠ ⟨⟨pc, ps, pr, pl⟩, its⟩) = true) := Lib.hid (by
      rw [HBK2.out]
      exact decide_eq_true (fun e => hh (congrArg (fun p : PartP => p.head) e)))
    have HHN := Lib.hid hh
    have hne : ¬ (dc = pc ∧ ds = ps ∧ dr = pr ∧ dl = pl) := fun ⟨a, b, c, d⟩ => HHN.out (by rw [a, b, c, d])
    clear hh
    go_upto_region 20 with fail
    refine wp_region_noPanic ?_
    refine wp_region_lexF [.q 0, .q 1, .q 2, .q 3, .q 4, .q 5, .q 6, .q 7, .q 8, .q 9, .q 10, .q 11, .q 12, .q 13, .b 14, .q 15] (EndKept w b9 wc (#[.int .i64 pc, .int .i64 ps, .string pr, .string pl, .slice ia m ic]) (#[.int .i64 dc, .int .i64 ds, .string dr, .string dl, .slice va m vc])) (by kernel_rfl) (by kernel_rfl) (fun _ _ _ _ h => h) EndKept.more HS0.out ?_
    iterate 5 (refine wpFl_qL (v := ?_) rfl (Or.inl ⟨by rfl, ?_⟩) ?_; rotate_left; (focus (intro w' hSw; (try dsimp only [OldKept] at hSw); obtain ⟨⟨c0, c1, c2, c3, c4⟩, d0, d1, d2, d3, d4⟩ := hSw.cells; go_simp; (try with_reducible rfl); done)); simp only [Act.put, List.setIfInBounds_toArray, List.set_cons_zero, List.set_cons_succ])
    refine wpFl_qL (v := .bool true) rfl (Or.inl ⟨by rfl, ?_⟩) ?_
    focus (intro w' hSw; go_simp; exact fun a b c d => hne ⟨a, b, list_str c, list_str d⟩; done)
    simp only [Act.put, List.setIfInBounds_toArray, List.set_cons_zero, List.set_cons_succ]
    refine wpFl_qL (v := ?_) rfl (Or.inl ⟨by rfl, ?_⟩) ?_
    rotate_left
    focus (intro w' hSw; (try dsimp only [OldKept] at hSw); go_simp; (try with_reducible rfl); done)
    simp only [Act.put, List.setIfInBounds_toArray, List.set_cons_zero, List.set_cons_succ]
    iterate 6 (refine wpFl_qL (v := undef) rfl (Or.inr ⟨by rfl, rfl⟩) ?_; simp only [Act.put, List.setIfInBounds_toArray, List.set_cons_zero, List.set_cons_succ])
    refine wpFl_qL (v := ?_) rfl (Or.inl ⟨by rfl, ?_⟩) ?_
    rotate_left
    focus (intro w' hSw; (try dsimp only [OldKept] at hSw); go_simp; (try with_reducible rfl); done)
    simp only [Act.put, List.setIfInBounds_toArray, List.set_cons_zero, List.set_cons_succ]
    refine wpFl_bS rfl (fun w6 hn6 hs6 K hK => ?_)
    have HB6 := Lib.hid (HB.out.far (below_next (Below.drew (Below.refl _ _)) hn6))
    obtain ⟨c0, c1, c2, c3, c4⟩ := pfive HB6.out.2.2.1
    have c5 : ∀ j, w6.frozen? ⟨w.heap.size + 1, j, none⟩ = false := fun j => by unfold World.frozen?; rw [HB6.out.2.2.1]; simp [zpartB]
    have HF := Lib.hid (HB6.out.store (.int .i64 dc) (.int .i64 ds) (.string dr) (.string dl) (.slice va m vc))
    go_simp
    refine hK.out _ _ ⟨Nat.le_trans hs6.1 HF.out.2.2.2.1, HF.out.2.2.2.2.1.trans hs6.2.1, HF.out.2.2.2.2.2.trans hs6.2.2⟩ (Nat.le_trans hs6.1 HF.out.2.2.2.1) Keeps.nil ?_
    clear hK K hn6 hs6 c0 c1 c2 c3 c4 c5
    generalize (((((w6.setCell ⟨w.heap.size + 1, 0, none⟩ (.int .i64 dc)).setCell ⟨w.heap.size + 1, 1, none⟩ (.int .i64 ds)).setCell ⟨w.heap.size + 1, 2, none⟩ (.string dr)).setCell ⟨w.heap.size + 1, 3, none⟩ (.string dl)).setCell ⟨w.heap.size + 1, 4, none⟩ (.slice va m vc)) = wz at *
    refine wpFl_qL (v := ?_) rfl (Or.inl ⟨by rfl, ?_⟩) ?_
    rotate_left
    focus (intro w' hSw; (try dsimp only [OldKept] at hSw); go_simp; (try with_reducible rfl); done)
    simp only [Act.put, List.setIfInBounds_toArray, List.set_cons_zero, List.set_cons_succ]
    refine wpFl_nil ?_
    refine NoPanic.normal ?_
    go_wp2
    refine bodyPost_ret (results_cellA_tmp rfl _ (w.heap.size + 1) 38 #[.int .i64 dc, .int .i64 ds, .string dr, .string dl, .slice va m vc] (0, 0) _ rfl HF.out.2.1 Tryz.underlying38 rfl infoPart) rfl ⟨.slice va m vc, ?_, ?_, HF.out.1⟩
    · rw [HDEC.out, HBK2.out]
      rfl
    · rw [HBK2.out]
      exact ⟨ys', rfl, HF.out.2.2.1⟩
end Go.Proofs.YtinfpbkbnhcifaaGreatDoor

/- More contracts of the laws' walks, for whatever world comes after one that is known. The conditions: what is known, lengths. -/
namespace Go.Proofs.YtinfpbkbnhcifaaGreatDoor
open Go.RowKit Go.BigFrame
theorem bent_fit (p : PartP) (how n at' : Int) (h : FitOne p) : FitOne (bentP p how n at') := by
  unfold bentP
  refine ⟨bentK_root p _ n at' h.1, by rw [bentK_len]; exact h.2.1, ?_⟩
  exact bentK_items (fun x => x.prf.length ≤ 1000) p _ n at' h.2.2 (fun x hx => hx) (fun x hx => hx) (fun x hx => hx)
section
variable {w0 w : World} {ls : List Dat}
end
end Go.Proofs.YtinfpbkbnhcifaaGreatDoor
