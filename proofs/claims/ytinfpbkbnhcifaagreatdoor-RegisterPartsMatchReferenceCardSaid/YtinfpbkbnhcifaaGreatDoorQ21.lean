/- The reference's SHA-256: Sum, Leaf, Node. The condition: the length. -/
import Derived.Test.YtinfpbkbnhcifaaGreatDoorQ20
import Derived.Test.YtinfpbkbnhcifaaGreatDoorQ05
import Derived.Test.YtinfpbkbnhcifaaGreatDoorQ12
import Derived.Test.YtinfpbkbnhcifaaGreatDoorQ17
import Derived.Test.YtinfpbkbnhcifaaGreatDoorQ09
namespace Go.Proofs.YtinfpbkbnhcifaaGreatDoor
open Go.RowKit Go.BigFrame

theorem bcells_sub {W : World} {g off n c : Nat} {l : List Nat} (h : SliceAt W (.slice (some ⟨g, off, none⟩) n c) 1 (bcells l)) (a m : Nat) (hm : 0 < m) (ham : a + m ≤ l.length) : SliceAt W (.slice (some ⟨g, off + a, none⟩) m (c - a)) 1 (bcells ((l.drop a).take m)) := by
  obtain ⟨b, o, cap, e, h1, h2, h3, h4⟩ := h.bcell' (by omega)
  injection e with e1 e2 e3
  cases e1
  subst e2 e3
  have hl : ((l.drop a).take m).length = m := by rw [List.length_take, List.length_drop]; omega
  refine ⟨_, c - a, by rw [bcells_len, hl], by rw [bcells_len, hl]; omega, by omega, .inr ⟨g, off + a, rfl, h3, fun i cc hi j u hj => ?_⟩⟩
  unfold bcells at hi
  rw [List.getElem?_map] at hi
  obtain ⟨y, hy, rfl⟩ := Option.map_eq_some_iff.1 hi
  have hj0 : j = 0 := by have := (List.getElem?_eq_some_iff.1 hj).1; simp at this; omega
  subst hj0
  rw [List.getElem?_take] at hy
  split at hy
  · rw [List.getElem?_drop] at hy
    have := h4 _ y hy
    rw [Nat.mul_one, Nat.add_zero, show off + a + i = off + (a + i) by omega, this]
    simpa using hj
  · cases hy

section
variable {ops : Array Oper} {rest : List Oper} {o : Oper} {a : Act} {w : World} {Q : Exit → Act → World → Prop}
theorem wpList_append_four (s x : Operand) (base : Nat) (v : Value) (xs : List Nat) (b : Nat) (y0 y1 y2 y3 : Int) (n0 n1 n2 n3 : Nat) (e0 : y0 = n0) (e1 : y1 = n1) (e2 : y2 = n2) (e3 : y3 = n3) (fr : Nat × Nat) (hown : OwnB w base v xs) (hlen : xs.length ≤ 1100000000) (hbase : base ≤ w.heap.size)
    (hb : w.heap[b]? = some (.cells #[.int .u8 y0, .int .u8 y1, .int .u8 y2, .int .u8 y3] 5 fr)) (hgd : o.guard = none) (ho : o.op = .call { callee := .builtin .append, args := #[s, x], argTypes := #[88, 88] }) (hs : a.eval s = v) (hx : a.eval x = .slice (some ⟨b, 0, none⟩) 4 4)
    (h : ∀ v' w', OwnB w' base v' (xs ++ [n0, n1, n2, n3]) → w.grownBy w' v.ownBlock → wpList Tryz.prog ops Q rest (a.put o.dst v') w') : wpList Tryz.prog ops Q (o :: rest) a w := by
  subst e0 e1 e2 e3
  obtain ⟨i, i1, i2, i3, i4⟩ := info_parts infoByte
  refine wpList_append_own w hgd s x 88 ho base 5 i _ 1 1 (by kernel_rfl) i1 i2 i3 i4 rfl (by decide) v _ _ hs hown ⟨b, 0, none⟩ 4 4 [.int .u8 (n0 : Nat), .int .u8 (n1 : Nat), .int .u8 (n2 : Nat), .int .u8 (n3 : Nat)] hx rfl ?_ ?_ (by rw [bcells_len]; unfold maxLen; omega) (by rw [bcells_len]; omega) hbase ?_
  · intro j u hj
    rw [Addr.add_mid, cell_of_row w _ (0 + j) _ _ _ hb, Nat.zero_add, List.getElem?_toArray]
    exact hj
  · intro u hu
    simp at hu
    rcases hu with rfl | rfl | rfl | rfl <;> rfl
  · intro v' w' h1 h2 _
    refine h v' w' ?_ h2
    unfold OwnB OwnE
    have e : bcells (xs ++ [n0, n1, n2, n3]) = bcells xs ++ [[.int .u8 (n0 : Nat)], [.int .u8 (n1 : Nat)], [.int .u8 (n2 : Nat)], [.int .u8 (n3 : Nat)]] := by unfold bcells; rw [List.map_append]; rfl
    rw [e, List.length_append, List.flatten_append]
    simpa using h1
end

theorem wordsB_take (l : List Nat) (k x : Nat) (h : l[k]? = some x) : wordsB (l.take (k + 1)) = wordsB (l.take k) ++ [x / 16777216 % 256, x / 65536 % 256, x / 256 % 256, x % 256] := by
  rw [take_snoc h, wordsB_snoc]; rfl
theorem OwnB.cells {w : World} {base : Nat} {v : Value} {l : List Nat} (h : OwnB w base v l) (hl : 0 < l.length) : ∃ b off cap, v = .slice (some ⟨b, off, none⟩) l.length cap ∧ l.length ≤ cap ∧ cap ≤ maxLen ∧ b < w.heap.size ∧ ∀ k n, l[k]? = some n → w.cell? ⟨b, off + k, none⟩ = some (.int .u8 (n : Nat)) := h.bs.bcell' hl

set_option maxHeartbeats 8000000 in
set_option maxRecDepth 100000 in
theorem r2sum_any (s : ByteArray) (w : World) (hs : s.size ≤ 1000000000) :
    Calls Tryz.prog 57 #[.string s] w fun e w' => e = .returned (.string (sumS s)) ∧ Below w.heap.size w w' := by
  have HD8 : Hid (∀ y ∈ padN (bytesS s), y < 256) := Lib.hid (padN_lt _ (bytesS_lt s))
  obtain ⟨N1, hN1⟩ := padN_length (bytesS s)
  have hN9 : 64 * (N1 + 1) ≤ 1000000100 := by
    have e : (padN (bytesS s)).length = s.size + 1 + zerosN s.size + 8 := by
      unfold padN lenBytes
      simp only [List.length_append, List.length_cons, List.length_replicate, List.length_nil, bytesS_length]
      omega
    have := zeros_le s.size
    omega
  have HSS : Hid (sumS s = strOf (bytesOfH (upB (padN (bytesS s)) (N1 + 1)))) := Lib.hid (by rw [sumS_eq, shaN_up _ _ hN1])
  obtain ⟨N, hN⟩ : ∃ N, N = N1 + 1 := ⟨_, rfl⟩
  rw [← hN] at HSS hN1 hN9
  have hNpos : 0 < N := by omega
  have HE := Lib.hid (fun W => extended_any s W hs)
  obtain ⟨D, hD⟩ : ∃ D, D = padN (bytesS s) := ⟨_, rfl⟩
  rw [← hD] at HD8 HSS hN1 HE
  have HDl := Lib.hid hN1
  obtain ⟨R, hR⟩ : ∃ R, R = sumS s := ⟨_, rfl⟩
  rw [← hR] at HSS ⊢
  clear hR hD hN hN1
  obtain ⟨V, hV⟩ : ∃ V : Nat → H8, V = upB D := ⟨_, rfl⟩
  have HV : Hid (V 0 = h0N ∧ (∀ k, V (k + 1) = blockH (V k) ((D.drop (64 * k)).take 64)) ∧ (∀ k, H32 (V k)) ∧ R = strOf (bytesOfH (V N))) := Lib.hid (by
    rw [hV]
    exact ⟨rfl, fun _ => rfl, fun k => upB_32 D k, HSS.out⟩)
  clear hV HSS
  go_enter Tryz.func57, Tryz.ntmps57
  go_wp2_with (go_at_call 87; refine (HE.out _).mono ?_; rintro e w2 ⟨vd, rfl, ho2, hb2⟩; have HO2 := Lib.hid ho2; have HB2 := Lib.hid hb2; clear ho2 hb2)
  have HW1 : Hid (WS (w.alloc (.cells #[.int .u32 1779033703, .int .u32 3144134277, .int .u32 1013904242, .int .u32 2773480762, .int .u32 1359893119, .int .u32 2600822924, .int .u32 528734635, .int .u32 1541459225] 114)) (.slice (some ⟨w.heap.size, 0, none⟩) 8 8) (hl h0N)) := Lib.hid (WS.lit (hl h0N) (heap_alloc_new w _) rfl (by decide))
  have HB1 : Hid (Below w.heap.size w (w.alloc (.cells #[.int .u32 1779033703, .int .u32 3144134277, .int .u32 1013904242, .int .u32 2773480762, .int .u32 1359893119, .int .u32 2600822924, .int .u32 528734635, .int .u32 1541459225] 114))) := Lib.hid ((Below.refl _ _).alloc (Nat.le_refl _) _)
  generalize w.alloc (.cells #[.int .u32 1779033703, .int .u32 3144134277, .int .u32 1013904242, .int .u32 2773480762, .int .u32 1359893119, .int .u32 2600822924, .int .u32 528734635, .int .u32 1541459225] 114) = w1 at *
  have HV0 : Hid (WS w2 (.slice (some ⟨w.heap.size, 0, none⟩) 8 8) (hl (V 0))) := Lib.hid (by rw [HV.out.1]; exact HW1.out.below HB2.out)
  have HB02 := Lib.hid (HB1.out.trans (HB2.out.mono HB1.out.size))
  obtain ⟨gd, od, cd, hv, d1, d2, hgd, _⟩ := HO2.out.cells (by rw [HDl.out]; omega)
  rw [HDl.out] at hv d1
  subst hv
  unfold maxLen at d2
  have HDS : Hid (SliceAt w2 (.slice (some ⟨gd, od, none⟩) (64 * N) cd) 1 (bcells D)) := Lib.hid HO2.out.bs
  clear HW1 HB1 HB2 HO2 HE
  go_loopw [3, 5] (fun v i wr => ∃ k : Nat, k ≤ N ∧ i = .int .i64 ((64 * k : Nat) : Int) ∧ Hid (WS wr v (hl (V k))) ∧ Hid (Below w2.heap.size w2 wr)) (fun _ i _ => 64 * N - (intOf i).toNat)
  case atStart => exact ⟨0, by omega, by simp, HV0, Lib.hid (Below.refl _ _)⟩
  case round =>
    obtain ⟨k, hk, rfl, hS, hB⟩ := hrel
    obtain ⟨gh, oh, ch, hv, q1, q2, hgh, hc3⟩ := hS.out.opened (by simp [hl])
    have h8l : (hl (V k)).length = 8 := rfl
    rw [h8l] at hv q1
    subst hv
    unfold maxLen at q2
    have hws := hB.out.size
    by_cases hlt : k < N
    · have HBk : Hid (Calls Tryz.prog 88 #[.slice (some ⟨gh, oh, none⟩) 8 ch, .slice (some ⟨gd, od + 64 * k, none⟩) 64 (cd - 64 * k)] wr fun e w' => ∃ v, e = .returned v ∧ WS w' v (hl (V (k + 1))) ∧ Below wr.heap.size wr w') := Lib.hid (by
        rw [HV.out.2.1 k]
        exact block_any hS.out (HV.out.2.2.1 k) (bcells_sub (HDS.out.below hB.out) (64 * k) 64 (by omega) (by rw [HDl.out]; omega)) (by rw [List.length_take, List.length_drop, HDl.out]; omega) (fun x hx => HD8.out x (List.mem_of_mem_drop (List.mem_of_mem_take hx))))
      have t1 : ((64 * k : Nat) : Int) < ((64 * N : Nat) : Int) := by omega
      have f1 : IntKind.i64.wrap (((64 * k : Nat) : Int) + 64) = ((64 * (k + 1) : Nat) : Int) := by rw [IntWalk.i64_in _ (by omega)]; omega
      clear hc3
      go_wp2_with (go_at_call 88; refine HBk.out.mono ?_; rintro e w3 ⟨v3, rfl, hs3, hb3⟩; have HS3 := Lib.hid hs3; have HB3 := Lib.hid (hB.out.trans (hb3.mono hws)); clear hs3 hb3)
      go_roundw
      case rel => exact ⟨k + 1, by omega, by congr 1, HS3, HB3⟩
      case measure => simp [intOf]; omega
    · have eN : k = N := by omega
      have t1 : ¬ ((64 * k : Nat) : Int) < ((64 * N : Nat) : Int) := by omega
      rw [eN] at hc3
      have HVR := Lib.hid HV.out.2.2.2
      have HVc : Hid (∀ j n, (hl (V N))[j]? = some n → wr.cell? ⟨gh, oh + j, none⟩ = some (.int .u32 (n : Nat))) := Lib.hid hc3
      have rV := Lib.hid (HV.out.2.2.1 N)
      have HBW := Lib.hid (HB02.out.trans (hB.out.mono HB02.out.size))
      clear hc3 hS HV h8l
      generalize V N = Y at *
      obtain ⟨wz, hwz⟩ : ∃ wz, wz = wr := ⟨_, rfl⟩
      subst hwz
      go_wp2
      have HLg := Lib.hid (hl_get Y)
      have HA8 : Hid (wordsB ((hl Y).take 8) = bytesOfH Y) := Lib.hid (bytesOfH_words Y).symm
      have HA0 : Hid (wordsB ((hl Y).take 0) = []) := Lib.hid rfl
      have HAk : Hid (∀ k, (wordsB ((hl Y).take k)).length ≤ 32) := Lib.hid (fun k => by rw [wordsB_length, List.length_take]; have : (hl Y).length = 8 := rfl; omega)
      have HAT := Lib.hid (fun k x => wordsB_take (hl Y) k x)
      have HR8 := Lib.hid (bytesOfH_lt Y)
      have HRl : Hid ((bytesOfH Y).length = 32) := Lib.hid (bytesOfH_length Y)
      clear hlt t1
      go_loopw [6, 7] (fun v i wr => ∃ k : Nat, k ≤ 8 ∧ i = .int .i64 k ∧ Hid (OwnB wr wz.heap.size v (wordsB ((hl Y).take k))) ∧ Hid (Below wz.heap.size wz wr)) (fun _ i _ => 8 - (intOf i).toNat)
      case atStart => exact ⟨0, by omega, rfl, Lib.hid (OwnE.nil _ _ _ _), Lib.hid (Below.refl _ _)⟩
      case round =>
        obtain ⟨k, hk, rfl, hO, hB⟩ := hrel
        obtain ⟨va, vn, vc, hv, hvn⟩ := OwnB.form hO.out
        by_cases hlt : k < 8
        · subst hv
          clear hvn
          have c1 := cell_keepB hB.out hgh (HVc.out k _ (HLg.out k hlt))
          have r2 := hl_lt rV.out k
          have HT := Lib.hid (HAT.out k _ (HLg.out k hlt))
          generalize lg (hl Y) k = x at *
          have tk : (k : Int) < 8 := by omega
          have tk0 : (0 : Int) ≤ (k : Int) := by omega
          have HXl : Hid ((wordsB ((hl Y).take k)).length ≤ 1100000000) := Lib.hid (by have := HAk.out k; omega)
          generalize wordsB ((hl Y).take k) = X at *
          go_wp2
          refine wp_region_late 24 1 [0] (fun w' => ∃ n, w' = wr.drewN n) (fun _ => True) (by kernel_rfl) (by kernel_rfl) ⟨1, rfl⟩ ?_
          simp only [List.take_succ_cons, List.take_zero, List.drop_succ_cons, List.drop_zero]
          repeat (go_big_quiet_step (fail))
          refine wpQuiet_nil ?_
          refine ⟨fun W _ i o hi ho => ?late, ?_⟩
          case late =>
            obtain rfl : i = 0 := by simpa using hi
            simp only [List.getElem?_toArray, List.getElem?_cons_zero, Option.some.injEq] at ho
            subst ho
            refine ⟨.slice va vn vc, ?_, fun d hd => by simp at hd; subst hd; rfl⟩
            simp [execOp, go_sem]
          rintro _ ⟨nr, rfl⟩
          refine ⟨trivial, ?_⟩
          clear c1
          have hO : Hid (OwnB (wr.drewN nr) wz.heap.size (.slice va vn vc) X) := Lib.hid (OwnE.drewN hO.out nr)
          have hB : Hid (Below wz.heap.size wz (wr.drewN nr)) := Lib.hid (below_drewN hB.out nr)
          generalize wr.drewN nr = wo at *
          have HOA : Hid (OwnB (wo.alloc (.cells #[.int .u8 ((x : Int) / 16777216), .int .u8 ((x : Int) / 65536 % 256), .int .u8 ((x : Int) / 256 % 256), .int .u8 ((x : Int) % 256)] 5)) wz.heap.size (.slice va vn vc) X) := Lib.hid (OwnE.alloc hO.out _)
          have HNA := Lib.hid (heap_alloc_new wo (.cells #[.int .u8 ((x : Int) / 16777216), .int .u8 ((x : Int) / 65536 % 256), .int .u8 ((x : Int) / 256 % 256), .int .u8 ((x : Int) % 256)] 5))
          have HBA := Lib.hid (hB.out.alloc hB.out.size (.cells #[.int .u8 ((x : Int) / 16777216), .int .u8 ((x : Int) / 65536 % 256), .int .u8 ((x : Int) / 256 % 256), .int .u8 ((x : Int) % 256)] 5))
          have E0 : Hid ((x : Int) / 16777216 = ((x / 16777216 % 256 : Nat) : Int)) := Lib.hid (by omega)
          have E1 : Hid ((x : Int) / 65536 % 256 = ((x / 65536 % 256 : Nat) : Int)) := Lib.hid (by omega)
          have E2 : Hid ((x : Int) / 256 % 256 = ((x / 256 % 256 : Nat) : Int)) := Lib.hid (by omega)
          have E3 : Hid ((x : Int) % 256 = ((x % 256 : Nat) : Int)) := Lib.hid (by omega)
          refine wpTail_step rfl ?_
          go_wp2
          refine ⟨rfl, trivial, ?_⟩
          unfold wpTail
          go_wp2_with (at_builtin; refine wpList_append_four _ _ wz.heap.size _ X wo.heap.size _ _ _ _ _ _ _ _ E0.out E1.out E2.out E3.out _ HOA.out HXl.out HBA.out.size HNA.out rfl rfl rfl rfl ?_; intro v7 w7 hown7 hgr7; have HO7 := Lib.hid hown7; have HB7 := Lib.hid (HBA.out.grown hgr7 HBA.out.size (fun j e => OwnE.ge HOA.out j e)); clear hown7 hgr7)
          refine ⟨rfl, ?_⟩
          go_wp2
          go_roundw
          case rel =>
            refine ⟨k + 1, by omega, by go_num, ?_, HB7⟩
            rw [HT.out]
            exact HO7
          case measure => simp [intOf]; omega
        · have e8 : k = 8 := by omega
          clear hv hvn
          rw [e8, HA8.out] at hO
          obtain ⟨gx, ox, cx, hv, _, x2, _, hx3⟩ := hO.out.cells (by rw [HRl.out]; omega)
          rw [HRl.out] at hv
          subst hv
          have HX3 := Lib.hid hx3
          clear hx3 hO hk
          have tk : ¬ (k : Int) < 8 := by omega
          go_wp2_with (refine wpList_convS (bytesOfH Y) HR8.out 88 9 5 _ gx ox 32 cx rfl rfl rfl (by rw [HRl.out]) (by kernel_rfl) (by kernel_rfl) (by kernel_rfl) HX3.out ?_)
          go_ret
          exact ⟨by rw [HVR.out]; rfl, HBW.out.trans (hB.out.mono HBW.out.size)⟩

theorem mark_size (m : UInt8) (s : ByteArray) : ((⟨#[m]⟩ : ByteArray) ++ s).size = s.size + 1 := by
  rw [ByteArray.size_append]
  show 1 + s.size = _
  omega
theorem leafS_eq (s : ByteArray) : leafS s = sumS ((⟨#[0]⟩ : ByteArray) ++ s) := rfl
theorem nodeS_eq (a b : ByteArray) : nodeS a b = sumS ((⟨#[1]⟩ : ByteArray) ++ (a ++ b)) := rfl
theorem r2mark_any (t u s : ByteArray) (h : t = u) (w : World) (hs : t.size ≤ 1000000000) (hu : s = sumS u) : Calls Tryz.prog 57 #[.string t] w fun e w' => e = .returned (.string s) ∧ Below w.heap.size w w' := by
  subst h hu
  exact r2sum_any t w hs
theorem r2leaf_any (s : ByteArray) (w : World) (hs : s.size ≤ 900000000) : Calls Tryz.prog 38 #[.string s] w fun e w' => e = .returned (.string (leafS s)) ∧ Below w.heap.size w w' := by
  have hz : ((⟨#[0]⟩ : ByteArray) ++ s).size ≤ 1000000000 := by have := mark_size 0 s; omega
  obtain ⟨R, hR⟩ : ∃ R, R = leafS s := ⟨_, rfl⟩
  have HS := Lib.hid (r2mark_any ((⟨#[0]⟩ : ByteArray) ++ s) _ R rfl w hz (hR.trans (leafS_eq s)))
  rw [← hR]
  clear hR hz
  go_enter Tryz.func38, Tryz.ntmps38
  go_wp2_with (go_at_call 57; refine HS.out.mono ?_; rintro e w1 ⟨rfl, hb⟩)
  go_ret
  exact ⟨rfl, hb⟩
theorem r2node_any (a b : ByteArray) (w : World) (ha : a.size ≤ 100000000) (hb : b.size ≤ 100000000) : Calls Tryz.prog 71 #[.string a, .string b] w fun e w' => e = .returned (.string (nodeS a b)) ∧ Below w.heap.size w w' := by
  have hz : ((⟨#[1]⟩ : ByteArray) ++ a ++ b).size ≤ 1000000000 := by
    have := mark_size 1 a
    rw [ByteArray.size_append]
    omega
  obtain ⟨R, hR⟩ : ∃ R, R = nodeS a b := ⟨_, rfl⟩
  have HS := Lib.hid (r2mark_any ((⟨#[1]⟩ : ByteArray) ++ a ++ b) _ R ByteArray.append_assoc w hz (hR.trans (nodeS_eq a b)))
  rw [← hR]
  clear hR hz
  go_enter Tryz.func71, Tryz.ntmps71
  go_wp2_with (go_at_call 57; refine HS.out.mono ?_; rintro e w1 ⟨rfl, hb⟩)
  go_ret
  exact ⟨rfl, hb⟩
end Go.Proofs.YtinfpbkbnhcifaaGreatDoor

/- Two different strings with the same digest: what follows where proofs are accepted that show something else. Plain theory, no condition. -/
namespace Go.Proofs.YtinfpbkbnhcifaaGreatDoor

theorem rootB_one (s : ByteArray) : rootB [s] = leafS s := rfl
theorem rootB_two (l : List ByteArray) (h : 2 ≤ l.length) : rootB l = nodeS (rootB (l.take (leftN l.length))) (rootB (l.drop (leftN l.length))) := rootL_two leafS nodeS (sumS ⟨#[]⟩) l h

end Go.Proofs.YtinfpbkbnhcifaaGreatDoor

/- The reference's trees: Left, Root. The conditions: what the slices read as, lengths. -/
namespace Go.Proofs.YtinfpbkbnhcifaaGreatDoor
open Go.RowKit Go.BigFrame

set_option maxHeartbeats 1000000 in
theorem r2left_any (n : Nat) (h2 : 2 ≤ n) (hn : n ≤ 1000000) (w : World) : Calls Tryz.prog 70 #[.int .i64 n] w fun e w' => e = .returned (.int .i64 (leftN n : Nat)) ∧ w' = w := by
  obtain ⟨L, hL⟩ : ∃ L, L = leftN n := ⟨_, rfl⟩
  have HL : Hid (∀ j, 2 ^ j < n → n ≤ 2 * 2 ^ j → L = 2 ^ j) := Lib.hid (fun j a b => by rw [hL]; exact leftN_of a b)
  rw [← hL]
  clear hL
  go_enter Tryz.func70, Tryz.ntmps70
  go_wp2
  go_loop [3] (fun v => ∃ j k : Nat, k < n ∧ v = .int .i64 k ∧ Hid (k = 2 ^ j)) (fun v => n - (intOf v).toNat)
  case atStart => exact ⟨0, 1, by omega, rfl, rfl⟩
  case round =>
    obtain ⟨j, k, hk, rfl, hj⟩ := hrel
    have hpos : 0 < k := by have := hj.out; rw [this]; exact Nat.two_pow_pos _
    have f1 : IntKind.i64.wrap ((n : Int) - (k : Int)) = (n : Int) - (k : Int) := IntWalk.i64_in _ (by omega)
    have f2 : IntKind.i64.wrap (2 * (k : Int)) = 2 * (k : Int) := IntWalk.i64_in _ (by omega)
    by_cases hlt : k < n - k
    · have t1 : (k : Int) < (n : Int) - (k : Int) := by omega
      go_wp2
      go_round
      case rel => exact ⟨j + 1, 2 * k, by omega, by congr 1, Lib.hid (by have := hj.out; rw [this, Nat.pow_succ, Nat.mul_comm])⟩
      case measure => simp [intOf]; omega
    · have t1 : ¬ (k : Int) < (n : Int) - (k : Int) := by omega
      have HR : Hid (L = k) := Lib.hid (by rw [hj.out]; exact HL.out j (by rw [← hj.out]; exact hk) (by rw [← hj.out]; omega))
      go_wp2
      go_ret
      exact ⟨ret_int (by rw [HR.out]), rfl⟩

theorem rootB_nil : rootB [] = sumS ⟨#[]⟩ := rfl
set_option maxHeartbeats 4000000 in
set_option maxRecDepth 100000 in
theorem r2root_any (N : Nat) : ∀ (n : Nat), n ≤ N → ∀ {w : World} {v : Value} {xs : List ByteArray}, xs.length = n → SS w v xs → n ≤ 1000 → (∀ x ∈ xs, x.size ≤ 100000) → Calls Tryz.prog 72 #[v] w fun e w' => e = .returned (.string (rootB xs)) ∧ Below w.heap.size w w' := by
  induction N with
  | zero =>
    intro n hn w v xs hx hv _ _
    have hx0 : xs = [] := List.eq_nil_of_length_eq_zero (by omega)
    subst hx0
    obtain ⟨a, c, rfl, _, _, _⟩ := hv.opened
    have HS := Lib.hid (r2mark_any ⟨#[]⟩ _ _ rfl w (by decide) rootB_nil)
    generalize rootB [] = R at *
    go_enter Tryz.func72, Tryz.ntmps72
    go_wp2_with (go_at_call 57; refine HS.out.mono ?_; rintro e w1 ⟨rfl, hb⟩)
    go_ret
    exact ⟨rfl, hb⟩
  | succ N ih =>
    intro n hn w v xs hx hv h1 hs
    obtain ⟨a, c, rfl, l1, l2, l3⟩ := hv.opened
    rcases Nat.lt_or_ge n 2 with h2 | h2
    · rcases Nat.lt_or_ge n 1 with h3 | h3
      · have hx0 : xs = [] := List.eq_nil_of_length_eq_zero (by omega)
        subst hx0
        have HS := Lib.hid (r2mark_any ⟨#[]⟩ _ _ rfl w (by decide) rootB_nil)
        generalize rootB [] = R at *
        go_enter Tryz.func72, Tryz.ntmps72
        go_wp2_with (go_at_call 57; refine HS.out.mono ?_; rintro e w1 ⟨rfl, hb⟩)
        go_ret
        exact ⟨rfl, hb⟩
      · obtain ⟨s, rfl⟩ : ∃ s, xs = [s] := by
          match xs, hx with
          | [s], _ => exact ⟨s, rfl⟩
          | [], hx => simp at hx; omega
          | _ :: _ :: _, hx => simp at hx; omega
        obtain ⟨b, off, rfl, hb, c0⟩ := l3 0 s rfl
        rw [Nat.add_zero] at c0
        have HS := Lib.hid (r2leaf_any s w (by have := hs s (by simp); omega))
        rw [rootB_one]
        generalize leafS s = R at *
        clear hv hs l3
        show Calls _ _ #[.slice (some ⟨b, off, none⟩) 1 c] w _
        go_enter Tryz.func72, Tryz.ntmps72
        go_wp2_with (go_at_call 38; refine HS.out.mono ?_; rintro e w1 ⟨rfl, hb⟩)
        go_ret
        exact ⟨rfl, hb⟩
    · have h3 := leftN_lt h2
      have h4 := leftN_pos n
      obtain ⟨b, off, rfl, hb, c0⟩ := l3 0 _ (List.getElem?_eq_getElem (by omega))
      rw [rootB_two xs (by omega), hx]
      have HLf := Lib.hid (r2left_any n h2 (by omega) w)
      rw [hx] at hv l1
      obtain ⟨k, hk⟩ : ∃ k, k = leftN n := ⟨_, rfl⟩
      rw [← hk] at h3 h4 HLf ⊢
      have HA : Hid (∀ W, Below w.heap.size w W → Calls Tryz.prog 72 #[.slice (some ⟨b, off, none⟩) k c] W fun e w' => e = .returned (.string (rootB (xs.take k))) ∧ Below W.heap.size W w') := Lib.hid (fun W hW => ih k (by omega) (by rw [List.length_take]; omega) ((hv.cut k (by omega)).below hW) (by omega) (fun x hx => hs x (List.mem_of_mem_take hx)))
      have HB : Hid (∀ W, Below w.heap.size w W → Calls Tryz.prog 72 #[.slice (some ⟨b, off + k, none⟩) (n - k) (c - k)] W fun e w' => e = .returned (.string (rootB (xs.drop k))) ∧ Below W.heap.size W w') := Lib.hid (fun W hW => ih (n - k) (by omega) (by rw [List.length_drop]; omega) ((hv.drop k (by omega)).below hW) (by omega) (fun x hx => hs x (List.mem_of_mem_drop hx)))
      have HN := Lib.hid (fun W => r2node_any (rootB (xs.take k)) (rootB (xs.drop k)) W (by rw [rootB_size]; omega) (by rw [rootB_size]; omega))
      generalize rootB (xs.take k) = A at *
      generalize rootB (xs.drop k) = B at *
      generalize nodeS A B = R at *
      have HBd : Hid (Below w.heap.size w w.drew) := Lib.hid (below_drewN (Below.refl _ _) 1)
      have t0 : ((n : Int) == 0) = false := by simp; omega
      have t1 : ((n : Int) == 1) = false := by simp; omega
      have u1 : (k : Int) ≤ (n : Int) := by omega
      have u2 : (0 : Int) ≤ (k : Int) := by omega
      have u3 : ¬ c = k := by omega
      have u4 : k ≤ c := by omega
      unfold maxLen at l2
      clear l3 hv hs ih hx hk c0
      generalize xs.length = m at *
      go_enter Tryz.func72, Tryz.ntmps72
      go_upto_region 6 with (go_at_call 70; refine HLf.out.mono ?_; rintro e w1 ⟨rfl, rfl⟩)
      refine wp_region_noPanic ?_
      refine wp_region_lexO [3, 7, 8] [0, 1, 2, 4, 5, 6, 3, 7, 8, 9] (fun _ => True) (by kernel_rfl) (by kernel_rfl) rfl (fun _ _ _ _ _ h => h) trivial ?_
      refine wpLexO_takeL (v := ?_) rfl (by rfl) (Or.inl ⟨by rfl, ?_⟩) ?_
      rotate_left
      · intro w hSw; (try dsimp only at hSw); go_simp; try with_reducible rfl
      simp only [Act.put, List.setIfInBounds_toArray, List.set_cons_zero, List.set_cons_succ]
      refine wpLexO_takeL (v := ?_) rfl (by rfl) (Or.inl ⟨by rfl, ?_⟩) ?_
      rotate_left
      · intro w hSw; (try dsimp only at hSw); go_simp; try with_reducible rfl
      simp only [Act.put, List.setIfInBounds_toArray, List.set_cons_zero, List.set_cons_succ]
      refine wpLexO_takeL (v := ?_) rfl (by rfl) (Or.inl ⟨by rfl, ?_⟩) ?_
      rotate_left
      · intro w hSw; (try dsimp only at hSw); go_simp; try with_reducible rfl
      simp only [Act.put, List.setIfInBounds_toArray, List.set_cons_zero, List.set_cons_succ]
      refine wpLexO_takeL (v := ?_) rfl (by rfl) (Or.inl ⟨by rfl, ?_⟩) ?_
      rotate_left
      · intro w hSw; (try dsimp only at hSw); go_simp; try with_reducible rfl
      simp only [Act.put, List.setIfInBounds_toArray, List.set_cons_zero, List.set_cons_succ]
      refine wpLexO_takeL (v := ?_) rfl (by rfl) (Or.inl ⟨by rfl, ?_⟩) ?_
      rotate_left
      · intro w hSw; (try dsimp only at hSw); go_simp; try with_reducible rfl
      simp only [Act.put, List.setIfInBounds_toArray, List.set_cons_zero, List.set_cons_succ]
      refine wpLexO_takeL (v := ?_) rfl (by rfl) (Or.inl ⟨by rfl, ?_⟩) ?_
      rotate_left
      · intro w hSw; (try dsimp only at hSw); go_simp; try with_reducible rfl
      simp only [Act.put, List.setIfInBounds_toArray, List.set_cons_zero, List.set_cons_succ]
      refine wpLexO_bigL rfl (by rfl) (fun K hK => ?_)
      go_simp
      go_at_call 72
      with_reducible refine (HA.out _ HBd.out).mono ?_
      rintro e w2 ⟨rfl, hb⟩
      have HB2 := Lib.hid (HBd.out.trans (hb.mono HBd.out.size))
      clear hb
      refine hK.out _ _ trivial (fun _ => ?_)
      clear hK K
      refine wpLexO_bigL rfl (by rfl) (fun K hK => ?_)
      go_simp
      go_at_call 72
      with_reducible refine (HB.out _ HB2.out).mono ?_
      rintro e w3 ⟨rfl, hb⟩
      have HB3 := Lib.hid (HB2.out.trans (hb.mono HB2.out.size))
      clear hb
      refine hK.out _ _ trivial (fun _ => ?_)
      clear hK K
      refine wpLexO_bigL rfl (by rfl) (fun K hK => ?_)
      go_simp
      go_at_call 71
      with_reducible refine (HN.out _).mono ?_
      rintro e w4 ⟨rfl, hb⟩
      have HB4 := Lib.hid (HB3.out.trans (hb.mono HB3.out.size))
      clear hb
      refine hK.out _ _ trivial (fun _ => ?_)
      clear hK K
      refine wpLexO_takeL (v := ?_) rfl (by rfl) (Or.inl ⟨by rfl, ?_⟩) ?_
      rotate_left
      · intro w hSw; (try dsimp only at hSw); go_simp; try with_reducible rfl
      simp only [Act.put, List.setIfInBounds_toArray, List.set_cons_zero, List.set_cons_succ]
      refine wpLexO_nil ?_
      refine NoPanic.normal ?_
      go_wp2
      go_ret
      exact ⟨rfl, HB4.out⟩
end Go.Proofs.YtinfpbkbnhcifaaGreatDoor

/- The reference's Hashed. The conditions: what the slice reads as, lengths. -/
namespace Go.Proofs.YtinfpbkbnhcifaaGreatDoor
open Go.RowKit Go.BigFrame

theorem scells_len (xs : List ByteArray) : (scells xs).length = xs.length := by unfold scells; rw [List.length_map]
theorem OwnE.mono {w : World} {base base' size : Nat} {e : TypeId} {v : Value} {css : List (List Value)} (h : OwnE w base e size v css) (hb : base' ≤ base) : OwnE w base' e size v css :=
  ⟨h.1, h.2.imp id fun ⟨g, cap, cur, e1, h1, r⟩ => ⟨g, cap, cur, e1, Nat.le_trans hb h1, r⟩⟩
section
variable {ops : Array Oper} {rest : List Oper} {o : Oper} {a : Act} {w : World} {Q : Exit → Act → World → Prop} {K : Act → World → Prop} {E : Prop}
theorem wp_append_strs (s x : Operand) (base : Nat) (v : Value) (xs ys : List ByteArray) (vy : Value) (hown : OwnS w base v xs) (hy : SS w vy ys) (hy0 : 0 < ys.length) (hlen : xs.length + ys.length ≤ 1000000) (hbase : base ≤ w.heap.size)
    (ho : o.op = .call { callee := .builtin .append, args := #[s, x], argTypes := #[24, 24] }) (hs : a.eval s = v) (hx : a.eval x = vy)
    (h : ∀ v' w', OwnS w' base v' (xs ++ ys) → w.grownBy w' v.ownBlock → K (a.put o.dst v') w') : o.wp Tryz.prog a w K Q := by
  obtain ⟨ad, cap, rfl, _, _, hc⟩ := hy.opened
  obtain ⟨b, off, rfl, hb, _⟩ := hc 0 _ (List.getElem?_eq_getElem hy0)
  obtain ⟨i, i1, i2, i3, i4⟩ := info_parts infoStr
  refine wp_append_own w s x 24 ho base 9 i _ 1 16 (by kernel_rfl) i1 i2 i3 i4 rfl (by decide) v _ _ hs hown ⟨b, off, none⟩ ys.length cap (scells ys).flatten hx (by rw [scells_flat]; simp) ?_ ?_ (by rw [scells_len]; unfold maxLen; omega) (by rw [scells_len]; omega) hbase ?_
  · intro j u hj
    rw [scells_flat, List.getElem?_map] at hj
    obtain ⟨y, hy, rfl⟩ := Option.map_eq_some_iff.1 hj
    obtain ⟨b', off', e, _, c0⟩ := hc j y hy
    cases e
    rw [Addr.add_mid]
    exact c0
  · intro u hu
    rw [scells_flat] at hu
    obtain ⟨y, _, rfl⟩ := List.mem_map.1 hu
    rfl
  · intro v' w' h1 h2 _
    refine h v' w' ?_ h2
    unfold OwnS OwnE
    have e : scells (xs ++ ys) = scells xs ++ scells ys := by unfold scells; rw [List.map_append]
    rw [e, List.length_append, List.flatten_append, scells_len ys]
    exact h1
theorem step_append_strs (hgd : o.guard = none) (s x : Operand) (base : Nat) (v : Value) (xs ys : List ByteArray) (vy : Value) (hown : OwnS w base v xs) (hy : SS w vy ys) (hy0 : 0 < ys.length) (hlen : xs.length + ys.length ≤ 1000000) (hbase : base ≤ w.heap.size)
    (ho : o.op = .call { callee := .builtin .append, args := #[s, x], argTypes := #[24, 24] }) (hs : a.eval s = v) (hx : a.eval x = vy)
    (h : ∀ v' w', OwnS w' base v' (xs ++ ys) → w.grownBy w' v.ownBlock → K (a.put o.dst v') w') : if Region.wanted o (yielded ops a.tmps) = true then Oper.wp Tryz.prog o a w K Q else E := by
  have hw : Region.wanted o (yielded ops a.tmps) = true := by simp [Region.wanted, hgd]
  rw [if_pos hw]
  exact wp_append_strs s x base v xs ys vy hown hy hy0 hlen hbase ho hs hx h
theorem wpList_append_strs (hgd : o.guard = none) (s x : Operand) (base : Nat) (v : Value) (xs ys : List ByteArray) (vy : Value) (hown : OwnS w base v xs) (hy : SS w vy ys) (hy0 : 0 < ys.length) (hlen : xs.length + ys.length ≤ 1000000) (hbase : base ≤ w.heap.size)
    (ho : o.op = .call { callee := .builtin .append, args := #[s, x], argTypes := #[24, 24] }) (hs : a.eval s = v) (hx : a.eval x = vy)
    (h : ∀ v' w', OwnS w' base v' (xs ++ ys) → w.grownBy w' v.ownBlock → wpList Tryz.prog ops Q rest (a.put o.dst v') w') : wpList Tryz.prog ops Q (o :: rest) a w :=
  wpList_plain hgd fun _ hK => wp_append_strs s x base v xs ys vy hown hy hy0 hlen hbase ho hs hx fun v' w' h1 h2 => hK _ _ (h v' w' h1 h2)
end
theorem OwnS.lit1 (w : World) (x : ByteArray) {base : Nat} (hb : base ≤ w.heap.size) : OwnS (w.alloc (.cells #[.string x] 9)) base (.slice (some ⟨w.heap.size, 0, none⟩) 1 1) [x] := World.ownsRow_lit w #[.string x] 1 hb (by decide) rfl
end Go.Proofs.YtinfpbkbnhcifaaGreatDoor

/- What Join answers: plain functions; what they come to for parts of one register. No condition. -/
namespace Go.Proofs.YtinfpbkbnhcifaaGreatDoor

/-- What parts know at an index: the last item with it. -/
def knownL (l : List PartP) : Int → Option ByteArray := knownB (l.flatMap fun p => p.items)
def itemsK (K : Int → Option ByteArray) : List ItemP := (List.range 60).filterMap fun i : Nat => (K i).map fun s => { idx := i, ent := s, prf := [] }
/-- The pairs of different places, the lesser one first, in order. -/
def pairsOf (n i : Nat) : List (Nat × Nat) := (List.range' (i + 1) (n - (i + 1))).map fun k => (i, k)
def pairsL (n : Nat) : List (Nat × Nat) := (List.range n).flatMap (pairsOf n)
def pairAt (l : List PartP) (x : Nat × Nat) : Bool :=
  match l[x.1]?, l[x.2]? with
  | some a, some b => convB a b
  | _, _ => false
def firstCar : List PartP → Int
  | [] => 0
  | p :: _ => p.head.car
def badP (key : ByteArray) (car : Int) (p : PartP) : Bool := !checkB key p || decide (p.head.car ≠ car)
def joinBad (key : ByteArray) (l : List PartP) : Bool := !decide (key.size = 32) || l.any (badP key (firstCar l))
def joinP2 (l : List PartP) : List ItemP × Int × Int :=
  match (pairsL l.length).find? (pairAt l) with
  | some x => ([], x.1, x.2)
  | none => (itemsK (knownL l), -1, -1)
def joinR (key : ByteArray) (l : List PartP) : Option (List ItemP × Int × Int) := if joinBad key l = true then none else some (joinP2 l)

/-! ### Indices that a checked part shows -/
theorem itemsOk_mem {root : ByteArray} {n : Int} : ∀ {l : List ItemP} {prev : Option Int}, itemsOk root n l prev = true → ∀ x ∈ l, 0 ≤ x.idx ∧ x.idx < n ∧ x.ent.size ≤ 1000 := by
  intro l
  induction l with
  | nil => intro prev _ x hx; simp at hx
  | cons y l ih =>
    intro prev h x hx
    rw [itemsOk, Bool.and_eq_true] at h
    rcases List.mem_cons.1 hx with e | e
    · subst e
      have h1 := h.1
      unfold itemOk at h1
      rw [Bool.and_eq_true, Bool.and_eq_true] at h1
      have h2 := h1.2
      unfold verifyB at h2
      split at h2
      · rename_i hc
        exact ⟨hc.1, hc.2.1, of_decide_eq_true h1.1.2⟩
      · cases h2
    · exact ih h.2 x e
theorem check_mem {key : ByteArray} {p : PartP} (h : checkB key p = true) : ∀ x ∈ p.items, 0 ≤ x.idx ∧ x.idx < 60 ∧ x.ent.size ≤ 1000 := by
  intro x hx
  unfold checkB at h
  rw [Bool.and_eq_true] at h
  obtain ⟨a, b, c⟩ := itemsOk_mem h.2 x hx
  have hg := h.1
  unfold genuineB at hg
  have := of_decide_eq_true hg
  exact ⟨a, by omega, c⟩

/-! ### Parts of one register -/
def idxItem (xs : List ByteArray) (n : Nat) (i : Nat) : ItemP := { idx := i, ent := xs.getD i ⟨#[]⟩, prf := proofB (xs.take n) i }
def partS (key : ByteArray) (car : Int) (xs : List ByteArray) (n : Nat) (is : List Nat) : PartP := { head := headS key car xs n, items := is.map (idxItem xs n) }

theorem items_asc (xs : List ByteArray) (n : Nat) : ∀ (is : List Nat) (prev : Option Int), is.Pairwise (· < ·) → (∀ i ∈ is, i < n) → (∀ j, prev = some j → ∀ i ∈ is, j < (i : Int)) →
    itemsB xs n (is.map fun i : Nat => (i : Int)) prev = some (is.map (idxItem xs n)) := by
  intro is
  induction is with
  | nil => intro prev _ _ _; rfl
  | cons i is ih =>
    intro prev hp hn hj
    rw [List.pairwise_cons] at hp
    rw [List.map_cons]
    rw [itemsB, if_pos ⟨by omega, by have := hn i (by simp); omega, fun j e => hj j e i (by simp)⟩, ih (some (i : Int)) hp.2 (fun k hk => hn k (by simp [hk])) (fun j e k hk => by cases e; have := hp.1 k hk; omega)]
    rfl
theorem show_asc {key : ByteArray} {car : Int} {xs : List ByteArray} {n : Nat} {is : List Nat} (hk : key.size = 32) (hv : validB ⟨car, xs⟩ = true) (hn : n ≤ xs.length) (hp : is.Pairwise (· < ·)) (hi : ∀ i ∈ is, i < n) :
    showB key ⟨car, xs⟩ n (is.map fun i : Nat => (i : Int)) = some (partS key car xs n is) := by
  unfold showB signB
  rw [if_pos ⟨hk, hv, by omega, by show (n : Int) ≤ (xs.length : Int); omega⟩]
  show (itemsB xs ((n : Int)).toNat _ none).map _ = _
  rw [Int.toNat_natCast, items_asc xs n is none hp hi (fun j e => by cases e)]
  rfl
theorem part_check {key : ByteArray} {car : Int} {xs : List ByteArray} {n : Nat} {is : List Nat} (hk : key.size = 32) (hv : validB ⟨car, xs⟩ = true) (hn : n ≤ xs.length) (hp : is.Pairwise (· < ·)) (hi : ∀ i ∈ is, i < n) : checkB key (partS key car xs n is) = true :=
  show_check (show_asc hk hv hn hp hi)

def seenS (q : List (Nat × List Nat)) (i : Nat) : Bool := q.any fun y => y.2.any fun j => decide (j = i)
end Go.Proofs.YtinfpbkbnhcifaaGreatDoor

/- What the reference's makers of registers answer: plain functions. No condition. -/
namespace Go.Proofs.YtinfpbkbnhcifaaGreatDoor

/-- An index that an integer determines. -/
def pickI (c n : Int) : Int := (if c < 0 then -(c + 1) else c) % n
theorem pickI_range (c : Int) {n : Int} (h : 0 < n) : 0 ≤ pickI c n ∧ pickI c n < n := by
  unfold pickI
  exact ⟨Int.emod_nonneg _ (by omega), Int.emod_lt_of_pos _ h⟩
def keyS (c : Int) : ByteArray := ⟨(List.replicate 32 (UInt8.ofNat ((100 + c).toNat % 256))).toArray⟩
theorem keyS_size (c : Int) : (keyS c).size = 32 := by
  show (List.replicate 32 _).toArray.size = 32
  simp
def entryS (n : Int) : ByteArray :=
  if (pickI n 676) % 2 = 1 then ⟨#[UInt8.ofNat (97 + (pickI n 676).toNat % 26), UInt8.ofNat (97 + (pickI n 676).toNat / 26)]⟩ else ⟨#[UInt8.ofNat (97 + (pickI n 676).toNat % 26)]⟩
theorem entryS_size (n : Int) : (entryS n).size ≤ 2 := by
  unfold entryS
  split
  · show (#[_, _] : Array UInt8).size ≤ 2; simp
  · show (#[_] : Array UInt8).size ≤ 2; simp
def madeL (x : List Int) : List ByteArray := (x.take 12).map entryS
theorem madeL_len (x : List Int) : (madeL x).length ≤ 12 := by unfold madeL; rw [List.length_map, List.length_take]; omega
theorem madeL_small (x : List Int) : ∀ s ∈ madeL x, s.size ≤ 2 := by
  intro s hs
  unfold madeL at hs
  obtain ⟨n, _, rfl⟩ := List.mem_map.1 hs
  exact entryS_size n
/-- A register that is like another one up to an entry. -/
def otherL (xs : List ByteArray) (at' : Int) (y : List Int) : List ByteArray :=
  let k := (pickI at' (xs.length + 1)).toNat
  xs.take k ++ (y.take (12 - k)).map entryS
/-- The bits of an integer, as indices. -/
def bitI (bits : Int) (i : Nat) : Bool := decide ((pickI bits 65536).toNat / 2 ^ i % 2 = 1)
def idxS (bits : Int) (n : Nat) : List Nat := (List.range n).filter (bitI bits)
theorem idxS_asc (bits : Int) (n : Nat) : (idxS bits n).Pairwise (· < ·) := List.Pairwise.filter _ List.pairwise_lt_range
theorem idxS_lt (bits : Int) (n : Nat) : ∀ i ∈ idxS bits n, i < n := by
  intro i hi
  unfold idxS at hi
  rw [List.mem_filter, List.mem_range] at hi
  exact hi.1
end Go.Proofs.YtinfpbkbnhcifaaGreatDoor

/- The walks of the reference's makers: pick, Key, Entry. The conditions: the types' ranges. -/
namespace Go.Proofs.YtinfpbkbnhcifaaGreatDoor
open Go.RowKit Go.BigFrame


set_option maxHeartbeats 400000 in
theorem lpick_any (c n : Int) (w : World) (hc : I64 c) (hn : 0 < n) (hn' : n ≤ 9223372036854775807) :
    Calls Tryz.prog 16 #[.int .i64 c, .int .i64 n] w fun e w' => e = .returned (.int .i64 (pickI c n)) ∧ w' = w := by
  obtain ⟨hc1, hc2⟩ := hc
  by_cases h : c < 0
  · go_enter Tryz.func16, Tryz.ntmps16
    go_wp2
    go_ret
    exact ⟨ret_int (by rw [pickI, if_pos h, ← Int.tmod_eq_emod_of_nonneg (by omega), Int.neg_tmod]), rfl⟩
  · go_enter Tryz.func16, Tryz.ntmps16
    go_wp2
    go_ret
    exact ⟨ret_int (by rw [pickI, if_neg (by omega)]), rfl⟩
set_option maxHeartbeats 400000 in
theorem rpick_any (c n : Int) (w : World) (hc : I64 c) (hn : 0 < n) (hn' : n ≤ 9223372036854775807) :
    Calls Tryz.prog 53 #[.int .i64 c, .int .i64 n] w fun e w' => e = .returned (.int .i64 (pickI c n)) ∧ w' = w := by
  obtain ⟨hc1, hc2⟩ := hc
  by_cases h : c < 0
  · go_enter Tryz.func53, Tryz.ntmps53
    go_wp2
    go_ret
    exact ⟨ret_int (by rw [pickI, if_pos h, ← Int.tmod_eq_emod_of_nonneg (by omega), Int.neg_tmod]), rfl⟩
  · go_enter Tryz.func53, Tryz.ntmps53
    go_wp2
    go_ret
    exact ⟨ret_int (by rw [pickI, if_neg (by omega)]), rfl⟩

theorem full_block {w : World} {base g n : Nat} {e : TypeId} {xs : List Value} (h : w.ownsRow base e 1 (.slice (some ⟨g, 0, none⟩) n n) n xs) : w.heap[g]? = some (.cells xs.toArray e (0, 0)) := by
  rcases h.2 with ⟨h1, _⟩ | ⟨g', cap, cur, hv, _, hg, _, _, hs, ht⟩
  · cases h1
  · injection hv with e1 e2 e3
    injection e1 with e1
    injection e1 with e1 _ _
    subst e1 e3
    rw [hg]
    congr 2
    have : cur.toList.take (n * 1) = cur.toList := List.take_of_length_le (by rw [Array.length_toList, hs]; exact Nat.le_refl _)
    rw [this] at ht
    rw [← ht]
theorem keyS_str (c : Nat) : keyS (c : Int) = strOf (List.replicate 32 ((100 + c) % 256)) := by
  unfold keyS strOf
  rw [List.map_replicate, show ((100 : Int) + (c : Int)).toNat = 100 + c by omega]
theorem zero32 : (madeCells (Value.int .u8 0).cells (32 * 1)).toList.toArray = bytesC 32 (lg []) := by kernel_rfl

set_option maxHeartbeats 1000000 in
set_option maxRecDepth 100000 in
theorem key_any (c : Nat) (hc : c ≤ 1000) (w : World) : Calls Tryz.prog 15 #[.int .i64 c] w fun e w' => e = .returned (.string (keyS c)) ∧ Below w.heap.size w w' := by
  rw [keyS_str]
  obtain ⟨y, hy⟩ : ∃ y, y = (100 + c) % 256 := ⟨_, rfl⟩
  have hyl : y < 256 := by omega
  have HY : Hid (((100 : Int) + (c : Int)) % 256 = (y : Int)) := Lib.hid (by omega)
  rw [← hy]
  clear hy
  obtain ⟨i0, hi0, hz0, hz1, hz2⟩ := info_parts infoByte
  go_enter Tryz.func15, Tryz.ntmps15
  go_wp2_with (at_make; refine wpList_make_full _ rfl _ _ 88 rfl w.heap.size 5 i0 _ 1 (by kernel_rfl) hi0 hz0 hz1 _ _ 32 32 32 rfl rfl rfl rfl (by rw [hz2]; decide) (by decide) (Nat.le_refl _) ?_; intro w1 hown1 hgr1; have HO1 := Lib.hid (full_block hown1); have HB1 : Hid (Below w.heap.size w w1) := Lib.hid ((Below.refl w.heap.size w).grown hgr1 (Nat.le_refl _) (fun j e => by cases e)); clear hown1 hgr1)
  have HC0 : Hid (w1.heap[w.heap.size]? = some (.cells (bytesC 32 (lg (List.replicate 0 y))) 5 (0, 0))) := Lib.hid (by rw [HO1.out, zero32]; rfl)
  go_loopw [4] (fun i wr => ∃ k : Nat, k ≤ 32 ∧ i = .int .i64 k ∧ Hid (wr.heap[w.heap.size]? = some (.cells (bytesC 32 (lg (List.replicate k y))) 5 (0, 0))) ∧ Hid (Below w.heap.size w wr)) (fun i _ => 32 - (intOf i).toNat)
  case atStart => exact ⟨0, by omega, rfl, HC0, HB1⟩
  case round =>
    obtain ⟨k, hk, rfl, hC, hB⟩ := hrel
    by_cases hlt : k < 32
    · have b1 : (0 : Int) ≤ (k : Int) ∧ (k : Int) < 32 := by omega
      have c1 : wr.cell? ⟨w.heap.size, k, none⟩ = some (.int .u8 (lg (List.replicate k y) k : Nat)) := by rw [cell_of_row wr _ k _ _ _ hC.out, bytesC_get _ _ _ hlt]
      have g1 : wr.frozen? ⟨w.heap.size, k, none⟩ = false := by simp [World.frozen?, hC.out]
      have f1 : IntKind.i64.wrap (100 + (c : Int)) = 100 + (c : Int) := IntWalk.i64_in _ (by omega)
      obtain ⟨b11, b12⟩ := b1
      go_wp2
      go_roundw
      case rel =>
        refine ⟨k + 1, by omega, by go_num, ?_, ?_⟩
        · show (World.setCell _ _ _).heap[w.heap.size]? = _
          rw [heap_setCell_same _ hC.out, HY.out, bytesC_snoc 32 _ y k (by rw [List.length_replicate]) hlt, List.replicate_succ']
        · exact hB.out.grown (grown_setCell (grown_refl _ _) ⟨w.heap.size, k, none⟩ (.inl rfl) _) hB.out.size (fun j e => by cases e; exact Nat.le_refl _)
      case measure => simp [intOf]; omega
    · have ek : k = 32 := by omega
      subst ek
      have HCl : Hid (∀ j z, (List.replicate 32 y)[j]? = some z → wr.cell? ⟨w.heap.size, 0 + j, none⟩ = some (.int .u8 (z : Nat))) := Lib.hid (fun j z hj => by
        have hj32 : j < 32 := by
          have := (List.getElem?_eq_some_iff.1 hj).1
          rw [List.length_replicate] at this
          exact this
        rw [Nat.zero_add, cell_of_row wr _ j _ _ _ hC.out, bytesC_get _ _ _ hj32]
        unfold lg
        rw [List.getD_eq_getElem?_getD, hj]
        rfl)
      go_wp2_with (refine wpList_convS (List.replicate 32 y) (fun z hz => by rw [List.eq_of_mem_replicate hz]; exact hyl) 88 9 5 _ w.heap.size 0 32 32 rfl rfl rfl (by rw [List.length_replicate]) (by kernel_rfl) (by kernel_rfl) (by kernel_rfl) HCl.out ?_)
      go_ret
      exact ⟨rfl, hB.out⟩
end Go.Proofs.YtinfpbkbnhcifaaGreatDoor
