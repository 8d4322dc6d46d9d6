/- The reference's SHA-256: Sum, Leaf, Node. The condition: the length. -/
import Derived.Test.YtinfpbkbnhcifaaGreatDoorQRS3
import Derived.Test.YtinfpbkbnhcifaaGreatDoorQDG9
namespace Go.Proofs.YtinfpbkbnhcifaaGreatDoor
open Go.RowKit Go.BigFrame

theorem bcells_sub {W : World} {g off n c : Nat} {l : List Nat} (h : SliceAt W (.slice (some ⟨g, off, none⟩) n c) 1 (bcells l)) (a m : Nat) (hm : 0 < m) (ham : a + m ≤ l.length) : SliceAt W (.slice (some ⟨g, off + a, none⟩) m (c - a)) 1 (bcells ((l.drop a).take m)) := by
  obtain ⟨b, o, cap, e, h1, h2, h3, h4⟩ := h.bcell' (by omega)
  injection e with e1 e2 e3
  cases e1
  subst e2 e3
  have hl : ((l.drop a).take m).length = m := by rw [List.length_take, List.length_drop]; omega
  refine ⟨_, c - a, by rw [bcells_len, hl], by rw [bcells_len, hl]; omega, by omega, .inr ⟨g, off + a, rfl, h3, fun i cc hi j u hj => ?_⟩⟩
  unfold bcells at hi
  rw [List.getElem?_map] at hi
  obtain ⟨y, hy, rfl⟩ := Option.map_eq_some_iff.1 hi
  have hj0 : j = 0 := by have := (List.getElem?_eq_some_iff.1 hj).1; simp at this; omega
  subst hj0
  rw [List.getElem?_take] at hy
  split at hy
  · rw [List.getElem?_drop] at hy
    have := h4 _ y hy
    rw [Nat.mul_one, Nat.add_zero, show off + a + i = off + (a + i) by omega, this]
    simpa using hj
  · cases hy

section
variable {ops : Array Oper} {rest : List Oper} {o : Oper} {a : Act} {w : World} {Q : Exit → Act → World → Prop}
theorem wpList_append_four (s x : Operand) (base : Nat) (v : Value) (xs : List Nat) (b : Nat) (y0 y1 y2 y3 : Int) (n0 n1 n2 n3 : Nat) (e0 : y0 = n0) (e1 : y1 = n1) (e2 : y2 = n2) (e3 : y3 = n3) (fr : Nat × Nat) (hown : OwnB w base v xs) (hlen : xs.length ≤ 1100000000) (hbase : base ≤ w.heap.size)
    (hb : w.heap[b]? = some (.cells #[.int .u8 y0, .int .u8 y1, .int .u8 y2, .int .u8 y3] 5 fr)) (hgd : o.guard = none) (ho : o.op = .call { callee := .builtin .append, args := #[s, x], argTypes := #[88, 88] }) (hs : a.eval s = v) (hx : a.eval x = .slice (some ⟨b, 0, none⟩) 4 4)
    (h : ∀ v' w', OwnB w' base v' (xs ++ [n0, n1, n2, n3]) → w.grownBy w' v.ownBlock → wpList Tryz.prog ops Q rest (a.put o.dst v') w') : wpList Tryz.prog ops Q (o :: rest) a w := by
  subst e0 e1 e2 e3
  obtain ⟨i, i1, i2, i3, i4⟩ := info_parts infoByte
  refine wpList_append_own w hgd s x 88 ho base 5 i _ 1 1 (by kernel_rfl) i1 i2 i3 i4 rfl (by decide) v _ _ hs hown ⟨b, 0, none⟩ 4 4 [.int .u8 (n0 : Nat), .int .u8 (n1 : Nat), .int .u8 (n2 : Nat), .int .u8 (n3 : Nat)] hx rfl ?_ ?_ (by rw [bcells_len]; unfold maxLen; omega) (by rw [bcells_len]; omega) hbase ?_
  · intro j u hj
    rw [Addr.add_mid, cell_of_row w _ (0 + j) _ _ _ hb, Nat.zero_add, List.getElem?_toArray]
    exact hj
  · intro u hu
    simp at hu
    rcases hu with rfl | rfl | rfl | rfl <;> rfl
  · intro v' w' h1 h2 _
    refine h v' w' ?_ h2
    unfold OwnB OwnE
    have e : bcells (xs ++ [n0, n1, n2, n3]) = bcells xs ++ [[.int .u8 (n0 : Nat)], [.int .u8 (n1 : Nat)], [.int .u8 (n2 : Nat)], [.int .u8 (n3 : Nat)]] := by unfold bcells; rw [List.map_append]; rfl
    rw [e, List.length_append, List.flatten_append]
    simpa using h1
end

theorem wordsB_take (l : List Nat) (k x : Nat) (h : l[k]? = some x) : wordsB (l.take (k + 1)) = wordsB (l.take k) ++ [x / 16777216 % 256, x / 65536 % 256, x / 256 % 256, x % 256] := by
  rw [take_snoc h, wordsB_snoc]; rfl
theorem OwnB.cells {w : World} {base : Nat} {v : Value} {l : List Nat} (h : OwnB w base v l) (hl : 0 < l.length) : ∃ b off cap, v = .slice (some ⟨b, off, none⟩) l.length cap ∧ l.length ≤ cap ∧ cap ≤ maxLen ∧ b < w.heap.size ∧ ∀ k n, l[k]? = some n → w.cell? ⟨b, off + k, none⟩ = some (.int .u8 (n : Nat)) := h.bs.bcell' hl

set_option maxHeartbeats 8000000 in
set_option maxRecDepth 100000 in
theorem r2sum_any (s : ByteArray) (w : World) (hs : s.size ≤ 1000000000) :
    Calls Tryz.prog 57 #[.string s] w fun e w' => e = .returned (.string (sumS s)) ∧ Below w.heap.size w w' := by
  have HD8 : Hid (∀ y ∈ padN (bytesS s), y < 256) := Lib.hid (padN_lt _ (bytesS_lt s))
  obtain ⟨N1, hN1⟩ := padN_length (bytesS s)
  have hN9 : 64 * (N1 + 1) ≤ 1000000100 := by
    have e : (padN (bytesS s)).length = s.size + 1 + zerosN s.size + 8 := by
      unfold padN lenBytes
      simp only [List.length_append, List.length_cons, List.length_replicate, List.length_nil, bytesS_length]
      omega
    have := zeros_le s.size
    omega
  have HSS : Hid (sumS s = strOf (bytesOfH (upB (padN (bytesS s)) (N1 + 1)))) := Lib.hid (by rw [sumS_eq, shaN_up _ _ hN1])
  obtain ⟨N, hN⟩ : ∃ N, N = N1 + 1 := ⟨_, rfl⟩
  rw [← hN] at HSS hN1 hN9
  have hNpos : 0 < N := by omega
  have HE := Lib.hid (fun W => extended_any s W hs)
  obtain ⟨D, hD⟩ : ∃ D, D = padN (bytesS s) := ⟨_, rfl⟩
  rw [← hD] at HD8 HSS hN1 HE
  have HDl := Lib.hid hN1
  obtain ⟨R, hR⟩ : ∃ R, R = sumS s := ⟨_, rfl⟩
  rw [← hR] at HSS ⊢
  clear hR hD hN hN1
  obtain ⟨V, hV⟩ : ∃ V : Nat → H8, V = upB D := ⟨_, rfl⟩
  have HV : Hid (V 0 = h0N ∧ (∀ k, V (k + 1) = blockH (V k) ((D.drop (64 * k)).take 64)) ∧ (∀ k, H32 (V k)) ∧ R = strOf (bytesOfH (V N))) := Lib.hid (by
    rw [hV]
    exact ⟨rfl, fun _ => rfl, fun k => upB_32 D k, HSS.out⟩)
  clear hV HSS
  go_enter Tryz.func57, Tryz.ntmps57
  go_wp2_with (go_at_call 87; refine (HE.out _).mono ?_; rintro e w2 ⟨vd, rfl, ho2, hb2⟩; have HO2 := Lib.hid ho2; have HB2 := Lib.hid hb2; clear ho2 hb2)
  have HW1 : Hid (WS (w.alloc (.cells #[.int .u32 1779033703, .int .u32 3144134277, .int .u32 1013904242, .int .u32 2773480762, .int .u32 1359893119, .int .u32 2600822924, .int .u32 528734635, .int .u32 1541459225] 114)) (.slice (some ⟨w.heap.size, 0, none⟩) 8 8) (hl h0N)) := Lib.hid (WS.lit (hl h0N) (heap_alloc_new w _) rfl (by decide))
  have HB1 : Hid (Below w.heap.size w (w.alloc (.cells #[.int .u32 1779033703, .int .u32 3144134277, .int .u32 1013904242, .int .u32 2773480762, .int .u32 1359893119, .int .u32 2600822924, .int .u32 528734635, .int .u32 1541459225] 114))) := Lib.hid ((Below.refl _ _).alloc (Nat.le_refl _) _)
  generalize w.alloc (.cells #[.int .u32 1779033703, .int .u32 3144134277, .int .u32 1013904242, .int .u32 2773480762, .int .u32 1359893119, .int .u32 2600822924, .int .u32 528734635, .int .u32 1541459225] 114) = w1 at *
  have HV0 : Hid (WS w2 (.slice (some ⟨w.heap.size, 0, none⟩) 8 8) (hl (V 0))) := Lib.hid (by rw [HV.out.1]; exact HW1.out.below HB2.out)
  have HB02 := Lib.hid (HB1.out.trans (HB2.out.mono HB1.out.size))
  obtain ⟨gd, od, cd, hv, d1, d2, hgd, _⟩ := HO2.out.cells (by rw [HDl.out]; omega)
  rw [HDl.out] at hv d1
  subst hv
  unfold maxLen at d2
  have HDS : Hid (SliceAt w2 (.slice (some ⟨gd, od, none⟩) (64 * N) cd) 1 (bcells D)) := Lib.hid HO2.out.bs
  clear HW1 HB1 HB2 HO2 HE
  go_loopw [3, 5] (fun v i wr => ∃ k : Nat, k ≤ N ∧ i = .int .i64 ((64 * k : Nat) : Int) ∧ Hid (WS wr v (hl (V k))) ∧ Hid (Below w2.heap.size w2 wr)) (fun _ i _ => 64 * N - (intOf i).toNat)
  case atStart => exact ⟨0, by omega, by simp, HV0, Lib.hid (Below.refl _ _)⟩
  case round =>
    obtain ⟨k, hk, rfl, hS, hB⟩ := hrel
    obtain ⟨gh, oh, ch, hv, q1, q2, hgh, hc3⟩ := hS.out.opened (by simp [hl])
    have h8l : (hl (V k)).length = 8 := rfl
    rw [h8l] at hv q1
    subst hv
    unfold maxLen at q2
    have hws := hB.out.size
    by_cases hlt : k < N
    · have HBk : Hid (Calls Tryz.prog 88 #[.slice (some ⟨gh, oh, none⟩) 8 ch, .slice (some ⟨gd, od + 64 * k, none⟩) 64 (cd - 64 * k)] wr fun e w' => ∃ v, e = .returned v ∧ WS w' v (hl (V (k + 1))) ∧ Below wr.heap.size wr w') := Lib.hid (by
        rw [HV.out.2.1 k]
        exact block_any hS.out (HV.out.2.2.1 k) (bcells_sub (HDS.out.below hB.out) (64 * k) 64 (by omega) (by rw [HDl.out]; omega)) (by rw [List.length_take, List.length_drop, HDl.out]; omega) (fun x hx => HD8.out x (List.mem_of_mem_drop (List.mem_of_mem_take hx))))
      have t1 : ((64 * k : Nat) : Int) < ((64 * N : Nat) : Int) := by omega
      have f1 : IntKind.i64.wrap (((64 * k : Nat) : Int) + 64) = ((64 * (k + 1) : Nat) : Int) := by rw [IntWalk.i64_in _ (by omega)]; omega
      clear hc3
      go_wp2_with (go_at_call 88; refine HBk.out.mono ?_; rintro e w3 ⟨v3, rfl, hs3, hb3⟩; have HS3 := Lib.hid hs3; have HB3 := Lib.hid (hB.out.trans (hb3.mono hws)); clear hs3 hb3)
      go_roundw
      case rel => exact ⟨k + 1, by omega, by congr 1, HS3, HB3⟩
      case measure => simp [intOf]; omega
    · have eN : k = N := by omega
      have t1 : ¬ ((64 * k : Nat) : Int) < ((64 * N : Nat) : Int) := by omega
      rw [eN] at hc3
      have HVR := Lib.hid HV.out.2.2.2
      have HVc : Hid (∀ j n, (hl (V N))[j]? = some n → wr.cell? ⟨gh, oh + j, none⟩ = some (.int .u32 (n : Nat))) := Lib.hid hc3
      have rV := Lib.hid (HV.out.2.2.1 N)
      have HBW := Lib.hid (HB02.out.trans (hB.out.mono HB02.out.size))
      clear hc3 hS HV h8l
      generalize V N = Y at *
      obtain ⟨wz, hwz⟩ : ∃ wz, wz = wr := ⟨_, rfl⟩
      subst hwz
      go_wp2
      have HLg := Lib.hid (hl_get Y)
      have HA8 : Hid (wordsB ((hl Y).take 8) = bytesOfH Y) := Lib.hid (bytesOfH_words Y).symm
      have HA0 : Hid (wordsB ((hl Y).take 0) = []) := Lib.hid rfl
      have HAk : Hid (∀ k, (wordsB ((hl Y).take k)).length ≤ 32) := Lib.hid (fun k => by rw [wordsB_length, List.length_take]; have : (hl Y).length = 8 := rfl; omega)
      have HAT := Lib.hid (fun k x => wordsB_take (hl Y) k x)
      have HR8 := Lib.hid (bytesOfH_lt Y)
      have HRl : Hid ((bytesOfH Y).length = 32) := Lib.hid (bytesOfH_length Y)
      clear hlt t1
      go_loopw [6, 7] (fun v i wr => ∃ k : Nat, k ≤ 8 ∧ i = .int .i64 k ∧ Hid (OwnB wr wz.heap.size v (wordsB ((hl Y).take k))) ∧ Hid (Below wz.heap.size wz wr)) (fun _ i _ => 8 - (intOf i).toNat)
      case atStart => exact ⟨0, by omega, rfl, Lib.hid (OwnE.nil _ _ _ _), Lib.hid (Below.refl _ _)⟩
      case round =>
        obtain ⟨k, hk, rfl, hO, hB⟩ := hrel
        obtain ⟨va, vn, vc, hv, hvn⟩ := OwnB.form hO.out
        by_cases hlt : k < 8
        · subst hv
          clear hvn
          have c1 := cell_keepB hB.out hgh (HVc.out k _ (HLg.out k hlt))
          have r2 := hl_lt rV.out k
          have HT := Lib.hid (HAT.out k _ (HLg.out k hlt))
          generalize lg (hl Y) k = x at *
          have tk : (k : Int) < 8 := by omega
          have tk0 : (0 : Int) ≤ (k : Int) := by omega
          have HXl : Hid ((wordsB ((hl Y).take k)).length ≤ 1100000000) := Lib.hid (by have := HAk.out k; omega)
          generalize wordsB ((hl Y).take k) = X at *
          go_wp2
          refine wp_region_late 24 1 [0] (fun w' => ∃ n, w' = wr.drewN n) (fun _ => True) (by kernel_rfl) (by kernel_rfl) ⟨1, rfl⟩ ?_
          simp only [List.take_succ_cons, List.take_zero, List.drop_succ_cons, List.drop_zero]
          repeat (go_big_quiet_step (fail))
          refine wpQuiet_nil ?_
          refine ⟨fun W _ i o hi ho => ?late, ?_⟩
          case late =>
            obtain rfl : i = 0 := by simpa using hi
            simp only [List.getElem?_toArray, List.getElem?_cons_zero, Option.some.injEq] at ho
            subst ho
            refine ⟨.slice va vn vc, ?_, fun d hd => by simp at hd; subst hd; rfl⟩
            simp [execOp, go_sem]
          rintro _ ⟨nr, rfl⟩
          refine ⟨trivial, ?_⟩
          clear c1
          have hO : Hid (OwnB (wr.drewN nr) wz.heap.size (.slice va vn vc) X) := Lib.hid (OwnE.drewN hO.out nr)
          have hB : Hid (Below wz.heap.size wz (wr.drewN nr)) := Lib.hid (below_drewN hB.out nr)
          generalize wr.drewN nr = wo at *
          have HOA : Hid (OwnB (wo.alloc (.cells #[.int .u8 ((x : Int) / 16777216), .int .u8 ((x : Int) / 65536 % 256), .int .u8 ((x : Int) / 256 % 256), .int .u8 ((x : Int) % 256)] 5)) wz.heap.size (.slice va vn vc) X) := Lib.hid (OwnE.alloc hO.out _)
          have HNA := Lib.hid (heap_alloc_new wo (.cells #[.int .u8 ((x : Int) / 16777216), .int .u8 ((x : Int) / 65536 % 256), .int .u8 ((x : Int) / 256 % 256), .int .u8 ((x : Int) % 256)] 5))
          have HBA := Lib.hid (hB.out.alloc hB.out.size (.cells #[.int .u8 ((x : Int) / 16777216), .int .u8 ((x : Int) / 65536 % 256), .int .u8 ((x : Int) / 256 % 256), .int .u8 ((x : Int) % 256)] 5))
          have E0 : Hid ((x : Int) / 16777216 = ((x / 16777216 % 256 : Nat) : Int)) := Lib.hid (by omega)
          have E1 : Hid ((x : Int) / 65536 % 256 = ((x / 65536 % 256 : Nat) : Int)) := Lib.hid (by omega)
          have E2 : Hid ((x : Int) / 256 % 256 = ((x / 256 % 256 : Nat) : Int)) := Lib.hid (by omega)
          have E3 : Hid ((x : Int) % 256 = ((x % 256 : Nat) : Int)) := Lib.hid (by omega)
          refine wpTail_step rfl ?_
          go_wp2
          refine ⟨rfl, trivial, ?_⟩
          unfold wpTail
          go_wp2_with (at_builtin; refine wpList_append_four _ _ wz.heap.size _ X wo.heap.size _ _ _ _ _ _ _ _ E0.out E1.out E2.out E3.out _ HOA.out HXl.out HBA.out.size HNA.out rfl rfl rfl rfl ?_; intro v7 w7 hown7 hgr7; have HO7 := Lib.hid hown7; have HB7 := Lib.hid (HBA.out.grown hgr7 HBA.out.size (fun j e => OwnE.ge HOA.out j e)); clear hown7 hgr7)
          refine ⟨rfl, ?_⟩
          go_wp2
          go_roundw
          case rel =>
            refine ⟨k + 1, by omega, by go_num, ?_, HB7⟩
            rw [HT.out]
            exact HO7
          case measure => simp [intOf]; omega
        · have e8 : k = 8 := by omega
          clear hv hvn
          rw [e8, HA8.out] at hO
          obtain ⟨gx, ox, cx, hv, _, x2, _, hx3⟩ := hO.out.cells (by rw [HRl.out]; omega)
          rw [HRl.out] at hv
          subst hv
          have HX3 := Lib.hid hx3
          clear hx3 hO hk
          have tk : ¬ (k : Int) < 8 := by omega
          go_wp2_with (refine wpList_convS (bytesOfH Y) HR8.out 88 9 5 _ gx ox 32 cx rfl rfl rfl (by rw [HRl.out]) (by kernel_rfl) (by kernel_rfl) (by kernel_rfl) HX3.out ?_)
          go_ret
          exact ⟨by rw [HVR.out]; rfl, HBW.out.trans (hB.out.mono HBW.out.size)⟩

theorem mark_size (m : UInt8) (s : ByteArray) : ((⟨#[m]⟩ : ByteArray) ++ s).size = s.size + 1 := by
  rw [ByteArray.size_append]
  show 1 + s.size = _
  omega
theorem leafS_eq (s : ByteArray) : leafS s = sumS ((⟨#[0]⟩ : ByteArray) ++ s) := rfl
theorem nodeS_eq (a b : ByteArray) : nodeS a b = sumS ((⟨#[1]⟩ : ByteArray) ++ (a ++ b)) := rfl
theorem r2mark_any (t u s : ByteArray) (h : t = u) (w : World) (hs : t.size ≤ 1000000000) (hu : s = sumS u) : Calls Tryz.prog 57 #[.string t] w fun e w' => e = .returned (.string s) ∧ Below w.heap.size w w' := by
  subst h hu
  exact r2sum_any t w hs
theorem r2leaf_any (s : ByteArray) (w : World) (hs : s.size ≤ 900000000) : Calls Tryz.prog 38 #[.string s] w fun e w' => e = .returned (.string (leafS s)) ∧ Below w.heap.size w w' := by
  have hz : ((⟨#[0]⟩ : ByteArray) ++ s).size ≤ 1000000000 := by have := mark_size 0 s; omega
  obtain ⟨R, hR⟩ : ∃ R, R = leafS s := ⟨_, rfl⟩
  have HS := Lib.hid (r2mark_any ((⟨#[0]⟩ : ByteArray) ++ s) _ R rfl w hz (hR.trans (leafS_eq s)))
  rw [← hR]
  clear hR hz
  go_enter Tryz.func38, Tryz.ntmps38
  go_wp2_with (go_at_call 57; refine HS.out.mono ?_; rintro e w1 ⟨rfl, hb⟩)
  go_ret
  exact ⟨rfl, hb⟩
theorem r2node_any (a b : ByteArray) (w : World) (ha : a.size ≤ 100000000) (hb : b.size ≤ 100000000) : Calls Tryz.prog 71 #[.string a, .string b] w fun e w' => e = .returned (.string (nodeS a b)) ∧ Below w.heap.size w w' := by
  have hz : ((⟨#[1]⟩ : ByteArray) ++ a ++ b).size ≤ 1000000000 := by
    have := mark_size 1 a
    rw [ByteArray.size_append]
    omega
  obtain ⟨R, hR⟩ : ∃ R, R = nodeS a b := ⟨_, rfl⟩
  have HS := Lib.hid (r2mark_any ((⟨#[1]⟩ : ByteArray) ++ a ++ b) _ R ByteArray.append_assoc w hz (hR.trans (nodeS_eq a b)))
  rw [← hR]
  clear hR hz
  go_enter Tryz.func71, Tryz.ntmps71
  go_wp2_with (go_at_call 57; refine HS.out.mono ?_; rintro e w1 ⟨rfl, hb⟩)
  go_ret
  exact ⟨rfl, hb⟩
end Go.Proofs.YtinfpbkbnhcifaaGreatDoor
