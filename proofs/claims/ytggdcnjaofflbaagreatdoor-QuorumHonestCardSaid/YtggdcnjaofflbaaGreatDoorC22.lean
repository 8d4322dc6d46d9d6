/- The reference's Collided. The conditions: what the slices read as, lengths. -/
import Derived.Test.YtggdcnjaofflbaaGreatDoorC21
import Derived.ProofKit
import Derived.OpenShut
import Derived.ChangeBears
import Derived.ReadAgain
import Derived.Deep.DeepHandedRow
import Derived.Lib.LaidTab
import Derived.Test.YtggdcnjaofflbaaGreatDoorC10
import Derived.Stop.LaidErr
import Derived.Test.YtggdcnjaofflbaaGreatDoorC18
namespace Go.Proofs.YtggdcnjaofflbaaGreatDoor
open Go.RowKit Go.BigFrame

theorem collS_no {a b : List ByteArray} (h : ∀ (i j : Nat) (x y : ByteArray), a[i]? = some x → b[j]? = some y → ¬ (x ≠ y ∧ sumS x = sumS y)) : collS a b = false := by
  rw [Bool.eq_false_iff]
  intro hc
  obtain ⟨x, hx, y, hy, h1, h2⟩ := coll_parts hc
  obtain ⟨i, hi⟩ := List.getElem?_of_mem hx
  obtain ⟨j, hj⟩ := List.getElem?_of_mem hy
  exact h i j x y hi hj ⟨h1, h2⟩
theorem collS_yes {a b : List ByteArray} {i j : Nat} {x y : ByteArray} (hi : a[i]? = some x) (hj : b[j]? = some y) (h1 : x ≠ y) (h2 : sumS x = sumS y) : collS a b = true := coll_of (List.mem_of_getElem? hi) (List.mem_of_getElem? hj) h1 h2

set_option maxHeartbeats 8000000 in
set_option maxRecDepth 100000 in
theorem collided_any {w : World} {va vb : Value} {xs ys : List ByteArray} (hx : SS w va xs) (hy : SS w vb ys) (lx : xs.length ≤ 10000) (ly : ys.length ≤ 10000) (hxs : ∀ x ∈ xs, x.size ≤ 1000000) (hys : ∀ x ∈ ys, x.size ≤ 1000000) :
    Calls Tryz.prog 41 #[va, vb] w fun e w' => e = .returned (.bool (collS xs ys)) ∧ Below w.heap.size w w' := by
  obtain ⟨a, ca, rfl, x1, x2, x3⟩ := hx.opened
  obtain ⟨b, cb, rfl, y1, y2, y3⟩ := hy.opened
  unfold maxLen at x2 y2
  have HX3 := Lib.hid x3
  have HY3 := Lib.hid y3
  have HXS := Lib.hid hxs
  have HYS := Lib.hid hys
  have HNO := Lib.hid (collS_no (a := xs) (b := ys))
  have HYES : Hid (∀ (i j : Nat) (x y : ByteArray), xs[i]? = some x → ys[j]? = some y → x ≠ y → sumS x = sumS y → collS xs ys = true) := Lib.hid (fun i j x y hi hj h1 h2 => collS_yes hi hj h1 h2)
  obtain ⟨n, hn⟩ : ∃ n, n = xs.length := ⟨_, rfl⟩
  obtain ⟨m, hm⟩ : ∃ m, m = ys.length := ⟨_, rfl⟩
  rw [← hn] at x1 lx ⊢
  rw [← hm] at y1 ly ⊢
  have HN := Lib.hid hn
  have HM := Lib.hid hm
  have HMT : Hid ((ys.map sumS).take m = ys.map sumS) := Lib.hid (by rw [hm]; exact List.take_of_length_le (by rw [List.length_map]; exact Nat.le_refl _))
  clear x3 y3 hxs hys hx hy hn hm
  generalize collS xs ys = R at *
  go_enter Tryz.func41, Tryz.ntmps41
  go_wp2
  go_loopw [5, 6] (fun v i wr => ∃ k : Nat, k ≤ m ∧ i = .int .i64 k ∧ Hid (OwnS wr w.heap.size v ((ys.map sumS).take k)) ∧ Hid (Below w.heap.size w wr)) (fun _ i _ => m - (intOf i).toNat)
  case atStart => exact ⟨0, by omega, rfl, Lib.hid (OwnE.nil _ _ _ _), Lib.hid (Below.refl _ _)⟩
  case round =>
    obtain ⟨k, hk, rfl, hO, hB⟩ := hrel
    obtain ⟨va, vc, hv⟩ := OwnE.form hO.out
    rw [scells_len, List.length_take, List.length_map, ← HM.out, Nat.min_eq_left hk] at hv
    subst hv
    have hws := hB.out.size
    by_cases hlt : k < m
    · obtain ⟨y, ey⟩ : ∃ y, ys[k]? = some y := ⟨_, List.getElem?_eq_getElem (by rw [← HM.out]; exact hlt)⟩
      obtain ⟨b1, o1, rfl, hb1, c0⟩ := HY3.out k y ey
      have c1 := cell_keepB hB.out hb1 c0
      have HS := Lib.hid (r2sum_any y wr (by have := HYS.out y (List.mem_of_getElem? ey); omega))
      have HT : Hid ((ys.map sumS).take (k + 1) = (ys.map sumS).take k ++ [sumS y]) := Lib.hid (take_snoc (by rw [List.getElem?_map, ey]; rfl))
      generalize sumS y = z at *
      have HXl : Hid (((ys.map sumS).take k).length ≤ 100000) := Lib.hid (by rw [List.length_take]; omega)
      generalize (ys.map sumS).take k = X at *
      have t1 : (k : Int) < (m : Int) := by omega
      have t0 : (0 : Int) ≤ (k : Int) := by omega
      clear c0 ey
      go_wp2_with (first | (go_at_call 55; refine HS.out.mono ?_; rintro e w1 ⟨rfl, hb⟩; have HB1 := Lib.hid (hB.out.trans (hb.mono hws)); have HO1 := Lib.hid (OwnE.far hO.out hb (Nat.le_refl _)); have HOA := Lib.hid (OwnE.alloc HO1.out (.cells #[.string z] 9)); have HNA := Lib.hid (heap_alloc_new w1 (.cells #[.string z] 9)); have HBA := Lib.hid (HB1.out.alloc HB1.out.size (.cells #[.string z] 9)); clear hb) | (at_builtin; refine wpList_append_str _ _ w.heap.size _ X w1.heap.size z (0, 0) HOA.out HXl.out HBA.out.size HNA.out rfl rfl rfl rfl ?_; intro v7 w7 hown7 hgr7; have HO7 := Lib.hid hown7; have HB7 := Lib.hid (HBA.out.grown hgr7 HBA.out.size (fun j e => OwnE.ge HOA.out j e)); clear hown7 hgr7))
      go_roundw
      case rel =>
        refine ⟨k + 1, by omega, by go_num, ?_, HB7⟩
        rw [HT.out]
        exact HO7
      case measure => simp [intOf]; omega
    · obtain rfl : k = m := by omega
      rw [HMT.out] at hO
      have HSZ := Lib.hid hO.out.ss
      obtain ⟨wz, hwz⟩ : ∃ wz, wz = wr := ⟨_, rfl⟩
      subst hwz
      have HBZ := Lib.hid hB.out
      obtain ⟨az, cz, ev, z1, z2, z3⟩ := HSZ.out.opened
      rw [List.length_map, ← HM.out] at ev z1
      cases ev
      unfold maxLen at z2
      have HZ3 := Lib.hid z3
      have HXZ : Hid (∀ (i : Nat) (x : ByteArray), xs[i]? = some x → ∃ g off, a = some ⟨g, off, none⟩ ∧ g < wz.heap.size ∧ wz.cell? ⟨g, off + i, none⟩ = some (.string x)) := Lib.hid (fun i x hx => by
        obtain ⟨g, off, e, hg, hc⟩ := HX3.out i x hx
        exact ⟨g, off, e, Nat.lt_of_lt_of_le hg HBZ.out.size, cell_keepB HBZ.out hg hc⟩)
      have HYZ : Hid (∀ (i : Nat) (x : ByteArray), ys[i]? = some x → ∃ g off, b = some ⟨g, off, none⟩ ∧ g < wz.heap.size ∧ wz.cell? ⟨g, off + i, none⟩ = some (.string x)) := Lib.hid (fun i x hx => by
        obtain ⟨g, off, e, hg, hc⟩ := HY3.out i x hx
        exact ⟨g, off, e, Nat.lt_of_lt_of_le hg HBZ.out.size, cell_keepB HBZ.out hg hc⟩)
      have HSS : Hid (∀ (i : Nat) (x : ByteArray), ys[i]? = some x → ∃ g off, va = some ⟨g, off, none⟩ ∧ g < wz.heap.size ∧ wz.cell? ⟨g, off + i, none⟩ = some (.string (sumS x))) := Lib.hid (fun i x hx => HZ3.out i _ (by rw [List.getElem?_map, hx]; rfl))
      clear hO hB z3 HZ3 HSZ HX3 HY3 HMT hlt hk
      go_wp2
      go_loopw [7, 8, 9] (fun v _ _ wr => ∃ i : Nat, i ≤ n ∧ v = .int .i64 i ∧ Hid (∀ (p j : Nat) (x y : ByteArray), p < i → xs[p]? = some x → ys[j]? = some y → ¬ (x ≠ y ∧ sumS x = sumS y)) ∧ Hid (Below wz.heap.size wz wr)) (fun v _ _ _ => n - (intOf v).toNat)
      case atStart => exact ⟨0, by omega, rfl, Lib.hid (fun p j x y h => by omega), Lib.hid (Below.refl _ _)⟩
      case round =>
        obtain ⟨i, hi, rfl, hno, hB⟩ := hrel
        by_cases hlt : i < n
        · obtain ⟨x, ex⟩ : ∃ x, xs[i]? = some x := ⟨_, List.getElem?_eq_getElem (by rw [← HN.out]; exact hlt)⟩
          obtain ⟨g, off, rfl, hg, c0⟩ := HXZ.out i x ex
          have d0 := cell_keepB hB.out hg c0
          have HS := Lib.hid (r2sum_any x wr (by have := HXS.out x (List.mem_of_getElem? ex); omega))
          have t1 : (i : Int) < (n : Int) := by omega
          have t0 : (0 : Int) ≤ (i : Int) := by omega
          have EX := Lib.hid ex
          have C0 := Lib.hid c0
          obtain ⟨sx, hsx⟩ : ∃ sx, sx = sumS x := ⟨_, rfl⟩
          rw [← hsx] at HS
          have HSX := Lib.hid hsx
          clear ex c0 hsx
          go_wp2_with (go_at_call 55; refine HS.out.mono ?_; rintro e w1 ⟨rfl, hb⟩; have HB1 := Lib.hid (hB.out.trans (hb.mono hB.out.size)); clear hb)
          clear d0 t1 hB
          go_loopw [9] (fun v wr => ∃ j : Nat, j ≤ k ∧ v = .int .i64 j ∧ Hid (∀ (p : Nat) (y : ByteArray), p < j → ys[p]? = some y → ¬ (x ≠ y ∧ sx = sumS y)) ∧ Hid (Below wz.heap.size wz wr)) (fun v _ => k - (intOf v).toNat)
          case atStart => exact ⟨0, by omega, rfl, Lib.hid (fun p y h => by omega), HB1⟩
          case round =>
            clear HB1
            obtain ⟨j, hj, rfl, hnj, hB⟩ := hrel
            by_cases hlj : j < k
            · obtain ⟨y, ey⟩ : ∃ y, ys[j]? = some y := ⟨_, List.getElem?_eq_getElem (by rw [← HM.out]; exact hlj)⟩
              obtain ⟨g2, off2, rfl, hg2, e0⟩ := HYZ.out j y ey
              obtain ⟨g3, off3, rfl, hg3, f0⟩ := HSS.out j y ey
              have d0 := cell_keepB hB.out hg C0.out
              have d1 := cell_keepB hB.out hg2 e0
              have d2 := cell_keepB hB.out hg3 f0
              have EY := Lib.hid ey
              have t1 : (j : Int) < (k : Int) := by omega
              have t2 : (0 : Int) ≤ (j : Int) := by omega
              have t3 : (i : Int) < (n : Int) := by omega
              obtain ⟨sy, hsy⟩ : ∃ sy, sy = sumS y := ⟨_, rfl⟩
              rw [← hsy] at d2
              have HSY := Lib.hid hsy
              clear ey e0 f0 hsy
              by_cases hxy : x = y
              · have hq : (x.toList == y.toList) = true := by rw [same_str]; exact decide_eq_true hxy
                have HNX : Hid (∀ (p : Nat) (z : ByteArray), p < j + 1 → ys[p]? = some z → ¬ (x ≠ z ∧ sx = sumS z)) := Lib.hid (fun p z hp hz => by
                  by_cases e : p = j
                  · subst e
                    rw [EY.out] at hz
                    cases hz
                    exact fun h => h.1 hxy
                  · exact hnj.out p z (by omega) hz)
                clear hxy hnj
                go_wp2
                go_quiet (fail)
                have hB : Hid (Below wz.heap.size wz (wr.drewN nq)) := Lib.hid (below_drewN hB.out nq)
                go_wp2
                go_roundw
                case rel => exact ⟨j + 1, by omega, by go_num, HNX, hB⟩
                case measure => simp [intOf]; omega
              · have hq : (x.toList == y.toList) = false := by rw [same_str]; exact decide_eq_false hxy
                by_cases hss : sx = sy
                · have hq2 : (sx.toList == sy.toList) = true := by rw [same_str]; exact decide_eq_true hss
                  have HR : Hid (R = true) := Lib.hid (HYES.out i j x y EX.out EY.out hxy (by rw [← HSX.out, ← HSY.out, hss]))
                  clear hss hxy hnj
                  go_wp2
                  go_quiet (fail)
                  have hB : Hid (Below wz.heap.size wz (wr.drewN nq)) := Lib.hid (below_drewN hB.out nq)
                  go_wp2
                  go_ret
                  exact ⟨by rw [HR.out]; rfl, HBZ.out.trans (hB.out.mono HBZ.out.size)⟩
                · have hq2 : (sx.toList == sy.toList) = false := by rw [same_str]; exact decide_eq_false hss
                  have HNX : Hid (∀ (p : Nat) (z : ByteArray), p < j + 1 → ys[p]? = some z → ¬ (x ≠ z ∧ sx = sumS z)) := Lib.hid (fun p z hp hz => by
                    by_cases e : p = j
                    · subst e
                      rw [EY.out] at hz
                      cases hz
                      exact fun h => hss (by rw [HSY.out]; exact h.2)
                    · exact hnj.out p z (by omega) hz)
                  clear hss hxy hnj
                  go_wp2
                  go_quiet (fail)
                  have hB : Hid (Below wz.heap.size wz (wr.drewN nq)) := Lib.hid (below_drewN hB.out nq)
                  go_wp2
                  go_roundw
                  case rel => exact ⟨j + 1, by omega, by go_num, HNX, hB⟩
                  case measure => simp [intOf]; omega
            · have t1 : ¬ (j : Int) < (k : Int) := by omega
              have t3 : (i : Int) < (n : Int) := by omega
              have HNI : Hid (∀ (p j : Nat) (x y : ByteArray), p < i + 1 → xs[p]? = some x → ys[j]? = some y → ¬ (x ≠ y ∧ sumS x = sumS y)) := Lib.hid (fun p q x' y hp hx' hy => by
                by_cases e : p = i
                · subst e
                  rw [EX.out] at hx'
                  cases hx'
                  rw [← HSX.out]
                  have hqk : q < k := by rw [HM.out]; exact (List.getElem?_eq_some_iff.1 hy).1
                  exact hnj.out q y (by omega) hy
                · exact hno.out p q x' y (by omega) hx' hy)
              clear hnj hno
              go_wp2
              go_roundw
              case rel => exact ⟨i + 1, by omega, by go_num, HNI, hB⟩
              case measure => simp [intOf]; omega
        · have t1 : ¬ (i : Int) < (n : Int) := by omega
          have HR : Hid (R = false) := Lib.hid (HNO.out (fun p q x y hx hy => by
            have hp : p < n := by rw [HN.out]; exact (List.getElem?_eq_some_iff.1 hx).1
            exact hno.out p q x y (by omega) hx hy))
          clear hno
          go_wp2
          go_ret
          exact ⟨by rw [HR.out]; rfl, HBZ.out.trans (hB.out.mono HBZ.out.size)⟩
end Go.Proofs.YtggdcnjaofflbaaGreatDoor

/- From the data of a row to what a walk asks: slices of integers; the arguments read again behind a call that makes new memory alone. The conditions are those of the row. -/
namespace Go.Proofs.YtggdcnjaofflbaaGreatDoor
open Go.RowKit Go.WideShapes Go.ChangeShapes

section
variable {H : Type} {enc : TypeId × Value → H} {P : Program}

/-! ### Arguments read again -/
theorem same_below {W W' : World} (hb : Below W.heap.size W W') (p : MemPlace) (hp : p.block < W.heap.size) : W.sameAt W' p := by
  cases p with
  | cell b off => exact hb.cell (p := ⟨b, off, none⟩) hp
  | map b => exact hb.block b hp
theorem trodAll_below {W W' : World} (hb : Below W.heap.size W W') {sp : Nat → Bool} {held : Bool} : ∀ {ts : List TypeId} {vs : List Value} {ds : List (DataW H)} {ps : List MemPlace}, DataW.TrodAll enc P W 0 sp held ts vs ds ps → (∀ p ∈ ps, p.block < W.heap.size) → DataW.TrodAll enc P W' 0 sp held ts vs ds ps
  | [], [], [], _, h, _ => h
  | _ :: _, _ :: _, _ :: _, _, ⟨p, q, ⟨n, h1⟩, h2, e⟩, hs =>
    ⟨p, q, ⟨n, DataW.trod_carry n _ _ _ h1 (fun x hx => same_below hb x (hs x (by rw [e]; exact List.mem_append_left _ hx)))⟩, trodAll_below hb h2 (fun x hx => hs x (by rw [e]; exact List.mem_append_right _ hx)), e⟩

theorem post_below {f : Func} {s : ChangeSpec} {apart fresh handsOn again : Bool} {W W' : World} {args : Array Value} {v : Value} {ds gs : List (DataW H)} {before pa pv : List MemPlace}
    (hW : DataW.Whole enc P f.params.toList s.vars apart W args.toList ds gs before)
    (hres : ∀ (b : Nat) (sp : Nat → Bool) (hd : Bool), DataW.TrodAll enc P W' b sp hd f.resultTypes.toList (v.resultList f.resultTypes.size) (s.fn H (ds ++ gs)).results [])
    (hargs : ∀ sp : Nat → Bool, (∀ p ∈ before, sp p.block = true) → DataW.TrodAll enc P W' 0 sp true f.params.toList args.toList (s.fn H (ds ++ gs)).args pa)
    (hvars : ∀ sp : Nat → Bool, (∀ p ∈ before, sp p.block = true) → DataW.TrodVars enc P W' sp s.vars (s.fn H (ds ++ gs)).vars pv)
    (hps : before = pa ++ pv) (hb : Below W.heap.size W W')
    (hok : ∀ (j : Nat) (t : TypeId) (r : Value), f.resultTypes[j]? = some t → (v.resultList f.resultTypes.size)[j]? = some r → Value.okWide P W' .any 0 t r) :
    s.post enc P f apart fresh handsOn again W args v W' := by
  have hlt : ∀ p ∈ before, p.block < W.heap.size := fun p hp => hW.lt p hp
  have hold : ∀ p ∈ before, (fun b => decide (b < W.heap.size)) p.block = true := fun p hp => by simpa using hlt p hp
  refine ⟨ds, gs, before, [], pa, pv, hW, hres _ _ _, hargs _ hold, hvars _ hold, World.keptBut_mono (fun p hp => ⟨hp, ?_⟩) (hb.frame (· ∈ before)), fun _ => ?_⟩
  · rw [hps, List.mem_append] at hp
    exact Or.inr hp
  · obtain ⟨_, _, _, _, _, hz, hn⟩ := hW
    refine ⟨hok, _, _, ([] ++ pa) ++ pv, ⟨[] ++ pa, pv, trodAll_append (hargs _ (fun _ _ => rfl)) (hres _ _ _), hvars _ (fun _ _ => rfl), rfl, ?_, ?_⟩, ?_⟩
    · intro b off hp
      have hin : MemPlace.cell b off ∈ before := by rw [hps]; simpa using hp
      rw [hb.frozen (hlt _ hin)]
      exact hz b off hin
    · intro ha
      have := hn ha
      rw [hps] at this
      simpa using this
    · intro p hp _
      rw [hps]
      simpa using hp

theorem open_i64 {W : World} {sp : Nat → Bool} {held : Bool} {r : Reach} {b0 : Nat} {t : TypeId} {v : Value} {d : DataW H} {ps : List MemPlace} (ht : P.underlying t = some (.int .i64)) (hval : Value.okWide P W r b0 t v) (hd : DataW.Trod enc P W 0 sp held t v d ps) :
    ∃ n, v = .int .i64 n ∧ d = .lit (.int .i64 n) ∧ ps = [] ∧ I64 n := by
  obtain ⟨n, h1, h2, h3, h4⟩ := open_int ht hval hd
  exact ⟨n, h1, h2, h3, bounds_i64 h4⟩
/-! ### A slice of integers -/
theorem spot_none {W : World} {a : Addr} {v : Value} (h : W.cell? a = some v) : a.spot = none := World.cell?_spot h

theorem ints_open {W : World} {sp : Nat → Bool} {held : Bool} {ts t : TypeId} {v : Value} {d : DataW H} {ps : List MemPlace}
    (hts : P.underlying ts = some (.slice t)) (ht : P.underlying t = some (.int .i64)) (hct : P.cellsOf t = 1)
    (hval : Value.okWide P W .any 0 ts v) (h : DataW.Trod enc P W 0 sp held ts v d ps) : ∃ xs : List Int, IL W v xs ∧ ∀ n ∈ xs, I64 n := by
  obtain ⟨a, len, cap, rfl⟩ := okWide_slice hts hval
  obtain ⟨fuel, h⟩ := h
  cases fuel with
  | zero => simp [DataW.trod] at h
  | succ fuel =>
    rw [show (Value.slice a len cap).cells.toList = [.slice a len cap] from rfl] at h
    cases a with
    | none =>
      unfold DataW.trod at h
      rw [hts] at h
      split at h
      all_goals simp_all
      exact ⟨[], SliceAt.nil _ _, by simp⟩
    | some a =>
      unfold DataW.trod at h
      simp only [hts] at h
      split at h
      · rename_i hc
        obtain ⟨_, h1, h2⟩ := hc
        rw [Option.bind_eq_some_iff] at h
        obtain ⟨elems, hel, _⟩ := h
        rw [hct] at hel
        have hlen : elems.length = len := by simpa using mapM_some_length hel
        have key : ∀ i, i < len → ∃ n : Int, W.cells? 0 (a.add (i * 1)) 1 = some [.int .i64 n] ∧ I64 n := by
          intro i hi
          have h3 := mapM_some_get hel i i (by simp [hi])
          rw [List.getElem?_eq_getElem (by omega), Option.bind_eq_some_iff] at h3
          obtain ⟨cs, hcs, htr⟩ := h3
          obtain ⟨n, hc, _, hw⟩ := DataW.trod_int ht htr
          exact ⟨n, by rw [hcs, hc], bounds_i64 hw⟩
        have hall : ∀ n, n ≤ len → ∃ xs : List Int, xs.length = n ∧ ∀ i q, xs[i]? = some q → W.cells? 0 (a.add (i * 1)) 1 = some [.int .i64 q] ∧ I64 q := by
          intro n
          induction n with
          | zero => intro _; exact ⟨[], rfl, by simp⟩
          | succ n ih =>
            intro hn
            obtain ⟨xs, hx, hxs⟩ := ih (by omega)
            obtain ⟨q, hq⟩ := key n (by omega)
            refine ⟨xs ++ [q], by simp [hx], fun i q' hi => ?_⟩
            rcases Nat.lt_or_ge i n with h' | h'
            · rw [List.getElem?_append_left (by omega)] at hi
              exact hxs i q' hi
            · rw [List.getElem?_append_right (by omega)] at hi
              obtain rfl : i = n := by
                rcases Nat.eq_or_lt_of_le h' with h'' | h''
                · omega
                · rw [List.getElem?_eq_none (by simp; omega)] at hi; cases hi
              rw [hx, Nat.sub_self] at hi
              simp at hi
              subst hi
              exact hq
        obtain ⟨xs, hx, hxs⟩ := hall len (Nat.le_refl _)
        refine ⟨xs, ⟨some a, cap, by unfold icells; rw [List.length_map, hx], by unfold icells; rw [List.length_map, hx]; exact h1, h2, ?_⟩, fun q hq => ?_⟩
        · by_cases h0 : len = 0
          · left
            unfold icells
            rw [List.map_eq_nil_iff]
            exact List.eq_nil_of_length_eq_zero (by omega)
          · right
            obtain ⟨q0, hq0⟩ : ∃ q, xs[0]? = some q := ⟨_, List.getElem?_eq_getElem (by omega)⟩
            obtain ⟨_, _, hc0⟩ := World.cells?_some (hxs 0 q0 hq0).1
            have h00 := hc0 0 (by omega)
            have hadd : (a.add (0 * 1)).add 0 = a := by simp [Addr.add]
            rw [hadd] at h00
            have hsp : a.spot = none := spot_none (v := .int .i64 q0) h00
            obtain ⟨b, off, spot⟩ := a
            dsimp only at hsp
            subst hsp
            refine ⟨b, off, rfl, World.block_lt_of_cell? W _ h00, fun i c hi j u hj => ?_⟩
            unfold icells at hi
            rw [List.getElem?_map] at hi
            obtain ⟨q, hq, rfl⟩ := Option.map_eq_some_iff.1 hi
            obtain ⟨_, _, hc⟩ := World.cells?_some (hxs i q hq).1
            have hj1 : j < 1 := by
              rcases Nat.lt_or_ge j 1 with h' | h'
              · exact h'
              · rw [List.getElem?_eq_none (by simpa using h')] at hj; cases hj
            have h4 := hc j hj1
            rw [hj] at h4
            have e1 : ((⟨b, off, none⟩ : Addr).add (i * 1)).add j = ⟨b, off + i * 1 + j, none⟩ := by
              unfold Addr.add
              (repeat' split) <;> simp_all
              all_goals omega
            rw [e1] at h4
            exact h4
        · obtain ⟨i, hi⟩ := List.getElem?_of_mem hq
          exact (hxs i q hi).2
      · cases h
/-! ### A pair of integers -/
theorem pair_open {W : World} {sp : Nat → Bool} {held : Bool} {r : Reach} {b0 : Nat} {ts t : TypeId} {v : Value} {d : DataW H} {ps : List MemPlace}
    (hts : P.underlying ts = some (.array 2 t)) (ht : P.underlying t = some (.int .i64)) (hct : P.cellsOf t = 1) (hcs : P.cellsOf ts = 2)
    (hval : Value.okWide P W r b0 ts v) (h : DataW.Trod enc P W 0 sp held ts v d ps) : ∃ a b : Int, v = .agg #[.int .i64 a, .int .i64 b] ∧ I64 a ∧ I64 b := by
  unfold Value.okWide at hval
  rw [hts] at hval
  obtain ⟨cs, rfl, hsize, _⟩ := hval
  rw [hcs] at hsize
  obtain ⟨fuel, h⟩ := h
  obtain ⟨xs, m, _, _, hl, hxl, hi⟩ := DataW.trod_array hts h
  rw [hct] at hi
  rw [show (Value.agg cs).cells.toList = cs.toList from rfl] at hi
  have key : ∀ i, i < 2 → ∃ n, cs[i]? = some (.int .i64 n) ∧ I64 n := by
    intro i h2
    have h1 := hi i h2
    rw [List.getElem?_eq_getElem (by omega)] at h1
    obtain ⟨n, hc, _, hw⟩ := DataW.trod_int ht h1
    refine ⟨n, ?_, bounds_i64 hw⟩
    have := congrArg (·[0]?) hc
    simpa [List.getElem?_take, List.getElem?_drop] using this
  obtain ⟨a, ha, ia⟩ := key 0 (by omega)
  obtain ⟨b, hb, ib⟩ := key 1 (by omega)
  refine ⟨a, b, ?_, ia, ib⟩
  congr 1
  apply Array.ext
  · simpa using hsize
  · intro i h1 h2
    match i, h1 with
    | 0, h1 => rw [Array.getElem?_eq_getElem h1] at ha; exact Option.some.inj ha
    | 1, h1 => rw [Array.getElem?_eq_getElem h1] at hb; exact Option.some.inj hb
    | i + 2, h1 => omega
end
end Go.Proofs.YtggdcnjaofflbaaGreatDoor

/- From the data of a row to what a walk asks: slices of arrays of four integers, bytes. The conditions are those of the row. -/
namespace Go.Proofs.YtggdcnjaofflbaaGreatDoor
open Go.RowKit Go.WideShapes Go.ChangeShapes

section
variable {H : Type} {enc : TypeId × Value → H} {P : Program}

/-! ### A slice of arrays of four integers -/
theorem a4_open {W : World} {base : Nat} {sp : Nat → Bool} {held : Bool} {fuel : Nat} {t e : TypeId} {cs : List Value} {x : DataW H × List MemPlace}
    (ht : P.underlying t = some (.array 4 e)) (he : P.underlying e = some (.int .i64)) (hce : P.cellsOf e = 1) (hct : P.cellsOf t = 4) (h : DataW.trod enc P W base sp held fuel t cs = some x) :
    ∃ q : R4, cs = q.cells ∧ Int4 q := by
  obtain ⟨xs, m, _, _, hl, hxl, hi⟩ := DataW.trod_array ht h
  rw [hct] at hl
  rw [hce] at hi
  have key : ∀ i, i < 4 → ∃ n, cs[i]? = some (.int .i64 n) ∧ I64 n := by
    intro i h4
    have h1 := hi i h4
    rw [List.getElem?_eq_getElem (by omega)] at h1
    obtain ⟨n, hc, _, hw⟩ := DataW.trod_int he h1
    refine ⟨n, ?_, bounds_i64 hw⟩
    have := congrArg (·[0]?) hc
    simpa [List.getElem?_take, List.getElem?_drop] using this
  obtain ⟨a, ha, ia⟩ := key 0 (by omega)
  obtain ⟨b, hb, ib⟩ := key 1 (by omega)
  obtain ⟨c, hc, ic⟩ := key 2 (by omega)
  obtain ⟨d, hd, id⟩ := key 3 (by omega)
  refine ⟨⟨a, b, c, d⟩, ?_, ia, ib, ic, id⟩
  obtain ⟨w, x, y, z, rfl⟩ : ∃ w x y z, cs = [w, x, y, z] := by
    match cs, hl with
    | [w, x, y, z], _ => exact ⟨w, x, y, z, rfl⟩
  simp only [List.getElem?_cons_zero, List.getElem?_cons_succ, Option.some.injEq] at ha hb hc hd
  subst ha hb hc hd
  rfl

theorem a4s_open {W : World} {sp : Nat → Bool} {held : Bool} {ts t e : TypeId} {v : Value} {d : DataW H} {ps : List MemPlace}
    (hts : P.underlying ts = some (.slice t)) (ht : P.underlying t = some (.array 4 e)) (he : P.underlying e = some (.int .i64)) (hce : P.cellsOf e = 1) (hct : P.cellsOf t = 4)
    (hval : Value.okWide P W .any 0 ts v) (h : DataW.Trod enc P W 0 sp held ts v d ps) : ∃ xs : List R4, RS W v xs ∧ ∀ q ∈ xs, Int4 q := by
  obtain ⟨a, len, cap, rfl⟩ := okWide_slice hts hval
  obtain ⟨fuel, h⟩ := h
  cases fuel with
  | zero => simp [DataW.trod] at h
  | succ fuel =>
    rw [show (Value.slice a len cap).cells.toList = [.slice a len cap] from rfl] at h
    cases a with
    | none =>
      unfold DataW.trod at h
      rw [hts] at h
      split at h
      all_goals simp_all
      exact ⟨[], RS.nil _, by simp⟩
    | some a =>
      unfold DataW.trod at h
      simp only [hts] at h
      split at h
      · rename_i hc
        obtain ⟨_, h1, h2⟩ := hc
        rw [Option.bind_eq_some_iff] at h
        obtain ⟨elems, hel, _⟩ := h
        rw [hct] at hel
        have hlen : elems.length = len := by simpa using mapM_some_length hel
        have key : ∀ i, i < len → ∃ q : R4, W.cells? 0 (a.add (i * 4)) 4 = some q.cells ∧ Int4 q := by
          intro i hi
          have h3 := mapM_some_get hel i i (by simp [hi])
          rw [List.getElem?_eq_getElem (by omega), Option.bind_eq_some_iff] at h3
          obtain ⟨cs, hcs, htr⟩ := h3
          obtain ⟨q, rfl, hq⟩ := a4_open ht he hce hct htr
          exact ⟨q, hcs, hq⟩
        have hall : ∀ n, n ≤ len → ∃ xs : List R4, xs.length = n ∧ ∀ i q, xs[i]? = some q → W.cells? 0 (a.add (i * 4)) 4 = some q.cells ∧ Int4 q := by
          intro n
          induction n with
          | zero => intro _; exact ⟨[], rfl, by simp⟩
          | succ n ih =>
            intro hn
            obtain ⟨xs, hx, hxs⟩ := ih (by omega)
            obtain ⟨q, hq⟩ := key n (by omega)
            refine ⟨xs ++ [q], by simp [hx], fun i q' hi => ?_⟩
            rcases Nat.lt_or_ge i n with h' | h'
            · rw [List.getElem?_append_left (by omega)] at hi
              exact hxs i q' hi
            · rw [List.getElem?_append_right (by omega)] at hi
              obtain rfl : i = n := by
                rcases Nat.eq_or_lt_of_le h' with h'' | h''
                · omega
                · rw [List.getElem?_eq_none (by simp; omega)] at hi; cases hi
              rw [hx, Nat.sub_self] at hi
              simp at hi
              subst hi
              exact hq
        obtain ⟨xs, hx, hxs⟩ := hall len (Nat.le_refl _)
        refine ⟨xs, ⟨some a, cap, by rw [List.length_map, hx], by rw [List.length_map, hx]; exact h1, h2, ?_⟩, fun q hq => ?_⟩
        · by_cases h0 : len = 0
          · left
            rw [List.map_eq_nil_iff]
            exact List.eq_nil_of_length_eq_zero (by omega)
          · right
            obtain ⟨q0, hq0⟩ : ∃ q, xs[0]? = some q := ⟨_, List.getElem?_eq_getElem (by omega)⟩
            obtain ⟨_, _, hc0⟩ := World.cells?_some (hxs 0 q0 hq0).1
            have h00 := hc0 0 (by omega)
            have hadd : (a.add (0 * 4)).add 0 = a := by simp [Addr.add]
            rw [hadd] at h00
            have hsp : a.spot = none := spot_none (v := .int .i64 q0.l) h00
            obtain ⟨b, off, spot⟩ := a
            dsimp only at hsp
            subst hsp
            refine ⟨b, off, rfl, World.block_lt_of_cell? W _ h00, fun i c hi j u hj => ?_⟩
            rw [List.getElem?_map] at hi
            obtain ⟨q, hq, rfl⟩ := Option.map_eq_some_iff.1 hi
            obtain ⟨_, _, hc⟩ := World.cells?_some (hxs i q hq).1
            have hj4 : j < 4 := by
              rcases Nat.lt_or_ge j 4 with h' | h'
              · exact h'
              · rw [List.getElem?_eq_none (by simpa [R4.cells] using h')] at hj; cases hj
            have h4 := hc j hj4
            rw [hj] at h4
            have e1 : ((⟨b, off, none⟩ : Addr).add (i * 4)).add j = ⟨b, off + i * 4 + j, none⟩ := by
              unfold Addr.add
              split
              · split
                · rename_i h5 h6; rw [h5, h6]; simp
                · rename_i h5 h6; rw [h5]; simp
              · split
                · rename_i h5 h6; rw [h6]; simp
                · rfl
            rw [e1] at h4
            exact h4
        · obtain ⟨i, hi⟩ := List.getElem?_of_mem hq
          exact (hxs i q hi).2
      · cases h
theorem open_byte {W : World} {sp : Nat → Bool} {held : Bool} {r : Reach} {b0 : Nat} {t : TypeId} {v : Value} {d : DataW H} {ps : List MemPlace} (ht : P.underlying t = some (.int .u8)) (hval : Value.okWide P W r b0 t v) (hd : DataW.Trod enc P W 0 sp held t v d ps) :
    ∃ n : Nat, v = .int .u8 (n : Int) ∧ d = .lit (.int .u8 (n : Int)) ∧ ps = [] ∧ n < 256 := by
  obtain ⟨n, h1, h2, h3, h4⟩ := open_int ht hval hd
  have h5 : 0 ≤ n ∧ n < 256 := by
    simp only [Lit.wf] at h4
    rw [Bool.and_eq_true] at h4
    have h6 := of_decide_eq_true h4.1
    have h7 := of_decide_eq_true h4.2
    have e1 : IntKind.u8.min = 0 := by decide
    have e2 : IntKind.u8.max = 255 := by decide
    rw [e1] at h6
    rw [e2] at h7
    omega
  obtain ⟨m, rfl⟩ := Int.eq_ofNat_of_zero_le h5.1
  exact ⟨m, h1, h2, h3, by omega⟩
end
end Go.Proofs.YtggdcnjaofflbaaGreatDoor
