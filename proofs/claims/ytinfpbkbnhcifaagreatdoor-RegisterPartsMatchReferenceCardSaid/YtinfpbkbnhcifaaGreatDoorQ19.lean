/- The reference's SHA-256: rotated, constants, rows of words and bytes. The conditions: ranges. -/
import Derived.Test.YtinfpbkbnhcifaaGreatDoorQ04
import Derived.Test.YtinfpbkbnhcifaaGreatDoorQ07
namespace Go.Proofs.YtinfpbkbnhcifaaGreatDoor
open Go.RowKit Go.BigFrame

set_option maxHeartbeats 1000000 in
theorem rotated_any (x n : Nat) (w : World) (hx : x < 4294967296) (h1 : 1 ≤ n) (h2 : n ≤ 31) :
    Calls Tryz.prog 115 #[.int .u32 x, .int .i64 n] w fun e w' => e = .returned (.int .u32 (rotr x n : Nat)) ∧ ∃ m, w' = w.drewN m := by
  have f1 : IntKind.i64.wrap (32 - (n : Int)) = ((32 - n : Nat) : Int) := by rw [IntWalk.i64_in _ (by omega)]; omega
  have b1 : (0 : Int) ≤ (n : Int) := by omega
  have b2 : (0 : Int) ≤ ((32 - n : Nat) : Int) := by omega
  obtain ⟨k, hk⟩ : ∃ k, k = 32 - n := ⟨_, rfl⟩
  have HK := Lib.hid hk
  rw [← hk] at f1 b2
  have hk31 : k ≤ 31 := by omega
  clear hk
  go_enter Tryz.func115, Tryz.ntmps115
  go_wp2
  go_quiet (fail)
  go_wp2
  go_ret
  refine ⟨ret_int ?_, _, rfl⟩
  have g1 : x * 2 ^ k % 4294967296 < 4294967296 := Nat.mod_lt _ (by omega)
  have g2 : x / 2 ^ n < 4294967296 := Nat.lt_of_le_of_lt (Nat.div_le_self _ _) hx
  have c1 : ((x * 2 ^ k % 4294967296 : Nat) : Int) = (x : Int) * 2 ^ k % 4294967296 := by rw [Int.natCast_emod, Int.natCast_mul, Int.natCast_pow]; rfl
  have c2 : ((x / 2 ^ n : Nat) : Int) = (x : Int) / 2 ^ n := by rw [Int.natCast_ediv, Int.natCast_pow]; rfl
  rw [← c1, ← c2, u32_or_nat _ _ g2 g1, Nat.or_comm, HK.out]
  rfl

/-- The cells of words. -/
def wcells (l : List Nat) : List (List Value) := l.map fun n => [.int .u32 (n : Nat)]
theorem wcells_one (l : List Nat) : ∀ c ∈ wcells l, c.length = 1 := by
  intro c hc
  unfold wcells at hc
  obtain ⟨n, _, rfl⟩ := List.mem_map.1 hc
  rfl
theorem wcells_len (l : List Nat) : (wcells l).length = l.length := List.length_map ..
theorem wcells_flat (l : List Nat) : (wcells l).flatten = l.map fun n => Value.int .u32 (n : Nat) := by
  unfold wcells
  induction l with
  | nil => rfl
  | cons x l ih => simp [ih]
def WS (w : World) (v : Value) (l : List Nat) : Prop := SliceAt w v 1 (wcells l)
theorem WS.below {w w' : World} {v : Value} {l : List Nat} (h : WS w v l) (hb : Below w.heap.size w w') : WS w' v l := SliceAt.below h hb
theorem WS.opened {w : World} {v : Value} {l : List Nat} (h : WS w v l) (hl : 0 < l.length) : ∃ b off cap, v = .slice (some ⟨b, off, none⟩) l.length cap ∧ l.length ≤ cap ∧ cap ≤ maxLen ∧ b < w.heap.size ∧
    ∀ k n, l[k]? = some n → w.cell? ⟨b, off + k, none⟩ = some (.int .u32 (n : Nat)) := by
  obtain ⟨a, cap, hv, h1, h2, h3⟩ := h
  unfold wcells at *
  rw [List.length_map] at hv h1
  rcases h3 with h3 | ⟨b, off, ha, hb, hc⟩
  · simp at h3; subst h3; simp at hl
  · subst ha
    refine ⟨b, off, cap, hv, h1, h2, hb, fun k x hx => ?_⟩
    have := hc k [.int .u32 (x : Nat)] (by rw [List.getElem?_map, hx]; rfl) 0 _ rfl
    simpa using this
def OwnW (w : World) (base : Nat) (v : Value) (l : List Nat) : Prop := OwnE w base 114 1 v (wcells l)
def OwnB (w : World) (base : Nat) (v : Value) (l : List Nat) : Prop := OwnE w base 5 1 v (bcells l)
theorem OwnW.ws {w : World} {base : Nat} {v : Value} {l : List Nat} (h : OwnW w base v l) : WS w v l := OwnE.slice h (wcells_one l)
theorem bcells_one (l : List Nat) : ∀ c ∈ bcells l, c.length = 1 := by
  intro c hc
  unfold bcells at hc
  obtain ⟨n, _, rfl⟩ := List.mem_map.1 hc
  rfl
theorem bcells_len (l : List Nat) : (bcells l).length = l.length := List.length_map ..
theorem OwnB.bs {w : World} {base : Nat} {v : Value} {l : List Nat} (h : OwnB w base v l) : SliceAt w v 1 (bcells l) := OwnE.slice h (bcells_one l)
theorem infoU32 : (Tryz.prog.info? 114).map (fun i => (i.zero, i.size, i.bytes)) = some (some (.int .u32 0), 1, 4) := by kernel_rfl

section
variable {ops : Array Oper} {rest : List Oper} {o : Oper} {a : Act} {w : World} {Q : Exit → Act → World → Prop}
theorem wpList_append_word (s x : Operand) (base : Nat) (v : Value) (xs : List Nat) (b : Nat) (y : Int) (n : Nat) (hy : y = n) (fr : Nat × Nat) (hown : OwnW w base v xs) (hlen : xs.length ≤ 100000) (hbase : base ≤ w.heap.size)
    (hb : w.heap[b]? = some (.cells #[.int .u32 y] 114 fr)) (hgd : o.guard = none) (ho : o.op = .call { callee := .builtin .append, args := #[s, x], argTypes := #[115, 115] }) (hs : a.eval s = v) (hx : a.eval x = .slice (some ⟨b, 0, none⟩) 1 1)
    (h : ∀ v' w', OwnW w' base v' (xs ++ [n]) → w.grownBy w' v.ownBlock → wpList Tryz.prog ops Q rest (a.put o.dst v') w') : wpList Tryz.prog ops Q (o :: rest) a w :=
  wpList_append_el 115 114 1 4 _ (by kernel_rfl) infoU32 rfl (by decide) hgd s x ho base v (wcells xs) hs hown b [.int .u32 y] rfl (fun u hu => by rw [List.mem_singleton] at hu; subst hu; rfl) hx fr hb
    (by rw [wcells_len]; unfold maxLen; omega) (by rw [wcells_len]; omega) hbase fun v' w' h1 h2 => h v' w' (by unfold OwnW wcells; rw [List.map_append]; subst hy; exact h1) h2
theorem wpList_append_byte (s x : Operand) (base : Nat) (v : Value) (xs : List Nat) (b : Nat) (y : Int) (n : Nat) (hy : y = n) (fr : Nat × Nat) (hown : OwnB w base v xs) (hlen : xs.length ≤ 1100000000) (hbase : base ≤ w.heap.size)
    (hb : w.heap[b]? = some (.cells #[.int .u8 y] 5 fr)) (hgd : o.guard = none) (ho : o.op = .call { callee := .builtin .append, args := #[s, x], argTypes := #[88, 88] }) (hs : a.eval s = v) (hx : a.eval x = .slice (some ⟨b, 0, none⟩) 1 1)
    (h : ∀ v' w', OwnB w' base v' (xs ++ [n]) → w.grownBy w' v.ownBlock → wpList Tryz.prog ops Q rest (a.put o.dst v') w') : wpList Tryz.prog ops Q (o :: rest) a w :=
  wpList_append_el 88 5 1 1 _ (by kernel_rfl) infoByte rfl (by decide) hgd s x ho base v (bcells xs) hs hown b [.int .u8 y] rfl (fun u hu => by rw [List.mem_singleton] at hu; subst hu; rfl) hx fr hb
    (by rw [bcells_len]; unfold maxLen; omega) (by rw [bcells_len]; omega) hbase fun v' w' h1 h2 => h v' w' (by unfold OwnB bcells; rw [List.map_append]; subst hy; exact h1) h2
end

/-- A row of words that is written out. -/
theorem WS.lit {w : World} {b n : Nat} {T : TypeId} {fz : Nat × Nat} (l : List Nat) (h : w.heap[b]? = some (.cells (l.map fun n => Value.int .u32 (n : Nat)).toArray T fz)) (hn : n = l.length) (hm : l.length ≤ 1000) : WS w (.slice (some ⟨b, 0, none⟩) n n) l := by
  subst hn
  refine ⟨_, l.length, by rw [wcells_len], by rw [wcells_len]; exact Nat.le_refl _, by unfold maxLen; omega, .inr ⟨b, 0, rfl, (Array.getElem?_eq_some_iff.1 h).1, fun i c hi j u hj => ?_⟩⟩
  unfold wcells at hi
  rw [List.getElem?_map] at hi
  obtain ⟨x, hx, rfl⟩ := Option.map_eq_some_iff.1 hi
  have hj0 : j = 0 := by have := (List.getElem?_eq_some_iff.1 hj).1; simp at this; omega
  subst hj0
  rw [cell_of_row w b _ _ T fz h, Nat.zero_add, Nat.mul_one, Nat.add_zero, List.getElem?_toArray, List.getElem?_map, hx]
  simpa using hj

set_option maxHeartbeats 1000000 in
set_option maxRecDepth 100000 in
theorem constants_any (w : World) : Calls Tryz.prog 116 #[] w fun e w' => ∃ v, e = .returned v ∧ WS w' v kN ∧ Below w.heap.size w w' := by
  go_enter Tryz.func116, Tryz.ntmps116
  go_wp2
  go_ret
  exact ⟨_, rfl, WS.lit kN (heap_alloc_new w _) rfl (by decide), (Below.refl _ _).alloc (Nat.le_refl _) _⟩
end Go.Proofs.YtinfpbkbnhcifaaGreatDoor

/- The reference's SHA-256: the bytes that are added. The condition: the length. -/
namespace Go.Proofs.YtinfpbkbnhcifaaGreatDoor
open Go.RowKit Go.BigFrame

theorem bytesS_get (s : ByteArray) (k : Nat) (h : k < s.size) : (bytesS s)[k]? = some s[k].toNat := by
  unfold bytesS
  rw [List.getElem?_map, Array.getElem?_toList, Array.getElem?_eq_getElem h]
  rfl
theorem take_snoc {α : Type} {l : List α} {k : Nat} {x : α} (h : l[k]? = some x) : l.take (k + 1) = l.take k ++ [x] := by
  rw [List.take_add_one, h]; rfl
theorem zeros_test (n j : Nat) (hj : j ≤ zerosN n) : ((n + 1 + j) % 64 = 56) ↔ j = zerosN n := by
  unfold zerosN at *
  omega
theorem zeros_le (n : Nat) : zerosN n ≤ 63 := by unfold zerosN; omega
theorem lenBytes_take (n m : Nat) (h : m < 8) : (lenBytes n).take (m + 1) = (lenBytes n).take m ++ [8 * n / 2 ^ (8 * (7 - m)) % 256] := take_snoc (lenBytes_get n m h)

theorem OwnB.form {w : World} {base : Nat} {v : Value} {l : List Nat} (h : OwnB w base v l) : ∃ a n cap, v = .slice a n cap ∧ n = l.length := by
  obtain ⟨a, c, e⟩ := OwnE.form h
  exact ⟨a, _, c, e, bcells_len l⟩
theorem OwnW.form {w : World} {base : Nat} {v : Value} {l : List Nat} (h : OwnW w base v l) : ∃ a n cap, v = .slice a n cap ∧ n = l.length := by
  obtain ⟨a, c, e⟩ := OwnE.form h
  exact ⟨a, _, c, e, wcells_len l⟩

set_option maxHeartbeats 4000000 in
set_option maxRecDepth 100000 in
theorem extended_any (s : ByteArray) (w : World) (hs : s.size ≤ 1000000000) :
    Calls Tryz.prog 87 #[.string s] w fun e w' => ∃ v, e = .returned v ∧ OwnB w' w.heap.size v (padN (bytesS s)) ∧ Below w.heap.size w w' := by
  have HL : Hid ((bytesS s).length = s.size) := Lib.hid (bytesS_length s)
  obtain ⟨R, hR⟩ : ∃ R, R = padN (bytesS s) := ⟨_, rfl⟩
  rw [← hR]
  have HR := Lib.hid hR
  clear hR
  go_enter Tryz.func87, Tryz.ntmps87
  go_wp2
  go_loopw [3, 4] (fun v i wr => ∃ k : Nat, k ≤ s.size ∧ i = .int .i64 k ∧ Hid (OwnB wr w.heap.size v ((bytesS s).take k)) ∧ Hid (Below w.heap.size w wr)) (fun _ i _ => s.size - (intOf i).toNat)
  case atStart => exact ⟨0, by omega, rfl, Lib.hid (OwnE.nil _ _ _ _), Lib.hid (Below.refl _ _)⟩
  case round =>
    obtain ⟨k, hk, rfl, hO, hB⟩ := hrel
    obtain ⟨va, vn, vc, hv, hvn⟩ := OwnB.form hO.out
    subst hv
    have HVN := Lib.hid hvn
    clear hvn
    by_cases hlt : k < s.size
    · have t1 : (k : Int) < (s.size : Int) := by omega
      have HT := Lib.hid (take_snoc (bytesS_get s k hlt))
      have HX : Hid (((bytesS s).take k).length ≤ 1100000000) := Lib.hid (by rw [List.length_take]; omega)
      generalize (bytesS s).take k = X at *
      have hsz := hB.out.size
      have HOA : Hid (OwnB (wr.alloc (.cells #[.int .u8 (s[k].toNat : Nat)] 5)) w.heap.size (.slice va vn vc) X) := Lib.hid (OwnE.alloc hO.out _)
      have HNA := Lib.hid (heap_alloc_new wr (.cells #[.int .u8 (s[k].toNat : Nat)] 5))
      have HBA := Lib.hid (hB.out.alloc hsz (.cells #[.int .u8 (s[k].toNat : Nat)] 5))
      go_wp2_with (at_builtin; refine wpList_append_byte _ _ w.heap.size _ X wr.heap.size _ s[k].toNat rfl _ HOA.out HX.out HBA.out.size HNA.out rfl rfl rfl rfl ?_; intro v7 w7 hown7 hgr7; have HO7 := Lib.hid hown7; have HB7 := Lib.hid (HBA.out.grown hgr7 HBA.out.size (fun j e => OwnE.ge HOA.out j e)); clear hown7 hgr7)
      go_roundw
      case rel =>
        refine ⟨k + 1, by omega, by go_num, ?_, HB7⟩
        rw [HT.out]
        exact HO7
      case measure => simp [intOf]; omega
    · have ek : k = s.size := by omega
      have HF : Hid ((bytesS s).take k = bytesS s) := Lib.hid (by rw [ek, ← HL.out, List.take_length])
      rw [HF.out] at hO HVN
      have HP : Hid (R = (bytesS s ++ 128 :: List.replicate (zerosN (bytesS s).length) 0) ++ lenBytes (bytesS s).length) := Lib.hid (HR.out.trans (padN_eq _))
      have HLE := Lib.hid (zeros_le (bytesS s).length)
      have HZT := Lib.hid (zeros_test (bytesS s).length)
      have HLB := Lib.hid (lenBytes_take (bytesS s).length)
      have HL8 : Hid (lenBytes (bytesS s).length = (lenBytes (bytesS s).length).take 8) := Lib.hid rfl
      have HL0 : Hid ((lenBytes (bytesS s).length).take 0 = []) := Lib.hid rfl
      rw [HL.out] at HP HLE HZT HLB HL8 HL0
      have t1 : ¬ (k : Int) < (s.size : Int) := by omega
      obtain ⟨n, hn⟩ : ∃ n, n = s.size := ⟨_, rfl⟩
      rw [← hn] at HP HLE HZT HLB HL8 HL0 HL
      have HNn := Lib.hid hn
      have hn9 : n ≤ 1000000000 := by omega
      have HXl : Hid (((bytesS s).length ≤ 1100000000)) := Lib.hid (by rw [HL.out]; omega)
      clear HF hn HR
      generalize bytesS s = X at *
      generalize lenBytes n = LB at *
      generalize zerosN n = Z at *
      have hsz := hB.out.size
      have HOA : Hid (OwnB (wr.alloc (.cells #[.int .u8 ((128 : Nat) : Int)] 5)) w.heap.size (.slice va vn vc) X) := Lib.hid (OwnE.alloc hO.out _)
      have HNA := Lib.hid (heap_alloc_new wr (.cells #[.int .u8 ((128 : Nat) : Int)] 5))
      have HBA := Lib.hid (hB.out.alloc hsz (.cells #[.int .u8 ((128 : Nat) : Int)] 5))
      go_wp2_with (at_builtin; refine wpList_append_byte _ _ w.heap.size _ X wr.heap.size _ 128 rfl _ HOA.out HXl.out HBA.out.size HNA.out rfl rfl rfl rfl ?_; intro v7 w7 hown7 hgr7; have HO7 : Hid (OwnB w7 w.heap.size v7 (X ++ [128])) := Lib.hid hown7; have HB7 := Lib.hid (HBA.out.grown hgr7 HBA.out.size (fun j e => OwnE.ge HOA.out j e)); clear hown7 hgr7)
      rw [HL.out] at HVN
      obtain ⟨va7, vn7, vc7, hv7, hvn7⟩ := OwnB.form HO7.out
      have HO8 : Hid (OwnB w7 w.heap.size v7 (X ++ 128 :: List.replicate 0 0)) := HO7
      have hZ63 := HLE.out
      subst hv7
      clear hvn7
      clear hO hB HOA HNA HBA HO7
      go_loopw [3] (fun v wr => ∃ j : Nat, j ≤ Z ∧ Hid (OwnB wr w.heap.size v (X ++ 128 :: List.replicate j 0)) ∧ Hid (Below w.heap.size w wr)) (fun v _ => 65 + n - vlen v)
      case atStart => exact ⟨0, by omega, HO8, HB7⟩
      case round =>
        obtain ⟨j, hj, hO, hB⟩ := hrel
        obtain ⟨va, vn, vc, hv, hvn⟩ := OwnB.form hO.out
        replace hvn : vn = n + 1 + j := by
          rw [hvn, List.length_append, List.length_cons, List.length_replicate, HL.out]; omega
        subst hv
        have hz := HZT.out j hj
        have HXS : Hid ((X ++ 128 :: List.replicate j 0).length ≤ 1100000000) := Lib.hid (by rw [List.length_append, List.length_cons, List.length_replicate, HL.out]; omega)
        have HRS : Hid ((X ++ 128 :: List.replicate j 0) ++ [0] = X ++ 128 :: List.replicate (j + 1) 0) := Lib.hid (by
          rw [List.append_assoc, List.cons_append, ← List.replicate_succ'])
        have HVN := Lib.hid hvn
        obtain ⟨XS, hXS⟩ : ∃ XS, XS = X ++ 128 :: List.replicate j 0 := ⟨_, rfl⟩
        rw [← hXS] at hO HXS HRS
        have HXE := Lib.hid hXS
        clear hXS
        have hsz := hB.out.size
        by_cases hjz : j = Z
        · have e56 : (vn : Int) % 64 = 56 := by have := hz.2 hjz; omega
          clear hz hvn
          have HRZ : Hid (R = XS ++ LB.take 8) := Lib.hid (by rw [HP.out, HXE.out, hjz, ← HL8.out])
          have HO9 : Hid (OwnB wr w.heap.size (.slice va vn vc) (XS ++ LB.take 0)) := Lib.hid (by rw [HL0.out, List.append_nil]; exact hO.out)
          have HXT : Hid (∀ k, (XS ++ LB.take k).length ≤ 1100000000) := Lib.hid (fun k => by
            rw [HXE.out, List.length_append, List.length_append, List.length_cons, List.length_replicate, HL.out]
            have : (LB.take k).length ≤ 8 := by rw [HL8.out, List.take_take, List.length_take]; omega
            omega)
          have HL9 := Lib.hid (fun m h => congrArg (XS ++ ·) (HLB.out m h))
          clear HP HL8 HL0 HRS HXE HXS hO HVN hsz HLB HXl HL hjz hj
          go_wp2
          clear e56
          go_loopw [3, 5] (fun v i wr => ∃ k : Nat, k ≤ 8 ∧ i = .int .i64 (7 - (k : Int)) ∧ Hid (OwnB wr w.heap.size v (XS ++ LB.take k)) ∧ Hid (Below w.heap.size w wr)) (fun _ i _ => (intOf i + 1).toNat)
          case atStart => exact ⟨0, by omega, by go_num, HO9, hB⟩
          case round =>
            clear HO9 hB
            obtain ⟨k, hk, rfl, hO, hB⟩ := hrel
            obtain ⟨va, vn, vc, hv, hvn⟩ := OwnB.form hO.out
            subst hv
            clear hvn
            have hsz := hB.out.size
            by_cases h8 : k < 8
            · obtain ⟨j, hj⟩ : ∃ j : Nat, j = 7 - k := ⟨_, rfl⟩
              have ej : (7 : Int) - (k : Int) = (j : Int) := by omega
              have HJ := Lib.hid hj
              have tj : (0 : Int) ≤ (j : Int) := by omega
              obtain ⟨t, ht⟩ : ∃ t, t = 8 * n / 2 ^ (8 * (7 - k)) := ⟨_, rfl⟩
              have f1 : IntKind.i64.wrap (8 * (s.size : Int)) = 8 * (s.size : Int) := IntWalk.i64_in _ (by omega)
              have f2 : IntKind.i64.wrap (8 * (j : Int)) = ((8 * j : Nat) : Int) := by rw [IntWalk.i64_in _ (by omega)]; omega
              obtain ⟨j8, hj8⟩ : ∃ j8, j8 = 8 * j := ⟨_, rfl⟩
              rw [← hj8] at f2
              have tj8 : (0 : Int) ≤ (j8 : Int) := by omega
              have f3 : (8 * (s.size : Int)) / 2 ^ min j8 64 = (t : Int) := by
                rw [ht, hj8, hj, Int.natCast_ediv, Int.natCast_pow, HNn.out, Nat.min_eq_left (by omega)]; rfl
              have HT := Lib.hid (HL9.out k h8)
              rw [← ht] at HT
              have HXk := Lib.hid (HXT.out k)
              rw [ej]
              clear ht hj hj8
              have HOA : Hid (OwnB (wr.alloc (.cells #[.int .u8 ((t : Int) % 256)] 5)) w.heap.size (.slice va vn vc) (XS ++ LB.take k)) := Lib.hid (OwnE.alloc hO.out _)
              have HNA := Lib.hid (heap_alloc_new wr (.cells #[.int .u8 ((t : Int) % 256)] 5))
              have HBA := Lib.hid (hB.out.alloc hsz (.cells #[.int .u8 ((t : Int) % 256)] 5))
              have HYY : Hid ((t : Int) % 256 = ((t % 256 : Nat) : Int)) := Lib.hid (by omega)
              have HTT : Hid ((XS ++ LB.take k) ++ [t % 256] = XS ++ LB.take (k + 1)) := Lib.hid (by rw [HT.out, List.append_assoc])
              clear hO
              generalize XS ++ LB.take k = XK at *
              go_wp2_with (at_builtin; refine wpList_append_byte _ _ w.heap.size _ XK wr.heap.size _ (t % 256) HYY.out _ HOA.out HXk.out HBA.out.size HNA.out rfl rfl rfl rfl ?_; intro v7 w7 hown7 hgr7; have HO7 := Lib.hid hown7; have HB7 := Lib.hid (HBA.out.grown hgr7 HBA.out.size (fun j e => OwnE.ge HOA.out j e)); clear hown7 hgr7)
              have hj1 := HJ.out
              go_roundw
              case rel =>
                refine ⟨k + 1, by omega, ?_, ?_, HB7⟩
                · congr 1; omega
                · rw [← HTT.out]
                  exact HO7
              case measure => simp [intOf]
            · have ek8 : k = 8 := by omega
              have ej : (7 : Int) - (k : Int) = -1 := by omega
              rw [ej]
              rw [ek8, ← HRZ.out] at hO
              clear ek8
              go_wp2
              go_ret
              exact ⟨_, rfl, hO.out, hB.out⟩
        · have e56 : ((vn : Int) % 64 != 56) = true := by
            have : ¬ (n + 1 + j) % 64 = 56 := fun h => hjz (hz.1 h)
            simp only [bne_iff_ne, ne_eq]
            omega
          clear hz hvn
          have HOA : Hid (OwnB (wr.alloc (.cells #[.int .u8 ((0 : Nat) : Int)] 5)) w.heap.size (.slice va vn vc) XS) := Lib.hid (OwnE.alloc hO.out _)
          have HNA := Lib.hid (heap_alloc_new wr (.cells #[.int .u8 ((0 : Nat) : Int)] 5))
          have HBA := Lib.hid (hB.out.alloc hsz (.cells #[.int .u8 ((0 : Nat) : Int)] 5))
          go_wp2_with (at_builtin; refine wpList_append_byte _ _ w.heap.size _ XS wr.heap.size _ 0 rfl _ HOA.out HXS.out HBA.out.size HNA.out rfl rfl rfl rfl ?_; intro v7 w7 hown7 hgr7; have HO7 := Lib.hid hown7; have HB7 := Lib.hid (HBA.out.grown hgr7 HBA.out.size (fun j e => OwnE.ge HOA.out j e)); clear hown7 hgr7)
          go_roundw
          case rel =>
            refine ⟨j + 1, by omega, ?_, HB7⟩
            rw [← HRS.out]
            exact HO7
          case measure =>
            obtain ⟨va8, vn8, vc8, hv8, hvn8⟩ := OwnB.form HO7.out
            subst hv8
            have h1 : vn8 = n + 1 + j + 1 := by rw [hvn8, List.length_append, HXE.out, List.length_append, List.length_cons, List.length_replicate, HL.out]; simp; omega
            have h2 := HVN.out
            simp [vlen]; omega
end Go.Proofs.YtinfpbkbnhcifaaGreatDoor
