/- The walk of digest.Sum. The conditions: the string's length, the table of constants. -/
import Derived.Test.YtinfpbkbnhcifaaGreatDoorQDG6
import Derived.Test.YtinfpbkbnhcifaaGreatDoorQRG
namespace Go.Proofs.YtinfpbkbnhcifaaGreatDoor
open Go.RowKit Go.BigFrame Go.Shelf

attribute [local go_sem] Oper.semAt_some

theorem sumS_eq (s : ByteArray) : sumS s = strOf (shaN (bytesS s)) := rfl
theorem padN_lt (l : List Nat) (h : ∀ y ∈ l, y < 256) : ∀ y ∈ padN l, y < 256 := by
  intro y hy
  unfold padN lenBytes at hy
  simp only [List.mem_append, List.mem_cons, List.mem_replicate, List.not_mem_nil, or_false] at hy
  rcases hy with hy | rfl | ⟨_, rfl⟩ | hy
  · exact h y hy
  · omega
  · omega
  · rcases hy with rfl | rfl | rfl | rfl | rfl | rfl | rfl | rfl <;> omega

/-- The words behind k blocks. -/
def upB (b : List Nat) : Nat → H8
  | 0 => h0N
  | k + 1 => blockH (upB b k) ((b.drop (64 * k)).take 64)
theorem blocksF_up (n : Nat) (b : List Nat) (h : H8) (f : Nat → H8) (h0 : f 0 = h) (hs : ∀ k, k < n → f (k + 1) = blockH (f k) ((b.drop (64 * k)).take 64)) : blocksF n h b = f n := by
  induction n generalizing b h f with
  | zero => exact h0.symm
  | succ n ih =>
    unfold blocksF
    refine ih (b.drop 64) _ (fun j => f (j + 1)) ?_ ?_
    · rw [hs 0 (by omega), h0]; simp
    · intro k hk
      rw [hs (k + 1) (by omega), List.drop_drop, show 64 + 64 * k = 64 * (k + 1) by omega]
theorem shaN_up (l : List Nat) (n : Nat) (h : (padN l).length = 64 * n) : shaN l = bytesOfH (upB (padN l) n) := by
  unfold shaN
  rw [h, Nat.mul_div_cancel_left _ (by omega), blocksF_up n (padN l) h0N (upB (padN l)) rfl (fun _ _ => rfl)]
theorem upB_32 (b : List Nat) (k : Nat) : H32 (upB b k) := by
  cases k with
  | zero => unfold upB h0N H32; decide
  | succ k => exact H32.add _ _

theorem infoByte : (Tryz.prog.info? 5).map (fun i => (i.zero, i.size, i.bytes)) = some (some (.int .u8 0), 1, 1) := by kernel_rfl
theorem buildH0 : ∀ w, (Instr.build 166 #[(0, .int .u32 1779033703), (1, .int .u32 3144134277), (2, .int .u32 1013904242), (3, .int .u32 2773480762), (4, .int .u32 1359893119), (5, .int .u32 2600822924), (6, .int .u32 528734635), (7, .int .u32 1541459225)]).run Tryz.prog w = .ok (.agg (hcells h0N)) w := fun w => by kernel_rfl

theorem lenBytes_get (n m : Nat) (h : m < 8) : (lenBytes n)[m]? = some (8 * n / 2 ^ (8 * (7 - m)) % 256) := by
  match m, h with
  | 0, _ | 1, _ | 2, _ | 3, _ | 4, _ | 5, _ | 6, _ => rfl
  | 7, _ => simp [lenBytes]
theorem padN_eq (l : List Nat) : padN l = (l ++ 128 :: List.replicate (zerosN l.length) 0) ++ lenBytes l.length := by
  unfold padN
  rw [List.append_assoc]; rfl
/-- The words behind the chunks of a list. -/
def foldB {N : Nat} (D : List Nat) (h : H8) (xs : List (Fin N)) : H8 := xs.foldl (fun h k => blockH h ((D.drop (64 * k.1)).take 64)) h
theorem foldB_snoc {N : Nat} (D : List Nat) (h : H8) (xs : List (Fin N)) (x : Fin N) : foldB D h (xs ++ [x]) = blockH (foldB D h xs) ((D.drop (64 * x.1)).take 64) := by simp [foldB]
theorem foldB_32 {N : Nat} (D : List Nat) (h : H8) (hh : H32 h) (xs : List (Fin N)) : H32 (foldB D h xs) := by
  induction xs generalizing h with
  | nil => exact hh
  | cons x xs ih =>
    have := ih (blockH h ((D.drop (64 * x.1)).take 64)) (H32.add _ _)
    simpa [foldB] using this
theorem foldB_all {N : Nat} (D : List Nat) (xs : List (Fin N)) (h : xs.map (fun x => x.1) = List.range N) : foldB D h0N xs = upB D N := by
  have key : ∀ m, (List.range m).foldl (fun h k => blockH h ((D.drop (64 * k)).take 64)) h0N = upB D m := by
    intro m
    induction m with
    | zero => rfl
    | succ m ih => rw [List.range_succ, List.foldl_append, ih, List.foldl_cons, List.foldl_nil, upB]
  rw [← key N, ← h, List.foldl_map]
  unfold foldB
  rfl
theorem chunk_slice {W : World} {g N k : Nat} {o : Obj} {D : List Nat} (hcl : ∀ W : World, W.heap[g]? = some o → ∀ j y, D[j]? = some y → W.cell? ⟨g, j, none⟩ = some (.int .u8 (y : Nat))) (hD : D.length = 64 * N) (hk : k < N) (hW : W.heap[g]? = some o) :
    SliceAt W (.slice (some ⟨g, 64 * k, none⟩) 64 64) 1 (bcells ((D.drop (64 * k)).take 64)) := by
  have hl : ((D.drop (64 * k)).take 64).length = 64 := by rw [List.length_take, List.length_drop]; omega
  refine ⟨_, 64, by unfold bcells; rw [List.length_map, hl], by unfold bcells; rw [List.length_map, hl]; exact Nat.le_refl _, by decide, .inr ⟨g, 64 * k, rfl, (Array.getElem?_eq_some_iff.1 hW).1, fun i c hi j u hj => ?_⟩⟩
  unfold bcells at hi
  rw [List.getElem?_map] at hi
  cases hx : ((D.drop (64 * k)).take 64)[i]? with
  | none => rw [hx] at hi; cases hi
  | some y =>
    rw [hx] at hi
    cases hi
    match j, hj with
    | 0, hj =>
      cases hj
      rw [List.getElem?_take] at hx
      split at hx
      · rw [List.getElem?_drop] at hx
        have := hcl W hW _ y hx
        simpa using this
      · cases hx
theorem chunk_len {D : List Nat} {N k : Nat} (hD : D.length = 64 * N) (hk : k < N) : ((D.drop (64 * k)).take 64).length = 64 := by rw [List.length_take, List.length_drop]; omega
theorem chunk_lt {D : List Nat} (h : ∀ y ∈ D, y < 256) (k : Nat) : ∀ y ∈ (D.drop (64 * k)).take 64, y < 256 := fun y hy => h y (List.mem_of_mem_drop (List.mem_of_mem_take hy))

def vlen : Value → Nat
  | .slice _ n _ => n
  | _ => 0
theorem BufB.block {w : World} {base : Nat} {v : Value} {xs : List Nat} (h : BufB w base v xs) : ∃ g cap o, v = .slice (some ⟨g, 0, none⟩) xs.length cap ∧ xs.length ≤ cap ∧ cap ≤ maxLen ∧ g < w.heap.size ∧ w.heap[g]? = some o ∧ base ≤ g ∧ ∀ W : World, W.heap[g]? = some o → ∀ j y, xs[j]? = some y → W.cell? ⟨g, j, none⟩ = some (.int .u8 (y : Nat)) := by
  obtain ⟨g, cap, rfl, h1, h2, h3, h4, h5, h6⟩ := h
  refine ⟨g, cap, w.heap[g], rfl, h1, h2, h4, Array.getElem?_eq_getElem h4, h3, fun W hW j y hj => ?_⟩
  have e : W.cell? ⟨g, j, none⟩ = w.cell? ⟨g, j, none⟩ := by
    simp [World.cell?, hW, Array.getElem?_eq_getElem h4]
  rw [e]; exact h5 j y hj
theorem BufB.form {w : World} {base : Nat} {v : Value} {xs : List Nat} (h : BufB w base v xs) : ∃ g cap, v = .slice (some ⟨g, 0, none⟩) xs.length cap := by
  obtain ⟨g, cap, rfl, _⟩ := h
  exact ⟨g, cap, rfl⟩
/-- What Sum's own memory is: the words, and the buffer. -/
def SumAt (w W : World) (v : Value) (xs : List Nat) : Prop := Below w.heap.size w W ∧ W.heap[w.heap.size]? = some (.cells (hcells h0N) 166 (0, 0)) ∧ BufB W (w.heap.size + 1) v xs
theorem SumAt.size {w W : World} {v : Value} {xs : List Nat} (h : SumAt w W v xs) : w.heap.size + 1 ≤ W.heap.size := (Array.getElem?_eq_some_iff.1 h.2.1).1
theorem SumAt.alloc {w W : World} {v : Value} {xs : List Nat} (h : SumAt w W v xs) (o : Obj) : SumAt w (W.alloc o) v xs :=
  ⟨h.1.alloc h.1.size _, (Below.heap_alloc _ _ _ h.size).trans h.2.1, h.2.2.keep ((Below.refl _ _).alloc (Nat.le_refl _) _)⟩
theorem SumAt.next {w W W' : World} {v v' : Value} {xs ys : List Nat} (h : SumAt w W v xs) (hb : Below (w.heap.size + 1) W W') (h' : BufB W' (w.heap.size + 1) v' ys) : SumAt w W' v' ys :=
  ⟨h.1.trans (hb.mono (by omega)), (hb.block _ (by omega)).trans h.2.1, h'⟩
theorem SumAt.start (w : World) {W' : World} {v : Value} {xs : List Nat} (hb : Below (w.alloc (.cells (hcells h0N) 166)).heap.size (w.alloc (.cells (hcells h0N) 166)) W') (h' : BufB W' (w.heap.size + 1) v xs) : SumAt w W' v xs := by
  refine ⟨((Below.refl _ _).alloc (Nat.le_refl _) _).trans (hb.mono (by simp)), (hb.block _ (by simp)).trans (heap_alloc_new _ _), h'⟩
theorem SumAt.len {w W : World} {v : Value} {xs : List Nat} (h : SumAt w W v xs) : xs.length = vlen v := by
  obtain ⟨g, cap, rfl⟩ := h.2.2.form
  rfl

set_option maxHeartbeats 4000000 in
set_option maxRecDepth 100000 in
theorem sum_any (s : ByteArray) (w : World) (hs : s.size ≤ 1000000000) (he : Env w) (hg : 0 < w.heap.size) :
    Calls Tryz.prog 104 #[.string s] w fun e w' => e = .returned (.string (sumS s)) ∧ Below w.heap.size w w' := by
  have HB8 : Hid (∀ y ∈ bytesS s, y < 256) := Lib.hid (bytesS_lt s)
  have HBL : Hid ((bytesS s).length = s.size) := Lib.hid (bytesS_length s)
  have HSS : Hid (sumS s = strOf (shaN (bytesS s))) := Lib.hid (sumS_eq s)
  obtain ⟨B, hB⟩ : ∃ B, B = bytesS s := ⟨_, rfl⟩
  rw [← hB] at HB8 HBL HSS
  have HBq := Lib.hid hB
  clear hB
  have HE := Lib.hid he
  have HG := Lib.hid hg
  clear he hg
  obtain ⟨R, hR⟩ : ∃ R, R = sumS s := ⟨_, rfl⟩
  rw [← hR] at HSS ⊢
  clear hR
  refine calls_of_callsIn (n := 8) Wide.wide (callsIn_of_wp_marks Tryz.func104 rfl trivial ?_)
  simp only [Tryz.ntmps104, List.size_toArray, List.length_cons, List.length_nil, Nat.reduceAdd, Nat.reduceSub, Array.replicate_succ, Array.replicate_zero, List.push_toArray, List.append_toArray, List.nil_append, List.cons_append]
  refine wpIn_wide.2 ?_
  go_wp2_with (first | (refine wpList_strBytes (w.heap.size + 1) s 9 88 5 _ rfl rfl rfl (by unfold maxLen; omega) (by simp) (by kernel_rfl) (by kernel_rfl) (by kernel_rfl) ?_; intro v1 w1 hbuf hb1; rw [← HBq.out] at hbuf; have HS1 := Lib.hid (SumAt.start w hb1 hbuf); clear hbuf hb1) | (at_builtin; refine wpList_appendB 88 5 _ (by kernel_rfl) infoByte rfl rfl _ _ rfl (w.heap.size + 1) _ _ rfl (HS1.out.alloc _).2.2 w1.heap.size 128 rfl (cell_of_row _ _ 0 _ _ _ (heap_alloc_new _ _)) ?_ (HS1.out.alloc _).size ?_))
  · rw [HBL.out]; omega
  intro v2 w2 hbuf2 hb2
  have HS2 := Lib.hid ((HS1.out.alloc _).next hb2 hbuf2)
  clear hbuf2 hb2 HS1
  obtain ⟨Zn, hZn⟩ : ∃ Zn, Zn = zerosN B.length := ⟨_, rfl⟩
  have HZn := Lib.hid hZn
  have hzb : Zn < 64 ∧ (s.size + 1 + Zn) % 64 = 56 ∧ ∀ j, j < Zn → (s.size + 1 + j) % 64 ≠ 56 := by
    rw [hZn, zerosN, HBL.out]
    refine ⟨Nat.mod_lt _ (by omega), by omega, fun j hj => by omega⟩
  have HZB := Lib.hid hzb
  have hz64 := hzb.1
  clear hZn hzb
  go_wp2
  go_loopw [4] (fun v wr => ∃ j : Nat, j ≤ Zn ∧ Hid (SumAt w wr v (B ++ 128 :: List.replicate j 0))) (fun v wr => s.size + 1 + Zn - vlen v)
  case atStart => exact ⟨0, by omega, HS2⟩
  case round =>
    obtain ⟨j, hj, hS⟩ := hrel
    obtain ⟨g0, cap0, hv⟩ := hS.out.2.2.form
    have hl : (B ++ 128 :: List.replicate j 0).length = s.size + 1 + j := by simp only [List.length_append, List.length_cons, List.length_replicate, HBL.out]; omega
    rw [hl] at hv
    obtain ⟨n, hn⟩ : ∃ n, n = s.size + 1 + j := ⟨_, rfl⟩
    rw [← hn] at hv
    subst hv
    by_cases hlt : j < Zn
    · have h56 : ¬ n % 64 = 56 := by rw [hn]; exact HZB.out.2.2 j hlt
      have HL := Lib.hid hl
      have HN := Lib.hid hn
      clear hl hn
      have hb : ((n : Int) % 64 != 56) = true := by simp; omega
      go_wp2_with (at_builtin; refine wpList_appendB 88 5 _ (by kernel_rfl) infoByte rfl rfl _ _ rfl (w.heap.size + 1) _ (B ++ 128 :: List.replicate j 0) rfl (hS.out.alloc _).2.2 wr.heap.size 0 rfl (cell_of_row _ _ 0 _ _ _ (heap_alloc_new _ _)) (by rw [HL.out]; omega) (hS.out.alloc _).size ?_; intro v3 w3 hbuf3 hb3; have HS3 := Lib.hid ((hS.out.alloc _).next hb3 hbuf3); clear hbuf3 hb3)
      go_roundw
      case rel =>
        refine ⟨j + 1, by omega, ?_⟩
        have e : (B ++ 128 :: List.replicate j 0) ++ [0] = B ++ 128 :: List.replicate (j + 1) 0 := by rw [List.replicate_succ', List.append_assoc]; rfl
        rw [← e]
        exact HS3.out
      case measure =>
        have h3 := HS3.out.len
        have h4 : vlen v3 = n + 1 := by rw [← h3, List.length_append, HL.out, HN.out]; rfl
        have h5 : vlen (.slice (some ⟨g0, 0, none⟩) n cap0) = n := rfl
        have h6 := HN.out
        show _ - vlen v3 < _ - vlen _
        rw [h4, h5]
        omega
    · have ej : j = Zn := by omega
      have h56 : n % 64 = 56 := by rw [hn, ej]; exact HZB.out.2.1
      have hb : ((n : Int) % 64 != 56) = false := by simp; omega
      rw [ej] at hS hn
      have HS4 : Hid (SumAt w wr (.slice (some ⟨g0, 0, none⟩) n cap0) (B ++ 128 :: List.replicate Zn 0)) := hS
      have HN := Lib.hid hn
      clear hl hS hn hj hlt ej HS2
      go_wp2
      clear hb h56
      obtain ⟨A, hA⟩ : ∃ A, A = B ++ 128 :: List.replicate Zn 0 := ⟨_, rfl⟩
      have HAl : Hid (A.length = n) := Lib.hid (by rw [hA, HN.out]; simp only [List.length_append, List.length_cons, List.length_replicate, HBL.out]; omega)
      have HP : Hid (padN B = A ++ lenBytes s.size) := Lib.hid (by rw [hA, padN_eq, ← HZn.out, HBL.out])
      have hnle : n ≤ 1000000064 := by have := HN.out; omega
      rw [← hA] at HS4
      have HS5 : Hid (SumAt w wr (.slice (some ⟨g0, 0, none⟩) n cap0) (A ++ (lenBytes s.size).take 0)) := Lib.hid (by rw [List.take_zero, List.append_nil]; exact HS4.out)
      clear hA HS4 HZn
      obtain ⟨T, hT⟩ : ∃ T : Nat → List Nat, T = fun m => (lenBytes s.size).take m := ⟨_, rfl⟩
      have HT : Hid (T 0 = [] ∧ T 8 = lenBytes s.size ∧ (∀ m, m ≤ 8 → (T m).length = m) ∧ ∀ m, m < 8 → T (m + 1) = T m ++ [8 * s.size / 2 ^ (8 * (7 - m)) % 256]) := Lib.hid (by
        rw [hT]
        refine ⟨rfl, rfl, fun m hm => ?_, fun m hm => ?_⟩
        · show ((lenBytes s.size).take m).length = m
          rw [List.length_take]; simp [lenBytes]; omega
        · show (lenBytes s.size).take (m + 1) = (lenBytes s.size).take m ++ _
          rw [List.take_add_one, lenBytes_get _ _ hm]; rfl)
      have HS5 : Hid (SumAt w wr (.slice (some ⟨g0, 0, none⟩) n cap0) (A ++ T 0)) := Lib.hid (by rw [hT]; exact HS5.out)
      clear hT
      go_loopw [4, 5] (fun v i wr => ∃ m : Nat, m ≤ 8 ∧ i = .int .i64 (7 - (m : Int)) ∧ Hid (SumAt w wr v (A ++ T m))) (fun v i wr => (intOf i + 1).toNat)
      case atStart => exact ⟨0, by omega, rfl, HS5⟩
      case round =>
        obtain ⟨m, hm, rfl, hS⟩ := hrel
        obtain ⟨g, cap, hv⟩ := hS.out.2.2.form
        have hl : (A ++ T m).length = n + m := by rw [List.length_append, HAl.out, HT.out.2.2.1 m hm]
        rw [hl] at hv
        subst hv
        by_cases hlt : m < 8
        · obtain ⟨q, hq⟩ : ∃ q, q = 7 - m := ⟨_, rfl⟩
          obtain ⟨r, hr⟩ : ∃ r, r = 8 * q := ⟨_, rfl⟩
          obtain ⟨z, hz⟩ : ∃ z, z = 8 * s.size := ⟨_, rfl⟩
          have eq1 : (7 : Int) - (m : Int) = (q : Int) := by omega
          have f1 : IntKind.i64.wrap (8 * (s.size : Int)) = (z : Int) := by rw [IntWalk.i64_in _ (by omega)]; omega
          have f2 : IntKind.i64.wrap (8 * (q : Int)) = (r : Int) := by rw [IntWalk.i64_in _ (by omega)]; omega
          have hr64 : r < 64 := by omega
          have hw64 : wrap64 ((q : Int) - 1) = (q : Int) - 1 := IntWalk.wrap64_in _ ⟨by omega, by omega⟩
          have HTm : Hid (T (m + 1) = T m ++ [z / 2 ^ r % 256]) := Lib.hid (by rw [hr, hq, hz]; exact HT.out.2.2.2 m hlt)
          have HL := Lib.hid hl
          have HQ := Lib.hid eq1
          rw [eq1]
          clear hl hq hr hz eq1
          have E1 : Hid (((z / 2 ^ r % 256 : Nat) : Int) = (z : Int) / 2 ^ r % 256) := Lib.hid (by rw [Int.natCast_emod, Int.natCast_ediv, Int.natCast_pow]; rfl)
          go_wp2_with (at_builtin; refine wpList_appendB 88 5 _ (by kernel_rfl) infoByte rfl rfl _ _ rfl (w.heap.size + 1) _ (A ++ T m) rfl (hS.out.alloc _).2.2 wr.heap.size (z / 2 ^ r % 256) rfl (by rw [E1.out]; exact cell_of_row _ _ 0 _ _ _ (heap_alloc_new _ _)) (by rw [HL.out]; omega) (hS.out.alloc _).size ?_; intro v3 w3 hbuf3 hb3; have HS3 := Lib.hid ((hS.out.alloc _).next hb3 hbuf3); clear hbuf3 hb3)
          go_roundw
          case rel =>
            refine ⟨m + 1, by omega, ?_, ?_⟩
            · have := HQ.out
              congr 1; omega
            · rw [HTm.out, ← List.append_assoc]
              exact HS3.out
          case measure =>
            have := HQ.out
            simp [intOf]; omega
        · have em : m = 8 := by omega
          have eq1 : (7 : Int) - (m : Int) = -1 := by omega
          rw [em] at hS hl
          rw [eq1]
          have eN : n + m = n + 8 := by omega
          rw [eN]
          obtain ⟨nb, hnb⟩ : ∃ nb, nb = n + 8 := ⟨_, rfl⟩
          obtain ⟨N, hN⟩ : ∃ N, nb = 64 * N := by
            have h1 := HZB.out.2.1
            have h2 := HN.out
            exact ⟨(n + 8) / 64, by omega⟩
          have HPl : Hid ((padN B).length = 64 * N) := Lib.hid (by rw [HP.out, ← HT.out.2.1, hl, ← hnb, hN])
          have HSP : Hid (SumAt w wr (.slice (some ⟨g, 0, none⟩) nb cap) (padN B)) := Lib.hid (by rw [HP.out, ← HT.out.2.1, hnb]; exact hS.out)
          have HPB : Hid (∀ y ∈ padN B, y < 256) := Lib.hid (padN_lt B HB8.out)
          have HR : Hid (R = strOf (bytesOfH (upB (padN B) N))) := Lib.hid (by rw [HSS.out, shaN_up B N HPl.out])
          rw [← hnb]
          have HNB := Lib.hid hN
          generalize padN B = D at *
          clear em eq1 eN hS hl hm hlt HT HP HAl HSS HZB HN HS5 hnb hN
          go_wp2_with (go_at_call 123; refine (chunk_any _ _ _ _).mono ?_; rintro e w3 ⟨rfl, rfl⟩)
          obtain ⟨g', cap', o, hgv, hgc, hcm, hgl, hgo, hgb, hcl⟩ := HSP.out.2.2.block
          have hgv' := hgv
          injection hgv' with e1 e2 e3
          injection e1 with e1
          injection e1 with e1 _ _
          subst e1 e3
          have HDL := Lib.hid e2
          rw [← e2] at hgc
          clear e2
          have HCL := Lib.hid hcl
          have HGB0 := Lib.hid hgb
          clear hgb
          have HGO := Lib.hid hgo
          rw [HNB.out] at hgc
          have HGC := Lib.hid hgc
          have HCM := Lib.hid hcm
          have hsw := HSP.out.size
          have HBw : Hid (Below w.heap.size w ((wr.alloc (.cells #[.slice (some ⟨g, 0, none⟩) nb cap] 88)).alloc (.cells #[.int .i64 64] 3))) := Lib.hid ((HSP.out.1.alloc (by omega) _).alloc (by simp; omega) _)
          have hb1 : ((wr.alloc (.cells #[.slice (some ⟨g, 0, none⟩) nb cap] 88)).alloc (.cells #[.int .i64 64] 3)).heap[wr.heap.size]? = some (.cells #[.slice (some ⟨g, 0, none⟩) nb cap] 88 (0, 0)) := at_past wr _ _
          have hb2 : ((wr.alloc (.cells #[.slice (some ⟨g, 0, none⟩) nb cap] 88)).alloc (.cells #[.int .i64 64] 3)).heap[wr.heap.size + 1]? = some (.cells #[.int .i64 64] 3 (0, 0)) := at_second wr _ _
          have hbh : ((wr.alloc (.cells #[.slice (some ⟨g, 0, none⟩) nb cap] 88)).alloc (.cells #[.int .i64 64] 3)).heap[w.heap.size]? = some (.cells (hcells h0N) 166 (0, 0)) := (Below.heap_alloc _ _ _ (by simp; omega)).trans ((Below.heap_alloc _ _ _ (by omega)).trans HSP.out.2.1)
          have hbg : ((wr.alloc (.cells #[.slice (some ⟨g, 0, none⟩) nb cap] 88)).alloc (.cells #[.int .i64 64] 3)).heap[g]? = some o := (Below.heap_alloc _ _ _ (by simp; omega)).trans ((Below.heap_alloc _ _ _ (by omega)).trans HGO.out)
          have HGB : Hid (w.heap.size + 1 ≤ g) := HGB0
          have hs5 : ((wr.alloc (.cells #[.slice (some ⟨g, 0, none⟩) nb cap] 88)).alloc (.cells #[.int .i64 64] 3)).heap.size = wr.heap.size + 2 := by simp
          generalize (wr.alloc (.cells #[.slice (some ⟨g, 0, none⟩) nb cap] 88)).alloc (.cells #[.int .i64 64] 3) = W5 at *
          rw [HNB.out] at hb1
          clear hgv hcl hgo hgc hcm HSP
          obtain ⟨FB, hFB⟩ : ∃ FB : List (Fin N) → H8, FB = foldB D h0N := ⟨_, rfl⟩
          have HFB : Hid (FB [] = h0N ∧ (∀ pre x, FB (pre ++ [x]) = blockH (FB pre) ((D.drop (64 * x.1)).take 64)) ∧ (∀ pre, H32 (FB pre)) ∧ ∀ xs, xs.map (fun x => x.1) = List.range N → bytesOfH (FB xs) = bytesOfH (upB D N)) := Lib.hid (by
            rw [hFB]
            exact ⟨rfl, fun pre x => foldB_snoc D h0N pre x, fun pre => foldB_32 D h0N (upB_32 D 0) pre, fun xs h => by rw [foldB_all D xs h]⟩)
          have hbh' : W5.heap[w.heap.size]? = some (.cells (hcells (FB [])) 166 (0, 0)) := by rw [HFB.out.1]; exact hbh
          have HBH := Lib.hid hbh'
          have HB1 := Lib.hid hb1
          have HB2 := Lib.hid hb2
          have HBG := Lib.hid hbg
          clear hbh hbh' hb1 hb2 hbg hFB
          refine (wpIn_wide (n := 8)).1 ?_
          refine wpIn_range (n := 8) Wide.wide rfl (gf := 142) (lb := #[.pointer (some ⟨wr.heap.size, 0, none⟩), .pointer (some ⟨wr.heap.size + 1, 0, none⟩)]) ?ev (fun args w => ?enter) (chunk1_iter wr.heap.size (wr.heap.size + 1) g cap N W5 HGC.out HCM.out HB1.out HB2.out) (Below.refl _ _) (fun x => rfl) (fun q e => by cases e) (fun h h' => ⟨h'.1.trans h.1, h'.2.trans h.2⟩) (fun W l o o' h1 h2 h3 h4 => ?kb)
            (fun pre W => W.heap[w.heap.size]? = some (.cells (hcells (FB pre)) 166 (0, 0)) ∧ (W.heap[wr.heap.size]? = some (.cells #[.slice (some ⟨g, 0, none⟩) (64 * N) cap] 88 (0, 0)) ∧ (W.heap[wr.heap.size + 1]? = some (.cells #[.int .i64 64] 3 (0, 0)) ∧ (W.heap[g]? = some o ∧ Below w.heap.size w W))))
            (fun _ _ _ => False) ?abide (fun _ => abide_false _ _) ⟨HBH.out, HB1.out, HB2.out, HBG.out, HBw.out⟩ (fun x => ⟨#[.string s, undef, .string ⟨#[]⟩, .pointer (some ⟨w.heap.size, 0, none⟩), .slice (some ⟨g, 0, none⟩) nb cap, .int .i64 (-1), .slice (some ⟨g, 64 * x.1, none⟩) 64 64, .agg #[.int .u32 1779033703, .int .u32 3144134277, .int .u32 1013904242, .int .u32 2773480762, .int .u32 1359893119, .int .u32 2600822924, .int .u32 528734635, .int .u32 1541459225], .string s, v1, .slice (some ⟨w1.heap.size, 0, none⟩) 1 1, v2, .slice (some ⟨g0, 0, none⟩) n cap0, .int .i64 (n : Nat), .int .i64 ((n : Int) % 64), .bool false, u16, u17, u18, .int .i64 (-1), .bool false, u21, u22, u23, u24, u25, u26, u27, u28, u29, u30, u31, u32, .slice (some ⟨g, 0, none⟩) nb cap, .func (.func 142) #[] #[.pointer (some ⟨wr.heap.size, 0, none⟩), .pointer (some ⟨wr.heap.size + 1, 0, none⟩)], .slice (some ⟨g, 64 * x.1, none⟩) 64 64, undef, undef, undef, undef], []⟩) (fun l x W K hK => ?assign) (fun l pre x W hI hlen => ?body) (fun Dm xs W hDm hS hI hDd => ?done) (fun Dm c pre W hD hS hI => hI.elim)
          case assign =>
            simp only [chunkV, List.zip_toArray, List.zip_cons_cons, List.zip_nil_right, List.foldl_toArray', List.foldl_cons, List.foldl_nil, List.setIfInBounds_toArray, List.set_cons_succ, List.set_cons_zero]
            gi_wp2
            exact hK
          case ev => rfl
          case enter => kernel_rfl
          case kb =>
            exact ⟨World.putObj_heap_other (fun e => by omega), World.putObj_heap_other (fun e => by omega)⟩
          case abide =>
            exact abide_and (abide_cells (fun pre => .cells (hcells (FB pre)) 166) (fun _ => rfl) (by simp)) (abide_and (abide_old _ (by omega) (by simp)) (abide_and (abide_old _ (by omega) (by simp)) (abide_and (abide_old _ (by omega) (by simp)) (abide_below (by omega) (Nat.le_refl _) (fun q e => by cases e)))))
          case body =>
            obtain ⟨g1, g2, g3, g4, g5⟩ := hI
            have hs7 := g5.size
            have hwW : wr.heap.size + 1 < W.heap.size := (Array.getElem?_eq_some_iff.1 g3).1
            have HAD := Lib.hid (add_any g1 (HFB.out.2.2.1 pre) (chunk_slice HCL.out HPl.out x.2 g4) (chunk_len HPl.out x.2) (chunk_lt HPB.out x.1) (HE.out.below g5 HG.out) (Nat.lt_of_lt_of_le HG.out hs7))
            have G2 := Lib.hid g2
            have G3 := Lib.hid g3
            have G4 := Lib.hid g4
            have G5 := Lib.hid g5
            have G1 := Lib.hid g1
            clear g1 g2 g3 g4 g5
            gi_wp2_with (refine ⟨trivial, ?_⟩; gi_at_call 124; refine (callsIn_of_calls (Wide.inRound Wide.wide _) HAD.out).mono ?_; rintro e W' ⟨rfl, h1, h2⟩)
            have keep : ∀ (q : Nat) (o : Obj), W.heap[q]? = some o → q ≠ w.heap.size → W'.heap[q]? = some o := fun q o hq hne => (h2.block q (Array.getElem?_eq_some_iff.1 hq).1 (fun e => hne (Option.some.inj e))).trans hq
            refine ⟨⟨h2.size, fun q o hB hq hnc => keep q o hq (by omega)⟩, ⟨(keep _ _ G2.out (by omega)).trans G2.out.symm, (keep _ _ G3.out (by omega)).trans G3.out.symm⟩, ?_, keep _ _ G2.out (by omega), keep _ _ G3.out (by omega), ?_, ?_⟩
            · rw [HFB.out.2.1 pre x]; exact h1
            · refine keep _ _ G4.out ?_
              have := HGB.out
              omega
            · exact G5.out.grown h2 G5.out.size (fun j e => by cases e; exact Nat.le_refl _)
          case done =>
            obtain ⟨g1, _, _, _, g5⟩ := hI
            have hS' : bytesOfH (FB xs) = bytesOfH (upB D N) := HFB.out.2.2.2 xs hS
            have HD := Lib.hid (wdigest_any (FB xs) W (HFB.out.2.2.1 xs))
            have HR2 : Hid (R = strOf (bytesOfH (FB xs))) := Lib.hid (by rw [HR.out, hS'])
            have G1 := Lib.hid g1
            have G5 := Lib.hid g5
            have HDd := Lib.hid hDd
            have hsW := g5.size
            clear hS hS' g1 g5 hDd
            show Exit.inBlock _ _ _ (Act.mk _ [{ target := .collected Dm, args := #[] }]) W
            go_wp2_with (first | (refine wpList_loadA 166 _ w.heap.size 166 (hcells (FB xs)) (0, 0) _ rfl rfl rfl G1.out wordsDesc rfl (wordsSize _) ?_) | (go_at_call 125; refine HD.out.mono ?_; rintro e W' ⟨rfl, hb⟩))
            have hDl : Dm < W.heap.size := (Array.getElem?_eq_some_iff.1 HDd.out).1
            have hM : Marks w.heap.size [Dm] W' := ⟨by simp, fun D hD => by
              rw [List.mem_singleton] at hD
              subst hD
              exact ⟨by omega, (hb.block _ hDl).trans HDd.out⟩⟩
            refine leaves_marks (B := w.heap.size) [Dm] W' hM (fun W'' hT => ⟨_, results_tmp rfl _ _ _, ?_, (G5.out.trans (hb.mono hsW)).trans hT.below⟩)
            rw [HR2.out]
            rfl
end Go.Proofs.YtinfpbkbnhcifaaGreatDoor
