/- What a law's walk keeps: slices of strings, of integers, of items, of parts, and blocks; and each function's contract where these are known. The conditions: the table of constants, lengths. -/
import Derived.Test.YtinfpbkbnhcifaaGreatDoorQVR14
import Derived.Test.YtinfpbkbnhcifaaGreatDoorQMR4
namespace Go.Proofs.YtinfpbkbnhcifaaGreatDoor
open Go.RowKit Go.BigFrame

/-- A datum in memory. -/
inductive Dat
  | S (v : Value) (xs : List ByteArray)
  | N (v : Value) (l : List Int)
  | I (v : Value) (its : List ItemP)
  | P (v : Value) (ps : List PartP)
  | B (b : Nat) (cs : Array Value) (T : TypeId)
def PT (w : World) (v : Value) (ps : List PartP) : Prop := ∃ zs : List (PartP × Value), zs.map (·.1) = ps ∧ PS w v zs
theorem PT.below {w w' : World} {v : Value} {ps : List PartP} (h : PT w v ps) (hb : Below w.heap.size w w') : PT w' v ps := let ⟨zs, h1, h2⟩ := h; ⟨zs, h1, h2.below hb⟩
theorem PT.form {w : World} {v : Value} {ps : List PartP} (h : PT w v ps) : ∃ a c, v = .slice a ps.length c := by
  obtain ⟨zs, rfl, h⟩ := h
  obtain ⟨a, c, h, _⟩ := h.opened
  exact ⟨a, c, by rw [h, List.length_map]⟩
theorem IT.form2 {w : World} {v : Value} {its : List ItemP} (h : IT w v its) : ∃ a c, v = .slice a its.length c := by
  obtain ⟨ys, rfl, h⟩ := h
  obtain ⟨a, c, h, _⟩ := h.is.opened
  exact ⟨a, c, by rw [h, List.length_map]⟩
theorem SS.form2 {w : World} {v : Value} {xs : List ByteArray} (h : SS w v xs) : ∃ a c, v = .slice a xs.length c := by
  obtain ⟨a, c, h, _⟩ := h.opened
  exact ⟨a, c, h⟩
theorem IL.form2 {w : World} {v : Value} {xs : List Int} (h : IL w v xs) : ∃ a c, v = .slice a xs.length c := by
  obtain ⟨a, c, h, _⟩ := h.opened
  exact ⟨a, c, h⟩
def Dat.holds (w : World) : Dat → Prop
  | .S v xs => SS w v xs
  | .N v l => IL w v l
  | .I v its => IT w v its
  | .P v ps => PT w v ps
  | .B b cs T => w.heap[b]? = some (.cells cs T (0, 0))
theorem Dat.below {w w' : World} (hb : Below w.heap.size w w') : ∀ d : Dat, d.holds w → d.holds w'
  | .S _ _, h => SS.below h hb
  | .N _ _, h => IL.below h hb
  | .I _ _, h => IT.below h hb
  | .P _ _, h => PT.below h hb
  | .B b _ _, h => (hb.block b (Array.getElem?_eq_some_iff.1 h).1).trans h

structure Know (w0 w : World) (ls : List Dat) : Prop where
  below : Below w0.heap.size w0 w
  env : Env w
  tab : 0 < w.heap.size
  all : ∀ (i : Nat) (d : Dat), ls[i]? = some d → d.holds w
theorem Know.start {w : World} (he : Env w) (hg : 0 < w.heap.size) : Know w w [] := ⟨Below.refl _ _, he, hg, fun i d h => by simp at h⟩
theorem Know.step {w0 w w' : World} {ls : List Dat} (k : Know w0 w ls) (hb : Below w.heap.size w w') : Know w0 w' ls :=
  ⟨k.below.trans (hb.mono k.below.size), k.env.below hb k.tab, Nat.lt_of_lt_of_le k.tab hb.size, fun i d h => d.below hb (k.all i d h)⟩
theorem Know.put {w0 w : World} {ls : List Dat} (k : Know w0 w ls) {d : Dat} (hd : d.holds w) : Know w0 w (ls ++ [d]) := by
  refine ⟨k.below, k.env, k.tab, fun i d' h => ?_⟩
  rcases Nat.lt_or_ge i ls.length with hi | hi
  · rw [List.getElem?_append_left hi] at h
    exact k.all i d' h
  · rw [List.getElem?_append_right hi] at h
    rcases Nat.eq_zero_or_pos (i - ls.length) with h0 | h0
    · rw [h0] at h
      simp at h
      subst h
      exact hd
    · rw [List.getElem?_eq_none (by simp; omega)] at h
      cases h
theorem Know.alloc {w0 w : World} {ls : List Dat} (k : Know w0 w ls) (o : Obj) : Know w0 (w.alloc o) ls := k.step ((Below.refl _ _).alloc (Nat.le_refl _) _)
theorem Know.drewN {w0 w : World} {ls : List Dat} (k : Know w0 w ls) (n : Nat) : Know w0 (w.drewN n) ls := k.step (below_drewN (Below.refl _ _) n)
theorem Know.drew {w0 w : World} {ls : List Dat} (k : Know w0 w ls) : Know w0 w.drew ls := k.drewN 1
/-- A new block. -/
theorem Know.box {w0 w : World} {ls : List Dat} (k : Know w0 w ls) (cs : Array Value) (T : TypeId) : Know w0 (w.alloc (.cells cs T)) (ls ++ [.B w.heap.size cs T]) := (k.alloc _).put (heap_alloc_new w _)

/-! ### Slices that are written out -/
theorem slice_lit {w : World} {b n size : Nat} {T : TypeId} {fz : Nat × Nat} {cs : List (List Value)} (h : w.heap[b]? = some (.cells cs.flatten.toArray T fz)) (hs : ∀ c ∈ cs, c.length = size) (hn : n = cs.length) (hm : cs.length ≤ 1000) : SliceAt w (.slice (some ⟨b, 0, none⟩) n n) size cs := by
  subst hn
  refine ⟨_, cs.length, rfl, Nat.le_refl _, by unfold maxLen; omega, .inr ⟨b, 0, rfl, (Array.getElem?_eq_some_iff.1 h).1, fun i c hi j u hj => ?_⟩⟩
  have key : ∀ (ds : List (List Value)), (∀ c ∈ ds, c.length = size) → ∀ i c, ds[i]? = some c → ∀ j u, c[j]? = some u → ds.flatten[i * size + j]? = some u := by
    intro ds
    induction ds with
    | nil => intro _ i c hi; simp at hi
    | cons d ds ih =>
      intro hds i c hi j u hj
      cases i with
      | zero =>
        simp at hi; subst hi
        have hlt : j < d.length := (List.getElem?_eq_some_iff.1 hj).1
        simp only [List.flatten_cons, Nat.zero_mul, Nat.zero_add]
        rw [List.getElem?_append_left hlt]; exact hj
      | succ i =>
        simp at hi
        have hd : d.length = size := hds d (by simp)
        have := ih (fun c hc => hds c (by simp [hc])) i c hi j u hj
        simp only [List.flatten_cons]
        rw [List.getElem?_append_right (by rw [hd, Nat.succ_mul]; omega), ← this]
        congr 1
        rw [hd, Nat.succ_mul]; omega
  rw [cell_of_row w b _ _ T fz h, Nat.zero_add, List.getElem?_toArray]
  exact key cs hs i c hi j u hj
theorem SS.lit {w : World} {b n : Nat} {T : TypeId} {fz : Nat × Nat} (xs : List ByteArray) (h : w.heap[b]? = some (.cells (xs.map Value.string).toArray T fz)) (hn : n = xs.length) (hm : xs.length ≤ 1000) : SS w (.slice (some ⟨b, 0, none⟩) n n) xs := by
  have e : (scells xs).flatten = xs.map Value.string := by
    unfold scells
    clear h hn hm
    induction xs with
    | nil => rfl
    | cons x xs ih => simp [ih]
  refine slice_lit (cs := scells xs) (by rw [e]; exact h) (scells_one xs) (by unfold scells; rw [List.length_map]; exact hn) (by unfold scells; rw [List.length_map]; exact hm)
theorem IL.lit {w : World} {b n : Nat} {T : TypeId} {fz : Nat × Nat} (xs : List Int) (h : w.heap[b]? = some (.cells (xs.map (Value.int .i64)).toArray T fz)) (hn : n = xs.length) (hm : xs.length ≤ 1000) : IL w (.slice (some ⟨b, 0, none⟩) n n) xs := by
  have e : (icells xs).flatten = xs.map (Value.int .i64) := by
    unfold icells
    clear h hn hm
    induction xs with
    | nil => rfl
    | cons x xs ih => simp [ih]
  refine slice_lit (cs := icells xs) (by rw [e]; exact h) (icells_one xs) (by unfold icells; rw [List.length_map]; exact hn) (by unfold icells; rw [List.length_map]; exact hm)
/-- The cells of a part that lies in a box. -/
def pbox (p : PartP) (iv : Value) : Array Value := #[.int .i64 p.head.car, .int .i64 p.head.siz, .string p.head.root, .string p.head.sl, iv]

/-! ### The contracts at what is known -/
section
variable {w0 w : World} {ls : List Dat}
/-- A call that gives a value, and nothing more. -/
def Says (w0 : World) (ls : List Dat) (r : Value) (e : Ending) (w' : World) : Prop := e = .returned r ∧ Know w0 w' ls

theorem shown_mem {key : ByteArray} {car : Int} {xs : List ByteArray} {n : Nat} {is : List Nat} : (partS key car xs n is).items.length = is.length := by unfold partS; rw [List.length_map]
/-- A part that Show has made is fit for all. -/
def FitOne (p : PartP) : Prop := p.head.root.size ≤ 1000 ∧ p.items.length ≤ 100000 ∧ ∀ x ∈ p.items, x.prf.length ≤ 1000
theorem proofB_len (l : List ByteArray) (i : Nat) : (proofB l i).length ≤ l.length := by
  unfold proofB
  rw [List.length_reverse]
  exact downL_len leafS nodeS (sumS ⟨#[]⟩) l i
theorem fit_part (key : ByteArray) (car : Int) (xs : List ByteArray) (n : Nat) (is : List Nat) (h : is.length ≤ 1000) (hx : xs.length ≤ 1000) : FitOne (partS key car xs n is) := by
  refine ⟨?_, by rw [shown_mem]; omega, fun x hx' => ?_⟩
  · show (rootB _).size ≤ 1000
    rw [rootB_size]; omega
  · unfold partS at hx'
    obtain ⟨i, _, rfl⟩ := List.mem_map.1 hx'
    show (proofB (xs.take n) i).length ≤ 1000
    have := proofB_len (xs.take n) i
    rw [List.length_take] at this
    omega

theorem check_at (k : Know w0 w ls) (i : Nat) {iv : Value} {key : ByteArray} {p : PartP} (hi : ls[i]? = some (.I iv p.items)) (hk : key.size ≤ 1000) (hf : FitOne p) (b : Bool) (hb : checkB key p = b) :
    Calls Tryz.prog 24 #[.string key, .agg (pbox p iv)] w (Says w0 ls (.bool b)) := by
  obtain ⟨ys, hys, his⟩ := (k.all i _ hi : IT w iv p.items)
  obtain ⟨⟨c, s, r, l⟩, its⟩ := p
  obtain ⟨f1, f2, f3⟩ := hf
  simp only at hys f1 f2 f3
  subst hys
  exact (check_any key c s r l his.is hk f1 (by rw [List.length_map] at f2; exact f2) (fun y hy => f3 y.1 (List.mem_map.2 ⟨y, hy, rfl⟩)) k.env k.tab).mono fun _ _ ⟨h1, h2⟩ => ⟨by rw [h1, ← hb], k.step h2⟩
theorem conv_at2 (k : Know w0 w ls) (i j : Nat) {iv jv : Value} {key : ByteArray} {p q : PartP} (hi : ls[i]? = some (.I iv p.items)) (hj : ls[j]? = some (.I jv q.items)) (hk : key.size ≤ 1000) (hf : FitOne p) (hf' : FitOne q) (b : Bool) (hb : convictsB key p q = b) :
    Calls Tryz.prog 22 #[.string key, .agg (pbox p iv), .agg (pbox q jv)] w (Says w0 ls (.bool b)) := by
  obtain ⟨ys, hys, his⟩ := (k.all i _ hi : IT w iv p.items)
  obtain ⟨ys', hys', his'⟩ := (k.all j _ hj : IT w jv q.items)
  obtain ⟨⟨c, s, r, l⟩, its⟩ := p
  obtain ⟨⟨c', s', r', l'⟩, its'⟩ := q
  obtain ⟨f1, f2, f3⟩ := hf
  obtain ⟨g1, g2, g3⟩ := hf'
  simp only at hys hys' f1 f2 f3 g1 g2 g3
  subst hys hys'
  exact (convicts2_any key c s r l c' s' r' l' his.is his'.is (by rw [List.length_map] at f2; exact f2) (by rw [List.length_map] at g2; exact g2) hk f1 g1 (fun y hy => f3 y.1 (List.mem_map.2 ⟨y, hy, rfl⟩)) (fun y hy => g3 y.1 (List.mem_map.2 ⟨y, hy, rfl⟩)) k.env k.tab).mono fun _ _ ⟨h1, h2⟩ => ⟨by rw [h1, ← hb], k.step h2⟩
def hbox (h : HeadP) : Array Value := #[.int .i64 h.car, .int .i64 h.siz, .string h.root, .string h.sl]
theorem genuine_at (k : Know w0 w ls) (key : ByteArray) (h : HeadP) (hk : key.size ≤ 1000) (hr : h.root.size ≤ 1000) (b : Bool) (hb : genuineB key h = b) :
    Calls Tryz.prog 40 #[.string key, .agg (hbox h)] w (Says w0 ls (.bool b)) :=
  (genuine_any key h.car h.siz h.root h.sl w hk hr k.env k.tab).mono fun _ _ ⟨h1, h2⟩ => ⟨by rw [h1, ← hb], k.step h2⟩
theorem extends_at (k : Know w0 w ls) (i : Nat) {v : Value} {pr : List ByteArray} (hi : ls[i]? = some (.S v pr)) (key : ByteArray) (h h' : HeadP) (hk : key.size ≤ 1000) (hr : h.root.size ≤ 1000) (hr' : h'.root.size ≤ 1000) (hl : pr.length ≤ 1000) (b : Bool) (hb : extendsB key h h' pr = b) :
    Calls Tryz.prog 35 #[.string key, .agg (hbox h), .agg (hbox h'), v] w (Says w0 ls (.bool b)) :=
  (extends_any key h.car h.siz h.root h.sl h'.car h'.siz h'.root h'.sl hk hr hr' (k.all i _ hi : SS w v pr) hl k.env k.tab).mono fun _ _ ⟨h1, h2⟩ => ⟨by rw [h1, ← hb], k.step h2⟩
theorem key_at (k : Know w0 w ls) (c : Nat) (hc : c ≤ 1000) : Calls Tryz.prog 15 #[.int .i64 c] w (Says w0 ls (.string (keyS c))) :=
  (key_any c hc w).mono fun _ _ ⟨h1, h2⟩ => ⟨h1, k.step h2⟩
theorem valid_at (k : Know w0 w ls) (i : Nat) {v : Value} {xs : List ByteArray} (hi : ls[i]? = some (.S v xs)) (car : Int) (b : Bool) (hb : validB ⟨car, xs⟩ = b) :
    Calls Tryz.prog 44 #[.agg #[.int .i64 car, v]] w (Says w0 ls (.bool b)) :=
  (valid_any car (k.all i _ hi : SS w v xs)).mono fun _ _ ⟨h1, h2⟩ => ⟨by rw [h1, hb], by rw [h2]; exact k.alloc _⟩
/-- A call that gives a slice of strings, and an error. -/
def GivesS (w0 : World) (ls : List Dat) (zs : List ByteArray) (err : Int) (e : Ending) (w' : World) : Prop := ∃ r, e = .returned (.tuple #[r, .int .i64 err]) ∧ Know w0 w' (ls ++ [.S r zs])
theorem grown_at (k : Know w0 w ls) (i : Nat) {v : Value} {xs : List ByteArray} (hi : ls[i]? = some (.S v xs)) (car : Int) (m n : Nat) (hv : validB ⟨car, xs⟩ = true) (hn : n ≤ xs.length) (hm : m ≤ n) (zs : List ByteArray) (hz : grownB ⟨car, xs⟩ m n = some zs) :
    Calls Tryz.prog 34 #[.agg #[.int .i64 car, v], .int .i64 m, .int .i64 n] w (GivesS w0 ls zs 0) := by
  have e : (if (m : Int) = 0 then [] else (extB (xs.take n) m true).reverse) = zs := by
    unfold grownB at hz
    rw [if_pos ⟨hv, ⟨by omega, by show (n : Int) ≤ (xs.length : Int); omega⟩, by omega, by omega⟩] at hz
    exact Option.some.inj hz
  refine (grown_yes (car := car) (k.all i _ hi : SS w v xs) hv hn hm k.env k.tab).mono ?_
  rintro e1 w' ⟨v', rfl, h2, h3⟩
  rw [e] at h2
  exact ⟨v', rfl, (k.step h3).put h2⟩
/-- A call that gives a part, and no error. -/
def GivesP (w0 : World) (ls : List Dat) (p : PartP) (e : Ending) (w' : World) : Prop := ∃ iv, e = .returned (.tuple #[.agg (pbox p iv), .int .i64 0]) ∧ Know w0 w' (ls ++ [.I iv p.items])
theorem show_at (k : Know w0 w ls) (i j : Nat) {v vl : Value} {xs : List ByteArray} (hi : ls[i]? = some (.S v xs)) (is : List Nat) (hj : ls[j]? = some (.N vl (is.map fun i : Nat => (i : Int)))) (key : ByteArray) (car : Int) (n : Nat) (hk : key.size = 32) (hv : validB ⟨car, xs⟩ = true) (hn : n ≤ xs.length) (hp : is.Pairwise (· < ·)) (hl : ∀ i ∈ is, i < n) (hll : is.length ≤ 1000) :
    Calls Tryz.prog 18 #[.string key, .agg #[.int .i64 car, v], .int .i64 n, vl] w (GivesP w0 ls (partS key car xs n is)) := by
  refine (show_yes (k.all i _ hi : SS w v xs) (k.all j _ hj : IL w vl _) hk hv hn (by rw [List.length_map]; omega) k.env k.tab).mono ?_
  have e := items_asc xs n is none hp hl (fun j e => by cases e)
  rintro e1 w' ⟨h1, h2⟩
  rw [e] at h1
  rcases h1 with ⟨h1, _⟩ | ⟨v', ys, h3, rfl, h5⟩
  · cases h1
  · refine ⟨v', rfl, (k.step h2).put (d := .I v' (partS key car xs n is).items) ⟨ys, ?_, h5⟩⟩
    exact (Option.some.inj h3).symm
/-- A call of Join that finds items, or two parts. -/
def GivesJ (w0 : World) (ls : List Dat) (its : List ItemP) (i j : Int) (e : Ending) (w' : World) : Prop := ∃ r, e = .returned (.tuple #[r, .int .i64 i, .int .i64 j, .int .i64 0]) ∧ Know w0 w' (ls ++ [.I r its])
theorem join_at (k : Know w0 w ls) (i : Nat) {v : Value} {ps : List PartP} (hi : ls[i]? = some (.P v ps)) (key : ByteArray) (hk : key.size ≤ 1000) (hl : ps.length ≤ 1000) (hf : ∀ p ∈ ps, FitOne p) (its : List ItemP) (a b : Int) (h : joinR key ps = some (its, a, b)) :
    Calls Tryz.prog 26 #[.string key, v] w (GivesJ w0 ls its a b) := by
  obtain ⟨zs, rfl, hz⟩ := (k.all i _ hi : PT w v ps)
  refine (join_any hz ⟨by rw [List.length_map] at hl; exact hl, fun z hz' => hf z.1 (List.mem_map.2 ⟨z, hz', rfl⟩)⟩ hk k.env k.tab).mono ?_
  rintro e w' ⟨h1, h2⟩
  rw [h] at h1
  obtain ⟨r, rfl, h3⟩ := h1
  exact ⟨r, rfl, (k.step h2).put (d := .I r its) h3⟩
theorem sign_at (k : Know w0 w ls) (i : Nat) {v : Value} {xs : List ByteArray} (hi : ls[i]? = some (.S v xs)) (key : ByteArray) (car : Int) (n : Nat) (hk : key.size = 32) (hv : validB ⟨car, xs⟩ = true) (hn : n ≤ xs.length) :
    Calls Tryz.prog 33 #[.string key, .agg #[.int .i64 car, v], .int .i64 n] w (Says w0 ls (.tuple #[.agg (hbox (headS key car xs n)), .int .i64 0])) :=
  (sign_yes (car := car) (k.all i _ hi : SS w v xs) hk hv hn k.env k.tab).mono fun _ _ ⟨h1, h2⟩ => ⟨h1, k.step h2⟩
theorem lpick_at (k : Know w0 w ls) (c n : Int) (hc : I64 c) (hn : 0 < n) (hn' : n ≤ 9223372036854775807) : Calls Tryz.prog 16 #[.int .i64 c, .int .i64 n] w (Says w0 ls (.int .i64 (pickI c n))) :=
  (lpick_any c n w hc hn hn').mono fun _ _ ⟨h1, h2⟩ => ⟨h1, by rw [h2]; exact k⟩
/-- A call that gives one slice of integers. -/
def HandsN (w0 : World) (ls : List Dat) (l : List Int) (e : Ending) (w' : World) : Prop := ∃ r, e = .returned r ∧ Know w0 w' (ls ++ [.N r l])
theorem indices_at (k : Know w0 w ls) (bits : Int) (hb : I64 bits) (n : Nat) (hn : n ≤ 60) : Calls Tryz.prog 17 #[.int .i64 bits, .int .i64 n] w (HandsN w0 ls (idxI bits n)) :=
  (indices_any bits hb n hn w).mono fun _ _ ⟨r, h1, h2, h3⟩ => ⟨r, h1, (k.step h3).put (d := .N r _) h2⟩
/-- A call that gives a register. -/
def HandsR (w0 : World) (ls : List Dat) (car : Int) (xs : List ByteArray) (e : Ending) (w' : World) : Prop := ∃ r, e = .returned (.agg #[.int .i64 car, r]) ∧ Know w0 w' (ls ++ [.S r xs])
theorem made_at (k : Know w0 w ls) {v : Value} {x : List Int} (hx : IL w v x) (hr : ∀ n ∈ x, I64 n) (car : Int) (hc : I64 car) : Calls Tryz.prog 13 #[.int .i64 car, v] w (HandsR w0 ls (pickI car 8) (madeL x)) :=
  (made_any car hc hx hr).mono fun _ _ ⟨r, h1, h2, h3⟩ => ⟨r, h1, (k.step h3).put (d := .S r _) h2⟩
end
end Go.Proofs.YtinfpbkbnhcifaaGreatDoor
