/- The number of bits of a word, as bits.OnesCount64 reckons it: plain arithmetic. No condition but the word's range. -/
namespace Go.Proofs.YtbpkfpkhnkcgkaaDoorR
/-- How many of the lowest bits are set. -/
def bitsum : Nat → Nat → Nat
  | 0, _ => 0
  | f + 1, n => n % 2 + bitsum f (n / 2)
theorem bitsum_add (a k n : Nat) : bitsum (a + k) n = bitsum a n + bitsum k (n / 2 ^ a) := by
  induction a generalizing n with
  | zero => simp [bitsum]
  | succ a ih =>
    rw [show a + 1 + k = (a + k) + 1 by omega, bitsum, bitsum, ih, Nat.div_div_eq_div_mul, show 2 * 2 ^ a = 2 ^ (a + 1) by rw [Nat.pow_succ, Nat.mul_comm]]
    omega
theorem bitsum_low (a n h : Nat) : bitsum a (n + 2 ^ a * h) = bitsum a n := by
  induction a generalizing n with
  | zero => simp [bitsum]
  | succ a ih =>
    rw [bitsum, bitsum]
    have e1 : (n + 2 ^ (a + 1) * h) % 2 = n % 2 := by rw [Nat.pow_succ, show 2 ^ a * 2 * h = 2 * (2 ^ a * h) by rw [Nat.mul_comm (2 ^ a) 2, Nat.mul_assoc]]; omega
    have e2 : (n + 2 ^ (a + 1) * h) / 2 = n / 2 + 2 ^ a * h := by rw [Nat.pow_succ, show 2 ^ a * 2 * h = 2 * (2 ^ a * h) by rw [Nat.mul_comm (2 ^ a) 2, Nat.mul_assoc]]; omega
    rw [e1, e2, ih]
theorem bitsum_byte (k b h : Nat) (hb : b < 256) : bitsum (8 + k) (b + 256 * h) = bitsum 8 b + bitsum k h := by
  rw [bitsum_add, show (256 : Nat) = 2 ^ 8 from rfl, bitsum_low]
  congr 2
  omega

theorem and_split (a c x y : Nat) (ha : a < 256) (hc : c < 256) : (a + 256 * x) &&& (c + 256 * y) = (a &&& c) + 256 * (x &&& y) := by
  have e1 : ((a + 256 * x) &&& (c + 256 * y)) % 2 ^ 8 = a &&& c := by
    rw [Nat.and_mod_two_pow]; congr 1 <;> omega
  have e2 : ((a + 256 * x) &&& (c + 256 * y)) / 2 ^ 8 = x &&& y := by
    rw [Nat.and_div_two_pow]; congr 1 <;> omega
  omega

def q1 (n m : Nat) : Nat := (n / 2 &&& m) + (n &&& m)
def q2 (n m : Nat) : Nat := (n / 4 &&& m) + (n &&& m)
def q3 (n m : Nat) : Nat := (n / 16 + n) &&& m
theorem q1_8 : ∀ b, b < 256 → q1 b 85 < 256 := by decide +kernel
theorem q2_8 : ∀ b, b < 256 → q2 (q1 b 85) 51 < 69 ∧ q2 (q1 b 85) 51 % 16 ≤ 4 := by decide +kernel
theorem q3_8 : ∀ b, b < 256 → q3 (q2 (q1 b 85) 51) 15 = bitsum 8 b ∧ bitsum 8 b ≤ 8 := by decide +kernel
theorem shift1 : ∀ b, b < 256 → ∀ t, t < 2 → (b / 2 + 128 * t) &&& 85 = (b / 2) &&& 85 := by decide +kernel
theorem shift2 : ∀ b, b < 256 → ∀ t, t < 4 → (b / 4 + 64 * t) &&& 51 = (b / 4) &&& 51 := by decide +kernel
theorem mask15 : ∀ c, c < 69 → ∀ t, t ≤ 4 → (c / 16 + c + 16 * t) &&& 15 = (c / 16 + c) &&& 15 := by decide +kernel

theorem q1_step (b h m : Nat) (hb : b < 256) : q1 (b + 256 * h) (85 + 256 * m) = q1 b 85 + 256 * q1 h m := by
  unfold q1
  have e : (b + 256 * h) / 2 = (b / 2 + 128 * (h % 2)) + 256 * (h / 2) := by omega
  rw [e, and_split _ _ _ _ (by omega) (by omega), and_split _ _ _ _ hb (by omega), shift1 b hb _ (by omega)]
  omega
theorem q2_step (c v m : Nat) (hc : c < 256) : q2 (c + 256 * v) (51 + 256 * m) = q2 c 51 + 256 * q2 v m := by
  unfold q2
  have e : (c + 256 * v) / 4 = (c / 4 + 64 * (v % 4)) + 256 * (v / 4) := by omega
  rw [e, and_split _ _ _ _ (by omega) (by omega), and_split _ _ _ _ hc (by omega), shift2 c hc _ (by omega)]
  omega
theorem q3_step (c v m : Nat) (hc : c < 69) (hv : v % 16 ≤ 4) : q3 (c + 256 * v) (15 + 256 * m) = q3 c 15 + 256 * q3 v m := by
  unfold q3
  have e : (c + 256 * v) / 16 + (c + 256 * v) = (c / 16 + c + 16 * (v % 16)) + 256 * (v / 16 + v) := by omega
  rw [e, and_split _ _ _ _ (by omega) (by omega), mask15 c hc _ hv]

/-- The bytes' counts side by side. -/
theorem lanes (b h m1 m2 m3 : Nat) (hb : b < 256) (hh : q2 (q1 h m1) m2 % 16 ≤ 4) :
    q3 (q2 (q1 (b + 256 * h) (85 + 256 * m1)) (51 + 256 * m2)) (15 + 256 * m3) = bitsum 8 b + 256 * q3 (q2 (q1 h m1) m2) m3 ∧ q2 (q1 (b + 256 * h) (85 + 256 * m1)) (51 + 256 * m2) % 16 ≤ 4 := by
  have h1 := q1_8 b hb
  obtain ⟨h2, h3⟩ := q2_8 b hb
  rw [q1_step b h m1 hb, q2_step _ _ m2 h1]
  refine ⟨?_, by omega⟩
  rw [q3_step _ _ m3 h2 hh, (q3_8 b hb).1]

theorem q_zero : q2 (q1 0 0) 0 % 16 ≤ 4 := by decide

theorem ones_lanes (n : Nat) (hn : n < 18446744073709551616) : ∃ p0 p1 p2 p3 p4 p5 p6 p7 : Nat, p0 ≤ 8 ∧ p1 ≤ 8 ∧ p2 ≤ 8 ∧ p3 ≤ 8 ∧ p4 ≤ 8 ∧ p5 ≤ 8 ∧ p6 ≤ 8 ∧ p7 ≤ 8 ∧
    q3 (q2 (q1 n 6148914691236517205) 3689348814741910323) 1085102592571150095 = p0 + 256 * (p1 + 256 * (p2 + 256 * (p3 + 256 * (p4 + 256 * (p5 + 256 * (p6 + 256 * p7)))))) ∧
    bitsum 64 n = p0 + p1 + p2 + p3 + p4 + p5 + p6 + p7 := by
  obtain ⟨b0, n1, r0, e0⟩ : ∃ b h, b < 256 ∧ n = b + 256 * h := ⟨n % 256, n / 256, by omega, by omega⟩
  obtain ⟨b1, n2, r1, e1⟩ : ∃ b h, b < 256 ∧ n1 = b + 256 * h := ⟨n1 % 256, n1 / 256, by omega, by omega⟩
  obtain ⟨b2, n3, r2, e2⟩ : ∃ b h, b < 256 ∧ n2 = b + 256 * h := ⟨n2 % 256, n2 / 256, by omega, by omega⟩
  obtain ⟨b3, n4, r3, e3⟩ : ∃ b h, b < 256 ∧ n3 = b + 256 * h := ⟨n3 % 256, n3 / 256, by omega, by omega⟩
  obtain ⟨b4, n5, r4, e4⟩ : ∃ b h, b < 256 ∧ n4 = b + 256 * h := ⟨n4 % 256, n4 / 256, by omega, by omega⟩
  obtain ⟨b5, n6, r5, e5⟩ : ∃ b h, b < 256 ∧ n5 = b + 256 * h := ⟨n5 % 256, n5 / 256, by omega, by omega⟩
  obtain ⟨b6, n7, r6, e6⟩ : ∃ b h, b < 256 ∧ n6 = b + 256 * h := ⟨n6 % 256, n6 / 256, by omega, by omega⟩
  have r7 : n7 < 256 := by omega
  have s7 := q3_8 n7 r7
  have t7 := q2_8 n7 r7
  have m6 := lanes b6 n7 85 51 15 r6 t7.2
  have m5 := lanes b5 (b6 + 256 * n7) 21845 13107 3855 r5 m6.2
  have m4 := lanes b4 (b5 + 256 * (b6 + 256 * n7)) 5592405 3355443 986895 r4 m5.2
  have m3 := lanes b3 _ 1431655765 858993459 252645135 r3 m4.2
  have m2 := lanes b2 _ 366503875925 219902325555 64677154575 r2 m3.2
  have m1 := lanes b1 _ 93824992236885 56294995342131 16557351571215 r1 m2.2
  have m0 := lanes b0 _ 24019198012642645 14411518807585587 4238682002231055 r0 m1.2
  refine ⟨bitsum 8 b0, bitsum 8 b1, bitsum 8 b2, bitsum 8 b3, bitsum 8 b4, bitsum 8 b5, bitsum 8 b6, bitsum 8 n7, (q3_8 b0 r0).2, (q3_8 b1 r1).2, (q3_8 b2 r2).2, (q3_8 b3 r3).2, (q3_8 b4 r4).2, (q3_8 b5 r5).2, (q3_8 b6 r6).2, s7.2, ?_, ?_⟩
  · subst e0 e1 e2 e3 e4 e5 e6
    have h0 := m0.1; have h1 := m1.1; have h2 := m2.1; have h3 := m3.1; have h4 := m4.1; have h5 := m5.1; have h6 := m6.1
    simp only [Nat.reduceMul, Nat.reduceAdd] at h0 h1 h2 h3 h4 h5 h6
    rw [h0, h1, h2, h3, h4, h5, h6, s7.1]
  · subst e0 e1 e2 e3 e4 e5 e6
    rw [show (64 : Nat) = 8 + 56 from rfl, bitsum_byte _ _ _ r0, show (56 : Nat) = 8 + 48 from rfl, bitsum_byte _ _ _ r1, show (48 : Nat) = 8 + 40 from rfl, bitsum_byte _ _ _ r2, show (40 : Nat) = 8 + 32 from rfl, bitsum_byte _ _ _ r3,
      show (32 : Nat) = 8 + 24 from rfl, bitsum_byte _ _ _ r4, show (24 : Nat) = 8 + 16 from rfl, bitsum_byte _ _ _ r5, show (16 : Nat) = 8 + 8 from rfl, bitsum_byte _ _ _ r6]
    omega

/-- The last three steps add the lanes up. -/
theorem lanes_sum (p0 p1 p2 p3 p4 p5 p6 p7 a : Nat) (h0 : p0 ≤ 8) (h1 : p1 ≤ 8) (h2 : p2 ≤ 8) (h3 : p3 ≤ 8) (h4 : p4 ≤ 8) (h5 : p5 ≤ 8) (h6 : p6 ≤ 8) (h7 : p7 ≤ 8)
    (ha : a = p0 + 256 * (p1 + 256 * (p2 + 256 * (p3 + 256 * (p4 + 256 * (p5 + 256 * (p6 + 256 * p7))))))) :
    ∃ a4 a5 a6 : Nat, a + a / 256 = a4 ∧ a4 + a4 / 65536 = a5 ∧ a5 + a5 / 4294967296 = a6 ∧ a4 < 18446744073709551616 ∧ a5 < 18446744073709551616 ∧ a6 < 9223372036854775808 ∧ a6 % 128 = p0 + p1 + p2 + p3 + p4 + p5 + p6 + p7 := by
  obtain ⟨t6, e6⟩ : ∃ t, t = p6 + 256 * p7 := ⟨_, rfl⟩
  obtain ⟨t5, e5⟩ : ∃ t, t = p5 + 256 * t6 := ⟨_, rfl⟩
  obtain ⟨t4, e4⟩ : ∃ t, t = p4 + 256 * t5 := ⟨_, rfl⟩
  obtain ⟨t3, e3⟩ : ∃ t, t = p3 + 256 * t4 := ⟨_, rfl⟩
  obtain ⟨t2, e2⟩ : ∃ t, t = p2 + 256 * t3 := ⟨_, rfl⟩
  obtain ⟨t1, e1⟩ : ∃ t, t = p1 + 256 * t2 := ⟨_, rfl⟩
  rw [← e6, ← e5, ← e4, ← e3, ← e2, ← e1] at ha
  have b6 : t6 ≤ 2056 := by omega
  have b5 : t5 ≤ 526344 := by omega
  have b4 : t4 ≤ 134744072 := by omega
  have b3 : t3 ≤ 34494482440 := by omega
  have b2 : t2 ≤ 8830587504648 := by omega
  have b1 : t1 ≤ 2260630401189896 := by omega
  have d1 : a / 256 = t1 := by omega
  obtain ⟨U, hU⟩ : ∃ U, U = t2 + t3 := ⟨_, rfl⟩
  obtain ⟨a4, h4⟩ : ∃ x, x = a + t1 := ⟨_, rfl⟩
  have f4 : a4 = (p0 + p1) + 256 * (p1 + p2) + 65536 * U := by omega
  have d2 : a4 / 65536 = U := by omega
  obtain ⟨V, hV⟩ : ∃ V, V = t4 + t5 := ⟨_, rfl⟩
  have fU : U = (p2 + p3) + 256 * (p3 + p4) + 65536 * V := by omega
  have fV : V = (p4 + p5) + 256 * (p5 + p6) + 65536 * (t6 + p7) := by omega
  obtain ⟨a5, h5⟩ : ∃ x, x = a4 + U := ⟨_, rfl⟩
  have f5 : a5 = (p0 + p1 + p2 + p3) + 256 * (p1 + p2 + p3 + p4) + 65536 * (p2 + p3 + p4 + p5) + 16777216 * (p3 + p4 + p5 + p6) + 4294967296 * (V + (t6 + p7)) := by
    clear h4 d1 d2 ha e1 e2 e3 e4 e5 hU hV
    omega
  have d3 : a5 / 4294967296 = V + (t6 + p7) := by
    clear h4 d1 d2 ha e1 e2 e3 e4 e5 hU hV h5 f4 fU fV
    omega
  have bU : U ≤ 8865081987088 := by omega
  have bV : V ≤ 135270416 := by omega
  have c4 : a4 ≤ 600000000000000000 := by clear h4 d1 d2 d3 ha e1 e2 e3 e4 e5 hU hV h5 fU fV f5; omega
  have c5 : a5 ≤ 700000000000000000 := by clear h4 d1 d2 d3 ha e1 e2 e3 e4 e5 hU hV f4 fU fV f5; omega
  have g : V + (t6 + p7) = (p4 + p5 + p6 + p7) + 128 * (2 * (p5 + p6) + 512 * (t6 + p7) + 2 * p7) := by
    clear h4 d1 d2 d3 ha e1 e2 e3 e4 e5 hU hV h5 f4 fU f5 c4 c5
    omega
  have c6 : V + (t6 + p7) ≤ 135272480 := by clear h4 d1 d2 d3 ha e1 e2 e3 e4 e5 hU hV h5 f4 fU f5 c4 c5 g fV; omega
  refine ⟨a4, a5, a5 + (V + (t6 + p7)), by rw [d1, h4], by rw [d2, h5], by rw [d3], by omega, by omega, by omega, ?_⟩
  have g5 : a5 = (p0 + p1 + p2 + p3) + 128 * (2 * (p1 + p2 + p3 + p4) + 512 * (p2 + p3 + p4 + p5) + 131072 * (p3 + p4 + p5 + p6) + 33554432 * (V + (t6 + p7))) := by
    rw [f5]; clear h4 d1 d2 d3 ha e1 e2 e3 e4 e5 hU hV h5 f4 fU fV f5 g c4 c5 c6 bU bV
    omega
  generalize 2 * (p1 + p2 + p3 + p4) + 512 * (p2 + p3 + p4 + p5) + 131072 * (p3 + p4 + p5 + p6) + 33554432 * (V + (t6 + p7)) = X at g5
  generalize 2 * (p5 + p6) + 512 * (t6 + p7) + 2 * p7 = Y at g
  rw [g, g5]
  clear h4 d1 d2 d3 ha e1 e2 e3 e4 e5 e6 hU hV h5 f4 fU fV f5 g g5 c4 c5 c6 bU bV b1 b2 b3 b4 b5 b6
  omega
end Go.Proofs.YtbpkfpkhnkcgkaaDoorR
