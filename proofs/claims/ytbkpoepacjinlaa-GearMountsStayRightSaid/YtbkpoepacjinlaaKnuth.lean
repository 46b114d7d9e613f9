/- One digit of a long division, in plain numbers. -/
namespace Knuth
/-- one digit: B the base, y = a*B+b the divisor, u < y the head, d < B the next digit. -/
theorem up {B u d a b q : Nat} (hd : d < B) (hq : q * (a * B + b) ≤ u * B + d) (ha : 0 < a) : q ≤ u / a := by
  rw [Nat.le_div_iff_mul_le ha]
  have h1 : q * a * B ≤ u * B + d := by
    have : q * (a * B + b) = q * a * B + q * b := by rw [Nat.mul_add, Nat.mul_assoc]
    omega
  have h2 : q * a * B < (u + 1) * B := by rw [Nat.add_mul]; omega
  have := Nat.lt_of_mul_lt_mul_right h2
  omega

/-- the test is exact -/
theorem test {B u d a b q r : Nat} (h : r + q * a = u) : (u * B + d < q * (a * B + b)) ↔ r * B + d < q * b := by
  subst h
  have e1 : (r + q * a) * B = r * B + q * a * B := Nat.add_mul _ _ _
  have e2 : q * (a * B + b) = q * a * B + q * b := by rw [Nat.mul_add, Nat.mul_assoc]
  omega

theorem first {B u a b : Nat} (hb : b < B) (ha : B ≤ 2 * a) (ha0 : 0 < a) (hu : u < a * B + b) : u / a ≤ B + 1 := by
  have : u / a < B + 2 := by
    rw [Nat.div_lt_iff_lt_mul ha0]
    have : (B + 2) * a = a * B + 2 * a := by rw [Nat.add_mul, Nat.mul_comm B a]
    omega
  omega

/-- where the rest has grown to the base, the digit is not too great -/
theorem small {B u d a b q r : Nat} (hb : b < B) (h : r + q * a = u) (hr : B ≤ r) (hq : q ≤ B) : q * (a * B + b) ≤ u * B + d := by
  have := (test (B := B) (d := d) (b := b) h)
  have h1 : q * b ≤ B * B := Nat.mul_le_mul hq (Nat.le_of_lt hb)
  have h2 : B * B ≤ r * B := Nat.mul_le_mul_right _ hr
  have h3 : ¬ (u * B + d < q * (a * B + b)) := by rw [this]; omega
  omega

theorem digit {n y q : Nat} (h1 : q * y ≤ n) (h2 : n < (q + 1) * y) : n / y = q := by
  have hy : 0 < y := by
    rcases Nat.eq_zero_or_pos y with h | h
    · subst h; simp at h2
    · exact h
  rw [Nat.div_eq_iff hy]
  rw [Nat.add_mul] at h2
  omega

/-- the quotient's digit is below the base -/
theorem below {B u d y : Nat} (hd : d < B) (hu : u < y) : (u * B + d) / y < B := by
  rw [Nat.div_lt_iff_lt_mul (by omega)]
  have : u * B + B ≤ y * B := by rw [← Nat.succ_mul]; exact Nat.mul_le_mul_right _ hu
  rw [Nat.mul_comm B y]; omega

/-- two digits: the quotient and the rest out of the digits. -/
theorem two {B u d1 d0 y : Nat} (hy : 0 < y) :
    ((u * B + d1) * B + d0) / y = (u * B + d1) / y * B + ((u * B + d1) % y * B + d0) / y ∧
    ((u * B + d1) * B + d0) % y = ((u * B + d1) % y * B + d0) % y := by
  have h := Nat.div_add_mod (u * B + d1) y
  have e : (u * B + d1) * B + d0 = ((u * B + d1) % y * B + d0) + y * ((u * B + d1) / y * B) := by
    have h' : (u * B + d1) * B = (y * ((u * B + d1) / y) + (u * B + d1) % y) * B := by rw [h]
    rw [h', Nat.add_mul, Nat.mul_assoc]; omega
  constructor
  · conv => lhs; rw [e]
    rw [Nat.add_mul_div_left _ _ hy]; omega
  · conv => lhs; rw [e]
    rw [Nat.add_mul_mod_self_left]

/-- shifting both by a power -/
theorem shifted {n y s : Nat} : (n * 2 ^ s) / (y * 2 ^ s) = n / y ∧ (n * 2 ^ s) % (y * 2 ^ s) / 2 ^ s = n % y := by
  have hp : 0 < 2 ^ s := Nat.two_pow_pos s
  refine ⟨Nat.mul_div_mul_right _ _ hp, ?_⟩
  rw [Nat.mul_mod_mul_right, Nat.mul_div_cancel _ hp]

/-! ### the base 2^32 -/
/-- q is not below the digit, r is the rest that goes with it. -/
def Dig (u d a b q r : Nat) : Prop := q ≤ 4294967297 ∧ r < 4294967296 ∧ r + q * a = u ∧ (u * 4294967296 + d) / (a * 4294967296 + b) ≤ q
structure Par (u d a b : Nat) : Prop where
  uY : u < a * 4294967296 + b
  dB : d < 4294967296
  a0 : 2147483648 ≤ a
  aB : a < 4294967296
  bB : b < 4294967296
theorem dig_start {u d a b : Nat} (h : Par u d a b) : Dig u d a b (u / a) (u % a) := by
  obtain ⟨hu, hd, ha, ha', hb⟩ := h
  have h1 := first (B := 4294967296) hb (by omega) (by omega) hu
  have h2 := up (B := 4294967296) (u := u) (d := d) (a := a) (b := b) (q := (u * 4294967296 + d) / (a * 4294967296 + b)) hd (Nat.div_mul_le_self _ _) (by omega)
  have h3 := Nat.div_add_mod u a
  have h4 := Nat.mod_lt u (show 0 < a by omega)
  rw [Nat.mul_comm] at h3
  exact ⟨by omega, by omega, by omega, h2⟩
theorem dig_lt {u d a b : Nat} (h : Par u d a b) : (u * 4294967296 + d) / (a * 4294967296 + b) < 4294967296 := below h.dB h.uY
theorem Dig.over {u d a b q r : Nat} (h : Par u d a b) (g : Dig u d a b q r) (ht : 4294967296 ≤ q ∨ r * 4294967296 + d < q * b) : (u * 4294967296 + d) / (a * 4294967296 + b) < q := by
  have h1 := h.a0
  rcases ht with ht | ht
  · exact Nat.lt_of_lt_of_le (dig_lt h) ht
  · rw [Nat.div_lt_iff_lt_mul (by omega)]
    exact (test g.2.2.1).2 ht
theorem Dig.rest {u d a b q r : Nat} (g : Dig u d a b q r) (hq : 0 < q) : (r + a) + (q - 1) * a = u := by
  obtain ⟨g1, g2, g3, g4⟩ := g
  obtain ⟨k, rfl⟩ : ∃ k, q = k + 1 := ⟨q - 1, by omega⟩
  rw [Nat.add_sub_cancel]; rw [Nat.add_mul] at g3; omega
/-- too great: one less -/
theorem Dig.less {u d a b q r : Nat} (h : Par u d a b) (g : Dig u d a b q r) (ht : 4294967296 ≤ q ∨ r * 4294967296 + d < q * b) (hr : r + a < 4294967296) : Dig u d a b (q - 1) (r + a) := by
  have h1 := g.over h ht
  have h2 := g.rest (Nat.zero_lt_of_lt h1)
  have h3 := g.1
  exact ⟨by omega, hr, h2, Nat.le_sub_one_of_lt h1⟩
/-- too great, and behind it the rest has grown to the base: one less is the digit. -/
theorem Dig.last {u d a b q r : Nat} (h : Par u d a b) (g : Dig u d a b q r) (ht : 4294967296 ≤ q ∨ r * 4294967296 + d < q * b) (hr : 4294967296 ≤ r + a) : q - 1 = (u * 4294967296 + d) / (a * 4294967296 + b) := by
  have h1 := g.over h ht
  have h2 := g.rest (Nat.zero_lt_of_lt h1)
  have h3 := g.1
  have h4 := h.a0
  have h7 := small (B := 4294967296) (d := d) h.bB h2 (by omega) (by omega)
  have h8 : q - 1 ≤ (u * 4294967296 + d) / (a * 4294967296 + b) := by rw [Nat.le_div_iff_mul_le (by omega)]; exact h7
  omega
/-- not too great: the digit. -/
theorem Dig.done {u d a b q r : Nat} (h : Par u d a b) (g : Dig u d a b q r) (ht : q * b ≤ r * 4294967296 + d) : q = (u * 4294967296 + d) / (a * 4294967296 + b) := by
  have h4 := h.a0
  have h5 := g.2.2.2
  have h8 : q ≤ (u * 4294967296 + d) / (a * 4294967296 + b) := by
    rw [Nat.le_div_iff_mul_le (by omega)]
    have := (test (B := 4294967296) (d := d) (b := b) g.2.2.1)
    omega
  omega
theorem Dig.pos {u d a b q r : Nat} (h : Par u d a b) (g : Dig u d a b q r) (ht : 4294967296 ≤ q ∨ r * 4294967296 + d < q * b) : 1 ≤ q := by
  exact Nat.zero_lt_of_lt (g.over h ht)
/-- a product of two half words -/
theorem mul_half {q b : Nat} (hq : q < 4294967296) (hb : b < 4294967296) : q * b < 18446744073709551616 := by
  have : q * b ≤ 4294967295 * 4294967295 := Nat.mul_le_mul (by omega) (by omega)
  omega
theorem digits {B N y s u d1 d0 Y : Nat} (hY : y * 2 ^ s = Y) (h0 : 0 < Y) (hN : N * 2 ^ s = (u * B + d1) * B + d0) :
    ∃ Q1 u2 Q0 r2, Q1 = (u * B + d1) / Y ∧ Q0 = (u2 * B + d0) / Y ∧ Y * Q1 + u2 = u * B + d1 ∧ Y * Q0 + r2 = u2 * B + d0 ∧ u2 < Y ∧ r2 < Y ∧ N / y = Q1 * B + Q0 ∧ N % y = r2 / 2 ^ s := by
  have htwo := two (B := B) (u := u) (d1 := d1) (d0 := d0) (y := Y) h0
  rw [← hN, ← hY] at htwo
  have hsh := shifted (n := N) (y := y) (s := s)
  rw [hsh.1] at htwo
  rw [htwo.2] at hsh
  rw [hY] at htwo hsh
  exact ⟨_, _, _, _, rfl, rfl, Nat.div_add_mod _ _, Nat.div_add_mod _ _, Nat.mod_lt _ h0, Nat.mod_lt _ h0, htwo.1, hsh.2.symm⟩
theorem start {u d a b : Nat} (h : Par u d a b) : ∃ qh rh, qh = u / a ∧ rh = u % a ∧ qh ≤ 4294967297 ∧ rh < a ∧ Dig u d a b qh rh := by
  have h1 := dig_start h
  have h2 := h.a0
  exact ⟨_, _, rfl, rfl, h1.1, Nat.mod_lt _ (by omega), h1⟩
end Knuth
