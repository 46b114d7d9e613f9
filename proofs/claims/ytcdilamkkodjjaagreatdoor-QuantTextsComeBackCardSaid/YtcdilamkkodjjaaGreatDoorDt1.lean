/- Several texts of this claim in one. -/
/- Scale, as a plain function; the law that rounded quotients are near. -/
namespace Sc
/-- does a quotient with a rest go away from 0? -/
def away (how : Int) (below : Bool) (whole rest den : Nat) : Bool :=
  if how = 1 then below
  else if how = 2 then !below
  else if how = 3 then false
  else if how = 4 then decide (den < 2 * rest) || (decide (2 * rest = den) && !below)
  else decide (den < 2 * rest) || (decide (2 * rest = den) && decide (whole % 2 = 1))
def quo (how : Int) (below : Bool) (whole rest den : Nat) : Nat :=
  if 0 < rest ∧ away how below whole rest den = true then whole + 1 else whole
def sgn (below : Bool) (q : Nat) : Int := if below = true then -(q : Int) else (q : Int)
/-- Scale's results. -/
def sc (a num den how : Int) : Int × Int :=
  if how < 1 ∨ 5 < how then (0, 7)
  else if den ≤ 0 ∨ num < 0 then (0, 1)
  else
    let n := a.natAbs * num.toNat
    if den.toNat ≤ n / 18446744073709551616 then (0, 9)
    else
      let q := quo how (decide (a < 0)) (n / den.toNat) (n % den.toNat) den.toNat
      if 4611686018427387904 < q then (0, 9) else (sgn (decide (a < 0)) q, 0)

theorem away_mul {k : Nat} (hk : 0 < k) (how : Int) (below : Bool) (whole rest den : Nat) :
    away how below whole (k * rest) (k * den) = away how below whole rest den := by
  have h1 : (k * den < 2 * (k * rest)) ↔ den < 2 * rest := by
    rw [show 2 * (k * rest) = k * (2 * rest) by rw [Nat.mul_left_comm]]
    exact ⟨fun h => Nat.lt_of_mul_lt_mul_left h, fun h => Nat.mul_lt_mul_of_pos_left h hk⟩
  have h2 : (2 * (k * rest) = k * den) ↔ 2 * rest = den := by
    rw [show 2 * (k * rest) = k * (2 * rest) by rw [Nat.mul_left_comm]]
    exact ⟨fun h => Nat.eq_of_mul_eq_mul_left hk h, fun h => by rw [h]⟩
  simp only [away, h1, h2]

theorem quo_mul {k : Nat} (hk : 0 < k) (how : Int) (below : Bool) (whole rest den : Nat) :
    quo how below whole (k * rest) (k * den) = quo how below whole rest den := by
  have : 0 < k * rest ↔ 0 < rest := by
    constructor
    · intro h
      rcases Nat.eq_zero_or_pos rest with h0 | h0
      · subst h0; simp at h
      · exact h0
    · exact fun h => Nat.mul_pos hk h
  simp only [quo, away_mul hk, this]

/-- at moderate numbers: the value. -/
theorem sc_small (a num den how : Int) (h1 : 1 ≤ how) (h5 : how ≤ 5) (hd : 1 ≤ den) (hn : 0 ≤ num) (hs : a.natAbs * num.toNat < 4611686018427387904) :
    sc a num den how = (sgn (decide (a < 0)) (quo how (decide (a < 0)) (a.natAbs * num.toNat / den.toNat) (a.natAbs * num.toNat % den.toNat) den.toNat), 0) := by
  unfold sc
  rw [if_neg (by omega), if_neg (by omega)]
  have h0 : a.natAbs * num.toNat / 18446744073709551616 = 0 := Nat.div_eq_of_lt (by omega)
  simp only [h0]
  rw [if_neg (by omega), if_neg]
  have hle : a.natAbs * num.toNat / den.toNat ≤ a.natAbs * num.toNat := Nat.div_le_self _ _
  unfold quo
  split <;> omega

theorem sc_arg (a num den how : Int) (h1 : 1 ≤ how) (h5 : how ≤ 5) (h : den ≤ 0 ∨ num < 0) : sc a num den how = (0, 1) := by
  unfold sc; rw [if_neg (by omega), if_pos h]
/-- where the arguments are right: in terms of the two words of the product -/
theorem sc_high (a how : Int) (num den : Nat) (h1 : 1 ≤ how) (h5 : how ≤ 5) (hd : 1 ≤ den) (h : den ≤ a.natAbs * num / 18446744073709551616) : sc a num den how = (0, 9) := by
  unfold sc; rw [if_neg (by omega), if_neg (by omega)]
  simp only [Int.toNat_natCast]
  rw [if_pos h]
theorem sc_of (a how : Int) (num den : Nat) (h1 : 1 ≤ how) (h5 : how ≤ 5) (hd : 1 ≤ den) (h : a.natAbs * num / 18446744073709551616 < den) :
    sc a num den how = if 4611686018427387904 < quo how (decide (a < 0)) (a.natAbs * num / den) (a.natAbs * num % den) den then (0, 9)
      else (sgn (decide (a < 0)) (quo how (decide (a < 0)) (a.natAbs * num / den) (a.natAbs * num % den) den), 0) := by
  unfold sc; rw [if_neg (by omega), if_neg (by omega)]
  simp only [Int.toNat_natCast]
  rw [if_neg (by omega)]
theorem sc_kind (a num den how : Int) (h : how < 1 ∨ 5 < how) : sc a num den how = (0, 7) := by unfold sc; rw [if_pos h]

/-- THE LAW QuantRoundsAreNear, of the plain function. -/
theorem near (a b k how : Int) (ha : -1000000000 ≤ a) (ha' : a ≤ 1000000000) (hb : 1 ≤ b) (hb' : b ≤ 1000000000) (hk : 1 ≤ k) (hk' : k ≤ 1000) (h1 : 1 ≤ how) (h5 : how ≤ 5) :
    ∃ n : Int, sc a 1 b how = (n, 0) ∧ sc (k * a) 1 (k * b) how = (n, 0) ∧ sc a k (k * b) how = (n, 0) ∧
      -b < a - n * b ∧ a - n * b < b ∧ -1000000000 ≤ n ∧ n ≤ 1000000000 ∧
      (how = 1 → 0 ≤ a - n * b) ∧ (how = 2 → a - n * b ≤ 0) ∧ (how = 3 → a - n * b = 0 ∨ ((0 < a - n * b) ↔ 0 < a)) ∧
      (4 ≤ how → 2 * (a - n * b) ≤ b ∧ -b ≤ 2 * (a - n * b)) := by
  have hK : 0 < k.toNat := by omega
  have hB : 0 < b.toNat := by omega
  have hsz : a.natAbs * k.toNat ≤ 1000000000 * 1000 := Nat.mul_le_mul (by omega) (by omega)
  have e1 : (k * a).natAbs = k.toNat * a.natAbs := by rw [Int.natAbs_mul]; congr 1; omega
  have e2 : (k * b).toNat = k.toNat * b.toNat := Int.toNat_mul (by omega) (by omega)
  have hkb : 1 ≤ k * b := by
    have := Int.mul_pos (show 0 < k by omega) (show 0 < b by omega); omega
  have hneg : decide (k * a < 0) = decide (a < 0) := by
    rcases (show a < 0 ∨ 0 ≤ a by omega) with h | h
    · have : k * a < 0 := Int.mul_neg_of_pos_of_neg (by omega) h
      simp [h, this]
    · have : 0 ≤ k * a := Int.mul_nonneg (by omega) h
      simp only [decide_eq_decide]; omega
  have hdm := Nat.div_add_mod a.natAbs b.toNat
  have hr := Nat.mod_lt a.natAbs hB
  have hq0 : a.natAbs / b.toNat ≤ a.natAbs := Nat.div_le_self _ _
  refine ⟨sgn (decide (a < 0)) (quo how (decide (a < 0)) (a.natAbs / b.toNat) (a.natAbs % b.toNat) b.toNat), ?_, ?_, ?_, ?_⟩
  · rw [sc_small a 1 b how h1 h5 hb (by omega) (by simp; omega)]; simp
  · rw [sc_small (k * a) 1 (k * b) how h1 h5 hkb (by omega) (by rw [e1]; simp; rw [Nat.mul_comm]; omega)]
    rw [e1, e2, hneg]; simp only [Int.toNat_one, Nat.mul_one]
    rw [Nat.mul_div_mul_left _ _ hK, Nat.mul_mod_mul_left, quo_mul hK]
  · rw [sc_small a k (k * b) how h1 h5 hkb (by omega) (by omega)]
    rw [e2, Nat.mul_comm a.natAbs, Nat.mul_div_mul_left _ _ hK, Nat.mul_mod_mul_left, quo_mul hK]
  · generalize hq : a.natAbs / b.toNat = q at *
    generalize hrr : a.natAbs % b.toNat = r at *
    have hbb : (b.toNat : Int) = b := by omega
    have hq' : (b * q + r : Int) = (a.natAbs : Int) := by
      have := congrArg (fun n : Nat => (n : Int)) hdm
      simp only [Int.natCast_add, Int.natCast_mul, hbb] at this; exact this
    have hw : ∀ n : Int, n * b = b * n := fun n => Int.mul_comm _ _
    have hqb : (q : Int) ≤ b * q := by
      have := Int.mul_le_mul_of_nonneg_right (show (1 : Int) ≤ b from hb) (show (0 : Int) ≤ (q : Int) by omega); omega
    have h12 : how = 1 ∨ how = 2 ∨ how = 3 ∨ how = 4 ∨ how = 5 := by omega
    have hst : r = 0 ∨ 0 < r := by omega
    have hneg2 : b * (-(q : Int)) = -(b * q) := by rw [Int.mul_neg]
    have hsucc : b * ((q : Int) + 1) = b * q + b := by rw [Int.mul_add, Int.mul_one]
    have hneg3 : b * (-((q : Int) + 1)) = -(b * q) - b := by rw [Int.mul_neg, hsucc]; omega
    by_cases hn : a < 0
    · have hab : (a.natAbs : Int) = -a := by omega
      simp only [hn, decide_true]
      have key : ∀ m : Nat, (m = q ∨ (m = q + 1 ∧ 0 < r)) → (quo how true q r b.toNat = m) → 
        (-b < a - sgn true m * b ∧ a - sgn true m * b < b ∧ -1000000000 ≤ sgn true m ∧ sgn true m ≤ 1000000000) ∧ ((m = q → a - sgn true m * b = -r) ∧ (m = q + 1 → a - sgn true m * b = b - r)) := by
        intro m hm _
        simp only [sgn, if_true, hw]
        rcases hm with rfl | ⟨rfl, h0⟩
        · rw [hneg2]; omega
        · rw [show ((q + 1 : Nat) : Int) = (q : Int) + 1 by omega, hneg3]; omega
      by_cases hup : 0 < r ∧ away how true q r b.toNat = true
      · have hm : quo how true q r b.toNat = q + 1 := by unfold quo; rw [if_pos hup]
        have ⟨k1, k2, k3⟩ := key (q + 1) (.inr ⟨rfl, hup.1⟩) hm
        rw [hm]; have k3 := k3 rfl
        refine ⟨k1.1, k1.2.1, k1.2.2.1, k1.2.2.2, ?_⟩
        rw [k3]
        obtain ⟨hr0, hup⟩ := hup
        rcases h12 with rfl | rfl | rfl | rfl | rfl <;> simp [away] at hup <;> omega
      · have hm : quo how true q r b.toNat = q := by unfold quo; rw [if_neg hup]
        have ⟨k1, k2, k3⟩ := key q (.inl rfl) hm
        rw [hm]; have k2 := k2 rfl
        refine ⟨k1.1, k1.2.1, k1.2.2.1, k1.2.2.2, ?_⟩
        rw [k2]
        rcases hst with rfl | hst
        · omega
        · have hup : ¬ away how true q r b.toNat = true := fun h => hup ⟨hst, h⟩
          rcases h12 with rfl | rfl | rfl | rfl | rfl <;> simp [away] at hup <;> omega
    · have hab : (a.natAbs : Int) = a := by omega
      simp only [hn, decide_false]
      have key : ∀ m : Nat, (m = q ∨ (m = q + 1 ∧ 0 < r)) → (quo how false q r b.toNat = m) → 
        (-b < a - sgn false m * b ∧ a - sgn false m * b < b ∧ -1000000000 ≤ sgn false m ∧ sgn false m ≤ 1000000000) ∧ ((m = q → a - sgn false m * b = r) ∧ (m = q + 1 → a - sgn false m * b = r - b)) := by
        intro m hm _
        simp only [sgn, Bool.false_eq_true, if_false, hw]
        rcases hm with rfl | ⟨rfl, h0⟩
        · omega
        · rw [show ((q + 1 : Nat) : Int) = (q : Int) + 1 by omega, hsucc]; omega
      by_cases hup : 0 < r ∧ away how false q r b.toNat = true
      · have hm : quo how false q r b.toNat = q + 1 := by unfold quo; rw [if_pos hup]
        have ⟨k1, k2, k3⟩ := key (q + 1) (.inr ⟨rfl, hup.1⟩) hm
        rw [hm]; have k3 := k3 rfl
        refine ⟨k1.1, k1.2.1, k1.2.2.1, k1.2.2.2, ?_⟩
        rw [k3]
        obtain ⟨hr0, hup⟩ := hup
        rcases h12 with rfl | rfl | rfl | rfl | rfl <;> simp [away] at hup <;> omega
      · have hm : quo how false q r b.toNat = q := by unfold quo; rw [if_neg hup]
        have ⟨k1, k2, k3⟩ := key q (.inl rfl) hm
        rw [hm]; have k2 := k2 rfl
        refine ⟨k1.1, k1.2.1, k1.2.2.1, k1.2.2.2, ?_⟩
        rw [k2]
        rcases hst with rfl | hst
        · omega
        · have hup : ¬ away how false q r b.toNat = true := fun h => hup ⟨hst, h⟩
          rcases h12 with rfl | rfl | rfl | rfl | rfl <;> simp [away] at hup <;> omega
end Sc

/- One digit of a long division, in plain numbers. -/
namespace Knuth
/-- one digit: B the base, y = a*B+b the divisor, u < y the head, d < B the next digit. -/
theorem up {B u d a b q : Nat} (hd : d < B) (hq : q * (a * B + b) ≤ u * B + d) (ha : 0 < a) : q ≤ u / a := by
  rw [Nat.le_div_iff_mul_le ha]
  have h1 : q * a * B ≤ u * B + d := by
    have : q * (a * B + b) = q * a * B + q * b := by rw [Nat.mul_add, Nat.mul_assoc]
    omega
  have h2 : q * a * B < (u + 1) * B := by rw [Nat.add_mul]; omega
  have := Nat.lt_of_mul_lt_mul_right h2
  omega

/-- the test is exact -/
theorem test {B u d a b q r : Nat} (h : r + q * a = u) : (u * B + d < q * (a * B + b)) ↔ r * B + d < q * b := by
  subst h
  have e1 : (r + q * a) * B = r * B + q * a * B := Nat.add_mul _ _ _
  have e2 : q * (a * B + b) = q * a * B + q * b := by rw [Nat.mul_add, Nat.mul_assoc]
  omega

theorem first {B u a b : Nat} (hb : b < B) (ha : B ≤ 2 * a) (ha0 : 0 < a) (hu : u < a * B + b) : u / a ≤ B + 1 := by
  have : u / a < B + 2 := by
    rw [Nat.div_lt_iff_lt_mul ha0]
    have : (B + 2) * a = a * B + 2 * a := by rw [Nat.add_mul, Nat.mul_comm B a]
    omega
  omega

/-- where the rest has grown to the base, the digit is not too great -/
theorem small {B u d a b q r : Nat} (hb : b < B) (h : r + q * a = u) (hr : B ≤ r) (hq : q ≤ B) : q * (a * B + b) ≤ u * B + d := by
  have := (test (B := B) (d := d) (b := b) h)
  have h1 : q * b ≤ B * B := Nat.mul_le_mul hq (Nat.le_of_lt hb)
  have h2 : B * B ≤ r * B := Nat.mul_le_mul_right _ hr
  have h3 : ¬ (u * B + d < q * (a * B + b)) := by rw [this]; omega
  omega

theorem digit {n y q : Nat} (h1 : q * y ≤ n) (h2 : n < (q + 1) * y) : n / y = q := by
  have hy : 0 < y := by
    rcases Nat.eq_zero_or_pos y with h | h
    · subst h; simp at h2
    · exact h
  rw [Nat.div_eq_iff hy]
  rw [Nat.add_mul] at h2
  omega

/-- the quotient's digit is below the base -/
theorem below {B u d y : Nat} (hd : d < B) (hu : u < y) : (u * B + d) / y < B := by
  rw [Nat.div_lt_iff_lt_mul (by omega)]
  have : u * B + B ≤ y * B := by rw [← Nat.succ_mul]; exact Nat.mul_le_mul_right _ hu
  rw [Nat.mul_comm B y]; omega

/-- two digits: the quotient and the rest out of the digits. -/
theorem two {B u d1 d0 y : Nat} (hy : 0 < y) :
    ((u * B + d1) * B + d0) / y = (u * B + d1) / y * B + ((u * B + d1) % y * B + d0) / y ∧
    ((u * B + d1) * B + d0) % y = ((u * B + d1) % y * B + d0) % y := by
  have h := Nat.div_add_mod (u * B + d1) y
  have e : (u * B + d1) * B + d0 = ((u * B + d1) % y * B + d0) + y * ((u * B + d1) / y * B) := by
    have h' : (u * B + d1) * B = (y * ((u * B + d1) / y) + (u * B + d1) % y) * B := by rw [h]
    rw [h', Nat.add_mul, Nat.mul_assoc]; omega
  constructor
  · conv => lhs; rw [e]
    rw [Nat.add_mul_div_left _ _ hy]; omega
  · conv => lhs; rw [e]
    rw [Nat.add_mul_mod_self_left]

/-- shifting both by a power -/
theorem shifted {n y s : Nat} : (n * 2 ^ s) / (y * 2 ^ s) = n / y ∧ (n * 2 ^ s) % (y * 2 ^ s) / 2 ^ s = n % y := by
  have hp : 0 < 2 ^ s := Nat.two_pow_pos s
  refine ⟨Nat.mul_div_mul_right _ _ hp, ?_⟩
  rw [Nat.mul_mod_mul_right, Nat.mul_div_cancel _ hp]

/-! ### the base 2^32 -/
/-- q is not below the digit, r is the rest that goes with it. -/
def Dig (u d a b q r : Nat) : Prop := q ≤ 4294967297 ∧ r < 4294967296 ∧ r + q * a = u ∧ (u * 4294967296 + d) / (a * 4294967296 + b) ≤ q
structure Par (u d a b : Nat) : Prop where
  uY : u < a * 4294967296 + b
  dB : d < 4294967296
  a0 : 2147483648 ≤ a
  aB : a < 4294967296
  bB : b < 4294967296
theorem dig_start {u d a b : Nat} (h : Par u d a b) : Dig u d a b (u / a) (u % a) := by
  obtain ⟨hu, hd, ha, ha', hb⟩ := h
  have h1 := first (B := 4294967296) hb (by omega) (by omega) hu
  have h2 := up (B := 4294967296) (u := u) (d := d) (a := a) (b := b) (q := (u * 4294967296 + d) / (a * 4294967296 + b)) hd (Nat.div_mul_le_self _ _) (by omega)
  have h3 := Nat.div_add_mod u a
  have h4 := Nat.mod_lt u (show 0 < a by omega)
  rw [Nat.mul_comm] at h3
  exact ⟨by omega, by omega, by omega, h2⟩
theorem dig_lt {u d a b : Nat} (h : Par u d a b) : (u * 4294967296 + d) / (a * 4294967296 + b) < 4294967296 := below h.dB h.uY
theorem Dig.over {u d a b q r : Nat} (h : Par u d a b) (g : Dig u d a b q r) (ht : 4294967296 ≤ q ∨ r * 4294967296 + d < q * b) : (u * 4294967296 + d) / (a * 4294967296 + b) < q := by
  have h1 := h.a0
  rcases ht with ht | ht
  · exact Nat.lt_of_lt_of_le (dig_lt h) ht
  · rw [Nat.div_lt_iff_lt_mul (by omega)]
    exact (test g.2.2.1).2 ht
theorem Dig.rest {u d a b q r : Nat} (g : Dig u d a b q r) (hq : 0 < q) : (r + a) + (q - 1) * a = u := by
  obtain ⟨g1, g2, g3, g4⟩ := g
  obtain ⟨k, rfl⟩ : ∃ k, q = k + 1 := ⟨q - 1, by omega⟩
  rw [Nat.add_sub_cancel]; rw [Nat.add_mul] at g3; omega
/-- too great: one less -/
theorem Dig.less {u d a b q r : Nat} (h : Par u d a b) (g : Dig u d a b q r) (ht : 4294967296 ≤ q ∨ r * 4294967296 + d < q * b) (hr : r + a < 4294967296) : Dig u d a b (q - 1) (r + a) := by
  have h1 := g.over h ht
  have h2 := g.rest (Nat.zero_lt_of_lt h1)
  have h3 := g.1
  exact ⟨by omega, hr, h2, Nat.le_sub_one_of_lt h1⟩
/-- too great, and behind it the rest has grown to the base: one less is the digit. -/
theorem Dig.last {u d a b q r : Nat} (h : Par u d a b) (g : Dig u d a b q r) (ht : 4294967296 ≤ q ∨ r * 4294967296 + d < q * b) (hr : 4294967296 ≤ r + a) : q - 1 = (u * 4294967296 + d) / (a * 4294967296 + b) := by
  have h1 := g.over h ht
  have h2 := g.rest (Nat.zero_lt_of_lt h1)
  have h3 := g.1
  have h4 := h.a0
  have h7 := small (B := 4294967296) (d := d) h.bB h2 (by omega) (by omega)
  have h8 : q - 1 ≤ (u * 4294967296 + d) / (a * 4294967296 + b) := by rw [Nat.le_div_iff_mul_le (by omega)]; exact h7
  omega
/-- not too great: the digit. -/
theorem Dig.done {u d a b q r : Nat} (h : Par u d a b) (g : Dig u d a b q r) (ht : q * b ≤ r * 4294967296 + d) : q = (u * 4294967296 + d) / (a * 4294967296 + b) := by
  have h4 := h.a0
  have h5 := g.2.2.2
  have h8 : q ≤ (u * 4294967296 + d) / (a * 4294967296 + b) := by
    rw [Nat.le_div_iff_mul_le (by omega)]
    have := (test (B := 4294967296) (d := d) (b := b) g.2.2.1)
    omega
  omega
theorem Dig.pos {u d a b q r : Nat} (h : Par u d a b) (g : Dig u d a b q r) (ht : 4294967296 ≤ q ∨ r * 4294967296 + d < q * b) : 1 ≤ q := by
  exact Nat.zero_lt_of_lt (g.over h ht)
/-- a product of two half words -/
theorem mul_half {q b : Nat} (hq : q < 4294967296) (hb : b < 4294967296) : q * b < 18446744073709551616 := by
  have : q * b ≤ 4294967295 * 4294967295 := Nat.mul_le_mul (by omega) (by omega)
  omega
theorem digits {B N y s u d1 d0 Y : Nat} (hY : y * 2 ^ s = Y) (h0 : 0 < Y) (hN : N * 2 ^ s = (u * B + d1) * B + d0) :
    ∃ Q1 u2 Q0 r2, Q1 = (u * B + d1) / Y ∧ Q0 = (u2 * B + d0) / Y ∧ Y * Q1 + u2 = u * B + d1 ∧ Y * Q0 + r2 = u2 * B + d0 ∧ u2 < Y ∧ r2 < Y ∧ N / y = Q1 * B + Q0 ∧ N % y = r2 / 2 ^ s := by
  have htwo := two (B := B) (u := u) (d1 := d1) (d0 := d0) (y := Y) h0
  rw [← hN, ← hY] at htwo
  have hsh := shifted (n := N) (y := y) (s := s)
  rw [hsh.1] at htwo
  rw [htwo.2] at hsh
  rw [hY] at htwo hsh
  exact ⟨_, _, _, _, rfl, rfl, Nat.div_add_mod _ _, Nat.div_add_mod _ _, Nat.mod_lt _ h0, Nat.mod_lt _ h0, htwo.1, hsh.2.symm⟩
theorem start {u d a b : Nat} (h : Par u d a b) : ∃ qh rh, qh = u / a ∧ rh = u % a ∧ qh ≤ 4294967297 ∧ rh < a ∧ Dig u d a b qh rh := by
  have h1 := dig_start h
  have h2 := h.a0
  exact ⟨_, _, rfl, rfl, h1.1, Nat.mod_lt _ (by omega), h1⟩
end Knuth
