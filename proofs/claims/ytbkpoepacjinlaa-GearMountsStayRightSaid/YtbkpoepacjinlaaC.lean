/- math/bits.Div64: the contract, for all arguments whose quotient fits: the exact quotient and the rest. -/
import Derived.Test.YtbkpoepacjinlaaB
namespace Go.Proofs.Ytbkpoepacjinlaa
open Go.RowKit

theorem bitLen_spec : ∀ (n x : Nat), x ≤ n → x ≠ 0 → x < 2 ^ 64 → 1 ≤ Lib.bitLen x ∧ 2 ^ (Lib.bitLen x - 1) ≤ x ∧ x < 2 ^ Lib.bitLen x
  | 0, x, h, h0, _ => absurd (Nat.le_zero.1 h) h0
  | n + 1, x, h, h0, hx => by
    rw [Lib.bitLen_half x h0 hx]
    by_cases h1 : x / 2 = 0
    · have : x = 1 := by omega
      subst this
      decide
    · have ⟨i1, i2, i3⟩ := bitLen_spec n (x / 2) (by omega) h1 (by omega)
      refine ⟨by omega, ?_, ?_⟩
      · obtain ⟨k, hk⟩ : ∃ k, Lib.bitLen (x / 2) = k + 1 := ⟨Lib.bitLen (x / 2) - 1, by omega⟩
        rw [hk] at i2 ⊢
        rw [show 1 + (k + 1) - 1 = k + 1 by omega, Nat.pow_succ]
        rw [Nat.add_sub_cancel] at i2
        omega
      · rw [Nat.add_comm, Nat.pow_succ]; omega
theorem bitLen_le {x : Nat} (h0 : x ≠ 0) (hx : x < 2 ^ 64) : Lib.bitLen x ≤ 64 := by
  have ⟨_, h2, _⟩ := bitLen_spec x x (Nat.le_refl _) h0 hx
  rcases Nat.lt_or_ge 64 (Lib.bitLen x) with h | h
  · have : 2 ^ 64 ≤ 2 ^ (Lib.bitLen x - 1) := Nat.pow_le_pow_right (by omega) (by omega)
    omega
  · exact h

theorem wrap_nat {n : Nat} (h : n < 18446744073709551616) : IntKind.u64.wrap (n : Int) = n := by rw [IntKind.wrap_u64]; omega

theorem cast_pow2 (s : Nat) : ((2 ^ s : Nat) : Int) = (2 : Int) ^ s := by rw [Int.natCast_pow]; rfl

/-- the rest of a digit's step, as the walk reckons it -/
theorem step_rest {u d q Y r : Nat} (h : Y * q + r = u * 4294967296 + d) (hr : r < 18446744073709551616) :
    IntKind.u64.wrap (IntKind.u64.wrap (IntKind.u64.wrap ((u : Int) * 4294967296) + d) - IntKind.u64.wrap ((q : Int) * Y)) = r := by
  have h' : (q : Int) * Y + r = u * 4294967296 + d := by
    have := congrArg (fun n : Nat => (n : Int)) h
    simp only [Int.natCast_add, Int.natCast_mul] at this
    rw [Int.mul_comm]; exact this
  generalize (q : Int) * Y = C at *
  simp only [IntKind.wrap_u64]; omega

theorem rest_wrap {u a : Nat} (hu : u < 18446744073709551616) : IntKind.u64.wrap (u - IntKind.u64.wrap (((u / a : Nat) : Int) * a)) = (u % a : Nat) := by
  have h := Nat.div_add_mod u a
  rw [← Int.natCast_mul]
  have hm : u / a * a ≤ u := Nat.div_mul_le_self u a
  rw [wrap_nat (show u / a * a < _ by omega), IntKind.wrap_u64]
  rw [Nat.mul_comm] at h
  omega

theorem div64_nat (hi lo y : Nat) (w : World) (h1 : 1 ≤ hi) (hy : hi < y) (hL : lo < 18446744073709551616) (hY : y < 18446744073709551616) :
    Calls Try.prog 121 #[.int .u64 hi, .int .u64 lo, .int .u64 y] w fun e w' =>
      e = .returned (.tuple #[.int .u64 ((hi * 18446744073709551616 + lo) / y : Nat), .int .u64 ((hi * 18446744073709551616 + lo) % y : Nat)]) ∧ w' = w := by
  obtain ⟨hB1, hB2, hB3⟩ := bitLen_spec y y (Nat.le_refl _) (by omega) hY
  have hB4 := bitLen_le (x := y) (by omega) hY
  obtain ⟨s, hs⟩ : ∃ s, s = 64 - Lib.bitLen y := ⟨_, rfl⟩
  have hP : 0 < 2 ^ s := Nat.two_pow_pos s
  have hPP : 2 ^ (64 - s) * 2 ^ s = 18446744073709551616 := by rw [← Nat.pow_add, show 64 - s + s = 64 by omega]
  -- the divisor
  have hY1 : 9223372036854775808 ≤ y * 2 ^ s := by
    have : 2 ^ (Lib.bitLen y - 1) * 2 ^ s ≤ y * 2 ^ s := Nat.mul_le_mul_right _ hB2
    rw [← Nat.pow_add, show Lib.bitLen y - 1 + s = 63 by omega] at this
    omega
  have hY2 : y * 2 ^ s < 18446744073709551616 := by
    have : y * 2 ^ s < 2 ^ Lib.bitLen y * 2 ^ s := Nat.mul_lt_mul_of_pos_right hB3 hP
    rw [← Nat.pow_add, show Lib.bitLen y + s = 64 by omega] at this
    omega
  generalize hYe : y * 2 ^ s = Y at *
  have hhi : hi * 2 ^ s < 18446744073709551616 := by
    have : hi * 2 ^ s ≤ y * 2 ^ s := Nat.mul_le_mul_right _ (Nat.le_of_lt hy)
    omega
  have hlo : lo / 2 ^ (64 - s) < 2 ^ s := by
    rw [Nat.div_lt_iff_lt_mul (Nat.two_pow_pos _), Nat.mul_comm, hPP]; exact hL
  -- the dividend
  have hsplit : lo * 2 ^ s = lo / 2 ^ (64 - s) * 18446744073709551616 + lo * 2 ^ s % 18446744073709551616 := by
    have h := Nat.div_add_mod (lo * 2 ^ s) 18446744073709551616
    have e : lo * 2 ^ s / 18446744073709551616 = lo / 2 ^ (64 - s) := by
      rw [← hPP, Nat.mul_div_mul_right _ _ hP]
    rw [e] at h
    omega
  generalize hl : lo * 2 ^ s % 18446744073709551616 = l at *
  have hl2 : l < 18446744073709551616 := by rw [← hl]; exact Nat.mod_lt _ (by omega)
  obtain ⟨u, hu⟩ : ∃ u, u = hi * 2 ^ s + lo / 2 ^ (64 - s) := ⟨_, rfl⟩
  have hN : (hi * 18446744073709551616 + lo) * 2 ^ s = (u * 4294967296 + l / 4294967296) * 4294967296 + l % 4294967296 := by
    rw [Nat.add_mul, hsplit, hu]
    have : hi * 18446744073709551616 * 2 ^ s = hi * 2 ^ s * 18446744073709551616 := by rw [Nat.mul_right_comm]
    omega
  have huY : u < Y := by
    have h2 : (hi * 18446744073709551616 + lo) * 2 ^ s < Y * 18446744073709551616 := by
      have h3 : hi * 18446744073709551616 + lo < y * 18446744073709551616 := by omega
      have h4 := Nat.mul_lt_mul_of_pos_right h3 hP
      rw [Nat.mul_right_comm y, hYe] at h4
      exact h4
    omega
  have hl3 : l / 4294967296 < 4294967296 := by omega
  generalize hd1 : l / 4294967296 = d1 at *
  generalize hd0 : l % 4294967296 = d0 at *
  have hd0' : d0 < 4294967296 := by omega
  generalize ha : Y / 4294967296 = a at *
  generalize hb : Y % 4294967296 = b at *
  have hb' : b < 4294967296 := by omega
  have hYab : a * 4294967296 + b = Y := by omega
  have ha1 : 2147483648 ≤ a := by omega
  have ha2 : a < 4294967296 := by omega
  have hPar : Knuth.Par u d1 a b := ⟨by omega, hl3, ha1, ha2, hb'⟩
  obtain ⟨Q1, u2, Q0, r2, hQ1, hQ0, c1, c2, hu2, hr2, hq, hr⟩ := Knuth.digits hYe (by omega) hN
  rw [hq, hr]
  have hlt := Knuth.dig_lt hPar
  rw [hYab, ← hQ1] at hlt
  have hPar2 : Knuth.Par u2 d0 a b := ⟨by omega, hd0', ha1, ha2, hb'⟩
  have hlt2 := Knuth.dig_lt hPar2
  rw [hYab, ← hQ0] at hlt2
  obtain ⟨qh, rh, g1, g2, f1, m1, hD⟩ := Knuth.start hPar
  obtain ⟨qh2, rh2, g3, g4, f2, m2, hD2⟩ := Knuth.start hPar2
  have w1 := rest_wrap (u := u) (a := a) (by omega)
  have w2 := rest_wrap (u := u2) (a := a) (by omega)
  have v1 := (Int.natCast_ediv u a).symm
  have v2 := (Int.natCast_ediv u2 a).symm
  rw [← g1] at v1 w1
  rw [← g2] at w1
  rw [← g3] at v2 w2
  rw [← g4] at w2
  have s1 := step_rest c1 (by omega)
  have s2 := step_rest c2 (by omega)
  refine div64_high hi lo y s Y a b u l d1 d0 u2 qh rh qh2 rh2 _ _ Q1 Q0 w
    (by omega) (by omega) (by omega) (Lib.hid (by rw [Int.toNat_natCast]; omega)) (by omega)
    ?e1 (by omega) ?e3 ?e4 ?e5 (by omega) ?e7 v1 w1 (Lib.hid hD)
    s1 v2 w2 (Lib.hid hD2) ?e13 ?e14 (Lib.hid hPar) (Lib.hid hPar2) (Lib.hid (by rw [hYab]; exact hQ1)) (Lib.hid (by rw [hYab]; exact hQ0))
    (by omega) (by omega) (Lib.hid hb') (by omega) (by omega) (by omega) (by omega) (by omega) (by omega) (by omega) (by omega) (by omega)
  case e1 => rw [← cast_pow2, ← Int.natCast_mul, hYe]; exact wrap_nat hY2
  case e3 => rw [show (4294967295 : Int) = ((4294967295 : Nat) : Int) from rfl, bits_and_u64_nat _ _ hY2 (by omega), show (4294967295 : Nat) = 2 ^ 32 - 1 from rfl, Nat.and_two_pow_sub_one_eq_mod]; omega
  case e4 =>
    rw [← cast_pow2, ← cast_pow2, ← Int.natCast_mul, wrap_nat hhi, ← Int.natCast_ediv, bits_or_u64_nat _ _ hhi (by omega), hu, Nat.mul_comm hi, Nat.two_pow_add_eq_or_of_lt hlo]
  case e5 => rw [← cast_pow2, ← Int.natCast_mul, IntKind.wrap_u64]; omega
  case e7 => rw [show (4294967295 : Int) = ((4294967295 : Nat) : Int) from rfl, bits_and_u64_nat _ _ hl2 (by omega), show (4294967295 : Nat) = 2 ^ 32 - 1 from rfl, Nat.and_two_pow_sub_one_eq_mod]; omega
  case e13 => rw [IntKind.wrap_u64, IntKind.wrap_u64]; omega
  case e14 => rw [s2, ← cast_pow2, ← Int.natCast_ediv]
end Go.Proofs.Ytbkpoepacjinlaa
