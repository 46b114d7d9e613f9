/- The greatest number whose square is not above another one. -/
namespace Root
def isq : Nat → Nat
  | 0 => 0
  | n + 1 => if (isq n + 1) * (isq n + 1) ≤ n + 1 then isq n + 1 else isq n
theorem isq_spec (n : Nat) : isq n * isq n ≤ n ∧ n < (isq n + 1) * (isq n + 1) := by
  induction n with
  | zero => simp [isq]
  | succ n ih =>
    unfold isq
    split
    · rename_i h
      refine ⟨h, ?_⟩
      have : (isq n + 1 + 1) * (isq n + 1 + 1) = (isq n + 1) * (isq n + 1) + 2 * (isq n + 1) + 1 := by
        rw [Nat.mul_add, Nat.add_mul (isq n + 1) 1]; omega
      omega
    · omega
theorem sq_lt {a b : Nat} (h : a * a < b * b) : a < b := by
  rcases Nat.lt_or_ge a b with h1 | h1
  · exact h1
  · have := Nat.mul_le_mul h1 h1; omega
theorem unique {n r : Nat} (h1 : r * r ≤ n) (h2 : n < (r + 1) * (r + 1)) : isq n = r := by
  have ⟨a, b⟩ := isq_spec n
  have c : r < isq n + 1 := sq_lt (by omega)
  have d : isq n < r + 1 := sq_lt (by omega)
  omega
theorem isq_le {n : Nat} (h : n ≤ 9223372036854775807) : isq n ≤ 3037000499 := by
  have ⟨a, _⟩ := isq_spec n
  have : isq n < 3037000500 := sq_lt (by omega)
  omega
theorem sq_le {a b : Nat} : a * a ≤ b * b ↔ a ≤ b := by
  constructor
  · intro h
    rcases Nat.lt_or_ge b a with h1 | h1
    · have := Nat.mul_lt_mul_of_lt_of_le h1 (Nat.le_of_lt h1) (by omega); omega
    · exact h1
  · exact fun h => Nat.mul_le_mul h h
/-- one step of the search by bits -/
theorem bit_step {n r b : Nat} (_h1 : r * r ≤ n) (h2 : n < (r + 2 * b) * (r + 2 * b)) :
    ((r + b) * (r + b) ≤ n → n < ((r + b) + b) * ((r + b) + b)) := by
  intro _; rw [show r + b + b = r + 2 * b by omega]; exact h2
theorem le_div {t n : Nat} (h : 0 < t) : t ≤ n / t ↔ t * t ≤ n := Nat.le_div_iff_mul_le h
end Root
