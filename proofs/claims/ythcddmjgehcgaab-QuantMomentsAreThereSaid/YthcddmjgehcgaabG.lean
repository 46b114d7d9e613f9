/- Scale and Div of the reference return 'Sc.sc'. -/
import Derived.Test.YthcddmjgehcgaabF
namespace Go.Proofs.Ythcddmjgehcgaab
open Go.RowKit Go.BigFrame

theorem moreF_away {how : Int} (h1 : 1 ≤ how) (h5 : how ≤ 5) (b : Bool) (q r d : Nat) : moreF q r d b how = decide (0 < r ∧ Sc.away how b q r d = true) := by
  have e3 : ((q : Int) % 2 = 1) ↔ q % 2 = 1 := by omega
  have e5 : ((q : Int) % 2 == 1) = decide (q % 2 = 1) := by rw [Bool.eq_iff_iff, beq_iff_eq, decide_eq_true_eq]; exact e3
  unfold moreF
  by_cases h0 : r = 0
  · subst h0; simp
  rw [if_neg (by omega)]
  have hr : 0 < r := by omega
  unfold Sc.away
  by_cases a1 : how = 1
  · subst a1; cases b <;> simp [hr]
  by_cases a2 : how = 2
  · subst a2; cases b <;> simp [hr]
  by_cases a3 : how = 3
  · subst a3; simp
  simp only [a1, a2, a3, if_false]
  by_cases h6 : (r : Int) = d - r
  · rw [if_neg (by omega)]
    have h7 : 2 * r = d := by omega
    simp only [h7, hr, true_and, decide_true, Bool.true_and, e5]
    by_cases a4 : how = 4
    · subst a4; cases b <;> simp
    · simp [a4]
  · rw [if_pos h6]
    have h7 : ¬ 2 * r = d := by omega
    simp only [h7, hr, true_and, decide_false, Bool.false_and, Bool.or_false]
    have h8 : ((d : Int) - r < r) ↔ d < 2 * r := by omega
    by_cases a4 : how = 4
    · subst a4; simp [h8]
    · simp [a4, h8]

end Go.Proofs.Ythcddmjgehcgaab
