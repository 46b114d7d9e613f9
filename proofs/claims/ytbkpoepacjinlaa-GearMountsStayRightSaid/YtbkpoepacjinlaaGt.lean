/- Gear: '<=' of two strings is the contrary of '<' of the two exchanged. -/
import Derived.Test.YtbkpoepacjinlaaGb
namespace Go.Proofs.Ytbkpoepacjinlaa
theorem bl_total : ∀ a b : List UInt8, (Op.bytesLess a b || a == b) = !Op.bytesLess b a
  | [], [] => by decide
  | [], _ :: _ => by simp [Op.bytesLess]
  | _ :: _, [] => by simp [Op.bytesLess]
  | a :: xs, b :: ys => by
    have ih := bl_total xs ys
    unfold Op.bytesLess
    by_cases h1 : a < b
    · have h2 : ¬ b < a := fun h => absurd (UInt8.lt_trans h1 h) (by simp)
      have h3 : b ≠ a := by rintro rfl; exact absurd h1 (by simp)
      simp [h1, h2, h3]
    · by_cases h2 : b < a
      · have h3 : a ≠ b := by rintro rfl; exact absurd h2 (by simp)
        simp [h1, h2, h3]
      · have h3 : a = b := UInt8.le_antisymm (UInt8.not_lt.1 h2) (UInt8.not_lt.1 h1)
        subst h3
        simpa using ih
theorem str_le (a b : ByteArray) : (Op.bytesLess a.toList b.toList || a.toList == b.toList) = !strLt b a := bl_total _ _
end Go.Proofs.Ytbkpoepacjinlaa
