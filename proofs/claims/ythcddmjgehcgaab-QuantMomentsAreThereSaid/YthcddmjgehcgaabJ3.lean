/- Zones: CheckZone and Offset of the reference. -/
import Derived.Test.YthcddmjgehcgaabJ2
namespace Go.Proofs.Ythcddmjgehcgaab
open Go.RowKit Go.BigFrame

theorem notMom (n : Int) : (decide (n < 0) || decide (86399999999 < n)) = !momB n := by
  unfold momB
  rw [Bool.eq_iff_iff]
  simp only [Bool.or_eq_true, decide_eq_true_eq, Bool.not_eq_true', Bool.and_eq_false_iff, decide_eq_false_iff_not]
  omega

end Go.Proofs.Ythcddmjgehcgaab
