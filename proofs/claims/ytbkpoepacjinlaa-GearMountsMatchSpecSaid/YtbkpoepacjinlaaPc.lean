/- Parts of the reference: the rest of a product. -/
import Derived.Test.YtbkpoepacjinlaaPb
import Derived.Test.YtbkpoepacjinlaaG
namespace Go.Proofs.Ytbkpoepacjinlaa
open Go.RowKit Go.BigFrame

set_option maxHeartbeats 1000000 in
set_option maxRecDepth 100000 in
theorem rest_any (A B D L : Nat) (w : World) (hL : A * B = L) (hA : (A : Int) ≤ 9223372036854775807) (hB : (B : Int) ≤ 9223372036854775807) (hD : (D : Int) ≤ 9223372036854775807) (hD0 : 0 < D) (hl : (L : Int) ≤ 9223372036854775807) :
    Calls Try.prog 159 #[.int .i64 A, .int .i64 B, .int .i64 D] w fun e w' => e = .returned (.int .u64 ((L % D : Nat) : Int)) ∧ ∃ q, w' = w.drewN q := by
  have hlt : L < 18446744073709551616 := by omega
  have hmul := Try.bits_Mul64 A B (by omega) (by omega) w
  rw [hL, Nat.div_eq_of_lt hlt, Nat.mod_eq_of_lt hlt] at hmul
  have hdiv := div64_any 0 L D w hD0 hlt (by omega)
  rw [Nat.zero_mul, Nat.zero_add] at hdiv
  have HM := Lib.hid hmul
  have HD := Lib.hid hdiv
  have HLT := Lib.hid hlt
  have hD1 : 0 < (D : Int) := by omega
  have hLz : (L : Int) % (D : Int) = ((L % D : Nat) : Int) := by simp
  generalize L % D = r at hLz HD
  generalize L / D = qq at HD
  clear hmul hdiv hlt hL hLz
  go_enter Try.func159, Try.ntmps159
  go_wp2_with fail
  refine HM.out.mono ?_
  rintro e w1 ⟨rfl, rfl⟩
  go_wp2_with fail
  refine HD.out.mono ?_
  rintro e w2 ⟨rfl, q, rfl⟩
  go_wp2_with fail
  go_ret
  exact ⟨rfl, q, rfl⟩
end Go.Proofs.Ytbkpoepacjinlaa
