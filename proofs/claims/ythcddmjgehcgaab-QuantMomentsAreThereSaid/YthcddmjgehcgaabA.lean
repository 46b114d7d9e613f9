/- Contracts of small functions of rounding: outside, size, more, ways and its functions, IndexFunc over the ways, Compare. -/
import Derived.Test.YthcddmjgehcgaabProg
import Derived.WalkKit
import Derived.WalkSpells
import Derived.WalkLawsBesides
import Derived.Lib.Hide
namespace Go.Proofs.Ythcddmjgehcgaab
open Go.RowKit

theorem ret_int {k : IntKind} {a b : Int} (h : a = b) : Ending.returned (.int k a) = .returned (.int k b) := by rw [h]
theorem ret_bool {a b : Bool} (h : a = b) : Ending.returned (.bool a) = .returned (.bool b) := by rw [h]

def cmpF (a b : Int) : Int := if a < b then -1 else if b < a then 1 else 0

theorem compare_any (a b : Int) (w : World) :
    Calls Try.prog 26 #[.int .u64 a, .int .u64 b] w fun e w' => e = .returned (.int .i64 (cmpF a b)) ∧ w = w' := by
  go_enter Try.func26, Try.ntmps26
  go_wp2
  all_goals go_ret
  all_goals refine ⟨ret_int ?_, rfl⟩
  all_goals (unfold cmpF; split <;> (try split) <;> first | rfl | (exfalso; omega))

/-! ### the functions of the table -/
theorem way1 (b : Bool) (q h : Int) (w : World) : Calls Try.prog 36 #[.bool b, .int .u64 q, .int .i64 h] w fun e w' => e = .returned (.bool b) ∧ w = w' := by
  go_enter Try.func36, Try.ntmps36
  go_wp2
  go_ret
  exact ⟨rfl, rfl⟩
theorem way2 (b : Bool) (q h : Int) (w : World) : Calls Try.prog 37 #[.bool b, .int .u64 q, .int .i64 h] w fun e w' => e = .returned (.bool (!b)) ∧ w = w' := by
  go_enter Try.func37, Try.ntmps37
  go_wp2
  go_ret
  exact ⟨rfl, rfl⟩
theorem way3 (b : Bool) (q h : Int) (w : World) : Calls Try.prog 38 #[.bool b, .int .u64 q, .int .i64 h] w fun e w' => e = .returned (.bool false) ∧ w = w' := by
  go_enter Try.func38, Try.ntmps38
  go_wp2
  go_ret
  exact ⟨rfl, rfl⟩
theorem way4 (b : Bool) (q h : Int) (w : World) : Calls Try.prog 39 #[.bool b, .int .u64 q, .int .i64 h] w fun e w' => e = .returned (.bool (decide (0 < h) || (h == 0 && !b))) ∧ w = w' := by
  by_cases h1 : 0 < h
  · go_enter Try.func39, Try.ntmps39
    go_wp2
    go_ret
    exact ⟨by simp [h1], rfl⟩
  · have h2 : decide (0 < h) = false := by simpa using h1
    cases h3 : (h == 0)
    all_goals
      go_enter Try.func39, Try.ntmps39
      go_wp2
      go_ret
      exact ⟨by simp, rfl⟩
theorem way5 (b : Bool) (q h : Int) (w : World) (hq : 0 ≤ q) : Calls Try.prog 40 #[.bool b, .int .u64 q, .int .i64 h] w fun e w' => e = .returned (.bool (decide (0 < h) || (h == 0 && (q % 2 == 1)))) ∧ w = w' := by
  by_cases h1 : 0 < h
  · go_enter Try.func40, Try.ntmps40
    go_wp2
    go_ret
    exact ⟨by simp [h1], rfl⟩
  · have h2 : decide (0 < h) = false := by simpa using h1
    cases h3 : (h == 0)
    all_goals
      go_enter Try.func40, Try.ntmps40
      go_wp2
      go_ret
      exact ⟨by simp, rfl⟩

def fnv (k : Nat) : Value := .func (.func k) #[] #[]
/-- the row of the table in memory -/
def wayRow : Array Value := #[.int .i64 1, fnv 36, .int .i64 2, fnv 37, .int .i64 3, fnv 38, .int .i64 4, fnv 39, .int .i64 5, fnv 40]
theorem ways_any (w : World) : Calls Try.prog 21 #[] w fun e w' => e = .returned (.slice (some ⟨w.heap.size, 0, none⟩) 5 5) ∧ w' = w.alloc (.cells wayRow 54) := by
  go_enter Try.func21, Try.ntmps21
  go_wp2
  go_ret
  exact ⟨rfl, rfl⟩

/-- the closure that looks for a way -/
theorem has_any (k h : Int) (f : Value) (a : Addr) (w : World) (ha : w.cell? a = some (.int .i64 h)) (hb : a.block < w.heap.size) :
    Calls Try.prog 23 #[.agg #[.int .i64 k, f], .pointer (some a)] w fun e w' => e = .returned (.bool (k == h)) ∧ Below w.heap.size w w' := by
  go_enter Try.func23, Try.ntmps23
  go_wp2
  go_ret
  exact ⟨rfl, (Below.refl _ _).alloc (Nat.le_refl _) _⟩
/-- what 'more' returns -/
def moreF (q r d : Int) (m : Bool) (how : Int) : Bool :=
  if r = 0 then false else if how = 1 then m else if how = 2 then !m else if how = 3 then false else if r ≠ d - r then decide (d - r < r) else if how = 4 then !m else q % 2 == 1
end Go.Proofs.Ythcddmjgehcgaab
