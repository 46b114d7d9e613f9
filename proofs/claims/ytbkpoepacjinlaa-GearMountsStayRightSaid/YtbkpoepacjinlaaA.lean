/- Contracts of small functions of rounding: outside, size, more, ways and its functions, IndexFunc over the ways, Compare. -/
import Derived.Test.YtbkpoepacjinlaaProg
import Derived.WalkKit
import Derived.WalkSpells
import Derived.WalkLawsBesides
import Derived.Lib.Hide
namespace Go.Proofs.Ytbkpoepacjinlaa
open Go.RowKit

theorem ret_int {k : IntKind} {a b : Int} (h : a = b) : Ending.returned (.int k a) = .returned (.int k b) := by rw [h]
theorem ret_bool {a b : Bool} (h : a = b) : Ending.returned (.bool a) = .returned (.bool b) := by rw [h]

theorem outside_any (n lo hi : Int) (w : World) :
    Calls Try.prog 123 #[.int .i64 n, .int .i64 lo, .int .i64 hi] w fun e w' => e = .returned (.bool (decide (n < lo) || decide (hi < n))) ∧ w = w' := by
  by_cases h1 : n < lo
  · go_enter Try.func123, Try.ntmps123
    go_wp2
    go_ret
    exact ⟨by simp [h1], rfl⟩
  · have h2 : decide (n < lo) = false := by simpa using h1
    go_enter Try.func123, Try.ntmps123
    go_wp2
    go_ret
    exact ⟨by simp, rfl⟩

theorem size_any (a : Int) (w : World) (h1 : -9223372036854775808 ≤ a) (h2 : a ≤ 9223372036854775807) :
    Calls Try.prog 124 #[.int .i64 a] w fun e w' => e = .returned (.int .u64 a.natAbs) ∧ w = w' := by
  go_enter Try.func124, Try.ntmps124
  go_wp2
  all_goals go_ret
  all_goals refine ⟨ret_int ?_, rfl⟩
  · simp only [IntKind.wrap_u64]; omega
  · show a = _; omega

def cmpF (a b : Int) : Int := if a < b then -1 else if b < a then 1 else 0

theorem compare_any (a b : Int) (w : World) :
    Calls Try.prog 122 #[.int .u64 a, .int .u64 b] w fun e w' => e = .returned (.int .i64 (cmpF a b)) ∧ w = w' := by
  go_enter Try.func122, Try.ntmps122
  go_wp2
  all_goals go_ret
  all_goals refine ⟨ret_int ?_, rfl⟩
  all_goals (unfold cmpF; split <;> (try split) <;> first | rfl | (exfalso; omega))

/-! ### the functions of the table -/
theorem way1 (b : Bool) (q h : Int) (w : World) : Calls Try.prog 144 #[.bool b, .int .u64 q, .int .i64 h] w fun e w' => e = .returned (.bool b) ∧ w = w' := by
  go_enter Try.func144, Try.ntmps144
  go_wp2
  go_ret
  exact ⟨rfl, rfl⟩
theorem way2 (b : Bool) (q h : Int) (w : World) : Calls Try.prog 145 #[.bool b, .int .u64 q, .int .i64 h] w fun e w' => e = .returned (.bool (!b)) ∧ w = w' := by
  go_enter Try.func145, Try.ntmps145
  go_wp2
  go_ret
  exact ⟨rfl, rfl⟩
theorem way3 (b : Bool) (q h : Int) (w : World) : Calls Try.prog 146 #[.bool b, .int .u64 q, .int .i64 h] w fun e w' => e = .returned (.bool false) ∧ w = w' := by
  go_enter Try.func146, Try.ntmps146
  go_wp2
  go_ret
  exact ⟨rfl, rfl⟩
theorem way4 (b : Bool) (q h : Int) (w : World) : Calls Try.prog 147 #[.bool b, .int .u64 q, .int .i64 h] w fun e w' => e = .returned (.bool (decide (0 < h) || (h == 0 && !b))) ∧ w = w' := by
  by_cases h1 : 0 < h
  · go_enter Try.func147, Try.ntmps147
    go_wp2
    go_ret
    exact ⟨by simp [h1], rfl⟩
  · have h2 : decide (0 < h) = false := by simpa using h1
    cases h3 : (h == 0)
    all_goals
      go_enter Try.func147, Try.ntmps147
      go_wp2
      go_ret
      exact ⟨by simp, rfl⟩
theorem way5 (b : Bool) (q h : Int) (w : World) (hq : 0 ≤ q) : Calls Try.prog 148 #[.bool b, .int .u64 q, .int .i64 h] w fun e w' => e = .returned (.bool (decide (0 < h) || (h == 0 && (q % 2 == 1)))) ∧ w = w' := by
  by_cases h1 : 0 < h
  · go_enter Try.func148, Try.ntmps148
    go_wp2
    go_ret
    exact ⟨by simp [h1], rfl⟩
  · have h2 : decide (0 < h) = false := by simpa using h1
    cases h3 : (h == 0)
    all_goals
      go_enter Try.func148, Try.ntmps148
      go_wp2
      go_ret
      exact ⟨by simp, rfl⟩

def fnv (k : Nat) : Value := .func (.func k) #[] #[]
/-- the row of the table in memory -/
def wayRow : Array Value := #[.int .i64 1, fnv 144, .int .i64 2, fnv 145, .int .i64 3, fnv 146, .int .i64 4, fnv 147, .int .i64 5, fnv 148]
theorem ways_any (w : World) : Calls Try.prog 117 #[] w fun e w' => e = .returned (.slice (some ⟨w.heap.size, 0, none⟩) 5 5) ∧ w' = w.alloc (.cells wayRow 151) := by
  go_enter Try.func117, Try.ntmps117
  go_wp2
  go_ret
  exact ⟨rfl, rfl⟩

/-- the closure that looks for a way -/
theorem has_any (k h : Int) (f : Value) (a : Addr) (w : World) (ha : w.cell? a = some (.int .i64 h)) (hb : a.block < w.heap.size) :
    Calls Try.prog 119 #[.agg #[.int .i64 k, f], .pointer (some a)] w fun e w' => e = .returned (.bool (k == h)) ∧ Below w.heap.size w w' := by
  go_enter Try.func119, Try.ntmps119
  go_wp2
  go_ret
  exact ⟨rfl, (Below.refl _ _).alloc (Nat.le_refl _) _⟩
/-- what 'more' returns -/
def moreF (q r d : Int) (m : Bool) (how : Int) : Bool :=
  if r = 0 then false else if how = 1 then m else if how = 2 then !m else if how = 3 then false else if r ≠ d - r then decide (d - r < r) else if how = 4 then !m else q % 2 == 1
set_option maxRecDepth 4000 in
theorem more_any (q r d : Int) (m : Bool) (how : Int) (w : World) (hq : 0 ≤ q) (hr : 0 ≤ r) (hd : r ≤ d) (hD : d ≤ 18446744073709551615) :
    Calls Try.prog 125 #[.int .u64 q, .int .u64 r, .int .u64 d, .bool m, .int .i64 how] w fun e w' => e = .returned (.bool (moreF q r d m how)) ∧ w = w' := by
  have hwr : IntKind.u64.wrap (d - r) = d - r := by rw [IntKind.wrap_u64]; omega
  unfold moreF
  by_cases h0 : r = 0
  · subst h0
    rw [if_pos rfl]
    clear hwr
    go_enter Try.func125, Try.ntmps125
    go_wp2
    go_ret
    exact ⟨rfl, rfl⟩
  · have b0 : (r == 0) = false := by simpa using h0
    rw [if_neg h0]
    by_cases h1 : how = 1
    · subst h1
      rw [if_pos rfl]
      go_enter Try.func125, Try.ntmps125
      go_wp2
      go_ret
      exact ⟨rfl, rfl⟩
    by_cases h2 : how = 2
    · subst h2
      rw [if_neg h1, if_pos rfl]
      go_enter Try.func125, Try.ntmps125
      go_wp2
      go_ret
      exact ⟨rfl, rfl⟩
    by_cases h3 : how = 3
    · subst h3
      rw [if_neg h1, if_neg h2, if_pos rfl]
      go_enter Try.func125, Try.ntmps125
      go_wp2
      go_ret
      exact ⟨rfl, rfl⟩
    have b1 : (how == 1) = false := by simpa using h1
    have b2 : (how == 2) = false := by simpa using h2
    have b3 : (how == 3) = false := by simpa using h3
    rw [if_neg h1, if_neg h2, if_neg h3]
    by_cases h4 : r = d - r
    · have b4 : (r != d - r) = false := by rw [bne_eq_false_iff_eq]; exact h4
      rw [if_neg (by simpa using h4)]
      clear h4 h1 h2 h3 h0
      by_cases h5 : how = 4
      · subst h5
        rw [if_pos rfl]
        go_enter Try.func125, Try.ntmps125
        go_wp2
        go_ret
        exact ⟨rfl, rfl⟩
      · have b5 : (how == 4) = false := by simpa using h5
        rw [if_neg h5]
        clear h5
        go_enter Try.func125, Try.ntmps125
        go_wp2
        go_ret
        exact ⟨rfl, rfl⟩
    · have b4 : (r != d - r) = true := by rw [bne_iff_ne]; exact h4
      rw [if_pos (by simpa using h4)]
      clear h4 h1 h2 h3 h0
      go_enter Try.func125, Try.ntmps125
      go_wp2
      go_ret
      exact ⟨rfl, rfl⟩
end Go.Proofs.Ytbkpoepacjinlaa
