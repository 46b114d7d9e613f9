/- Gear: contracts of small functions of the program and of the reference. -/
import Derived.Test.YtbkpoepacjinlaaNm
import Derived.Test.YtbkpoepacjinlaaShelf
import Derived.BigFrame
import Derived.Below
import Derived.Deep.QuietTactic
import Derived.BigQuiet
import Derived.Deep.RegionHeld3
namespace Go.Proofs.Ytbkpoepacjinlaa
open Go.RowKit Go.BigFrame
open Gar (momG endG)

def mountV (s p : ByteArray) (f t : Int) : Value := .agg #[.string s, .string p, .int .i64 f, .int .i64 t]
def useV (n r : ByteArray) (f s x : Int) : Value := .agg #[.string n, .string r, .int .i64 f, .int .i64 s, .int .i64 x]
def inB (n lo hi : Int) : Bool := decide (lo ≤ n) && decide (n ≤ hi)
theorem gin_any (n lo hi : Int) (w : World) : Calls Try.prog 50 #[.int .i64 n, .int .i64 lo, .int .i64 hi] w fun e w' => e = .returned (.bool (inB n lo hi)) ∧ w = w' := by
  cases h : decide (lo ≤ n)
  all_goals
    go_enter Try.func50, Try.ntmps50
    go_wp2
    go_ret
    exact ⟨ret_bool (by simp [inB, h]), rfl⟩
theorem gmoment_any (n : Int) (w : World) : Calls Try.prog 44 #[.int .i64 n] w fun e w' => e = .returned (.bool (momG n)) ∧ w = w' := by
  have h := Lib.hid (gin_any n 0 86399999999)
  rw [show inB n 0 86399999999 = momG n from rfl] at h
  go_enter Try.func44, Try.ntmps44
  go_wp2_with fail
  refine (h.out _).mono ?_
  rintro e w1 ⟨rfl, rfl⟩
  go_wp2_with fail
  go_ret
  exact ⟨rfl, rfl⟩
theorem rout_any (n lo hi : Int) (w : World) : Calls Try.prog 101 #[.int .i64 n, .int .i64 lo, .int .i64 hi] w fun e w' => e = .returned (.bool (!inB n lo hi)) ∧ w = w' := by
  cases h : decide (n < lo)
  all_goals
    go_enter Try.func101, Try.ntmps101
    go_wp2
    go_ret
    refine ⟨ret_bool ?_, rfl⟩
    unfold inB
    simp at h ⊢
    first
      | omega
      | (rw [Bool.eq_iff_iff]; simp; omega)
theorem rmoment_any (n : Int) (w : World) : Calls Try.prog 47 #[.int .i64 n] w fun e w' => e = .returned (.bool (momG n)) ∧ w = w' := by
  have h := Lib.hid (rout_any n 0 86399999999)
  rw [show inB n 0 86399999999 = momG n from rfl] at h
  go_enter Try.func47, Try.ntmps47
  go_wp2_with fail
  refine (h.out _).mono ?_
  rintro e w1 ⟨rfl, rfl⟩
  go_wp2_with fail
  go_ret
  exact ⟨ret_bool (by simp), rfl⟩
theorem gend_any (s p : ByteArray) (f t : Int) (w : World) : Calls Try.prog 103 #[mountV s p f t] w fun e w' => e = .returned (.int .i64 (endG t)) ∧ Below w.heap.size w w' := by
  unfold mountV endG
  by_cases h : t < 0
  · rw [if_pos h]
    have t1 : decide (t < 0) = true := by simpa using h
    clear h
    go_enter Try.func103, Try.ntmps103
    go_wp2
    go_ret
    exact ⟨rfl, (Below.refl _ _).alloc (Nat.le_refl _) _⟩
  · rw [if_neg h]
    have t1 : decide (t < 0) = false := by simpa using h
    clear h
    go_enter Try.func103, Try.ntmps103
    go_wp2
    go_ret
    exact ⟨rfl, (Below.refl _ _).alloc (Nat.le_refl _) _⟩
theorem rend_any (s p : ByteArray) (f t : Int) (w : World) : Calls Try.prog 107 #[mountV s p f t] w fun e w' => e = .returned (.int .i64 (endG t)) ∧ Below w.heap.size w w' := by
  unfold mountV endG
  by_cases h : t < 0
  · rw [if_pos h]
    have t1 : decide (t < 0) = true := by simpa using h
    clear h
    go_enter Try.func107, Try.ntmps107
    go_wp2
    go_ret
    exact ⟨rfl, (Below.refl _ _).alloc (Nat.le_refl _) _⟩
  · rw [if_neg h]
    have t1 : decide (t < 0) = false := by simpa using h
    clear h
    go_enter Try.func107, Try.ntmps107
    go_wp2
    go_ret
    exact ⟨rfl, (Below.refl _ _).alloc (Nat.le_refl _) _⟩
/-- a mount has a moment -/
def isG (f t a : Int) : Bool := decide (f ≤ a) && decide (a < endG t)
theorem is_any (s p : ByteArray) (f t a : Int) (w : World) : Calls Try.prog 100 #[mountV s p f t, .int .i64 a] w fun e w' => e = .returned (.bool (isG f t a)) ∧ Below w.heap.size w w' := by
  have he := Lib.hid (fun W => gend_any s p f t W)
  unfold mountV at he ⊢
  unfold isG
  cases h : decide (f ≤ a)
  · go_enter Try.func100, Try.ntmps100
    go_wp2_with fail
    go_ret
    exact ⟨rfl, (Below.refl _ _).alloc (Nat.le_refl _) _⟩
  · generalize endG t = en at he ⊢
    go_enter Try.func100, Try.ntmps100
    go_wp2_with fail
    refine (he.out _).mono ?_
    rintro e w1 ⟨rfl, hb⟩
    have HB := Lib.hid (((Below.refl w.heap.size w).alloc (Nat.le_refl _) (.cells #[.string s, .string p, .int .i64 f, .int .i64 t] 54)).trans (hb.mono (by simp)))
    clear hb
    cases h2 : decide (a < en)
    all_goals
      go_wp2_with fail
      go_ret
      exact ⟨ret_bool (by simpa using h2), HB.out⟩
theorem covers_any (s p : ByteArray) (f t a : Int) (w : World) : Calls Try.prog 94 #[mountV s p f t, .int .i64 a] w fun e w' => e = .returned (.bool (isG f t a)) ∧ Below w.heap.size w w' := by
  have he := Lib.hid (fun W => rend_any s p f t W)
  unfold mountV at he ⊢
  unfold isG
  cases h : decide (f ≤ a)
  · go_enter Try.func94, Try.ntmps94
    go_wp2_with fail
    go_ret
    exact ⟨rfl, (Below.refl _ _).alloc (Nat.le_refl _) _⟩
  · generalize endG t = en at he ⊢
    go_enter Try.func94, Try.ntmps94
    go_wp2_with fail
    refine (he.out _).mono ?_
    rintro e w1 ⟨rfl, hb⟩
    have HB := Lib.hid (((Below.refl w.heap.size w).alloc (Nat.le_refl _) (.cells #[.string s, .string p, .int .i64 f, .int .i64 t] 54)).trans (hb.mono (by simp)))
    clear hb
    cases h2 : decide (a < en)
    all_goals
      go_wp2_with fail
      go_ret
      exact ⟨ret_bool (by simpa using h2), HB.out⟩
end Go.Proofs.Ytbkpoepacjinlaa
