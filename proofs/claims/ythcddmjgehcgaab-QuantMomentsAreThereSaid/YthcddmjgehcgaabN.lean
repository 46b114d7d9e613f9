/- Days and weeks: the program. -/
import Derived.Test.YthcddmjgehcgaabL1
import Derived.Test.YthcddmjgehcgaabCal
namespace Go.Proofs.Ythcddmjgehcgaab
open Go.RowKit Go.BigFrame

def dayB (n : Int) : Bool := decide (0 ≤ n) && decide (n ≤ 999999)
theorem isDay_any (n : Int) (w : World) : Calls Try.prog 14 #[.int .i64 n] w fun e w' => e = .returned (.bool (dayB n)) ∧ w = w' := by
  cases h : decide (0 ≤ n)
  all_goals
    go_enter Try.func14, Try.ntmps14
    go_wp2
    go_ret
    exact ⟨ret_bool (by simp [dayB, h]), rfl⟩

def okDay (n : Int) (e : Int) : Ending := .returned (.tuple #[.int .i64 n, .int .i64 e])
def weekdayF (day : Int) : Int × Int := if dayB day = true then (day % 7, 0) else (0, 9)
theorem dayB_true {n : Int} (h : dayB n = true) : 0 ≤ n ∧ n ≤ 999999 := by unfold dayB at h; simpa using h
def tri (p : Int × Int × Int) : Ending := .returned (.tuple #[.int .i64 p.1, .int .i64 p.2.1, .int .i64 p.2.2])
def thu (day : Int) : Int := day - day % 7 + 3
def weekF (day : Int) : Int × Int × Int := if dayB day = true then (Cal.yearOf (thu day), (thu day - Cal.dn (Cal.yearOf (thu day))) / 7 + 1, 0) else (0, 0, 9)
theorem dn_two : Cal.dn 2000 = -2 ∧ Cal.dn 4740 = 1000762 := by decide
theorem year_range {t : Int} (h0 : 0 ≤ t) (h1 : t ≤ 1000010) : 2000 ≤ Cal.yearOf t ∧ Cal.yearOf t ≤ 4740 := by
  have ⟨a, b⟩ := Cal.yr_spec t
  rw [Cal.yearOf_yr]
  have ⟨d1, d2⟩ := dn_two
  have c1 : 2000 ≤ Cal.yr t := Cal.dn_lt (by omega)
  have c2 : Cal.yr t ≤ 4740 := Cal.dn_lt (by have := Cal.dn_mono1 4740; omega)
  exact ⟨c1, c2⟩
end Go.Proofs.Ythcddmjgehcgaab
