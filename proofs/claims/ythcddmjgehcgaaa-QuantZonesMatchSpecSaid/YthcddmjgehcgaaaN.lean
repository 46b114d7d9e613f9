/- Days and weeks: the program. -/
import Derived.Test.YthcddmjgehcgaaaL1
import Derived.Test.YthcddmjgehcgaaaCal
namespace Go.Proofs.Ythcddmjgehcgaaa
open Go.RowKit Go.BigFrame

def dayB (n : Int) : Bool := decide (0 ≤ n) && decide (n ≤ 999999)
theorem isDay_any (n : Int) (w : World) : Calls Try.prog 43 #[.int .i64 n] w fun e w' => e = .returned (.bool (dayB n)) ∧ w = w' := by
  cases h : decide (0 ≤ n)
  all_goals
    go_enter Try.func43, Try.ntmps43
    go_wp2
    go_ret
    exact ⟨ret_bool (by simp [dayB, h]), rfl⟩

set_option maxHeartbeats 1000000 in
set_option maxRecDepth 100000 in
theorem dateOf_walk (day era n o k m : Int) (w : World) (h1 : -700000 ≤ day) (h2 : day ≤ 100000000) (e1 : (day + 730427) / 146097 = era) (e2 : (day + 730427) % 146097 = n) (e3 : (n - n / 1460 + n / 36524 - n / 146096) / 365 = o)
    (e4 : n - (365 * o + o / 4 - o / 100) = k) (e5 : (5 * k + 2) / 153 = m) (_n0 : 0 ≤ n) (_n1 : n ≤ 146096) (o0 : 0 ≤ o) (o1 : o ≤ 399) (k0 : 0 ≤ k) (k1 : k ≤ 365) (m0 : 0 ≤ m) (m1 : m ≤ 11) (r0 : 0 ≤ era) (r1 : era ≤ 1000) :
    Calls Try.prog 44 #[.int .i64 day] w fun e w' =>
      e = .returned (.tuple #[.int .i64 (if 12 < m + 3 then era * 400 + o + 1 else era * 400 + o), .int .i64 (if 12 < m + 3 then m + 3 - 12 else m + 3), .int .i64 (k - (153 * m + 2) / 5 + 1)]) ∧ w = w' := by
  by_cases h : 12 < m + 3
  · have c : decide (12 < m + 3) = true := by simpa using h
    rw [if_pos h, if_pos h]
    clear h
    go_enter Try.func44, Try.ntmps44
    go_wp2
    go_ret3
    exact ⟨rfl, rfl⟩
  · have c : decide (12 < m + 3) = false := by simpa using h
    rw [if_neg h, if_neg h]
    clear h
    go_enter Try.func44, Try.ntmps44
    go_wp2
    go_ret3
    exact ⟨rfl, rfl⟩
theorem dateOf_any (day : Int) (w : World) (h1 : -700000 ≤ day) (h2 : day ≤ 100000000) :
    Calls Try.prog 44 #[.int .i64 day] w fun e w' => e = .returned (.tuple #[.int .i64 (Cal.yearOf day), .int .i64 (Cal.monthOf day), .int .i64 (Cal.dateOf day)]) ∧ w = w' := by
  obtain ⟨b1, b2, b3, b4, b5, b6, b7, b8⟩ := Cal.bounds day
  exact dateOf_walk day (Cal.eraOf day) (Cal.inEra day) (Cal.yoeOf day) (Cal.doyOf day) (Cal.mpOf day) w h1 h2 rfl rfl rfl rfl rfl b1 (by omega) b3 (by omega) b5 b6 b7 b8 (by unfold Cal.eraOf; omega) (by unfold Cal.eraOf; omega)

set_option maxHeartbeats 1000000 in
set_option maxRecDepth 100000 in
theorem dayNumber_walk (y m d y' e f g : Int) (w : World) (h0 : 1 ≤ y) (h1 : y ≤ 100000) (m0 : 1 ≤ m) (m1 : m ≤ 12) (d0 : 1 ≤ d) (d1 : d ≤ 31) (hy : Hid (y' = if m < 3 then y - 1 else y)) (y0 : 0 ≤ y') (y1 : y' ≤ 100000)
    (e1 : y' / 400 = e) (e2 : y' % 400 = f) (e3 : (153 * ((m + 9) % 12) + 2) / 5 = g) (e0 : 0 ≤ e) (e10 : e ≤ 1000) (_f0 : 0 ≤ f) (_f1 : f ≤ 399) (g0 : 0 ≤ g) (g1 : g ≤ 400) :
    Calls Try.prog 45 #[.int .i64 y, .int .i64 m, .int .i64 d] w fun r w' =>
      r = .returned (.int .i64 (e * 146097 + f * 365 + f / 4 - f / 100 + g + d - 1 - 730427)) ∧ w = w' := by
  by_cases h : m < 3
  · have hy' := hy.out
    rw [if_pos h] at hy'
    have ey : y - 1 = y' := hy'.symm
    have c : decide (m < 3) = true := by simpa using h
    clear h hy hy'
    go_enter Try.func45, Try.ntmps45
    go_wp2
    go_ret
    exact ⟨rfl, rfl⟩
  · have hy' := hy.out
    rw [if_neg h] at hy'
    subst hy'
    have c : decide (m < 3) = false := by simpa using h
    clear h hy
    go_enter Try.func45, Try.ntmps45
    go_wp2
    go_ret
    exact ⟨rfl, rfl⟩
theorem dayNumber_any (y m d : Int) (w : World) (h0 : 1 ≤ y) (h1 : y ≤ 100000) (m0 : 1 ≤ m) (m1 : m ≤ 12) (d0 : 1 ≤ d) (d1 : d ≤ 31) :
    Calls Try.prog 45 #[.int .i64 y, .int .i64 m, .int .i64 d] w fun r w' => r = .returned (.int .i64 (Cal.dayNum y m d)) ∧ w = w' := by
  have hy : 0 ≤ (if m < 3 then y - 1 else y) ∧ (if m < 3 then y - 1 else y) ≤ 100000 := by split <;> omega
  obtain ⟨y', hy'⟩ : ∃ z, z = if m < 3 then y - 1 else y := ⟨_, rfl⟩
  rw [← hy'] at hy
  have := dayNumber_walk y m d y' (y' / 400) (y' % 400) ((153 * ((m + 9) % 12) + 2) / 5) w h0 h1 m0 m1 d0 d1 (Lib.hid hy') hy.1 hy.2 rfl rfl rfl (by omega) (by omega) (by omega) (by omega) (by omega) (by omega)
  unfold Cal.dayNum
  simp only [← hy']
  exact this

def okDay (n : Int) (e : Int) : Ending := .returned (.tuple #[.int .i64 n, .int .i64 e])
def weekdayF (day : Int) : Int × Int := if dayB day = true then (day % 7, 0) else (0, 9)
theorem dayB_true {n : Int} (h : dayB n = true) : 0 ≤ n ∧ n ≤ 999999 := by unfold dayB at h; simpa using h
theorem weekday_any (n : Int) (w : World) : Calls Try.prog 16 #[.int .i64 n] w fun e w' => e = scRet (weekdayF n) ∧ w = w' := by
  have hd := Lib.hid (isDay_any n)
  cases h : dayB n
  · have hz : weekdayF n = (0, 9) := by unfold weekdayF; rw [if_neg (by simp [h])]
    rw [hz]
    rw [h] at hd
    clear hz h
    go_enter Try.func16, Try.ntmps16
    go_wp2_with fail
    refine (hd.out _).mono ?_
    rintro e w1 ⟨rfl, rfl⟩
    go_wp2
    go_ret2
    exact ⟨rfl, rfl⟩
  · have hz : weekdayF n = (n % 7, 0) := by unfold weekdayF; rw [if_pos h]
    obtain ⟨h0, h1⟩ := dayB_true h
    rw [hz]
    rw [h] at hd
    clear hz h
    go_enter Try.func16, Try.ntmps16
    go_wp2_with fail
    refine (hd.out _).mono ?_
    rintro e w1 ⟨rfl, rfl⟩
    go_wp2
    go_ret2
    exact ⟨rfl, rfl⟩
def tri (p : Int × Int × Int) : Ending := .returned (.tuple #[.int .i64 p.1, .int .i64 p.2.1, .int .i64 p.2.2])
def thu (day : Int) : Int := day - day % 7 + 3
def weekF (day : Int) : Int × Int × Int := if dayB day = true then (Cal.yearOf (thu day), (thu day - Cal.dn (Cal.yearOf (thu day))) / 7 + 1, 0) else (0, 0, 9)
theorem dn_two : Cal.dn 2000 = -2 ∧ Cal.dn 4740 = 1000762 := by decide
theorem year_range {t : Int} (h0 : 0 ≤ t) (h1 : t ≤ 1000010) : 2000 ≤ Cal.yearOf t ∧ Cal.yearOf t ≤ 4740 := by
  have ⟨a, b⟩ := Cal.yr_spec t
  rw [Cal.yearOf_yr]
  have ⟨d1, d2⟩ := dn_two
  have c1 : 2000 ≤ Cal.yr t := Cal.dn_lt (by omega)
  have c2 : Cal.yr t ≤ 4740 := Cal.dn_lt (by have := Cal.dn_mono1 4740; omega)
  exact ⟨c1, c2⟩
set_option maxRecDepth 100000 in
theorem week_any (n : Int) (w : World) : Calls Try.prog 18 #[.int .i64 n] w fun e w' => e = tri (weekF n) ∧ w = w' := by
  have hd := Lib.hid (isDay_any n)
  cases h : dayB n
  · have hz : weekF n = (0, 0, 9) := by unfold weekF; rw [if_neg (by simp [h])]
    rw [hz]
    rw [h] at hd
    clear hz h
    go_enter Try.func18, Try.ntmps18
    go_wp2_with fail
    refine (hd.out _).mono ?_
    rintro e w1 ⟨rfl, rfl⟩
    go_wp2
    go_ret3
    exact ⟨rfl, rfl⟩
  · have hz : weekF n = (Cal.yearOf (thu n), (thu n - Cal.dn (Cal.yearOf (thu n))) / 7 + 1, 0) := by unfold weekF; rw [if_pos h]
    obtain ⟨h0, h1⟩ := dayB_true h
    have et : n - n % 7 + 3 = thu n := rfl
    have t0 : 3 ≤ thu n := by unfold thu; omega
    have t1 : thu n ≤ 1000002 := by unfold thu; omega
    rw [hz]
    rw [h] at hd
    clear hz h
    generalize thu n = t at et t0 t1 ⊢
    have hdt := Lib.hid (dateOf_any t)
    have ⟨y0, y1⟩ := year_range (t := t) (by omega) (by omega)
    have hdn := Lib.hid (dayNumber_any (Cal.yearOf t) 1 1)
    have hj := Cal.dayNum_jan (Cal.yearOf t) 1
    have hs := (Cal.yr_spec t)
    rw [← Cal.yearOf_yr] at hs
    have hq0 : 0 ≤ t - Cal.dn (Cal.yearOf t) := by omega
    have hq1 : t - Cal.dn (Cal.yearOf t) ≤ 400 := by have := Cal.dn_mono1 (Cal.yearOf t); omega
    rw [hj, show Cal.dn (Cal.yearOf t) + 1 - 1 = Cal.dn (Cal.yearOf t) by omega] at hdn
    generalize Cal.dn (Cal.yearOf t) = D at hq0 hq1 hdn ⊢
    generalize Cal.yearOf t = Y at y0 y1 hdt hdn ⊢
    clear hj hs
    go_enter Try.func18, Try.ntmps18
    go_wp2_with fail
    refine (hd.out _).mono ?_
    rintro e w1 ⟨rfl, rfl⟩
    go_wp2_with fail
    refine (hdt.out _ (by omega) (by omega)).mono ?_
    rintro e w1 ⟨rfl, rfl⟩
    go_wp2_with fail
    refine (hdn.out _ (by omega) (by omega) (by omega) (by omega) (by omega) (by omega)).mono ?_
    rintro e w1 ⟨rfl, rfl⟩
    go_wp2
    go_ret3
    exact ⟨rfl, rfl⟩
end Go.Proofs.Ythcddmjgehcgaaa
