/- The law QuantWeeksMatchSpec: its walk. -/
import Derived.Test.YtkekpnompooaiaaI
namespace Go.Proofs.Ytkekpnompooaiaa
open Go.RowKit Go.BigFrame

theorem monday_eq (day : Int) (h0 : 0 ≤ day) (h1 : day ≤ 999999) : weekDayF (Cal.yearOf (thu day)) ((thu day - Cal.dn (Cal.yearOf (thu day))) / 7 + 1) = (day - day % 7, 0) := by
  have t0 : 3 ≤ thu day := by unfold thu; omega
  have t1 : thu day ≤ 1000002 := by unfold thu; omega
  have ⟨y0, y1⟩ := year_range (t := thu day) (by omega) (by omega)
  have hs := Cal.yr_spec (thu day)
  have st := Cal.dn_mono1 (Cal.yr (thu day))
  rw [← Cal.yearOf_yr] at hs st
  have e1 : Cal.fm (Cal.yearOf (thu day)) = Cal.dn (Cal.yearOf (thu day)) + 3 - (Cal.dn (Cal.yearOf (thu day)) + 3) % 7 := rfl
  have et : thu day = day - day % 7 + 3 := rfl
  have hM : Cal.fm (Cal.yearOf (thu day)) + 7 * ((thu day - Cal.dn (Cal.yearOf (thu day))) / 7 + 1 - 1) = day - day % 7 := by
    rw [e1, et]
    rw [et] at hs
    generalize Cal.dn (Cal.yearOf (day - day % 7 + 3)) = D at *
    omega
  unfold weekDayF
  rw [hM, ← et]
  have hb : dayB (day - day % 7) = true := by simp [dayB]; omega
  rw [if_pos (by omega), if_pos ⟨rfl, hb⟩]

set_option maxHeartbeats 2000000 in
set_option maxRecDepth 100000 in
theorem weeks_any (day y k : Int) (w : World) :
    Calls Try.prog 5 #[.int .i64 day, .int .i64 y, .int .i64 k] w (Whole w) := by
  have ht := Lib.hid (fun w => told_any w)
  have d1 := Lib.hid (fun w => weekday_any day w)
  have d2 := Lib.hid (fun w => rweekday_any day w)
  have d3 := Lib.hid (fun w => week_any day w)
  have d4 := Lib.hid (fun w => rweek_any day w)
  have d5 := Lib.hid (fun w => weekDay_any y k w)
  have d6 := Lib.hid (fun w => rweekDay_any y k w)
  rw [← weekDay_eq] at d6
  generalize weekDayF y k = p at d5 d6
  cases h : dayB day
  · have hz1 : weekdayF day = (0, 9) := by unfold weekdayF; rw [if_neg (by simp [h])]
    have hz2 : weekF day = (0, 0, 9) := by unfold weekF; rw [if_neg (by simp [h])]
    rw [hz1] at d1 d2
    rw [hz2] at d3 d4
    unfold scRet at d1 d2 d5 d6
    unfold tri at d3 d4
    clear h hz1 hz2
    go_enter Try.func5, Try.ntmps5
    go_wp2_with fail
    refine (d1.out _).mono ?_
    rintro e w1 ⟨rfl, rfl⟩
    go_wp2_with fail
    refine (d2.out _).mono ?_
    rintro e w1 ⟨rfl, rfl⟩
    go_wp2_with fail
    refine (d3.out _).mono ?_
    rintro e w1 ⟨rfl, rfl⟩
    go_wp2_with fail
    refine (d4.out _).mono ?_
    rintro e w1 ⟨rfl, rfl⟩
    go_wp2_with fail
    refine (d5.out _).mono ?_
    rintro e w1 ⟨rfl, rfl⟩
    go_wp2_with fail
    refine (d6.out _).mono ?_
    rintro e w1 ⟨rfl, rfl⟩
    go_wp2_with fail
    refine (ht.out _).mono ?_
    rintro e w7 ⟨rfl, hb7⟩
    have HB7 := Lib.hid hb7
    clear hb7
    go_wp2
    go_ret
    exact ⟨rfl, HB7.out⟩
  · obtain ⟨h0, h1⟩ := dayB_true h
    have hz1 : weekdayF day = (day % 7, 0) := by unfold weekdayF; rw [if_pos h]
    have hz2 : weekF day = (Cal.yearOf (thu day), (thu day - Cal.dn (Cal.yearOf (thu day))) / 7 + 1, 0) := by unfold weekF; rw [if_pos h]
    rw [hz1] at d1 d2
    rw [hz2] at d3 d4
    have d7 := Lib.hid (fun w => weekDay_any (Cal.yearOf (thu day)) ((thu day - Cal.dn (Cal.yearOf (thu day))) / 7 + 1) w)
    rw [monday_eq day h0 h1] at d7
    generalize (thu day - Cal.dn (Cal.yearOf (thu day))) / 7 + 1 = K at d3 d4 d7
    generalize Cal.yearOf (thu day) = Y at d3 d4 d7
    unfold scRet at d1 d2 d5 d6 d7
    unfold tri at d3 d4
    clear h hz1 hz2
    go_enter Try.func5, Try.ntmps5
    go_wp2_with fail
    refine (d1.out _).mono ?_
    rintro e w1 ⟨rfl, rfl⟩
    go_wp2_with fail
    refine (d2.out _).mono ?_
    rintro e w1 ⟨rfl, rfl⟩
    go_wp2_with fail
    refine (d3.out _).mono ?_
    rintro e w1 ⟨rfl, rfl⟩
    go_wp2_with fail
    refine (d4.out _).mono ?_
    rintro e w1 ⟨rfl, rfl⟩
    go_wp2_with fail
    refine (d5.out _).mono ?_
    rintro e w1 ⟨rfl, rfl⟩
    go_wp2_with fail
    refine (d6.out _).mono ?_
    rintro e w1 ⟨rfl, rfl⟩
    go_wp2_with fail
    refine (d7.out _).mono ?_
    rintro e w1 ⟨rfl, rfl⟩
    go_wp2_with fail
    refine (ht.out _).mono ?_
    rintro e w7 ⟨rfl, hb7⟩
    have HB7 := Lib.hid hb7
    clear hb7
    go_wp2
    go_ret
    exact ⟨rfl, HB7.out⟩
end Go.Proofs.Ytkekpnompooaiaa
