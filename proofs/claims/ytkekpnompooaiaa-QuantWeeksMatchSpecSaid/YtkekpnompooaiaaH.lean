/- Days and weeks: Weekday, Week and WeekDay of the reference, WeekDay of the program; they are one. -/
import Derived.Test.YtkekpnompooaiaaQ
namespace Go.Proofs.Ytkekpnompooaiaa
open Go.RowKit Go.BigFrame

theorem rweekday_any (n : Int) (w : World) : Calls Try.prog 18 #[.int .i64 n] w fun e w' => e = scRet (weekdayF n) ∧ w = w' := by
  have ho := Lib.hid (outside_any n 0 999999)
  cases h : dayB n
  · have hz : weekdayF n = (0, 9) := by unfold weekdayF; rw [if_neg (by simp [h])]
    have e1 : (decide (n < 0) || decide (999999 < n)) = true := by unfold dayB at h; simp at h ⊢; omega
    rw [hz]
    rw [e1] at ho
    clear hz h e1
    go_enter Try.func18, Try.ntmps18
    go_wp2_with fail
    refine (ho.out _).mono ?_
    rintro e w1 ⟨rfl, rfl⟩
    go_wp2
    go_ret2
    exact ⟨rfl, rfl⟩
  · have hz : weekdayF n = (n % 7, 0) := by unfold weekdayF; rw [if_pos h]
    obtain ⟨h0, h1⟩ := dayB_true h
    have e1 : (decide (n < 0) || decide (999999 < n)) = false := by simp; omega
    rw [hz]
    rw [e1] at ho
    clear hz h e1
    go_enter Try.func18, Try.ntmps18
    go_wp2_with fail
    refine (ho.out _).mono ?_
    rintro e w1 ⟨rfl, rfl⟩
    go_wp2
    go_ret2
    exact ⟨rfl, rfl⟩

theorem dn_4738 : Cal.dn 4738 = 1000032 := by decide
theorem yr_range {t : Int} (h0 : 0 ≤ t) (h1 : t ≤ 999999) : 2000 ≤ Cal.yr t ∧ Cal.yr t ≤ 4737 := by
  have ⟨a, b⟩ := Cal.yr_spec t
  have c1 : 2000 ≤ Cal.yr t := Cal.dn_lt (by have := dn_two.1; omega)
  have c2 : Cal.yr t ≤ 4737 := Cal.dn_lt (by have := dn_4738; have : (4737 : Int) + 1 = 4738 := rfl; rw [this]; omega)
  exact ⟨c1, c2⟩
theorem fm_2000 : Cal.fm 2000 = 0 := by decide
theorem fm_pos (y : Int) (h : 2000 ≤ y) : 0 ≤ Cal.fm y := by
  have h1 := dn_two.1
  have hm := Cal.dn_mono 2000 (y - 2000).toNat
  rw [show 2000 + (((y - 2000).toNat : Nat) : Int) = y by omega] at hm
  unfold Cal.fm; omega
theorem fm_top (y : Int) (h : y ≤ 10001) : Cal.fm y ≤ 4000000 := by
  have h1 : Cal.dn 10001 = 2922389 + (Cal.dn 10001 - 2922389) := by omega
  have h2 : Cal.dn 10001 ≤ 3000000 := by decide
  have hm := Cal.dn_mono y (10001 - y).toNat
  rw [show y + (((10001 - y).toNat : Nat) : Int) = 10001 by omega] at hm
  unfold Cal.fm; omega

set_option maxHeartbeats 1000000 in
set_option maxRecDepth 100000 in
theorem rweek_any (day : Int) (w : World) : Calls Try.prog 20 #[.int .i64 day] w fun e w' => e = tri (weekF day) ∧ w = w' := by
  have hd := Lib.hid (rdateOf_any day)
  cases h : dayB day
  · have hz : weekF day = (0, 0, 9) := by unfold weekF; rw [if_neg (by simp [h])]
    rw [hz]
    rw [h] at hd
    clear hz h
    go_enter Try.func20, Try.ntmps20
    go_wp2_with fail
    refine (hd.out _).mono ?_
    rintro e w1 ⟨hh, rfl⟩
    rw [if_neg (by simp)] at hh
    subst hh
    go_wp2
    go_ret3
    exact ⟨rfl, rfl⟩
  · have hz : weekF day = (Cal.yearOf (thu day), (thu day - Cal.dn (Cal.yearOf (thu day))) / 7 + 1, 0) := by unfold weekF; rw [if_pos h]
    obtain ⟨h0, h1⟩ := dayB_true h
    rw [hz, Cal.yearOf_yr]
    rw [h] at hd
    clear hz h
    go_enter Try.func20, Try.ntmps20
    go_wp2_with fail
    refine (hd.out _).mono ?_
    rintro e w1 ⟨hh, rfl⟩
    rw [if_pos (by trivial)] at hh
    obtain ⟨y, m, d, hdi, rfl⟩ := hh
    have hy := hdi.year
    have ⟨y0, y1⟩ := yr_range h0 h1
    have hs := (Cal.yr_spec day).2
    rw [← hy] at y0 y1 hs
    have hs2 := Cal.dn_mono1 (y + 1)
    have Hs := Lib.hid (show thu day < Cal.dn (y + 1 + 1) by unfold thu; omega)
    clear hs hs2 hy hdi
    go_wp2_with fail
    go_loop [5] (fun yv => ∃ (z : Int), yv = .int .i64 z ∧ 2000 ≤ z ∧ z ≤ 4738 ∧ Hid (thu day < Cal.dn (z + 1))) (fun yv => (intOf yv).toNat)
    case atStart => exact ⟨y + 1, rfl, by omega, by omega, Hs⟩
    case round =>
      obtain ⟨z, rfl, z0, z1, hz⟩ := hrel
      have hf := Lib.hid (firstMonday_any z)
      have f0 := fm_pos z z0
      have f1 := fm_top z (by omega)
      have hle := Lib.hid (Cal.fm_le z day)
      have hwk := Lib.hid (Cal.fm_week z day)
      by_cases hlt : day < Cal.fm z
      · have c1 : decide (day < Cal.fm z) = true := by rw [decide_eq_true_eq]; exact hlt
        have hz2 : 2000 ≤ z - 1 := by
          rcases (show 2000 ≤ z - 1 ∨ z = 2000 by omega) with h2 | h2
          · exact h2
          · subst h2; rw [fm_2000] at hlt; omega
        have hz3 : Hid (thu day < Cal.dn (z - 1 + 1)) := Lib.hid (by
          rw [show z - 1 + 1 = z by omega]
          have := hle.out; unfold thu; omega)
        clear hlt
        go_wp2_with fail
        refine (hf.out _ z0 (by omega)).mono ?_
        rintro e w1 ⟨rfl, rfl⟩
        go_wp2
        go_round
        case rel => exact ⟨z - 1, rfl, by omega, by omega, hz3⟩
        case measure => simp [intOf]; omega
      · have c1 : decide (day < Cal.fm z) = false := by rw [decide_eq_false_iff_not]; exact hlt
        have Hlt := Lib.hid hlt
        have c3 : Cal.fm z ≤ day := by omega
        clear hlt
        go_wp2_with fail
        refine (hf.out _ z0 (by omega)).mono ?_
        rintro e w1 ⟨rfl, rfl⟩
        go_wp2_with fail
        refine (hf.out _ z0 (by omega)).mono ?_
        rintro e w1 ⟨rfl, rfl⟩
        go_wp2
        go_ret3
        have e1 : Cal.dn z ≤ thu day := by have := hle.out; unfold thu; omega
        have e2 : Cal.yr (thu day) = z := Cal.yr_unique e1 hz.out
        rw [e2]
        refine ⟨congrArg (fun n => tri (z, n, 0)) ?_, rfl⟩
        exact hwk.out
end Go.Proofs.Ytkekpnompooaiaa
