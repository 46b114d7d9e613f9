/- Days and weeks: the reference's dates and weeks, the program's WeekDay. -/
import Derived.Test.YtkekpnompooaiaaO
namespace Go.Proofs.Ytkekpnompooaiaa
open Go.RowKit Go.BigFrame

theorem results_tmp4 {fn : Func} {t u v x : Tmp} (h : fn.results = #[.tmp t, .tmp u, .tmp v, .tmp x]) (tmps : Array Value) (P : Program) (w : World) :
    (results fn tmps).run P w = .ok (.tuple #[tmps.getD t undef, tmps.getD u undef, tmps.getD v undef, tmps.getD x undef]) w := by
  simp [results, h]
/-- what the reference tells of a day's date: year, month, date. -/
structure DateIs (day : Int) (y m d : Int) : Prop where
  year : y = Cal.yr day
  ex : ∃ k : Nat, k ≤ 11 ∧ m = (k : Int) + 1 ∧ Cal.cum y k ≤ day - Cal.dn y ∧ day - Cal.dn y < Cal.cum y (k + 1) ∧ d = day - Cal.dn y - Cal.cum y k + 1
theorem DateIs.mk' {day y m d : Int} {k : Nat} (h : y = Cal.yr day) (hk : k ≤ 11) (hm : m = (k : Int) + 1) (h1 : Cal.cum y k ≤ day - Cal.dn y) (h2 : day - Cal.dn y < Cal.cum y (k + 1)) (h3 : d = day - Cal.dn y - Cal.cum y k + 1) : DateIs day y m d := ⟨h, k, hk, hm, h1, h2, h3⟩

theorem suml_ge (y : Int) (k : Nat) : 365 * (k : Int) ≤ Cal.suml y k := by
  have := Cal.dn_mono y k
  rw [Cal.suml_dn]; omega
theorem cum_nonneg (y : Int) (k : Nat) : 0 ≤ Cal.cum y k := by
  induction k with
  | zero => simp [Cal.cum]
  | succ k ih => have := Cal.ml_bounds y ((k : Int) + 1); rw [Cal.cum]; omega
theorem era_dn (q : Int) : Cal.dn (2000 + q * 400) = 146097 * q - 2 := by
  have := Cal.dn_era 2000 q
  rw [Cal.dn2000, show 2000 + 400 * q = 2000 + q * 400 by omega] at this; omega

set_option maxHeartbeats 2000000 in
set_option maxRecDepth 100000 in
theorem rdateOf_any (day : Int) (w : World) : Calls Try.prog 49 #[.int .i64 day] w fun e w' =>
    (if dayB day = true then ∃ y m d : Int, DateIs day y m d ∧ e = .returned (.tuple #[.int .i64 y, .int .i64 m, .int .i64 d, .int .i64 0]) else e = .returned (.tuple #[.int .i64 0, .int .i64 0, .int .i64 0, .int .i64 9])) ∧ w = w' := by
  have ho := Lib.hid (outside_any day 0 999999)
  cases h : dayB day
  · have e1 : (decide (day < 0) || decide (999999 < day)) = true := by
      unfold dayB at h; simp at h ⊢; omega
    rw [e1] at ho
    clear h e1
    go_enter Try.func49, Try.ntmps49
    go_wp2_with fail
    refine (ho.out _).mono ?_
    rintro e w1 ⟨rfl, rfl⟩
    go_wp2
    refine bodyPost_ret (results_tmp4 rfl _ _ _) rfl ?_
    exact ⟨rfl, rfl⟩
  · obtain ⟨h0, h1⟩ := dayB_true h
    have e1 : (decide (day < 0) || decide (999999 < day)) = false := by simp; omega
    rw [e1] at ho
    clear h e1
    obtain ⟨q, hq⟩ : ∃ q, (day + 2) / 146097 = q := ⟨_, rfl⟩
    obtain ⟨n0, hn0⟩ : ∃ n0, (day + 2) % 146097 = n0 := ⟨_, rfl⟩
    have q0 : 0 ≤ q := by omega
    have q1 : q ≤ 6 := by omega
    have p0 : 0 ≤ n0 := by omega
    have p1 : n0 < 146097 := by omega
    have hday := Lib.hid (show day = 146097 * q + n0 - 2 by omega)
    have hE := Lib.hid (era_dn q)
    obtain ⟨Y0, hY0⟩ : ∃ Y0, 2000 + q * 400 = Y0 := ⟨_, rfl⟩
    have y0 : 2000 ≤ Y0 := by omega
    have y1 : Y0 ≤ 4400 := by omega
    rw [hY0] at hE
    go_enter Try.func49, Try.ntmps49
    go_wp2_with fail
    refine (ho.out _).mono ?_
    rintro e w1 ⟨rfl, rfl⟩
    go_wp2_with fail
    have HN0 := Lib.hid hn0
    clear hq hn0 hY0
    go_loop [2, 6] (fun yv nv => ∃ (k : Nat) (n : Int), yv = .int .i64 (Y0 + (k : Int)) ∧ nv = .int .i64 n ∧ 0 ≤ n ∧ n = n0 - Cal.suml Y0 k) (fun _ nv => (intOf nv).toNat)
    case atStart => exact ⟨0, n0, congrArg (Value.int .i64) (by omega), congrArg (Value.int .i64) HN0.out, p0, by simp [Cal.suml]⟩
    case round =>
      obtain ⟨k, n, rfl, rfl, hn, hre⟩ := hrel
      have hge := suml_ge Y0 k
      have n1 : n < 146097 := by omega
      have k1 : (k : Int) ≤ 401 := by omega
      have hyl := Lib.hid (yearLong_any (Y0 + (k : Int)))
      have hyc := Cal.yl_cases (Y0 + (k : Int))
      have yc0 : 365 ≤ Cal.yl (Y0 + (k : Int)) := by omega
      have yc1 : Cal.yl (Y0 + (k : Int)) ≤ 366 := by omega
      have hsucc := Lib.hid (show Cal.suml Y0 (k + 1) = Cal.suml Y0 k + Cal.yl (Y0 + k) from rfl)
      have Hre := Lib.hid hre
      clear hge hyc hre
      by_cases hlt : Cal.yl (Y0 + (k : Int)) ≤ n
      · generalize Cal.yl (Y0 + (k : Int)) = L at hyl hsucc yc0 yc1 hlt
        have c1 : decide (L ≤ n) = true := by rw [decide_eq_true_eq]; omega
        go_wp2_with fail
        refine (hyl.out _ (by omega)).mono ?_
        rintro e w1 ⟨rfl, rfl⟩
        go_wp2_with fail
        refine (hyl.out _ (by omega)).mono ?_
        rintro e w1 ⟨rfl, rfl⟩
        go_wp2
        go_round
        case rel => exact ⟨k + 1, n - L, congrArg (Value.int .i64) (by omega), rfl, by omega, by rw [hsucc.out, Hre.out]; omega⟩
        case measure => simp [intOf]; omega
      · have hd := Lib.hid (Cal.yl_dn (Y0 + (k : Int)))
        have hy := Lib.hid (Cal.suml_dn Y0 k)
        have hall := Lib.hid (Cal.cum_all (Y0 + (k : Int)))
        have hyr := Lib.hid (@Cal.yr_unique day (Y0 + (k : Int)))
        have Hlt := Lib.hid hlt
        have c1 : decide (Cal.yl (Y0 + (k : Int)) ≤ n) = false := by rw [decide_eq_false_iff_not]; omega
        have z0 : Cal.dn (Y0 + (k : Int)) = day - n := by rw [hday.out]; have := hd.out; have := hy.out; have := hE.out; have := Hre.out; omega
        have z1 : Cal.yr day = Y0 + (k : Int) := hyr.out (by omega) (by have := hd.out; omega)
        clear hlt
        have Z0 := Lib.hid z0
        have Z1 := Lib.hid z1
        clear z0 z1 hd hy hyr hsucc hE hday
        have Y1 : 0 ≤ Y0 + (k : Int) := by omega
        have Y2 : Y0 + (k : Int) ≤ 5000 := by omega
        generalize Y0 + (k : Int) = Y at *
        generalize Cal.yl Y = L at *
        go_wp2_with fail
        refine (hyl.out _ (by omega)).mono ?_
        rintro e w1 ⟨rfl, rfl⟩
        go_wp2_with fail
        go_loop [3, 6] (fun mv nv => ∃ (j : Nat) (m : Int), mv = .int .i64 ((j : Int) + 1) ∧ nv = .int .i64 m ∧ 0 ≤ m ∧ j ≤ 11 ∧ m = n - Cal.cum Y j) (fun mv _ => (13 - intOf mv).toNat)
        case atStart => exact ⟨0, n, rfl, rfl, hn, by omega, by simp [Cal.cum]⟩
        case round =>
          obtain ⟨j, m, rfl, rfl, hm, hj, hre⟩ := hrel
          have hml := Lib.hid (monthLong_any Y ((j : Int) + 1))
          have hmb := Cal.ml_bounds Y ((j : Int) + 1)
          have mc0 := hmb.1
          have mc1 := hmb.2
          have hsucc := Lib.hid (show Cal.cum Y (j + 1) = Cal.cum Y j + Cal.ml Y ((j : Int) + 1) from rfl)
          have hcn := cum_nonneg Y j
          have m1 : m < 146097 := by omega
          have Hre := Lib.hid hre
          clear hmb hre hcn
          generalize Cal.ml Y ((j : Int) + 1) = M at hml mc0 mc1 hsucc
          by_cases hlt : M ≤ m
          · have c2 : decide (M ≤ m) = true := by rw [decide_eq_true_eq]; omega
            have hj2 : j + 1 ≤ 11 := by
              by_cases hj11 : j = 11
              · have a := hsucc.out; have b := Hre.out; have d := Hlt.out
                subst hj11
                have c : Cal.cum Y (11 + 1) = L := hall.out
                omega
              · omega
            go_wp2_with fail
            refine (hml.out _ Y1).mono ?_
            rintro e w1 ⟨rfl, rfl⟩
            go_wp2_with fail
            refine (hml.out _ Y1).mono ?_
            rintro e w1 ⟨rfl, rfl⟩
            go_wp2
            go_round
            case rel => exact ⟨j + 1, m - M, congrArg (Value.int .i64) (by omega), rfl, by omega, hj2, by rw [hsucc.out, Hre.out]; omega⟩
            case measure => simp [intOf]; omega
          · have c2 : decide (M ≤ m) = false := by rw [decide_eq_false_iff_not]; omega
            have Hl2 := Lib.hid (show m < M by omega)
            clear hlt
            go_wp2_with fail
            refine (hml.out _ Y1).mono ?_
            rintro e w1 ⟨rfl, rfl⟩
            go_wp2
            refine bodyPost_ret (results_tmp4 rfl _ _ _) rfl ?_
            have a := Z0.out
            have b := Hre.out
            have c := hsucc.out
            have d := Hl2.out
            exact ⟨⟨_, _, _, DateIs.mk' Z1.out.symm hj rfl (by omega) (by omega) (by omega), rfl⟩, rfl⟩
end Go.Proofs.Ytkekpnompooaiaa
