/- WeekDay of the program and of the reference; they are one. -/
import Derived.Test.YtkekpnompooaiaaH
namespace Go.Proofs.Ytkekpnompooaiaa
open Go.RowKit Go.BigFrame

def weekDayF (y k : Int) : Int × Int :=
  if 2000 ≤ y ∧ y ≤ 9999 ∧ 1 ≤ k ∧ k ≤ 53 then
    (if Cal.yearOf (Cal.fm y + 7 * (k - 1) + 3) = y ∧ dayB (Cal.fm y + 7 * (k - 1)) = true then (Cal.fm y + 7 * (k - 1), 0) else (0, 9))
  else (0, 9)
def rweekDayF (y k : Int) : Int × Int :=
  if 2000 ≤ y ∧ y ≤ 4739 ∧ 1 ≤ k ∧ k ≤ (Cal.fm (y + 1) - Cal.fm y) / 7 then
    (if 999999 < Cal.fm y + 7 * (k - 1) then (0, 9) else (Cal.fm y + 7 * (k - 1), 0))
  else (0, 9)
theorem fm_mod (y : Int) : Cal.fm y % 7 = 0 := by unfold Cal.fm; omega
theorem fm_late (y : Int) (h : 4740 ≤ y) : 999999 < Cal.fm y := by
  have h1 := dn_two.2
  have hm := Cal.dn_mono 4740 (y - 4740).toNat
  rw [show 4740 + (((y - 4740).toNat : Nat) : Int) = y by omega] at hm
  unfold Cal.fm; omega
theorem fm_step (y : Int) : Cal.fm y ≤ Cal.fm (y + 1) ∧ Cal.fm (y + 1) - Cal.fm y ≤ 371 := by
  have := Cal.dn_mono1 y
  unfold Cal.fm; omega
theorem yearOf_iff (t y : Int) : Cal.yearOf t = y ↔ Cal.dn y ≤ t ∧ t < Cal.dn (y + 1) := by
  rw [Cal.yearOf_yr]
  constructor
  · rintro rfl; exact Cal.yr_spec t
  · rintro ⟨a, b⟩; exact Cal.yr_unique a b
theorem weekDay_eq (y k : Int) : weekDayF y k = rweekDayF y k := by
  have m1 := fm_mod y
  have m2 := fm_mod (y + 1)
  have st := Cal.dn_mono1 y
  have e1 : Cal.fm y = Cal.dn y + 3 - (Cal.dn y + 3) % 7 := rfl
  have e2 : Cal.fm (y + 1) = Cal.dn (y + 1) + 3 - (Cal.dn (y + 1) + 3) % 7 := rfl
  have hl := fm_late y
  have hp := fm_pos y
  have hy := yearOf_iff (Cal.fm y + 7 * (k - 1) + 3) y
  unfold weekDayF rweekDayF
  have hb : dayB (Cal.fm y + 7 * (k - 1)) = true ↔ 0 ≤ Cal.fm y + 7 * (k - 1) ∧ Cal.fm y + 7 * (k - 1) ≤ 999999 := by simp [dayB]
  simp only [hy, hb]
  generalize Cal.fm (y + 1) = F1 at *
  generalize Cal.fm y = F at *
  generalize Cal.dn (y + 1) = D1 at *
  generalize Cal.dn y = D at *
  clear hy hb
  split
  · split
    · rw [if_pos (by omega), if_neg (by omega)]
    · split
      · rw [if_pos (by omega)]
      · rfl
  · rw [if_neg (by omega)]

set_option maxHeartbeats 1000000 in
set_option maxRecDepth 100000 in
theorem weekDay_any (y k : Int) (w : World) : Calls Try.prog 21 #[.int .i64 y, .int .i64 k] w fun e w' => e = scRet (weekDayF y k) ∧ w = w' := by
  by_cases hr : 2000 ≤ y ∧ y ≤ 9999 ∧ 1 ≤ k ∧ k ≤ 53
  · unfold weekDayF
    rw [if_pos hr]
    obtain ⟨y0, y1, k0, k1⟩ := hr
    have hn := Lib.hid (dayNumber_any y 1 4)
    have hj := Cal.dayNum_jan y 4
    rw [show Cal.dn y + 4 - 1 = Cal.dn y + 3 by omega] at hj
    rw [hj] at hn
    have f0 := fm_pos y y0
    have f1 := fm_top y (by omega)
    have d0 : 0 ≤ Cal.dn y + 3 := by unfold Cal.fm at f0; omega
    have d1 : Cal.dn y + 3 ≤ 5000000 := by unfold Cal.fm at f1; omega
    have hF := Lib.hid (show Cal.dn y + 3 - (Cal.dn y + 3) % 7 = Cal.fm y from rfl)
    have c1 : decide (y < 2000) = false := by rw [decide_eq_false_iff_not]; omega
    have c2 : decide (9999 < y) = false := by rw [decide_eq_false_iff_not]; omega
    have c3 : decide (k < 1) = false := by rw [decide_eq_false_iff_not]; omega
    have c4 : decide (53 < k) = false := by rw [decide_eq_false_iff_not]; omega
    generalize Cal.fm y = F at f0 f1 hF ⊢
    obtain ⟨D, hD⟩ : ∃ D, Cal.dn y + 3 = D := ⟨_, rfl⟩
    rw [hD] at hF d0 d1 hn
    clear hD hj
    have HF := hF.out
    obtain ⟨M, hM⟩ : ∃ M, F + 7 * (k - 1) = M := ⟨_, rfl⟩
    have hdt := Lib.hid (dateOf_any (M + 3))
    have m0 : 0 ≤ M := by omega
    have m1 : M ≤ 5000000 := by omega
    have hdb := Lib.hid (isDay_any M)
    rw [hM]
    by_cases hyy : Cal.yearOf (M + 3) = y
    · have c5 : (y == y) = true := by simp
      rw [hyy] at hdt
      cases hdd : dayB M
      · rw [if_neg (by simp)]
        rw [hdd] at hdb
        clear hyy hdd hF
        go_enter Try.func21, Try.ntmps21
        go_wp2_with fail
        refine (hn.out _ (by omega) (by omega) (by omega) (by omega) (by omega) (by omega)).mono ?_
        rintro e w1 ⟨rfl, rfl⟩
        go_wp2_with fail
        refine (hdt.out _ (by omega) (by omega)).mono ?_
        rintro e w1 ⟨rfl, rfl⟩
        go_wp2_with fail
        refine (hdb.out _).mono ?_
        rintro e w1 ⟨rfl, rfl⟩
        go_wp2
        go_ret2
        exact ⟨rfl, rfl⟩
      · rw [if_pos ⟨hyy, rfl⟩]
        rw [hdd] at hdb
        clear hyy hdd hF
        go_enter Try.func21, Try.ntmps21
        go_wp2_with fail
        refine (hn.out _ (by omega) (by omega) (by omega) (by omega) (by omega) (by omega)).mono ?_
        rintro e w1 ⟨rfl, rfl⟩
        go_wp2_with fail
        refine (hdt.out _ (by omega) (by omega)).mono ?_
        rintro e w1 ⟨rfl, rfl⟩
        go_wp2_with fail
        refine (hdb.out _).mono ?_
        rintro e w1 ⟨rfl, rfl⟩
        go_wp2
        go_ret2
        exact ⟨rfl, rfl⟩
    · rw [if_neg (fun h => hyy h.1)]
      have c5 : (Cal.yearOf (M + 3) != y) = true := by simpa using hyy
      generalize Cal.yearOf (M + 3) = Z at hdt c5
      clear hyy hF
      go_enter Try.func21, Try.ntmps21
      go_wp2_with fail
      refine (hn.out _ (by omega) (by omega) (by omega) (by omega) (by omega) (by omega)).mono ?_
      rintro e w1 ⟨rfl, rfl⟩
      go_wp2_with fail
      refine (hdt.out _ (by omega) (by omega)).mono ?_
      rintro e w1 ⟨rfl, rfl⟩
      go_wp2
      go_ret2
      exact ⟨rfl, rfl⟩
  · unfold weekDayF
    rw [if_neg hr]
    cases c1 : decide (y < 2000)
    · cases c2 : decide (9999 < y)
      · cases c3 : decide (k < 1)
        · have c4 : decide (53 < k) = true := by
            rw [decide_eq_false_iff_not] at c1 c2 c3
            rw [decide_eq_true_eq]; omega
          clear hr
          go_enter Try.func21, Try.ntmps21
          go_wp2
          go_ret2
          exact ⟨rfl, rfl⟩
        · clear hr
          go_enter Try.func21, Try.ntmps21
          go_wp2
          go_ret2
          exact ⟨rfl, rfl⟩
      · clear hr
        go_enter Try.func21, Try.ntmps21
        go_wp2
        go_ret2
        exact ⟨rfl, rfl⟩
    · clear hr
      go_enter Try.func21, Try.ntmps21
      go_wp2
      go_ret2
      exact ⟨rfl, rfl⟩
set_option maxHeartbeats 1000000 in
set_option maxRecDepth 100000 in
theorem rweekDay_any (y k : Int) (w : World) : Calls Try.prog 22 #[.int .i64 y, .int .i64 k] w fun e w' => e = scRet (rweekDayF y k) ∧ w = w' := by
  have ho := Lib.hid (outside_any y 2000 4739)
  by_cases hr : 2000 ≤ y ∧ y ≤ 4739
  · obtain ⟨y0, y1⟩ := hr
    have e1 : (decide (y < 2000) || decide (4739 < y)) = false := by simp; omega
    rw [e1] at ho
    have hf1 := Lib.hid (firstMonday_any (y + 1))
    have hf := Lib.hid (firstMonday_any y)
    have f0 := fm_pos y y0
    have f1 := fm_top y (by omega)
    have g0 := fm_pos (y + 1) (by omega)
    have g1 := fm_top (y + 1) (by omega)
    have s0 := (fm_step y).1
    have s1 := (fm_step y).2
    unfold rweekDayF
    generalize Cal.fm (y + 1) = G at hf1 g0 g1 s0 s1 ⊢
    generalize Cal.fm y = F at hf f0 f1 s0 s1 ⊢
    cases c1 : decide (k < 1)
    · cases c2 : decide ((G - F) / 7 < k)
      · rw [decide_eq_false_iff_not] at c1 c2
        rw [if_pos ⟨y0, y1, by omega, by omega⟩]
        have k0 : 1 ≤ k := by omega
        have k1 : k ≤ 1000000 := by omega
        have c3 : decide (k < 1) = false := by rw [decide_eq_false_iff_not]; exact c1
        have c4 : decide ((G - F) / 7 < k) = false := by rw [decide_eq_false_iff_not]; exact c2
        clear c1 c2 e1
        by_cases hb : 999999 < F + 7 * (k - 1)
        · rw [if_pos hb]
          have c5 : decide (999999 < F + 7 * (k - 1)) = true := by rw [decide_eq_true_eq]; exact hb
          clear hb
          go_enter Try.func22, Try.ntmps22
          go_wp2_with fail
          refine (ho.out _).mono ?_
          rintro e w1 ⟨rfl, rfl⟩
          go_wp2_with fail
          refine (hf1.out _ (by omega) (by omega)).mono ?_
          rintro e w1 ⟨rfl, rfl⟩
          go_wp2_with fail
          refine (hf.out _ (by omega) (by omega)).mono ?_
          rintro e w1 ⟨rfl, rfl⟩
          go_wp2_with fail
          refine (hf.out _ (by omega) (by omega)).mono ?_
          rintro e w1 ⟨rfl, rfl⟩
          go_wp2
          go_ret2
          exact ⟨rfl, rfl⟩
        · rw [if_neg hb]
          have c5 : decide (999999 < F + 7 * (k - 1)) = false := by rw [decide_eq_false_iff_not]; exact hb
          clear hb
          go_enter Try.func22, Try.ntmps22
          go_wp2_with fail
          refine (ho.out _).mono ?_
          rintro e w1 ⟨rfl, rfl⟩
          go_wp2_with fail
          refine (hf1.out _ (by omega) (by omega)).mono ?_
          rintro e w1 ⟨rfl, rfl⟩
          go_wp2_with fail
          refine (hf.out _ (by omega) (by omega)).mono ?_
          rintro e w1 ⟨rfl, rfl⟩
          go_wp2_with fail
          refine (hf.out _ (by omega) (by omega)).mono ?_
          rintro e w1 ⟨rfl, rfl⟩
          go_wp2
          go_ret2
          exact ⟨rfl, rfl⟩
      · rw [if_neg (by rw [decide_eq_true_eq] at c2; omega)]
        clear e1
        go_enter Try.func22, Try.ntmps22
        go_wp2_with fail
        refine (ho.out _).mono ?_
        rintro e w1 ⟨rfl, rfl⟩
        go_wp2_with fail
        refine (hf1.out _ (by omega) (by omega)).mono ?_
        rintro e w1 ⟨rfl, rfl⟩
        go_wp2_with fail
        refine (hf.out _ (by omega) (by omega)).mono ?_
        rintro e w1 ⟨rfl, rfl⟩
        go_wp2
        go_ret2
        exact ⟨rfl, rfl⟩
    · rw [if_neg (by rw [decide_eq_true_eq] at c1; omega)]
      clear e1
      go_enter Try.func22, Try.ntmps22
      go_wp2_with fail
      refine (ho.out _).mono ?_
      rintro e w1 ⟨rfl, rfl⟩
      go_wp2
      go_ret2
      exact ⟨rfl, rfl⟩
  · have e1 : (decide (y < 2000) || decide (4739 < y)) = true := by simp; omega
    rw [e1] at ho
    have hz : rweekDayF y k = (0, 9) := by unfold rweekDayF; rw [if_neg (by omega)]
    rw [hz]
    clear e1 hr hz
    go_enter Try.func22, Try.ntmps22
    go_wp2_with fail
    refine (ho.out _).mono ?_
    rintro e w1 ⟨rfl, rfl⟩
    go_wp2
    go_ret2
    exact ⟨rfl, rfl⟩
end Go.Proofs.Ytkekpnompooaiaa
