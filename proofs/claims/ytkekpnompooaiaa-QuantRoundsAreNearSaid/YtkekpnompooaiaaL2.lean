/- The law QuantRoundsAreNear: its walk where the numbers are of moderate size; the law. -/
import Derived.Test.YtkekpnompooaiaaL1
namespace Go.Proofs.Ytkekpnompooaiaa
open Go.RowKit Go.BigFrame

theorem wrap64_of {n : Int} (h1 : -9223372036854775808 ≤ n) (h2 : n ≤ 9223372036854775807) : wrap64 n = n := by unfold wrap64; omega
set_option maxHeartbeats 2000000 in
set_option maxRecDepth 100000 in
theorem near_1 (a b k ka kb n nb D : Int) (w : World) (a1 : -1000000000 ≤ a) (a2 : a ≤ 1000000000) (b1 : 1 ≤ b) (b2 : b ≤ 1000000000) (k1 : 1 ≤ k) (k2 : k ≤ 1000)
    (eka : wrap64 (k * a) = ka) (ekb : wrap64 (k * b) = kb) (ka1 : -1000000000000 ≤ ka) (ka2 : ka ≤ 1000000000000) (kb1 : 1 ≤ kb) (kb2 : kb ≤ 1000000000000)
    (en : wrap64 (n * b) = nb) (eD : a - nb = D) (nb1 : -3000000000 ≤ nb) (nb2 : nb ≤ 3000000000) (D1 : -b < D) (D2 : D < b) (hD : 0 ≤ D)
    (s1 : Hid (Sc.sc a 1 b 1 = (n, 0))) (s2 : Hid (Sc.sc ka 1 kb 1 = (n, 0))) (s3 : Hid (Sc.sc a k kb 1 = (n, 0))) :
    Calls Try.prog 3 #[.int .i64 a, .int .i64 b, .int .i64 k, .int .i64 1] w (Whole w) := by
  have ht := Lib.hid (fun w => told_any w)
  have d1 := Lib.hid (fun w => div_any a b 1 w (by omega) (by omega) (by omega))
  have d2 := Lib.hid (fun w => div_any ka kb 1 w (by omega) (by omega) (by omega))
  have d3 := Lib.hid (fun w => scale_any a k kb 1 w (by omega) (by omega) (by omega) (by omega))
  rw [s1.out] at d1
  rw [s2.out] at d2
  rw [s3.out] at d3
  unfold scRet at d1 d2 d3
  have c1 : decide (a < -1000000000) = false := by rw [decide_eq_false_iff_not]; omega
  have c2 : decide (1000000000 < a) = false := by rw [decide_eq_false_iff_not]; omega
  have c3 : decide (b < 1) = false := by rw [decide_eq_false_iff_not]; omega
  have c4 : decide (1000000000 < b) = false := by rw [decide_eq_false_iff_not]; omega
  have c5 : decide (k < 1) = false := by rw [decide_eq_false_iff_not]; omega
  have c6 : decide (1000 < k) = false := by rw [decide_eq_false_iff_not]; omega
  have c9 : decide (-b < D) = true := by rw [decide_eq_true_eq]; omega
  have c10 : decide (D < b) = true := by rw [decide_eq_true_eq]; omega
  have c11 : decide (0 ≤ D) = true := by rw [decide_eq_true_eq]; exact hD
  go_enter Try.func3, Try.ntmps3
  go_wp2_with fail
  refine (d1.out _).mono ?_
  rintro e w1 ⟨rfl, hb1⟩
  have HB1 := Lib.hid hb1
  clear hb1
  go_wp2_with fail
  refine (d2.out _).mono ?_
  rintro e w2 ⟨rfl, hb2⟩
  have HB2 := Lib.hid (HB1.out.trans (hb2.mono HB1.out.size))
  clear hb2 HB1
  go_wp2_with fail
  refine (d3.out _).mono ?_
  rintro e w3 ⟨rfl, hb3⟩
  have HB3 := Lib.hid (HB2.out.trans (hb3.mono HB2.out.size))
  clear hb3 HB2
  go_wp2_with fail
  refine (ht.out _).mono ?_
  rintro e w4 ⟨rfl, hb4⟩
  have HB4 := Lib.hid (HB3.out.trans (hb4.mono HB3.out.size))
  clear hb4 HB3
  go_wp2
  go_ret
  exact ⟨rfl, HB4.out⟩
set_option maxHeartbeats 2000000 in
set_option maxRecDepth 100000 in
theorem near_2 (a b k ka kb n nb D : Int) (w : World) (a1 : -1000000000 ≤ a) (a2 : a ≤ 1000000000) (b1 : 1 ≤ b) (b2 : b ≤ 1000000000) (k1 : 1 ≤ k) (k2 : k ≤ 1000)
    (eka : wrap64 (k * a) = ka) (ekb : wrap64 (k * b) = kb) (ka1 : -1000000000000 ≤ ka) (ka2 : ka ≤ 1000000000000) (kb1 : 1 ≤ kb) (kb2 : kb ≤ 1000000000000)
    (en : wrap64 (n * b) = nb) (eD : a - nb = D) (nb1 : -3000000000 ≤ nb) (nb2 : nb ≤ 3000000000) (D1 : -b < D) (D2 : D < b) (hD : D ≤ 0)
    (s1 : Hid (Sc.sc a 1 b 2 = (n, 0))) (s2 : Hid (Sc.sc ka 1 kb 2 = (n, 0))) (s3 : Hid (Sc.sc a k kb 2 = (n, 0))) :
    Calls Try.prog 3 #[.int .i64 a, .int .i64 b, .int .i64 k, .int .i64 2] w (Whole w) := by
  have ht := Lib.hid (fun w => told_any w)
  have d1 := Lib.hid (fun w => div_any a b 2 w (by omega) (by omega) (by omega))
  have d2 := Lib.hid (fun w => div_any ka kb 2 w (by omega) (by omega) (by omega))
  have d3 := Lib.hid (fun w => scale_any a k kb 2 w (by omega) (by omega) (by omega) (by omega))
  rw [s1.out] at d1
  rw [s2.out] at d2
  rw [s3.out] at d3
  unfold scRet at d1 d2 d3
  have c1 : decide (a < -1000000000) = false := by rw [decide_eq_false_iff_not]; omega
  have c2 : decide (1000000000 < a) = false := by rw [decide_eq_false_iff_not]; omega
  have c3 : decide (b < 1) = false := by rw [decide_eq_false_iff_not]; omega
  have c4 : decide (1000000000 < b) = false := by rw [decide_eq_false_iff_not]; omega
  have c5 : decide (k < 1) = false := by rw [decide_eq_false_iff_not]; omega
  have c6 : decide (1000 < k) = false := by rw [decide_eq_false_iff_not]; omega
  have c9 : decide (-b < D) = true := by rw [decide_eq_true_eq]; omega
  have c10 : decide (D < b) = true := by rw [decide_eq_true_eq]; omega
  have c11 : decide (D ≤ 0) = true := by rw [decide_eq_true_eq]; exact hD
  go_enter Try.func3, Try.ntmps3
  go_wp2_with fail
  refine (d1.out _).mono ?_
  rintro e w1 ⟨rfl, hb1⟩
  have HB1 := Lib.hid hb1
  clear hb1
  go_wp2_with fail
  refine (d2.out _).mono ?_
  rintro e w2 ⟨rfl, hb2⟩
  have HB2 := Lib.hid (HB1.out.trans (hb2.mono HB1.out.size))
  clear hb2 HB1
  go_wp2_with fail
  refine (d3.out _).mono ?_
  rintro e w3 ⟨rfl, hb3⟩
  have HB3 := Lib.hid (HB2.out.trans (hb3.mono HB2.out.size))
  clear hb3 HB2
  go_wp2_with fail
  refine (ht.out _).mono ?_
  rintro e w4 ⟨rfl, hb4⟩
  have HB4 := Lib.hid (HB3.out.trans (hb4.mono HB3.out.size))
  clear hb4 HB3
  go_wp2
  go_ret
  exact ⟨rfl, HB4.out⟩
set_option maxHeartbeats 2000000 in
set_option maxRecDepth 100000 in
theorem near_3 (a b k ka kb n nb D : Int) (w : World) (a1 : -1000000000 ≤ a) (a2 : a ≤ 1000000000) (b1 : 1 ≤ b) (b2 : b ≤ 1000000000) (k1 : 1 ≤ k) (k2 : k ≤ 1000)
    (eka : wrap64 (k * a) = ka) (ekb : wrap64 (k * b) = kb) (ka1 : -1000000000000 ≤ ka) (ka2 : ka ≤ 1000000000000) (kb1 : 1 ≤ kb) (kb2 : kb ≤ 1000000000000)
    (en : wrap64 (n * b) = nb) (eD : a - nb = D) (nb1 : -3000000000 ≤ nb) (nb2 : nb ≤ 3000000000) (D1 : -b < D) (D2 : D < b) (hD : D = 0 ∨ ((0 < D) ↔ 0 < a))
    (s1 : Hid (Sc.sc a 1 b 3 = (n, 0))) (s2 : Hid (Sc.sc ka 1 kb 3 = (n, 0))) (s3 : Hid (Sc.sc a k kb 3 = (n, 0))) :
    Calls Try.prog 3 #[.int .i64 a, .int .i64 b, .int .i64 k, .int .i64 3] w (Whole w) := by
  have ht := Lib.hid (fun w => told_any w)
  have d1 := Lib.hid (fun w => div_any a b 3 w (by omega) (by omega) (by omega))
  have d2 := Lib.hid (fun w => div_any ka kb 3 w (by omega) (by omega) (by omega))
  have d3 := Lib.hid (fun w => scale_any a k kb 3 w (by omega) (by omega) (by omega) (by omega))
  rw [s1.out] at d1
  rw [s2.out] at d2
  rw [s3.out] at d3
  unfold scRet at d1 d2 d3
  have c1 : decide (a < -1000000000) = false := by rw [decide_eq_false_iff_not]; omega
  have c2 : decide (1000000000 < a) = false := by rw [decide_eq_false_iff_not]; omega
  have c3 : decide (b < 1) = false := by rw [decide_eq_false_iff_not]; omega
  have c4 : decide (1000000000 < b) = false := by rw [decide_eq_false_iff_not]; omega
  have c5 : decide (k < 1) = false := by rw [decide_eq_false_iff_not]; omega
  have c6 : decide (1000 < k) = false := by rw [decide_eq_false_iff_not]; omega
  have c9 : decide (-b < D) = true := by rw [decide_eq_true_eq]; omega
  have c10 : decide (D < b) = true := by rw [decide_eq_true_eq]; omega
  cases c12 : (D == 0)
  · have hD' : decide (0 < D) = decide (0 < a) := by
      rcases hD with h | h
      · simp [h] at c12
      · exact decide_eq_decide.2 h
    clear hD
    cases c13 : decide (0 < a)
    all_goals rw [c13] at hD'
    all_goals
      go_enter Try.func3, Try.ntmps3
      go_wp2_with fail
      refine (d1.out _).mono ?_
      rintro e w1 ⟨rfl, hb1⟩
      have HB1 := Lib.hid hb1
      clear hb1
      go_wp2_with fail
      refine (d2.out _).mono ?_
      rintro e w2 ⟨rfl, hb2⟩
      have HB2 := Lib.hid (HB1.out.trans (hb2.mono HB1.out.size))
      clear hb2 HB1
      go_wp2_with fail
      refine (d3.out _).mono ?_
      rintro e w3 ⟨rfl, hb3⟩
      have HB3 := Lib.hid (HB2.out.trans (hb3.mono HB2.out.size))
      clear hb3 HB2
      go_wp2_with fail
      refine (ht.out _).mono ?_
      rintro e w4 ⟨rfl, hb4⟩
      have HB4 := Lib.hid (HB3.out.trans (hb4.mono HB3.out.size))
      clear hb4 HB3
      go_wp2
      go_ret
      exact ⟨rfl, HB4.out⟩
  
  · clear hD
    go_enter Try.func3, Try.ntmps3
    go_wp2_with fail
    refine (d1.out _).mono ?_
    rintro e w1 ⟨rfl, hb1⟩
    have HB1 := Lib.hid hb1
    clear hb1
    go_wp2_with fail
    refine (d2.out _).mono ?_
    rintro e w2 ⟨rfl, hb2⟩
    have HB2 := Lib.hid (HB1.out.trans (hb2.mono HB1.out.size))
    clear hb2 HB1
    go_wp2_with fail
    refine (d3.out _).mono ?_
    rintro e w3 ⟨rfl, hb3⟩
    have HB3 := Lib.hid (HB2.out.trans (hb3.mono HB2.out.size))
    clear hb3 HB2
    go_wp2_with fail
    refine (ht.out _).mono ?_
    rintro e w4 ⟨rfl, hb4⟩
    have HB4 := Lib.hid (HB3.out.trans (hb4.mono HB3.out.size))
    clear hb4 HB3
    go_wp2
    go_ret
    exact ⟨rfl, HB4.out⟩
set_option maxHeartbeats 2000000 in
set_option maxRecDepth 100000 in
theorem near_4 (a b k ka kb n nb D : Int) (w : World) (a1 : -1000000000 ≤ a) (a2 : a ≤ 1000000000) (b1 : 1 ≤ b) (b2 : b ≤ 1000000000) (k1 : 1 ≤ k) (k2 : k ≤ 1000)
    (eka : wrap64 (k * a) = ka) (ekb : wrap64 (k * b) = kb) (ka1 : -1000000000000 ≤ ka) (ka2 : ka ≤ 1000000000000) (kb1 : 1 ≤ kb) (kb2 : kb ≤ 1000000000000)
    (en : wrap64 (n * b) = nb) (eD : a - nb = D) (nb1 : -3000000000 ≤ nb) (nb2 : nb ≤ 3000000000) (D1 : -b < D) (D2 : D < b) (hD : 2 * D ≤ b ∧ -b ≤ 2 * D)
    (s1 : Hid (Sc.sc a 1 b 4 = (n, 0))) (s2 : Hid (Sc.sc ka 1 kb 4 = (n, 0))) (s3 : Hid (Sc.sc a k kb 4 = (n, 0))) :
    Calls Try.prog 3 #[.int .i64 a, .int .i64 b, .int .i64 k, .int .i64 4] w (Whole w) := by
  have ht := Lib.hid (fun w => told_any w)
  have d1 := Lib.hid (fun w => div_any a b 4 w (by omega) (by omega) (by omega))
  have d2 := Lib.hid (fun w => div_any ka kb 4 w (by omega) (by omega) (by omega))
  have d3 := Lib.hid (fun w => scale_any a k kb 4 w (by omega) (by omega) (by omega) (by omega))
  rw [s1.out] at d1
  rw [s2.out] at d2
  rw [s3.out] at d3
  unfold scRet at d1 d2 d3
  have c1 : decide (a < -1000000000) = false := by rw [decide_eq_false_iff_not]; omega
  have c2 : decide (1000000000 < a) = false := by rw [decide_eq_false_iff_not]; omega
  have c3 : decide (b < 1) = false := by rw [decide_eq_false_iff_not]; omega
  have c4 : decide (1000000000 < b) = false := by rw [decide_eq_false_iff_not]; omega
  have c5 : decide (k < 1) = false := by rw [decide_eq_false_iff_not]; omega
  have c6 : decide (1000 < k) = false := by rw [decide_eq_false_iff_not]; omega
  have c9 : decide (-b < D) = true := by rw [decide_eq_true_eq]; omega
  have c10 : decide (D < b) = true := by rw [decide_eq_true_eq]; omega
  have c11 : decide (2 * D ≤ b) = true := by rw [decide_eq_true_eq]; exact hD.1
  have c12 : decide (-b ≤ 2 * D) = true := by rw [decide_eq_true_eq]; exact hD.2
  clear hD
  go_enter Try.func3, Try.ntmps3
  go_wp2_with fail
  refine (d1.out _).mono ?_
  rintro e w1 ⟨rfl, hb1⟩
  have HB1 := Lib.hid hb1
  clear hb1
  go_wp2_with fail
  refine (d2.out _).mono ?_
  rintro e w2 ⟨rfl, hb2⟩
  have HB2 := Lib.hid (HB1.out.trans (hb2.mono HB1.out.size))
  clear hb2 HB1
  go_wp2_with fail
  refine (d3.out _).mono ?_
  rintro e w3 ⟨rfl, hb3⟩
  have HB3 := Lib.hid (HB2.out.trans (hb3.mono HB2.out.size))
  clear hb3 HB2
  go_wp2_with fail
  refine (ht.out _).mono ?_
  rintro e w4 ⟨rfl, hb4⟩
  have HB4 := Lib.hid (HB3.out.trans (hb4.mono HB3.out.size))
  clear hb4 HB3
  go_wp2
  go_ret
  exact ⟨rfl, HB4.out⟩
set_option maxHeartbeats 2000000 in
set_option maxRecDepth 100000 in
theorem near_5 (a b k ka kb n nb D : Int) (w : World) (a1 : -1000000000 ≤ a) (a2 : a ≤ 1000000000) (b1 : 1 ≤ b) (b2 : b ≤ 1000000000) (k1 : 1 ≤ k) (k2 : k ≤ 1000)
    (eka : wrap64 (k * a) = ka) (ekb : wrap64 (k * b) = kb) (ka1 : -1000000000000 ≤ ka) (ka2 : ka ≤ 1000000000000) (kb1 : 1 ≤ kb) (kb2 : kb ≤ 1000000000000)
    (en : wrap64 (n * b) = nb) (eD : a - nb = D) (nb1 : -3000000000 ≤ nb) (nb2 : nb ≤ 3000000000) (D1 : -b < D) (D2 : D < b) (hD : 2 * D ≤ b ∧ -b ≤ 2 * D)
    (s1 : Hid (Sc.sc a 1 b 5 = (n, 0))) (s2 : Hid (Sc.sc ka 1 kb 5 = (n, 0))) (s3 : Hid (Sc.sc a k kb 5 = (n, 0))) :
    Calls Try.prog 3 #[.int .i64 a, .int .i64 b, .int .i64 k, .int .i64 5] w (Whole w) := by
  have ht := Lib.hid (fun w => told_any w)
  have d1 := Lib.hid (fun w => div_any a b 5 w (by omega) (by omega) (by omega))
  have d2 := Lib.hid (fun w => div_any ka kb 5 w (by omega) (by omega) (by omega))
  have d3 := Lib.hid (fun w => scale_any a k kb 5 w (by omega) (by omega) (by omega) (by omega))
  rw [s1.out] at d1
  rw [s2.out] at d2
  rw [s3.out] at d3
  unfold scRet at d1 d2 d3
  have c1 : decide (a < -1000000000) = false := by rw [decide_eq_false_iff_not]; omega
  have c2 : decide (1000000000 < a) = false := by rw [decide_eq_false_iff_not]; omega
  have c3 : decide (b < 1) = false := by rw [decide_eq_false_iff_not]; omega
  have c4 : decide (1000000000 < b) = false := by rw [decide_eq_false_iff_not]; omega
  have c5 : decide (k < 1) = false := by rw [decide_eq_false_iff_not]; omega
  have c6 : decide (1000 < k) = false := by rw [decide_eq_false_iff_not]; omega
  have c9 : decide (-b < D) = true := by rw [decide_eq_true_eq]; omega
  have c10 : decide (D < b) = true := by rw [decide_eq_true_eq]; omega
  have c11 : decide (2 * D ≤ b) = true := by rw [decide_eq_true_eq]; exact hD.1
  have c12 : decide (-b ≤ 2 * D) = true := by rw [decide_eq_true_eq]; exact hD.2
  clear hD
  go_enter Try.func3, Try.ntmps3
  go_wp2_with fail
  refine (d1.out _).mono ?_
  rintro e w1 ⟨rfl, hb1⟩
  have HB1 := Lib.hid hb1
  clear hb1
  go_wp2_with fail
  refine (d2.out _).mono ?_
  rintro e w2 ⟨rfl, hb2⟩
  have HB2 := Lib.hid (HB1.out.trans (hb2.mono HB1.out.size))
  clear hb2 HB1
  go_wp2_with fail
  refine (d3.out _).mono ?_
  rintro e w3 ⟨rfl, hb3⟩
  have HB3 := Lib.hid (HB2.out.trans (hb3.mono HB2.out.size))
  clear hb3 HB2
  go_wp2_with fail
  refine (ht.out _).mono ?_
  rintro e w4 ⟨rfl, hb4⟩
  have HB4 := Lib.hid (HB3.out.trans (hb4.mono HB3.out.size))
  clear hb4 HB3
  go_wp2
  go_ret
  exact ⟨rfl, HB4.out⟩

theorem near_any (a b k how : Int) (w : World) : Calls Try.prog 3 #[.int .i64 a, .int .i64 b, .int .i64 k, .int .i64 how] w (Whole w) := by
  by_cases h : a < -1000000000 ∨ 1000000000 < a ∨ b < 1 ∨ 1000000000 < b ∨ k < 1 ∨ 1000 < k
  · exact near_out a b k how w h
  have a1 : -1000000000 ≤ a := by omega
  have a2 : a ≤ 1000000000 := by omega
  have b1 : 1 ≤ b := by omega
  have b2 : b ≤ 1000000000 := by omega
  have k1 : 1 ≤ k := by omega
  have k2 : k ≤ 1000 := by omega
  have ka1 : -1000000000000 ≤ k * a := by
    have := Int.mul_le_mul_of_nonneg_left a1 (show 0 ≤ k by omega)
    omega
  have ka2 : k * a ≤ 1000000000000 := by
    have := Int.mul_le_mul_of_nonneg_left a2 (show 0 ≤ k by omega)
    omega
  have kb1 : 1 ≤ k * b := by
    have := Int.mul_le_mul_of_nonneg_left b1 (show 0 ≤ k by omega)
    omega
  have kb2 : k * b ≤ 1000000000000 := by
    have := Int.mul_le_mul_of_nonneg_left b2 (show 0 ≤ k by omega)
    omega
  have eka := wrap64_of (n := k * a) (by omega) (by omega)
  have ekb := wrap64_of (n := k * b) (by omega) (by omega)
  by_cases h2 : how < 1 ∨ 5 < how
  · exact near_kind a b k how _ _ w a1 a2 b1 b2 k1 k2 eka ekb ka1 ka2 kb1 kb2 h2
  obtain ⟨n, s1, s2, s3, D1, D2, n1, n2, p1, p2, p3, p4⟩ := Sc.near a b k how a1 a2 b1 b2 k1 k2 (by omega) (by omega)
  have en := wrap64_of (n := n * b) (by omega) (by omega)
  rcases (show how = 1 ∨ how = 2 ∨ how = 3 ∨ how = 4 ∨ how = 5 by omega) with rfl | rfl | rfl | rfl | rfl
  · exact near_1 a b k _ _ n _ _ w a1 a2 b1 b2 k1 k2 eka ekb ka1 ka2 kb1 kb2 en rfl (by omega) (by omega) D1 D2 (p1 rfl) (Lib.hid s1) (Lib.hid s2) (Lib.hid s3)
  · exact near_2 a b k _ _ n _ _ w a1 a2 b1 b2 k1 k2 eka ekb ka1 ka2 kb1 kb2 en rfl (by omega) (by omega) D1 D2 (p2 rfl) (Lib.hid s1) (Lib.hid s2) (Lib.hid s3)
  · exact near_3 a b k _ _ n _ _ w a1 a2 b1 b2 k1 k2 eka ekb ka1 ka2 kb1 kb2 en rfl (by omega) (by omega) D1 D2 (p3 rfl) (Lib.hid s1) (Lib.hid s2) (Lib.hid s3)
  · exact near_4 a b k _ _ n _ _ w a1 a2 b1 b2 k1 k2 eka ekb ka1 ka2 kb1 kb2 en rfl (by omega) (by omega) D1 D2 (p4 (by omega)) (Lib.hid s1) (Lib.hid s2) (Lib.hid s3)
  · exact near_5 a b k _ _ n _ _ w a1 a2 b1 b2 k1 k2 eka ekb ka1 ka2 kb1 kb2 en rfl (by omega) (by omega) D1 D2 (p4 (by omega)) (Lib.hid s1) (Lib.hid s2) (Lib.hid s3)
end Go.Proofs.Ytkekpnompooaiaa
