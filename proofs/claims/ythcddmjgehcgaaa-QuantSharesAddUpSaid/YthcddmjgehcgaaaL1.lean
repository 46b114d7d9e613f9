/- The law QuantRoundsAreNear: its walk. -/
import Derived.Test.YthcddmjgehcgaaaZ
namespace Go.Proofs.Ythcddmjgehcgaaa
open Go.RowKit Go.BigFrame

def Whole (w : World) (e : Ending) (w' : World) : Prop := e = .returned (.bool true) ∧ Below w.heap.size w w'
set_option maxHeartbeats 1000000 in
set_option maxRecDepth 100000 in
theorem near_out (a b k how : Int) (w : World) (h : a < -1000000000 ∨ 1000000000 < a ∨ b < 1 ∨ 1000000000 < b ∨ k < 1 ∨ 1000 < k) :
    Calls Try.prog 3 #[.int .i64 a, .int .i64 b, .int .i64 k, .int .i64 how] w (Whole w) := by
  have ht := Lib.hid (told_any w)
  have dn : ∀ {x y : Int}, ¬ x < y → decide (x < y) = false := fun h => by rw [decide_eq_false_iff_not]; exact h
  have dp : ∀ {x y : Int}, x < y → decide (x < y) = true := fun h => by rw [decide_eq_true_eq]; exact h
  by_cases h1 : a < -1000000000
  · have c1 := dp h1
    clear h h1 dn dp
    go_enter Try.func3, Try.ntmps3
    go_wp2_with fail
    refine ht.out.mono ?_
    rintro e w1 ⟨rfl, hb⟩
    go_wp2
    go_ret
    exact ⟨rfl, hb⟩
  have c1 := dn h1
  by_cases h2 : 1000000000 < a
  · have c2 := dp h2
    clear h h1 h2 dn dp
    go_enter Try.func3, Try.ntmps3
    go_wp2_with fail
    refine ht.out.mono ?_
    rintro e w1 ⟨rfl, hb⟩
    go_wp2
    go_ret
    exact ⟨rfl, hb⟩
  have c2 := dn h2
  by_cases h3 : b < 1
  · have c3 := dp h3
    clear h h1 h2 h3 dn dp
    go_enter Try.func3, Try.ntmps3
    go_wp2_with fail
    refine ht.out.mono ?_
    rintro e w1 ⟨rfl, hb⟩
    go_wp2
    go_ret
    exact ⟨rfl, hb⟩
  have c3 := dn h3
  by_cases h4 : 1000000000 < b
  · have c4 := dp h4
    clear h h1 h2 h3 h4 dn dp
    go_enter Try.func3, Try.ntmps3
    go_wp2_with fail
    refine ht.out.mono ?_
    rintro e w1 ⟨rfl, hb⟩
    go_wp2
    go_ret
    exact ⟨rfl, hb⟩
  have c4 := dn h4
  by_cases h5 : k < 1
  · have c5 := dp h5
    clear h h1 h2 h3 h4 h5 dn dp
    go_enter Try.func3, Try.ntmps3
    go_wp2_with fail
    refine ht.out.mono ?_
    rintro e w1 ⟨rfl, hb⟩
    go_wp2
    go_ret
    exact ⟨rfl, hb⟩
  have c5 := dn h5
  have c6 : decide (1000 < k) = true := dp (by omega)
  clear h h1 h2 h3 h4 h5 dn dp
  go_enter Try.func3, Try.ntmps3
  go_wp2_with fail
  refine ht.out.mono ?_
  rintro e w1 ⟨rfl, hb⟩
  go_wp2
  go_ret
  exact ⟨rfl, hb⟩

set_option maxHeartbeats 2000000 in
set_option maxRecDepth 100000 in
theorem near_kind (a b k how ka kb : Int) (w : World) (a1 : -1000000000 ≤ a) (a2 : a ≤ 1000000000) (b1 : 1 ≤ b) (b2 : b ≤ 1000000000) (k1 : 1 ≤ k) (k2 : k ≤ 1000)
    (eka : wrap64 (k * a) = ka) (ekb : wrap64 (k * b) = kb) (ka1 : -1000000000000 ≤ ka) (ka2 : ka ≤ 1000000000000) (kb1 : 1 ≤ kb) (kb2 : kb ≤ 1000000000000) (h : how < 1 ∨ 5 < how) :
    Calls Try.prog 3 #[.int .i64 a, .int .i64 b, .int .i64 k, .int .i64 how] w (Whole w) := by
  have ht := Lib.hid (fun w => told_any w)
  have d1 := Lib.hid (fun w => div_any a b how w (by omega) (by omega) (by omega))
  have d2 := Lib.hid (fun w => div_any ka kb how w (by omega) (by omega) (by omega))
  have d3 := Lib.hid (fun w => scale_any a k kb how w (by omega) (by omega) (by omega) (by omega))
  rw [Sc.sc_kind _ _ _ _ h] at d1 d2 d3
  unfold scRet at d1 d2 d3
  have hor : (decide (how < 1) = true ∧ True) ∨ (decide (how < 1) = false ∧ decide (5 < how) = true) := by
    by_cases h1 : how < 1
    · exact .inl ⟨by simpa using h1, trivial⟩
    · exact .inr ⟨by simpa using h1, by rw [decide_eq_true_eq]; omega⟩
  clear h
  have c1 : decide (a < -1000000000) = false := by rw [decide_eq_false_iff_not]; omega
  have c2 : decide (1000000000 < a) = false := by rw [decide_eq_false_iff_not]; omega
  have c3 : decide (b < 1) = false := by rw [decide_eq_false_iff_not]; omega
  have c4 : decide (1000000000 < b) = false := by rw [decide_eq_false_iff_not]; omega
  have c5 : decide (k < 1) = false := by rw [decide_eq_false_iff_not]; omega
  have c6 : decide (1000 < k) = false := by rw [decide_eq_false_iff_not]; omega
  rcases hor with ⟨c7, _⟩ | ⟨c7, c8⟩
  all_goals
    go_enter Try.func3, Try.ntmps3
    go_wp2_with fail
    refine (d1.out _).mono ?_
    rintro e w1 ⟨rfl, hb1⟩
    have HB1 := Lib.hid hb1
    clear hb1
    go_wp2_with fail
    refine (d2.out _).mono ?_
    rintro e w2 ⟨rfl, hb2⟩
    have HB2 := Lib.hid (HB1.out.trans (hb2.mono HB1.out.size))
    clear hb2 HB1
    go_wp2_with fail
    refine (d3.out _).mono ?_
    rintro e w3 ⟨rfl, hb3⟩
    have HB3 := Lib.hid (HB2.out.trans (hb3.mono HB2.out.size))
    clear hb3 HB2
    go_wp2_with fail
    refine (ht.out _).mono ?_
    rintro e w4 ⟨rfl, hb4⟩
    have HB4 := Lib.hid (HB3.out.trans (hb4.mono HB3.out.size))
    clear hb4 HB3
    go_wp2
    go_ret
    exact ⟨rfl, HB4.out⟩
end Go.Proofs.Ythcddmjgehcgaaa
