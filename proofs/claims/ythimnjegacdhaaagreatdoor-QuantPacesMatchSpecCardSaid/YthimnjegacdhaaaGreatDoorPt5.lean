/- Several texts of this claim in one. -/
import Derived.Test.YthimnjegacdhaaaGreatDoorPt4
import Derived.Test.YthimnjegacdhaaaGreatDoorPt2
import Derived.WalkSmall
import Derived.Laws.EntriesVeiled
import Derived.Handy
import Derived.StillTailTactics
import Derived.Test.YthimnjegacdhaaaGreatDoorPt3
/- PaceOf, SpeedOf, TimeFor, PaceText of both. -/
namespace Go.Proofs.YthimnjegacdhaaaGreatDoor
open Go.RowKit Go.BigFrame
open Rd (itoaB padB)

def paceB (n : Int) : Bool := decide (1 ≤ n) && decide (n ≤ 36000)
theorem isPaceP_any (n : Int) (w : World) : Calls Tryz.prog 26 #[.int .i64 n] w fun e w' => e = .returned (.bool (paceB n)) ∧ w = w' := by
  unfold paceB
  by_cases h1 : 1 ≤ n
  · have a1 : decide (1 ≤ n) = true := by simpa using h1
    have a2 : decide (n ≥ 1) = true := by simpa using h1
    obtain ⟨b, hb⟩ : ∃ b, decide (n ≤ 36000) = b := ⟨_, rfl⟩
    cases b
    all_goals
      go_enter Tryz.func26, Tryz.ntmps26
      go_wp2
      go_ret
      exact ⟨by first | rfl | (rw [a1, hb]; rfl) | simp_all, rfl⟩
  · have a1 : decide (1 ≤ n) = false := by simpa using h1
    have a2 : decide (n ≥ 1) = false := by simpa using h1
    go_enter Tryz.func26, Tryz.ntmps26
    go_wp2
    go_ret
    exact ⟨by first | rfl | (rw [a1]; rfl), rfl⟩
def okWay (d s : Int) : Bool := decide (1 ≤ d) && decide (d ≤ 1000000000) && (decide (1 ≤ s) && decide (s ≤ 3599999))
theorem okWay_true {d s : Int} (h : okWay d s = true) : (1 ≤ d ∧ d ≤ 1000000000) ∧ 1 ≤ s ∧ s ≤ 3599999 := by unfold okWay at h; simpa using h
theorem checkWay_any (d s : Int) (w : World) : Calls Tryz.prog 24 #[.int .i64 d, .int .i64 s] w fun e w' => e = .returned (.int .i64 (if okWay d s = true then 0 else 9)) ∧ w = w' := by
  by_cases h1 : d < 1
  · have a1 : decide (d < 1) = true := by simpa using h1
    have HX := Lib.hid (show (if okWay d s = true then (0 : Int) else 9) = 9 from if_neg (fun h => by have := okWay_true h; omega))
    rw [HX.out]
    go_enter Tryz.func24, Tryz.ntmps24
    go_wp2
    go_ret
    exact ⟨rfl, rfl⟩
  have a1 : decide (d < 1) = false := by simpa using h1
  by_cases h2 : 1000000000 < d
  · have a2 : decide (1000000000 < d) = true := by simpa using h2
    have HX := Lib.hid (show (if okWay d s = true then (0 : Int) else 9) = 9 from if_neg (fun h => by have := okWay_true h; omega))
    rw [HX.out]
    go_enter Tryz.func24, Tryz.ntmps24
    go_wp2
    go_ret
    exact ⟨rfl, rfl⟩
  have a2 : decide (1000000000 < d) = false := by simpa using h2
  by_cases h3 : s < 1
  · have a3 : decide (s < 1) = true := by simpa using h3
    have HX := Lib.hid (show (if okWay d s = true then (0 : Int) else 9) = 9 from if_neg (fun h => by have := okWay_true h; omega))
    rw [HX.out]
    go_enter Tryz.func24, Tryz.ntmps24
    go_wp2
    go_ret
    exact ⟨rfl, rfl⟩
  have a3 : decide (s < 1) = false := by simpa using h3
  by_cases h4 : 3599999 < s
  · have a4 : decide (3599999 < s) = true := by simpa using h4
    have HX := Lib.hid (show (if okWay d s = true then (0 : Int) else 9) = 9 from if_neg (fun h => by have := okWay_true h; omega))
    rw [HX.out]
    go_enter Tryz.func24, Tryz.ntmps24
    go_wp2
    go_ret
    exact ⟨rfl, rfl⟩
  have a4 : decide (3599999 < s) = false := by simpa using h4
  have HX := Lib.hid (show (if okWay d s = true then (0 : Int) else 9) = 0 from if_pos (by unfold okWay; simp; omega))
  rw [HX.out]
  go_enter Tryz.func24, Tryz.ntmps24
  go_wp2
  go_ret
  exact ⟨rfl, rfl⟩
def paceOfF (d s : Int) : Int × Int := if okWay d s = true then (if paceB (Sc.sc s 10000 d 4).1 = true then ((Sc.sc s 10000 d 4).1, 0) else (0, 9)) else (0, 9)
def speedOfF (d s : Int) : Int × Int := if okWay d s = true then Sc.sc d 360 s 4 else (0, 9)
def okTime (d p : Int) : Bool := decide (0 ≤ d) && decide (d ≤ 1000000000) && paceB p
theorem okTime_true {d p : Int} (h : okTime d p = true) : (0 ≤ d ∧ d ≤ 1000000000) ∧ 1 ≤ p ∧ p ≤ 36000 := by unfold okTime paceB at h; simpa using h
def timeForF (d p : Int) : Int × Int := if okTime d p = true then Sc.sc d p 10000 4 else (0, 9)
set_option maxHeartbeats 2000000 in
set_option maxRecDepth 100000 in
theorem paceOf_any (d s : Int) (w : World) : Calls Tryz.prog 5 #[.int .i64 d, .int .i64 s] w fun e w' => e = scRet (paceOfF d s) ∧ Below w.heap.size w w' := by
  have D1 := Lib.hid (fun W => checkWay_any d s W)
  cases hok : okWay d s
  case false =>
    have HX := Lib.hid (show paceOfF d s = (0, 9) by unfold paceOfF; rw [hok]; rfl)
    rw [hok, if_neg (by simp)] at D1
    clear hok
    go_enter Tryz.func5, Tryz.ntmps5
    go_wp2_with (go_at_call 24; refine (D1.out _).mono ?_; rintro e _ ⟨rfl, rfl⟩)
    go_ret2
    exact ⟨by rw [HX.out]; rfl, Below.refl _ _⟩
  case true =>
    have hr := okWay_true hok
    have D2 := Lib.hid (fun W => scale_any s 10000 d 4 W (by omega) (by omega) (by omega) (by omega))
    unfold scRet at D2
    have HP : Hid (paceOfF d s = if paceB (Sc.sc s 10000 d 4).1 = true then ((Sc.sc s 10000 d 4).1, 0) else (0, 9)) := Lib.hid (by unfold paceOfF; rw [hok]; rfl)
    obtain ⟨sv, hsv⟩ : ∃ sv, Sc.sc s 10000 d 4 = sv := ⟨_, rfl⟩
    rw [hsv] at D2 HP
    obtain ⟨v, v2⟩ := sv
    simp only at D2 HP
    have D3 : Hid (∀ W : World, Calls Tryz.prog 26 #[.int .i64 v] W fun e w' => e = .returned (.bool (paceB v)) ∧ W = w') := Lib.hid (fun W => isPaceP_any v W)
    rw [hok, if_pos rfl] at D1
    clear hsv hok
    cases hp : paceB v
    case false =>
      rw [hp] at D3 HP
      have HX := Lib.hid (HP.out.trans (if_neg (by simp)))
      clear HP hp hr
      go_enter Tryz.func5, Tryz.ntmps5
      go_wp2_with (first | (go_at_call 24; refine (D1.out _).mono ?_; rintro e _ ⟨rfl, rfl⟩) | (go_at_call 25; refine (D2.out _).mono ?_; rintro e w2 ⟨rfl, hb2⟩) | (go_at_call 26; refine (D3.out _).mono ?_; rintro e _ ⟨rfl, rfl⟩))
      go_ret2
      exact ⟨by rw [HX.out]; rfl, hb2⟩
    case true =>
      rw [hp] at D3 HP
      have HX := Lib.hid (HP.out.trans (if_pos rfl))
      clear HP hp hr
      go_enter Tryz.func5, Tryz.ntmps5
      go_wp2_with (first | (go_at_call 24; refine (D1.out _).mono ?_; rintro e _ ⟨rfl, rfl⟩) | (go_at_call 25; refine (D2.out _).mono ?_; rintro e w2 ⟨rfl, hb2⟩) | (go_at_call 26; refine (D3.out _).mono ?_; rintro e _ ⟨rfl, rfl⟩))
      go_ret2
      exact ⟨by rw [HX.out]; rfl, hb2⟩
set_option maxHeartbeats 2000000 in
set_option maxRecDepth 100000 in
theorem speedOf_any (d s : Int) (w : World) : Calls Tryz.prog 7 #[.int .i64 d, .int .i64 s] w fun e w' => e = scRet (speedOfF d s) ∧ Below w.heap.size w w' := by
  have D1 := Lib.hid (fun W => checkWay_any d s W)
  cases hok : okWay d s
  case false =>
    have HX := Lib.hid (show speedOfF d s = (0, 9) by unfold speedOfF; rw [hok]; rfl)
    rw [hok, if_neg (by simp)] at D1
    clear hok
    go_enter Tryz.func7, Tryz.ntmps7
    go_wp2_with (go_at_call 24; refine (D1.out _).mono ?_; rintro e _ ⟨rfl, rfl⟩)
    go_ret2
    exact ⟨by rw [HX.out]; rfl, Below.refl _ _⟩
  case true =>
    have hr := okWay_true hok
    have D2 := Lib.hid (fun W => scale_any d 360 s 4 W (by omega) (by omega) (by omega) (by omega))
    unfold scRet at D2
    have HX : Hid (speedOfF d s = Sc.sc d 360 s 4) := Lib.hid (by unfold speedOfF; rw [hok]; rfl)
    obtain ⟨sv, hsv⟩ : ∃ sv, Sc.sc d 360 s 4 = sv := ⟨_, rfl⟩
    rw [hsv] at D2 HX
    obtain ⟨v, v2⟩ := sv
    simp only at D2
    rw [hok, if_pos rfl] at D1
    clear hsv hok hr
    go_enter Tryz.func7, Tryz.ntmps7
    go_wp2_with (first | (go_at_call 24; refine (D1.out _).mono ?_; rintro e _ ⟨rfl, rfl⟩) | (go_at_call 25; refine (D2.out _).mono ?_; rintro e w2 ⟨rfl, hb2⟩))
    go_ret2
    exact ⟨by rw [HX.out]; rfl, hb2⟩
set_option maxHeartbeats 2000000 in
set_option maxRecDepth 100000 in
theorem timeFor_any (d s : Int) (w : World) : Calls Tryz.prog 9 #[.int .i64 d, .int .i64 s] w fun e w' => e = scRet (timeForF d s) ∧ Below w.heap.size w w' := by
  have D3 : Hid (∀ W : World, Calls Tryz.prog 26 #[.int .i64 s] W fun e w' => e = .returned (.bool (paceB s)) ∧ W = w') := Lib.hid (fun W => isPaceP_any s W)
  by_cases h4 : d < 0
  · have HX := Lib.hid (show timeForF d s = (0, 9) from if_neg (fun h => by have := okTime_true h; omega))
    have a1 : decide (d < 0) = true := by simpa using h4
    go_enter Tryz.func9, Tryz.ntmps9
    go_wp2
    go_ret2
    exact ⟨by rw [HX.out]; rfl, Below.refl _ _⟩
  have b1 : decide (d < 0) = false := by simpa using h4
  by_cases h5 : 1000000000 < d
  · have HX := Lib.hid (show timeForF d s = (0, 9) from if_neg (fun h => by have := okTime_true h; omega))
    have a1 : decide (1000000000 < d) = true := by simpa using h5
    go_enter Tryz.func9, Tryz.ntmps9
    go_wp2
    go_ret2
    exact ⟨by rw [HX.out]; rfl, Below.refl _ _⟩
  have b2 : decide (1000000000 < d) = false := by simpa using h5
  cases hp : paceB s
  case false =>
    have HX := Lib.hid (show timeForF d s = (0, 9) by unfold timeForF okTime; rw [hp, Bool.and_false]; rfl)
    rw [hp] at D3
    clear hp
    go_enter Tryz.func9, Tryz.ntmps9
    go_wp2_with (go_at_call 26; refine (D3.out _).mono ?_; rintro e _ ⟨rfl, rfl⟩)
    go_ret2
    exact ⟨by rw [HX.out]; rfl, Below.refl _ _⟩
  case true =>
    have hok : okTime d s = true := by
      unfold okTime
      rw [hp, decide_eq_true (show 0 ≤ d by omega), decide_eq_true (show d ≤ 1000000000 by omega)]
      rfl
    have hr := okTime_true hok
    have D2 := Lib.hid (fun W => scale_any d s 10000 4 W (by omega) (by omega) (by omega) (by omega))
    unfold scRet at D2
    have HX : Hid (timeForF d s = Sc.sc d s 10000 4) := Lib.hid (by unfold timeForF; rw [hok]; rfl)
    obtain ⟨sv, hsv⟩ : ∃ sv, Sc.sc d s 10000 4 = sv := ⟨_, rfl⟩
    rw [hsv] at D2 HX
    obtain ⟨v, v2⟩ := sv
    simp only at D2
    rw [hp] at D3
    clear hsv hok hr hp
    go_enter Tryz.func9, Tryz.ntmps9
    go_wp2_with (first | (go_at_call 26; refine (D3.out _).mono ?_; rintro e _ ⟨rfl, rfl⟩) | (go_at_call 25; refine (D2.out _).mono ?_; rintro e w2 ⟨rfl, hb2⟩))
    go_ret2
    exact ⟨by rw [HX.out]; rfl, hb2⟩
set_option maxHeartbeats 2000000 in
set_option maxRecDepth 100000 in
theorem rpaceOf_any (d s : Int) (w : World) : Calls Tryz.prog 6 #[.int .i64 d, .int .i64 s] w fun e w' => e = scRet (paceOfF d s) ∧ Below w.heap.size w w' := by
  have O1 := Lib.hid (fun W => outside_any d 1 1000000000 W)
  have O2 := Lib.hid (fun W => outside_any s 1 3599999 W)
  cases hok : okWay d s
  case false =>
    have HX := Lib.hid (show paceOfF d s = (0, 9) by unfold paceOfF; rw [hok]; rfl)
    by_cases hd : 1 ≤ d ∧ d ≤ 1000000000
    · rw [show (decide (d < 1) || decide (1000000000 < d)) = false by simp; omega] at O1
      rw [show (decide (s < 1) || decide (3599999 < s)) = true by
        by_cases hs : 1 ≤ s ∧ s ≤ 3599999
        · exact absurd hok (by unfold okWay; simp; omega)
        · simp; omega] at O2
      clear hok hd
      go_enter Tryz.func6, Tryz.ntmps6
      go_wp2_with fail
      refine (O1.out _).mono ?_
      rintro e _ ⟨rfl, rfl⟩
      go_wp2_with fail
      refine (O2.out _).mono ?_
      rintro e _ ⟨rfl, rfl⟩
      go_wp2_with fail
      go_ret2
      exact ⟨by rw [HX.out]; rfl, Below.refl _ _⟩
    · rw [show (decide (d < 1) || decide (1000000000 < d)) = true by simp; omega] at O1
      clear hok hd
      go_enter Tryz.func6, Tryz.ntmps6
      go_wp2_with (go_at_call 27; refine (O1.out _).mono ?_; rintro e _ ⟨rfl, rfl⟩)
      go_ret2
      exact ⟨by rw [HX.out]; rfl, Below.refl _ _⟩
  case true =>
    have hr := okWay_true hok
    have D2 := Lib.hid (fun W => rscale_any s 10000 d 4 W (by omega) (by omega) (by omega) (by omega))
    unfold scRet at D2
    have HP : Hid (paceOfF d s = if paceB (Sc.sc s 10000 d 4).1 = true then ((Sc.sc s 10000 d 4).1, 0) else (0, 9)) := Lib.hid (by unfold paceOfF; rw [hok]; rfl)
    obtain ⟨sv, hsv⟩ : ∃ sv, Sc.sc s 10000 d 4 = sv := ⟨_, rfl⟩
    rw [hsv] at D2 HP
    obtain ⟨v, v2⟩ := sv
    simp only at D2 HP
    have D3 : Hid (∀ W : World, Calls Tryz.prog 29 #[.int .i64 v] W fun e w' => e = .returned (.bool (paceB v)) ∧ W = w') := Lib.hid (fun W => isPaceR_any v W)
    rw [show (decide (d < 1) || decide (1000000000 < d)) = false by simp; omega] at O1
    rw [show (decide (s < 1) || decide (3599999 < s)) = false by simp; omega] at O2
    clear hsv hok
    cases hp : paceB v
    case false =>
      rw [hp] at D3 HP
      have HX := Lib.hid (HP.out.trans (if_neg (by simp)))
      clear HP hp hr
      go_enter Tryz.func6, Tryz.ntmps6
      go_wp2_with fail
      refine (O1.out _).mono ?_
      rintro e _ ⟨rfl, rfl⟩
      go_wp2_with fail
      refine (O2.out _).mono ?_
      rintro e _ ⟨rfl, rfl⟩
      go_wp2_with (first | (go_at_call 28; refine (D2.out _).mono ?_; rintro e w2 ⟨rfl, hb2⟩) | (go_at_call 29; refine (D3.out _).mono ?_; rintro e _ ⟨rfl, rfl⟩))
      go_ret2
      exact ⟨by rw [HX.out]; rfl, hb2⟩
    case true =>
      rw [hp] at D3 HP
      have HX := Lib.hid (HP.out.trans (if_pos rfl))
      clear HP hp hr
      go_enter Tryz.func6, Tryz.ntmps6
      go_wp2_with fail
      refine (O1.out _).mono ?_
      rintro e _ ⟨rfl, rfl⟩
      go_wp2_with fail
      refine (O2.out _).mono ?_
      rintro e _ ⟨rfl, rfl⟩
      go_wp2_with (first | (go_at_call 28; refine (D2.out _).mono ?_; rintro e w2 ⟨rfl, hb2⟩) | (go_at_call 29; refine (D3.out _).mono ?_; rintro e _ ⟨rfl, rfl⟩))
      go_ret2
      exact ⟨by rw [HX.out]; rfl, hb2⟩
set_option maxHeartbeats 2000000 in
set_option maxRecDepth 100000 in
theorem rspeedOf_any (d s : Int) (w : World) : Calls Tryz.prog 8 #[.int .i64 d, .int .i64 s] w fun e w' => e = scRet (speedOfF d s) ∧ Below w.heap.size w w' := by
  have O1 := Lib.hid (fun W => outside_any d 1 1000000000 W)
  have O2 := Lib.hid (fun W => outside_any s 1 3599999 W)
  cases hok : okWay d s
  case false =>
    have HX := Lib.hid (show speedOfF d s = (0, 9) by unfold speedOfF; rw [hok]; rfl)
    by_cases hd : 1 ≤ d ∧ d ≤ 1000000000
    · rw [show (decide (d < 1) || decide (1000000000 < d)) = false by simp; omega] at O1
      rw [show (decide (s < 1) || decide (3599999 < s)) = true by
        by_cases hs : 1 ≤ s ∧ s ≤ 3599999
        · exact absurd hok (by unfold okWay; simp; omega)
        · simp; omega] at O2
      clear hok hd
      go_enter Tryz.func8, Tryz.ntmps8
      go_wp2_with fail
      refine (O1.out _).mono ?_
      rintro e _ ⟨rfl, rfl⟩
      go_wp2_with fail
      refine (O2.out _).mono ?_
      rintro e _ ⟨rfl, rfl⟩
      go_wp2_with fail
      go_ret2
      exact ⟨by rw [HX.out]; rfl, Below.refl _ _⟩
    · rw [show (decide (d < 1) || decide (1000000000 < d)) = true by simp; omega] at O1
      clear hok hd
      go_enter Tryz.func8, Tryz.ntmps8
      go_wp2_with (go_at_call 27; refine (O1.out _).mono ?_; rintro e _ ⟨rfl, rfl⟩)
      go_ret2
      exact ⟨by rw [HX.out]; rfl, Below.refl _ _⟩
  case true =>
    have hr := okWay_true hok
    have D2 := Lib.hid (fun W => rscale_any d 360 s 4 W (by omega) (by omega) (by omega) (by omega))
    unfold scRet at D2
    have HX : Hid (speedOfF d s = Sc.sc d 360 s 4) := Lib.hid (by unfold speedOfF; rw [hok]; rfl)
    obtain ⟨sv, hsv⟩ : ∃ sv, Sc.sc d 360 s 4 = sv := ⟨_, rfl⟩
    rw [hsv] at D2 HX
    obtain ⟨v, v2⟩ := sv
    simp only at D2
    rw [show (decide (d < 1) || decide (1000000000 < d)) = false by simp; omega] at O1
    rw [show (decide (s < 1) || decide (3599999 < s)) = false by simp; omega] at O2
    clear hsv hok hr
    go_enter Tryz.func8, Tryz.ntmps8
    go_wp2_with fail
    refine (O1.out _).mono ?_
    rintro e _ ⟨rfl, rfl⟩
    go_wp2_with fail
    refine (O2.out _).mono ?_
    rintro e _ ⟨rfl, rfl⟩
    go_wp2_with (go_at_call 28; refine (D2.out _).mono ?_; rintro e w2 ⟨rfl, hb2⟩)
    go_ret2
    exact ⟨by rw [HX.out]; rfl, hb2⟩
set_option maxHeartbeats 2000000 in
set_option maxRecDepth 100000 in
theorem rtimeFor_any (d s : Int) (w : World) : Calls Tryz.prog 10 #[.int .i64 d, .int .i64 s] w fun e w' => e = scRet (timeForF d s) ∧ Below w.heap.size w w' := by
  have D3 : Hid (∀ W : World, Calls Tryz.prog 29 #[.int .i64 s] W fun e w' => e = .returned (.bool (paceB s)) ∧ W = w') := Lib.hid (fun W => isPaceR_any s W)
  have O1 := Lib.hid (fun W => outside_any d 0 1000000000 W)
  by_cases h4 : d < 0
  · have HX := Lib.hid (show timeForF d s = (0, 9) from if_neg (fun h => by have := okTime_true h; omega))
    rw [show (decide (d < 0) || decide (1000000000 < d)) = true by simp; omega] at O1
    go_enter Tryz.func10, Tryz.ntmps10
    go_wp2_with (go_at_call 27; refine (O1.out _).mono ?_; rintro e _ ⟨rfl, rfl⟩)
    go_ret2
    exact ⟨by rw [HX.out]; rfl, Below.refl _ _⟩
  by_cases h5 : 1000000000 < d
  · have HX := Lib.hid (show timeForF d s = (0, 9) from if_neg (fun h => by have := okTime_true h; omega))
    rw [show (decide (d < 0) || decide (1000000000 < d)) = true by simp; omega] at O1
    go_enter Tryz.func10, Tryz.ntmps10
    go_wp2_with (go_at_call 27; refine (O1.out _).mono ?_; rintro e _ ⟨rfl, rfl⟩)
    go_ret2
    exact ⟨by rw [HX.out]; rfl, Below.refl _ _⟩
  rw [show (decide (d < 0) || decide (1000000000 < d)) = false by simp; omega] at O1
  cases hp : paceB s
  case false =>
    have HX := Lib.hid (show timeForF d s = (0, 9) by unfold timeForF okTime; rw [hp, Bool.and_false]; rfl)
    rw [hp] at D3
    clear hp
    go_enter Tryz.func10, Tryz.ntmps10
    go_wp2_with (first | (go_at_call 27; refine (O1.out _).mono ?_; rintro e _ ⟨rfl, rfl⟩) | (go_at_call 29; refine (D3.out _).mono ?_; rintro e _ ⟨rfl, rfl⟩))
    go_ret2
    exact ⟨by rw [HX.out]; rfl, Below.refl _ _⟩
  case true =>
    have hok : okTime d s = true := by
      unfold okTime
      rw [hp, decide_eq_true (show 0 ≤ d by omega), decide_eq_true (show d ≤ 1000000000 by omega)]
      rfl
    have hr := okTime_true hok
    have D2 := Lib.hid (fun W => rscale_any d s 10000 4 W (by omega) (by omega) (by omega) (by omega))
    unfold scRet at D2
    have HX : Hid (timeForF d s = Sc.sc d s 10000 4) := Lib.hid (by unfold timeForF; rw [hok]; rfl)
    obtain ⟨sv, hsv⟩ : ∃ sv, Sc.sc d s 10000 4 = sv := ⟨_, rfl⟩
    rw [hsv] at D2 HX
    obtain ⟨v, v2⟩ := sv
    simp only at D2
    rw [hp] at D3
    clear hsv hok hr hp
    go_enter Tryz.func10, Tryz.ntmps10
    go_wp2_with (first | (go_at_call 27; refine (O1.out _).mono ?_; rintro e _ ⟨rfl, rfl⟩) | (go_at_call 29; refine (D3.out _).mono ?_; rintro e _ ⟨rfl, rfl⟩) | (go_at_call 28; refine (D2.out _).mono ?_; rintro e w2 ⟨rfl, hb2⟩))
    go_ret2
    exact ⟨by rw [HX.out]; rfl, hb2⟩
def perKm : ByteArray := ⟨#[47, 107, 109]⟩
def paceText (n : Int) : ByteArray := itoaB (n / 60) ++ Rd.colon ++ padB (n % 60) ++ perKm
def paceTextR (n : Int) : ByteArray × Int := if paceB n = true then (paceText n, 0) else (⟨#[]⟩, 9)
set_option maxHeartbeats 2000000 in
theorem paceText_any (n : Int) (w : World) (hg : Glo w) : Calls Tryz.prog 11 #[.int .i64 n] w fun e w' => e = .returned (.tuple #[.string (paceTextR n).1, .int .i64 (paceTextR n).2]) ∧ Below w.heap.size w w' := by
  have D3 : Hid (∀ W : World, Calls Tryz.prog 26 #[.int .i64 n] W fun e w' => e = .returned (.bool (paceB n)) ∧ W = w') := Lib.hid (fun W => isPaceP_any n W)
  cases hp : paceB n
  case false =>
    have HX := Lib.hid (show paceTextR n = (⟨#[]⟩, 9) by unfold paceTextR; rw [hp]; rfl)
    rw [hp] at D3
    clear hp
    go_enter Tryz.func11, Tryz.ntmps11
    go_wp2_with (go_at_call 26; refine (D3.out _).mono ?_; rintro e _ ⟨rfl, rfl⟩)
    go_ret2
    exact ⟨by rw [HX.out]; rfl, Below.refl _ _⟩
  case true =>
    have hr : 1 ≤ n ∧ n ≤ 36000 := by unfold paceB at hp; simpa using hp
    have HX := Lib.hid (show paceTextR n = (itoaB (n / 60) ++ Rd.colon ++ padB (n % 60) ++ perKm, 0) by unfold paceTextR paceText; rw [hp]; rfl)
    rw [hp] at D3
    have HG := Lib.hid (fun (W : World) (h : Below w.heap.size w W) => hg.below h)
    have DA := Lib.hid (fun W h => itoa_any (n / 60) (by omega) (by omega) W (HG.out W h))
    have DB := Lib.hid (fun W h => two_any (n % 60) (by omega) (by omega) W (HG.out W h))
    have z1 := Rd.itoaB_size (n := n / 60) (by omega) (by omega)
    have z2 := Rd.padB_size (n := n % 60) (by omega) (by omega)
    generalize itoaB (n / 60) = r1 at HX DA z1
    generalize padB (n % 60) = r2 at HX DB z2
    clear hp
    go_enter Tryz.func11, Tryz.ntmps11
    go_upto_region 3 with (go_at_call 26; refine (D3.out _).mono ?_; rintro e _ ⟨rfl, rfl⟩)
    go_wp2_with fail
    refine (DA.out _ (Below.refl _ _)).mono ?_
    rintro e w1 ⟨rfl, hb1⟩
    go_wp2_with fail
    refine (DB.out w1 hb1).mono ?_
    rintro e w2 ⟨rfl, hb2⟩
    go_wp2_with fail
    go_ret2
    exact ⟨by rw [HX.out]; rfl, below_step hb1 hb2⟩
set_option maxHeartbeats 2000000 in
theorem rpaceText_any (n : Int) (w : World) (hg : Glo w) : Calls Tryz.prog 12 #[.int .i64 n] w fun e w' => e = .returned (.tuple #[.string (paceTextR n).1, .int .i64 (paceTextR n).2]) ∧ Below w.heap.size w w' := by
  have D3 : Hid (∀ W : World, Calls Tryz.prog 29 #[.int .i64 n] W fun e w' => e = .returned (.bool (paceB n)) ∧ W = w') := Lib.hid (fun W => isPaceR_any n W)
  cases hp : paceB n
  case false =>
    have HX := Lib.hid (show paceTextR n = (⟨#[]⟩, 9) by unfold paceTextR; rw [hp]; rfl)
    rw [hp] at D3
    clear hp
    go_enter Tryz.func12, Tryz.ntmps12
    go_wp2_with (go_at_call 29; refine (D3.out _).mono ?_; rintro e _ ⟨rfl, rfl⟩)
    go_ret2
    exact ⟨by rw [HX.out]; rfl, Below.refl _ _⟩
  case true =>
    have hr : 1 ≤ n ∧ n ≤ 36000 := by unfold paceB at hp; simpa using hp
    have HX := Lib.hid (show paceTextR n = (itoaB (n / 60) ++ Rd.colon ++ padB (n % 60) ++ perKm, 0) by unfold paceTextR paceText; rw [hp]; rfl)
    rw [hp] at D3
    have HG := Lib.hid (fun (W : World) (h : Below w.heap.size w W) => hg.below h)
    have DA := Lib.hid (fun W h => itoa_any (n / 60) (by omega) (by omega) W (HG.out W h))
    have DB := Lib.hid (fun W h => padded_any (n % 60) (by omega) (by omega) W (HG.out W h))
    have z1 := Rd.itoaB_size (n := n / 60) (by omega) (by omega)
    have z2 := Rd.padB_size (n := n % 60) (by omega) (by omega)
    generalize itoaB (n / 60) = r1 at HX DA z1
    generalize padB (n % 60) = r2 at HX DB z2
    clear hp
    go_enter Tryz.func12, Tryz.ntmps12
    go_upto_region 3 with (go_at_call 29; refine (D3.out _).mono ?_; rintro e _ ⟨rfl, rfl⟩)
    go_wp2_with fail
    refine (DA.out _ (Below.refl _ _)).mono ?_
    rintro e w1 ⟨rfl, hb1⟩
    go_wp2_with fail
    refine (DB.out w1 hb1).mono ?_
    rintro e w2 ⟨rfl, hb2⟩
    go_wp2_with fail
    go_ret2
    exact ⟨by rw [HX.out]; rfl, below_step hb1 hb2⟩
end Go.Proofs.YthimnjegacdhaaaGreatDoor

/- The reader: readerOf and its functions, each by its contract. -/
namespace Go.Proofs.YthimnjegacdhaaaGreatDoor
open Go.RowKit Go.BigFrame

def pt (b : Nat) : Value := .pointer (some ⟨b, 0, none⟩)
def digF (B : Nat) : Value := .func (.func 80) #[] #[pt (B + 3), pt (B + 2), pt B]
def takeF (B : Nat) : Value := .func (.func 82) #[] #[pt (B + 2), pt B]
def rdVals (B : Nat) : Array Value := #[
  .func (.func 83) #[] #[pt (B + 4), pt B, pt (B + 2), pt (B + 5), pt (B + 3)],
  .func (.func 84) #[] #[pt (B + 4), pt (B + 5), pt (B + 3)],
  .func (.func 85) #[] #[pt (B + 4), pt B, pt (B + 2), pt (B + 3), pt (B + 5)],
  .func (.func 86) #[] #[pt (B + 3), pt (B + 2), pt B],
  .func (.func 87) #[] #[pt (B + 3), pt (B + 2), pt B],
  .func (.func 89) #[] #[pt (B + 3), pt B, pt (B + 2)],
  .func (.func 91) #[] #[pt (B + 3), pt B, pt (B + 2)],
  digF B,
  .func (.func 93) #[] #[pt (B + 2), pt (B + 3), pt B]]
/-- a reader of the text s, at p -/
structure IsRd (w : World) (B : Nat) (s : ByteArray) (p : Nat) (ok : Bool) : Prop where
  size : B + 6 ≤ w.heap.size
  text : w.cell? ⟨B, 0, none⟩ = some (.string s)
  place : w.cell? ⟨B + 2, 0, none⟩ = some (.int .i64 p)
  placeF : w.frozen? ⟨B + 2, 0, none⟩ = false
  flag : w.cell? ⟨B + 3, 0, none⟩ = some (.bool ok)
  flagF : w.frozen? ⟨B + 3, 0, none⟩ = false
  dig : w.cell? ⟨B + 4, 7, none⟩ = some (digF B)
  take : w.cell? ⟨B + 5, 0, none⟩ = some (takeF B)

theorem cell_past {w : World} {o : Obj} {b j : Nat} {v : Value} (h : w.cell? ⟨b, j, none⟩ = some v) : (w.alloc o).cell? ⟨b, j, none⟩ = some v := by
  rw [World.cell?_alloc_past _ _ _ ?_]; exact h
  rcases Nat.lt_or_ge b w.heap.size with h1 | h1
  · exact h1
  · simp [World.cell?, Array.getElem?_eq_none h1] at h
theorem frozen_past {w : World} {o : Obj} {b j : Nat} (hb : b < w.heap.size) (h : w.frozen? ⟨b, j, none⟩ = false) : (w.alloc o).frozen? ⟨b, j, none⟩ = false := by
  rw [World.frozen?_alloc_past _ _ _ hb]; exact h
theorem isRd_new (w : World) (s : ByteArray) (o1 : Obj) (row : Array Value) (T0 T2 T3 T4 T5 : TypeId) (hr : row[7]? = some (digF w.heap.size)) :
    IsRd ((((((w.alloc (.cells #[.string s] T0)).alloc o1).alloc (.cells #[.int .i64 0] T2)).alloc (.cells #[.bool true] T3)).alloc (.cells row T4)).alloc (.cells #[takeF w.heap.size] T5)) w.heap.size s 0 true := by
  refine ⟨by simp, ?_, ?_, ?_, ?_, ?_, ?_, ?_⟩
  · iterate 5 refine cell_past ?_
    rw [World.cell?_alloc_at _ _ _ _ (by simp)]; rfl
  · iterate 3 refine cell_past ?_
    rw [World.cell?_alloc_at _ _ _ _ (by simp)]; rfl
  · iterate 3 refine frozen_past (by simp) ?_
    exact World.frozen?_alloc_at _ _ _ _ (by simp)
  · iterate 2 refine cell_past ?_
    rw [World.cell?_alloc_at _ _ _ _ (by simp)]; rfl
  · iterate 2 refine frozen_past (by simp) ?_
    exact World.frozen?_alloc_at _ _ _ _ (by simp)
  · refine cell_past ?_
    rw [World.cell?_alloc_at _ _ _ _ (by simp)]; exact hr
  · rw [World.cell?_alloc_at _ _ _ _ (by simp)]; rfl
theorem readerOf_any (s : ByteArray) (w : World) :
    Calls Tryz.prog 64 #[.string s] w fun e w' => e = .returned (.agg (rdVals w.heap.size)) ∧ IsRd w' w.heap.size s 0 true ∧ Below w.heap.size w w' := by
  have hmf : ∀ (fn : Fn) (first cap : Array Value) (w : World), (Instr.makeFunc fn first cap).run Tryz.prog w = .ok (.func fn first cap) w := fun _ _ _ _ => rfl
  go_enter Tryz.func64, Tryz.ntmps64
  go_wp2
  refine bodyPost_ret (v := .agg (rdVals w.heap.size)) (by simp [results, Tryz.results64, go_sem, rdVals, digF, pt]) rfl ⟨rfl, ?_, ?_⟩
  · exact isRd_new w s _ _ _ _ _ _ _ rfl
  · go_grown

/-! ### how the world moves under a reader -/
theorem cell_set_same {w : World} {b j : Nat} {v : Value} (h : w.cell? ⟨b, j, none⟩ = some v) (u : Value) : (w.setCell ⟨b, j, none⟩ u).cell? ⟨b, j, none⟩ = some u := by
  unfold World.cell? at h ⊢
  simp only [World.setCell, Array.getElem?_modify, if_true]
  cases hb : w.heap[b]? with
  | none => simp [hb] at h
  | some o =>
    cases o with
    | cells c e f =>
      simp [hb] at h ⊢
      obtain ⟨hj, _⟩ := Array.getElem?_eq_some_iff.1 h
      rw [Array.getElem?_setIfInBounds_self_of_lt hj]
    | _ => simp [hb] at h
theorem cell_set_far {w : World} {b j b' j' : Nat} (hne : b' ≠ b) (u : Value) : (w.setCell ⟨b, j, none⟩ u).cell? ⟨b', j', none⟩ = w.cell? ⟨b', j', none⟩ :=
  World.cell?_of_block (w := w) (Below.heap_setCell w ⟨b, j, none⟩ u b' hne)
theorem frozen_set_far {w : World} {b j b' j' : Nat} (hne : b' ≠ b) (u : Value) : (w.setCell ⟨b, j, none⟩ u).frozen? ⟨b', j', none⟩ = w.frozen? ⟨b', j', none⟩ :=
  World.frozen?_of_block (w := w) (Below.heap_setCell w ⟨b, j, none⟩ u b' hne)
theorem frozen_set_same {w : World} {b j : Nat} (h : w.frozen? ⟨b, j, none⟩ = false) (u : Value) : (w.setCell ⟨b, j, none⟩ u).frozen? ⟨b, j, none⟩ = false := by
  unfold World.frozen? at h ⊢
  simp only [World.setCell, Array.getElem?_modify, if_true]
  cases hb : w.heap[b]? with
  | none => simp
  | some o => cases o <;> simp_all
theorem IsRd.setAt {w : World} {B : Nat} {s : ByteArray} {p : Nat} {ok : Bool} (h : IsRd w B s p ok) (q : Nat) : IsRd (w.setCell ⟨B + 2, 0, none⟩ (.int .i64 q)) B s q ok :=
  ⟨by rw [World.size_setCell]; exact h.size, by rw [cell_set_far (by omega)]; exact h.text, cell_set_same h.place _, frozen_set_same h.placeF _, by rw [cell_set_far (by omega)]; exact h.flag, by rw [frozen_set_far (by omega)]; exact h.flagF, by rw [cell_set_far (by omega)]; exact h.dig, by rw [cell_set_far (by omega)]; exact h.take⟩
theorem IsRd.setOk {w : World} {B : Nat} {s : ByteArray} {p : Nat} {ok : Bool} (h : IsRd w B s p ok) (q : Bool) : IsRd (w.setCell ⟨B + 3, 0, none⟩ (.bool q)) B s p q :=
  ⟨by rw [World.size_setCell]; exact h.size, by rw [cell_set_far (by omega)]; exact h.text, by rw [cell_set_far (by omega)]; exact h.place, by rw [frozen_set_far (by omega)]; exact h.placeF, cell_set_same h.flag _, frozen_set_same h.flagF _, by rw [cell_set_far (by omega)]; exact h.dig, by rw [cell_set_far (by omega)]; exact h.take⟩
theorem IsRd.kept {w w' : World} {B : Nat} {s : ByteArray} {p : Nat} {ok : Bool} (h : IsRd w B s p ok) (hb : Below w.heap.size w w') : IsRd w' B s p ok :=
  have hs := h.size
  ⟨Nat.le_trans hs hb.size, (hb.cell (p := ⟨B, 0, none⟩) (by show B < _; omega)).trans h.text, (hb.cell (p := ⟨B + 2, 0, none⟩) (by show B + 2 < _; omega)).trans h.place, (hb.frozen (p := ⟨B + 2, 0, none⟩) (by show B + 2 < _; omega)).trans h.placeF,
   (hb.cell (p := ⟨B + 3, 0, none⟩) (by show B + 3 < _; omega)).trans h.flag, (hb.frozen (p := ⟨B + 3, 0, none⟩) (by show B + 3 < _; omega)).trans h.flagF, (hb.cell (p := ⟨B + 4, 7, none⟩) (by show B + 4 < _; omega)).trans h.dig, (hb.cell (p := ⟨B + 5, 0, none⟩) (by show B + 5 < _; omega)).trans h.take⟩
/-- nothing but the reader's place and flag has turned -/
structure Kp (B : Nat) (w w' : World) : Prop where
  os : w'.os = w.os
  tape : w'.tape = w.tape
  output : w'.output = w.output
  size : w.heap.size ≤ w'.heap.size
  block : ∀ k, k < w.heap.size → k ≠ B + 2 → k ≠ B + 3 → w'.heap[k]? = w.heap[k]?
theorem Kp.refl (B : Nat) (w : World) : Kp B w w := ⟨rfl, rfl, rfl, Nat.le_refl _, fun _ _ _ _ => rfl⟩
theorem Kp.trans {B : Nat} {a b c : World} (h : Kp B a b) (k : Kp B b c) : Kp B a c :=
  ⟨k.os.trans h.os, k.tape.trans h.tape, k.output.trans h.output, Nat.le_trans h.size k.size, fun i h1 h2 h3 => (k.block i (Nat.lt_of_lt_of_le h1 h.size) h2 h3).trans (h.block i h1 h2 h3)⟩
theorem Kp.of_below {B : Nat} {w w' : World} (h : Below w.heap.size w w') : Kp B w w' := ⟨h.os, h.tape, h.output, h.size, fun k hk _ _ => h.block k hk⟩
theorem Kp.setAt {B : Nat} {a w : World} (h : Kp B a w) (v : Value) : Kp B a (w.setCell ⟨B + 2, 0, none⟩ v) :=
  h.trans ⟨rfl, rfl, rfl, by rw [World.size_setCell]; exact Nat.le_refl _, fun k _ h2 _ => Below.heap_setCell _ _ _ _ h2⟩
theorem Kp.setOk {B : Nat} {a w : World} (h : Kp B a w) (v : Value) : Kp B a (w.setCell ⟨B + 3, 0, none⟩ v) :=
  h.trans ⟨rfl, rfl, rfl, by rw [World.size_setCell]; exact Nat.le_refl _, fun k _ _ h3 => Below.heap_setCell _ _ _ _ h3⟩
theorem Kp.drewN {B : Nat} {a w : World} (h : Kp B a w) (n : Nat) : Kp B a (w.drewN n) := h.trans ⟨rfl, rfl, rfl, Nat.le_refl _, fun _ _ _ _ => rfl⟩
theorem Kp.alloc {B : Nat} {a w : World} (h : Kp B a w) (o : Obj) : Kp B a (w.alloc o) := h.trans (Kp.of_below ((Below.refl _ _).alloc (Nat.le_refl _) o))
theorem Kp.below {B C : Nat} {w w' : World} (h : Kp B w w') (hB : C ≤ B) (hs : C ≤ w.heap.size) : Below C w w' := ⟨h.os, h.tape, h.output, h.size, fun k hk => h.block k (by omega) (by omega) (by omega)⟩

/-! ### the functions -/
theorem isDigit_any (c : Nat) (w : World) : Calls Tryz.prog 81 #[.int .u8 c] w fun e w' => e = .returned (.bool (Rd.isD c)) ∧ w = w' := by
  by_cases h : 48 ≤ c
  · have h1 : decide ((48 : Int) ≤ (c : Int)) = true := by rw [decide_eq_true_eq]; omega
    by_cases h2 : c ≤ 57
    · have h3 : decide ((c : Int) ≤ 57) = true := by rw [decide_eq_true_eq]; omega
      go_enter Tryz.func81, Tryz.ntmps81
      go_wp2
      go_ret
      exact ⟨ret_bool (by simp [Rd.isD, h, h2]), rfl⟩
    · have h3 : decide ((c : Int) ≤ 57) = false := by rw [decide_eq_false_iff_not]; omega
      go_enter Tryz.func81, Tryz.ntmps81
      go_wp2
      go_ret
      exact ⟨ret_bool (by simp [Rd.isD, h2]), rfl⟩
  · have h1 : decide ((48 : Int) ≤ (c : Int)) = false := by rw [decide_eq_false_iff_not]; omega
    go_enter Tryz.func81, Tryz.ntmps81
    go_wp2
    go_ret
    exact ⟨ret_bool (by simp [Rd.isD, h]), rfl⟩

theorem digit_any {B : Nat} {s : ByteArray} {p : Nat} {ok : Bool} (w : World) (h : IsRd w B s p ok) :
    Calls Tryz.prog 80 #[pt (B + 3), pt (B + 2), pt B] w fun e w' => e = .returned (.bool (Rd.digAt s p ok)) ∧ w = w' := by
  obtain ⟨_, c0, c2, _, c3, _, _, _⟩ := h
  unfold pt
  cases ok
  · go_enter Tryz.func80, Tryz.ntmps80
    go_wp2
    go_ret
    exact ⟨ret_bool (by simp [Rd.digAt]), rfl⟩
  · by_cases hp : p < s.size
    · have h1 : decide ((p : Int) < (s.size : Int)) = true := by rw [decide_eq_true_eq]; omega
      have hd := Lib.hid (isDigit_any (s[p].toNat))
      go_enter Tryz.func80, Tryz.ntmps80
      go_wp2_with fail
      refine (hd.out _).mono ?_
      rintro e w1 ⟨rfl, rfl⟩
      go_wp2
      go_ret
      exact ⟨ret_bool (by simp [Rd.digAt, hp, Rd.byte_lt hp]), rfl⟩
    · have h1 : decide ((p : Int) < (s.size : Int)) = false := by rw [decide_eq_false_iff_not]; omega
      have h2 : decide (p < s.size) = false := by simpa using hp
      go_enter Tryz.func80, Tryz.ntmps80
      go_wp2
      go_ret
      exact ⟨ret_bool (by simp [Rd.digAt, hp]), rfl⟩
theorem take_any {B : Nat} {s : ByteArray} {p : Nat} {ok : Bool} (w : World) (h : IsRd w B s p ok) (hs : s.size ≤ 9223372036854775807) (hp : p < s.size) (hd : 48 ≤ Rd.byte s p) :
    Calls Tryz.prog 82 #[pt (B + 2), pt B] w fun e w' => e = .returned (.int .i64 ((Rd.byte s p : Int) - 48)) ∧ IsRd w' B s (p + 1) ok ∧ Kp B w w' := by
  have h' := h
  obtain ⟨_, c0, c2, cf, _, _, _, _⟩ := h
  have hb := Rd.byte_lt hp
  have hle := Rd.byte_le s p
  rw [hb] at hd hle
  unfold pt
  go_enter Tryz.func82, Tryz.ntmps82
  go_wp2
  go_ret
  exact ⟨ret_int (by rw [hb]), h'.setAt (p + 1), (Kp.refl _ _).setAt _⟩
end Go.Proofs.YthimnjegacdhaaaGreatDoor

/- The reader's number. -/
namespace Go.Proofs.YthimnjegacdhaaaGreatDoor
open Go.RowKit Go.BigFrame

theorem numEnd {B : Nat} {s : ByteArray} {p : Nat} {ok : Bool} {digits : Nat} {least most : Int} {w wr : World} {n : Int} {k q : Nat} {b : Bool} (hR : IsRd wr B s q ok) (hK : Kp B w wr)
    (hX : Rd.numAt s digits least most ok p = (n, k, q)) (hb : Rd.numOk least ok (n, k, q) = b) :
    Ending.returned (.int .i64 n) = .returned (.int .i64 (Rd.numAt s digits least most ok p).1) ∧
      IsRd (wr.setCell ⟨B + 3, 0, none⟩ (.bool b)) B s (Rd.numAt s digits least most ok p).2.2 (Rd.numOk least ok (Rd.numAt s digits least most ok p)) ∧ Kp B w (wr.setCell ⟨B + 3, 0, none⟩ (.bool b)) := by
  rw [hX, hb]; exact ⟨rfl, hR.setOk b, hK.setOk _⟩

set_option maxHeartbeats 1000000 in
set_option maxRecDepth 100000 in
theorem number_any {B : Nat} {s : ByteArray} {p : Nat} {ok : Bool} (digits : Nat) (least most : Int) (w : World) (h : IsRd w B s p ok) (hs : s.size ≤ 9223372036854775807) (hd : digits ≤ 18) :
    Calls Tryz.prog 83 #[.int .i64 digits, .int .i64 least, .int .i64 most, pt (B + 4), pt B, pt (B + 2), pt (B + 5), pt (B + 3)] w fun e w' =>
      e = .returned (.int .i64 (Rd.numAt s digits least most ok p).1) ∧ IsRd w' B s (Rd.numAt s digits least most ok p).2.2 (Rd.numOk least ok (Rd.numAt s digits least most ok p)) ∧ Kp B w w' := by
  have h' := Lib.hid h
  clear h
  unfold pt
  go_enter Tryz.func83, Tryz.ntmps83
  go_wp2_with fail
  go_loopw [12, 13] (fun n m wr => ∃ (nn : Int) (k q : Nat), n = .int .i64 nn ∧ m = .int .i64 k ∧ k ≤ digits ∧ 0 ≤ nn ∧ nn < 10 ^ k ∧ IsRd wr B s q ok ∧ Kp B w wr ∧
      Rd.numLoop s digits least most ok (digits - k) nn k q = Rd.numAt s digits least most ok p) (fun _ m _ => digits - (intOf m).toNat)
  case atStart => exact ⟨0, 0, p, rfl, rfl, by omega, by omega, by decide, h'.out, Kp.refl _ _, rfl⟩
  case round =>
    obtain ⟨n, k, q, rfl, rfl, hk, hn0, hn1, hR, hK, hF⟩ := hrel
    have HR := Lib.hid hR
    have HK := Lib.hid hK
    have HF := Lib.hid hF
    have HN := Lib.hid hn1
    obtain ⟨_, c0, c2, cf2, c3, cf3, cd, ct⟩ := hR
    unfold digF pt at cd
    unfold takeF pt at ct
    clear hK hF hn1 h'
    by_cases hkd : k < digits
    · have t1 : decide ((k : Int) < (digits : Int)) = true := by rw [decide_eq_true_eq]; omega
      have t1' : decide (k < digits) = true := by simpa using hkd
      go_wp2_with fail
      refine (digit_any wr HR.out).mono ?_
      rintro e w1 ⟨rfl, rfl⟩
      cases hdg : Rd.digAt s q ok
      · have HX := Lib.hid (HF.out.symm.trans (Rd.numLoop_stop (s := s) (digits := digits) (least := least) (most := most) (ok := ok) (f := digits - k) (n := n) (m := k) (p := q) (by simp [hdg])))
        clear hdg HF
        go_wp2
        all_goals go_ret
        all_goals refine numEnd HR.out HK.out HX.out ?_
        all_goals simp_all [Rd.numOk]
      · obtain ⟨hok, hq, hb0, hb1⟩ := Rd.digAt_true hdg
        subst hok
        have HD := Lib.hid hdg
        have e1 := Rd.byte_lt hq
        have He1 := Lib.hid e1
        rw [e1] at hb0 hb1
        have hn9 : n ≤ 99999999999999999 := by
          have h1 := HN.out
          have h2 : (10 : Int) ^ k ≤ 10 ^ 17 := by exact_mod_cast Nat.pow_le_pow_right (show 0 < 10 by omega) (show k ≤ 17 by omega)
          have h3 : (10 : Int) ^ 17 = 100000000000000000 := by decide
          omega
        clear hdg e1
        cases bk : decide (0 < k)
        · skip
          cases bm : decide (most < 10 * n + ((s[q].toNat : Int) - 48))
          · cases bx : (10 * n + ((s[q].toNat : Int) - 48) == 0)
            · have cx : decide (10 * n + ((s[q].toNat : Int) - 48) = 0) = false := by simpa using bx
              have HX := Lib.hid (Rd.numLoop_next (s := s) (digits := digits) (least := least) (most := most) (ok := true) (f := digits - k - 1) (n := n) (m := k) (p := q) ⟨hkd, HD.out⟩ (by rw [He1.out]; simp [Rd.stops, bk, bm, cx]))
              go_wp2_with fail
              refine (take_any wr HR.out hs hq (by rw [He1.out]; exact hb0)).mono ?_
              rintro e w1 ⟨rfl, hR1, hK1⟩
              rw [He1.out]
              have HR1 := Lib.hid hR1
              have HK1 := Lib.hid (HK.out.trans hK1)
              clear hR1 hK1
              go_wp2
              go_roundw
              case rel =>
                refine ⟨10 * n + ((s[q].toNat : Int) - 48), k + 1, q + 1, rfl, by go_num, by omega, by omega, ?_, HR1.out, HK1.out, ?_⟩
                · have := HN.out
                  rw [Int.pow_succ]; omega
                · rw [← HF.out, show digits - k = (digits - k - 1) + 1 by omega, HX.out, He1.out, show digits - (k + 1) = digits - k - 1 by omega]
              case measure => simp [intOf]; omega
            · have cx : decide (10 * n + ((s[q].toNat : Int) - 48) = 0) = true := by simpa using bx
              cases bl : decide (0 < least)
              · skip
                have HX := Lib.hid (Rd.numLoop_next (s := s) (digits := digits) (least := least) (most := most) (ok := true) (f := digits - k - 1) (n := n) (m := k) (p := q) ⟨hkd, HD.out⟩ (by rw [He1.out]; simp [Rd.stops, bk, bm, cx, bl]))
                go_wp2_with fail
                refine (take_any wr HR.out hs hq (by rw [He1.out]; exact hb0)).mono ?_
                rintro e w1 ⟨rfl, hR1, hK1⟩
                rw [He1.out]
                have HR1 := Lib.hid hR1
                have HK1 := Lib.hid (HK.out.trans hK1)
                clear hR1 hK1
                go_wp2
                go_roundw
                case rel =>
                  refine ⟨10 * n + ((s[q].toNat : Int) - 48), k + 1, q + 1, rfl, by go_num, by omega, by omega, ?_, HR1.out, HK1.out, ?_⟩
                  · have := HN.out
                    rw [Int.pow_succ]; omega
                  · rw [← HF.out, show digits - k = (digits - k - 1) + 1 by omega, HX.out, He1.out, show digits - (k + 1) = digits - k - 1 by omega]
                case measure => simp [intOf]; omega
              · skip
                have HX := Lib.hid (HF.out.symm.trans (Rd.numLoop_break (s := s) (digits := digits) (least := least) (most := most) (ok := true) (f := digits - k) (n := n) (m := k) (p := q) ⟨hkd, HD.out⟩ (by rw [He1.out]; simp [Rd.stops, bk, bm, cx, bl])))
                clear HF
                go_wp2
                go_ret
                refine numEnd HR.out HK.out HX.out ?_
                simp [Rd.numOk, bk]
          · skip
            have HX := Lib.hid (HF.out.symm.trans (Rd.numLoop_break (s := s) (digits := digits) (least := least) (most := most) (ok := true) (f := digits - k) (n := n) (m := k) (p := q) ⟨hkd, HD.out⟩ (by rw [He1.out]; simp [Rd.stops, bk, bm])))
            clear HF
            go_wp2
            go_ret
            refine numEnd HR.out HK.out HX.out ?_
            simp [Rd.numOk, bk]
        · cases bn : (n == 0)
          · have cn : decide (n = 0) = false := by simpa using bn
            cases bm : decide (most < 10 * n + ((s[q].toNat : Int) - 48))
            · cases bx : (10 * n + ((s[q].toNat : Int) - 48) == 0)
              · have cx : decide (10 * n + ((s[q].toNat : Int) - 48) = 0) = false := by simpa using bx
                have HX := Lib.hid (Rd.numLoop_next (s := s) (digits := digits) (least := least) (most := most) (ok := true) (f := digits - k - 1) (n := n) (m := k) (p := q) ⟨hkd, HD.out⟩ (by rw [He1.out]; simp [Rd.stops, bk, cn, bm, cx]))
                go_wp2_with fail
                refine (take_any wr HR.out hs hq (by rw [He1.out]; exact hb0)).mono ?_
                rintro e w1 ⟨rfl, hR1, hK1⟩
                rw [He1.out]
                have HR1 := Lib.hid hR1
                have HK1 := Lib.hid (HK.out.trans hK1)
                clear hR1 hK1
                go_wp2
                go_roundw
                case rel =>
                  refine ⟨10 * n + ((s[q].toNat : Int) - 48), k + 1, q + 1, rfl, by go_num, by omega, by omega, ?_, HR1.out, HK1.out, ?_⟩
                  · have := HN.out
                    rw [Int.pow_succ]; omega
                  · rw [← HF.out, show digits - k = (digits - k - 1) + 1 by omega, HX.out, He1.out, show digits - (k + 1) = digits - k - 1 by omega]
                case measure => simp [intOf]; omega
              · have cx : decide (10 * n + ((s[q].toNat : Int) - 48) = 0) = true := by simpa using bx
                cases bl : decide (0 < least)
                · skip
                  have HX := Lib.hid (Rd.numLoop_next (s := s) (digits := digits) (least := least) (most := most) (ok := true) (f := digits - k - 1) (n := n) (m := k) (p := q) ⟨hkd, HD.out⟩ (by rw [He1.out]; simp [Rd.stops, bk, cn, bm, cx, bl]))
                  go_wp2_with fail
                  refine (take_any wr HR.out hs hq (by rw [He1.out]; exact hb0)).mono ?_
                  rintro e w1 ⟨rfl, hR1, hK1⟩
                  rw [He1.out]
                  have HR1 := Lib.hid hR1
                  have HK1 := Lib.hid (HK.out.trans hK1)
                  clear hR1 hK1
                  go_wp2
                  go_roundw
                  case rel =>
                    refine ⟨10 * n + ((s[q].toNat : Int) - 48), k + 1, q + 1, rfl, by go_num, by omega, by omega, ?_, HR1.out, HK1.out, ?_⟩
                    · have := HN.out
                      rw [Int.pow_succ]; omega
                    · rw [← HF.out, show digits - k = (digits - k - 1) + 1 by omega, HX.out, He1.out, show digits - (k + 1) = digits - k - 1 by omega]
                  case measure => simp [intOf]; omega
                · skip
                  have HX := Lib.hid (HF.out.symm.trans (Rd.numLoop_break (s := s) (digits := digits) (least := least) (most := most) (ok := true) (f := digits - k) (n := n) (m := k) (p := q) ⟨hkd, HD.out⟩ (by rw [He1.out]; simp [Rd.stops, bk, cn, bm, cx, bl])))
                  clear HF
                  go_wp2
                  go_ret
                  refine numEnd HR.out HK.out HX.out ?_
                  simp [Rd.numOk, bk]
            · skip
              have HX := Lib.hid (HF.out.symm.trans (Rd.numLoop_break (s := s) (digits := digits) (least := least) (most := most) (ok := true) (f := digits - k) (n := n) (m := k) (p := q) ⟨hkd, HD.out⟩ (by rw [He1.out]; simp [Rd.stops, bk, cn, bm])))
              clear HF
              go_wp2
              go_ret
              refine numEnd HR.out HK.out HX.out ?_
              simp [Rd.numOk, bk]
          · have cn : decide (n = 0) = true := by simpa using bn
            have HX := Lib.hid (HF.out.symm.trans (Rd.numLoop_break (s := s) (digits := digits) (least := least) (most := most) (ok := true) (f := digits - k) (n := n) (m := k) (p := q) ⟨hkd, HD.out⟩ (by rw [He1.out]; simp [Rd.stops, bk, cn])))
            clear HF
            go_wp2
            go_ret
            refine numEnd HR.out HK.out HX.out ?_
            simp [Rd.numOk, bk]
    · have t1 : decide ((k : Int) < (digits : Int)) = false := by rw [decide_eq_false_iff_not]; omega
      have t1' : decide (k < digits) = false := by simpa using hkd
      have HX := Lib.hid (HF.out.symm.trans (Rd.numLoop_stop (s := s) (digits := digits) (least := least) (most := most) (ok := ok) (f := digits - k) (n := n) (m := k) (p := q) (by simp [hkd])))
      clear HF
      go_wp2
      all_goals go_ret
      all_goals refine numEnd HR.out HK.out HX.out ?_
      all_goals simp_all [Rd.numOk]
end Go.Proofs.YthimnjegacdhaaaGreatDoor

/- The reader's exact, pair, one, place. -/
namespace Go.Proofs.YthimnjegacdhaaaGreatDoor
open Go.RowKit Go.BigFrame

theorem IsRd.drew {w : World} {B : Nat} {s : ByteArray} {p : Nat} {ok : Bool} (h : IsRd w B s p ok) : IsRd w.drew B s p ok := h.kept (Below.refl _ _).drew
theorem Kp.drew {B : Nat} {a w : World} (h : Kp B a w) : Kp B a w.drew := h.trans (Kp.of_below (Below.refl _ _).drew)
def ExactTo (s t : ByteArray) (i q : Nat) (b : Bool) (z : Nat × Bool) : Prop := (b = false → z = (q, false)) ∧ (b = true → Rd.exactLoop s t (t.size - i) i q = z)

theorem ExactTo.no {s t : ByteArray} {i q : Nat} {z : Nat × Bool} (h : z = (q, false)) : ExactTo s t i q false z := ⟨fun _ => h, fun h => by cases h⟩
theorem ExactTo.yes {s t : ByteArray} {i q : Nat} {z : Nat × Bool} (h : Rd.exactLoop s t (t.size - i) i q = z) : ExactTo s t i q true z := ⟨fun h => (by cases h), fun _ => h⟩
set_option maxHeartbeats 1000000 in
set_option maxRecDepth 100000 in
theorem exact_any {B : Nat} {s : ByteArray} {p : Nat} {ok : Bool} (t : ByteArray) (w : World) (h : IsRd w B s p ok) (hs : s.size ≤ 9223372036854775807) (ht : t.size ≤ 9223372036854775807) :
    Calls Tryz.prog 86 #[.string t, pt (B + 3), pt (B + 2), pt B] w fun e w' =>
      e = .returned (.tuple #[]) ∧ IsRd w' B s (Rd.exactAt s t p ok).1 (Rd.exactAt s t p ok).2 ∧ Kp B w w' := by
  have h' := Lib.hid h
  have hst : ExactTo s t 0 p ok (Rd.exactAt s t p ok) := by
    unfold ExactTo Rd.exactAt
    cases ok <;> simp
  have Hst := Lib.hid hst
  generalize hz : Rd.exactAt s t p ok = z at Hst ⊢
  clear h hst hz
  unfold pt
  go_enter Tryz.func86, Tryz.ntmps86
  go_wp2_with fail
  go_loopw [5] (fun iv wr => ∃ (i q : Nat) (b : Bool), iv = .int .i64 i ∧ i ≤ t.size ∧ IsRd wr B s q b ∧ Kp B w wr ∧ ExactTo s t i q b z) (fun iv _ => t.size - (intOf iv).toNat)
  case atStart => exact ⟨0, p, ok, rfl, by omega, h'.out, Kp.refl _ _, Hst.out⟩
  case round =>
    obtain ⟨i, q, b, rfl, hi, hR, hK, hE⟩ := hrel
    have HR := Lib.hid hR
    have HK := Lib.hid hK
    have HE := Lib.hid hE
    obtain ⟨_, c0, c2, cf2, c3, cf3, _, _⟩ := hR
    clear hK hE h' Hst
    cases b
    · have hz := Lib.hid (HE.out.1 rfl)
      go_wp2
      go_end0
      rw [hz.out]
      exact ⟨rfl, HR.out, HK.out⟩
    · by_cases hit : i < t.size
      · have t1 : decide (i < t.size) = true := by simpa using hit
        by_cases hq : q < s.size
        · have t2 : decide (q < s.size) = true := by simpa using hq
          cases he : (((s[q]).toNat : Int) == ((t[i]).toNat : Int))
          · have hz : z = (q, false) := by
              rw [← HE.out.2 rfl, show t.size - i = (t.size - i - 1) + 1 by omega, Rd.exactLoop, if_pos hit, if_neg]
              rw [Rd.byte_lt hq, Rd.byte_lt hit]
              simp only [beq_eq_false_iff_ne, ne_eq] at he
              omega
            have Hz := Lib.hid hz
            clear hz HE
            go_wp2_with fail
            go_still_tail 13, (by kernel_rfl)
            change wpList _ _ _ _ _ wr.drew
            clear c0 c2 cf2 c3 cf3
            have hR2 := HR.out.drew
            have hK2 := HK.out.drew
            clear HR HK
            generalize wr.drew = w2 at hR2 hK2 ⊢
            have HR := Lib.hid hR2
            have HK := Lib.hid hK2
            obtain ⟨_, c0, c2, cf2, c3, cf3, _, _⟩ := hR2
            clear hK2
            go_wp2
            go_roundw
            case rel => exact ⟨i + 1, q, false, by go_num, by omega, HR.out.setOk false, HK.out.setOk _, ExactTo.no Hz.out⟩
            case measure => simp [intOf]; omega
          · have hz : Rd.exactLoop s t (t.size - (i + 1)) (i + 1) (q + 1) = z := by
              rw [← HE.out.2 rfl, show t.size - i = (t.size - (i + 1)) + 1 by omega]
              conv => rhs; rw [Rd.exactLoop, if_pos hit]
              rw [if_pos]
              rw [Rd.byte_lt hq, Rd.byte_lt hit]
              simp only [beq_iff_eq] at he
              exact ⟨hq, by omega⟩
            have Hz := Lib.hid hz
            clear hz HE
            go_wp2_with fail
            go_still_tail 13, (by kernel_rfl)
            change wpList _ _ _ _ _ wr.drew
            clear c0 c2 cf2 c3 cf3
            have hR2 := HR.out.drew
            have hK2 := HK.out.drew
            clear HR HK
            generalize wr.drew = w2 at hR2 hK2 ⊢
            have HR := Lib.hid hR2
            have HK := Lib.hid hK2
            obtain ⟨_, c0, c2, cf2, c3, cf3, _, _⟩ := hR2
            clear hK2
            go_wp2
            go_roundw
            case rel => exact ⟨i + 1, q + 1, true, by go_num, by omega, (HR.out.setOk true).setAt (q + 1), (HK.out.setOk _).setAt _, ExactTo.yes Hz.out⟩
            case measure => simp [intOf]; omega
        · have t2 : decide (q < s.size) = false := by simpa using hq
          have hz : z = (q, false) := by
            rw [← HE.out.2 rfl, show t.size - i = (t.size - i - 1) + 1 by omega, Rd.exactLoop, if_pos hit, if_neg]
            omega
          have Hz := Lib.hid hz
          clear hz HE
          go_wp2_with fail
          go_region
          go_wp2
          go_roundw
          case rel => exact ⟨i + 1, q, false, by go_num, by omega, (HR.out.setOk false).drew, (HK.out.setOk _).drew, ExactTo.no Hz.out⟩
          case measure => simp [intOf]; omega
      · have t1 : decide (i < t.size) = false := by simpa using hit
        have hz := Lib.hid (HE.out.2 rfl)
        go_wp2
        go_end0
        rw [← hz.out]
        have : Rd.exactLoop s t (t.size - i) i q = (q, true) := by rw [show t.size - i = 0 by omega]; rfl
        rw [this]
        exact ⟨rfl, HR.out, HK.out⟩

theorem place_any {B : Nat} {s : ByteArray} {p : Nat} {ok : Bool} (w : World) (h : IsRd w B s p ok) :
    Calls Tryz.prog 93 #[pt (B + 2), pt (B + 3), pt B] w fun e w' => e = .returned (.tuple #[.int .i64 p, .bool (ok && decide (p = s.size))]) ∧ ∃ n, w' = w.drewN n := by
  obtain ⟨_, c0, c2, cf2, c3, cf3, _, _⟩ := h
  unfold pt
  cases ok
  · go_enter Tryz.func93, Tryz.ntmps93
    go_wp2_with fail
    go_quiet (fail)
    go_wp2
    go_ret2
    exact ⟨by simp, _, rfl⟩
  · go_enter Tryz.func93, Tryz.ntmps93
    go_wp2_with fail
    go_quiet (fail)
    go_wp2
    go_ret2
    refine ⟨?_, _, rfl⟩
    have : ((p : Int) == (s.size : Int)) = (true && decide (p = s.size)) := by rw [Bool.eq_iff_iff, Bool.true_and, beq_iff_eq, decide_eq_true_eq]; omega
    rw [← this]; rfl
/-- one of these bytes: which -/
theorem one_any {B : Nat} {s : ByteArray} {p : Nat} {ok : Bool} (t : ByteArray) (w : World) (h : IsRd w B s p ok) (hs : s.size ≤ 9223372036854775807) :
    Calls Tryz.prog 87 #[.string t, pt (B + 3), pt (B + 2), pt B] w fun e w' =>
      e = .returned (.int .i64 (Rd.oneAt s t p ok).1) ∧ IsRd w' B s (Rd.oneAt s t p ok).2.1 (Rd.oneAt s t p ok).2.2 ∧ Kp B w w' := by
  have HR := Lib.hid h
  obtain ⟨_, c0, c2, cf2, c3, cf3, _, _⟩ := h
  unfold pt
  cases ok
  · go_enter Tryz.func87, Tryz.ntmps87
    go_wp2
    go_ret
    exact ⟨rfl, HR.out.setOk false, (Kp.refl _ _).setOk _⟩
  · by_cases hp : p < s.size
    · have t2 : decide (p < s.size) = true := by simpa using hp
      have hib := Lib.hid (Go.Proofs.Tryz.strings_IndexByte t ((s[p]).toNat : Int))
      go_enter Tryz.func87, Tryz.ntmps87
      go_wp2_with fail
      refine (hib.out _).mono ?_
      rintro e w1 ⟨rfl, rfl⟩
      have hby : (((s[p]).toNat : Int).toNat).toUInt8 = (Rd.byte s p).toUInt8 := by rw [Rd.byte_lt hp, Int.toNat_natCast]
      rw [hby]
      have hz := Lib.hid (show Rd.oneAt s t p true = if 0 ≤ Lib.indexByte t.data.toList (Rd.byte s p).toUInt8 then (Lib.indexByte t.data.toList (Rd.byte s p).toUInt8, p + 1, true) else (Lib.indexByte t.data.toList (Rd.byte s p).toUInt8, p, false) by unfold Rd.oneAt; rw [if_pos ⟨rfl, hp⟩])
      generalize Lib.indexByte t.data.toList (Rd.byte s p).toUInt8 = k at hz ⊢
      clear hib hby
      by_cases hk : 0 ≤ k
      · have t3 : decide (0 ≤ k) = true := by simpa using hk
        go_wp2
        go_ret
        have hz' := hz.out
        rw [if_pos hk] at hz'
        rw [hz']
        exact ⟨rfl, (HR.out.setOk true).setAt (p + 1), ((Kp.refl _ _).setOk _).setAt _⟩
      · have t3 : decide (0 ≤ k) = false := by simpa using hk
        have hk2 : k < 0 := by omega
        go_wp2
        go_ret
        have hz' := hz.out
        rw [if_neg (by omega)] at hz'
        rw [hz']
        exact ⟨rfl, HR.out.setOk false, (Kp.refl _ _).setOk _⟩
    · have t2 : decide (p < s.size) = false := by simpa using hp
      go_enter Tryz.func87, Tryz.ntmps87
      go_wp2
      go_ret
      have hz : Rd.oneAt s t p true = (-1, p, false) := by unfold Rd.oneAt; rw [if_neg (by simp [hp])]
      rw [hz]
      exact ⟨rfl, HR.out.setOk false, (Kp.refl _ _).setOk _⟩

theorem IsRd.of_kp {w w' : World} {B b j : Nat} {v : Value} (hk : Kp B w w') (h : w.cell? ⟨b, j, none⟩ = some v) (h2 : b ≠ B + 2) (h3 : b ≠ B + 3) : w'.cell? ⟨b, j, none⟩ = some v := by
  rcases Nat.lt_or_ge b w.heap.size with h1 | h1
  · rw [World.cell?_of_block (w := w) (hk.block b h1 h2 h3)]; exact h
  · simp [World.cell?, Array.getElem?_eq_none h1] at h
end Go.Proofs.YthimnjegacdhaaaGreatDoor

/- The reader's pair. -/
namespace Go.Proofs.YthimnjegacdhaaaGreatDoor
open Go.RowKit Go.BigFrame

def PairTo (s : ByteArray) (most : Int) (p : Nat) (ok : Bool) (i : Nat) (x : Int × Nat × Bool) : Prop :=
  (i = 0 → x = (0, p, ok)) ∧ (i = 1 → x = Rd.pairStep s most 10 (0, p, ok)) ∧ (i = 2 → x = Rd.pairAt s most p ok)
theorem PairTo.start (s : ByteArray) (most : Int) (p : Nat) (ok : Bool) : PairTo s most p ok 0 (0, p, ok) := ⟨fun _ => rfl, fun h => (by cases h), fun h => by cases h⟩
theorem PairTo.step {s : ByteArray} {most : Int} {p : Nat} {ok : Bool} {i : Nat} {x y : Int × Nat × Bool} (h : PairTo s most p ok i x) (hi : i = 0 ∧ y = Rd.pairStep s most 10 x ∨ i = 1 ∧ y = Rd.pairStep s most 1 x) : PairTo s most p ok (i + 1) y := by
  rcases hi with ⟨rfl, rfl⟩ | ⟨rfl, rfl⟩
  · refine ⟨fun h => (by omega), fun _ => ?_, fun h => (by omega)⟩
    rw [h.1 rfl]
  · refine ⟨fun h => (by omega), fun h => (by omega), fun _ => ?_⟩
    rw [h.2.1 rfl]; rfl
theorem pairStep_no {s : ByteArray} {most u n : Int} {q : Nat} {b : Bool} (h : ¬ (Rd.digAt s q b = true ∧ n + u * ((Rd.byte s q : Int) - 48) ≤ most)) : Rd.pairStep s most u (n, q, b) = (n, q, false) := by
  unfold Rd.pairStep; rw [if_neg h]
theorem pairStep_yes {s : ByteArray} {most u n : Int} {q : Nat} {b : Bool} (h : Rd.digAt s q b = true ∧ n + u * ((Rd.byte s q : Int) - 48) ≤ most) : Rd.pairStep s most u (n, q, b) = (n + u * ((Rd.byte s q : Int) - 48), q + 1, true) := by
  unfold Rd.pairStep; rw [if_pos h]

set_option maxHeartbeats 2000000 in
set_option maxRecDepth 100000 in
theorem pair_any {B : Nat} {s : ByteArray} {p : Nat} {ok : Bool} (most : Int) (w : World) (h : IsRd w B s p ok) (hs : s.size ≤ 9223372036854775807) :
    Calls Tryz.prog 85 #[.int .i64 most, pt (B + 4), pt B, pt (B + 2), pt (B + 3), pt (B + 5)] w fun e w' =>
      e = .returned (.int .i64 (Rd.pairAt s most p ok).1) ∧ IsRd w' B s (Rd.pairAt s most p ok).2.1 (Rd.pairAt s most p ok).2.2 ∧ Kp B w w' := by
  have hsz := h.size
  have h0 := Lib.hid ((Below.refl w.heap.size w).alloc (Nat.le_refl _) (.cells #[.int .i64 10, .int .i64 1] 3))
  have h' := Lib.hid (h.kept h0.out)
  clear h
  unfold pt
  go_enter Tryz.func85, Tryz.ntmps85
  go_wp2_with fail
  go_loopw [8, 13] (fun nv iv wr => ∃ (n : Int) (i q : Nat) (b : Bool), nv = .int .i64 n ∧ iv = .int .i64 i ∧ i ≤ 2 ∧ 0 ≤ n ∧ n ≤ 90 * i ∧ IsRd wr B s q b ∧ Kp B w wr ∧
      wr.cell? ⟨w.heap.size, 0, none⟩ = some (.int .i64 10) ∧ wr.cell? ⟨w.heap.size, 1, none⟩ = some (.int .i64 1) ∧ PairTo s most p ok i (n, q, b)) (fun _ iv _ => 2 - (intOf iv).toNat)
  case atStart => exact ⟨0, 0, p, ok, rfl, rfl, by omega, by omega, by omega, h'.out, Kp.of_below h0.out, by rw [World.cell?_alloc_at _ _ _ _ rfl]; rfl, by rw [World.cell?_alloc_at _ _ _ _ rfl]; rfl, PairTo.start s most p ok⟩
  case round =>
    obtain ⟨n, i, q, b, rfl, rfl, hi, hn0, hn1, hR, hK, u0, u1, hE⟩ := hrel
    have HR := Lib.hid hR
    have HK := Lib.hid hK
    have HE := Lib.hid hE
    have U0 := Lib.hid u0
    have U1 := Lib.hid u1
    obtain ⟨_, c0, c2, cf2, c3, cf3, cd, ct⟩ := hR
    unfold digF pt at cd
    unfold takeF pt at ct
    clear hK hE h' h0
    by_cases h2 : i = 2
    · subst h2
      have hz := Lib.hid (HE.out.2.2 rfl)
      go_wp2
      go_ret
      rw [← hz.out]
      exact ⟨rfl, HR.out, HK.out⟩
    by_cases h1 : i = 1
    · subst h1
      go_wp2_with fail
      refine (digit_any wr HR.out).mono ?_
      rintro e w1 ⟨rfl, rfl⟩
      cases hdg : Rd.digAt s q b
      · skip
        have HZ := Lib.hid (pairStep_no (s := s) (most := most) (u := 1) (n := n) (q := q) (b := b) (by simp [hdg])).symm
        clear hdg
        go_wp2
        go_roundw
        case rel =>
          exact ⟨n, 2, q, false, rfl, by go_num, by omega, by omega, by omega, HR.out.setOk false, HK.out.setOk _, by rw [cell_set_far (by omega)]; exact U0.out, by rw [cell_set_far (by omega)]; exact U1.out, HE.out.step (.inr ⟨rfl, HZ.out⟩)⟩
        case measure => simp [intOf]
      · obtain ⟨hok, hq, hb0, hb1⟩ := Rd.digAt_true hdg
        subst hok
        have HD := Lib.hid hdg
        have e1 := Rd.byte_lt hq
        have He1 := Lib.hid e1
        rw [e1] at hb0 hb1
        clear hdg e1
        by_cases hm : n + ((s[q].toNat : Int) - 48) ≤ most
        · have t3 : decide (n + ((s[q].toNat : Int) - 48) ≤ most) = true := by simpa using hm
          have HZ := Lib.hid (pairStep_yes (s := s) (most := most) (u := 1) (n := n) (q := q) (b := true) ⟨HD.out, by rw [He1.out]; omega⟩).symm
          clear hm
          go_wp2_with fail
          have hR2 := HR.out.setOk true
          have hK2 := HK.out.setOk (.bool true)
          have v0 : (wr.setCell ⟨B + 3, 0, none⟩ (.bool true)).cell? ⟨w.heap.size, 0, none⟩ = some (.int .i64 10) := by rw [cell_set_far (by omega)]; exact U0.out
          have v1 : (wr.setCell ⟨B + 3, 0, none⟩ (.bool true)).cell? ⟨w.heap.size, 1, none⟩ = some (.int .i64 1) := by rw [cell_set_far (by omega)]; exact U1.out
          generalize wr.setCell ⟨B + 3, 0, none⟩ (.bool true) = w2 at hR2 hK2 v0 v1 ⊢
          refine (take_any w2 hR2 hs hq (by rw [He1.out]; exact hb0)).mono ?_
          rintro e w1 ⟨rfl, hR1, hK1⟩
          rw [He1.out]
          have HR1 := Lib.hid hR1
          have HK1 := Lib.hid (hK2.trans hK1)
          have V0 := Lib.hid (IsRd.of_kp hK1 v0 (by omega) (by omega))
          have V1 := Lib.hid (IsRd.of_kp hK1 v1 (by omega) (by omega))
          clear hR1 hK1 hR2 hK2 v0 v1 c0 c2 cf2 c3 cf3 cd ct u0 u1
          go_wp2
          go_roundw
          case rel =>
            refine ⟨_, 2, q + 1, true, rfl, by go_num, by omega, by omega, by omega, HR1.out, HK1.out, V0.out, V1.out, HE.out.step ?_⟩
            rw [← He1.out]
            have HZ' := HZ.out
            rw [Int.one_mul] at HZ'; exact .inr ⟨rfl, HZ'⟩
          case measure => simp [intOf]
        · have t3 : decide (n + ((s[q].toNat : Int) - 48) ≤ most) = false := by simpa using hm
          have HZ := Lib.hid (pairStep_no (s := s) (most := most) (u := 1) (n := n) (q := q) (b := true) (by rw [He1.out]; omega)).symm
          go_wp2
          go_roundw
          case rel =>
            exact ⟨n, 2, q, false, rfl, by go_num, by omega, by omega, by omega, HR.out.setOk false, HK.out.setOk _, by rw [cell_set_far (by omega)]; exact U0.out, by rw [cell_set_far (by omega)]; exact U1.out, HE.out.step (.inr ⟨rfl, HZ.out⟩)⟩
          case measure => simp [intOf]
    · obtain rfl : i = 0 := by omega
      go_wp2_with fail
      refine (digit_any wr HR.out).mono ?_
      rintro e w1 ⟨rfl, rfl⟩
      cases hdg : Rd.digAt s q b
      · skip
        have HZ := Lib.hid (pairStep_no (s := s) (most := most) (u := 10) (n := n) (q := q) (b := b) (by simp [hdg])).symm
        clear hdg
        go_wp2
        go_roundw
        case rel =>
          exact ⟨n, 1, q, false, rfl, by go_num, by omega, by omega, by omega, HR.out.setOk false, HK.out.setOk _, by rw [cell_set_far (by omega)]; exact U0.out, by rw [cell_set_far (by omega)]; exact U1.out, HE.out.step (.inl ⟨rfl, HZ.out⟩)⟩
        case measure => simp [intOf]
      · obtain ⟨hok, hq, hb0, hb1⟩ := Rd.digAt_true hdg
        subst hok
        have HD := Lib.hid hdg
        have e1 := Rd.byte_lt hq
        have He1 := Lib.hid e1
        rw [e1] at hb0 hb1
        clear hdg e1
        by_cases hm : n + 10 * ((s[q].toNat : Int) - 48) ≤ most
        · have t3 : decide (n + 10 * ((s[q].toNat : Int) - 48) ≤ most) = true := by simpa using hm
          have HZ := Lib.hid (pairStep_yes (s := s) (most := most) (u := 10) (n := n) (q := q) (b := true) ⟨HD.out, by rw [He1.out]; omega⟩).symm
          clear hm
          go_wp2_with fail
          have hR2 := HR.out.setOk true
          have hK2 := HK.out.setOk (.bool true)
          have v0 : (wr.setCell ⟨B + 3, 0, none⟩ (.bool true)).cell? ⟨w.heap.size, 0, none⟩ = some (.int .i64 10) := by rw [cell_set_far (by omega)]; exact U0.out
          have v1 : (wr.setCell ⟨B + 3, 0, none⟩ (.bool true)).cell? ⟨w.heap.size, 1, none⟩ = some (.int .i64 1) := by rw [cell_set_far (by omega)]; exact U1.out
          generalize wr.setCell ⟨B + 3, 0, none⟩ (.bool true) = w2 at hR2 hK2 v0 v1 ⊢
          refine (take_any w2 hR2 hs hq (by rw [He1.out]; exact hb0)).mono ?_
          rintro e w1 ⟨rfl, hR1, hK1⟩
          rw [He1.out]
          have HR1 := Lib.hid hR1
          have HK1 := Lib.hid (hK2.trans hK1)
          have V0 := Lib.hid (IsRd.of_kp hK1 v0 (by omega) (by omega))
          have V1 := Lib.hid (IsRd.of_kp hK1 v1 (by omega) (by omega))
          clear hR1 hK1 hR2 hK2 v0 v1 c0 c2 cf2 c3 cf3 cd ct u0 u1
          go_wp2
          go_roundw
          case rel =>
            refine ⟨_, 1, q + 1, true, rfl, by go_num, by omega, by omega, by omega, HR1.out, HK1.out, V0.out, V1.out, HE.out.step ?_⟩
            rw [← He1.out]
            have HZ' := HZ.out
            exact .inl ⟨rfl, HZ'⟩
          case measure => simp [intOf]
        · have t3 : decide (n + 10 * ((s[q].toNat : Int) - 48) ≤ most) = false := by simpa using hm
          have HZ := Lib.hid (pairStep_no (s := s) (most := most) (u := 10) (n := n) (q := q) (b := true) (by rw [He1.out]; omega)).symm
          go_wp2
          go_roundw
          case rel =>
            exact ⟨n, 1, q, false, rfl, by go_num, by omega, by omega, by omega, HR.out.setOk false, HK.out.setOk _, by rw [cell_set_far (by omega)]; exact U0.out, by rw [cell_set_far (by omega)]; exact U1.out, HE.out.step (.inl ⟨rfl, HZ.out⟩)⟩
          case measure => simp [intOf]
end Go.Proofs.YthimnjegacdhaaaGreatDoor

/- Forms of durations. -/
namespace Go.Proofs.YthimnjegacdhaaaGreatDoor
open Go.RowKit Go.BigFrame

def FormOk (f : FuncId) (F : ByteArray → Int × Nat × Bool) : Prop := ∀ (B : Nat) (s : ByteArray) (w : World), IsRd w B s 0 true → s.size ≤ 1000 →
  Calls Tryz.prog f #[.agg (rdVals B)] w fun e w' => e = .returned (.int .i64 (F s).1) ∧ IsRd w' B s (F s).2.1 (F s).2.2 ∧ Kp B w w'
theorem cell_box {w : World} {vs : Array Value} {T : TypeId} (j : Nat) (v : Value) (h : vs[j]? = some v) : (w.alloc (.cells vs T)).cell? ⟨w.heap.size, j, none⟩ = some v := by
  rw [World.cell?_alloc_at _ _ _ _ rfl]; exact h
theorem IsRd.boxed {w : World} {B : Nat} {s : ByteArray} {p : Nat} {ok : Bool} (h : IsRd w B s p ok) (o : Obj) : IsRd (w.alloc o) B s p ok := h.kept ((Below.refl _ _).alloc (Nat.le_refl _) o)

def numF (B : Nat) : Value := .func (.func 83) #[] #[.pointer (some ⟨B + 4, 0, none⟩), .pointer (some ⟨B, 0, none⟩), .pointer (some ⟨B + 2, 0, none⟩), .pointer (some ⟨B + 5, 0, none⟩), .pointer (some ⟨B + 3, 0, none⟩)]
def pairF (B : Nat) : Value := .func (.func 85) #[] #[.pointer (some ⟨B + 4, 0, none⟩), .pointer (some ⟨B, 0, none⟩), .pointer (some ⟨B + 2, 0, none⟩), .pointer (some ⟨B + 3, 0, none⟩), .pointer (some ⟨B + 5, 0, none⟩)]
def exactF (B : Nat) : Value := .func (.func 86) #[] #[.pointer (some ⟨B + 3, 0, none⟩), .pointer (some ⟨B + 2, 0, none⟩), .pointer (some ⟨B, 0, none⟩)]
def oneF (B : Nat) : Value := .func (.func 87) #[] #[.pointer (some ⟨B + 3, 0, none⟩), .pointer (some ⟨B + 2, 0, none⟩), .pointer (some ⟨B, 0, none⟩)]
def digF' (B : Nat) : Value := .func (.func 80) #[] #[.pointer (some ⟨B + 3, 0, none⟩), .pointer (some ⟨B + 2, 0, none⟩), .pointer (some ⟨B, 0, none⟩)]
def placeF (B : Nat) : Value := .func (.func 93) #[] #[.pointer (some ⟨B + 2, 0, none⟩), .pointer (some ⟨B + 3, 0, none⟩), .pointer (some ⟨B, 0, none⟩)]
/-- a variable of type reader, in block C -/
structure IsBox (w : World) (C B : Nat) : Prop where
  num : w.cell? ⟨C, 0, none⟩ = some (numF B)
  pair : w.cell? ⟨C, 2, none⟩ = some (pairF B)
  exact_ : w.cell? ⟨C, 3, none⟩ = some (exactF B)
  one : w.cell? ⟨C, 4, none⟩ = some (oneF B)
  dig : w.cell? ⟨C, 7, none⟩ = some (digF' B)
  place : w.cell? ⟨C, 8, none⟩ = some (placeF B)
theorem isBox_new (w : World) (B : Nat) (T : TypeId) : IsBox (w.alloc (.cells (rdVals B) T)) w.heap.size B :=
  ⟨cell_box 0 _ rfl, cell_box 2 _ rfl, cell_box 3 _ rfl, cell_box 4 _ rfl, cell_box 7 _ rfl, cell_box 8 _ rfl⟩
theorem IsBox.kp {w w' : World} {C B : Nat} (h : IsBox w C B) (hk : Kp B w w') (hC : B + 4 ≤ C) : IsBox w' C B :=
  ⟨IsRd.of_kp hk h.num (by omega) (by omega), IsRd.of_kp hk h.pair (by omega) (by omega), IsRd.of_kp hk h.exact_ (by omega) (by omega), IsRd.of_kp hk h.one (by omega) (by omega), IsRd.of_kp hk h.dig (by omega) (by omega), IsRd.of_kp hk h.place (by omega) (by omega)⟩

set_option maxHeartbeats 1000000 in
set_option maxRecDepth 100000 in
theorem short_form : FormOk 66 Rd.shortF := by
  intro B s w h hs
  have hsz := h.size
  have hR0 := h.boxed (.cells (rdVals B) 49)
  have hK0 := (Kp.refl B w).alloc (.cells (rdVals B) 49)
  have hX := isBox_new w B 49
  have HX := Lib.hid hX
  have k0 := hX.num
  unfold numF at k0
  clear hX
  have hnum := Lib.hid (fun w (h : IsRd w B s 0 true) => number_any 2 0 59 w h (by omega) (by omega))
  generalize hm : Rd.numAt s 2 0 59 true 0 = m at hnum
  have hv : 0 ≤ m.1 ∧ m.1 ≤ 59 := by
    have := Rd.numLoop_val s 2 0 59 true 2 0 0 0 (by omega) (by omega)
    rw [← hm]; unfold Rd.numAt; omega
  have hex := Lib.hid (fun w (h : IsRd w B s m.2.2 (Rd.numOk 0 true m)) => exact_any Rd.colon w h (by omega) (by decide))
  generalize hc : Rd.exactAt s Rd.colon m.2.2 (Rd.numOk 0 true m) = c at hex
  have hpr := Lib.hid (fun w (h : IsRd w B s c.1 c.2) => pair_any 59 w h (by omega))
  have hx := Rd.pairAt_val s (most := 59) c.1 c.2 (by omega)
  generalize hxx : Rd.pairAt s 59 c.1 c.2 = x at hpr hx
  have hF : Rd.shortF s = (60 * m.1 + x.1, x.2.1, x.2.2) := by unfold Rd.shortF; simp only [hm, hc, hxx]
  rw [hF]
  have v0 := hv.1
  have v1 := hv.2
  have x0 := hx.1
  have x1 := hx.2
  clear hF hm hc hxx hv hx
  generalize hn1 : m.1 = mv at *
  generalize hn2 : x.1 = xv at *
  have hK0' := Lib.hid hK0
  have hR0' := Lib.hid hR0
  clear hK0 hR0 h hn1 hn2
  go_enter Tryz.func66, Tryz.ntmps66
  go_wp2_with fail
  refine (hnum.out _ hR0'.out).mono ?_
  rintro e w1 ⟨rfl, hR1, hK1⟩
  have HX1 := Lib.hid (HX.out.kp hK1 (by omega))
  have k3 := HX1.out.exact_
  unfold exactF at k3
  have HR1 := Lib.hid hR1
  have HK1 := Lib.hid (hK0'.out.trans hK1)
  clear hR1 hK1 k0 HX
  go_wp2_with fail
  refine (hex.out _ HR1.out).mono ?_
  rintro e w2 ⟨rfl, hR2, hK2⟩
  have HX2 := Lib.hid (HX1.out.kp hK2 (by omega))
  have k2 := HX2.out.pair
  unfold pairF at k2
  have HR2 := Lib.hid hR2
  have HK2 := Lib.hid (HK1.out.trans hK2)
  clear hR2 hK2 k3 HX1
  go_wp2_with fail
  refine (hpr.out _ HR2.out).mono ?_
  rintro e w3 ⟨rfl, hR3, hK3⟩
  have HR3 := Lib.hid hR3
  have HK3 := Lib.hid (HK2.out.trans hK3)
  clear hR3 hK3 k2
  go_wp2
  go_ret
  exact ⟨rfl, HR3.out, HK3.out⟩
end Go.Proofs.YthimnjegacdhaaaGreatDoor

/- The reader's row of digits. -/
namespace Go.Proofs.YthimnjegacdhaaaGreatDoor
open Go.RowKit Go.BigFrame

theorem rowEnd {B : Nat} {s : ByteArray} {p : Nat} {ok : Bool} {most least : Nat} {w wr : World} {n : Int} {k q : Nat} (b : Bool) (hR : IsRd wr B s q ok) (hK : Kp B w wr)
    (hX : Rd.rowAt s most ok p = (n, k, q)) (hb : (ok && decide (least ≤ k)) = b) :
    Ending.returned (.tuple #[.int .i64 n, .int .i64 k]) = .returned (.tuple #[.int .i64 (Rd.rowAt s most ok p).1, .int .i64 ((Rd.rowAt s most ok p).2.1 : Nat)]) ∧
      IsRd (wr.setCell ⟨B + 3, 0, none⟩ (.bool b)) B s (Rd.rowAt s most ok p).2.2 (ok && decide (least ≤ (Rd.rowAt s most ok p).2.1)) ∧ Kp B w (wr.setCell ⟨B + 3, 0, none⟩ (.bool b)) := by
  rw [hX]
  refine ⟨rfl, ?_, hK.setOk _⟩
  show IsRd _ B s q (ok && decide (least ≤ k))
  rw [hb]; exact hR.setOk b
set_option maxHeartbeats 2000000 in
set_option maxRecDepth 100000 in
theorem row_any {B : Nat} {s : ByteArray} {p : Nat} {ok : Bool} (least most : Nat) (w : World) (h : IsRd w B s p ok) (hs : s.size ≤ 9223372036854775807) (hd : most ≤ 17) :
    Calls Tryz.prog 84 #[.int .i64 least, .int .i64 most, pt (B + 4), pt (B + 5), pt (B + 3)] w fun e w' =>
      e = .returned (.tuple #[.int .i64 (Rd.rowAt s most ok p).1, .int .i64 ((Rd.rowAt s most ok p).2.1 : Nat)]) ∧ IsRd w' B s (Rd.rowAt s most ok p).2.2 (ok && decide (least ≤ (Rd.rowAt s most ok p).2.1)) ∧ Kp B w w' := by
  have h' := Lib.hid h
  clear h
  unfold pt
  go_enter Tryz.func84, Tryz.ntmps84
  go_wp2_with fail
  go_loopw [7, 8] (fun n m wr => ∃ (nn : Int) (k q : Nat), n = .int .i64 nn ∧ m = .int .i64 k ∧ k ≤ most ∧ 0 ≤ nn ∧ Hid (nn < 10 ^ k) ∧ Hid (IsRd wr B s q ok) ∧ Hid (Kp B w wr) ∧
      Hid (Rd.rowLoop s most ok (most - k) nn k q = Rd.rowAt s most ok p)) (fun _ m _ => most - (intOf m).toNat)
  case atStart => exact ⟨0, 0, p, rfl, rfl, by omega, by omega, Lib.hid (by decide), h', Lib.hid (Kp.refl _ _), Lib.hid rfl⟩
  case round =>
    obtain ⟨n, k, q, rfl, rfl, hk, hn0, HN, HR, HK, HF⟩ := hrel
    obtain ⟨_, c0, c2, cf2, c3, cf3, cd, ct⟩ := HR.out
    unfold digF pt at cd
    unfold takeF pt at ct
    clear h'
    by_cases hkd : k < most
    case neg =>
      have t1 : decide ((k : Int) < (most : Int)) = false := by rw [decide_eq_false_iff_not]; omega
      have t1' : decide (k < most) = false := by simpa using hkd
      have HX := Lib.hid (HF.out.symm.trans (Rd.rowLoop_stop (by simp [hkd])))
      clear HF
      cases ok
      · go_wp2
        go_ret2
        exact rowEnd false HR.out HK.out HX.out rfl
      · obtain ⟨bl, hbl⟩ : ∃ x, decide (least ≤ k) = x := ⟨_, rfl⟩
        have l1 : decide ((least : Int) ≤ (k : Int)) = bl := by
          rw [← hbl]
          by_cases e : least ≤ k
          · rw [decide_eq_true e, decide_eq_true_eq]; omega
          · rw [decide_eq_false e, decide_eq_false_iff_not]; omega
        cases bl
        all_goals
          go_wp2
          go_ret2
          exact rowEnd _ HR.out HK.out HX.out (by rw [hbl]; rfl)
    case pos =>
      have t1 : decide ((k : Int) < (most : Int)) = true := by rw [decide_eq_true_eq]; omega
      have t1' : decide (k < most) = true := by simpa using hkd
      cases hdg : Rd.digAt s q ok
      case false =>
        have HX := Lib.hid (HF.out.symm.trans (Rd.rowLoop_stop (by simp [hdg])))
        have DG := Lib.hid (digit_any wr HR.out)
        rw [hdg] at DG
        clear HF hdg
        go_wp2_with fail
        refine DG.out.mono ?_
        rintro e w1 ⟨rfl, rfl⟩
        cases ok
        · go_wp2
          go_ret2
          exact rowEnd false HR.out HK.out HX.out rfl
        · obtain ⟨bl, hbl⟩ : ∃ x, decide (least ≤ k) = x := ⟨_, rfl⟩
          have l1 : decide ((least : Int) ≤ (k : Int)) = bl := by
            rw [← hbl]
            by_cases e : least ≤ k
            · rw [decide_eq_true e, decide_eq_true_eq]; omega
            · rw [decide_eq_false e, decide_eq_false_iff_not]; omega
          cases bl
          all_goals
            go_wp2
            go_ret2
            exact rowEnd _ HR.out HK.out HX.out (by rw [hbl]; rfl)
      case true =>
        obtain ⟨hok, hq, hb0, hb1⟩ := Rd.digAt_true hdg
        subst hok
        have DG := Lib.hid (digit_any wr HR.out)
        rw [hdg] at DG
        have HD := Lib.hid hdg
        have DT := Lib.hid (fun (W : World) (h : IsRd W B s q true) => take_any W h hs hq hb0)
        have hn9 : n ≤ 99999999999999999 := by
          have h1 := HN.out
          have h2 : (10 : Int) ^ k ≤ 10 ^ 17 := by exact_mod_cast Nat.pow_le_pow_right (show 0 < 10 by omega) (show k ≤ 17 by omega)
          have h3 : (10 : Int) ^ 17 = 100000000000000000 := by decide
          omega
        obtain ⟨d, hdd⟩ : ∃ d : Int, (Rd.byte s q : Int) - 48 = d := ⟨_, rfl⟩
        have hd0 : 0 ≤ d ∧ d ≤ 9 := by omega
        have HST := Lib.hid (show Rd.rowLoop s most true (most - (k + 1)) (10 * n + d) (k + 1) (q + 1) = Rd.rowAt s most true p by
          rw [← HF.out, show most - k = (most - (k + 1)) + 1 by omega, ← hdd]
          conv => rhs; rw [Rd.rowLoop]
          rw [if_pos ⟨hkd, hdg⟩])
        rw [hdd] at DT
        clear hdg HF hdd hb0 hb1
        go_wp2_with fail
        refine DG.out.mono ?_
        rintro e w1 ⟨rfl, rfl⟩
        go_wp2_with fail
        refine (DT.out _ HR.out).mono ?_
        rintro e w2 ⟨rfl, hR1, hK1⟩
        have HR1 := Lib.hid hR1
        have HK1 := Lib.hid (HK.out.trans hK1)
        clear hR1 hK1
        go_wp2
        go_roundw
        case rel =>
          refine ⟨10 * n + d, k + 1, q + 1, rfl, by go_num, by omega, by omega, Lib.hid ?_, HR1, HK1, HST⟩
          have := HN.out
          rw [Int.pow_succ]; omega
        case measure => simp [intOf]; omega
end Go.Proofs.YthimnjegacdhaaaGreatDoor

/- The reader's last and begins. -/
namespace Go.Proofs.YthimnjegacdhaaaGreatDoor
open Go.RowKit Go.BigFrame
open Rd (lastAt begAt exactAt)

theorem begins_rd {B : Nat} {s : ByteArray} {p : Nat} {ok : Bool} (c : Nat) (hc : c < 256) (w : World) (h : IsRd w B s p ok) (hp : p ≤ s.size) :
    Calls Tryz.prog 91 #[.string (Rd.byteT c), pt (B + 3), pt B, pt (B + 2)] w fun e w' => e = .returned (.bool (begAt s c p ok)) ∧ w = w' := by
  obtain ⟨_, c0, c2, _, c3, _, _, _⟩ := h
  unfold pt
  cases ok
  · go_enter Tryz.func91, Tryz.ntmps91
    go_wp2_with fail
    go_ret
    exact ⟨rfl, rfl⟩
  · have hsl : ∀ W : World, (Instr.slice 9 (.string s) (some (.int .i64 (p : Int))) none none).run Tryz.prog W = .ok (.string (s.extract p s.size)) W := fun W => by
      rw [run_slice_string_from_if W _ _ _ _ (by kernel_rfl), if_pos ⟨by omega, by omega⟩]
      rw [show ((p : Int)).toNat = p by omega]
    have DH := Lib.hid (fun W => Tryz.strings_HasPrefix (s.extract p s.size) (Rd.byteT c) W)
    have HV : Hid (Lib.hasPrefix (s.extract p s.size).data.toList (Rd.byteT c).data.toList = begAt s c p true) := Lib.hid (by
      have hx : (s.extract p s.size).data.toList = (Rd.sB s).drop p := by
        have := Rd.extract_list s p s.size
        rw [List.take_of_length_le (by rw [List.length_drop]; exact Nat.le_refl _)] at this
        exact this
      rw [hx]
      unfold begAt
      have hb : (Rd.byteT c).data.toList = [c.toUInt8] := rfl
      rw [hb]
      by_cases hlt : p < s.size
      · have hd : (Rd.sB s).drop p = s[p] :: (Rd.sB s).drop (p + 1) := by
          have hl : p < (Rd.sB s).length := hlt
          rw [List.drop_eq_getElem_cons hl]
          rfl
        rw [hd, Rd.byte_lt hlt]
        have e1 : Lib.hasPrefix (s[p] :: (Rd.sB s).drop (p + 1)) [c.toUInt8] = (s[p] == c.toUInt8) := by
          show (c.toUInt8 == s[p] && true) = _
          rw [Bool.and_true, Bool.eq_iff_iff, beq_iff_eq, beq_iff_eq]
          exact eq_comm
        rw [e1]
        have hcc : c.toUInt8.toNat = c := by simp; omega
        by_cases e : s[p].toNat = c
        · have : s[p] = c.toUInt8 := by rw [← UInt8.toNat_inj, hcc]; exact e
          simp [this, hcc, hlt]
        · have : s[p] ≠ c.toUInt8 := fun x => e (by rw [x, hcc])
          simp [this, e]
      · have hd : (Rd.sB s).drop p = [] := List.drop_eq_nil_of_le (by show s.size ≤ p; omega)
        rw [hd]
        simp [Lib.hasPrefix, hlt])
    rw [HV.out] at DH
    go_enter Tryz.func91, Tryz.ntmps91
    go_wp2_with (go_at_call 92; refine (DH.out _).mono ?_; rintro e _ ⟨rfl, rfl⟩)
    go_ret
    exact ⟨rfl, rfl⟩
set_option maxHeartbeats 4000000 in
set_option maxRecDepth 100000 in
theorem last_any {B : Nat} {s : ByteArray} {p : Nat} {ok : Bool} (ws : List ByteArray) (b off c : Nat) (w : World) (h : IsRd w B s p ok) (hs : s.size ≤ 1000000) (hp : p ≤ s.size)
    (hw : ∀ j, j < ws.length → w.cell? ⟨b, off + j, none⟩ = some (.string (ws.getD j ByteArray.empty))) (hl : ws.length ≤ 10) (hsz : ∀ j, j < ws.length → (ws.getD j ByteArray.empty).size ≤ 100) :
    Calls Tryz.prog 89 #[.slice (some ⟨b, off, none⟩) ws.length c, pt (B + 3), pt B, pt (B + 2)] w fun e w' =>
      e = .returned (.int .i64 (lastAt s ws p ok).1) ∧ IsRd w' B s (lastAt s ws p ok).2.1 (lastAt s ws p ok).2.2 ∧ Kp B w w' := by
  have HH := Lib.hid h
  obtain ⟨_, c0, c2, cf2, c3, cf3, _, _⟩ := h
  unfold pt
  cases ok
  case false =>
    go_enter Tryz.func89, Tryz.ntmps89
    go_wp2_with fail
    go_ret
    exact ⟨rfl, HH.out, Kp.refl _ _⟩
  case true =>
    have hsl : ∀ W : World, (Instr.slice 9 (.string s) (some (.int .i64 (p : Int))) none none).run Tryz.prog W = .ok (.string (s.extract p s.size)) W := fun W => by
      rw [run_slice_string_from_if W _ _ _ _ (by kernel_rfl), if_pos ⟨by omega, by omega⟩]
      rw [show ((p : Int)).toNat = p by omega]
    have hrs : (s.extract p s.size).size = s.size - p := by rw [ByteArray.size_extract]; omega
    have HG : Hid (∀ n (hn : n < (s.extract p s.size).size), ((s.extract p s.size)[n]'hn).toNat = Rd.byte s (p + n)) := Lib.hid (fun n hn => by
      rw [ByteArray.getElem_extract, Rd.byte_lt (by omega)])
    have HL : Hid (lastAt s ws p true = (Lib.idxOfS ws (s.extract p s.size), ws.foldl (fun a w => max a (exactAt s w p true).1) p, decide (0 ≤ Lib.idxOfS ws (s.extract p s.size)))) := Lib.hid rfl
    have DX := Lib.hid (fun W hW => Tryz.slices_Index_string b off ws.length c ws (s.extract p s.size) W (Nat.le_refl _) (by omega) hW)
    rw [List.take_length] at DX
    obtain ⟨r, hr⟩ : ∃ r, s.extract p s.size = r := ⟨_, rfl⟩
    rw [hr] at hsl hrs HG HL DX
    have C0 := Ext.ex c0
    have C2 := Ext.ex c2
    have C3 := Ext.ex c3
    have HW := Lib.hid hw
    have HSZ := Lib.hid hsz
    have HRS := Lib.hid hrs
    clear hr hw hsz cf2 cf3 hrs
    go_enter Tryz.func89, Tryz.ntmps89
    go_wp2_with fail
    go_loopw [7, 19] (fun mv iv wr => ∃ (k mo : Nat) (X : Ext w), mv = .int .i64 mo ∧ iv = .int .i64 k ∧ k ≤ ws.length ∧ mo ≤ 1000000 ∧ wr = X.1 ∧ Hid ((ws.take k).foldl (fun a x => max a (exactAt s x p true).1) p = p + mo)) (fun _ iv _ => ws.length - (intOf iv).toNat)
    case atStart => exact ⟨0, 0, ⟨w, Below.refl _ _⟩, rfl, rfl, by omega, by omega, rfl, Lib.hid (by simp)⟩
    case round =>
      obtain ⟨k, mo, X, rfl, rfl, hk, hmo, rfl, HF⟩ := hrel
      by_cases hlt : k < ws.length
      case neg =>
        have t1 : decide ((k : Int) < (ws.length : Int)) = false := by rw [lt_b]; simpa using hlt
        have t1' : decide (k < ws.length) = false := by simpa using hlt
        have hf := HF.out
        rw [List.take_of_length_le (by omega)] at hf
        have hl2 := HL.out
        rw [hf] at hl2
        have HL2 := Lib.hid hl2
        have DXX := Lib.hid (DX.out X.1 (fun j hj => below_cell X.2 (HW.out j hj)))
        obtain ⟨ix, hix⟩ : ∃ ix, Lib.idxOfS ws r = ix := ⟨_, rfl⟩
        rw [hix] at HL2 DXX
        have HRX := Lib.hid (HH.out.kept X.2)
        obtain ⟨_, y0, y2, yf2, y3, yf3, _, _⟩ := HRX.out
        obtain ⟨bi, hbi⟩ : ∃ x, decide (0 ≤ ix) = x := ⟨_, rfl⟩
        have hbi' : decide (ix ≥ 0) = bi := hbi
        rw [hbi] at HL2
        have HK0 := Lib.hid (Kp.of_below (B := B) X.2)
        clear hix hf hl2 HF hlt C0 C2 C3 c0 c2 c3 hbi
        go_upto_region 13 with (go_at_call 90; refine DXX.out.mono ?_; rintro e _ ⟨rfl, rfl⟩)
        go_wp2_with fail
        go_ret
        refine ⟨by rw [HL2.out]; rfl, ?_, ?_⟩
        · rw [HL2.out]
          exact (HRX.out.setOk bi).setAt (p + mo)
        · exact (HK0.out.setOk _).setAt _
      case pos =>
        have t1 : decide ((k : Int) < (ws.length : Int)) = true := by rw [lt_b]; simpa using hlt
        have t1' : decide (k < ws.length) = true := by simpa using hlt
        have e0 := below_cell X.2 (HW.out k hlt)
        have hxs := HSZ.out k hlt
        have hgk : ws.take (k + 1) = ws.take k ++ [ws.getD k ByteArray.empty] := by
          rw [List.take_add_one, List.getElem?_eq_getElem hlt, List.getD_eq_getElem?_getD, List.getElem?_eq_getElem hlt]
          rfl
        have HNX : Hid ((ws.take (k + 1)).foldl (fun a x => max a (exactAt s x p true).1) p = max (p + mo) (exactAt s (ws.getD k ByteArray.empty) p true).1) := Lib.hid (by rw [hgk, List.foldl_append, HF.out]; rfl)
        obtain ⟨x, hx⟩ : ∃ x, ws.getD k ByteArray.empty = x := ⟨_, rfl⟩
        rw [hx] at e0 hxs HNX
        clear hgk hx HF
        go_upto_region 8 with fail
        go_loopw [10] (fun nv wr => ∃ (n : Nat) (Y : Ext w), nv = .int .i64 n ∧ n ≤ x.size ∧ p + n ≤ s.size ∧ wr = Y.1 ∧ Hid (Rd.exactLoop s x (x.size - n) n (p + n) = exactAt s x p true)) (fun nv _ => x.size - (intOf nv).toNat)
        case atStart => exact ⟨0, X, rfl, by omega, by omega, rfl, Lib.hid (Rd.exactAt_yes s x p).symm⟩
        case round =>
          obtain ⟨n, Y, rfl, hn1, hn2, rfl, HE⟩ := hrel
          have hnr : n ≤ r.size := by have := HRS.out; omega
          by_cases hin : n < x.size ∧ n < r.size
          case neg =>
            have m1 : decide ((n : Int) < min (x.size : Int) (r.size : Int)) = false := by rw [decide_eq_false_iff_not]; omega
            have m2 : decide ((n : Int) < (x.size : Int)) = decide (n < x.size) := lt_b
            have HX : Hid ((exactAt s x p true).1 = p + n) := Lib.hid (by
              rw [← HE.out]
              by_cases hnx : n < x.size
              · rw [show x.size - n = (x.size - n - 1) + 1 by omega, Rd.exactLoop, if_pos hnx, if_neg (fun h => by have := HRS.out; omega)]
              · rw [show x.size - n = 0 by omega]; rfl)
            clear HE
            go_upto_region 8 with fail
            refine wp_region_ext Y (by kernel_rfl) (by kernel_rfl) ?_
            repeat (go_big_quiet_step (fail))
            refine wpQuiet_nil ?_
            intro _ hw'
            obtain ⟨Z, rfl⟩ := hw'
            go_wp2_with fail
            go_roundw
            case rel => exact ⟨k + 1, max mo n, Z, by go_num, by go_num, by omega, by omega, rfl, Lib.hid (by rw [HNX.out, HX.out]; omega)⟩
            case measure => simp [intOf]; omega
          case pos =>
            have m1 : decide ((n : Int) < min (x.size : Int) (r.size : Int)) = true := by rw [decide_eq_true_eq]; omega
            have hxn := hin.1
            have hrn := hin.2
            have hgn := HG.out n hrn
            have HGN := Lib.hid hgn
            by_cases he : x[n].toNat = r[n].toNat
            case neg =>
              have g5 : ((x[n].toNat : Int) == (r[n].toNat : Int)) = false := by rw [eq_b]; simpa using he
              have g7 : decide (x[n].toNat = r[n].toNat) = false := by simpa using he
              have HX : Hid ((exactAt s x p true).1 = p + n) := Lib.hid (by
                rw [← HE.out, show x.size - n = (x.size - n - 1) + 1 by omega, Rd.exactLoop, if_pos hxn, if_neg (fun h => by
                  have h2 := h.2
                  rw [← hgn, Rd.byte_lt hxn] at h2
                  exact he h2.symm)])
              clear HE hgn he
              go_upto_region 8 with fail
              refine wp_region_ext Y (by kernel_rfl) (by kernel_rfl) ?_
              repeat (go_big_quiet_step (fail))
              refine wpQuiet_nil ?_
              intro _ hw'
              obtain ⟨Z, rfl⟩ := hw'
              go_wp2_with fail
              go_roundw
              case rel => exact ⟨k + 1, max mo n, Z, by go_num, by go_num, by omega, by omega, rfl, Lib.hid (by rw [HNX.out, HX.out]; omega)⟩
              case measure => simp [intOf]; omega
            case pos =>
              have g5 : ((x[n].toNat : Int) == (r[n].toNat : Int)) = true := by rw [eq_b]; simpa using he
              have g7 : decide (x[n].toNat = r[n].toNat) = true := by simpa using he
              have HX : Hid (Rd.exactLoop s x (x.size - (n + 1)) (n + 1) (p + (n + 1)) = exactAt s x p true) := Lib.hid (by
                rw [← HE.out, show x.size - n = (x.size - (n + 1)) + 1 by omega]
                conv => rhs; rw [Rd.exactLoop]
                rw [if_pos hxn, if_pos ⟨by have := HRS.out; omega, by rw [← hgn, Rd.byte_lt hxn]; exact he.symm⟩, Nat.add_assoc])
              clear HE hgn he
              go_upto_region 8 with fail
              refine wp_region_ext Y (by kernel_rfl) (by kernel_rfl) ?_
              repeat (go_big_quiet_step (fail))
              refine wpQuiet_nil ?_
              intro _ hw'
              obtain ⟨Z, rfl⟩ := hw'
              go_wp2_with fail
              go_roundw
              case rel => exact ⟨n + 1, Z, by go_num, by omega, by have := HRS.out; omega, rfl, HX⟩
              case measure => simp [intOf]; omega
end Go.Proofs.YthimnjegacdhaaaGreatDoor

/- The long form of durations. -/
namespace Go.Proofs.YthimnjegacdhaaaGreatDoor
open Go.RowKit Go.BigFrame

set_option maxHeartbeats 2000000 in
set_option maxRecDepth 100000 in
theorem long_form : FormOk 67 Rd.longF := by
  intro B s w h hs
  have hsz := h.size
  have hR0 := h.boxed (.cells (rdVals B) 49)
  have hK0 := (Kp.refl B w).alloc (.cells (rdVals B) 49)
  have hX := isBox_new w B 49
  have HX := Lib.hid hX
  have k0 := hX.num
  unfold numF at k0
  clear hX
  have hnum := Lib.hid (fun w (h : IsRd w B s 0 true) => number_any 3 1 999 w h (by omega) (by omega))
  have hv := Rd.numLoop_val s 3 1 999 true 3 0 0 0 (by omega) (by omega)
  rw [show Rd.numLoop s 3 1 999 true 3 0 0 0 = Rd.numAt s 3 1 999 true 0 from rfl] at hv
  generalize hh : Rd.numAt s 3 1 999 true 0 = h1 at hnum hv
  have hex := Lib.hid (fun w (h : IsRd w B s h1.2.2 (Rd.numOk 1 true h1)) => exact_any Rd.colon w h (by omega) (by decide))
  generalize hc : Rd.exactAt s Rd.colon h1.2.2 (Rd.numOk 1 true h1) = c at hex
  have hpr := Lib.hid (fun w (h : IsRd w B s c.1 c.2) => pair_any 59 w h (by omega))
  have hy := Rd.pairAt_val s (most := 59) c.1 c.2 (by omega)
  generalize hm : Rd.pairAt s 59 c.1 c.2 = m at hpr hy
  have hex2 := Lib.hid (fun w (h : IsRd w B s m.2.1 m.2.2) => exact_any Rd.colon w h (by omega) (by decide))
  generalize hd : Rd.exactAt s Rd.colon m.2.1 m.2.2 = d at hex2
  have hpr2 := Lib.hid (fun w (h : IsRd w B s d.1 d.2) => pair_any 59 w h (by omega))
  have hx := Rd.pairAt_val s (most := 59) d.1 d.2 (by omega)
  generalize hxx : Rd.pairAt s 59 d.1 d.2 = x at hpr2 hx
  have hF : Rd.longF s = (3600 * h1.1 + 60 * m.1 + x.1, x.2.1, x.2.2) := by unfold Rd.longF; simp only [hh, hc, hm, hd, hxx]
  rw [hF]
  have v0 := hv.1
  have v1 : h1.1 ≤ 999 := by omega
  have y0 := hy.1
  have y1 := hy.2
  have x0 := hx.1
  have x1 := hx.2
  clear hF hh hc hm hd hxx hv hx hy
  generalize hn1 : h1.1 = hv at *
  generalize hn2 : x.1 = xv at *
  generalize hn3 : m.1 = mv at *
  have hK0' := Lib.hid hK0
  have hR0' := Lib.hid hR0
  clear hK0 hR0 h hn1 hn2 hn3
  go_enter Tryz.func67, Tryz.ntmps67
  go_wp2_with fail
  refine (hnum.out _ hR0'.out).mono ?_
  rintro e w1 ⟨rfl, hR1, hK1⟩
  have HX1 := Lib.hid (HX.out.kp hK1 (by omega))
  have k3 := HX1.out.exact_
  unfold exactF at k3
  have HR1 := Lib.hid hR1
  have HK1 := Lib.hid (hK0'.out.trans hK1)
  clear hR1 hK1 k0 HX
  go_wp2_with fail
  refine (hex.out _ HR1.out).mono ?_
  rintro e w2 ⟨rfl, hR2, hK2⟩
  have HX2 := Lib.hid (HX1.out.kp hK2 (by omega))
  have k2 := HX2.out.pair
  unfold pairF at k2
  have HR2 := Lib.hid hR2
  have HK2 := Lib.hid (HK1.out.trans hK2)
  clear hR2 hK2 k3 HX1
  go_wp2_with fail
  refine (hpr.out _ HR2.out).mono ?_
  rintro e w3 ⟨rfl, hR3, hK3⟩
  have HX3 := Lib.hid (HX2.out.kp hK3 (by omega))
  have k3 := HX3.out.exact_
  unfold exactF at k3
  have HR3 := Lib.hid hR3
  have HK3 := Lib.hid (HK2.out.trans hK3)
  clear hR3 hK3 k2 HX2
  go_wp2_with fail
  refine (hex2.out _ HR3.out).mono ?_
  rintro e w4 ⟨rfl, hR4, hK4⟩
  have HX4 := Lib.hid (HX3.out.kp hK4 (by omega))
  have k2 := HX4.out.pair
  unfold pairF at k2
  have HR4 := Lib.hid hR4
  have HK4 := Lib.hid (HK3.out.trans hK4)
  clear hR4 hK4 k3 HX3
  go_wp2_with fail
  refine (hpr2.out _ HR4.out).mono ?_
  rintro e w5 ⟨rfl, hR5, hK5⟩
  have HR5 := Lib.hid hR5
  have HK5 := Lib.hid (HK4.out.trans hK5)
  clear hR5 hK5 k2
  go_wp2
  go_ret
  exact ⟨rfl, HR5.out, HK5.out⟩
end Go.Proofs.YthimnjegacdhaaaGreatDoor

/- readForms, ranged. -/
namespace Go.Proofs.YthimnjegacdhaaaGreatDoor
open Go.RowKit Go.BigFrame

theorem ranged_any (n e lo hi : Int) (a : Nat) (w : World) : Calls Tryz.prog 36 #[.int .i64 n, .int .i64 a, .int .i64 e, .int .i64 lo, .int .i64 hi] w fun r w' =>
    r = .returned (.tuple #[.int .i64 (Rd.ranged (n, a, e) lo hi).1, .int .i64 (Rd.ranged (n, a, e) lo hi).2.1, .int .i64 (Rd.ranged (n, a, e) lo hi).2.2]) ∧ w = w' := by
  cases h0 : (e == 0)
  · have hz : Rd.ranged (n, a, e) lo hi = (n, a, e) := by unfold Rd.ranged; rw [if_neg]; simp only [beq_eq_false_iff_ne] at h0; exact fun h => h0 h.1
    rw [hz]
    clear hz
    go_enter Tryz.func36, Tryz.ntmps36
    go_wp2
    go_ret3
    exact ⟨rfl, rfl⟩
  · have he : e = 0 := by simpa using h0
    subst he
    clear h0
    by_cases h1 : n < lo
    · have hz : Rd.ranged (n, a, 0) lo hi = (0, 0, 9) := by unfold Rd.ranged; rw [if_pos]; exact ⟨rfl, .inl h1⟩
      rw [hz]
      have t1 : decide (n < lo) = true := by simpa using h1
      clear hz h1
      go_enter Tryz.func36, Tryz.ntmps36
      go_wp2
      go_ret3
      exact ⟨rfl, rfl⟩
    · have t1 : decide (n < lo) = false := by simpa using h1
      by_cases h2 : hi < n
      · have hz : Rd.ranged (n, a, 0) lo hi = (0, 0, 9) := by unfold Rd.ranged; rw [if_pos]; exact ⟨rfl, .inr h2⟩
        rw [hz]
        have t2 : decide (hi < n) = true := by simpa using h2
        clear hz h1 h2
        go_enter Tryz.func36, Tryz.ntmps36
        go_wp2
        go_ret3
        exact ⟨rfl, rfl⟩
      · have hz : Rd.ranged (n, a, 0) lo hi = (n, a, 0) := by unfold Rd.ranged; rw [if_neg]; intro h; rcases h.2 with h | h; exact h1 h; exact h2 h
        rw [hz]
        have t2 : decide (hi < n) = false := by simpa using h2
        clear hz h1 h2
        go_enter Tryz.func36, Tryz.ntmps36
        go_wp2
        go_ret3
        exact ⟨rfl, rfl⟩

structure IsForm (f : FuncId) (F : ByteArray → Int × Nat × Bool) : Prop where
  enter : ∀ args w, Sem.run Tryz.prog (callFunc f args) w = .ok (.enter f args) w
  ok : FormOk f F
/-- a slice of forms in memory, without captured variables -/
def Forms (w : World) (R : Nat) : List FuncId → Nat → Prop
  | [], _ => True
  | f :: l, j => w.cell? ⟨R, j, none⟩ = some (.func (.func f) #[] #[]) ∧ Forms w R l (j + 1)

set_option maxHeartbeats 2000000 in
set_option maxRecDepth 100000 in
theorem readForms_any (s : ByteArray) (w : World) (R n : Nat) (fs : Nat → FuncId) (Fs : Nat → ByteArray → Int × Nat × Bool) (hn : n ≤ 100) (hR : R < w.heap.size)
    (hf : ∀ j, j < n → w.cell? ⟨R, j, none⟩ = some (.func (.func (fs j)) #[] #[])) (hF : ∀ j, j < n → IsForm (fs j) (Fs j)) (hs : s.size ≤ 9223372036854775807) (z : Int × Nat × Int)
    (hz : Rd.readForms s ((List.range n).map Fs) = z) :
    Calls Tryz.prog 35 #[.string s, .slice (some ⟨R, 0, none⟩) n n] w fun r w' =>
      r = .returned (.tuple #[.int .i64 z.1, .int .i64 z.2.1, .int .i64 z.2.2]) ∧ Below w.heap.size w w' := by
  have Hf := Lib.hid hf
  have HF := Lib.hid hF
  have Hz := Lib.hid hz
  clear hf hF hz
  by_cases h1 : 1000 < s.size
  · have t1 : decide ((1000 : Int) < (s.size : Int)) = true := by rw [decide_eq_true_eq]; omega
    have hzz : z = (0, 0, 3) := by rw [← Hz.out]; unfold Rd.readForms; rw [if_pos h1]
    subst hzz
    clear h1
    go_enter Tryz.func35, Tryz.ntmps35
    go_wp2_with fail
    go_ret3
    exact ⟨rfl, Below.refl _ _⟩
  · have t1 : decide ((1000 : Int) < (s.size : Int)) = false := by rw [decide_eq_false_iff_not]; omega
    have hsz : (s.size : Int) ≤ 1000 := by omega
    have hst := Lib.hid (show Rd.formsLoop s ((List.range n).map Fs) 0 = z by rw [← Hz.out]; unfold Rd.readForms; rw [if_neg h1])
    clear h1
    go_enter Tryz.func35, Tryz.ntmps35
    go_wp2_with fail
    go_loopw [5, 18] (fun av iv wr => ∃ (a i : Nat), av = .int .i64 a ∧ iv = .int .i64 i ∧ i ≤ n ∧ Below w.heap.size w wr ∧ Rd.formsLoop s (((List.range n).map Fs).drop i) a = z) (fun _ iv _ => n - (intOf iv).toNat)
    case atStart => exact ⟨0, 0, rfl, rfl, by omega, Below.refl _ _, hst.out⟩
    case round =>
      obtain ⟨a, i, rfl, rfl, hi, hb, hl⟩ := hrel
      have HB := Lib.hid hb
      have HL := Lib.hid hl
      have hbs := hb.size
      clear hb hl hst
      by_cases hin : i < n
      · have t2 : decide ((i : Int) < (n : Int)) = true := by rw [decide_eq_true_eq]; omega
        have hcf := (HF.out i hin).enter
        have c0 := (HB.out.cell (p := ⟨R, i, none⟩) hR).trans (Hf.out i hin)
        have hrd := Lib.hid (readerOf_any s wr)
        go_wp2_with fail
        refine hrd.out.mono ?_
        rintro e w1 ⟨rfl, hR1, hb1⟩
        unfold rdVals digF pt
        have hb1s := hb1.size
        have h6 := hR1.size
        have HR1 := Lib.hid (hR1.boxed (.cells (rdVals wr.heap.size) 49))
        have HX1 := Lib.hid (isBox_new w1 wr.heap.size 49)
        have HB1 := Lib.hid ((HB.out.trans (hb1.mono hbs)).alloc (by omega) (.cells (rdVals wr.heap.size) 49))
        clear hb1 hR1
        go_wp2_with fail
        change Calls Tryz.prog (fs i) #[.agg (rdVals wr.heap.size)] (w1.alloc (.cells (rdVals wr.heap.size) 49)) _
        refine ((HF.out i hin).ok wr.heap.size s _ HR1.out (by omega)).mono ?_
        rintro e w2 ⟨rfl, hR2, hK2⟩
        have HX2 := Lib.hid (HX1.out.kp hK2 (by omega))
        have hk2s := hK2.size
        have HB2 := Lib.hid (HB1.out.trans (hK2.below (C := w.heap.size) (by omega) (by simp; omega)))
        have HR2 := Lib.hid hR2
        have k8 := HX2.out.place
        unfold placeF at k8
        have hpl := Lib.hid (place_any w2 hR2)
        have hcons : (((List.range n).map Fs).drop i) = Fs i :: (((List.range n).map Fs).drop (i + 1)) := by
          rw [List.drop_eq_getElem_cons (by simpa using hin)]
          simp
        have hL := HL.out
        rw [hcons, Rd.formsLoop] at hL
        have HL' := Lib.hid hL
        clear hR2 hK2 hL hcons HL
        generalize Fs i s = F at HL' HR2 hpl ⊢
        go_wp2_with fail
        refine hpl.out.mono ?_
        rintro e w3 ⟨rfl, nd, rfl⟩
        have HB3 := Lib.hid (below_drewN HB2.out nd)
        clear k8 hpl
        cases hw : (F.2.2 && decide (F.2.1 = s.size))
        · have hL := HL'.out
          rw [hw, if_neg (by simp)] at hL
          have HL2 := Lib.hid hL
          clear hL HL' hw
          go_wp2
          go_roundw
          case rel => exact ⟨max a F.2.1, i + 1, congrArg (Value.int .i64) (by omega), by go_num, by omega, HB3.out, HL2.out⟩
          case measure => simp [intOf]; omega
        · have hL := HL'.out
          rw [hw, if_pos rfl] at hL
          subst hL
          clear HL' hw
          go_wp2
          go_ret3
          exact ⟨rfl, HB3.out⟩
      · have t2 : decide (i < n) = false := by simpa using hin
        have hL := HL.out
        rw [List.drop_of_length_le (by simp; omega), Rd.formsLoop] at hL
        subst hL
        clear HL hin
        go_wp2
        go_ret3
        exact ⟨rfl, HB.out⟩
end Go.Proofs.YthimnjegacdhaaaGreatDoor

/- Durations with letters. -/
namespace Go.Proofs.YthimnjegacdhaaaGreatDoor
open Go.RowKit Go.BigFrame

def strLen : Value → Nat | .string t => t.size | _ => 0
theorem lets_size {m : Nat} (h : m ≤ 3) : (Rd.lets m).size = m := by
  rcases (show m = 0 ∨ m = 1 ∨ m = 2 ∨ m = 3 by omega) with rfl | rfl | rfl | rfl <;> rfl
theorem sum_bound {v u : Int} (h0 : 0 ≤ v) (h1 : v ≤ 9999999) (hu : u = 3600 ∨ u = 60 ∨ u = 1) : 0 ≤ v * u ∧ v * u ≤ 36000000000 := by
  rcases hu with rfl | rfl | rfl <;> omega

set_option maxHeartbeats 4000000 in
set_option maxRecDepth 100000 in
theorem lettered_form : FormOk 68 Rd.letteredF := by
  intro B s w h hs
  have hsz := h.size
  have hb0 := ((Below.refl w.heap.size w).alloc (Nat.le_refl _) (.cells (rdVals B) 49)).alloc (by simp) (.cells #[.int .i64 3600, .int .i64 60, .int .i64 1] 3)
  have hR0 := Lib.hid (h.kept hb0)
  have hK0 := Lib.hid (Kp.of_below (B := B) hb0)
  have hX0 := Lib.hid ((isBox_new w B 49).kp (Kp.of_below (B := B) ((Below.refl _ _).alloc (Nat.le_refl _) (.cells #[.int .i64 3600, .int .i64 60, .int .i64 1] 3))) (by omega))
  obtain ⟨z, hz⟩ : ∃ z, z = Rd.letteredF s := ⟨_, rfl⟩
  rw [← hz]
  have Hz := Lib.hid (hz.symm : Rd.lettLoop s 3 3 0 0 true = z)
  clear h hb0 hz
  go_enter Tryz.func68, Tryz.ntmps68
  go_wp2_with fail
  go_loopw [3, 5] (fun sv lv wr => ∃ (sum : Int) (m f p : Nat) (ok : Bool), sv = .int .i64 sum ∧ lv = .string (Rd.lets m) ∧ m ≤ 3 ∧ m ≤ f ∧ 0 ≤ sum ∧ sum ≤ 36000000000 * (3 - m) ∧ IsRd wr B s p ok ∧ IsBox wr w.heap.size B ∧ Kp B w wr ∧
      wr.cell? ⟨w.heap.size + 1, 0, none⟩ = some (.int .i64 3600) ∧ wr.cell? ⟨w.heap.size + 1, 1, none⟩ = some (.int .i64 60) ∧ wr.cell? ⟨w.heap.size + 1, 2, none⟩ = some (.int .i64 1) ∧ Rd.lettLoop s f m sum p ok = z) (fun _ lv _ => strLen lv)
  case atStart =>
    exact ⟨0, 3, 3, 0, true, rfl, rfl, by omega, by omega, by omega, by omega, hR0.out, hX0.out, hK0.out, by rw [World.cell?_alloc_at _ _ _ _ (by simp)]; rfl, by rw [World.cell?_alloc_at _ _ _ _ (by simp)]; rfl, by rw [World.cell?_alloc_at _ _ _ _ (by simp)]; rfl, Hz.out⟩
  case round =>
    obtain ⟨sum, m, f, p, ok, rfl, rfl, hm, hf, hs0, hs1, hR, hX, hK, u0, u1, u2, hL⟩ := hrel
    have HR := Lib.hid hR
    have HX := Lib.hid hX
    have HK := Lib.hid hK
    have HL := Lib.hid hL
    have k0 := hX.num
    unfold numF at k0
    clear hR hX hK hL Hz hR0 hX0 hK0
    by_cases hm0 : m = 0
    · subst hm0
      have hL := HL.out
      rw [Rd.lettLoop_end] at hL
      subst hL
      unfold Rd.lets
      clear HL
      go_wp2
      go_ret
      exact ⟨rfl, HR.out, HK.out⟩
    · have hne : (!(Rd.lets m).toList.isEmpty) = true := by
        rcases (show m = 1 ∨ m = 2 ∨ m = 3 by omega) with rfl | rfl | rfl <;> kernel_rfl
      have hne2 : (Rd.lets m).toList.isEmpty = false := by simpa using hne
      obtain ⟨f, rfl⟩ : ∃ g, f = g + 1 := ⟨f - 1, by omega⟩
      have hlm := lets_size hm
      have hnum := Lib.hid (number_any 7 0 9999999 wr HR.out (by omega) (by omega))
      have hv := Rd.numAt_val s 7 0 9999999 ok p (by omega)
      generalize hx : Rd.numAt s 7 0 9999999 ok p = x at hnum hv
      have hone := Lib.hid (fun w (h : IsRd w B s x.2.2 (Rd.numOk 0 ok x)) => one_any (Rd.lets m) w h (by omega))
      have hk := Rd.oneAt_lt s (Rd.lets m) x.2.2 (Rd.numOk 0 ok x)
      rw [hlm] at hk
      generalize hkk : Rd.oneAt s (Rd.lets m) x.2.2 (Rd.numOk 0 ok x) = k at hone hk
      have Hx := Lib.hid hx
      have Hk := Lib.hid hkk
      have v0 := hv.1
      have v1 := hv.2
      generalize hxv : x.1 = xv at v0 v1 hnum
      have Hxv := Lib.hid hxv
      generalize hkv : k.1 = kv at hk hone
      have Hkv := Lib.hid hkv
      clear hx hkk hv hlm hxv hkv
      go_wp2_with fail
      refine hnum.out.mono ?_
      rintro e w1 ⟨rfl, hR1, hK1⟩
      have HX1 := Lib.hid (HX.out.kp hK1 (by omega))
      have k4 := HX1.out.one
      unfold oneF at k4
      have HR1 := Lib.hid hR1
      have HK1 := Lib.hid (HK.out.trans hK1)
      have U0 := IsRd.of_kp hK1 u0 (by omega) (by omega)
      have U1 := IsRd.of_kp hK1 u1 (by omega) (by omega)
      have U2 := IsRd.of_kp hK1 u2 (by omega) (by omega)
      clear hR1 hK1 k0 HX u0 u1 u2 hnum
      go_wp2_with fail
      refine (hone.out _ HR1.out).mono ?_
      rintro e w2 ⟨rfl, hR2, hK2⟩
      have HX2 := Lib.hid (HX1.out.kp hK2 (by omega))
      have k7 := HX2.out.dig
      unfold digF' at k7
      have HR2 := Lib.hid hR2
      have HK2 := Lib.hid (HK1.out.trans hK2)
      have u0 := IsRd.of_kp hK2 U0 (by omega) (by omega)
      have u1 := IsRd.of_kp hK2 U1 (by omega) (by omega)
      have u2 := IsRd.of_kp hK2 U2 (by omega) (by omega)
      clear hR2 hK2 k4 HX1 U0 U1 U2 hone HR1 HK1 HR HK
      by_cases hkn : kv < 0
      · have t1 : decide (kv < 0) = true := by simpa using hkn
        have hL := HL.out
        rw [Rd.lettLoop_none hm0 Hx.out Hk.out (by rw [Hkv.out]; exact hkn)] at hL
        subst hL
        clear hk hkn HL
        go_wp2
        go_ret
        exact ⟨rfl, HR2.out, HK2.out⟩
      · have t1 : decide (kv < 0) = false := by simpa using hkn
        obtain ⟨kn, rfl⟩ := Int.eq_ofNat_of_zero_le (show 0 ≤ kv by omega)
        have hkm : kn < m := by omega
        have hdig := Lib.hid (digit_any w2 HR2.out)
        have h6 : (m = 1 ∧ kn = 0) ∨ (m = 2 ∧ kn = 0) ∨ (m = 2 ∧ kn = 1) ∨ (m = 3 ∧ kn = 0) ∨ (m = 3 ∧ kn = 1) ∨ (m = 3 ∧ kn = 2) := by omega
        cases hdg : Rd.digAt s k.2.1 k.2.2
        · have hL := HL.out
          rw [Rd.lettLoop_last hm0 Hx.out Hk.out (by rw [Hkv.out]; exact hkn) hdg, Hkv.out, Hxv.out] at hL
          rw [hdg] at hdig
          have HL2 := Lib.hid hL
          clear hL HL hdg hk hkn hkm
          rcases h6 with ⟨rfl, rfl⟩ | ⟨rfl, rfl⟩ | ⟨rfl, rfl⟩ | ⟨rfl, rfl⟩ | ⟨rfl, rfl⟩ | ⟨rfl, rfl⟩
          · have hb := sum_bound v0 v1 (u := 1) (by omega)
            clear hm0 hne hne2
            unfold Rd.lets
            go_wp2_with fail
            refine hdig.out.mono ?_
            rintro e w3 ⟨rfl, rfl⟩
            go_wp2
            go_ret
            rw [← HL2.out]
            refine ⟨ret_int ?_, HR2.out, HK2.out⟩
            show _ = sum + xv * 1
            omega
          · have hb := sum_bound v0 v1 (u := 60) (by omega)
            clear hm0 hne hne2
            unfold Rd.lets
            go_wp2_with fail
            refine hdig.out.mono ?_
            rintro e w3 ⟨rfl, rfl⟩
            go_wp2
            go_ret
            rw [← HL2.out]
            refine ⟨ret_int ?_, HR2.out, HK2.out⟩
            show _ = sum + xv * 60
            omega
          · have hb := sum_bound v0 v1 (u := 1) (by omega)
            clear hm0 hne hne2
            unfold Rd.lets
            go_wp2_with fail
            refine hdig.out.mono ?_
            rintro e w3 ⟨rfl, rfl⟩
            go_wp2
            go_ret
            rw [← HL2.out]
            refine ⟨ret_int ?_, HR2.out, HK2.out⟩
            show _ = sum + xv * 1
            omega
          · have hb := sum_bound v0 v1 (u := 3600) (by omega)
            clear hm0 hne hne2
            unfold Rd.lets
            go_wp2_with fail
            refine hdig.out.mono ?_
            rintro e w3 ⟨rfl, rfl⟩
            go_wp2
            go_ret
            rw [← HL2.out]
            refine ⟨ret_int ?_, HR2.out, HK2.out⟩
            show _ = sum + xv * 3600
            omega
          · have hb := sum_bound v0 v1 (u := 60) (by omega)
            clear hm0 hne hne2
            unfold Rd.lets
            go_wp2_with fail
            refine hdig.out.mono ?_
            rintro e w3 ⟨rfl, rfl⟩
            go_wp2
            go_ret
            rw [← HL2.out]
            refine ⟨ret_int ?_, HR2.out, HK2.out⟩
            show _ = sum + xv * 60
            omega
          · have hb := sum_bound v0 v1 (u := 1) (by omega)
            clear hm0 hne hne2
            unfold Rd.lets
            go_wp2_with fail
            refine hdig.out.mono ?_
            rintro e w3 ⟨rfl, rfl⟩
            go_wp2
            go_ret
            rw [← HL2.out]
            refine ⟨ret_int ?_, HR2.out, HK2.out⟩
            show _ = sum + xv * 1
            omega
        · have hL := HL.out
          rw [Rd.lettLoop_next hm0 Hx.out Hk.out (by rw [Hkv.out]; exact hkn) hdg, Hkv.out, Hxv.out] at hL
          rw [hdg] at hdig
          have HL2 := Lib.hid hL
          clear hL HL hdg hk hkn hkm
          rcases h6 with ⟨rfl, rfl⟩ | ⟨rfl, rfl⟩ | ⟨rfl, rfl⟩ | ⟨rfl, rfl⟩ | ⟨rfl, rfl⟩ | ⟨rfl, rfl⟩
          · have hb := sum_bound v0 v1 (u := 1) (by omega)
            clear hm0 hne hne2
            unfold Rd.lets
            go_wp2_with fail
            refine hdig.out.mono ?_
            rintro e w3 ⟨rfl, rfl⟩
            go_wp2
            go_roundw
            case rel =>
              refine ⟨sum + xv * 1, 0, f, k.2.1, k.2.2, ?_, ?_, by omega, by omega, by omega, by omega, HR2.out, HX2.out, HK2.out, u0, u1, u2, HL2.out⟩
              · exact congrArg (Value.int .i64) (by omega)
              · first | rfl | kernel_rfl
            case measure => first | (simp [strLen]; done) | decide | (show (_ : Nat) < _; kernel_rfl)
          · have hb := sum_bound v0 v1 (u := 60) (by omega)
            clear hm0 hne hne2
            unfold Rd.lets
            go_wp2_with fail
            refine hdig.out.mono ?_
            rintro e w3 ⟨rfl, rfl⟩
            go_wp2
            go_roundw
            case rel =>
              refine ⟨sum + xv * 60, 1, f, k.2.1, k.2.2, ?_, ?_, by omega, by omega, by omega, by omega, HR2.out, HX2.out, HK2.out, u0, u1, u2, HL2.out⟩
              · exact congrArg (Value.int .i64) (by omega)
              · first | rfl | kernel_rfl
            case measure => first | (simp [strLen]; done) | decide | (show (_ : Nat) < _; kernel_rfl)
          · have hb := sum_bound v0 v1 (u := 1) (by omega)
            clear hm0 hne hne2
            unfold Rd.lets
            go_wp2_with fail
            refine hdig.out.mono ?_
            rintro e w3 ⟨rfl, rfl⟩
            go_wp2
            go_roundw
            case rel =>
              refine ⟨sum + xv * 1, 0, f, k.2.1, k.2.2, ?_, ?_, by omega, by omega, by omega, by omega, HR2.out, HX2.out, HK2.out, u0, u1, u2, HL2.out⟩
              · exact congrArg (Value.int .i64) (by omega)
              · first | rfl | kernel_rfl
            case measure => first | (simp [strLen]; done) | decide | (show (_ : Nat) < _; kernel_rfl)
          · have hb := sum_bound v0 v1 (u := 3600) (by omega)
            clear hm0 hne hne2
            unfold Rd.lets
            go_wp2_with fail
            refine hdig.out.mono ?_
            rintro e w3 ⟨rfl, rfl⟩
            go_wp2
            go_roundw
            case rel =>
              refine ⟨sum + xv * 3600, 2, f, k.2.1, k.2.2, ?_, ?_, by omega, by omega, by omega, by omega, HR2.out, HX2.out, HK2.out, u0, u1, u2, HL2.out⟩
              · exact congrArg (Value.int .i64) (by omega)
              · first | rfl | kernel_rfl
            case measure => first | (simp [strLen]; done) | decide | (show (_ : Nat) < _; kernel_rfl)
          · have hb := sum_bound v0 v1 (u := 60) (by omega)
            clear hm0 hne hne2
            unfold Rd.lets
            go_wp2_with fail
            refine hdig.out.mono ?_
            rintro e w3 ⟨rfl, rfl⟩
            go_wp2
            go_roundw
            case rel =>
              refine ⟨sum + xv * 60, 1, f, k.2.1, k.2.2, ?_, ?_, by omega, by omega, by omega, by omega, HR2.out, HX2.out, HK2.out, u0, u1, u2, HL2.out⟩
              · exact congrArg (Value.int .i64) (by omega)
              · first | rfl | kernel_rfl
            case measure => first | (simp [strLen]; done) | decide | (show (_ : Nat) < _; kernel_rfl)
          · have hb := sum_bound v0 v1 (u := 1) (by omega)
            clear hm0 hne hne2
            unfold Rd.lets
            go_wp2_with fail
            refine hdig.out.mono ?_
            rintro e w3 ⟨rfl, rfl⟩
            go_wp2
            go_roundw
            case rel =>
              refine ⟨sum + xv * 1, 0, f, k.2.1, k.2.2, ?_, ?_, by omega, by omega, by omega, by omega, HR2.out, HX2.out, HK2.out, u0, u1, u2, HL2.out⟩
              · exact congrArg (Value.int .i64) (by omega)
              · first | rfl | kernel_rfl
            case measure => first | (simp [strLen]; done) | decide | (show (_ : Nat) < _; kernel_rfl)
end Go.Proofs.YthimnjegacdhaaaGreatDoor

/- ReadDuration; what every law asks besides: told. -/
namespace Go.Proofs.YthimnjegacdhaaaGreatDoor
open Go.RowKit Go.BigFrame

def durForms : Nat → FuncId | 0 => 66 | 1 => 67 | _ => 68
def durFs : Nat → ByteArray → Int × Nat × Bool | 0 => Rd.shortF | 1 => Rd.longF | _ => Rd.letteredF
theorem dur_isForm (j : Nat) (hj : j < 3) : IsForm (durForms j) (durFs j) := by
  rcases (show j = 0 ∨ j = 1 ∨ j = 2 by omega) with rfl | rfl | rfl
  · exact ⟨fun _ _ => by kernel_rfl, short_form⟩
  · exact ⟨fun _ _ => by kernel_rfl, long_form⟩
  · exact ⟨fun _ _ => by kernel_rfl, lettered_form⟩
def readDur (s : ByteArray) : Int × Nat × Int := Rd.ranged (Rd.readForms s [Rd.shortF, Rd.longF, Rd.letteredF]) 0 3599999
theorem readDuration_any (s : ByteArray) (w : World) (hs : s.size ≤ 9223372036854775807) :
    Calls Tryz.prog 44 #[.string s] w fun r w' => r = .returned (.tuple #[.int .i64 (readDur s).1, .int .i64 (readDur s).2.1, .int .i64 (readDur s).2.2]) ∧ Below w.heap.size w w' := by
  obtain ⟨z, hz⟩ : ∃ z, Rd.readForms s ((List.range 3).map durFs) = z := ⟨_, rfl⟩
  have hrf := fun (w : World) (R : Nat) (hR : R < w.heap.size) hf => readForms_any s w R 3 durForms durFs (by omega) hR hf dur_isForm hs z hz
  have Hrf := Lib.hid hrf
  have hd : readDur s = Rd.ranged z 0 3599999 := by rw [← hz]; rfl
  rw [hd]
  obtain ⟨n, a, e⟩ := z
  have hra := Lib.hid (ranged_any n e 0 3599999 a)
  generalize Rd.ranged (n, a, e) 0 3599999 = y at hra ⊢
  clear hz hd hrf
  go_enter Tryz.func44, Tryz.ntmps44
  go_wp2_with fail
  refine (Hrf.out _ w.heap.size (by simp) ?hf).mono ?_
  case hf =>
    intro j hj
    rw [World.cell?_alloc_at _ _ _ _ rfl]
    rcases (show j = 0 ∨ j = 1 ∨ j = 2 by omega) with rfl | rfl | rfl <;> rfl
  rintro r w1 ⟨rfl, hb1⟩
  have HB := Lib.hid (((Below.refl w.heap.size w).alloc (Nat.le_refl _) _).trans (hb1.mono (by simp)))
  clear hb1
  go_wp2_with fail
  refine (hra.out _).mono ?_
  rintro r w2 ⟨rfl, rfl⟩
  go_wp2
  go_ret3
  exact ⟨rfl, HB.out⟩
theorem told_dur : readDur ⟨#[49, 104, 53, 115]⟩ = (3605, 0, 0) := by decide +kernel
theorem told_sc : Sc.sc (-7) 1 2 5 = (-4, 0) := by decide +kernel
theorem told_any (w : World) : Calls Tryz.prog 15 #[] w fun e w' => e = .returned (.bool true) ∧ Below w.heap.size w w' := by
  have h1 := Lib.hid (scale_any (-7) 1 2 5 w (by omega) (by omega) (by omega) (by omega))
  have h2 := Lib.hid (fun w => readDuration_any ⟨#[49, 104, 53, 115]⟩ w (by decide))
  rw [told_dur] at h2
  rw [told_sc] at h1
  unfold scRet at h1
  go_enter Tryz.func15, Tryz.ntmps15
  go_wp2_with fail
  refine h1.out.mono ?_
  rintro e w1 ⟨rfl, hb⟩
  go_wp2_with fail
  refine (h2.out _).mono ?_
  rintro e w2 ⟨rfl, hb2⟩
  have HB := Lib.hid (hb.trans (hb2.mono hb.size))
  clear hb hb2
  go_wp2
  go_ret
  exact ⟨rfl, HB.out⟩
end Go.Proofs.YthimnjegacdhaaaGreatDoor
