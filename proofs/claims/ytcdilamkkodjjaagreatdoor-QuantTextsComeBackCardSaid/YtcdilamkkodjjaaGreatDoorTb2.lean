/- Several texts of this claim in one. -/
import Derived.Test.YtcdilamkkodjjaaGreatDoorTb1
import Derived.Test.YtcdilamkkodjjaaGreatDoorSt3
import Derived.Test.YtcdilamkkodjjaaGreatDoorDt4
import Derived.Test.YtcdilamkkodjjaaGreatDoorDt3
/- The walk of the law that texts come back. -/
namespace Go.Proofs.YtcdilamkkodjjaaGreatDoor
open Go.RowKit Go.BigFrame
open Rd (sB bt itoaB padB durText distText)

theorem small_of_read {s : ByteArray} {l : List (ByteArray → Int × Nat × Bool)} {lo hi n : Int} (h : Rd.ranged (Rd.readForms s l) lo hi = (n, 0, 0)) : s.size ≤ 1000 := by
  rcases Nat.lt_or_ge 1000 s.size with hz | hz
  · unfold Rd.readForms at h
    rw [if_pos hz] at h
    have : (3 : Int) = 0 := congrArg (fun x => x.2.2) h
    omega
  · exact hz
theorem paceText_back {n : Int} (h0 : 1 ≤ n) (h1 : n ≤ 36000) : readPaceP (paceText n) = (n, 0, 0) := by
  obtain ⟨k, rfl⟩ := Int.eq_ofNat_of_zero_le (show 0 ≤ n by omega)
  refine Rd.pace_back (k := k) (by omega) (by omega) ?_
  unfold paceText
  rw [show ((k : Int) / 60) = ((k / 60 : Nat) : Int) by omega, show ((k : Int) % 60) = ((k % 60 : Nat) : Int) by omega, Rd.sB_app, Rd.sB_app, Rd.sB_app, Rd.sB_itoa, Rd.sB_pad (by omega), List.append_assoc, List.append_assoc]
  rfl
theorem date_nats {day : Int} (hb : dayB day = true) : ∃ y m d : Nat, Cal.yearOf day = y ∧ Cal.monthOf day = m ∧ Cal.dateOf day = d ∧ m < 100 ∧ d < 100 := by
  obtain ⟨b1, b2, b3, b4, b5, b6⟩ := date_bounds hb
  exact ⟨(Cal.yearOf day).toNat, (Cal.monthOf day).toNat, (Cal.dateOf day).toNat, by omega, by omega, by omega, by omega, by omega⟩
theorem dateText_back {n : Int} (h0 : 0 ≤ n) (h1 : n ≤ 999999) : readDateP (dateText n) = (n, 0, 0) := by
  obtain ⟨y, m, d, ey, em, ed, hm, hd⟩ := date_nats (day := n) (by unfold dayB; simp only [Bool.and_eq_true, decide_eq_true_eq]; omega)
  refine Rd.date_back h0 h1 ey em ed ?_
  unfold dateText
  rw [ey, em, ed, Rd.sB_app, Rd.sB_app, Rd.sB_app, Rd.sB_app, Rd.sB_itoa, Rd.sB_pad hm, Rd.sB_pad hd, List.append_assoc, List.append_assoc, List.append_assoc]
  rfl
theorem stampText_back {n : Int} (h0 : 0 ≤ n) (h1 : n ≤ 86399999999) : readStampP (stampText (n / 86400) (n % 86400)) = (n, 0, 0) := by
  obtain ⟨y, m, d, ey, em, ed, hm, hd⟩ := date_nats (day := n / 86400) (by unfold dayB; simp only [Bool.and_eq_true, decide_eq_true_eq]; omega)
  obtain ⟨k, hk⟩ := Int.eq_ofNat_of_zero_le (show 0 ≤ n % 86400 by omega)
  have key := Rd.stamp_read (s := stampText (n / 86400) (n % 86400)) (h := k / 3600) (n := k / 60 % 60) (x := k % 60) (show 0 ≤ n / 86400 by omega) (by omega) ey em ed (by omega) (by omega) (by omega) (by
    unfold stampText dateText
    rw [ey, em, ed, hk, show ((k : Int) / 3600) = ((k / 3600 : Nat) : Int) by omega, show ((k : Int) / 60 % 60) = ((k / 60 % 60 : Nat) : Int) by omega, show ((k : Int) % 60) = ((k % 60 : Nat) : Int) by omega]
    simp only [Rd.sB_app]
    rw [Rd.sB_itoa, Rd.sB_pad hm, Rd.sB_pad hd, Rd.sB_pad (by omega), Rd.sB_pad (by omega), Rd.sB_pad (by omega)]
    simp only [List.append_assoc]
    rfl)
  have e : n / 86400 * 86400 + (3600 * ((k / 3600 : Nat) : Int) + 60 * ((k / 60 % 60 : Nat) : Int) + ((k % 60 : Nat) : Int)) = n := by omega
  rw [e] at key
  exact key
/-! ### a zone of no changes, its first offset 0 -/
def zF : Nat → Int := fun _ => 0
theorem utc_rows (W : World) : Rows2 W none 0 zF zF := ⟨fun h => absurd h (by omega)⟩
theorem utc_chk : chk 0 zF zF 0 = 0 := rfl
theorem utc_off (n : Int) : offsetR 0 zF zF 0 n = if momB n = true then (0, 0) else (0, 9) := by
  unfold offsetR
  rw [utc_chk, if_pos rfl]
  rfl
theorem utc_local (n : Int) : localR 0 zF zF 0 n = if momB n = true then (n / 86400, n % 86400, 0) else (0, 0, 9) := by
  unfold localR
  rw [utc_off]
  by_cases h : momB n = true
  · rw [if_pos h]
    simp only [if_true, Int.mul_zero, Int.add_zero]
  · rw [if_neg h, if_neg h]
    rfl
theorem utc_moments {n : Int} (h0 : 0 ≤ n) (h1 : n ≤ 86399999999) : momList 0 zF zF 0 (n / 86400) (n % 86400) = [n] := by
  have hm : momErr 0 zF zF 0 (n / 86400) (n % 86400) = 0 := by
    unfold momErr
    rw [utc_chk, if_pos rfl, if_pos]
    refine ⟨?_, by omega, by omega⟩
    unfold dayB; simp only [Bool.and_eq_true, decide_eq_true_eq]; omega
  have hmo : momOf (n / 86400) (n % 86400) 0 = n := by unfold momOf; omega
  have hg : gathL 0 zF zF 0 (n / 86400) (n % 86400) (0 + 1) = [n] := by
    have hgood : momGood 0 zF zF 0 (n / 86400) (n % 86400) (candO 0 zF 0) = true := by
      unfold momGood
      show (momB (momOf (n / 86400) (n % 86400) 0) && (offF 0 (momOf (n / 86400) (n % 86400) 0) zF zF 0 == 0)) = true
      rw [hmo]
      have : momB n = true := by unfold momB; simp only [Bool.and_eq_true, decide_eq_true_eq]; omega
      rw [this]
      rfl
    rw [gathL, if_pos hgood]
    show [] ++ [momOf (n / 86400) (n % 86400) 0] = [n]
    rw [hmo]
    rfl
  unfold momList
  rw [if_pos hm, hg, List.mergeSort_singleton]
  rfl
theorem utc_back {n : Int} (h0 : 0 ≤ n) (h1 : n ≤ 86399999999) : stampTextR (localR 0 zF zF 0 n) = (stampText (n / 86400) (n % 86400), 0) ∧ stampAns 0 zF zF 0 (readStampP (stampText (n / 86400) (n % 86400))) false = (n, 0, 0) := by
  have hb : momB n = true := by unfold momB; simp only [Bool.and_eq_true, decide_eq_true_eq]; omega
  refine ⟨by rw [utc_local, if_pos hb]; rfl, ?_⟩
  rw [stampText_back h0 h1]
  unfold stampAns
  simp only [utc_chk, utc_moments h0 h1]
  rfl
/-- one text: written, and read again -/
structure Back (n : Int) (t : ByteArray × Int) (r : ByteArray → Int × Nat × Int) : Prop where
  e : t.2 = 0
  r : r t.1 = (n, 0, 0)
  s : t.1.size ≤ 9223372036854775807
set_option maxHeartbeats 4000000 in
set_option maxRecDepth 100000 in
theorem back_law (n : Int) (w : World) (h0 : -9223372036854775808 ≤ n) (h1 : n ≤ 9223372036854775807) (hg : Tab w) :
    Calls Tryz.prog 5 #[.int .i64 n] w fun e w' => e = .returned (.bool true) ∧ Below w.heap.size w w' := by
  have T0 := Lib.hid (fun W (h : Below w.heap.size w W) => durationText_anyT n h0 h1 W (hg.below h))
  have R0 := Lib.hid (fun (t : ByteArray) (ht : t.size ≤ 9223372036854775807) W => readDuration_any t W ht)
  have T1 := Lib.hid (fun W (h : Below w.heap.size w W) => distanceText_anyT n h0 h1 W (hg.below h))
  have R1 := Lib.hid (fun (t : ByteArray) (ht : t.size ≤ 9223372036854775807) W => readDistance_any t W ht)
  have T2 := Lib.hid (fun W (h : Below w.heap.size w W) => paceText_anyT n W (hg.below h))
  have R2 := Lib.hid (fun (t : ByteArray) (ht : t.size ≤ 9223372036854775807) W => readPace_any t W ht)
  have T3 := Lib.hid (fun W (h : Below w.heap.size w W) => dateText_anyT n W (hg.below h))
  have R3 := Lib.hid (fun (t : ByteArray) (ht : t.size ≤ 9223372036854775807) W => readDate_any t W ht)
  have T4 := Lib.hid (fun W (h : Below w.heap.size w W) => stampText_anyT 0 n none 0 0 zF zF W (utc_rows W) (hg.below h))
  have R4 := Lib.hid (fun (t : ByteArray) (ht : t.size ≤ 9223372036854775807) W => readStamp_any 0 none 0 0 zF zF t false W (utc_rows W) ht)
  have D5 := Lib.hid (fun W => told_any W)
  have nn : (n != n) = false := by simp
  rcases (show (n < 0) ∨ (n = 0) ∨ (1 ≤ n ∧ n ≤ 36000) ∨ (36000 < n ∧ n ≤ 999999) ∨ (999999 < n ∧ n ≤ 3599999) ∨ (3599999 < n ∧ n ≤ 1000000000) ∨ (1000000000 < n ∧ n ≤ 86399999999) ∨ (86399999999 < n) by omega) with hn | hn | hn | hn | hn | hn | hn | hn
  · -- n < 0
    rw [show durTextR n = (⟨#[]⟩, 9) from if_pos (by omega)] at T0
    rw [show distTextR n = (⟨#[]⟩, 9) from if_pos (by omega)] at T1
    rw [show paceTextR n = (⟨#[]⟩, 9) from if_neg (by unfold paceB; simp only [Bool.and_eq_true, decide_eq_true_eq]; omega)] at T2
    rw [show dateTextR n = (⟨#[]⟩, 9) from if_neg (by unfold dayB; simp only [Bool.and_eq_true, decide_eq_true_eq]; omega)] at T3
    rw [show stampTextR (localR 0 zF zF 0 n) = (⟨#[]⟩, 9) from by rw [utc_local, if_neg (by unfold momB; simp only [Bool.and_eq_true, decide_eq_true_eq]; omega)]; rfl] at T4
    clear R0 R1 R2 R3 R4 hn
    have HB0 := Lib.hid (Below.refl w.heap.size w)
    go_enter Tryz.func5, Tryz.ntmps5
    go_upto_region 2 with (go_at_call 15; refine (T0.out _ HB0.out).mono ?_; rintro e w1 ⟨rfl, hb1⟩)
    have HB1 := Lib.hid (below_step HB0.out hb1)
    clear hb1 HB0
    go_upto_region 7 with (go_at_call 6; refine (T1.out _ HB1.out).mono ?_; rintro e w2 ⟨rfl, hb2⟩)
    have HB2 := Lib.hid (below_step HB1.out hb2)
    clear hb2 HB1
    go_upto_region 12 with (go_at_call 17; refine (T2.out _ HB2.out).mono ?_; rintro e w3 ⟨rfl, hb3⟩)
    have HB3 := Lib.hid (below_step HB2.out hb3)
    clear hb3 HB2
    go_upto_region 17 with (go_at_call 19; refine (T3.out _ HB3.out).mono ?_; rintro e w4 ⟨rfl, hb4⟩)
    have HB4 := Lib.hid (below_step HB3.out hb4)
    clear hb4 HB3
    go_upto_region 22 with (go_at_call 11; refine (T4.out _ HB4.out).mono ?_; rintro e w5 ⟨rfl, hb5⟩)
    have HB5 := Lib.hid (below_step HB4.out hb5)
    clear hb5 HB4
    go_wp2_with (go_at_call 10; refine (D5.out _).mono ?_; rintro e wz ⟨rfl, hbz⟩)
    go_ret
    exact ⟨rfl, below_step HB5.out hbz⟩
  · -- n = 0
    have B0 : Hid (Back n (durTextR n) readDur) := Lib.hid (by rw [show durTextR n = (durText n, 0) from if_neg (by omega)]; exact Back.mk rfl (Rd.dur_back n (by omega) (by omega)) (Nat.le_trans (small_of_read (Rd.dur_back n (by omega) (by omega))) (by omega)))
    obtain ⟨t0, ht0⟩ : ∃ t, durTextR n = t := ⟨_, rfl⟩
    rw [ht0] at T0 B0
    obtain ⟨u0, e0⟩ := t0
    obtain ⟨x0, y0, z0⟩ := B0.out
    have x0 : e0 = 0 := x0
    subst x0
    have y0 := Lib.hid (show readDur u0 = (n, 0, 0) from y0)
    have Q0 := R0.out u0 z0
    rw [y0.out] at Q0
    have Q0 := Lib.hid Q0
    clear ht0 B0 y0 z0
    have B1 : Hid (Back n (distTextR n) readDistP) := Lib.hid (by rw [show distTextR n = (distText n, 0) from if_neg (by omega)]; exact Back.mk rfl (Rd.dist_back n (by omega) (by omega)) (Nat.le_trans (small_of_read (Rd.dist_back n (by omega) (by omega))) (by omega)))
    obtain ⟨t1, ht1⟩ : ∃ t, distTextR n = t := ⟨_, rfl⟩
    rw [ht1] at T1 B1
    obtain ⟨u1, e1⟩ := t1
    obtain ⟨x1, y1, z1⟩ := B1.out
    have x1 : e1 = 0 := x1
    subst x1
    have y1 := Lib.hid (show readDistP u1 = (n, 0, 0) from y1)
    have Q1 := R1.out u1 z1
    rw [y1.out] at Q1
    have Q1 := Lib.hid Q1
    clear ht1 B1 y1 z1
    rw [show paceTextR n = (⟨#[]⟩, 9) from if_neg (by unfold paceB; simp only [Bool.and_eq_true, decide_eq_true_eq]; omega)] at T2
    have B3 : Hid (Back n (dateTextR n) readDateP) := Lib.hid (by rw [show dateTextR n = (dateText n, 0) from if_pos (by unfold dayB; simp only [Bool.and_eq_true, decide_eq_true_eq]; omega)]; exact Back.mk rfl (dateText_back (by omega) (by omega)) (Nat.le_trans (small_of_read (dateText_back (by omega) (by omega))) (by omega)))
    obtain ⟨t3, ht3⟩ : ∃ t, dateTextR n = t := ⟨_, rfl⟩
    rw [ht3] at T3 B3
    obtain ⟨u3, e3⟩ := t3
    obtain ⟨x3, y3, z3⟩ := B3.out
    have x3 : e3 = 0 := x3
    subst x3
    have y3 := Lib.hid (show readDateP u3 = (n, 0, 0) from y3)
    have Q3 := R3.out u3 z3
    rw [y3.out] at Q3
    have Q3 := Lib.hid Q3
    clear ht3 B3 y3 z3
    have B4 : Hid (Back n (stampTextR (localR 0 zF zF 0 n)) (fun t => stampAns 0 zF zF 0 (readStampP t) false)) := Lib.hid (by rw [show stampTextR (localR 0 zF zF 0 n) = (stampText (n / 86400) (n % 86400), 0) from (utc_back (by omega) (by omega)).1]; exact Back.mk rfl (utc_back (by omega) (by omega)).2 (Nat.le_trans (small_of_read (stampText_back (by omega) (by omega))) (by omega)))
    obtain ⟨t4, ht4⟩ : ∃ t, stampTextR (localR 0 zF zF 0 n) = t := ⟨_, rfl⟩
    rw [ht4] at T4 B4
    obtain ⟨u4, e4⟩ := t4
    obtain ⟨x4, y4, z4⟩ := B4.out
    have x4 : e4 = 0 := x4
    subst x4
    have y4 := Lib.hid (show (fun t => stampAns 0 zF zF 0 (readStampP t) false) u4 = (n, 0, 0) from y4)
    have Q4 := R4.out u4 z4
    rw [show stampAns 0 zF zF 0 (readStampP u4) false = (n, 0, 0) from y4.out] at Q4
    have Q4 := Lib.hid Q4
    clear ht4 B4 y4 z4
    clear R0 R1 R2 R3 R4 hn
    have HB0 := Lib.hid (Below.refl w.heap.size w)
    go_enter Tryz.func5, Tryz.ntmps5
    go_upto_region 2 with (go_at_call 15; refine (T0.out _ HB0.out).mono ?_; rintro e w1 ⟨rfl, hb1⟩)
    have HB1 := Lib.hid (below_step HB0.out hb1)
    clear hb1 HB0
    go_upto_region 4 with (go_at_call 16; refine (Q0.out _).mono ?_; rintro e w2 ⟨rfl, hb2⟩)
    have HB2 := Lib.hid (below_step HB1.out hb2)
    clear hb2 HB1
    go_upto_region 7 with (go_at_call 6; refine (T1.out _ HB2.out).mono ?_; rintro e w3 ⟨rfl, hb3⟩)
    have HB3 := Lib.hid (below_step HB2.out hb3)
    clear hb3 HB2
    go_upto_region 9 with (go_at_call 8; refine (Q1.out _).mono ?_; rintro e w4 ⟨rfl, hb4⟩)
    have HB4 := Lib.hid (below_step HB3.out hb4)
    clear hb4 HB3
    go_upto_region 12 with (go_at_call 17; refine (T2.out _ HB4.out).mono ?_; rintro e w5 ⟨rfl, hb5⟩)
    have HB5 := Lib.hid (below_step HB4.out hb5)
    clear hb5 HB4
    go_upto_region 17 with (go_at_call 19; refine (T3.out _ HB5.out).mono ?_; rintro e w6 ⟨rfl, hb6⟩)
    have HB6 := Lib.hid (below_step HB5.out hb6)
    clear hb6 HB5
    go_upto_region 19 with (go_at_call 20; refine (Q3.out _).mono ?_; rintro e w7 ⟨rfl, hb7⟩)
    have HB7 := Lib.hid (below_step HB6.out hb7)
    clear hb7 HB6
    go_upto_region 22 with (go_at_call 11; refine (T4.out _ HB7.out).mono ?_; rintro e w8 ⟨rfl, hb8⟩)
    have HB8 := Lib.hid (below_step HB7.out hb8)
    clear hb8 HB7
    go_upto_region 24 with (go_at_call 13; refine (Q4.out _).mono ?_; rintro e w9 ⟨rfl, hb9⟩)
    have HB9 := Lib.hid (below_step HB8.out hb9)
    clear hb9 HB8
    go_wp2_with (go_at_call 10; refine (D5.out _).mono ?_; rintro e wz ⟨rfl, hbz⟩)
    go_ret
    exact ⟨rfl, below_step HB9.out hbz⟩
  · -- 1 ≤ n ∧ n ≤ 36000
    have B0 : Hid (Back n (durTextR n) readDur) := Lib.hid (by rw [show durTextR n = (durText n, 0) from if_neg (by omega)]; exact Back.mk rfl (Rd.dur_back n (by omega) (by omega)) (Nat.le_trans (small_of_read (Rd.dur_back n (by omega) (by omega))) (by omega)))
    obtain ⟨t0, ht0⟩ : ∃ t, durTextR n = t := ⟨_, rfl⟩
    rw [ht0] at T0 B0
    obtain ⟨u0, e0⟩ := t0
    obtain ⟨x0, y0, z0⟩ := B0.out
    have x0 : e0 = 0 := x0
    subst x0
    have y0 := Lib.hid (show readDur u0 = (n, 0, 0) from y0)
    have Q0 := R0.out u0 z0
    rw [y0.out] at Q0
    have Q0 := Lib.hid Q0
    clear ht0 B0 y0 z0
    have B1 : Hid (Back n (distTextR n) readDistP) := Lib.hid (by rw [show distTextR n = (distText n, 0) from if_neg (by omega)]; exact Back.mk rfl (Rd.dist_back n (by omega) (by omega)) (Nat.le_trans (small_of_read (Rd.dist_back n (by omega) (by omega))) (by omega)))
    obtain ⟨t1, ht1⟩ : ∃ t, distTextR n = t := ⟨_, rfl⟩
    rw [ht1] at T1 B1
    obtain ⟨u1, e1⟩ := t1
    obtain ⟨x1, y1, z1⟩ := B1.out
    have x1 : e1 = 0 := x1
    subst x1
    have y1 := Lib.hid (show readDistP u1 = (n, 0, 0) from y1)
    have Q1 := R1.out u1 z1
    rw [y1.out] at Q1
    have Q1 := Lib.hid Q1
    clear ht1 B1 y1 z1
    have B2 : Hid (Back n (paceTextR n) readPaceP) := Lib.hid (by rw [show paceTextR n = (paceText n, 0) from if_pos (by unfold paceB; simp only [Bool.and_eq_true, decide_eq_true_eq]; omega)]; exact Back.mk rfl (paceText_back (by omega) (by omega)) (Nat.le_trans (small_of_read (paceText_back (by omega) (by omega))) (by omega)))
    obtain ⟨t2, ht2⟩ : ∃ t, paceTextR n = t := ⟨_, rfl⟩
    rw [ht2] at T2 B2
    obtain ⟨u2, e2⟩ := t2
    obtain ⟨x2, y2, z2⟩ := B2.out
    have x2 : e2 = 0 := x2
    subst x2
    have y2 := Lib.hid (show readPaceP u2 = (n, 0, 0) from y2)
    have Q2 := R2.out u2 z2
    rw [y2.out] at Q2
    have Q2 := Lib.hid Q2
    clear ht2 B2 y2 z2
    have B3 : Hid (Back n (dateTextR n) readDateP) := Lib.hid (by rw [show dateTextR n = (dateText n, 0) from if_pos (by unfold dayB; simp only [Bool.and_eq_true, decide_eq_true_eq]; omega)]; exact Back.mk rfl (dateText_back (by omega) (by omega)) (Nat.le_trans (small_of_read (dateText_back (by omega) (by omega))) (by omega)))
    obtain ⟨t3, ht3⟩ : ∃ t, dateTextR n = t := ⟨_, rfl⟩
    rw [ht3] at T3 B3
    obtain ⟨u3, e3⟩ := t3
    obtain ⟨x3, y3, z3⟩ := B3.out
    have x3 : e3 = 0 := x3
    subst x3
    have y3 := Lib.hid (show readDateP u3 = (n, 0, 0) from y3)
    have Q3 := R3.out u3 z3
    rw [y3.out] at Q3
    have Q3 := Lib.hid Q3
    clear ht3 B3 y3 z3
    have B4 : Hid (Back n (stampTextR (localR 0 zF zF 0 n)) (fun t => stampAns 0 zF zF 0 (readStampP t) false)) := Lib.hid (by rw [show stampTextR (localR 0 zF zF 0 n) = (stampText (n / 86400) (n % 86400), 0) from (utc_back (by omega) (by omega)).1]; exact Back.mk rfl (utc_back (by omega) (by omega)).2 (Nat.le_trans (small_of_read (stampText_back (by omega) (by omega))) (by omega)))
    obtain ⟨t4, ht4⟩ : ∃ t, stampTextR (localR 0 zF zF 0 n) = t := ⟨_, rfl⟩
    rw [ht4] at T4 B4
    obtain ⟨u4, e4⟩ := t4
    obtain ⟨x4, y4, z4⟩ := B4.out
    have x4 : e4 = 0 := x4
    subst x4
    have y4 := Lib.hid (show (fun t => stampAns 0 zF zF 0 (readStampP t) false) u4 = (n, 0, 0) from y4)
    have Q4 := R4.out u4 z4
    rw [show stampAns 0 zF zF 0 (readStampP u4) false = (n, 0, 0) from y4.out] at Q4
    have Q4 := Lib.hid Q4
    clear ht4 B4 y4 z4
    clear R0 R1 R2 R3 R4 hn
    have HB0 := Lib.hid (Below.refl w.heap.size w)
    go_enter Tryz.func5, Tryz.ntmps5
    go_upto_region 2 with (go_at_call 15; refine (T0.out _ HB0.out).mono ?_; rintro e w1 ⟨rfl, hb1⟩)
    have HB1 := Lib.hid (below_step HB0.out hb1)
    clear hb1 HB0
    go_upto_region 4 with (go_at_call 16; refine (Q0.out _).mono ?_; rintro e w2 ⟨rfl, hb2⟩)
    have HB2 := Lib.hid (below_step HB1.out hb2)
    clear hb2 HB1
    go_upto_region 7 with (go_at_call 6; refine (T1.out _ HB2.out).mono ?_; rintro e w3 ⟨rfl, hb3⟩)
    have HB3 := Lib.hid (below_step HB2.out hb3)
    clear hb3 HB2
    go_upto_region 9 with (go_at_call 8; refine (Q1.out _).mono ?_; rintro e w4 ⟨rfl, hb4⟩)
    have HB4 := Lib.hid (below_step HB3.out hb4)
    clear hb4 HB3
    go_upto_region 12 with (go_at_call 17; refine (T2.out _ HB4.out).mono ?_; rintro e w5 ⟨rfl, hb5⟩)
    have HB5 := Lib.hid (below_step HB4.out hb5)
    clear hb5 HB4
    go_upto_region 14 with (go_at_call 18; refine (Q2.out _).mono ?_; rintro e w6 ⟨rfl, hb6⟩)
    have HB6 := Lib.hid (below_step HB5.out hb6)
    clear hb6 HB5
    go_upto_region 17 with (go_at_call 19; refine (T3.out _ HB6.out).mono ?_; rintro e w7 ⟨rfl, hb7⟩)
    have HB7 := Lib.hid (below_step HB6.out hb7)
    clear hb7 HB6
    go_upto_region 19 with (go_at_call 20; refine (Q3.out _).mono ?_; rintro e w8 ⟨rfl, hb8⟩)
    have HB8 := Lib.hid (below_step HB7.out hb8)
    clear hb8 HB7
    go_upto_region 22 with (go_at_call 11; refine (T4.out _ HB8.out).mono ?_; rintro e w9 ⟨rfl, hb9⟩)
    have HB9 := Lib.hid (below_step HB8.out hb9)
    clear hb9 HB8
    go_upto_region 24 with (go_at_call 13; refine (Q4.out _).mono ?_; rintro e w10 ⟨rfl, hb10⟩)
    have HB10 := Lib.hid (below_step HB9.out hb10)
    clear hb10 HB9
    go_wp2_with (go_at_call 10; refine (D5.out _).mono ?_; rintro e wz ⟨rfl, hbz⟩)
    go_ret
    exact ⟨rfl, below_step HB10.out hbz⟩
  · -- 36000 < n ∧ n ≤ 999999
    have B0 : Hid (Back n (durTextR n) readDur) := Lib.hid (by rw [show durTextR n = (durText n, 0) from if_neg (by omega)]; exact Back.mk rfl (Rd.dur_back n (by omega) (by omega)) (Nat.le_trans (small_of_read (Rd.dur_back n (by omega) (by omega))) (by omega)))
    obtain ⟨t0, ht0⟩ : ∃ t, durTextR n = t := ⟨_, rfl⟩
    rw [ht0] at T0 B0
    obtain ⟨u0, e0⟩ := t0
    obtain ⟨x0, y0, z0⟩ := B0.out
    have x0 : e0 = 0 := x0
    subst x0
    have y0 := Lib.hid (show readDur u0 = (n, 0, 0) from y0)
    have Q0 := R0.out u0 z0
    rw [y0.out] at Q0
    have Q0 := Lib.hid Q0
    clear ht0 B0 y0 z0
    have B1 : Hid (Back n (distTextR n) readDistP) := Lib.hid (by rw [show distTextR n = (distText n, 0) from if_neg (by omega)]; exact Back.mk rfl (Rd.dist_back n (by omega) (by omega)) (Nat.le_trans (small_of_read (Rd.dist_back n (by omega) (by omega))) (by omega)))
    obtain ⟨t1, ht1⟩ : ∃ t, distTextR n = t := ⟨_, rfl⟩
    rw [ht1] at T1 B1
    obtain ⟨u1, e1⟩ := t1
    obtain ⟨x1, y1, z1⟩ := B1.out
    have x1 : e1 = 0 := x1
    subst x1
    have y1 := Lib.hid (show readDistP u1 = (n, 0, 0) from y1)
    have Q1 := R1.out u1 z1
    rw [y1.out] at Q1
    have Q1 := Lib.hid Q1
    clear ht1 B1 y1 z1
    rw [show paceTextR n = (⟨#[]⟩, 9) from if_neg (by unfold paceB; simp only [Bool.and_eq_true, decide_eq_true_eq]; omega)] at T2
    have B3 : Hid (Back n (dateTextR n) readDateP) := Lib.hid (by rw [show dateTextR n = (dateText n, 0) from if_pos (by unfold dayB; simp only [Bool.and_eq_true, decide_eq_true_eq]; omega)]; exact Back.mk rfl (dateText_back (by omega) (by omega)) (Nat.le_trans (small_of_read (dateText_back (by omega) (by omega))) (by omega)))
    obtain ⟨t3, ht3⟩ : ∃ t, dateTextR n = t := ⟨_, rfl⟩
    rw [ht3] at T3 B3
    obtain ⟨u3, e3⟩ := t3
    obtain ⟨x3, y3, z3⟩ := B3.out
    have x3 : e3 = 0 := x3
    subst x3
    have y3 := Lib.hid (show readDateP u3 = (n, 0, 0) from y3)
    have Q3 := R3.out u3 z3
    rw [y3.out] at Q3
    have Q3 := Lib.hid Q3
    clear ht3 B3 y3 z3
    have B4 : Hid (Back n (stampTextR (localR 0 zF zF 0 n)) (fun t => stampAns 0 zF zF 0 (readStampP t) false)) := Lib.hid (by rw [show stampTextR (localR 0 zF zF 0 n) = (stampText (n / 86400) (n % 86400), 0) from (utc_back (by omega) (by omega)).1]; exact Back.mk rfl (utc_back (by omega) (by omega)).2 (Nat.le_trans (small_of_read (stampText_back (by omega) (by omega))) (by omega)))
    obtain ⟨t4, ht4⟩ : ∃ t, stampTextR (localR 0 zF zF 0 n) = t := ⟨_, rfl⟩
    rw [ht4] at T4 B4
    obtain ⟨u4, e4⟩ := t4
    obtain ⟨x4, y4, z4⟩ := B4.out
    have x4 : e4 = 0 := x4
    subst x4
    have y4 := Lib.hid (show (fun t => stampAns 0 zF zF 0 (readStampP t) false) u4 = (n, 0, 0) from y4)
    have Q4 := R4.out u4 z4
    rw [show stampAns 0 zF zF 0 (readStampP u4) false = (n, 0, 0) from y4.out] at Q4
    have Q4 := Lib.hid Q4
    clear ht4 B4 y4 z4
    clear R0 R1 R2 R3 R4 hn
    have HB0 := Lib.hid (Below.refl w.heap.size w)
    go_enter Tryz.func5, Tryz.ntmps5
    go_upto_region 2 with (go_at_call 15; refine (T0.out _ HB0.out).mono ?_; rintro e w1 ⟨rfl, hb1⟩)
    have HB1 := Lib.hid (below_step HB0.out hb1)
    clear hb1 HB0
    go_upto_region 4 with (go_at_call 16; refine (Q0.out _).mono ?_; rintro e w2 ⟨rfl, hb2⟩)
    have HB2 := Lib.hid (below_step HB1.out hb2)
    clear hb2 HB1
    go_upto_region 7 with (go_at_call 6; refine (T1.out _ HB2.out).mono ?_; rintro e w3 ⟨rfl, hb3⟩)
    have HB3 := Lib.hid (below_step HB2.out hb3)
    clear hb3 HB2
    go_upto_region 9 with (go_at_call 8; refine (Q1.out _).mono ?_; rintro e w4 ⟨rfl, hb4⟩)
    have HB4 := Lib.hid (below_step HB3.out hb4)
    clear hb4 HB3
    go_upto_region 12 with (go_at_call 17; refine (T2.out _ HB4.out).mono ?_; rintro e w5 ⟨rfl, hb5⟩)
    have HB5 := Lib.hid (below_step HB4.out hb5)
    clear hb5 HB4
    go_upto_region 17 with (go_at_call 19; refine (T3.out _ HB5.out).mono ?_; rintro e w6 ⟨rfl, hb6⟩)
    have HB6 := Lib.hid (below_step HB5.out hb6)
    clear hb6 HB5
    go_upto_region 19 with (go_at_call 20; refine (Q3.out _).mono ?_; rintro e w7 ⟨rfl, hb7⟩)
    have HB7 := Lib.hid (below_step HB6.out hb7)
    clear hb7 HB6
    go_upto_region 22 with (go_at_call 11; refine (T4.out _ HB7.out).mono ?_; rintro e w8 ⟨rfl, hb8⟩)
    have HB8 := Lib.hid (below_step HB7.out hb8)
    clear hb8 HB7
    go_upto_region 24 with (go_at_call 13; refine (Q4.out _).mono ?_; rintro e w9 ⟨rfl, hb9⟩)
    have HB9 := Lib.hid (below_step HB8.out hb9)
    clear hb9 HB8
    go_wp2_with (go_at_call 10; refine (D5.out _).mono ?_; rintro e wz ⟨rfl, hbz⟩)
    go_ret
    exact ⟨rfl, below_step HB9.out hbz⟩
  · -- 999999 < n ∧ n ≤ 3599999
    have B0 : Hid (Back n (durTextR n) readDur) := Lib.hid (by rw [show durTextR n = (durText n, 0) from if_neg (by omega)]; exact Back.mk rfl (Rd.dur_back n (by omega) (by omega)) (Nat.le_trans (small_of_read (Rd.dur_back n (by omega) (by omega))) (by omega)))
    obtain ⟨t0, ht0⟩ : ∃ t, durTextR n = t := ⟨_, rfl⟩
    rw [ht0] at T0 B0
    obtain ⟨u0, e0⟩ := t0
    obtain ⟨x0, y0, z0⟩ := B0.out
    have x0 : e0 = 0 := x0
    subst x0
    have y0 := Lib.hid (show readDur u0 = (n, 0, 0) from y0)
    have Q0 := R0.out u0 z0
    rw [y0.out] at Q0
    have Q0 := Lib.hid Q0
    clear ht0 B0 y0 z0
    have B1 : Hid (Back n (distTextR n) readDistP) := Lib.hid (by rw [show distTextR n = (distText n, 0) from if_neg (by omega)]; exact Back.mk rfl (Rd.dist_back n (by omega) (by omega)) (Nat.le_trans (small_of_read (Rd.dist_back n (by omega) (by omega))) (by omega)))
    obtain ⟨t1, ht1⟩ : ∃ t, distTextR n = t := ⟨_, rfl⟩
    rw [ht1] at T1 B1
    obtain ⟨u1, e1⟩ := t1
    obtain ⟨x1, y1, z1⟩ := B1.out
    have x1 : e1 = 0 := x1
    subst x1
    have y1 := Lib.hid (show readDistP u1 = (n, 0, 0) from y1)
    have Q1 := R1.out u1 z1
    rw [y1.out] at Q1
    have Q1 := Lib.hid Q1
    clear ht1 B1 y1 z1
    rw [show paceTextR n = (⟨#[]⟩, 9) from if_neg (by unfold paceB; simp only [Bool.and_eq_true, decide_eq_true_eq]; omega)] at T2
    rw [show dateTextR n = (⟨#[]⟩, 9) from if_neg (by unfold dayB; simp only [Bool.and_eq_true, decide_eq_true_eq]; omega)] at T3
    have B4 : Hid (Back n (stampTextR (localR 0 zF zF 0 n)) (fun t => stampAns 0 zF zF 0 (readStampP t) false)) := Lib.hid (by rw [show stampTextR (localR 0 zF zF 0 n) = (stampText (n / 86400) (n % 86400), 0) from (utc_back (by omega) (by omega)).1]; exact Back.mk rfl (utc_back (by omega) (by omega)).2 (Nat.le_trans (small_of_read (stampText_back (by omega) (by omega))) (by omega)))
    obtain ⟨t4, ht4⟩ : ∃ t, stampTextR (localR 0 zF zF 0 n) = t := ⟨_, rfl⟩
    rw [ht4] at T4 B4
    obtain ⟨u4, e4⟩ := t4
    obtain ⟨x4, y4, z4⟩ := B4.out
    have x4 : e4 = 0 := x4
    subst x4
    have y4 := Lib.hid (show (fun t => stampAns 0 zF zF 0 (readStampP t) false) u4 = (n, 0, 0) from y4)
    have Q4 := R4.out u4 z4
    rw [show stampAns 0 zF zF 0 (readStampP u4) false = (n, 0, 0) from y4.out] at Q4
    have Q4 := Lib.hid Q4
    clear ht4 B4 y4 z4
    clear R0 R1 R2 R3 R4 hn
    have HB0 := Lib.hid (Below.refl w.heap.size w)
    go_enter Tryz.func5, Tryz.ntmps5
    go_upto_region 2 with (go_at_call 15; refine (T0.out _ HB0.out).mono ?_; rintro e w1 ⟨rfl, hb1⟩)
    have HB1 := Lib.hid (below_step HB0.out hb1)
    clear hb1 HB0
    go_upto_region 4 with (go_at_call 16; refine (Q0.out _).mono ?_; rintro e w2 ⟨rfl, hb2⟩)
    have HB2 := Lib.hid (below_step HB1.out hb2)
    clear hb2 HB1
    go_upto_region 7 with (go_at_call 6; refine (T1.out _ HB2.out).mono ?_; rintro e w3 ⟨rfl, hb3⟩)
    have HB3 := Lib.hid (below_step HB2.out hb3)
    clear hb3 HB2
    go_upto_region 9 with (go_at_call 8; refine (Q1.out _).mono ?_; rintro e w4 ⟨rfl, hb4⟩)
    have HB4 := Lib.hid (below_step HB3.out hb4)
    clear hb4 HB3
    go_upto_region 12 with (go_at_call 17; refine (T2.out _ HB4.out).mono ?_; rintro e w5 ⟨rfl, hb5⟩)
    have HB5 := Lib.hid (below_step HB4.out hb5)
    clear hb5 HB4
    go_upto_region 17 with (go_at_call 19; refine (T3.out _ HB5.out).mono ?_; rintro e w6 ⟨rfl, hb6⟩)
    have HB6 := Lib.hid (below_step HB5.out hb6)
    clear hb6 HB5
    go_upto_region 22 with (go_at_call 11; refine (T4.out _ HB6.out).mono ?_; rintro e w7 ⟨rfl, hb7⟩)
    have HB7 := Lib.hid (below_step HB6.out hb7)
    clear hb7 HB6
    go_upto_region 24 with (go_at_call 13; refine (Q4.out _).mono ?_; rintro e w8 ⟨rfl, hb8⟩)
    have HB8 := Lib.hid (below_step HB7.out hb8)
    clear hb8 HB7
    go_wp2_with (go_at_call 10; refine (D5.out _).mono ?_; rintro e wz ⟨rfl, hbz⟩)
    go_ret
    exact ⟨rfl, below_step HB8.out hbz⟩
  · -- 3599999 < n ∧ n ≤ 1000000000
    rw [show durTextR n = (⟨#[]⟩, 9) from if_pos (by omega)] at T0
    have B1 : Hid (Back n (distTextR n) readDistP) := Lib.hid (by rw [show distTextR n = (distText n, 0) from if_neg (by omega)]; exact Back.mk rfl (Rd.dist_back n (by omega) (by omega)) (Nat.le_trans (small_of_read (Rd.dist_back n (by omega) (by omega))) (by omega)))
    obtain ⟨t1, ht1⟩ : ∃ t, distTextR n = t := ⟨_, rfl⟩
    rw [ht1] at T1 B1
    obtain ⟨u1, e1⟩ := t1
    obtain ⟨x1, y1, z1⟩ := B1.out
    have x1 : e1 = 0 := x1
    subst x1
    have y1 := Lib.hid (show readDistP u1 = (n, 0, 0) from y1)
    have Q1 := R1.out u1 z1
    rw [y1.out] at Q1
    have Q1 := Lib.hid Q1
    clear ht1 B1 y1 z1
    rw [show paceTextR n = (⟨#[]⟩, 9) from if_neg (by unfold paceB; simp only [Bool.and_eq_true, decide_eq_true_eq]; omega)] at T2
    rw [show dateTextR n = (⟨#[]⟩, 9) from if_neg (by unfold dayB; simp only [Bool.and_eq_true, decide_eq_true_eq]; omega)] at T3
    have B4 : Hid (Back n (stampTextR (localR 0 zF zF 0 n)) (fun t => stampAns 0 zF zF 0 (readStampP t) false)) := Lib.hid (by rw [show stampTextR (localR 0 zF zF 0 n) = (stampText (n / 86400) (n % 86400), 0) from (utc_back (by omega) (by omega)).1]; exact Back.mk rfl (utc_back (by omega) (by omega)).2 (Nat.le_trans (small_of_read (stampText_back (by omega) (by omega))) (by omega)))
    obtain ⟨t4, ht4⟩ : ∃ t, stampTextR (localR 0 zF zF 0 n) = t := ⟨_, rfl⟩
    rw [ht4] at T4 B4
    obtain ⟨u4, e4⟩ := t4
    obtain ⟨x4, y4, z4⟩ := B4.out
    have x4 : e4 = 0 := x4
    subst x4
    have y4 := Lib.hid (show (fun t => stampAns 0 zF zF 0 (readStampP t) false) u4 = (n, 0, 0) from y4)
    have Q4 := R4.out u4 z4
    rw [show stampAns 0 zF zF 0 (readStampP u4) false = (n, 0, 0) from y4.out] at Q4
    have Q4 := Lib.hid Q4
    clear ht4 B4 y4 z4
    clear R0 R1 R2 R3 R4 hn
    have HB0 := Lib.hid (Below.refl w.heap.size w)
    go_enter Tryz.func5, Tryz.ntmps5
    go_upto_region 2 with (go_at_call 15; refine (T0.out _ HB0.out).mono ?_; rintro e w1 ⟨rfl, hb1⟩)
    have HB1 := Lib.hid (below_step HB0.out hb1)
    clear hb1 HB0
    go_upto_region 7 with (go_at_call 6; refine (T1.out _ HB1.out).mono ?_; rintro e w2 ⟨rfl, hb2⟩)
    have HB2 := Lib.hid (below_step HB1.out hb2)
    clear hb2 HB1
    go_upto_region 9 with (go_at_call 8; refine (Q1.out _).mono ?_; rintro e w3 ⟨rfl, hb3⟩)
    have HB3 := Lib.hid (below_step HB2.out hb3)
    clear hb3 HB2
    go_upto_region 12 with (go_at_call 17; refine (T2.out _ HB3.out).mono ?_; rintro e w4 ⟨rfl, hb4⟩)
    have HB4 := Lib.hid (below_step HB3.out hb4)
    clear hb4 HB3
    go_upto_region 17 with (go_at_call 19; refine (T3.out _ HB4.out).mono ?_; rintro e w5 ⟨rfl, hb5⟩)
    have HB5 := Lib.hid (below_step HB4.out hb5)
    clear hb5 HB4
    go_upto_region 22 with (go_at_call 11; refine (T4.out _ HB5.out).mono ?_; rintro e w6 ⟨rfl, hb6⟩)
    have HB6 := Lib.hid (below_step HB5.out hb6)
    clear hb6 HB5
    go_upto_region 24 with (go_at_call 13; refine (Q4.out _).mono ?_; rintro e w7 ⟨rfl, hb7⟩)
    have HB7 := Lib.hid (below_step HB6.out hb7)
    clear hb7 HB6
    go_wp2_with (go_at_call 10; refine (D5.out _).mono ?_; rintro e wz ⟨rfl, hbz⟩)
    go_ret
    exact ⟨rfl, below_step HB7.out hbz⟩
  · -- 1000000000 < n ∧ n ≤ 86399999999
    rw [show durTextR n = (⟨#[]⟩, 9) from if_pos (by omega)] at T0
    rw [show distTextR n = (⟨#[]⟩, 9) from if_pos (by omega)] at T1
    rw [show paceTextR n = (⟨#[]⟩, 9) from if_neg (by unfold paceB; simp only [Bool.and_eq_true, decide_eq_true_eq]; omega)] at T2
    rw [show dateTextR n = (⟨#[]⟩, 9) from if_neg (by unfold dayB; simp only [Bool.and_eq_true, decide_eq_true_eq]; omega)] at T3
    have B4 : Hid (Back n (stampTextR (localR 0 zF zF 0 n)) (fun t => stampAns 0 zF zF 0 (readStampP t) false)) := Lib.hid (by rw [show stampTextR (localR 0 zF zF 0 n) = (stampText (n / 86400) (n % 86400), 0) from (utc_back (by omega) (by omega)).1]; exact Back.mk rfl (utc_back (by omega) (by omega)).2 (Nat.le_trans (small_of_read (stampText_back (by omega) (by omega))) (by omega)))
    obtain ⟨t4, ht4⟩ : ∃ t, stampTextR (localR 0 zF zF 0 n) = t := ⟨_, rfl⟩
    rw [ht4] at T4 B4
    obtain ⟨u4, e4⟩ := t4
    obtain ⟨x4, y4, z4⟩ := B4.out
    have x4 : e4 = 0 := x4
    subst x4
    have y4 := Lib.hid (show (fun t => stampAns 0 zF zF 0 (readStampP t) false) u4 = (n, 0, 0) from y4)
    have Q4 := R4.out u4 z4
    rw [show stampAns 0 zF zF 0 (readStampP u4) false = (n, 0, 0) from y4.out] at Q4
    have Q4 := Lib.hid Q4
    clear ht4 B4 y4 z4
    clear R0 R1 R2 R3 R4 hn
    have HB0 := Lib.hid (Below.refl w.heap.size w)
    go_enter Tryz.func5, Tryz.ntmps5
    go_upto_region 2 with (go_at_call 15; refine (T0.out _ HB0.out).mono ?_; rintro e w1 ⟨rfl, hb1⟩)
    have HB1 := Lib.hid (below_step HB0.out hb1)
    clear hb1 HB0
    go_upto_region 7 with (go_at_call 6; refine (T1.out _ HB1.out).mono ?_; rintro e w2 ⟨rfl, hb2⟩)
    have HB2 := Lib.hid (below_step HB1.out hb2)
    clear hb2 HB1
    go_upto_region 12 with (go_at_call 17; refine (T2.out _ HB2.out).mono ?_; rintro e w3 ⟨rfl, hb3⟩)
    have HB3 := Lib.hid (below_step HB2.out hb3)
    clear hb3 HB2
    go_upto_region 17 with (go_at_call 19; refine (T3.out _ HB3.out).mono ?_; rintro e w4 ⟨rfl, hb4⟩)
    have HB4 := Lib.hid (below_step HB3.out hb4)
    clear hb4 HB3
    go_upto_region 22 with (go_at_call 11; refine (T4.out _ HB4.out).mono ?_; rintro e w5 ⟨rfl, hb5⟩)
    have HB5 := Lib.hid (below_step HB4.out hb5)
    clear hb5 HB4
    go_upto_region 24 with (go_at_call 13; refine (Q4.out _).mono ?_; rintro e w6 ⟨rfl, hb6⟩)
    have HB6 := Lib.hid (below_step HB5.out hb6)
    clear hb6 HB5
    go_wp2_with (go_at_call 10; refine (D5.out _).mono ?_; rintro e wz ⟨rfl, hbz⟩)
    go_ret
    exact ⟨rfl, below_step HB6.out hbz⟩
  · -- 86399999999 < n
    rw [show durTextR n = (⟨#[]⟩, 9) from if_pos (by omega)] at T0
    rw [show distTextR n = (⟨#[]⟩, 9) from if_pos (by omega)] at T1
    rw [show paceTextR n = (⟨#[]⟩, 9) from if_neg (by unfold paceB; simp only [Bool.and_eq_true, decide_eq_true_eq]; omega)] at T2
    rw [show dateTextR n = (⟨#[]⟩, 9) from if_neg (by unfold dayB; simp only [Bool.and_eq_true, decide_eq_true_eq]; omega)] at T3
    rw [show stampTextR (localR 0 zF zF 0 n) = (⟨#[]⟩, 9) from by rw [utc_local, if_neg (by unfold momB; simp only [Bool.and_eq_true, decide_eq_true_eq]; omega)]; rfl] at T4
    clear R0 R1 R2 R3 R4 hn
    have HB0 := Lib.hid (Below.refl w.heap.size w)
    go_enter Tryz.func5, Tryz.ntmps5
    go_upto_region 2 with (go_at_call 15; refine (T0.out _ HB0.out).mono ?_; rintro e w1 ⟨rfl, hb1⟩)
    have HB1 := Lib.hid (below_step HB0.out hb1)
    clear hb1 HB0
    go_upto_region 7 with (go_at_call 6; refine (T1.out _ HB1.out).mono ?_; rintro e w2 ⟨rfl, hb2⟩)
    have HB2 := Lib.hid (below_step HB1.out hb2)
    clear hb2 HB1
    go_upto_region 12 with (go_at_call 17; refine (T2.out _ HB2.out).mono ?_; rintro e w3 ⟨rfl, hb3⟩)
    have HB3 := Lib.hid (below_step HB2.out hb3)
    clear hb3 HB2
    go_upto_region 17 with (go_at_call 19; refine (T3.out _ HB3.out).mono ?_; rintro e w4 ⟨rfl, hb4⟩)
    have HB4 := Lib.hid (below_step HB3.out hb4)
    clear hb4 HB3
    go_upto_region 22 with (go_at_call 11; refine (T4.out _ HB4.out).mono ?_; rintro e w5 ⟨rfl, hb5⟩)
    have HB5 := Lib.hid (below_step HB4.out hb5)
    clear hb5 HB4
    go_wp2_with (go_at_call 10; refine (D5.out _).mono ?_; rintro e wz ⟨rfl, hbz⟩)
    go_ret
    exact ⟨rfl, below_step HB5.out hbz⟩
end Go.Proofs.YtcdilamkkodjjaaGreatDoor
