/- Days and weeks: the reference. -/
import Derived.Test.YtkekpnompooaiaaN
namespace Go.Proofs.Ytkekpnompooaiaa
open Go.RowKit Go.BigFrame

theorem leap_any (y : Int) (w : World) (h0 : 0 ≤ y) : Calls Try.prog 85 #[.int .i64 y] w fun e w' => e = .returned (.bool (Cal.leap y)) ∧ w = w' := by
  cases h1 : (y % 4 == 0)
  · go_enter Try.func85, Try.ntmps85
    go_wp2
    go_ret
    exact ⟨ret_bool (by simp [Cal.leap, h1]), rfl⟩
  · cases h2 : (y % 100 != 0)
    · go_enter Try.func85, Try.ntmps85
      go_wp2
      go_ret
      exact ⟨ret_bool (by simp [Cal.leap, h1, h2]), rfl⟩
    · go_enter Try.func85, Try.ntmps85
      go_wp2
      go_ret
      exact ⟨ret_bool (by simp [Cal.leap, h1, h2]), rfl⟩
theorem yearLong_any (y : Int) (w : World) (h0 : 0 ≤ y) : Calls Try.prog 73 #[.int .i64 y] w fun e w' => e = .returned (.int .i64 (Cal.yl y)) ∧ w = w' := by
  have hl := Lib.hid (leap_any y)
  unfold Cal.yl
  cases h : Cal.leap y
  all_goals
    rw [h] at hl
    clear h
    go_enter Try.func73, Try.ntmps73
    go_wp2_with fail
    refine (hl.out _ h0).mono ?_
    rintro e w1 ⟨rfl, rfl⟩
    go_wp2
    go_ret
    exact ⟨rfl, rfl⟩
theorem monthLong_any (y m : Int) (w : World) (h0 : 0 ≤ y) : Calls Try.prog 74 #[.int .i64 y, .int .i64 m] w fun e w' => e = .returned (.int .i64 (Cal.ml y m)) ∧ w = w' := by
  have hy := Lib.hid (yearLong_any y)
  have hc := Cal.yl_cases y
  have c0 : 365 ≤ Cal.yl y := by omega
  have c1 : Cal.yl y ≤ 366 := by omega
  clear hc
  unfold Cal.ml
  generalize Cal.yl y = L at hy c0 c1 ⊢
  cases h2 : (m == 2)
  · have n2 : m ≠ 2 := by simpa using h2
    rw [if_neg n2]
    clear n2
    cases h4 : (m == 4)
    · cases h6 : (m == 6)
      · cases h9 : (m == 9)
        · cases h11 : (m == 11)
          · rw [if_neg (by simp only [beq_eq_false_iff_ne] at h4 h6 h9 h11; omega)]
            go_enter Try.func74, Try.ntmps74
            go_wp2
            go_ret
            exact ⟨rfl, rfl⟩
          · rw [if_pos (by simp only [beq_iff_eq] at h11; omega)]
            go_enter Try.func74, Try.ntmps74
            go_wp2
            go_ret
            exact ⟨rfl, rfl⟩
        · rw [if_pos (by simp only [beq_iff_eq] at h9; omega)]
          go_enter Try.func74, Try.ntmps74
          go_wp2
          go_ret
          exact ⟨rfl, rfl⟩
      · rw [if_pos (by simp only [beq_iff_eq] at h6; omega)]
        go_enter Try.func74, Try.ntmps74
        go_wp2
        go_ret
        exact ⟨rfl, rfl⟩
    · rw [if_pos (by simp only [beq_iff_eq] at h4; omega)]
      go_enter Try.func74, Try.ntmps74
      go_wp2
      go_ret
      exact ⟨rfl, rfl⟩
  · have n2 : m = 2 := by simpa using h2
    rw [if_pos n2]
    clear n2
    go_enter Try.func74, Try.ntmps74
    go_wp2_with fail
    refine (hy.out _ h0).mono ?_
    rintro e w1 ⟨rfl, rfl⟩
    go_wp2
    go_ret
    exact ⟨rfl, rfl⟩

set_option maxHeartbeats 1000000 in
set_option maxRecDepth 100000 in
theorem before_any (y : Int) (w : World) (h0 : 2000 ≤ y) (h1 : y ≤ 100000) : Calls Try.prog 86 #[.int .i64 y] w fun e w' => e = .returned (.int .i64 (Cal.dn y + 2)) ∧ w' = w := by
  obtain ⟨Q, eQ⟩ : ∃ Q, (y - 2000) / 400 = Q := ⟨_, rfl⟩
  obtain ⟨R, eR⟩ : ∃ R : Nat, (y - 2000) % 400 = R := ⟨((y - 2000) % 400).toNat, by omega⟩
  have q0 : 0 ≤ Q := by omega
  have q1 : Q ≤ 300 := by omega
  have r1 : (R : Int) ≤ 399 := by omega
  have hb := Cal.before_dn y
  rw [eQ, eR, Int.toNat_natCast] at hb
  have Hb := Lib.hid hb
  clear hb
  go_enter Try.func86, Try.ntmps86
  go_wp2_with fail
  go_loop [3, 4] (fun nv yv => ∃ (n : Int) (k : Nat), nv = .int .i64 n ∧ yv = .int .i64 (2000 + (k : Int)) ∧ k ≤ R ∧ n = Q * 146097 + Cal.suml 2000 k) (fun _ yv => (2000 + (R : Int) - intOf yv).toNat)
  case atStart => exact ⟨Q * 146097, 0, rfl, rfl, by omega, by simp [Cal.suml]⟩
  case round =>
    obtain ⟨n, k, rfl, rfl, hk, hn⟩ := hrel
    have hs := Cal.suml_dn 2000 k
    have hd1 := Cal.dn_mono 2000 k
    have hd2 : Cal.dn (2000 + k) ≤ Cal.dn 2000 + 366 * k := by
      clear hs hn hd1 hk
      induction k with
      | zero => simp
      | succ k ih => have := Cal.dn_mono1 (2000 + k); rw [show (2000 : Int) + ((k + 1 : Nat) : Int) = 2000 + k + 1 by omega]; omega
    have b0 : 0 ≤ n := by omega
    have b1 : n ≤ 100000000 := by omega
    have Hn := Lib.hid hn
    clear hs hd1 hd2 hn
    by_cases hlt : k < R
    · have c1 : decide ((2000 : Int) + k < 2000 + R) = true := by rw [decide_eq_true_eq]; omega
      have c2 : decide (k < R) = true := by simpa using hlt
      have hyl := Lib.hid (yearLong_any (2000 + (k : Int)))
      have hyc := Cal.yl_cases (2000 + (k : Int))
      have hsucc := Lib.hid (show Cal.suml 2000 (k + 1) = Cal.suml 2000 k + Cal.yl (2000 + k) from rfl)
      have yc0 : 365 ≤ Cal.yl (2000 + (k : Int)) := by omega
      have yc1 : Cal.yl (2000 + (k : Int)) ≤ 366 := by omega
      generalize Cal.yl (2000 + (k : Int)) = L at hyl hsucc yc0 yc1 hyc
      clear hyc
      go_wp2_with fail
      refine (hyl.out _ (by omega)).mono ?_
      rintro e w1 ⟨rfl, rfl⟩
      go_wp2
      go_round
      case rel =>
        refine ⟨trivial, ?_⟩
        rw [eQ]
        repeat apply Exists.intro
        exact ⟨⟨n + L, k + 1, rfl, congrArg (Value.int .i64) (by omega), by omega, by rw [hsucc.out, Hn.out]; omega⟩, rfl⟩
      case measure => simp [intOf]; omega
    · have c1 : decide ((2000 : Int) + k < 2000 + R) = false := by rw [decide_eq_false_iff_not]; omega
      have c2 : decide (k < R) = false := by simpa using hlt
      have he : k = R := by omega
      have hfin := Lib.hid (show n = Cal.dn y + 2 by rw [Hn.out, he, Hb.out])
      clear he
      go_wp2
      go_ret
      exact ⟨ret_int hfin.out, rfl⟩
set_option maxRecDepth 100000 in
theorem dayOf_jan4 (y : Int) (w : World) (h0 : 2000 ≤ y) (h1 : y ≤ 4740) : Calls Try.prog 75 #[.int .i64 y, .int .i64 1, .int .i64 4] w fun e w' => e = .returned (.tuple #[.int .i64 (Cal.dn y + 3), .bool true]) ∧ w = w' := by
  have ho := Lib.hid (outside_any y 1990 4740)
  rw [show (decide (y < 1990) || decide (4740 < y)) = false by simp; omega] at ho
  have ho2 := Lib.hid (outside_any 1 1 12)
  rw [show (decide ((1 : Int) < 1) || decide ((12 : Int) < 1)) = false from rfl] at ho2
  have hm := Lib.hid (monthLong_any y 1)
  rw [show Cal.ml y 1 = 31 from rfl] at hm
  have ho3 := Lib.hid (outside_any 4 1 31)
  rw [show (decide ((4 : Int) < 1) || decide ((31 : Int) < 4)) = false from rfl] at ho3
  have hb := Lib.hid (before_any y)
  have hd := Cal.dn_mono 2000 (y - 2000).toNat
  rw [show 2000 + (((y - 2000).toNat : Nat) : Int) = y by omega] at hd
  have d0 : -2 ≤ Cal.dn y := by have := dn_two.1; omega
  have d1 : Cal.dn y ≤ 10000000 := by
    have h := Cal.dn_mono y (4740 - y).toNat
    rw [show y + (((4740 - y).toNat : Nat) : Int) = 4740 by omega] at h
    have := dn_two.2; omega
  clear hd
  generalize Cal.dn y = D at hb d0 d1 ⊢
  have c1 : decide (y < 2000) = false := by rw [decide_eq_false_iff_not]; omega
  go_enter Try.func75, Try.ntmps75
  go_wp2_with fail
  refine (ho.out _).mono ?_
  rintro e w1 ⟨rfl, rfl⟩
  go_wp2_with fail
  refine (ho2.out _).mono ?_
  rintro e w1 ⟨rfl, rfl⟩
  go_wp2_with fail
  refine (hm.out _ (by omega)).mono ?_
  rintro e w1 ⟨rfl, rfl⟩
  go_wp2_with fail
  refine (ho3.out _).mono ?_
  rintro e w1 ⟨rfl, rfl⟩
  go_wp2_with fail
  refine (hb.out _ (by omega) (by omega)).mono ?_
  rintro e w1 ⟨rfl, rfl⟩
  go_wp2_with fail
  refine wp_loop_rounds 1 ?_
  rw [rounds_succ]
  go_wp2
  go_ret2
  exact ⟨congrArg (fun n => Ending.returned (.tuple #[.int .i64 n, .bool true])) (by omega), rfl⟩
theorem firstMonday_any (y : Int) (w : World) (h0 : 2000 ≤ y) (h1 : y ≤ 4740) : Calls Try.prog 50 #[.int .i64 y] w fun e w' => e = .returned (.int .i64 (Cal.fm y)) ∧ w = w' := by
  have hd := Lib.hid (dayOf_jan4 y)
  have hm := Cal.dn_mono 2000 (y - 2000).toNat
  rw [show 2000 + (((y - 2000).toNat : Nat) : Int) = y by omega] at hm
  have d0 : -2 ≤ Cal.dn y := by have := dn_two.1; omega
  have d1 : Cal.dn y ≤ 10000000 := by
    have h := Cal.dn_mono y (4740 - y).toNat
    rw [show y + (((4740 - y).toNat : Nat) : Int) = 4740 by omega] at h
    have := dn_two.2; omega
  clear hm
  unfold Cal.fm
  generalize Cal.dn y = D at hd d0 d1 ⊢
  go_enter Try.func50, Try.ntmps50
  go_wp2_with fail
  refine (hd.out _ h0 h1).mono ?_
  rintro e w1 ⟨rfl, rfl⟩
  go_wp2
  go_ret
  exact ⟨rfl, rfl⟩
end Go.Proofs.Ytkekpnompooaiaa
