/- IsName of the program and of the reference (printed by wip/g/gen_name.py). -/
import Derived.Test.YtbkpoepacjinlaaGc
import Derived.Test.YtbkpoepacjinlaaA
import Derived.WalkKit
import Derived.WalkSpells
import Derived.WalkLawsBesides
import Derived.Lib.Hide
namespace Go.Proofs.Ytbkpoepacjinlaa
open Go.RowKit

/-- the first k bytes can stand in a name -/
def allN (s : ByteArray) (k : Nat) : Bool := (s.data.toList.take k).all fun c => nameC c.toNat
theorem allN_step {s : ByteArray} {k : Nat} (hk : k < s.size) (h : allN s k = true) (hc : nameC (s[k].toNat : Int) = true) : allN s (k + 1) = true := by
  unfold allN at h ⊢
  rw [List.take_succ_eq_append_getElem (by simpa using hk), List.all_append, h, Bool.true_and]
  simpa [ByteArray.getElem_eq_getElem_data] using hc
theorem allN_bad {s : ByteArray} {k : Nat} (hk : k < s.size) (hc : nameC (s[k].toNat : Int) = false) : nameB s = false := by
  unfold nameB
  have h1 : (s.data.toList.all fun c => nameC c.toNat) = false := by
    rw [List.all_eq_false]
    exact ⟨s[k], by simp [ByteArray.getElem_eq_getElem_data], by rw [hc]; simp⟩
  rw [h1, Bool.and_false]
theorem nameB_of {s : ByteArray} (h : allN s s.size = true) : nameB s = (decide (1 ≤ s.size) && decide (s.size ≤ 60)) := by
  unfold nameB
  unfold allN at h
  rw [List.take_of_length_le (by simp)] at h
  rw [h, Bool.and_true]
def digB (x : Int) : Bool := decide (48 ≤ x) && decide (x ≤ 57)
theorem digit_any (x : Int) (w : World) : Calls Try.prog 102 #[.int .u8 x] w fun e w' => e = .returned (.bool (digB x)) ∧ w = w' := by
  cases h : decide (48 ≤ x)
  all_goals
    go_enter Try.func102, Try.ntmps102
    go_wp2
    go_ret
    exact ⟨ret_bool (by simp [digB, h]), rfl⟩
theorem rdigit_any (x : Int) (w : World) : Calls Try.prog 116 #[.int .u8 x] w fun e w' => e = .returned (.bool (digB x)) ∧ w = w' := by
  cases h : decide (48 ≤ x)
  all_goals
    go_enter Try.func116, Try.ntmps116
    go_wp2
    go_ret
    exact ⟨ret_bool (by simp [digB, h]), rfl⟩

set_option maxHeartbeats 4000000 in
set_option maxRecDepth 100000 in
theorem isName_any (s : ByteArray) (w : World) (hs : s.size ≤ maxLen) :
    Calls Try.prog 49 #[.string s] w fun e w' => e = .returned (.bool (nameB s)) ∧ w = w' := by
  unfold maxLen at hs
  go_enter Try.func49, Try.ntmps49
  go_wp2_with fail
  go_loop [8] (fun iv => ∃ (k : Nat), iv = .int .i64 k ∧ k ≤ s.size ∧ Hid (allN s k = true)) (fun iv => s.size - (intOf iv).toNat)
  case atStart => exact ⟨0, rfl, by omega, Lib.hid rfl⟩
  case round =>
    obtain ⟨k, rfl, hk, HA⟩ := hrel
    by_cases hlt : k < s.size
    · have t3 : decide ((k : Int) < (s.size : Int)) = true := by rw [decide_eq_true_eq]; omega
      have t3' : decide (k < s.size) = true := by simpa using hlt
      have hub : (s[k].toNat : Int) ≤ 255 := by have := s[k].toNat_lt; omega
      have OKN := fun (h : Hid (nameC (s[k].toNat : Int) = true)) => Lib.hid (allN_step hlt HA.out h.out)
      have BADN := fun (h : Hid (nameC (s[k].toNat : Int) = false)) => allN_bad hlt h.out
      have OKN := Lib.hid OKN
      have BADN := Lib.hid BADN
      have hnn : 0 ≤ (s[k].toNat : Int) := Int.natCast_nonneg _
      obtain ⟨x, hx⟩ : ∃ x : Int, (s[k].toNat : Int) = x := ⟨_, rfl⟩
      rw [hx] at hub hnn OKN BADN
      have hways : (0 ≤ x ∧ x ≤ 44) ∨ (45 ≤ x ∧ x ≤ 45) ∨ (46 ≤ x ∧ x ≤ 46) ∨ (47 ≤ x ∧ x ≤ 47) ∨ (48 ≤ x ∧ x ≤ 57) ∨ (58 ≤ x ∧ x ≤ 64) ∨ (65 ≤ x ∧ x ≤ 90) ∨ (91 ≤ x ∧ x ≤ 94) ∨ (95 ≤ x ∧ x ≤ 95) ∨ (96 ≤ x ∧ x ≤ 96) ∨ (97 ≤ x ∧ x ≤ 122) ∨ (123 ≤ x ∧ x ≤ 255) := by omega
      rcases hways with hways | hways | hways | hways | hways | hways | hways | hways | hways | hways | hways | hways
      · have hx0 : 0 ≤ x := by omega
        have hx1 : x ≤ 44 := by omega
        have d1 : decide ((97 : Int) ≤ x) = false := by rw [decide_eq_false_iff_not]; omega
        have d2 : decide (x ≤ (122 : Int)) = true := by rw [decide_eq_true_eq]; omega
        have d3 : decide ((65 : Int) ≤ x) = false := by rw [decide_eq_false_iff_not]; omega
        have d4 : decide (x ≤ (90 : Int)) = true := by rw [decide_eq_true_eq]; omega
        have b0 : (x != (45 : Int)) = true := by rw [bne_iff_ne]; omega
        have b1 : (x != (95 : Int)) = true := by rw [bne_iff_ne]; omega
        have b2 : (x != (46 : Int)) = true := by rw [bne_iff_ne]; omega
        have hc : nameC x = false := by unfold nameC; simp; omega
        have HC := Lib.hid hc
        have HD := Lib.hid (digit_any x)
        rw [show digB x = false by unfold digB; simp; omega] at HD
        clear hc hx0 hx1 hways
        go_wp2_with fail
        refine (HD.out _).mono ?_
        rintro e w1 ⟨rfl, rfl⟩
        go_wp2_with fail
        go_ret
        exact ⟨ret_bool (BADN.out HC).symm, rfl⟩
      · have hx0 : 45 ≤ x := by omega
        have hx1 : x ≤ 45 := by omega
        have d1 : decide ((97 : Int) ≤ x) = false := by rw [decide_eq_false_iff_not]; omega
        have d2 : decide (x ≤ (122 : Int)) = true := by rw [decide_eq_true_eq]; omega
        have d3 : decide ((65 : Int) ≤ x) = false := by rw [decide_eq_false_iff_not]; omega
        have d4 : decide (x ≤ (90 : Int)) = true := by rw [decide_eq_true_eq]; omega
        have b0 : (x != (45 : Int)) = false := by rw [show x = 45 by omega]; rfl
        have b1 : (x != (95 : Int)) = true := by rw [bne_iff_ne]; omega
        have b2 : (x != (46 : Int)) = true := by rw [bne_iff_ne]; omega
        have hc : nameC x = true := by unfold nameC; simp; omega
        have HC := Lib.hid hc
        have HD := Lib.hid (digit_any x)
        rw [show digB x = false by unfold digB; simp; omega] at HD
        clear hc hx0 hx1 hways
        go_wp2_with fail
        refine (HD.out _).mono ?_
        rintro e w1 ⟨rfl, rfl⟩
        go_wp2_with fail
        go_round
        case rel => exact ⟨k + 1, by go_num, by omega, OKN.out HC⟩
        case measure => simp [intOf]; omega
      · have hx0 : 46 ≤ x := by omega
        have hx1 : x ≤ 46 := by omega
        have d1 : decide ((97 : Int) ≤ x) = false := by rw [decide_eq_false_iff_not]; omega
        have d2 : decide (x ≤ (122 : Int)) = true := by rw [decide_eq_true_eq]; omega
        have d3 : decide ((65 : Int) ≤ x) = false := by rw [decide_eq_false_iff_not]; omega
        have d4 : decide (x ≤ (90 : Int)) = true := by rw [decide_eq_true_eq]; omega
        have b0 : (x != (45 : Int)) = true := by rw [bne_iff_ne]; omega
        have b1 : (x != (95 : Int)) = true := by rw [bne_iff_ne]; omega
        have b2 : (x != (46 : Int)) = false := by rw [show x = 46 by omega]; rfl
        have hc : nameC x = true := by unfold nameC; simp; omega
        have HC := Lib.hid hc
        have HD := Lib.hid (digit_any x)
        rw [show digB x = false by unfold digB; simp; omega] at HD
        clear hc hx0 hx1 hways
        go_wp2_with fail
        refine (HD.out _).mono ?_
        rintro e w1 ⟨rfl, rfl⟩
        go_wp2_with fail
        go_round
        case rel => exact ⟨k + 1, by go_num, by omega, OKN.out HC⟩
        case measure => simp [intOf]; omega
      · have hx0 : 47 ≤ x := by omega
        have hx1 : x ≤ 47 := by omega
        have d1 : decide ((97 : Int) ≤ x) = false := by rw [decide_eq_false_iff_not]; omega
        have d2 : decide (x ≤ (122 : Int)) = true := by rw [decide_eq_true_eq]; omega
        have d3 : decide ((65 : Int) ≤ x) = false := by rw [decide_eq_false_iff_not]; omega
        have d4 : decide (x ≤ (90 : Int)) = true := by rw [decide_eq_true_eq]; omega
        have b0 : (x != (45 : Int)) = true := by rw [bne_iff_ne]; omega
        have b1 : (x != (95 : Int)) = true := by rw [bne_iff_ne]; omega
        have b2 : (x != (46 : Int)) = true := by rw [bne_iff_ne]; omega
        have hc : nameC x = false := by unfold nameC; simp; omega
        have HC := Lib.hid hc
        have HD := Lib.hid (digit_any x)
        rw [show digB x = false by unfold digB; simp; omega] at HD
        clear hc hx0 hx1 hways
        go_wp2_with fail
        refine (HD.out _).mono ?_
        rintro e w1 ⟨rfl, rfl⟩
        go_wp2_with fail
        go_ret
        exact ⟨ret_bool (BADN.out HC).symm, rfl⟩
      · have hx0 : 48 ≤ x := by omega
        have hx1 : x ≤ 57 := by omega
        have d1 : decide ((97 : Int) ≤ x) = false := by rw [decide_eq_false_iff_not]; omega
        have d2 : decide (x ≤ (122 : Int)) = true := by rw [decide_eq_true_eq]; omega
        have d3 : decide ((65 : Int) ≤ x) = false := by rw [decide_eq_false_iff_not]; omega
        have d4 : decide (x ≤ (90 : Int)) = true := by rw [decide_eq_true_eq]; omega
        have b0 : (x != (45 : Int)) = true := by rw [bne_iff_ne]; omega
        have b1 : (x != (95 : Int)) = true := by rw [bne_iff_ne]; omega
        have b2 : (x != (46 : Int)) = true := by rw [bne_iff_ne]; omega
        have hc : nameC x = true := by unfold nameC; simp; omega
        have HC := Lib.hid hc
        have HD := Lib.hid (digit_any x)
        rw [show digB x = true by unfold digB; simp; omega] at HD
        clear hc hx0 hx1 hways
        go_wp2_with fail
        refine (HD.out _).mono ?_
        rintro e w1 ⟨rfl, rfl⟩
        go_wp2_with fail
        go_round
        case rel => exact ⟨k + 1, by go_num, by omega, OKN.out HC⟩
        case measure => simp [intOf]; omega
      · have hx0 : 58 ≤ x := by omega
        have hx1 : x ≤ 64 := by omega
        have d1 : decide ((97 : Int) ≤ x) = false := by rw [decide_eq_false_iff_not]; omega
        have d2 : decide (x ≤ (122 : Int)) = true := by rw [decide_eq_true_eq]; omega
        have d3 : decide ((65 : Int) ≤ x) = false := by rw [decide_eq_false_iff_not]; omega
        have d4 : decide (x ≤ (90 : Int)) = true := by rw [decide_eq_true_eq]; omega
        have b0 : (x != (45 : Int)) = true := by rw [bne_iff_ne]; omega
        have b1 : (x != (95 : Int)) = true := by rw [bne_iff_ne]; omega
        have b2 : (x != (46 : Int)) = true := by rw [bne_iff_ne]; omega
        have hc : nameC x = false := by unfold nameC; simp; omega
        have HC := Lib.hid hc
        have HD := Lib.hid (digit_any x)
        rw [show digB x = false by unfold digB; simp; omega] at HD
        clear hc hx0 hx1 hways
        go_wp2_with fail
        refine (HD.out _).mono ?_
        rintro e w1 ⟨rfl, rfl⟩
        go_wp2_with fail
        go_ret
        exact ⟨ret_bool (BADN.out HC).symm, rfl⟩
      · have hx0 : 65 ≤ x := by omega
        have hx1 : x ≤ 90 := by omega
        have d1 : decide ((97 : Int) ≤ x) = false := by rw [decide_eq_false_iff_not]; omega
        have d2 : decide (x ≤ (122 : Int)) = true := by rw [decide_eq_true_eq]; omega
        have d3 : decide ((65 : Int) ≤ x) = true := by rw [decide_eq_true_eq]; omega
        have d4 : decide (x ≤ (90 : Int)) = true := by rw [decide_eq_true_eq]; omega
        have b0 : (x != (45 : Int)) = true := by rw [bne_iff_ne]; omega
        have b1 : (x != (95 : Int)) = true := by rw [bne_iff_ne]; omega
        have b2 : (x != (46 : Int)) = true := by rw [bne_iff_ne]; omega
        have hc : nameC x = true := by unfold nameC; simp; omega
        have HC := Lib.hid hc
        have HD := Lib.hid (digit_any x)
        rw [show digB x = false by unfold digB; simp; omega] at HD
        clear hc hx0 hx1 hways
        go_wp2_with fail
        go_round
        case rel => exact ⟨k + 1, by go_num, by omega, OKN.out HC⟩
        case measure => simp [intOf]; omega
      · have hx0 : 91 ≤ x := by omega
        have hx1 : x ≤ 94 := by omega
        have d1 : decide ((97 : Int) ≤ x) = false := by rw [decide_eq_false_iff_not]; omega
        have d2 : decide (x ≤ (122 : Int)) = true := by rw [decide_eq_true_eq]; omega
        have d3 : decide ((65 : Int) ≤ x) = true := by rw [decide_eq_true_eq]; omega
        have d4 : decide (x ≤ (90 : Int)) = false := by rw [decide_eq_false_iff_not]; omega
        have b0 : (x != (45 : Int)) = true := by rw [bne_iff_ne]; omega
        have b1 : (x != (95 : Int)) = true := by rw [bne_iff_ne]; omega
        have b2 : (x != (46 : Int)) = true := by rw [bne_iff_ne]; omega
        have hc : nameC x = false := by unfold nameC; simp; omega
        have HC := Lib.hid hc
        have HD := Lib.hid (digit_any x)
        rw [show digB x = false by unfold digB; simp; omega] at HD
        clear hc hx0 hx1 hways
        go_wp2_with fail
        refine (HD.out _).mono ?_
        rintro e w1 ⟨rfl, rfl⟩
        go_wp2_with fail
        go_ret
        exact ⟨ret_bool (BADN.out HC).symm, rfl⟩
      · have hx0 : 95 ≤ x := by omega
        have hx1 : x ≤ 95 := by omega
        have d1 : decide ((97 : Int) ≤ x) = false := by rw [decide_eq_false_iff_not]; omega
        have d2 : decide (x ≤ (122 : Int)) = true := by rw [decide_eq_true_eq]; omega
        have d3 : decide ((65 : Int) ≤ x) = true := by rw [decide_eq_true_eq]; omega
        have d4 : decide (x ≤ (90 : Int)) = false := by rw [decide_eq_false_iff_not]; omega
        have b0 : (x != (45 : Int)) = true := by rw [bne_iff_ne]; omega
        have b1 : (x != (95 : Int)) = false := by rw [show x = 95 by omega]; rfl
        have b2 : (x != (46 : Int)) = true := by rw [bne_iff_ne]; omega
        have hc : nameC x = true := by unfold nameC; simp; omega
        have HC := Lib.hid hc
        have HD := Lib.hid (digit_any x)
        rw [show digB x = false by unfold digB; simp; omega] at HD
        clear hc hx0 hx1 hways
        go_wp2_with fail
        refine (HD.out _).mono ?_
        rintro e w1 ⟨rfl, rfl⟩
        go_wp2_with fail
        go_round
        case rel => exact ⟨k + 1, by go_num, by omega, OKN.out HC⟩
        case measure => simp [intOf]; omega
      · have hx0 : 96 ≤ x := by omega
        have hx1 : x ≤ 96 := by omega
        have d1 : decide ((97 : Int) ≤ x) = false := by rw [decide_eq_false_iff_not]; omega
        have d2 : decide (x ≤ (122 : Int)) = true := by rw [decide_eq_true_eq]; omega
        have d3 : decide ((65 : Int) ≤ x) = true := by rw [decide_eq_true_eq]; omega
        have d4 : decide (x ≤ (90 : Int)) = false := by rw [decide_eq_false_iff_not]; omega
        have b0 : (x != (45 : Int)) = true := by rw [bne_iff_ne]; omega
        have b1 : (x != (95 : Int)) = true := by rw [bne_iff_ne]; omega
        have b2 : (x != (46 : Int)) = true := by rw [bne_iff_ne]; omega
        have hc : nameC x = false := by unfold nameC; simp; omega
        have HC := Lib.hid hc
        have HD := Lib.hid (digit_any x)
        rw [show digB x = false by unfold digB; simp; omega] at HD
        clear hc hx0 hx1 hways
        go_wp2_with fail
        refine (HD.out _).mono ?_
        rintro e w1 ⟨rfl, rfl⟩
        go_wp2_with fail
        go_ret
        exact ⟨ret_bool (BADN.out HC).symm, rfl⟩
      · have hx0 : 97 ≤ x := by omega
        have hx1 : x ≤ 122 := by omega
        have d1 : decide ((97 : Int) ≤ x) = true := by rw [decide_eq_true_eq]; omega
        have d2 : decide (x ≤ (122 : Int)) = true := by rw [decide_eq_true_eq]; omega
        have d3 : decide ((65 : Int) ≤ x) = true := by rw [decide_eq_true_eq]; omega
        have d4 : decide (x ≤ (90 : Int)) = false := by rw [decide_eq_false_iff_not]; omega
        have b0 : (x != (45 : Int)) = true := by rw [bne_iff_ne]; omega
        have b1 : (x != (95 : Int)) = true := by rw [bne_iff_ne]; omega
        have b2 : (x != (46 : Int)) = true := by rw [bne_iff_ne]; omega
        have hc : nameC x = true := by unfold nameC; simp; omega
        have HC := Lib.hid hc
        have HD := Lib.hid (digit_any x)
        rw [show digB x = false by unfold digB; simp; omega] at HD
        clear hc hx0 hx1 hways
        go_wp2_with fail
        go_round
        case rel => exact ⟨k + 1, by go_num, by omega, OKN.out HC⟩
        case measure => simp [intOf]; omega
      · have hx0 : 123 ≤ x := by omega
        have hx1 : x ≤ 255 := by omega
        have d1 : decide ((97 : Int) ≤ x) = true := by rw [decide_eq_true_eq]; omega
        have d2 : decide (x ≤ (122 : Int)) = false := by rw [decide_eq_false_iff_not]; omega
        have d3 : decide ((65 : Int) ≤ x) = true := by rw [decide_eq_true_eq]; omega
        have d4 : decide (x ≤ (90 : Int)) = false := by rw [decide_eq_false_iff_not]; omega
        have b0 : (x != (45 : Int)) = true := by rw [bne_iff_ne]; omega
        have b1 : (x != (95 : Int)) = true := by rw [bne_iff_ne]; omega
        have b2 : (x != (46 : Int)) = true := by rw [bne_iff_ne]; omega
        have hc : nameC x = false := by unfold nameC; simp; omega
        have HC := Lib.hid hc
        have HD := Lib.hid (digit_any x)
        rw [show digB x = false by unfold digB; simp; omega] at HD
        clear hc hx0 hx1 hways
        go_wp2_with fail
        refine (HD.out _).mono ?_
        rintro e w1 ⟨rfl, rfl⟩
        go_wp2_with fail
        go_ret
        exact ⟨ret_bool (BADN.out HC).symm, rfl⟩
    · have t3 : decide ((k : Int) < (s.size : Int)) = false := by rw [decide_eq_false_iff_not]; omega
      have t3' : decide (k < s.size) = false := by simpa using hlt
      obtain rfl : k = s.size := by omega
      have HE := Lib.hid (nameB_of HA.out)
      clear hlt hk
      by_cases h1 : 1 ≤ s.size
      · have t4 : decide ((1 : Int) ≤ (s.size : Int)) = true := by rw [decide_eq_true_eq]; omega
        have t4' : decide (1 ≤ s.size) = true := by simpa using h1
        rw [t4', Bool.true_and] at HE
        by_cases h6 : s.size ≤ 60
        · have t5 : decide ((s.size : Int) ≤ (60 : Int)) = true := by rw [decide_eq_true_eq]; omega
          have t5' : decide (s.size ≤ 60) = true := by simpa using h6
          rw [t5'] at HE
          go_wp2_with fail
          go_ret
          exact ⟨ret_bool HE.out.symm, rfl⟩
        · have t5 : decide ((s.size : Int) ≤ (60 : Int)) = false := by rw [decide_eq_false_iff_not]; omega
          have t5' : decide (s.size ≤ 60) = false := by simpa using h6
          rw [t5'] at HE
          go_wp2_with fail
          go_ret
          exact ⟨ret_bool HE.out.symm, rfl⟩
      · have t4 : decide ((1 : Int) ≤ (s.size : Int)) = false := by rw [decide_eq_false_iff_not]; omega
        have t4' : decide (1 ≤ s.size) = false := by simpa using h1
        rw [t4', Bool.false_and] at HE
        go_wp2_with fail
        go_ret
        exact ⟨ret_bool HE.out.symm, rfl⟩

set_option maxHeartbeats 4000000 in
set_option maxRecDepth 100000 in
theorem risName_any (s : ByteArray) (w : World) (hs : s.size ≤ maxLen) :
    Calls Try.prog 69 #[.string s] w fun e w' => e = .returned (.bool (nameB s)) ∧ w = w' := by
  unfold maxLen at hs
  by_cases hsz : 1 ≤ s.size ∧ s.size ≤ 60
  case neg =>
    have HN := Lib.hid (show nameB s = false by unfold nameB; rw [Bool.and_eq_false_iff, Bool.and_eq_false_iff, decide_eq_false_iff_not, decide_eq_false_iff_not]; omega)
    by_cases h1 : s.size < 1
    · have t1 : decide ((s.size : Int) < 1) = true := by rw [decide_eq_true_eq]; omega
      have t1' : decide (s.size < 1) = true := by simpa using h1
      clear hsz h1
      go_enter Try.func69, Try.ntmps69
      go_wp2_with fail
      go_ret
      exact ⟨ret_bool HN.out.symm, rfl⟩
    · have t1 : decide ((s.size : Int) < 1) = false := by rw [decide_eq_false_iff_not]; omega
      have t2 : decide ((60 : Int) < (s.size : Int)) = true := by rw [decide_eq_true_eq]; omega
      have t2' : decide (60 < s.size) = true := by rw [decide_eq_true_eq]; omega
      clear hsz h1
      go_enter Try.func69, Try.ntmps69
      go_wp2_with fail
      go_ret
      exact ⟨ret_bool HN.out.symm, rfl⟩
  obtain ⟨hsz1, hsz2⟩ := hsz
  have t1 : decide ((s.size : Int) < 1) = false := by rw [decide_eq_false_iff_not]; omega
  have t2 : decide ((60 : Int) < (s.size : Int)) = false := by rw [decide_eq_false_iff_not]; omega
  go_enter Try.func69, Try.ntmps69
  go_wp2_with fail
  go_loop [3] (fun iv => ∃ (k : Nat), iv = .int .i64 k ∧ k ≤ s.size ∧ Hid (allN s k = true)) (fun iv => s.size - (intOf iv).toNat)
  case atStart => exact ⟨0, rfl, by omega, Lib.hid rfl⟩
  case round =>
    obtain ⟨k, rfl, hk, HA⟩ := hrel
    by_cases hlt : k < s.size
    · have t3 : decide ((k : Int) < (s.size : Int)) = true := by rw [decide_eq_true_eq]; omega
      have t3' : decide (k < s.size) = true := by simpa using hlt
      have hub : (s[k].toNat : Int) ≤ 255 := by have := s[k].toNat_lt; omega
      have OKN := fun (h : Hid (nameC (s[k].toNat : Int) = true)) => Lib.hid (allN_step hlt HA.out h.out)
      have BADN := fun (h : Hid (nameC (s[k].toNat : Int) = false)) => allN_bad hlt h.out
      have OKN := Lib.hid OKN
      have BADN := Lib.hid BADN
      have hnn : 0 ≤ (s[k].toNat : Int) := Int.natCast_nonneg _
      obtain ⟨x, hx⟩ : ∃ x : Int, (s[k].toNat : Int) = x := ⟨_, rfl⟩
      rw [hx] at hub hnn OKN BADN
      have hways : (0 ≤ x ∧ x ≤ 44) ∨ (45 ≤ x ∧ x ≤ 45) ∨ (46 ≤ x ∧ x ≤ 46) ∨ (47 ≤ x ∧ x ≤ 47) ∨ (48 ≤ x ∧ x ≤ 57) ∨ (58 ≤ x ∧ x ≤ 64) ∨ (65 ≤ x ∧ x ≤ 90) ∨ (91 ≤ x ∧ x ≤ 94) ∨ (95 ≤ x ∧ x ≤ 95) ∨ (96 ≤ x ∧ x ≤ 96) ∨ (97 ≤ x ∧ x ≤ 122) ∨ (123 ≤ x ∧ x ≤ 255) := by omega
      rcases hways with hways | hways | hways | hways | hways | hways | hways | hways | hways | hways | hways | hways
      · have hx0 : 0 ≤ x := by omega
        have hx1 : x ≤ 44 := by omega
        have d1 : decide ((97 : Int) ≤ x) = false := by rw [decide_eq_false_iff_not]; omega
        have d2 : decide (x ≤ (122 : Int)) = true := by rw [decide_eq_true_eq]; omega
        have d3 : decide ((65 : Int) ≤ x) = false := by rw [decide_eq_false_iff_not]; omega
        have d4 : decide (x ≤ (90 : Int)) = true := by rw [decide_eq_true_eq]; omega
        have b0 : (x != (45 : Int)) = true := by rw [bne_iff_ne]; omega
        have b1 : (x != (95 : Int)) = true := by rw [bne_iff_ne]; omega
        have b2 : (x != (46 : Int)) = true := by rw [bne_iff_ne]; omega
        have hc : nameC x = false := by unfold nameC; simp; omega
        have HC := Lib.hid hc
        have HD := Lib.hid (rdigit_any x)
        rw [show digB x = false by unfold digB; simp; omega] at HD
        clear hc hx0 hx1 hways
        go_wp2_with fail
        refine (HD.out _).mono ?_
        rintro e w1 ⟨rfl, rfl⟩
        go_wp2_with fail
        go_ret
        exact ⟨ret_bool (BADN.out HC).symm, rfl⟩
      · have hx0 : 45 ≤ x := by omega
        have hx1 : x ≤ 45 := by omega
        have d1 : decide ((97 : Int) ≤ x) = false := by rw [decide_eq_false_iff_not]; omega
        have d2 : decide (x ≤ (122 : Int)) = true := by rw [decide_eq_true_eq]; omega
        have d3 : decide ((65 : Int) ≤ x) = false := by rw [decide_eq_false_iff_not]; omega
        have d4 : decide (x ≤ (90 : Int)) = true := by rw [decide_eq_true_eq]; omega
        have b0 : (x != (45 : Int)) = false := by rw [show x = 45 by omega]; rfl
        have b1 : (x != (95 : Int)) = true := by rw [bne_iff_ne]; omega
        have b2 : (x != (46 : Int)) = true := by rw [bne_iff_ne]; omega
        have hc : nameC x = true := by unfold nameC; simp; omega
        have HC := Lib.hid hc
        have HD := Lib.hid (rdigit_any x)
        rw [show digB x = false by unfold digB; simp; omega] at HD
        clear hc hx0 hx1 hways
        go_wp2_with fail
        refine (HD.out _).mono ?_
        rintro e w1 ⟨rfl, rfl⟩
        go_wp2_with fail
        go_round
        case rel => exact ⟨k + 1, by go_num, by omega, OKN.out HC⟩
        case measure => simp [intOf]; omega
      · have hx0 : 46 ≤ x := by omega
        have hx1 : x ≤ 46 := by omega
        have d1 : decide ((97 : Int) ≤ x) = false := by rw [decide_eq_false_iff_not]; omega
        have d2 : decide (x ≤ (122 : Int)) = true := by rw [decide_eq_true_eq]; omega
        have d3 : decide ((65 : Int) ≤ x) = false := by rw [decide_eq_false_iff_not]; omega
        have d4 : decide (x ≤ (90 : Int)) = true := by rw [decide_eq_true_eq]; omega
        have b0 : (x != (45 : Int)) = true := by rw [bne_iff_ne]; omega
        have b1 : (x != (95 : Int)) = true := by rw [bne_iff_ne]; omega
        have b2 : (x != (46 : Int)) = false := by rw [show x = 46 by omega]; rfl
        have hc : nameC x = true := by unfold nameC; simp; omega
        have HC := Lib.hid hc
        have HD := Lib.hid (rdigit_any x)
        rw [show digB x = false by unfold digB; simp; omega] at HD
        clear hc hx0 hx1 hways
        go_wp2_with fail
        refine (HD.out _).mono ?_
        rintro e w1 ⟨rfl, rfl⟩
        go_wp2_with fail
        go_round
        case rel => exact ⟨k + 1, by go_num, by omega, OKN.out HC⟩
        case measure => simp [intOf]; omega
      · have hx0 : 47 ≤ x := by omega
        have hx1 : x ≤ 47 := by omega
        have d1 : decide ((97 : Int) ≤ x) = false := by rw [decide_eq_false_iff_not]; omega
        have d2 : decide (x ≤ (122 : Int)) = true := by rw [decide_eq_true_eq]; omega
        have d3 : decide ((65 : Int) ≤ x) = false := by rw [decide_eq_false_iff_not]; omega
        have d4 : decide (x ≤ (90 : Int)) = true := by rw [decide_eq_true_eq]; omega
        have b0 : (x != (45 : Int)) = true := by rw [bne_iff_ne]; omega
        have b1 : (x != (95 : Int)) = true := by rw [bne_iff_ne]; omega
        have b2 : (x != (46 : Int)) = true := by rw [bne_iff_ne]; omega
        have hc : nameC x = false := by unfold nameC; simp; omega
        have HC := Lib.hid hc
        have HD := Lib.hid (rdigit_any x)
        rw [show digB x = false by unfold digB; simp; omega] at HD
        clear hc hx0 hx1 hways
        go_wp2_with fail
        refine (HD.out _).mono ?_
        rintro e w1 ⟨rfl, rfl⟩
        go_wp2_with fail
        go_ret
        exact ⟨ret_bool (BADN.out HC).symm, rfl⟩
      · have hx0 : 48 ≤ x := by omega
        have hx1 : x ≤ 57 := by omega
        have d1 : decide ((97 : Int) ≤ x) = false := by rw [decide_eq_false_iff_not]; omega
        have d2 : decide (x ≤ (122 : Int)) = true := by rw [decide_eq_true_eq]; omega
        have d3 : decide ((65 : Int) ≤ x) = false := by rw [decide_eq_false_iff_not]; omega
        have d4 : decide (x ≤ (90 : Int)) = true := by rw [decide_eq_true_eq]; omega
        have b0 : (x != (45 : Int)) = true := by rw [bne_iff_ne]; omega
        have b1 : (x != (95 : Int)) = true := by rw [bne_iff_ne]; omega
        have b2 : (x != (46 : Int)) = true := by rw [bne_iff_ne]; omega
        have hc : nameC x = true := by unfold nameC; simp; omega
        have HC := Lib.hid hc
        have HD := Lib.hid (rdigit_any x)
        rw [show digB x = true by unfold digB; simp; omega] at HD
        clear hc hx0 hx1 hways
        go_wp2_with fail
        refine (HD.out _).mono ?_
        rintro e w1 ⟨rfl, rfl⟩
        go_wp2_with fail
        go_round
        case rel => exact ⟨k + 1, by go_num, by omega, OKN.out HC⟩
        case measure => simp [intOf]; omega
      · have hx0 : 58 ≤ x := by omega
        have hx1 : x ≤ 64 := by omega
        have d1 : decide ((97 : Int) ≤ x) = false := by rw [decide_eq_false_iff_not]; omega
        have d2 : decide (x ≤ (122 : Int)) = true := by rw [decide_eq_true_eq]; omega
        have d3 : decide ((65 : Int) ≤ x) = false := by rw [decide_eq_false_iff_not]; omega
        have d4 : decide (x ≤ (90 : Int)) = true := by rw [decide_eq_true_eq]; omega
        have b0 : (x != (45 : Int)) = true := by rw [bne_iff_ne]; omega
        have b1 : (x != (95 : Int)) = true := by rw [bne_iff_ne]; omega
        have b2 : (x != (46 : Int)) = true := by rw [bne_iff_ne]; omega
        have hc : nameC x = false := by unfold nameC; simp; omega
        have HC := Lib.hid hc
        have HD := Lib.hid (rdigit_any x)
        rw [show digB x = false by unfold digB; simp; omega] at HD
        clear hc hx0 hx1 hways
        go_wp2_with fail
        refine (HD.out _).mono ?_
        rintro e w1 ⟨rfl, rfl⟩
        go_wp2_with fail
        go_ret
        exact ⟨ret_bool (BADN.out HC).symm, rfl⟩
      · have hx0 : 65 ≤ x := by omega
        have hx1 : x ≤ 90 := by omega
        have d1 : decide ((97 : Int) ≤ x) = false := by rw [decide_eq_false_iff_not]; omega
        have d2 : decide (x ≤ (122 : Int)) = true := by rw [decide_eq_true_eq]; omega
        have d3 : decide ((65 : Int) ≤ x) = true := by rw [decide_eq_true_eq]; omega
        have d4 : decide (x ≤ (90 : Int)) = true := by rw [decide_eq_true_eq]; omega
        have b0 : (x != (45 : Int)) = true := by rw [bne_iff_ne]; omega
        have b1 : (x != (95 : Int)) = true := by rw [bne_iff_ne]; omega
        have b2 : (x != (46 : Int)) = true := by rw [bne_iff_ne]; omega
        have hc : nameC x = true := by unfold nameC; simp; omega
        have HC := Lib.hid hc
        have HD := Lib.hid (rdigit_any x)
        rw [show digB x = false by unfold digB; simp; omega] at HD
        clear hc hx0 hx1 hways
        go_wp2_with fail
        go_round
        case rel => exact ⟨k + 1, by go_num, by omega, OKN.out HC⟩
        case measure => simp [intOf]; omega
      · have hx0 : 91 ≤ x := by omega
        have hx1 : x ≤ 94 := by omega
        have d1 : decide ((97 : Int) ≤ x) = false := by rw [decide_eq_false_iff_not]; omega
        have d2 : decide (x ≤ (122 : Int)) = true := by rw [decide_eq_true_eq]; omega
        have d3 : decide ((65 : Int) ≤ x) = true := by rw [decide_eq_true_eq]; omega
        have d4 : decide (x ≤ (90 : Int)) = false := by rw [decide_eq_false_iff_not]; omega
        have b0 : (x != (45 : Int)) = true := by rw [bne_iff_ne]; omega
        have b1 : (x != (95 : Int)) = true := by rw [bne_iff_ne]; omega
        have b2 : (x != (46 : Int)) = true := by rw [bne_iff_ne]; omega
        have hc : nameC x = false := by unfold nameC; simp; omega
        have HC := Lib.hid hc
        have HD := Lib.hid (rdigit_any x)
        rw [show digB x = false by unfold digB; simp; omega] at HD
        clear hc hx0 hx1 hways
        go_wp2_with fail
        refine (HD.out _).mono ?_
        rintro e w1 ⟨rfl, rfl⟩
        go_wp2_with fail
        go_ret
        exact ⟨ret_bool (BADN.out HC).symm, rfl⟩
      · have hx0 : 95 ≤ x := by omega
        have hx1 : x ≤ 95 := by omega
        have d1 : decide ((97 : Int) ≤ x) = false := by rw [decide_eq_false_iff_not]; omega
        have d2 : decide (x ≤ (122 : Int)) = true := by rw [decide_eq_true_eq]; omega
        have d3 : decide ((65 : Int) ≤ x) = true := by rw [decide_eq_true_eq]; omega
        have d4 : decide (x ≤ (90 : Int)) = false := by rw [decide_eq_false_iff_not]; omega
        have b0 : (x != (45 : Int)) = true := by rw [bne_iff_ne]; omega
        have b1 : (x != (95 : Int)) = false := by rw [show x = 95 by omega]; rfl
        have b2 : (x != (46 : Int)) = true := by rw [bne_iff_ne]; omega
        have hc : nameC x = true := by unfold nameC; simp; omega
        have HC := Lib.hid hc
        have HD := Lib.hid (rdigit_any x)
        rw [show digB x = false by unfold digB; simp; omega] at HD
        clear hc hx0 hx1 hways
        go_wp2_with fail
        refine (HD.out _).mono ?_
        rintro e w1 ⟨rfl, rfl⟩
        go_wp2_with fail
        go_round
        case rel => exact ⟨k + 1, by go_num, by omega, OKN.out HC⟩
        case measure => simp [intOf]; omega
      · have hx0 : 96 ≤ x := by omega
        have hx1 : x ≤ 96 := by omega
        have d1 : decide ((97 : Int) ≤ x) = false := by rw [decide_eq_false_iff_not]; omega
        have d2 : decide (x ≤ (122 : Int)) = true := by rw [decide_eq_true_eq]; omega
        have d3 : decide ((65 : Int) ≤ x) = true := by rw [decide_eq_true_eq]; omega
        have d4 : decide (x ≤ (90 : Int)) = false := by rw [decide_eq_false_iff_not]; omega
        have b0 : (x != (45 : Int)) = true := by rw [bne_iff_ne]; omega
        have b1 : (x != (95 : Int)) = true := by rw [bne_iff_ne]; omega
        have b2 : (x != (46 : Int)) = true := by rw [bne_iff_ne]; omega
        have hc : nameC x = false := by unfold nameC; simp; omega
        have HC := Lib.hid hc
        have HD := Lib.hid (rdigit_any x)
        rw [show digB x = false by unfold digB; simp; omega] at HD
        clear hc hx0 hx1 hways
        go_wp2_with fail
        refine (HD.out _).mono ?_
        rintro e w1 ⟨rfl, rfl⟩
        go_wp2_with fail
        go_ret
        exact ⟨ret_bool (BADN.out HC).symm, rfl⟩
      · have hx0 : 97 ≤ x := by omega
        have hx1 : x ≤ 122 := by omega
        have d1 : decide ((97 : Int) ≤ x) = true := by rw [decide_eq_true_eq]; omega
        have d2 : decide (x ≤ (122 : Int)) = true := by rw [decide_eq_true_eq]; omega
        have d3 : decide ((65 : Int) ≤ x) = true := by rw [decide_eq_true_eq]; omega
        have d4 : decide (x ≤ (90 : Int)) = false := by rw [decide_eq_false_iff_not]; omega
        have b0 : (x != (45 : Int)) = true := by rw [bne_iff_ne]; omega
        have b1 : (x != (95 : Int)) = true := by rw [bne_iff_ne]; omega
        have b2 : (x != (46 : Int)) = true := by rw [bne_iff_ne]; omega
        have hc : nameC x = true := by unfold nameC; simp; omega
        have HC := Lib.hid hc
        have HD := Lib.hid (rdigit_any x)
        rw [show digB x = false by unfold digB; simp; omega] at HD
        clear hc hx0 hx1 hways
        go_wp2_with fail
        go_round
        case rel => exact ⟨k + 1, by go_num, by omega, OKN.out HC⟩
        case measure => simp [intOf]; omega
      · have hx0 : 123 ≤ x := by omega
        have hx1 : x ≤ 255 := by omega
        have d1 : decide ((97 : Int) ≤ x) = true := by rw [decide_eq_true_eq]; omega
        have d2 : decide (x ≤ (122 : Int)) = false := by rw [decide_eq_false_iff_not]; omega
        have d3 : decide ((65 : Int) ≤ x) = true := by rw [decide_eq_true_eq]; omega
        have d4 : decide (x ≤ (90 : Int)) = false := by rw [decide_eq_false_iff_not]; omega
        have b0 : (x != (45 : Int)) = true := by rw [bne_iff_ne]; omega
        have b1 : (x != (95 : Int)) = true := by rw [bne_iff_ne]; omega
        have b2 : (x != (46 : Int)) = true := by rw [bne_iff_ne]; omega
        have hc : nameC x = false := by unfold nameC; simp; omega
        have HC := Lib.hid hc
        have HD := Lib.hid (rdigit_any x)
        rw [show digB x = false by unfold digB; simp; omega] at HD
        clear hc hx0 hx1 hways
        go_wp2_with fail
        refine (HD.out _).mono ?_
        rintro e w1 ⟨rfl, rfl⟩
        go_wp2_with fail
        go_ret
        exact ⟨ret_bool (BADN.out HC).symm, rfl⟩
    · have t3 : decide ((k : Int) < (s.size : Int)) = false := by rw [decide_eq_false_iff_not]; omega
      have t3' : decide (k < s.size) = false := by simpa using hlt
      obtain rfl : k = s.size := by omega
      have HE := Lib.hid (nameB_of HA.out)
      clear hlt hk
      have HE2 := Lib.hid (show nameB s = true by rw [HE.out]; simp; omega)
      go_wp2_with fail
      go_ret
      exact ⟨ret_bool HE2.out.symm, rfl⟩
end Go.Proofs.Ytbkpoepacjinlaa
