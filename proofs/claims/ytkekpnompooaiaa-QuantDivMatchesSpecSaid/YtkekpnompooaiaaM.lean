/- Root of the program and of the reference. -/
import Derived.Test.YtkekpnompooaiaaL1
import Derived.Test.YtkekpnompooaiaaRoot
namespace Go.Proofs.Ytkekpnompooaiaa
open Go.RowKit Go.BigFrame

def rootRet (n : Int) : Ending := if n < 0 then .returned (.tuple #[.int .i64 0, .int .i64 1]) else .returned (.tuple #[.int .i64 (Root.isq n.toNat), .int .i64 0])
theorem rootRet_nat (n : Nat) : rootRet n = .returned (.tuple #[.int .i64 (Root.isq n), .int .i64 0]) := by unfold rootRet; rw [if_neg (by omega)]; rfl

theorem sq_bound {t : Nat} (h : t ≤ 4294967296) : t * t ≤ 18446744073709551616 := by
  have := Nat.mul_le_mul h h; omega
theorem wrap_sq (t : Nat) (h : t * t ≤ 18446744073709551616) : wrap64 ((t : Int) * t) = if t * t ≤ 9223372036854775807 then ((t * t : Nat) : Int) else ((t * t : Nat) : Int) - 18446744073709551616 := by
  rw [← Int.natCast_mul]
  unfold wrap64; split <;> omega

set_option maxHeartbeats 1000000 in
set_option maxRecDepth 100000 in
theorem root_any (n : Int) (w : World) (h2 : n ≤ 9223372036854775807) :
    Calls Try.prog 15 #[.int .i64 n] w fun e w' => e = rootRet n ∧ w' = w := by
  by_cases h0 : n < 0
  · unfold rootRet
    rw [if_pos h0]
    go_enter Try.func15, Try.ntmps15
    go_wp2
    go_ret2
    exact ⟨rfl, rfl⟩
  · obtain ⟨n, rfl⟩ := Int.eq_ofNat_of_zero_le (show 0 ≤ n by omega)
    rw [rootRet_nat]
    have c0 : decide ((n : Int) < 0) = false := by rw [decide_eq_false_iff_not]; omega
    clear h0
    go_enter Try.func15, Try.ntmps15
    go_wp2_with fail
    go_loop [4, 5] (fun rv bv => ∃ (r b i : Nat), rv = .int .i64 r ∧ bv = .int .i64 b ∧ b = 2 ^ i / 2 ∧ i ≤ 32 ∧ r + 2 ^ i ≤ 4294967296 ∧ r * r ≤ n ∧ n < (r + 2 ^ i) * (r + 2 ^ i)) (fun _ bv => (intOf bv).toNat)
    case atStart => exact ⟨0, 2147483648, 32, rfl, rfl, by decide, by omega, by decide, by omega, by omega⟩
    case round =>
      obtain ⟨r, b, i, rfl, rfl, hb, hi, hr, h3, h4⟩ := hrel
      cases i with
      | zero =>
        obtain rfl : b = 0 := by simpa using hb
        have hf := Lib.hid (Root.unique h3 (by simpa using h4))
        clear hb hi hr h3 h4
        go_wp2
        go_ret2
        rw [hf.out]
        exact ⟨rfl, rfl⟩
      | succ j =>
        have hj : b = 2 ^ j := by rw [hb, Nat.pow_succ]; exact Nat.mul_div_cancel _ (by decide)
        have hp : 2 ^ (j + 1) = 2 * b := by rw [Nat.pow_succ, hj, Nat.mul_comm]
        have hp1 : 1 ≤ b := by rw [hj]; exact Nat.one_le_two_pow
        rw [hp] at hr h4
        have Hj := Lib.hid hj
        have H3 := Lib.hid h3
        have H4 := Lib.hid h4
        have Hi := Lib.hid hi
        have hbb : (b : Int) ≤ 4294967296 := by omega
        have hrr : (r : Int) ≤ 4294967296 := by omega
        have hr1 := Lib.hid hr
        have hb1 : (1 : Int) ≤ b := by omega
        have cb : decide (0 < b) = true := by simp; omega
        obtain ⟨t, ht⟩ : ∃ t, t = r + b := ⟨_, rfl⟩
        have et : (r : Int) + b = t := by omega
        have ht1 : (1 : Int) ≤ t := by omega
        have Ht := Lib.hid ht
        have hsq := sq_bound (t := t) (by omega)
        have hw := wrap_sq t hsq
        obtain ⟨q, hq⟩ : ∃ q, wrap64 ((t : Int) * t) = q := ⟨_, rfl⟩
        obtain ⟨v, hv⟩ : ∃ v : Nat, v = n / t := ⟨_, rfl⟩
        have ev : (n : Int) / t = v := by rw [hv, Int.natCast_ediv]
        have hdiv := Root.le_div (t := t) (n := n) (by omega)
        rw [← hv] at hdiv
        have hv9 : (v : Int) ≤ 9223372036854775807 := by have := Nat.div_le_self n t; omega
        rw [hq] at hw
        have Hv := Lib.hid hv
        have hbit : 2 ^ j / 2 = b / 2 := by rw [← hj]
        have Hbit := Lib.hid hbit
        by_cases hyes : t * t ≤ n
        · have hq0 : 0 < q := by
            rw [hw, if_pos (by omega)]
            have : 1 * 1 ≤ t * t := Nat.mul_le_mul (by omega) (by omega)
            omega
          have c1 : decide (0 < q) = true := by simpa using hq0
          have c2 : decide (t ≤ v) = true := by simpa using hdiv.2 hyes
          have Hy := Lib.hid hyes
          clear hj hp hp1 h3 h4 hi hr ht hsq hw hv hdiv hyes hq0 hb hbit
          go_wp2
          go_round
          case rel =>
            refine ⟨t, b / 2, j, rfl, ?_, Hbit.out.symm, by have := Hi.out; omega, by rw [← Hj.out]; have := hr1.out; have := Ht.out; omega, Hy.out, ?_⟩
            · exact congrArg (Value.int .i64) (by omega)
            · rw [← Hj.out]
              have := H4.out
              rw [Ht.out, show r + b + b = r + 2 * b by omega]; exact this
          case measure => simp [intOf]; omega
        · have c12 : (decide (0 < q) = false) ∨ (decide (0 < q) = true ∧ decide (t ≤ v) = false) := by
            by_cases h9 : t * t ≤ 9223372036854775807
            · right
              refine ⟨?_, ?_⟩
              · rw [hw, if_pos h9]
                have : 1 * 1 ≤ t * t := Nat.mul_le_mul (by omega) (by omega)
                rw [decide_eq_true_eq]; omega
              · rw [decide_eq_false_iff_not]; exact fun h => hyes (hdiv.1 h)
            · left
              rw [hw, if_neg h9, decide_eq_false_iff_not]; omega
          have Hy := Lib.hid hyes
          clear hj hp hp1 h3 h4 hi hr ht hsq hw hv hdiv hyes hb hbit
          rcases c12 with c1 | ⟨c1, c2⟩
          all_goals
            go_wp2
            go_round
            case rel =>
              refine ⟨r, b / 2, j, rfl, ?_, Hbit.out.symm, by have := Hi.out; omega, by rw [← Hj.out]; have := hr1.out; omega, H3.out, ?_⟩
              · exact congrArg (Value.int .i64) (by omega)
              · rw [← Hj.out, ← Ht.out]
                have := Hy.out
                omega
            case measure => simp [intOf]; omega

set_option maxHeartbeats 1000000 in
set_option maxRecDepth 100000 in
theorem rroot_any (n : Int) (w : World) (h2 : n ≤ 9223372036854775807) :
    Calls Try.prog 16 #[.int .i64 n] w fun e w' => e = rootRet n ∧ w' = w := by
  by_cases h0 : n < 0
  · unfold rootRet
    rw [if_pos h0]
    go_enter Try.func16, Try.ntmps16
    go_wp2
    go_ret2
    exact ⟨rfl, rfl⟩
  · obtain ⟨n, rfl⟩ := Int.eq_ofNat_of_zero_le (show 0 ≤ n by omega)
    rw [rootRet_nat]
    have c0 : decide ((n : Int) < 0) = false := by rw [decide_eq_false_iff_not]; omega
    clear h0
    go_enter Try.func16, Try.ntmps16
    go_wp2_with fail
    go_loop [4, 5] (fun lv hv => ∃ (l h : Nat), lv = .int .i64 l ∧ hv = .int .i64 h ∧ l ≤ h ∧ h ≤ 3037000499 ∧ l * l ≤ n ∧ n < (h + 1) * (h + 1)) (fun lv hv => (intOf hv - intOf lv).toNat)
    case atStart => exact ⟨0, 3037000499, rfl, rfl, by omega, by omega, by omega, by omega⟩
    case round =>
      obtain ⟨l, h, rfl, rfl, hlh, hh, h3, h4⟩ := hrel
      by_cases hlt : l < h
      · have c1 : decide (l < h) = true := by simpa using hlt
        obtain ⟨m, hm⟩ : ∃ m, m = (l + h + 1) / 2 := ⟨_, rfl⟩
        have em : ((l : Int) + h + 1) / 2 = m := by omega
        have hm1 := Lib.hid (show l < m by omega)
        have hm2 := Lib.hid (show m ≤ h by omega)
        have hm3 : (m : Int) ≤ 3037000499 := by omega
        have hm4 : (1 : Int) ≤ m := by omega
        have hsq : m * m ≤ 3037000499 * 3037000499 := Nat.mul_le_mul (by omega) (by omega)
        obtain ⟨q, hq⟩ : ∃ q : Nat, q = m * m := ⟨_, rfl⟩
        have eq1 : wrap64 ((m : Int) * m) = q := by rw [← Int.natCast_mul, ← hq]; unfold wrap64; omega
        have Hq := Lib.hid hq
        have H3 := Lib.hid h3
        have H4 := Lib.hid h4
        have hhi : (h : Int) ≤ 3037000499 := by omega
        have hli : (l : Int) < h := by omega
        have Hh := Lib.hid hh
        by_cases hy : q ≤ n
        · have c2 : decide (q ≤ n) = true := by simpa using hy
          have Hy := Lib.hid hy
          clear hlt hm hsq hq h3 h4 hlh hh hy
          go_wp2
          go_round
          case rel => exact ⟨m, h, congrArg (Value.int .i64) em, rfl, hm2.out, Hh.out, by rw [← Hq.out]; exact Hy.out, H4.out⟩
          case measure => have := hm1.out; simp [intOf]; omega
        · have c2 : decide (q ≤ n) = false := by simpa using hy
          have Hy := Lib.hid hy
          clear hlt hm hsq hq h3 h4 hlh hh hy
          go_wp2
          go_round
          case rel =>
            have h5 := hm1.out
            have h6 := hm2.out
            refine ⟨l, m - 1, rfl, ?_, by omega, by have := Hh.out; omega, H3.out, ?_⟩
            · exact congrArg (Value.int .i64) (by omega)
            · rw [Nat.sub_add_cancel (by omega), ← Hq.out]; have := Hy.out; omega
          case measure => have := hm1.out; have := hm2.out; simp [intOf]; omega
      · have c1 : decide (l < h) = false := by simpa using hlt
        have he : l = h := by omega
        subst he
        have hf := Lib.hid (Root.unique h3 h4)
        clear h3 h4 hlt hlh hh
        go_wp2
        go_ret2
        rw [hf.out]
        exact ⟨rfl, rfl⟩
end Go.Proofs.Ytkekpnompooaiaa
