/- math/bits.Div64: the contract, for all arguments whose quotient fits. -/
import Derived.Test.YtbkpoepacjinlaaA
import Derived.Test.YtbkpoepacjinlaaShelf
import Derived.Test.YtbkpoepacjinlaaKnuth
import Derived.RegionTactic
import Derived.ChangeAlike
import Derived.Deep.QuietTactic
import Derived.BigQuiet
namespace Go.Proofs.Ytbkpoepacjinlaa
open Go.RowKit

/-- the high part is 0 -/
theorem div64_low (lo y : Int) (w : World) (h0 : 0 ≤ lo) (hy : 1 ≤ y) (hL : lo ≤ 18446744073709551615) :
    Calls Try.prog 121 #[.int .u64 0, .int .u64 lo, .int .u64 y] w fun e w' => e = .returned (.tuple #[.int .u64 (lo / y), .int .u64 (lo % y)]) ∧ ∃ n, w' = w.drewN n := by
  have b1 : (y == 0) = false := by rw [beq_eq_false_iff_ne]; omega
  have b2 : decide (y ≤ 0) = false := by simp; omega
  go_enter Try.func121, Try.ntmps121
  go_wp2
  go_quiet (fail)
  go_wp2
  go_ret2
  exact ⟨rfl, _, rfl⟩

set_option maxHeartbeats 4000000 in
set_option maxRecDepth 100000 in
theorem div64_high (hi lo y : Int) (s Y a b u l d1 d0 u2 qh rh qh2 rh2 qq rr Q1 Q0 : Nat) (w : World) (h1 : 1 ≤ hi) (hy : hi < y) (hY : y ≤ 18446744073709551615)
    (hs : Hid (64 - (Lib.bitLen y.toNat : Int) = (s : Int))) (hs63 : s ≤ 63)
    (e1 : IntKind.u64.wrap (y * 2 ^ s) = Y) (e2 : (Y : Int) / 4294967296 = a) (e3 : bits BinOp.and IntKind.u64 Y 4294967295 = b)
    (e4 : bits BinOp.or IntKind.u64 (IntKind.u64.wrap (hi * 2 ^ s)) (lo / 2 ^ (64 - s)) = u) (e5 : IntKind.u64.wrap (lo * 2 ^ s) = l) (e6 : (l : Int) / 4294967296 = d1) (e7 : bits BinOp.and IntKind.u64 l 4294967295 = d0)
    (e8 : (u : Int) / a = qh) (e9 : IntKind.u64.wrap (u - IntKind.u64.wrap (qh * a)) = rh) (hst : Hid (Knuth.Dig u d1 a b qh rh))
    (e10 : IntKind.u64.wrap (IntKind.u64.wrap (IntKind.u64.wrap ((u : Int) * 4294967296) + d1) - IntKind.u64.wrap ((Q1 : Int) * Y)) = u2)
    (e11 : (u2 : Int) / a = qh2) (e12 : IntKind.u64.wrap (u2 - IntKind.u64.wrap (qh2 * a)) = rh2) (hst2 : Hid (Knuth.Dig u2 d0 a b qh2 rh2))
    (e13 : IntKind.u64.wrap (IntKind.u64.wrap ((Q1 : Int) * 4294967296) + Q0) = qq) (e14 : IntKind.u64.wrap (IntKind.u64.wrap (IntKind.u64.wrap ((u2 : Int) * 4294967296) + d0) - IntKind.u64.wrap ((Q0 : Int) * Y)) / 2 ^ s = rr)
    (hP : Hid (Knuth.Par u d1 a b)) (hP2 : Hid (Knuth.Par u2 d0 a b))
    (hQ1 : Hid (Q1 = (u * 4294967296 + d1) / (a * 4294967296 + b))) (hQ0 : Hid (Q0 = (u2 * 4294967296 + d0) / (a * 4294967296 + b)))
    (ha : (2147483648 : Int) ≤ a) (ha' : (a : Int) < 4294967296) (hb' : Hid (b < 4294967296)) (_hb2 : (b : Int) < 4294967296) (_hu' : (u : Int) ≤ 18446744073709551615) (hd1' : (d1 : Int) < 4294967296) (hd0' : (d0 : Int) < 4294967296) (hqh : (qh : Int) ≤ 4294967297) (_hrh : (rh : Int) < 4294967296)
    (_hu2 : (u2 : Int) ≤ 18446744073709551615) (hqh2 : (qh2 : Int) ≤ 4294967297) (_hrh2 : (rh2 : Int) < 4294967296) :
    Calls Try.prog 121 #[.int .u64 hi, .int .u64 lo, .int .u64 y] w fun e w' => e = .returned (.tuple #[.int .u64 qq, .int .u64 rr]) ∧ w' = w := by
  have b1 : (y == 0) = false := by rw [beq_eq_false_iff_ne]; omega
  have b2 : decide (y ≤ hi) = false := by simp; omega
  have b3 : (hi == 0) = false := by rw [beq_eq_false_iff_ne]; omega
  go_enter Try.func121, Try.ntmps121
  go_wp2_with fail
  refine (Go.Proofs.Try.bits_LeadingZeros64 _ _ (by omega) (by omega)).mono ?_
  rintro e w' ⟨rfl, rfl⟩
  rw [hs.out]
  go_wp2_with fail
  clear e1 e2 e3 e4 e5 e6 e7 e8 e9 b1 b2 b3
  go_loop [15, 16] (fun q r => ∃ qn rn : Nat, q = .int .u64 qn ∧ r = .int .u64 rn ∧ Knuth.Dig u d1 a b qn rn) (fun q _ => (intOf q).toNat)
  case atStart => exact ⟨_, _, rfl, rfl, hst.out⟩
  case round =>
    obtain ⟨q, r, rfl, rfl, hD'⟩ := hrel
    have hD := Lib.hid hD'
    have hq1 : (q : Int) ≤ 4294967297 := by have := hD'.1; omega
    have hr1 : (r : Int) < 4294967296 := by have := hD'.2.1; omega
    clear hD'
    by_cases hq : 4294967296 ≤ q
    · have c1 : decide ((4294967296 : Int) ≤ (q : Int)) = true := by rw [decide_eq_true_eq]; omega
      have hpos := hD.out.pos hP.out (.inl hq)
      have hqi : (1 : Int) ≤ q := by omega
      by_cases hr : r + a < 4294967296
      · have c3 : decide ((4294967296 : Int) ≤ (r : Int) + (a : Int)) = false := by rw [decide_eq_false_iff_not]; omega
        have hN := Lib.hid (hD.out.less hP.out (.inl hq) hr)
        have Hp := Lib.hid hpos; clear hpos
        clear hq hr
        go_wp2
        go_round
        case rel => exact ⟨q - 1, r + a, by rw [Int.ofNat_sub Hp.out]; rfl, by go_num, hN.out⟩
        case measure => simp [intOf]; omega
      · have c3 : decide ((4294967296 : Int) ≤ (r : Int) + (a : Int)) = true := by rw [decide_eq_true_eq]; omega
        have hN := hD.out.last hP.out (.inl hq) (by omega)
        have e15 : (q : Int) - 1 = (Q1 : Nat) := by rw [hQ1.out, ← hN]; omega
        clear hN
        clear hq hr
        clear hpos
        go_wp2_with fail
        go_loop [18, 16] (fun q r => ∃ qn rn : Nat, q = .int .u64 qn ∧ r = .int .u64 rn ∧ Knuth.Dig u2 d0 a b qn rn) (fun q _ => (intOf q).toNat)
        case atStart => exact ⟨_, _, rfl, rfl, hst2.out⟩
        case round =>
          obtain ⟨q, r, rfl, rfl, hD'⟩ := hrel
          have hD := Lib.hid hD'
          have hq1 : (q : Int) ≤ 4294967297 := by have := hD'.1; omega
          have hr1 : (r : Int) < 4294967296 := by have := hD'.2.1; omega
          clear hD'
          by_cases hq : 4294967296 ≤ q
          · have c1 : decide ((4294967296 : Int) ≤ (q : Int)) = true := by rw [decide_eq_true_eq]; omega
            have hpos := hD.out.pos hP2.out (.inl hq)
            have hqi : (1 : Int) ≤ q := by omega
            by_cases hr : r + a < 4294967296
            · have c3 : decide ((4294967296 : Int) ≤ (r : Int) + (a : Int)) = false := by rw [decide_eq_false_iff_not]; omega
              have hN := Lib.hid (hD.out.less hP2.out (.inl hq) hr)
              have Hp := Lib.hid hpos; clear hpos
              clear hq hr
              go_wp2
              go_round
              case rel => exact ⟨q - 1, r + a, by rw [Int.ofNat_sub Hp.out]; rfl, by go_num, hN.out⟩
              case measure => simp [intOf]; omega
            · have c3 : decide ((4294967296 : Int) ≤ (r : Int) + (a : Int)) = true := by rw [decide_eq_true_eq]; omega
              have hN := hD.out.last hP2.out (.inl hq) (by omega)
              have e15 : (q : Int) - 1 = (Q0 : Nat) := by rw [hQ0.out, ← hN]; omega
              clear hN
              clear hq hr
              clear hpos
              go_wp2
              go_ret2
              exact ⟨rfl, rfl⟩
          · have c1 : decide ((4294967296 : Int) ≤ (q : Int)) = false := by rw [decide_eq_false_iff_not]; omega
            have hq' : q < 4294967296 := by omega
            clear hq
            obtain ⟨m, hm0⟩ : ∃ m : Nat, m = q * b := ⟨_, rfl⟩
            have hm : IntKind.u64.wrap ((q : Int) * b) = m := by
              rw [IntKind.wrap_u64]; have := Knuth.mul_half hq' hb'.out
              rw [← Int.natCast_mul, ← hm0]; omega
            have Hm := Lib.hid hm0
            clear hm0 hq'
            by_cases ht : 4294967296 * r + d0 < m
            · have c2 : decide (4294967296 * (r : Int) + (d0 : Int) < (m : Int)) = true := by rw [decide_eq_true_eq]; omega
              have hpos := hD.out.pos hP2.out (.inr (by rw [← Hm.out]; omega))
              have hqi : (1 : Int) ≤ q := by omega
              by_cases hr : r + a < 4294967296
              · have c3 : decide ((4294967296 : Int) ≤ (r : Int) + (a : Int)) = false := by rw [decide_eq_false_iff_not]; omega
                have hN := Lib.hid (hD.out.less hP2.out (.inr (by rw [← Hm.out]; omega)) hr)
                have Hp := Lib.hid hpos; clear hpos
                clear ht hr
                go_wp2
                go_round
                case rel => exact ⟨q - 1, r + a, by rw [Int.ofNat_sub Hp.out]; rfl, by go_num, hN.out⟩
                case measure => simp [intOf]; omega
              · have c3 : decide ((4294967296 : Int) ≤ (r : Int) + (a : Int)) = true := by rw [decide_eq_true_eq]; omega
                have hN := hD.out.last hP2.out (.inr (by rw [← Hm.out]; omega)) (by omega)
                have e15 : (q : Int) - 1 = (Q0 : Nat) := by rw [hQ0.out, ← hN]; omega
                clear hN
                clear ht hr
                clear hpos
                go_wp2
                go_ret2
                exact ⟨rfl, rfl⟩
            · have c2 : decide (4294967296 * (r : Int) + (d0 : Int) < (m : Int)) = false := by rw [decide_eq_false_iff_not]; omega
              have hN := hD.out.done hP2.out (by rw [← Hm.out]; omega)
              rw [← hQ0.out] at hN
              subst hN
              clear ht
              go_wp2
              go_ret2
              exact ⟨rfl, rfl⟩
    · have c1 : decide ((4294967296 : Int) ≤ (q : Int)) = false := by rw [decide_eq_false_iff_not]; omega
      have hq' : q < 4294967296 := by omega
      clear hq
      obtain ⟨m, hm0⟩ : ∃ m : Nat, m = q * b := ⟨_, rfl⟩
      have hm : IntKind.u64.wrap ((q : Int) * b) = m := by
        rw [IntKind.wrap_u64]; have := Knuth.mul_half hq' hb'.out
        rw [← Int.natCast_mul, ← hm0]; omega
      have Hm := Lib.hid hm0
      clear hm0 hq'
      by_cases ht : 4294967296 * r + d1 < m
      · have c2 : decide (4294967296 * (r : Int) + (d1 : Int) < (m : Int)) = true := by rw [decide_eq_true_eq]; omega
        have hpos := hD.out.pos hP.out (.inr (by rw [← Hm.out]; omega))
        have hqi : (1 : Int) ≤ q := by omega
        by_cases hr : r + a < 4294967296
        · have c3 : decide ((4294967296 : Int) ≤ (r : Int) + (a : Int)) = false := by rw [decide_eq_false_iff_not]; omega
          have hN := Lib.hid (hD.out.less hP.out (.inr (by rw [← Hm.out]; omega)) hr)
          have Hp := Lib.hid hpos; clear hpos
          clear ht hr
          go_wp2
          go_round
          case rel => exact ⟨q - 1, r + a, by rw [Int.ofNat_sub Hp.out]; rfl, by go_num, hN.out⟩
          case measure => simp [intOf]; omega
        · have c3 : decide ((4294967296 : Int) ≤ (r : Int) + (a : Int)) = true := by rw [decide_eq_true_eq]; omega
          have hN := hD.out.last hP.out (.inr (by rw [← Hm.out]; omega)) (by omega)
          have e15 : (q : Int) - 1 = (Q1 : Nat) := by rw [hQ1.out, ← hN]; omega
          clear hN
          clear ht hr
          clear hpos
          go_wp2_with fail
          go_loop [18, 16] (fun q r => ∃ qn rn : Nat, q = .int .u64 qn ∧ r = .int .u64 rn ∧ Knuth.Dig u2 d0 a b qn rn) (fun q _ => (intOf q).toNat)
          case atStart => exact ⟨_, _, rfl, rfl, hst2.out⟩
          case round =>
            obtain ⟨q, r, rfl, rfl, hD'⟩ := hrel
            have hD := Lib.hid hD'
            have hq1 : (q : Int) ≤ 4294967297 := by have := hD'.1; omega
            have hr1 : (r : Int) < 4294967296 := by have := hD'.2.1; omega
            clear hD'
            by_cases hq : 4294967296 ≤ q
            · have c1 : decide ((4294967296 : Int) ≤ (q : Int)) = true := by rw [decide_eq_true_eq]; omega
              have hpos := hD.out.pos hP2.out (.inl hq)
              have hqi : (1 : Int) ≤ q := by omega
              by_cases hr : r + a < 4294967296
              · have c3 : decide ((4294967296 : Int) ≤ (r : Int) + (a : Int)) = false := by rw [decide_eq_false_iff_not]; omega
                have hN := Lib.hid (hD.out.less hP2.out (.inl hq) hr)
                have Hp := Lib.hid hpos; clear hpos
                clear hq hr
                go_wp2
                go_round
                case rel => exact ⟨q - 1, r + a, by rw [Int.ofNat_sub Hp.out]; rfl, by go_num, hN.out⟩
                case measure => simp [intOf]; omega
              · have c3 : decide ((4294967296 : Int) ≤ (r : Int) + (a : Int)) = true := by rw [decide_eq_true_eq]; omega
                have hN := hD.out.last hP2.out (.inl hq) (by omega)
                have e15 : (q : Int) - 1 = (Q0 : Nat) := by rw [hQ0.out, ← hN]; omega
                clear hN
                clear hq hr
                clear hpos
                go_wp2
                go_ret2
                exact ⟨rfl, rfl⟩
            · have c1 : decide ((4294967296 : Int) ≤ (q : Int)) = false := by rw [decide_eq_false_iff_not]; omega
              have hq' : q < 4294967296 := by omega
              clear hq
              obtain ⟨m, hm0⟩ : ∃ m : Nat, m = q * b := ⟨_, rfl⟩
              have hm : IntKind.u64.wrap ((q : Int) * b) = m := by
                rw [IntKind.wrap_u64]; have := Knuth.mul_half hq' hb'.out
                rw [← Int.natCast_mul, ← hm0]; omega
              have Hm := Lib.hid hm0
              clear hm0 hq'
              by_cases ht : 4294967296 * r + d0 < m
              · have c2 : decide (4294967296 * (r : Int) + (d0 : Int) < (m : Int)) = true := by rw [decide_eq_true_eq]; omega
                have hpos := hD.out.pos hP2.out (.inr (by rw [← Hm.out]; omega))
                have hqi : (1 : Int) ≤ q := by omega
                by_cases hr : r + a < 4294967296
                · have c3 : decide ((4294967296 : Int) ≤ (r : Int) + (a : Int)) = false := by rw [decide_eq_false_iff_not]; omega
                  have hN := Lib.hid (hD.out.less hP2.out (.inr (by rw [← Hm.out]; omega)) hr)
                  have Hp := Lib.hid hpos; clear hpos
                  clear ht hr
                  go_wp2
                  go_round
                  case rel => exact ⟨q - 1, r + a, by rw [Int.ofNat_sub Hp.out]; rfl, by go_num, hN.out⟩
                  case measure => simp [intOf]; omega
                · have c3 : decide ((4294967296 : Int) ≤ (r : Int) + (a : Int)) = true := by rw [decide_eq_true_eq]; omega
                  have hN := hD.out.last hP2.out (.inr (by rw [← Hm.out]; omega)) (by omega)
                  have e15 : (q : Int) - 1 = (Q0 : Nat) := by rw [hQ0.out, ← hN]; omega
                  clear hN
                  clear ht hr
                  clear hpos
                  go_wp2
                  go_ret2
                  exact ⟨rfl, rfl⟩
              · have c2 : decide (4294967296 * (r : Int) + (d0 : Int) < (m : Int)) = false := by rw [decide_eq_false_iff_not]; omega
                have hN := hD.out.done hP2.out (by rw [← Hm.out]; omega)
                rw [← hQ0.out] at hN
                subst hN
                clear ht
                go_wp2
                go_ret2
                exact ⟨rfl, rfl⟩
      · have c2 : decide (4294967296 * (r : Int) + (d1 : Int) < (m : Int)) = false := by rw [decide_eq_false_iff_not]; omega
        have hN := hD.out.done hP.out (by rw [← Hm.out]; omega)
        rw [← hQ1.out] at hN
        subst hN
        clear ht
        go_wp2_with fail
        go_loop [18, 16] (fun q r => ∃ qn rn : Nat, q = .int .u64 qn ∧ r = .int .u64 rn ∧ Knuth.Dig u2 d0 a b qn rn) (fun q _ => (intOf q).toNat)
        case atStart => exact ⟨_, _, rfl, rfl, hst2.out⟩
        case round =>
          obtain ⟨q, r, rfl, rfl, hD'⟩ := hrel
          have hD := Lib.hid hD'
          have hq1 : (q : Int) ≤ 4294967297 := by have := hD'.1; omega
          have hr1 : (r : Int) < 4294967296 := by have := hD'.2.1; omega
          clear hD'
          by_cases hq : 4294967296 ≤ q
          · have c1 : decide ((4294967296 : Int) ≤ (q : Int)) = true := by rw [decide_eq_true_eq]; omega
            have hpos := hD.out.pos hP2.out (.inl hq)
            have hqi : (1 : Int) ≤ q := by omega
            by_cases hr : r + a < 4294967296
            · have c3 : decide ((4294967296 : Int) ≤ (r : Int) + (a : Int)) = false := by rw [decide_eq_false_iff_not]; omega
              have hN := Lib.hid (hD.out.less hP2.out (.inl hq) hr)
              have Hp := Lib.hid hpos; clear hpos
              clear hq hr
              go_wp2
              go_round
              case rel => exact ⟨q - 1, r + a, by rw [Int.ofNat_sub Hp.out]; rfl, by go_num, hN.out⟩
              case measure => simp [intOf]; omega
            · have c3 : decide ((4294967296 : Int) ≤ (r : Int) + (a : Int)) = true := by rw [decide_eq_true_eq]; omega
              have hN := hD.out.last hP2.out (.inl hq) (by omega)
              have e15 : (q : Int) - 1 = (Q0 : Nat) := by rw [hQ0.out, ← hN]; omega
              clear hN
              clear hq hr
              clear hpos
              go_wp2
              go_ret2
              exact ⟨rfl, rfl⟩
          · have c1 : decide ((4294967296 : Int) ≤ (q : Int)) = false := by rw [decide_eq_false_iff_not]; omega
            have hq' : q < 4294967296 := by omega
            clear hq
            obtain ⟨m, hm0⟩ : ∃ m : Nat, m = q * b := ⟨_, rfl⟩
            have hm : IntKind.u64.wrap ((q : Int) * b) = m := by
              rw [IntKind.wrap_u64]; have := Knuth.mul_half hq' hb'.out
              rw [← Int.natCast_mul, ← hm0]; omega
            have Hm := Lib.hid hm0
            clear hm0 hq'
            by_cases ht : 4294967296 * r + d0 < m
            · have c2 : decide (4294967296 * (r : Int) + (d0 : Int) < (m : Int)) = true := by rw [decide_eq_true_eq]; omega
              have hpos := hD.out.pos hP2.out (.inr (by rw [← Hm.out]; omega))
              have hqi : (1 : Int) ≤ q := by omega
              by_cases hr : r + a < 4294967296
              · have c3 : decide ((4294967296 : Int) ≤ (r : Int) + (a : Int)) = false := by rw [decide_eq_false_iff_not]; omega
                have hN := Lib.hid (hD.out.less hP2.out (.inr (by rw [← Hm.out]; omega)) hr)
                have Hp := Lib.hid hpos; clear hpos
                clear ht hr
                go_wp2
                go_round
                case rel => exact ⟨q - 1, r + a, by rw [Int.ofNat_sub Hp.out]; rfl, by go_num, hN.out⟩
                case measure => simp [intOf]; omega
              · have c3 : decide ((4294967296 : Int) ≤ (r : Int) + (a : Int)) = true := by rw [decide_eq_true_eq]; omega
                have hN := hD.out.last hP2.out (.inr (by rw [← Hm.out]; omega)) (by omega)
                have e15 : (q : Int) - 1 = (Q0 : Nat) := by rw [hQ0.out, ← hN]; omega
                clear hN
                clear ht hr
                clear hpos
                go_wp2
                go_ret2
                exact ⟨rfl, rfl⟩
            · have c2 : decide (4294967296 * (r : Int) + (d0 : Int) < (m : Int)) = false := by rw [decide_eq_false_iff_not]; omega
              have hN := hD.out.done hP2.out (by rw [← Hm.out]; omega)
              rw [← hQ0.out] at hN
              subst hN
              clear ht
              go_wp2
              go_ret2
              exact ⟨rfl, rfl⟩
end Go.Proofs.Ytbkpoepacjinlaa
