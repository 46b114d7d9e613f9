/- Several texts of this claim in one. -/
import Derived.Test.YthimnjegacdhaaaGreatDoorProg
import Derived.WalkKit
import Derived.WalkSpells
import Derived.WalkLawsBesides
import Derived.Lib.Hide
import Derived.Test.YthimnjegacdhaaaGreatDoorShelf
import Derived.Test.YthimnjegacdhaaaGreatDoorYt1
import Derived.RegionTactic
import Derived.ChangeAlike
import Derived.Deep.QuietTactic
import Derived.BigQuiet
import Derived.Lib.Bytealg
import Derived.WalkSmall
import Derived.Laws.EntriesVeiled
import Derived.Handy
import Derived.StillTailTactics
/- Contracts of small functions of rounding: outside, size, more, ways and its functions, IndexFunc over the ways, Compare. -/
namespace Go.Proofs.YthimnjegacdhaaaGreatDoor
open Go.RowKit

theorem ret_int {k : IntKind} {a b : Int} (h : a = b) : Ending.returned (.int k a) = .returned (.int k b) := by rw [h]
theorem ret_bool {a b : Bool} (h : a = b) : Ending.returned (.bool a) = .returned (.bool b) := by rw [h]

theorem outside_any (n lo hi : Int) (w : World) :
    Calls Tryz.prog 27 #[.int .i64 n, .int .i64 lo, .int .i64 hi] w fun e w' => e = .returned (.bool (decide (n < lo) || decide (hi < n))) ∧ w = w' := by
  by_cases h1 : n < lo
  · go_enter Tryz.func27, Tryz.ntmps27
    go_wp2
    go_ret
    exact ⟨by simp [h1], rfl⟩
  · have h2 : decide (n < lo) = false := by simpa using h1
    go_enter Tryz.func27, Tryz.ntmps27
    go_wp2
    go_ret
    exact ⟨by simp, rfl⟩

theorem size_any (a : Int) (w : World) (h1 : -9223372036854775808 ≤ a) (h2 : a ≤ 9223372036854775807) :
    Calls Tryz.prog 60 #[.int .i64 a] w fun e w' => e = .returned (.int .u64 a.natAbs) ∧ w = w' := by
  go_enter Tryz.func60, Tryz.ntmps60
  go_wp2
  all_goals go_ret
  all_goals refine ⟨ret_int ?_, rfl⟩
  · simp only [IntKind.wrap_u64]; omega
  · show a = _; omega

def cmpF (a b : Int) : Int := if a < b then -1 else if b < a then 1 else 0

theorem compare_any (a b : Int) (w : World) :
    Calls Tryz.prog 59 #[.int .u64 a, .int .u64 b] w fun e w' => e = .returned (.int .i64 (cmpF a b)) ∧ w = w' := by
  go_enter Tryz.func59, Tryz.ntmps59
  go_wp2
  all_goals go_ret
  all_goals refine ⟨ret_int ?_, rfl⟩
  all_goals (unfold cmpF; split <;> (try split) <;> first | rfl | (exfalso; omega))

/-! ### the functions of the table -/
theorem way1 (b : Bool) (q h : Int) (w : World) : Calls Tryz.prog 71 #[.bool b, .int .u64 q, .int .i64 h] w fun e w' => e = .returned (.bool b) ∧ w = w' := by
  go_enter Tryz.func71, Tryz.ntmps71
  go_wp2
  go_ret
  exact ⟨rfl, rfl⟩
theorem way2 (b : Bool) (q h : Int) (w : World) : Calls Tryz.prog 72 #[.bool b, .int .u64 q, .int .i64 h] w fun e w' => e = .returned (.bool (!b)) ∧ w = w' := by
  go_enter Tryz.func72, Tryz.ntmps72
  go_wp2
  go_ret
  exact ⟨rfl, rfl⟩
theorem way3 (b : Bool) (q h : Int) (w : World) : Calls Tryz.prog 73 #[.bool b, .int .u64 q, .int .i64 h] w fun e w' => e = .returned (.bool false) ∧ w = w' := by
  go_enter Tryz.func73, Tryz.ntmps73
  go_wp2
  go_ret
  exact ⟨rfl, rfl⟩
theorem way4 (b : Bool) (q h : Int) (w : World) : Calls Tryz.prog 74 #[.bool b, .int .u64 q, .int .i64 h] w fun e w' => e = .returned (.bool (decide (0 < h) || (h == 0 && !b))) ∧ w = w' := by
  by_cases h1 : 0 < h
  · go_enter Tryz.func74, Tryz.ntmps74
    go_wp2
    go_ret
    exact ⟨by simp [h1], rfl⟩
  · have h2 : decide (0 < h) = false := by simpa using h1
    cases h3 : (h == 0)
    all_goals
      go_enter Tryz.func74, Tryz.ntmps74
      go_wp2
      go_ret
      exact ⟨by simp, rfl⟩
theorem way5 (b : Bool) (q h : Int) (w : World) (hq : 0 ≤ q) : Calls Tryz.prog 75 #[.bool b, .int .u64 q, .int .i64 h] w fun e w' => e = .returned (.bool (decide (0 < h) || (h == 0 && (q % 2 == 1)))) ∧ w = w' := by
  by_cases h1 : 0 < h
  · go_enter Tryz.func75, Tryz.ntmps75
    go_wp2
    go_ret
    exact ⟨by simp [h1], rfl⟩
  · have h2 : decide (0 < h) = false := by simpa using h1
    cases h3 : (h == 0)
    all_goals
      go_enter Tryz.func75, Tryz.ntmps75
      go_wp2
      go_ret
      exact ⟨by simp, rfl⟩

def fnv (k : Nat) : Value := .func (.func k) #[] #[]
/-- the row of the table in memory -/
def wayRow : Array Value := #[.int .i64 1, fnv 71, .int .i64 2, fnv 72, .int .i64 3, fnv 73, .int .i64 4, fnv 74, .int .i64 5, fnv 75]
theorem ways_any (w : World) : Calls Tryz.prog 54 #[] w fun e w' => e = .returned (.slice (some ⟨w.heap.size, 0, none⟩) 5 5) ∧ w' = w.alloc (.cells wayRow 77) := by
  go_enter Tryz.func54, Tryz.ntmps54
  go_wp2
  go_ret
  exact ⟨rfl, rfl⟩

/-- the closure that looks for a way -/
theorem has_any (k h : Int) (f : Value) (a : Addr) (w : World) (ha : w.cell? a = some (.int .i64 h)) (hb : a.block < w.heap.size) :
    Calls Tryz.prog 56 #[.agg #[.int .i64 k, f], .pointer (some a)] w fun e w' => e = .returned (.bool (k == h)) ∧ Below w.heap.size w w' := by
  go_enter Tryz.func56, Tryz.ntmps56
  go_wp2
  go_ret
  exact ⟨rfl, (Below.refl _ _).alloc (Nat.le_refl _) _⟩
/-- what 'more' returns -/
def moreF (q r d : Int) (m : Bool) (how : Int) : Bool :=
  if r = 0 then false else if how = 1 then m else if how = 2 then !m else if how = 3 then false else if r ≠ d - r then decide (d - r < r) else if how = 4 then !m else q % 2 == 1
set_option maxRecDepth 4000 in
theorem more_any (q r d : Int) (m : Bool) (how : Int) (w : World) (hq : 0 ≤ q) (hr : 0 ≤ r) (hd : r ≤ d) (hD : d ≤ 18446744073709551615) :
    Calls Tryz.prog 61 #[.int .u64 q, .int .u64 r, .int .u64 d, .bool m, .int .i64 how] w fun e w' => e = .returned (.bool (moreF q r d m how)) ∧ w = w' := by
  have hwr : IntKind.u64.wrap (d - r) = d - r := by rw [IntKind.wrap_u64]; omega
  unfold moreF
  by_cases h0 : r = 0
  · subst h0
    rw [if_pos rfl]
    clear hwr
    go_enter Tryz.func61, Tryz.ntmps61
    go_wp2
    go_ret
    exact ⟨rfl, rfl⟩
  · have b0 : (r == 0) = false := by simpa using h0
    rw [if_neg h0]
    by_cases h1 : how = 1
    · subst h1
      rw [if_pos rfl]
      go_enter Tryz.func61, Tryz.ntmps61
      go_wp2
      go_ret
      exact ⟨rfl, rfl⟩
    by_cases h2 : how = 2
    · subst h2
      rw [if_neg h1, if_pos rfl]
      go_enter Tryz.func61, Tryz.ntmps61
      go_wp2
      go_ret
      exact ⟨rfl, rfl⟩
    by_cases h3 : how = 3
    · subst h3
      rw [if_neg h1, if_neg h2, if_pos rfl]
      go_enter Tryz.func61, Tryz.ntmps61
      go_wp2
      go_ret
      exact ⟨rfl, rfl⟩
    have b1 : (how == 1) = false := by simpa using h1
    have b2 : (how == 2) = false := by simpa using h2
    have b3 : (how == 3) = false := by simpa using h3
    rw [if_neg h1, if_neg h2, if_neg h3]
    by_cases h4 : r = d - r
    · have b4 : (r != d - r) = false := by rw [bne_eq_false_iff_eq]; exact h4
      rw [if_neg (by simpa using h4)]
      clear h4 h1 h2 h3 h0
      by_cases h5 : how = 4
      · subst h5
        rw [if_pos rfl]
        go_enter Tryz.func61, Tryz.ntmps61
        go_wp2
        go_ret
        exact ⟨rfl, rfl⟩
      · have b5 : (how == 4) = false := by simpa using h5
        rw [if_neg h5]
        clear h5
        go_enter Tryz.func61, Tryz.ntmps61
        go_wp2
        go_ret
        exact ⟨rfl, rfl⟩
    · have b4 : (r != d - r) = true := by rw [bne_iff_ne]; exact h4
      rw [if_pos (by simpa using h4)]
      clear h4 h1 h2 h3 h0
      go_enter Tryz.func61, Tryz.ntmps61
      go_wp2
      go_ret
      exact ⟨rfl, rfl⟩
end Go.Proofs.YthimnjegacdhaaaGreatDoor

/- math/bits.Div64: the contract, for all arguments whose quotient fits. -/
namespace Go.Proofs.YthimnjegacdhaaaGreatDoor
open Go.RowKit

/-- the high part is 0 -/
theorem div64_low (lo y : Int) (w : World) (h0 : 0 ≤ lo) (hy : 1 ≤ y) (hL : lo ≤ 18446744073709551615) :
    Calls Tryz.prog 58 #[.int .u64 0, .int .u64 lo, .int .u64 y] w fun e w' => e = .returned (.tuple #[.int .u64 (lo / y), .int .u64 (lo % y)]) ∧ ∃ n, w' = w.drewN n := by
  have b1 : (y == 0) = false := by rw [beq_eq_false_iff_ne]; omega
  have b2 : decide (y ≤ 0) = false := by simp; omega
  go_enter Tryz.func58, Tryz.ntmps58
  go_wp2
  go_quiet (fail)
  go_wp2
  go_ret2
  exact ⟨rfl, _, rfl⟩

set_option maxHeartbeats 4000000 in
set_option maxRecDepth 100000 in
theorem div64_high (hi lo y : Int) (s Y a b u l d1 d0 u2 qh rh qh2 rh2 qq rr Q1 Q0 : Nat) (w : World) (h1 : 1 ≤ hi) (hy : hi < y) (hY : y ≤ 18446744073709551615)
    (hs : Hid (64 - (Lib.bitLen y.toNat : Int) = (s : Int))) (hs63 : s ≤ 63)
    (e1 : IntKind.u64.wrap (y * 2 ^ s) = Y) (e2 : (Y : Int) / 4294967296 = a) (e3 : bits BinOp.and IntKind.u64 Y 4294967295 = b)
    (e4 : bits BinOp.or IntKind.u64 (IntKind.u64.wrap (hi * 2 ^ s)) (lo / 2 ^ (64 - s)) = u) (e5 : IntKind.u64.wrap (lo * 2 ^ s) = l) (e6 : (l : Int) / 4294967296 = d1) (e7 : bits BinOp.and IntKind.u64 l 4294967295 = d0)
    (e8 : (u : Int) / a = qh) (e9 : IntKind.u64.wrap (u - IntKind.u64.wrap (qh * a)) = rh) (hst : Hid (Knuth.Dig u d1 a b qh rh))
    (e10 : IntKind.u64.wrap (IntKind.u64.wrap (IntKind.u64.wrap ((u : Int) * 4294967296) + d1) - IntKind.u64.wrap ((Q1 : Int) * Y)) = u2)
    (e11 : (u2 : Int) / a = qh2) (e12 : IntKind.u64.wrap (u2 - IntKind.u64.wrap (qh2 * a)) = rh2) (hst2 : Hid (Knuth.Dig u2 d0 a b qh2 rh2))
    (e13 : IntKind.u64.wrap (IntKind.u64.wrap ((Q1 : Int) * 4294967296) + Q0) = qq) (e14 : IntKind.u64.wrap (IntKind.u64.wrap (IntKind.u64.wrap ((u2 : Int) * 4294967296) + d0) - IntKind.u64.wrap ((Q0 : Int) * Y)) / 2 ^ s = rr)
    (hP : Hid (Knuth.Par u d1 a b)) (hP2 : Hid (Knuth.Par u2 d0 a b))
    (hQ1 : Hid (Q1 = (u * 4294967296 + d1) / (a * 4294967296 + b))) (hQ0 : Hid (Q0 = (u2 * 4294967296 + d0) / (a * 4294967296 + b)))
    (ha : (2147483648 : Int) ≤ a) (ha' : (a : Int) < 4294967296) (hb' : Hid (b < 4294967296)) (_hb2 : (b : Int) < 4294967296) (_hu' : (u : Int) ≤ 18446744073709551615) (hd1' : (d1 : Int) < 4294967296) (hd0' : (d0 : Int) < 4294967296) (hqh : (qh : Int) ≤ 4294967297) (_hrh : (rh : Int) < 4294967296)
    (_hu2 : (u2 : Int) ≤ 18446744073709551615) (hqh2 : (qh2 : Int) ≤ 4294967297) (_hrh2 : (rh2 : Int) < 4294967296) :
    Calls Tryz.prog 58 #[.int .u64 hi, .int .u64 lo, .int .u64 y] w fun e w' => e = .returned (.tuple #[.int .u64 qq, .int .u64 rr]) ∧ w' = w := by
  have b1 : (y == 0) = false := by rw [beq_eq_false_iff_ne]; omega
  have b2 : decide (y ≤ hi) = false := by simp; omega
  have b3 : (hi == 0) = false := by rw [beq_eq_false_iff_ne]; omega
  go_enter Tryz.func58, Tryz.ntmps58
  go_wp2_with fail
  refine (Go.Proofs.Tryz.bits_LeadingZeros64 _ _ (by omega) (by omega)).mono ?_
  rintro e w' ⟨rfl, rfl⟩
  rw [hs.out]
  go_wp2_with fail
  clear e1 e2 e3 e4 e5 e6 e7 e8 e9 b1 b2 b3
  go_loop [15, 16] (fun q r => ∃ qn rn : Nat, q = .int .u64 qn ∧ r = .int .u64 rn ∧ Knuth.Dig u d1 a b qn rn) (fun q _ => (intOf q).toNat)
  case atStart => exact ⟨_, _, rfl, rfl, hst.out⟩
  case round =>
    obtain ⟨q, r, rfl, rfl, hD'⟩ := hrel
    have hD := Lib.hid hD'
    have hq1 : (q : Int) ≤ 4294967297 := by have := hD'.1; omega
    have hr1 : (r : Int) < 4294967296 := by have := hD'.2.1; omega
    clear hD'
    by_cases hq : 4294967296 ≤ q
    · have c1 : decide ((4294967296 : Int) ≤ (q : Int)) = true := by rw [decide_eq_true_eq]; omega
      have hpos := hD.out.pos hP.out (.inl hq)
      have hqi : (1 : Int) ≤ q := by omega
      by_cases hr : r + a < 4294967296
      · have c3 : decide ((4294967296 : Int) ≤ (r : Int) + (a : Int)) = false := by rw [decide_eq_false_iff_not]; omega
        have hN := Lib.hid (hD.out.less hP.out (.inl hq) hr)
        have Hp := Lib.hid hpos; clear hpos
        clear hq hr
        go_wp2
        go_round
        case rel => exact ⟨q - 1, r + a, by rw [Int.ofNat_sub Hp.out]; rfl, by go_num, hN.out⟩
        case measure => simp [intOf]; omega
      · have c3 : decide ((4294967296 : Int) ≤ (r : Int) + (a : Int)) = true := by rw [decide_eq_true_eq]; omega
        have hN := hD.out.last hP.out (.inl hq) (by omega)
        have e15 : (q : Int) - 1 = (Q1 : Nat) := by rw [hQ1.out, ← hN]; omega
        clear hN
        clear hq hr
        clear hpos
        go_wp2_with fail
        go_loop [18, 16] (fun q r => ∃ qn rn : Nat, q = .int .u64 qn ∧ r = .int .u64 rn ∧ Knuth.Dig u2 d0 a b qn rn) (fun q _ => (intOf q).toNat)
        case atStart => exact ⟨_, _, rfl, rfl, hst2.out⟩
        case round =>
          obtain ⟨q, r, rfl, rfl, hD'⟩ := hrel
          have hD := Lib.hid hD'
          have hq1 : (q : Int) ≤ 4294967297 := by have := hD'.1; omega
          have hr1 : (r : Int) < 4294967296 := by have := hD'.2.1; omega
          clear hD'
          by_cases hq : 4294967296 ≤ q
          · have c1 : decide ((4294967296 : Int) ≤ (q : Int)) = true := by rw [decide_eq_true_eq]; omega
            have hpos := hD.out.pos hP2.out (.inl hq)
            have hqi : (1 : Int) ≤ q := by omega
            by_cases hr : r + a < 4294967296
            · have c3 : decide ((4294967296 : Int) ≤ (r : Int) + (a : Int)) = false := by rw [decide_eq_false_iff_not]; omega
              have hN := Lib.hid (hD.out.less hP2.out (.inl hq) hr)
              have Hp := Lib.hid hpos; clear hpos
              clear hq hr
              go_wp2
              go_round
              case rel => exact ⟨q - 1, r + a, by rw [Int.ofNat_sub Hp.out]; rfl, by go_num, hN.out⟩
              case measure => simp [intOf]; omega
            · have c3 : decide ((4294967296 : Int) ≤ (r : Int) + (a : Int)) = true := by rw [decide_eq_true_eq]; omega
              have hN := hD.out.last hP2.out (.inl hq) (by omega)
              have e15 : (q : Int) - 1 = (Q0 : Nat) := by rw [hQ0.out, ← hN]; omega
              clear hN
              clear hq hr
              clear hpos
              go_wp2
              go_ret2
              exact ⟨rfl, rfl⟩
          · have c1 : decide ((4294967296 : Int) ≤ (q : Int)) = false := by rw [decide_eq_false_iff_not]; omega
            have hq' : q < 4294967296 := by omega
            clear hq
            obtain ⟨m, hm0⟩ : ∃ m : Nat, m = q * b := ⟨_, rfl⟩
            have hm : IntKind.u64.wrap ((q : Int) * b) = m := by
              rw [IntKind.wrap_u64]; have := Knuth.mul_half hq' hb'.out
              rw [← Int.natCast_mul, ← hm0]; omega
            have Hm := Lib.hid hm0
            clear hm0 hq'
            by_cases ht : 4294967296 * r + d0 < m
            · have c2 : decide (4294967296 * (r : Int) + (d0 : Int) < (m : Int)) = true := by rw [decide_eq_true_eq]; omega
              have hpos := hD.out.pos hP2.out (.inr (by rw [← Hm.out]; omega))
              have hqi : (1 : Int) ≤ q := by omega
              by_cases hr : r + a < 4294967296
              · have c3 : decide ((4294967296 : Int) ≤ (r : Int) + (a : Int)) = false := by rw [decide_eq_false_iff_not]; omega
                have hN := Lib.hid (hD.out.less hP2.out (.inr (by rw [← Hm.out]; omega)) hr)
                have Hp := Lib.hid hpos; clear hpos
                clear ht hr
                go_wp2
                go_round
                case rel => exact ⟨q - 1, r + a, by rw [Int.ofNat_sub Hp.out]; rfl, by go_num, hN.out⟩
                case measure => simp [intOf]; omega
              · have c3 : decide ((4294967296 : Int) ≤ (r : Int) + (a : Int)) = true := by rw [decide_eq_true_eq]; omega
                have hN := hD.out.last hP2.out (.inr (by rw [← Hm.out]; omega)) (by omega)
                have e15 : (q : Int) - 1 = (Q0 : Nat) := by rw [hQ0.out, ← hN]; omega
                clear hN
                clear ht hr
                clear hpos
                go_wp2
                go_ret2
                exact ⟨rfl, rfl⟩
            · have c2 : decide (4294967296 * (r : Int) + (d0 : Int) < (m : Int)) = false := by rw [decide_eq_false_iff_not]; omega
              have hN := hD.out.done hP2.out (by rw [← Hm.out]; omega)
              rw [← hQ0.out] at hN
              subst hN
              clear ht
              go_wp2
              go_ret2
              exact ⟨rfl, rfl⟩
    · have c1 : decide ((4294967296 : Int) ≤ (q : Int)) = false := by rw [decide_eq_false_iff_not]; omega
      have hq' : q < 4294967296 := by omega
      clear hq
      obtain ⟨m, hm0⟩ : ∃ m : Nat, m = q * b := ⟨_, rfl⟩
      have hm : IntKind.u64.wrap ((q : Int) * b) = m := by
        rw [IntKind.wrap_u64]; have := Knuth.mul_half hq' hb'.out
        rw [← Int.natCast_mul, ← hm0]; omega
      have Hm := Lib.hid hm0
      clear hm0 hq'
      by_cases ht : 4294967296 * r + d1 < m
      · have c2 : decide (4294967296 * (r : Int) + (d1 : Int) < (m : Int)) = true := by rw [decide_eq_true_eq]; omega
        have hpos := hD.out.pos hP.out (.inr (by rw [← Hm.out]; omega))
        have hqi : (1 : Int) ≤ q := by omega
        by_cases hr : r + a < 4294967296
        · have c3 : decide ((4294967296 : Int) ≤ (r : Int) + (a : Int)) = false := by rw [decide_eq_false_iff_not]; omega
          have hN := Lib.hid (hD.out.less hP.out (.inr (by rw [← Hm.out]; omega)) hr)
          have Hp := Lib.hid hpos; clear hpos
          clear ht hr
          go_wp2
          go_round
          case rel => exact ⟨q - 1, r + a, by rw [Int.ofNat_sub Hp.out]; rfl, by go_num, hN.out⟩
          case measure => simp [intOf]; omega
        · have c3 : decide ((4294967296 : Int) ≤ (r : Int) + (a : Int)) = true := by rw [decide_eq_true_eq]; omega
          have hN := hD.out.last hP.out (.inr (by rw [← Hm.out]; omega)) (by omega)
          have e15 : (q : Int) - 1 = (Q1 : Nat) := by rw [hQ1.out, ← hN]; omega
          clear hN
          clear ht hr
          clear hpos
          go_wp2_with fail
          go_loop [18, 16] (fun q r => ∃ qn rn : Nat, q = .int .u64 qn ∧ r = .int .u64 rn ∧ Knuth.Dig u2 d0 a b qn rn) (fun q _ => (intOf q).toNat)
          case atStart => exact ⟨_, _, rfl, rfl, hst2.out⟩
          case round =>
            obtain ⟨q, r, rfl, rfl, hD'⟩ := hrel
            have hD := Lib.hid hD'
            have hq1 : (q : Int) ≤ 4294967297 := by have := hD'.1; omega
            have hr1 : (r : Int) < 4294967296 := by have := hD'.2.1; omega
            clear hD'
            by_cases hq : 4294967296 ≤ q
            · have c1 : decide ((4294967296 : Int) ≤ (q : Int)) = true := by rw [decide_eq_true_eq]; omega
              have hpos := hD.out.pos hP2.out (.inl hq)
              have hqi : (1 : Int) ≤ q := by omega
              by_cases hr : r + a < 4294967296
              · have c3 : decide ((4294967296 : Int) ≤ (r : Int) + (a : Int)) = false := by rw [decide_eq_false_iff_not]; omega
                have hN := Lib.hid (hD.out.less hP2.out (.inl hq) hr)
                have Hp := Lib.hid hpos; clear hpos
                clear hq hr
                go_wp2
                go_round
                case rel => exact ⟨q - 1, r + a, by rw [Int.ofNat_sub Hp.out]; rfl, by go_num, hN.out⟩
                case measure => simp [intOf]; omega
              · have c3 : decide ((4294967296 : Int) ≤ (r : Int) + (a : Int)) = true := by rw [decide_eq_true_eq]; omega
                have hN := hD.out.last hP2.out (.inl hq) (by omega)
                have e15 : (q : Int) - 1 = (Q0 : Nat) := by rw [hQ0.out, ← hN]; omega
                clear hN
                clear hq hr
                clear hpos
                go_wp2
                go_ret2
                exact ⟨rfl, rfl⟩
            · have c1 : decide ((4294967296 : Int) ≤ (q : Int)) = false := by rw [decide_eq_false_iff_not]; omega
              have hq' : q < 4294967296 := by omega
              clear hq
              obtain ⟨m, hm0⟩ : ∃ m : Nat, m = q * b := ⟨_, rfl⟩
              have hm : IntKind.u64.wrap ((q : Int) * b) = m := by
                rw [IntKind.wrap_u64]; have := Knuth.mul_half hq' hb'.out
                rw [← Int.natCast_mul, ← hm0]; omega
              have Hm := Lib.hid hm0
              clear hm0 hq'
              by_cases ht : 4294967296 * r + d0 < m
              · have c2 : decide (4294967296 * (r : Int) + (d0 : Int) < (m : Int)) = true := by rw [decide_eq_true_eq]; omega
                have hpos := hD.out.pos hP2.out (.inr (by rw [← Hm.out]; omega))
                have hqi : (1 : Int) ≤ q := by omega
                by_cases hr : r + a < 4294967296
                · have c3 : decide ((4294967296 : Int) ≤ (r : Int) + (a : Int)) = false := by rw [decide_eq_false_iff_not]; omega
                  have hN := Lib.hid (hD.out.less hP2.out (.inr (by rw [← Hm.out]; omega)) hr)
                  have Hp := Lib.hid hpos; clear hpos
                  clear ht hr
                  go_wp2
                  go_round
                  case rel => exact ⟨q - 1, r + a, by rw [Int.ofNat_sub Hp.out]; rfl, by go_num, hN.out⟩
                  case measure => simp [intOf]; omega
                · have c3 : decide ((4294967296 : Int) ≤ (r : Int) + (a : Int)) = true := by rw [decide_eq_true_eq]; omega
                  have hN := hD.out.last hP2.out (.inr (by rw [← Hm.out]; omega)) (by omega)
                  have e15 : (q : Int) - 1 = (Q0 : Nat) := by rw [hQ0.out, ← hN]; omega
                  clear hN
                  clear ht hr
                  clear hpos
                  go_wp2
                  go_ret2
                  exact ⟨rfl, rfl⟩
              · have c2 : decide (4294967296 * (r : Int) + (d0 : Int) < (m : Int)) = false := by rw [decide_eq_false_iff_not]; omega
                have hN := hD.out.done hP2.out (by rw [← Hm.out]; omega)
                rw [← hQ0.out] at hN
                subst hN
                clear ht
                go_wp2
                go_ret2
                exact ⟨rfl, rfl⟩
      · have c2 : decide (4294967296 * (r : Int) + (d1 : Int) < (m : Int)) = false := by rw [decide_eq_false_iff_not]; omega
        have hN := hD.out.done hP.out (by rw [← Hm.out]; omega)
        rw [← hQ1.out] at hN
        subst hN
        clear ht
        go_wp2_with fail
        go_loop [18, 16] (fun q r => ∃ qn rn : Nat, q = .int .u64 qn ∧ r = .int .u64 rn ∧ Knuth.Dig u2 d0 a b qn rn) (fun q _ => (intOf q).toNat)
        case atStart => exact ⟨_, _, rfl, rfl, hst2.out⟩
        case round =>
          obtain ⟨q, r, rfl, rfl, hD'⟩ := hrel
          have hD := Lib.hid hD'
          have hq1 : (q : Int) ≤ 4294967297 := by have := hD'.1; omega
          have hr1 : (r : Int) < 4294967296 := by have := hD'.2.1; omega
          clear hD'
          by_cases hq : 4294967296 ≤ q
          · have c1 : decide ((4294967296 : Int) ≤ (q : Int)) = true := by rw [decide_eq_true_eq]; omega
            have hpos := hD.out.pos hP2.out (.inl hq)
            have hqi : (1 : Int) ≤ q := by omega
            by_cases hr : r + a < 4294967296
            · have c3 : decide ((4294967296 : Int) ≤ (r : Int) + (a : Int)) = false := by rw [decide_eq_false_iff_not]; omega
              have hN := Lib.hid (hD.out.less hP2.out (.inl hq) hr)
              have Hp := Lib.hid hpos; clear hpos
              clear hq hr
              go_wp2
              go_round
              case rel => exact ⟨q - 1, r + a, by rw [Int.ofNat_sub Hp.out]; rfl, by go_num, hN.out⟩
              case measure => simp [intOf]; omega
            · have c3 : decide ((4294967296 : Int) ≤ (r : Int) + (a : Int)) = true := by rw [decide_eq_true_eq]; omega
              have hN := hD.out.last hP2.out (.inl hq) (by omega)
              have e15 : (q : Int) - 1 = (Q0 : Nat) := by rw [hQ0.out, ← hN]; omega
              clear hN
              clear hq hr
              clear hpos
              go_wp2
              go_ret2
              exact ⟨rfl, rfl⟩
          · have c1 : decide ((4294967296 : Int) ≤ (q : Int)) = false := by rw [decide_eq_false_iff_not]; omega
            have hq' : q < 4294967296 := by omega
            clear hq
            obtain ⟨m, hm0⟩ : ∃ m : Nat, m = q * b := ⟨_, rfl⟩
            have hm : IntKind.u64.wrap ((q : Int) * b) = m := by
              rw [IntKind.wrap_u64]; have := Knuth.mul_half hq' hb'.out
              rw [← Int.natCast_mul, ← hm0]; omega
            have Hm := Lib.hid hm0
            clear hm0 hq'
            by_cases ht : 4294967296 * r + d0 < m
            · have c2 : decide (4294967296 * (r : Int) + (d0 : Int) < (m : Int)) = true := by rw [decide_eq_true_eq]; omega
              have hpos := hD.out.pos hP2.out (.inr (by rw [← Hm.out]; omega))
              have hqi : (1 : Int) ≤ q := by omega
              by_cases hr : r + a < 4294967296
              · have c3 : decide ((4294967296 : Int) ≤ (r : Int) + (a : Int)) = false := by rw [decide_eq_false_iff_not]; omega
                have hN := Lib.hid (hD.out.less hP2.out (.inr (by rw [← Hm.out]; omega)) hr)
                have Hp := Lib.hid hpos; clear hpos
                clear ht hr
                go_wp2
                go_round
                case rel => exact ⟨q - 1, r + a, by rw [Int.ofNat_sub Hp.out]; rfl, by go_num, hN.out⟩
                case measure => simp [intOf]; omega
              · have c3 : decide ((4294967296 : Int) ≤ (r : Int) + (a : Int)) = true := by rw [decide_eq_true_eq]; omega
                have hN := hD.out.last hP2.out (.inr (by rw [← Hm.out]; omega)) (by omega)
                have e15 : (q : Int) - 1 = (Q0 : Nat) := by rw [hQ0.out, ← hN]; omega
                clear hN
                clear ht hr
                clear hpos
                go_wp2
                go_ret2
                exact ⟨rfl, rfl⟩
            · have c2 : decide (4294967296 * (r : Int) + (d0 : Int) < (m : Int)) = false := by rw [decide_eq_false_iff_not]; omega
              have hN := hD.out.done hP2.out (by rw [← Hm.out]; omega)
              rw [← hQ0.out] at hN
              subst hN
              clear ht
              go_wp2
              go_ret2
              exact ⟨rfl, rfl⟩
end Go.Proofs.YthimnjegacdhaaaGreatDoor

/- math/bits.Div64: the contract, for all arguments whose quotient fits: the exact quotient and the rest. -/
namespace Go.Proofs.YthimnjegacdhaaaGreatDoor
open Go.RowKit

theorem bitLen_spec : ∀ (n x : Nat), x ≤ n → x ≠ 0 → x < 2 ^ 64 → 1 ≤ Lib.bitLen x ∧ 2 ^ (Lib.bitLen x - 1) ≤ x ∧ x < 2 ^ Lib.bitLen x
  | 0, x, h, h0, _ => absurd (Nat.le_zero.1 h) h0
  | n + 1, x, h, h0, hx => by
    rw [Lib.bitLen_half x h0 hx]
    by_cases h1 : x / 2 = 0
    · have : x = 1 := by omega
      subst this
      decide
    · have ⟨i1, i2, i3⟩ := bitLen_spec n (x / 2) (by omega) h1 (by omega)
      refine ⟨by omega, ?_, ?_⟩
      · obtain ⟨k, hk⟩ : ∃ k, Lib.bitLen (x / 2) = k + 1 := ⟨Lib.bitLen (x / 2) - 1, by omega⟩
        rw [hk] at i2 ⊢
        rw [show 1 + (k + 1) - 1 = k + 1 by omega, Nat.pow_succ]
        rw [Nat.add_sub_cancel] at i2
        omega
      · rw [Nat.add_comm, Nat.pow_succ]; omega
theorem bitLen_le {x : Nat} (h0 : x ≠ 0) (hx : x < 2 ^ 64) : Lib.bitLen x ≤ 64 := by
  have ⟨_, h2, _⟩ := bitLen_spec x x (Nat.le_refl _) h0 hx
  rcases Nat.lt_or_ge 64 (Lib.bitLen x) with h | h
  · have : 2 ^ 64 ≤ 2 ^ (Lib.bitLen x - 1) := Nat.pow_le_pow_right (by omega) (by omega)
    omega
  · exact h

theorem wrap_nat {n : Nat} (h : n < 18446744073709551616) : IntKind.u64.wrap (n : Int) = n := by rw [IntKind.wrap_u64]; omega

theorem cast_pow2 (s : Nat) : ((2 ^ s : Nat) : Int) = (2 : Int) ^ s := by rw [Int.natCast_pow]; rfl

/-- the rest of a digit's step, as the walk reckons it -/
theorem step_rest {u d q Y r : Nat} (h : Y * q + r = u * 4294967296 + d) (hr : r < 18446744073709551616) :
    IntKind.u64.wrap (IntKind.u64.wrap (IntKind.u64.wrap ((u : Int) * 4294967296) + d) - IntKind.u64.wrap ((q : Int) * Y)) = r := by
  have h' : (q : Int) * Y + r = u * 4294967296 + d := by
    have := congrArg (fun n : Nat => (n : Int)) h
    simp only [Int.natCast_add, Int.natCast_mul] at this
    rw [Int.mul_comm]; exact this
  generalize (q : Int) * Y = C at *
  simp only [IntKind.wrap_u64]; omega

theorem rest_wrap {u a : Nat} (hu : u < 18446744073709551616) : IntKind.u64.wrap (u - IntKind.u64.wrap (((u / a : Nat) : Int) * a)) = (u % a : Nat) := by
  have h := Nat.div_add_mod u a
  rw [← Int.natCast_mul]
  have hm : u / a * a ≤ u := Nat.div_mul_le_self u a
  rw [wrap_nat (show u / a * a < _ by omega), IntKind.wrap_u64]
  rw [Nat.mul_comm] at h
  omega

theorem div64_nat (hi lo y : Nat) (w : World) (h1 : 1 ≤ hi) (hy : hi < y) (hL : lo < 18446744073709551616) (hY : y < 18446744073709551616) :
    Calls Tryz.prog 58 #[.int .u64 hi, .int .u64 lo, .int .u64 y] w fun e w' =>
      e = .returned (.tuple #[.int .u64 ((hi * 18446744073709551616 + lo) / y : Nat), .int .u64 ((hi * 18446744073709551616 + lo) % y : Nat)]) ∧ w' = w := by
  obtain ⟨hB1, hB2, hB3⟩ := bitLen_spec y y (Nat.le_refl _) (by omega) hY
  have hB4 := bitLen_le (x := y) (by omega) hY
  obtain ⟨s, hs⟩ : ∃ s, s = 64 - Lib.bitLen y := ⟨_, rfl⟩
  have hP : 0 < 2 ^ s := Nat.two_pow_pos s
  have hPP : 2 ^ (64 - s) * 2 ^ s = 18446744073709551616 := by rw [← Nat.pow_add, show 64 - s + s = 64 by omega]
  -- the divisor
  have hY1 : 9223372036854775808 ≤ y * 2 ^ s := by
    have : 2 ^ (Lib.bitLen y - 1) * 2 ^ s ≤ y * 2 ^ s := Nat.mul_le_mul_right _ hB2
    rw [← Nat.pow_add, show Lib.bitLen y - 1 + s = 63 by omega] at this
    omega
  have hY2 : y * 2 ^ s < 18446744073709551616 := by
    have : y * 2 ^ s < 2 ^ Lib.bitLen y * 2 ^ s := Nat.mul_lt_mul_of_pos_right hB3 hP
    rw [← Nat.pow_add, show Lib.bitLen y + s = 64 by omega] at this
    omega
  generalize hYe : y * 2 ^ s = Y at *
  have hhi : hi * 2 ^ s < 18446744073709551616 := by
    have : hi * 2 ^ s ≤ y * 2 ^ s := Nat.mul_le_mul_right _ (Nat.le_of_lt hy)
    omega
  have hlo : lo / 2 ^ (64 - s) < 2 ^ s := by
    rw [Nat.div_lt_iff_lt_mul (Nat.two_pow_pos _), Nat.mul_comm, hPP]; exact hL
  -- the dividend
  have hsplit : lo * 2 ^ s = lo / 2 ^ (64 - s) * 18446744073709551616 + lo * 2 ^ s % 18446744073709551616 := by
    have h := Nat.div_add_mod (lo * 2 ^ s) 18446744073709551616
    have e : lo * 2 ^ s / 18446744073709551616 = lo / 2 ^ (64 - s) := by
      rw [← hPP, Nat.mul_div_mul_right _ _ hP]
    rw [e] at h
    omega
  generalize hl : lo * 2 ^ s % 18446744073709551616 = l at *
  have hl2 : l < 18446744073709551616 := by rw [← hl]; exact Nat.mod_lt _ (by omega)
  obtain ⟨u, hu⟩ : ∃ u, u = hi * 2 ^ s + lo / 2 ^ (64 - s) := ⟨_, rfl⟩
  have hN : (hi * 18446744073709551616 + lo) * 2 ^ s = (u * 4294967296 + l / 4294967296) * 4294967296 + l % 4294967296 := by
    rw [Nat.add_mul, hsplit, hu]
    have : hi * 18446744073709551616 * 2 ^ s = hi * 2 ^ s * 18446744073709551616 := by rw [Nat.mul_right_comm]
    omega
  have huY : u < Y := by
    have h2 : (hi * 18446744073709551616 + lo) * 2 ^ s < Y * 18446744073709551616 := by
      have h3 : hi * 18446744073709551616 + lo < y * 18446744073709551616 := by omega
      have h4 := Nat.mul_lt_mul_of_pos_right h3 hP
      rw [Nat.mul_right_comm y, hYe] at h4
      exact h4
    omega
  have hl3 : l / 4294967296 < 4294967296 := by omega
  generalize hd1 : l / 4294967296 = d1 at *
  generalize hd0 : l % 4294967296 = d0 at *
  have hd0' : d0 < 4294967296 := by omega
  generalize ha : Y / 4294967296 = a at *
  generalize hb : Y % 4294967296 = b at *
  have hb' : b < 4294967296 := by omega
  have hYab : a * 4294967296 + b = Y := by omega
  have ha1 : 2147483648 ≤ a := by omega
  have ha2 : a < 4294967296 := by omega
  have hPar : Knuth.Par u d1 a b := ⟨by omega, hl3, ha1, ha2, hb'⟩
  obtain ⟨Q1, u2, Q0, r2, hQ1, hQ0, c1, c2, hu2, hr2, hq, hr⟩ := Knuth.digits hYe (by omega) hN
  rw [hq, hr]
  have hlt := Knuth.dig_lt hPar
  rw [hYab, ← hQ1] at hlt
  have hPar2 : Knuth.Par u2 d0 a b := ⟨by omega, hd0', ha1, ha2, hb'⟩
  have hlt2 := Knuth.dig_lt hPar2
  rw [hYab, ← hQ0] at hlt2
  obtain ⟨qh, rh, g1, g2, f1, m1, hD⟩ := Knuth.start hPar
  obtain ⟨qh2, rh2, g3, g4, f2, m2, hD2⟩ := Knuth.start hPar2
  have w1 := rest_wrap (u := u) (a := a) (by omega)
  have w2 := rest_wrap (u := u2) (a := a) (by omega)
  have v1 := (Int.natCast_ediv u a).symm
  have v2 := (Int.natCast_ediv u2 a).symm
  rw [← g1] at v1 w1
  rw [← g2] at w1
  rw [← g3] at v2 w2
  rw [← g4] at w2
  have s1 := step_rest c1 (by omega)
  have s2 := step_rest c2 (by omega)
  refine div64_high hi lo y s Y a b u l d1 d0 u2 qh rh qh2 rh2 _ _ Q1 Q0 w
    (by omega) (by omega) (by omega) (Lib.hid (by rw [Int.toNat_natCast]; omega)) (by omega)
    ?e1 (by omega) ?e3 ?e4 ?e5 (by omega) ?e7 v1 w1 (Lib.hid hD)
    s1 v2 w2 (Lib.hid hD2) ?e13 ?e14 (Lib.hid hPar) (Lib.hid hPar2) (Lib.hid (by rw [hYab]; exact hQ1)) (Lib.hid (by rw [hYab]; exact hQ0))
    (by omega) (by omega) (Lib.hid hb') (by omega) (by omega) (by omega) (by omega) (by omega) (by omega) (by omega) (by omega) (by omega)
  case e1 => rw [← cast_pow2, ← Int.natCast_mul, hYe]; exact wrap_nat hY2
  case e3 => rw [show (4294967295 : Int) = ((4294967295 : Nat) : Int) from rfl, bits_and_u64_nat _ _ hY2 (by omega), show (4294967295 : Nat) = 2 ^ 32 - 1 from rfl, Nat.and_two_pow_sub_one_eq_mod]; omega
  case e4 =>
    rw [← cast_pow2, ← cast_pow2, ← Int.natCast_mul, wrap_nat hhi, ← Int.natCast_ediv, bits_or_u64_nat _ _ hhi (by omega), hu, Nat.mul_comm hi, Nat.two_pow_add_eq_or_of_lt hlo]
  case e5 => rw [← cast_pow2, ← Int.natCast_mul, IntKind.wrap_u64]; omega
  case e7 => rw [show (4294967295 : Int) = ((4294967295 : Nat) : Int) from rfl, bits_and_u64_nat _ _ hl2 (by omega), show (4294967295 : Nat) = 2 ^ 32 - 1 from rfl, Nat.and_two_pow_sub_one_eq_mod]; omega
  case e13 => rw [IntKind.wrap_u64, IntKind.wrap_u64]; omega
  case e14 => rw [s2, ← cast_pow2, ← Int.natCast_ediv]
end Go.Proofs.YthimnjegacdhaaaGreatDoor

/- Scale: of the program and of the reference: both return 'Sc.sc'. -/
namespace Go.Proofs.YthimnjegacdhaaaGreatDoor
open Go.RowKit

theorem div64_any (hi lo y : Nat) (w : World) (hy : hi < y) (hL : lo < 18446744073709551616) (hY : y < 18446744073709551616) :
    Calls Tryz.prog 58 #[.int .u64 hi, .int .u64 lo, .int .u64 y] w fun e w' =>
      e = .returned (.tuple #[.int .u64 ((hi * 18446744073709551616 + lo) / y : Nat), .int .u64 ((hi * 18446744073709551616 + lo) % y : Nat)]) ∧ ∃ n, w' = w.drewN n := by
  by_cases h : hi = 0
  · subst h
    refine (div64_low lo y w (by omega) (by omega) (by omega)).mono ?_
    rintro e w' ⟨rfl, h⟩
    refine ⟨?_, h⟩
    simp only [Nat.zero_mul, Nat.zero_add, Int.natCast_ediv, Int.natCast_emod]
  · refine (div64_nat hi lo y w (by omega) hy hL hY).mono ?_
    rintro e w' ⟨rfl, rfl⟩
    exact ⟨rfl, 0, rfl⟩

/-- where a way of rounding stands in the table -/
def wayAt (how : Int) : Int := if 1 ≤ how ∧ how ≤ 5 then how - 1 else -1
def HasRow (w : World) (R : Nat) : Prop := ∀ j, j < 10 → w.cell? ⟨R, j, none⟩ = some (wayRow.getD j undef)
theorem HasRow.at {w w' : World} {R B : Nat} (h : HasRow w R) (hb : Below B w w') (hR : R < B) : HasRow w' R := fun j hj => (hb.cell (p := ⟨R, j, none⟩) hR).trans (h j hj)

set_option maxHeartbeats 400000 in
theorem index_any (R H : Nat) (how : Int) (w : World) (hr : HasRow w R) (hh : w.cell? ⟨H, 0, none⟩ = some (.int .i64 how)) (hR : R < w.heap.size) (hH : H < w.heap.size) :
    Calls Tryz.prog 55 #[.slice (some ⟨R, 0, none⟩) 5 5, .func (.func 56) #[] #[.pointer (some ⟨H, 0, none⟩)]] w fun e w' => e = .returned (.int .i64 (wayAt how)) ∧ Below w.heap.size w w' := by
  go_enter Tryz.func55, Tryz.ntmps55
  go_wp2_with fail
  go_loopw [8] (fun i wr => ∃ k : Nat, k ≤ 5 ∧ i = .int .i64 k ∧ (∀ j : Nat, j < k → (j : Int) + 1 ≠ how) ∧ Below w.heap.size w wr) (fun i _ => 5 - (intOf i).toNat)
  case atStart => exact ⟨0, by omega, rfl, fun j hj => by omega, Below.refl _ _⟩
  case round =>
    obtain ⟨k, hk, rfl, hno, hb⟩ := hrel
    have Hno := Lib.hid hno
    clear hno
    by_cases h5 : k = 5
    · subst h5
      go_wp2
      go_ret
      refine ⟨ret_int ?_, hb⟩
      unfold wayAt; rw [if_neg]
      intro ⟨h1, h2⟩
      exact Hno.out (how - 1).toNat (by omega) (by omega)
    · have hr' := hr.at hb hR
      have hh' := (hb.cell (p := ⟨H, 0, none⟩) hH).trans hh
      have hsz := hb.size
      have c0 := hr' (k * 2) (by omega)
      have c1 := hr' (k * 2 + 1) (by omega)
      clear hr' hr
      obtain ⟨f, e0, e1⟩ : ∃ f, wayRow.getD (k * 2) undef = .int .i64 ((k : Int) + 1) ∧ wayRow.getD (k * 2 + 1) undef = fnv f := by
        rcases (show k = 0 ∨ k = 1 ∨ k = 2 ∨ k = 3 ∨ k = 4 by omega) with rfl | rfl | rfl | rfl | rfl
        all_goals exact ⟨_, rfl, rfl⟩
      rw [e0] at c0; rw [e1] at c1
      unfold fnv at c1
      clear e0 e1
      go_wp2_with fail
      refine (has_any _ how _ _ wr hh' (by exact Nat.lt_of_lt_of_le hH hsz)).mono ?_
      rintro e w1 ⟨rfl, hb1⟩
      have hb2 := hb.trans (hb1.mono hsz)
      by_cases hd : (k : Int) + 1 = how
      · have hd' : ((k : Int) + 1 == how) = true := by simpa using hd
        have Hd := Lib.hid hd
        clear hd
        go_wp2
        go_ret
        refine ⟨ret_int ?_, hb2⟩
        have := Hd.out
        unfold wayAt; rw [if_pos (by omega)]; show (k : Int) = _; omega
      · have hd' : ((k : Int) + 1 == how) = false := by simpa using hd
        have Hd := Lib.hid hd
        clear hd
        go_wp2
        go_roundw
        case rel =>
          refine ⟨k + 1, by omega, by go_num, fun j hj => ?_, hb2⟩
          rcases Nat.lt_or_ge j k with h | h
          · exact Hno.out j h
          · rw [show j = k by omega]; exact Hd.out
        case measure => simp [intOf]; omega

/-- what the functions of the table return -/
def wayF (how : Int) (b : Bool) (q h : Int) : Bool :=
  if how = 1 then b else if how = 2 then !b else if how = 3 then false else if how = 4 then decide (0 < h) || (h == 0 && !b) else decide (0 < h) || (h == 0 && (q % 2 == 1))
theorem wayF_away (how : Int) (b : Bool) (q r d : Nat) : wayF how b q (cmpF r ((d : Int) - r)) = Sc.away how b q r d := by
  have e1 : (0 < cmpF (r : Int) ((d : Int) - r)) ↔ d < 2 * r := by unfold cmpF; split <;> (try split) <;> omega
  have e2 : (cmpF (r : Int) ((d : Int) - r) = 0) ↔ 2 * r = d := by unfold cmpF; split <;> (try split) <;> omega
  have e3 : ((q : Int) % 2 = 1) ↔ q % 2 = 1 := by omega
  have e4 : (cmpF (r : Int) ((d : Int) - r) == 0) = decide (2 * r = d) := by rw [Bool.eq_iff_iff, beq_iff_eq, decide_eq_true_eq]; exact e2
  have e5 : ((q : Int) % 2 == 1) = decide (q % 2 = 1) := by rw [Bool.eq_iff_iff, beq_iff_eq, decide_eq_true_eq]; exact e3
  unfold wayF Sc.away
  rw [decide_eq_decide.2 e1, e4, e5]
theorem way_any (k : Nat) (hk : k < 5) : ∃ f, wayRow.getD (k * 2) undef = .int .i64 ((k : Int) + 1) ∧ wayRow.getD (k * 2 + 1) undef = fnv f ∧ (∀ args w, Sem.run Tryz.prog (callFunc f args) w = .ok (.enter f args) w) ∧
    ∀ (b : Bool) (q h : Int) (w : World), 0 ≤ q → Calls Tryz.prog f #[.bool b, .int .u64 q, .int .i64 h] w fun e w' => e = .returned (.bool (wayF ((k : Int) + 1) b q h)) ∧ w = w' := by
  rcases (show k = 0 ∨ k = 1 ∨ k = 2 ∨ k = 3 ∨ k = 4 by omega) with rfl | rfl | rfl | rfl | rfl
  · exact ⟨_, rfl, rfl, fun _ _ => by kernel_rfl, fun b q h w _ => way1 b q h w⟩
  · exact ⟨_, rfl, rfl, fun _ _ => by kernel_rfl, fun b q h w _ => way2 b q h w⟩
  · exact ⟨_, rfl, rfl, fun _ _ => by kernel_rfl, fun b q h w _ => way3 b q h w⟩
  · exact ⟨_, rfl, rfl, fun _ _ => by kernel_rfl, fun b q h w _ => way4 b q h w⟩
  · exact ⟨_, rfl, rfl, fun _ _ => by kernel_rfl, fun b q h w hq => way5 b q h w hq⟩
theorem quiet_eq {P : Program} {f : FuncId} {args : Array Value} {w : World} {n : Nat} {v : Value}
    (h : Calls P f args (w.drewN n) fun e w' => e = .returned v ∧ w.drewN n = w') : Calls P f args (w.drewN n) fun e w'' => e = .returned v ∧ ∃ m, w'' = w.drewN m :=
  h.mono fun _ _ ⟨he, hm⟩ => ⟨he, n, hm.symm⟩
theorem below_drewN {B : Nat} {a w : World} (h : Below B a w) (n : Nat) : Below B a (w.drewN n) := h.trans ⟨rfl, rfl, rfl, Nat.le_refl _, fun _ _ => rfl⟩
end Go.Proofs.YthimnjegacdhaaaGreatDoor

/- Scale of the program returns 'Sc.sc'. -/
namespace Go.Proofs.YthimnjegacdhaaaGreatDoor
open Go.RowKit Go.BigFrame

def scRet (p : Int × Int) : Ending := .returned (.tuple #[.int .i64 p.1, .int .i64 p.2])
theorem hasRow_new (w : World) (o : Obj) : HasRow ((w.alloc o).alloc (.cells wayRow 77)) (w.heap.size + 1) := by
  intro j hj
  rw [World.cell?_alloc_at _ _ _ _ (by simp)]
  rcases (show j = 0 ∨ j = 1 ∨ j = 2 ∨ j = 3 ∨ j = 4 ∨ j = 5 ∨ j = 6 ∨ j = 7 ∨ j = 8 ∨ j = 9 by omega) with rfl | rfl | rfl | rfl | rfl | rfl | rfl | rfl | rfl | rfl <;> rfl
theorem how_new (w : World) (how : Int) (o : Obj) : ((w.alloc (.cells #[.int .i64 how] 3)).alloc o).cell? ⟨w.heap.size, 0, none⟩ = some (.int .i64 how) := by
  rw [World.cell?_alloc_past _ _ _ (by simp), World.cell?_alloc_at _ _ _ _ rfl]; rfl
theorem below_two (w : World) (o o' : Obj) : Below w.heap.size w ((w.alloc o).alloc o') := ((Below.refl _ _).alloc (Nat.le_refl _) o).alloc (by simp) o'

set_option maxHeartbeats 400000 in
theorem scale_kind (a num den how : Int) (w : World) (h : how < 1 ∨ 5 < how) :
    Calls Tryz.prog 25 #[.int .i64 a, .int .i64 num, .int .i64 den, .int .i64 how] w fun e w' => e = scRet (0, 7) ∧ Below w.heap.size w w' := by
  have hw : wayAt how = -1 := by unfold wayAt; rw [if_neg (by omega)]
  have hmf : ∀ (fn : Fn) (first cap : Array Value) (w : World), (Instr.makeFunc fn first cap).run Tryz.prog w = .ok (.func fn first cap) w := fun _ _ _ _ => rfl
  go_enter Tryz.func25, Tryz.ntmps25
  go_wp2_with fail
  refine (ways_any _).mono ?_
  rintro e w1 ⟨rfl, rfl⟩
  go_wp2_with fail
  refine (index_any _ _ how _ (hasRow_new w _) (how_new w how _) (by simp) (by simp; omega)).mono ?_
  rintro e w1 ⟨rfl, hb⟩
  rw [hw]
  have hb' := (below_two w _ _).trans (hb.mono (by simp; omega))
  clear hb
  go_wp2
  go_ret2
  exact ⟨rfl, hb'⟩
set_option maxHeartbeats 400000 in
theorem scale_arg (a num den how : Int) (w : World) (h1 : 1 ≤ how) (h5 : how ≤ 5) (h : den ≤ 0 ∨ num < 0) :
    Calls Tryz.prog 25 #[.int .i64 a, .int .i64 num, .int .i64 den, .int .i64 how] w fun e w' => e = scRet (0, 1) ∧ Below w.heap.size w w' := by
  have hw : wayAt how = how - 1 := by unfold wayAt; rw [if_pos ⟨h1, h5⟩]
  have hmf : ∀ (fn : Fn) (first cap : Array Value) (w : World), (Instr.makeFunc fn first cap).run Tryz.prog w = .ok (.func fn first cap) w := fun _ _ _ _ => rfl
  have hk : decide (how - 1 < 0) = false := by rw [decide_eq_false_iff_not]; omega
  by_cases hd : den ≤ 0
  all_goals
    go_enter Tryz.func25, Tryz.ntmps25
    go_wp2_with fail
    refine (ways_any _).mono ?_
    rintro e w1 ⟨rfl, rfl⟩
    go_wp2_with fail
    refine (index_any _ _ how _ (hasRow_new w _) (how_new w how _) (by simp) (by simp; omega)).mono ?_
    rintro e w1 ⟨rfl, hb⟩
    rw [hw]
    have hb' := (below_two w _ _).trans (hb.mono (by simp; omega))
    clear hb hw
  · go_wp2
    go_ret2
    exact ⟨rfl, hb'⟩
  · have hd2 : decide (den ≤ 0) = false := by rw [decide_eq_false_iff_not]; omega
    have hn2 : decide (num < 0) = true := by rw [decide_eq_true_eq]; omega
    clear h hd
    go_wp2
    go_ret2
    exact ⟨rfl, hb'⟩

/-- the number without its sign, as the program makes it -/
theorem neg_wrap {a : Int} (h : a < 0) (h1 : -9223372036854775808 ≤ a) : IntKind.u64.wrap (-IntKind.u64.wrap a) = (a.natAbs : Int) := by
  simp only [IntKind.wrap_u64]; omega

theorem fin_ok {a num den how v : Int} {S : Bool} {q r d Q : Nat}
    (h : Sc.sc a num den how = if 4611686018427387904 < Sc.quo how S q r d then (0, 9) else (Sc.sgn S (Sc.quo how S q r d), 0))
    (hQ : Sc.quo how S q r d = Q) (hl : (Q : Int) ≤ 4611686018427387904) (hv : v = Sc.sgn S Q) :
    Ending.returned (.tuple #[.int .i64 v, .int .i64 0]) = scRet (Sc.sc a num den how) := by
  rw [h, hQ, if_neg (by omega), hv]; rfl
theorem fin_big {a num den how : Int} {S : Bool} {q r d Q : Nat}
    (h : Sc.sc a num den how = if 4611686018427387904 < Sc.quo how S q r d then (0, 9) else (Sc.sgn S (Sc.quo how S q r d), 0))
    (hQ : Sc.quo how S q r d = Q) (hl : 4611686018427387904 < (Q : Int)) :
    Ending.returned (.tuple #[.int .i64 0, .int .i64 9]) = scRet (Sc.sc a num den how) := by
  rw [h, hQ, if_pos (by omega)]; rfl
theorem quo_rest0 (how : Int) (S : Bool) (q d : Nat) : Sc.quo how S q 0 d = q := by simp [Sc.quo]
theorem quo_stay {how : Int} {S : Bool} {q r d : Nat} (h : Sc.away how S q r d = false) : Sc.quo how S q r d = q := by simp [Sc.quo, h]
theorem quo_up {how : Int} {S : Bool} {q r d : Nat} (h0 : 0 < r) (h : Sc.away how S q r d = true) : Sc.quo how S q r d = q + 1 := by simp [Sc.quo, h, h0]

set_option maxHeartbeats 2000000 in
set_option maxRecDepth 100000 in
/-- the product's quotient fits one word -/
theorem scale_neg (a how : Int) (num den hi lo q r k A : Nat) (w : World) (hk : Hid (how = (k : Int) + 1)) (hk5 : k < 5) (hd : 1 ≤ den) (hD : (den : Int) ≤ 9223372036854775807) (hM : (num : Int) ≤ 9223372036854775807)
    (hs : a < 0) (_ha1 : -9223372036854775808 ≤ a) (hneg : IntKind.u64.wrap (-IntKind.u64.wrap a) = (A : Int))
    (hhi' : ((A * num / 18446744073709551616 : Nat) : Int) = hi) (hlo' : ((A * num % 18446744073709551616 : Nat) : Int) = lo) (hlt : (hi : Int) < den)
    (hq' : (((hi * 18446744073709551616 + lo) / den : Nat) : Int) = q) (hr' : (((hi * 18446744073709551616 + lo) % den : Nat) : Int) = r) (hr0 : (r : Int) < den) (_hlo2 : (lo : Int) ≤ 18446744073709551615) (hq2 : (q : Int) ≤ 18446744073709551615) (hA : (A : Int) ≤ 9223372036854775808)
    (hfin : Hid (Sc.sc a num den how = if 4611686018427387904 < Sc.quo how true q r den then (0, 9) else (Sc.sgn true (Sc.quo how true q r den), 0))) :
    Calls Tryz.prog 25 #[.int .i64 a, .int .i64 num, .int .i64 den, .int .i64 how] w fun e w' => e = scRet (Sc.sc a num den how) ∧ Below w.heap.size w w' := by
  have hw : wayAt how = (k : Int) := by have := hk.out; unfold wayAt; rw [if_pos (by omega)]; omega
  have hmf : ∀ (fn : Fn) (first cap : Array Value) (w : World), (Instr.makeFunc fn first cap).run Tryz.prog w = .ok (.func fn first cap) w := fun _ _ _ _ => rfl
  have b1 : decide ((den : Int) ≤ 0) = false := by rw [decide_eq_false_iff_not]; omega
  have b2 : decide ((den : Int) ≤ hi) = false := by rw [decide_eq_false_iff_not]; omega
  have hmul := Lib.hid (Go.Proofs.Tryz.bits_Mul64 A num)
  have hdiv := Lib.hid (div64_any hi lo den)
  obtain ⟨f, g0, g1, hcf, hf'⟩ := way_any k hk5
  have hf := Lib.hid hf'
  clear hf'
  unfold fnv at g1
  go_enter Tryz.func25, Tryz.ntmps25
  go_wp2_with fail
  refine (ways_any _).mono ?_
  rintro e w1 ⟨rfl, rfl⟩
  go_wp2_with fail
  refine (index_any _ _ how _ (hasRow_new w _) (how_new w how _) (by simp) (by simp; omega)).mono ?_
  rintro e w1 ⟨rfl, hb⟩
  rw [hw]
  have hrow := (hasRow_new w (.cells #[.int .i64 how] 3)).at hb (by simp)
  have hb' := (below_two w _ _).trans (hb.mono (by simp; omega))
  have hk5i : (k : Int) < 5 := by omega
  have r0 := hrow (k * 2) (by omega)
  have r1 := hrow (k * 2 + 1) (by omega)
  rw [g0] at r0; rw [g1] at r1
  clear hb hw hrow g0 g1
  go_wp2_with fail
  refine (hmul.out (by omega) (by omega) _).mono ?_
  rintro e w2 ⟨rfl, rfl⟩
  rw [hhi', hlo']
  go_wp2_with fail
  refine (hdiv.out _ (by omega) (by omega) (by omega)).mono ?_
  rintro e w3 ⟨rfl, hn⟩
  rw [hq', hr']
  obtain ⟨r0', r1', hb2⟩ : w3.cell? ⟨w.heap.size + 1, k * 2, none⟩ = some (.int .i64 ((k : Int) + 1)) ∧ w3.cell? ⟨w.heap.size + 1, k * 2 + 1, none⟩ = some (.func (.func f) #[] #[]) ∧ Below w.heap.size w w3 := by
    obtain ⟨n, rfl⟩ := hn
    exact ⟨r0, r1, below_drewN hb' n⟩
  have Hb2 := Lib.hid hb2
  clear hn r0 r1 hb' hb2 hmul hdiv hq' hr' hhi' hlo' b2
  by_cases hr1 : r = 0
  · subst hr1
    have hQ := Lib.hid (quo_rest0 how true q den)
    go_wp2_with fail
    go_quiet (fail)
    go_wp2
    all_goals go_ret2
    all_goals refine ⟨?_, below_drewN Hb2.out _⟩
    all_goals first | exact fin_ok hfin.out hQ.out (by assumption) (by simp [Sc.sgn]) | exact fin_big hfin.out hQ.out (by assumption)
  · have c1 : decide ((0 : Int) < (r : Int)) = true := by rw [decide_eq_true_eq]; omega
    have hr1' : 0 < r := by omega
    clear hr1
    by_cases hq3 : q ≤ 4611686018427387904
    · have c2 : decide ((q : Int) ≤ 4611686018427387904) = true := by rw [decide_eq_true_eq]; omega
      have hq3i : (q : Int) ≤ 4611686018427387904 := by omega
      clear hq3
      cases haw : Sc.away how true q r den
      · have hwf : wayF ((k : Int) + 1) true q (cmpF r ((den : Int) - r)) = false := by rw [← hk.out, wayF_away, haw]
        have hQ := Lib.hid (quo_stay haw)
        clear haw
        go_wp2_with fail
        refine wp_region_quiet_lit (by kernel_rfl) (by kernel_rfl) ?_
        repeat (go_big_quiet_step (fail))
        go_big_quiet_want
        go_big_quiet_op
        go_big_quiet_call ((refine (compare_any _ _ _).mono ?_; exact fun _ _ h => ⟨h.1, _, h.2.symm⟩))
        go_big_quiet_want
        go_big_quiet_op
        go_big_quiet_call ((refine (hf.out _ _ _ _ (by omega)).mono ?_; exact fun _ _ h => ⟨h.1, _, h.2.symm⟩))
        repeat (go_big_quiet_step (fail))
        refine wpQuiet_nil ?_
        intro w4 hw4
        obtain ⟨nq, rfl⟩ := hw4
        have c4 : decide (4611686018427387904 < (q : Int)) = false := by rw [decide_eq_false_iff_not]; omega
        clear hk5 hd hr1' hmf hcf hlt
        go_wp2
        go_ret2
        refine ⟨?_, below_drewN Hb2.out _⟩
        exact fin_ok hfin.out hQ.out (by omega) (by simp [Sc.sgn])
      · have hwf : wayF ((k : Int) + 1) true q (cmpF r ((den : Int) - r)) = true := by rw [← hk.out, wayF_away, haw]
        have hQ := Lib.hid (quo_up hr1' haw)
        clear haw
        go_wp2_with fail
        refine wp_region_quiet_lit (by kernel_rfl) (by kernel_rfl) ?_
        repeat (go_big_quiet_step (fail))
        go_big_quiet_want
        go_big_quiet_op
        go_big_quiet_call ((refine (compare_any _ _ _).mono ?_; exact fun _ _ h => ⟨h.1, _, h.2.symm⟩))
        go_big_quiet_want
        go_big_quiet_op
        go_big_quiet_call ((refine (hf.out _ _ _ _ (by omega)).mono ?_; exact fun _ _ h => ⟨h.1, _, h.2.symm⟩))
        repeat (go_big_quiet_step (fail))
        refine wpQuiet_nil ?_
        intro w4 hw4
        obtain ⟨nq, rfl⟩ := hw4
        by_cases hq4 : (q : Int) = 4611686018427387904
        · have c4 : decide (4611686018427387904 < (q : Int) + 1) = true := by rw [decide_eq_true_eq]; omega
          have Hq4 := Lib.hid hq4
          clear hk5 hd hr1' hmf hcf hlt hq4
          go_wp2
          go_ret2
          refine ⟨?_, below_drewN Hb2.out _⟩
          exact fin_big hfin.out hQ.out (by have := Hq4.out; omega)
        · have c4 : decide (4611686018427387904 < (q : Int) + 1) = false := by rw [decide_eq_false_iff_not]; omega
          have hq5 : (q : Int) ≤ 4611686018427387903 := by omega
          clear hk5 hd hr1' hmf hcf hlt hq4 hq3i
          go_wp2
          go_ret2
          refine ⟨?_, below_drewN Hb2.out _⟩
          exact fin_ok hfin.out hQ.out (by omega) (by simp [Sc.sgn]; try omega)
    · have c2 : decide ((q : Int) ≤ 4611686018427387904) = false := by rw [decide_eq_false_iff_not]; omega
      have hq3i : 4611686018427387904 < (q : Int) := by omega
      clear hq3
      go_wp2_with fail
      go_quiet (fail)
      go_wp2
      go_ret2
      refine ⟨?_, below_drewN Hb2.out _⟩
      cases haw : Sc.away how true q r den
      · exact fin_big hfin.out (quo_stay haw) hq3i
      · exact fin_big hfin.out (quo_up hr1' haw) (by omega)
set_option maxHeartbeats 2000000 in
set_option maxRecDepth 100000 in
/-- the product's quotient fits one word -/
theorem scale_pos (how : Int) (num den hi lo q r k A : Nat) (w : World) (hk : Hid (how = (k : Int) + 1)) (hk5 : k < 5) (hd : 1 ≤ den) (hD : (den : Int) ≤ 9223372036854775807) (hM : (num : Int) ≤ 9223372036854775807)
    
    (hhi' : ((A * num / 18446744073709551616 : Nat) : Int) = hi) (hlo' : ((A * num % 18446744073709551616 : Nat) : Int) = lo) (hlt : (hi : Int) < den)
    (hq' : (((hi * 18446744073709551616 + lo) / den : Nat) : Int) = q) (hr' : (((hi * 18446744073709551616 + lo) % den : Nat) : Int) = r) (hr0 : (r : Int) < den) (_hlo2 : (lo : Int) ≤ 18446744073709551615) (hq2 : (q : Int) ≤ 18446744073709551615) (hA : (A : Int) ≤ 9223372036854775807)
    (hfin : Hid (Sc.sc A num den how = if 4611686018427387904 < Sc.quo how false q r den then (0, 9) else (Sc.sgn false (Sc.quo how false q r den), 0))) :
    Calls Tryz.prog 25 #[.int .i64 A, .int .i64 num, .int .i64 den, .int .i64 how] w fun e w' => e = scRet (Sc.sc A num den how) ∧ Below w.heap.size w w' := by
  have hw : wayAt how = (k : Int) := by have := hk.out; unfold wayAt; rw [if_pos (by omega)]; omega
  have hmf : ∀ (fn : Fn) (first cap : Array Value) (w : World), (Instr.makeFunc fn first cap).run Tryz.prog w = .ok (.func fn first cap) w := fun _ _ _ _ => rfl
  have b5 : decide ((A : Int) < 0) = false := by rw [decide_eq_false_iff_not]; omega
  have b1 : decide ((den : Int) ≤ 0) = false := by rw [decide_eq_false_iff_not]; omega
  have b2 : decide ((den : Int) ≤ hi) = false := by rw [decide_eq_false_iff_not]; omega
  have hmul := Lib.hid (Go.Proofs.Tryz.bits_Mul64 A num)
  have hdiv := Lib.hid (div64_any hi lo den)
  obtain ⟨f, g0, g1, hcf, hf'⟩ := way_any k hk5
  have hf := Lib.hid hf'
  clear hf'
  unfold fnv at g1
  go_enter Tryz.func25, Tryz.ntmps25
  go_wp2_with fail
  refine (ways_any _).mono ?_
  rintro e w1 ⟨rfl, rfl⟩
  go_wp2_with fail
  refine (index_any _ _ how _ (hasRow_new w _) (how_new w how _) (by simp) (by simp; omega)).mono ?_
  rintro e w1 ⟨rfl, hb⟩
  rw [hw]
  have hrow := (hasRow_new w (.cells #[.int .i64 how] 3)).at hb (by simp)
  have hb' := (below_two w _ _).trans (hb.mono (by simp; omega))
  have hk5i : (k : Int) < 5 := by omega
  have r0 := hrow (k * 2) (by omega)
  have r1 := hrow (k * 2 + 1) (by omega)
  rw [g0] at r0; rw [g1] at r1
  clear hb hw hrow g0 g1
  go_wp2_with fail
  refine (hmul.out (by omega) (by omega) _).mono ?_
  rintro e w2 ⟨rfl, rfl⟩
  rw [hhi', hlo']
  go_wp2_with fail
  refine (hdiv.out _ (by omega) (by omega) (by omega)).mono ?_
  rintro e w3 ⟨rfl, hn⟩
  rw [hq', hr']
  obtain ⟨r0', r1', hb2⟩ : w3.cell? ⟨w.heap.size + 1, k * 2, none⟩ = some (.int .i64 ((k : Int) + 1)) ∧ w3.cell? ⟨w.heap.size + 1, k * 2 + 1, none⟩ = some (.func (.func f) #[] #[]) ∧ Below w.heap.size w w3 := by
    obtain ⟨n, rfl⟩ := hn
    exact ⟨r0, r1, below_drewN hb' n⟩
  have Hb2 := Lib.hid hb2
  clear hn r0 r1 hb' hb2 hmul hdiv hq' hr' hhi' hlo' b2
  by_cases hr1 : r = 0
  · subst hr1
    have hQ := Lib.hid (quo_rest0 how false q den)
    go_wp2_with fail
    go_quiet (fail)
    go_wp2
    all_goals go_ret2
    all_goals refine ⟨?_, below_drewN Hb2.out _⟩
    all_goals first | exact fin_ok hfin.out hQ.out (by assumption) (by simp [Sc.sgn]) | exact fin_big hfin.out hQ.out (by assumption)
  · have c1 : decide ((0 : Int) < (r : Int)) = true := by rw [decide_eq_true_eq]; omega
    have hr1' : 0 < r := by omega
    clear hr1
    by_cases hq3 : q ≤ 4611686018427387904
    · have c2 : decide ((q : Int) ≤ 4611686018427387904) = true := by rw [decide_eq_true_eq]; omega
      have hq3i : (q : Int) ≤ 4611686018427387904 := by omega
      clear hq3
      cases haw : Sc.away how false q r den
      · have hwf : wayF ((k : Int) + 1) false q (cmpF r ((den : Int) - r)) = false := by rw [← hk.out, wayF_away, haw]
        have hQ := Lib.hid (quo_stay haw)
        clear haw
        go_wp2_with fail
        refine wp_region_quiet_lit (by kernel_rfl) (by kernel_rfl) ?_
        repeat (go_big_quiet_step (fail))
        go_big_quiet_want
        go_big_quiet_op
        go_big_quiet_call ((refine (compare_any _ _ _).mono ?_; exact fun _ _ h => ⟨h.1, _, h.2.symm⟩))
        go_big_quiet_want
        go_big_quiet_op
        go_big_quiet_call ((refine (hf.out _ _ _ _ (by omega)).mono ?_; exact fun _ _ h => ⟨h.1, _, h.2.symm⟩))
        repeat (go_big_quiet_step (fail))
        refine wpQuiet_nil ?_
        intro w4 hw4
        obtain ⟨nq, rfl⟩ := hw4
        have c4 : decide (4611686018427387904 < (q : Int)) = false := by rw [decide_eq_false_iff_not]; omega
        clear hk5 hd hr1' hmf hcf hlt
        go_wp2
        go_ret2
        refine ⟨?_, below_drewN Hb2.out _⟩
        exact fin_ok hfin.out hQ.out (by omega) (by simp [Sc.sgn])
      · have hwf : wayF ((k : Int) + 1) false q (cmpF r ((den : Int) - r)) = true := by rw [← hk.out, wayF_away, haw]
        have hQ := Lib.hid (quo_up hr1' haw)
        clear haw
        go_wp2_with fail
        refine wp_region_quiet_lit (by kernel_rfl) (by kernel_rfl) ?_
        repeat (go_big_quiet_step (fail))
        go_big_quiet_want
        go_big_quiet_op
        go_big_quiet_call ((refine (compare_any _ _ _).mono ?_; exact fun _ _ h => ⟨h.1, _, h.2.symm⟩))
        go_big_quiet_want
        go_big_quiet_op
        go_big_quiet_call ((refine (hf.out _ _ _ _ (by omega)).mono ?_; exact fun _ _ h => ⟨h.1, _, h.2.symm⟩))
        repeat (go_big_quiet_step (fail))
        refine wpQuiet_nil ?_
        intro w4 hw4
        obtain ⟨nq, rfl⟩ := hw4
        by_cases hq4 : (q : Int) = 4611686018427387904
        · have c4 : decide (4611686018427387904 < (q : Int) + 1) = true := by rw [decide_eq_true_eq]; omega
          have Hq4 := Lib.hid hq4
          clear hk5 hd hr1' hmf hcf hlt hq4
          go_wp2
          go_ret2
          refine ⟨?_, below_drewN Hb2.out _⟩
          exact fin_big hfin.out hQ.out (by have := Hq4.out; omega)
        · have c4 : decide (4611686018427387904 < (q : Int) + 1) = false := by rw [decide_eq_false_iff_not]; omega
          have hq5 : (q : Int) ≤ 4611686018427387903 := by omega
          clear hk5 hd hr1' hmf hcf hlt hq4 hq3i
          go_wp2
          go_ret2
          refine ⟨?_, below_drewN Hb2.out _⟩
          exact fin_ok hfin.out hQ.out (by omega) (by simp [Sc.sgn]; try omega)
    · have c2 : decide ((q : Int) ≤ 4611686018427387904) = false := by rw [decide_eq_false_iff_not]; omega
      have hq3i : 4611686018427387904 < (q : Int) := by omega
      clear hq3
      go_wp2_with fail
      go_quiet (fail)
      go_wp2
      go_ret2
      refine ⟨?_, below_drewN Hb2.out _⟩
      cases haw : Sc.away how false q r den
      · exact fin_big hfin.out (quo_stay haw) hq3i
      · exact fin_big hfin.out (quo_up hr1' haw) (by omega)
end Go.Proofs.YthimnjegacdhaaaGreatDoor

/- Scale and Div of the program and of the reference: all return 'Sc.sc'. -/
namespace Go.Proofs.YthimnjegacdhaaaGreatDoor
open Go.RowKit Go.BigFrame

theorem word_split (n : Nat) : n / 18446744073709551616 * 18446744073709551616 + n % 18446744073709551616 = n := by omega

theorem scale_high_neg (a how : Int) (num den hi k A : Nat) (w : World) (hk : Hid (how = (k : Int) + 1)) (hk5 : k < 5) (hd : 1 ≤ den) (hD : (den : Int) ≤ 9223372036854775807) (hM : (num : Int) ≤ 9223372036854775807)
    (hs : a < 0) (hneg : IntKind.u64.wrap (-IntKind.u64.wrap a) = (A : Int)) (hA : (A : Int) ≤ 9223372036854775808)
    (hhi' : ((A * num / 18446744073709551616 : Nat) : Int) = hi) (hle : (den : Int) ≤ hi) :
    Calls Tryz.prog 25 #[.int .i64 a, .int .i64 num, .int .i64 den, .int .i64 how] w fun e w' => e = scRet (0, 9) ∧ Below w.heap.size w w' := by
  have hw : wayAt how = (k : Int) := by have := hk.out; unfold wayAt; rw [if_pos (by omega)]; omega
  have hmf : ∀ (fn : Fn) (first cap : Array Value) (w : World), (Instr.makeFunc fn first cap).run Tryz.prog w = .ok (.func fn first cap) w := fun _ _ _ _ => rfl
  have b1 : decide ((den : Int) ≤ 0) = false := by rw [decide_eq_false_iff_not]; omega
  have b2 : decide ((den : Int) ≤ hi) = true := by rw [decide_eq_true_eq]; omega
  have hmul := Lib.hid (Go.Proofs.Tryz.bits_Mul64 A num)
  go_enter Tryz.func25, Tryz.ntmps25
  go_wp2_with fail
  refine (ways_any _).mono ?_
  rintro e w1 ⟨rfl, rfl⟩
  go_wp2_with fail
  refine (index_any _ _ how _ (hasRow_new w _) (how_new w how _) (by simp) (by simp; omega)).mono ?_
  rintro e w1 ⟨rfl, hb⟩
  rw [hw]
  have hb' := (below_two w _ _).trans (hb.mono (by simp; omega))
  have hk5i : (k : Int) < 5 := by omega
  clear hb hw
  go_wp2_with fail
  refine (hmul.out (by omega) (by omega) _).mono ?_
  rintro e w2 ⟨rfl, rfl⟩
  rw [hhi']
  go_wp2
  go_ret2
  exact ⟨rfl, hb'⟩
theorem scale_high_pos (how : Int) (num den hi k A : Nat) (w : World) (hk : Hid (how = (k : Int) + 1)) (hk5 : k < 5) (hd : 1 ≤ den) (hD : (den : Int) ≤ 9223372036854775807) (hM : (num : Int) ≤ 9223372036854775807)
    (hA : (A : Int) ≤ 9223372036854775807)
    (hhi' : ((A * num / 18446744073709551616 : Nat) : Int) = hi) (hle : (den : Int) ≤ hi) :
    Calls Tryz.prog 25 #[.int .i64 A, .int .i64 num, .int .i64 den, .int .i64 how] w fun e w' => e = scRet (0, 9) ∧ Below w.heap.size w w' := by
  have hw : wayAt how = (k : Int) := by have := hk.out; unfold wayAt; rw [if_pos (by omega)]; omega
  have hmf : ∀ (fn : Fn) (first cap : Array Value) (w : World), (Instr.makeFunc fn first cap).run Tryz.prog w = .ok (.func fn first cap) w := fun _ _ _ _ => rfl
  have b5 : decide ((A : Int) < 0) = false := by rw [decide_eq_false_iff_not]; omega
  have b1 : decide ((den : Int) ≤ 0) = false := by rw [decide_eq_false_iff_not]; omega
  have b2 : decide ((den : Int) ≤ hi) = true := by rw [decide_eq_true_eq]; omega
  have hmul := Lib.hid (Go.Proofs.Tryz.bits_Mul64 A num)
  go_enter Tryz.func25, Tryz.ntmps25
  go_wp2_with fail
  refine (ways_any _).mono ?_
  rintro e w1 ⟨rfl, rfl⟩
  go_wp2_with fail
  refine (index_any _ _ how _ (hasRow_new w _) (how_new w how _) (by simp) (by simp; omega)).mono ?_
  rintro e w1 ⟨rfl, hb⟩
  rw [hw]
  have hb' := (below_two w _ _).trans (hb.mono (by simp; omega))
  have hk5i : (k : Int) < 5 := by omega
  clear hb hw
  go_wp2_with fail
  refine (hmul.out (by omega) (by omega) _).mono ?_
  rintro e w2 ⟨rfl, rfl⟩
  rw [hhi']
  go_wp2
  go_ret2
  exact ⟨rfl, hb'⟩

/-- the program's Scale -/
theorem scale_any (a num den how : Int) (w : World) (ha1 : -9223372036854775808 ≤ a) (ha2 : a ≤ 9223372036854775807) (hn : num ≤ 9223372036854775807) (hd : den ≤ 9223372036854775807) :
    Calls Tryz.prog 25 #[.int .i64 a, .int .i64 num, .int .i64 den, .int .i64 how] w fun e w' => e = scRet (Sc.sc a num den how) ∧ Below w.heap.size w w' := by
  by_cases h1 : how < 1 ∨ 5 < how
  · rw [Sc.sc_kind _ _ _ _ h1]; exact scale_kind a num den how w h1
  by_cases h2 : den ≤ 0 ∨ num < 0
  · rw [Sc.sc_arg _ _ _ _ (by omega) (by omega) h2]; exact scale_arg a num den how w (by omega) (by omega) h2
  obtain ⟨num, rfl⟩ := Int.eq_ofNat_of_zero_le (show 0 ≤ num by omega)
  obtain ⟨den, rfl⟩ := Int.eq_ofNat_of_zero_le (show 0 ≤ den by omega)
  obtain ⟨k, hk⟩ : ∃ k : Nat, how = (k : Int) + 1 := ⟨(how - 1).toNat, by omega⟩
  have hk5 : k < 5 := by omega
  obtain ⟨N, hN⟩ : ∃ N, N = a.natAbs * num := ⟨_, rfl⟩
  have hN2 : N ≤ 9223372036854775808 * 9223372036854775807 := by rw [hN]; exact Nat.mul_le_mul (by omega) (by omega)
  by_cases h3 : den ≤ a.natAbs * num / 18446744073709551616
  · rw [Sc.sc_high a how num den (by omega) (by omega) (by omega) h3]
    by_cases h4 : a < 0
    · exact scale_high_neg a how num den _ k a.natAbs w (Lib.hid hk) hk5 (by omega) hd hn h4 (neg_wrap h4 ha1) (by omega) rfl (by omega)
    · obtain ⟨A, rfl⟩ := Int.eq_ofNat_of_zero_le (show 0 ≤ a by omega)
      rw [Int.natAbs_natCast] at h3
      exact scale_high_pos how num den _ k A w (Lib.hid hk) hk5 (by omega) hd hn ha2 rfl (by omega)
  · have hfin := Sc.sc_of a how num den (by omega) (by omega) (by omega) (by omega)
    rw [← hN] at hfin h3
    have hr := Nat.mod_lt N (show 0 < den by omega)
    have hq : N / den < 18446744073709551616 := by
      rw [Nat.div_lt_iff_lt_mul (by omega)]
      omega
    have hlo := Nat.mod_lt N (show 0 < 18446744073709551616 by omega)
    by_cases h4 : a < 0
    · rw [show decide (a < 0) = true by simpa using h4] at hfin
      refine scale_neg a how num den (N / 18446744073709551616) (N % 18446744073709551616) (N / den) (N % den) k a.natAbs w (Lib.hid hk) hk5 (by omega) hd hn h4 ha1 (neg_wrap h4 ha1) (by rw [← hN]) (by rw [← hN]) (by omega) (by rw [word_split]) (by rw [word_split]) (by omega) (by omega) (by omega) (by omega) (Lib.hid hfin)
    · obtain ⟨A, rfl⟩ := Int.eq_ofNat_of_zero_le (show 0 ≤ a by omega)
      rw [show decide ((A : Int) < 0) = false by rw [decide_eq_false_iff_not]; exact h4] at hfin
      rw [Int.natAbs_natCast] at hN
      refine scale_pos how num den (N / 18446744073709551616) (N % 18446744073709551616) (N / den) (N % den) k A w (Lib.hid hk) hk5 (by omega) hd hn (by rw [← hN]) (by rw [← hN]) (by omega) (by rw [word_split]) (by rw [word_split]) (by omega) (by omega) (by omega) (by omega) (Lib.hid hfin)

end Go.Proofs.YthimnjegacdhaaaGreatDoor

/- Scale and Div of the reference return 'Sc.sc'. -/
namespace Go.Proofs.YthimnjegacdhaaaGreatDoor
open Go.RowKit Go.BigFrame

theorem moreF_away {how : Int} (h1 : 1 ≤ how) (h5 : how ≤ 5) (b : Bool) (q r d : Nat) : moreF q r d b how = decide (0 < r ∧ Sc.away how b q r d = true) := by
  have e3 : ((q : Int) % 2 = 1) ↔ q % 2 = 1 := by omega
  have e5 : ((q : Int) % 2 == 1) = decide (q % 2 = 1) := by rw [Bool.eq_iff_iff, beq_iff_eq, decide_eq_true_eq]; exact e3
  unfold moreF
  by_cases h0 : r = 0
  · subst h0; simp
  rw [if_neg (by omega)]
  have hr : 0 < r := by omega
  unfold Sc.away
  by_cases a1 : how = 1
  · subst a1; cases b <;> simp [hr]
  by_cases a2 : how = 2
  · subst a2; cases b <;> simp [hr]
  by_cases a3 : how = 3
  · subst a3; simp
  simp only [a1, a2, a3, if_false]
  by_cases h6 : (r : Int) = d - r
  · rw [if_neg (by omega)]
    have h7 : 2 * r = d := by omega
    simp only [h7, hr, true_and, decide_true, Bool.true_and, e5]
    by_cases a4 : how = 4
    · subst a4; cases b <;> simp
    · simp [a4]
  · rw [if_pos h6]
    have h7 : ¬ 2 * r = d := by omega
    simp only [h7, hr, true_and, decide_false, Bool.false_and, Bool.or_false]
    have h8 : ((d : Int) - r < r) ↔ d < 2 * r := by omega
    by_cases a4 : how = 4
    · subst a4; simp [h8]
    · simp [a4, h8]

theorem rscale_kind (a num den how : Int) (w : World) (h : how < 1 ∨ 5 < how) :
    Calls Tryz.prog 28 #[.int .i64 a, .int .i64 num, .int .i64 den, .int .i64 how] w fun e w' => e = scRet (0, 7) ∧ Below w.heap.size w w' := by
  have ho : (decide (how < 1) || decide (5 < how)) = true := by simpa using h
  have hout := Lib.hid (outside_any how 1 5)
  clear h
  go_enter Tryz.func28, Tryz.ntmps28
  go_wp2_with fail
  refine (hout.out w).mono ?_
  rintro e w1 ⟨rfl, rfl⟩
  rw [ho]
  go_wp2
  go_ret2
  exact ⟨rfl, Below.refl _ _⟩
theorem rscale_arg (a num den how : Int) (w : World) (h1 : 1 ≤ how) (h5 : how ≤ 5) (h : den ≤ 0 ∨ num < 0) :
    Calls Tryz.prog 28 #[.int .i64 a, .int .i64 num, .int .i64 den, .int .i64 how] w fun e w' => e = scRet (0, 1) ∧ Below w.heap.size w w' := by
  have ho : (decide (how < 1) || decide (5 < how)) = false := by simp; omega
  have hout := Lib.hid (outside_any how 1 5)
  by_cases hd : den ≤ 0
  · have hd2 : decide (den < 1) = true := by rw [decide_eq_true_eq]; omega
    clear h
    go_enter Tryz.func28, Tryz.ntmps28
    go_wp2_with fail
    refine (hout.out w).mono ?_
    rintro e w1 ⟨rfl, rfl⟩
    rw [ho]
    go_wp2
    go_ret2
    exact ⟨rfl, Below.refl _ _⟩
  · have hd2 : decide (den < 1) = false := by rw [decide_eq_false_iff_not]; omega
    have hn2 : decide (num < 0) = true := by rw [decide_eq_true_eq]; omega
    clear h hd
    go_enter Tryz.func28, Tryz.ntmps28
    go_wp2_with fail
    refine (hout.out w).mono ?_
    rintro e w1 ⟨rfl, rfl⟩
    rw [ho]
    go_wp2
    go_ret2
    exact ⟨rfl, Below.refl _ _⟩

set_option maxHeartbeats 1000000 in
set_option maxRecDepth 100000 in
theorem rscale_high (a how : Int) (num den hi A : Nat) (w : World) (h1 : 1 ≤ how) (h5 : how ≤ 5) (hd : 1 ≤ den) (hD : (den : Int) ≤ 9223372036854775807) (hM : (num : Int) ≤ 9223372036854775807)
    (ha1 : -9223372036854775808 ≤ a) (ha2 : a ≤ 9223372036854775807) (hA : (A : Int) ≤ 9223372036854775808) (hAa : Hid (A = a.natAbs))
    (hhi' : ((A * num / 18446744073709551616 : Nat) : Int) = hi) (hle : (den : Int) ≤ hi) :
    Calls Tryz.prog 28 #[.int .i64 a, .int .i64 num, .int .i64 den, .int .i64 how] w fun e w' => e = scRet (0, 9) ∧ Below w.heap.size w w' := by
  have ho : (decide (how < 1) || decide (5 < how)) = false := by simp; omega
  have hout := Lib.hid (outside_any how 1 5)
  have hsz := Lib.hid (size_any a)
  have hmul := Lib.hid (Go.Proofs.Tryz.bits_Mul64 A num)
  have b1 : decide ((den : Int) < 1) = false := by rw [decide_eq_false_iff_not]; omega
  have b2 : decide ((den : Int) ≤ hi) = true := by rw [decide_eq_true_eq]; omega
  go_enter Tryz.func28, Tryz.ntmps28
  go_wp2_with fail
  refine (hout.out w).mono ?_
  rintro e w1 ⟨rfl, rfl⟩
  rw [ho]
  go_wp2_with fail
  refine (hsz.out _ ha1 ha2).mono ?_
  rintro e w1 ⟨rfl, rfl⟩
  rw [← hAa.out]
  go_wp2_with fail
  refine (hmul.out (by omega) (by omega) _).mono ?_
  rintro e w2 ⟨rfl, rfl⟩
  rw [hhi']
  go_wp2
  go_ret2
  exact ⟨rfl, Below.refl _ _⟩

set_option maxHeartbeats 2000000 in
set_option maxRecDepth 100000 in
theorem rscale_of (a how : Int) (num den hi lo q r A : Nat) (S : Bool) (w : World) (h1 : 1 ≤ how) (h5 : how ≤ 5) (hd : 1 ≤ den) (hD : (den : Int) ≤ 9223372036854775807) (hM : (num : Int) ≤ 9223372036854775807)
    (ha1 : -9223372036854775808 ≤ a) (ha2 : a ≤ 9223372036854775807) (hA : (A : Int) ≤ 9223372036854775808) (hAa : Hid (A = a.natAbs)) (hS : decide (a < 0) = S)
    (hhi' : ((A * num / 18446744073709551616 : Nat) : Int) = hi) (hlo' : ((A * num % 18446744073709551616 : Nat) : Int) = lo) (hlt : (hi : Int) < den)
    (hq' : (((hi * 18446744073709551616 + lo) / den : Nat) : Int) = q) (hr' : (((hi * 18446744073709551616 + lo) % den : Nat) : Int) = r) (hr0 : (r : Int) < den) (_hlo2 : (lo : Int) ≤ 18446744073709551615) (hq2 : (q : Int) ≤ 18446744073709551615)
    (hfin : Hid (Sc.sc a num den how = if 4611686018427387904 < Sc.quo how S q r den then (0, 9) else (Sc.sgn S (Sc.quo how S q r den), 0))) :
    Calls Tryz.prog 28 #[.int .i64 a, .int .i64 num, .int .i64 den, .int .i64 how] w fun e w' => e = scRet (Sc.sc a num den how) ∧ Below w.heap.size w w' := by
  have ho : (decide (how < 1) || decide (5 < how)) = false := by simp; omega
  have hout := Lib.hid (outside_any how 1 5)
  have hsz := Lib.hid (size_any a)
  have hmul := Lib.hid (Go.Proofs.Tryz.bits_Mul64 A num)
  have hdiv := Lib.hid (div64_any hi lo den)
  have b1 : decide ((den : Int) < 1) = false := by rw [decide_eq_false_iff_not]; omega
  have b2 : decide ((den : Int) ≤ hi) = false := by rw [decide_eq_false_iff_not]; omega
  have hmore := Lib.hid (more_any q r den S how)
  have hma := Lib.hid (moreF_away h1 h5 S q r den)
  go_enter Tryz.func28, Tryz.ntmps28
  go_wp2_with fail
  refine (hout.out w).mono ?_
  rintro e w1 ⟨rfl, rfl⟩
  rw [ho]
  go_wp2_with fail
  refine (hsz.out _ ha1 ha2).mono ?_
  rintro e w1 ⟨rfl, rfl⟩
  rw [← hAa.out]
  go_wp2_with fail
  refine (hmul.out (by omega) (by omega) _).mono ?_
  rintro e w2 ⟨rfl, rfl⟩
  rw [hhi', hlo']
  go_wp2_with fail
  refine (hdiv.out _ (by omega) (by omega) (by omega)).mono ?_
  rintro e w3 ⟨rfl, nd, rfl⟩
  rw [hq', hr']
  clear hhi' hlo' hq' hr' b1 b2
  go_wp2_with fail
  refine (hmore.out _ (by omega) (by omega) (by omega) (by omega)).mono ?_
  rintro e w4 ⟨rfl, rfl⟩
  rw [hma.out]
  cases haw : decide (0 < r ∧ Sc.away how S q r den = true)
  · have hQ : Sc.quo how S q r den = q := by
      unfold Sc.quo; rw [if_neg (by simpa using haw)]
    have HQ := Lib.hid hQ
    clear haw hQ hma hmore
    by_cases h9 : (q : Int) ≤ 4611686018427387904
    · have c4 : decide (4611686018427387904 < (q : Int)) = false := by rw [decide_eq_false_iff_not]; omega
      cases S
      · go_wp2
        go_ret2
        exact ⟨fin_ok hfin.out HQ.out h9 (by simp [Sc.sgn]), below_drewN (Below.refl _ _) _⟩
      · go_wp2
        go_ret2
        exact ⟨fin_ok hfin.out HQ.out h9 (by simp [Sc.sgn]), below_drewN (Below.refl _ _) _⟩
    · have c4 : decide (4611686018427387904 < (q : Int)) = true := by rw [decide_eq_true_eq]; omega
      have h9' := Lib.hid h9
      clear h9
      go_wp2
      go_ret2
      exact ⟨fin_big hfin.out HQ.out (by have := h9'.out; omega), below_drewN (Below.refl _ _) _⟩
  · have hQ : Sc.quo how S q r den = q + 1 := by
      unfold Sc.quo; rw [if_pos (by simpa using haw)]
    have HQ := Lib.hid hQ
    clear haw hQ hma hmore
    by_cases h8 : (q : Int) = 18446744073709551615
    · have c5 : IntKind.u64.wrap ((q : Int) + 1) = 0 := by rw [IntKind.wrap_u64]; omega
      have H8 := Lib.hid h8
      clear h8
      go_wp2
      go_ret2
      exact ⟨fin_big hfin.out HQ.out (by have := H8.out; omega), below_drewN (Below.refl _ _) _⟩
    · have c5 : IntKind.u64.wrap ((q : Int) + 1) = (q : Int) + 1 := by rw [IntKind.wrap_u64]; omega
      have c6 : ((q : Int) + 1 == 0) = false := by rw [beq_eq_false_iff_ne]; omega
      have H8 := Lib.hid h8
      clear h8
      by_cases h9 : (q : Int) + 1 ≤ 4611686018427387904
      · have c4 : decide (4611686018427387904 < (q : Int) + 1) = false := by rw [decide_eq_false_iff_not]; omega
        cases S
        · go_wp2
          go_ret2
          exact ⟨fin_ok hfin.out HQ.out (by omega) (by simp [Sc.sgn]), below_drewN (Below.refl _ _) _⟩
        · go_wp2
          go_ret2
          exact ⟨fin_ok hfin.out HQ.out (by omega) (by simp [Sc.sgn]), below_drewN (Below.refl _ _) _⟩
      · have c4 : decide (4611686018427387904 < (q : Int) + 1) = true := by rw [decide_eq_true_eq]; omega
        have h9' := Lib.hid h9
        clear h9
        go_wp2
        go_ret2
        exact ⟨fin_big hfin.out HQ.out (by have := h9'.out; omega), below_drewN (Below.refl _ _) _⟩

theorem rscale_any (a num den how : Int) (w : World) (ha1 : -9223372036854775808 ≤ a) (ha2 : a ≤ 9223372036854775807) (hn : num ≤ 9223372036854775807) (hd : den ≤ 9223372036854775807) :
    Calls Tryz.prog 28 #[.int .i64 a, .int .i64 num, .int .i64 den, .int .i64 how] w fun e w' => e = scRet (Sc.sc a num den how) ∧ Below w.heap.size w w' := by
  by_cases h1 : how < 1 ∨ 5 < how
  · rw [Sc.sc_kind _ _ _ _ h1]; exact rscale_kind a num den how w h1
  by_cases h2 : den ≤ 0 ∨ num < 0
  · rw [Sc.sc_arg _ _ _ _ (by omega) (by omega) h2]; exact rscale_arg a num den how w (by omega) (by omega) h2
  obtain ⟨num, rfl⟩ := Int.eq_ofNat_of_zero_le (show 0 ≤ num by omega)
  obtain ⟨den, rfl⟩ := Int.eq_ofNat_of_zero_le (show 0 ≤ den by omega)
  obtain ⟨N, hN⟩ : ∃ N, N = a.natAbs * num := ⟨_, rfl⟩
  have hN2 : N ≤ 9223372036854775808 * 9223372036854775807 := by rw [hN]; exact Nat.mul_le_mul (by omega) (by omega)
  by_cases h3 : den ≤ a.natAbs * num / 18446744073709551616
  · rw [Sc.sc_high a how num den (by omega) (by omega) (by omega) h3]
    exact rscale_high a how num den _ a.natAbs w (by omega) (by omega) (by omega) hd hn ha1 ha2 (by omega) (Lib.hid rfl) rfl (by omega)
  · have hfin := Sc.sc_of a how num den (by omega) (by omega) (by omega) (by omega)
    rw [← hN] at hfin h3
    have hr := Nat.mod_lt N (show 0 < den by omega)
    have hq : N / den < 18446744073709551616 := by
      rw [Nat.div_lt_iff_lt_mul (by omega)]
      omega
    have hlo := Nat.mod_lt N (show 0 < 18446744073709551616 by omega)
    exact rscale_of a how num den (N / 18446744073709551616) (N % 18446744073709551616) (N / den) (N % den) a.natAbs _ w (by omega) (by omega) (by omega) hd hn ha1 ha2 (by omega) (Lib.hid rfl) rfl
      (by rw [← hN]) (by rw [← hN]) (by omega) (by rw [word_split]) (by rw [word_split]) (by omega) (by omega) (by omega) (Lib.hid hfin)

end Go.Proofs.YthimnjegacdhaaaGreatDoor

/- What the functions of a reader do, in plain words. -/
namespace Rd
def byte (s : ByteArray) (p : Nat) : Nat := if h : p < s.size then s[p].toNat else 0
def isD (c : Nat) : Bool := decide (48 ≤ c) && decide (c ≤ 57)
/-- whether a digit comes next -/
def digAt (s : ByteArray) (p : Nat) (ok : Bool) : Bool := ok && (decide (p < s.size) && isD (byte s p))
theorem byte_lt {s : ByteArray} {p : Nat} (h : p < s.size) : byte s p = s[p].toNat := by unfold byte; rw [dif_pos h]
theorem byte_le (s : ByteArray) (p : Nat) : byte s p < 256 := by
  unfold byte; split
  · exact UInt8.toNat_lt _
  · omega
theorem isD_bounds {c : Nat} (h : isD c = true) : 48 ≤ c ∧ c ≤ 57 := by unfold isD at h; simpa using h
theorem digAt_true {s : ByteArray} {p : Nat} {ok : Bool} (h : digAt s p ok = true) : ok = true ∧ p < s.size ∧ 48 ≤ byte s p ∧ byte s p ≤ 57 := by
  unfold digAt isD at h; simpa using h
/-- does a number of a form stop before a further digit? -/
def stops (least most n next : Int) (m : Nat) : Bool := (decide (0 < m) && decide (n = 0)) || decide (most < next) || (decide (next = 0) && decide (0 < least))
/-- the rounds of 'number': what was read so far, how many digits, and where -/
def numLoop (s : ByteArray) (digits : Nat) (least most : Int) (ok : Bool) : Nat → Int → Nat → Nat → Int × Nat × Nat
  | 0, n, m, p => (n, m, p)
  | f + 1, n, m, p =>
    if m < digits ∧ digAt s p ok = true then
      if stops least most n (10 * n + ((byte s p : Int) - 48)) m = true then (n, m, p)
      else numLoop s digits least most ok f (10 * n + ((byte s p : Int) - 48)) (m + 1) (p + 1)
    else (n, m, p)
def numAt (s : ByteArray) (digits : Nat) (least most : Int) (ok : Bool) (p : Nat) : Int × Nat × Nat := numLoop s digits least most ok digits 0 0 p
def numOk (least : Int) (ok : Bool) (x : Int × Nat × Nat) : Bool := ok && decide (0 < x.2.1) && decide (least ≤ x.1)
theorem numLoop_stop {s : ByteArray} {digits : Nat} {least most : Int} {ok : Bool} {f : Nat} {n : Int} {m p : Nat} (h : ¬ (m < digits ∧ digAt s p ok = true)) :
    numLoop s digits least most ok f n m p = (n, m, p) := by
  cases f <;> simp [numLoop, h]
theorem numLoop_break {s : ByteArray} {digits : Nat} {least most : Int} {ok : Bool} {f : Nat} {n : Int} {m p : Nat} (h : m < digits ∧ digAt s p ok = true)
    (h2 : stops least most n (10 * n + ((byte s p : Int) - 48)) m = true) : numLoop s digits least most ok f n m p = (n, m, p) := by
  cases f <;> simp [numLoop, h, h2]
theorem numLoop_next {s : ByteArray} {digits : Nat} {least most : Int} {ok : Bool} {f : Nat} {n : Int} {m p : Nat} (h : m < digits ∧ digAt s p ok = true)
    (h2 : stops least most n (10 * n + ((byte s p : Int) - 48)) m = false) :
    numLoop s digits least most ok (f + 1) n m p = numLoop s digits least most ok f (10 * n + ((byte s p : Int) - 48)) (m + 1) (p + 1) := by
  simp [numLoop, h, h2]
/-- two digits -/
def pairStep (s : ByteArray) (most unit : Int) (x : Int × Nat × Bool) : Int × Nat × Bool :=
  if digAt s x.2.1 x.2.2 = true ∧ x.1 + unit * ((byte s x.2.1 : Int) - 48) ≤ most then (x.1 + unit * ((byte s x.2.1 : Int) - 48), x.2.1 + 1, true) else (x.1, x.2.1, false)
def pairAt (s : ByteArray) (most : Int) (p : Nat) (ok : Bool) : Int × Nat × Bool := pairStep s most 1 (pairStep s most 10 (0, p, ok))
/-- just these bytes: from the i-th on -/
def exactLoop (s t : ByteArray) : Nat → Nat → Nat → Nat × Bool
  | 0, _, p => (p, true)
  | f + 1, i, p => if i < t.size then (if p < s.size ∧ byte s p = byte t i then exactLoop s t f (i + 1) (p + 1) else (p, false)) else (p, true)
def exactAt (s t : ByteArray) (p : Nat) (ok : Bool) : Nat × Bool := if ok = true then exactLoop s t t.size 0 p else (p, false)
def oneAt (s t : ByteArray) (p : Nat) (ok : Bool) : Int × Nat × Bool :=
  if ok = true ∧ p < s.size then
    let k := Go.Lib.indexByte t.data.toList (byte s p).toUInt8
    if 0 ≤ k then (k, p + 1, true) else (k, p, false)
  else (-1, p, false)
end Rd

/- The reader: readerOf and its functions, each by its contract. -/
namespace Go.Proofs.YthimnjegacdhaaaGreatDoor
open Go.RowKit Go.BigFrame

def pt (b : Nat) : Value := .pointer (some ⟨b, 0, none⟩)
def digF (B : Nat) : Value := .func (.func 80) #[] #[pt (B + 3), pt (B + 2), pt B]
def takeF (B : Nat) : Value := .func (.func 82) #[] #[pt (B + 2), pt B]
def rdVals (B : Nat) : Array Value := #[
  .func (.func 83) #[] #[pt (B + 4), pt B, pt (B + 2), pt (B + 5), pt (B + 3)],
  .func (.func 84) #[] #[pt (B + 4), pt (B + 5), pt (B + 3)],
  .func (.func 85) #[] #[pt (B + 4), pt B, pt (B + 2), pt (B + 3), pt (B + 5)],
  .func (.func 86) #[] #[pt (B + 3), pt (B + 2), pt B],
  .func (.func 87) #[] #[pt (B + 3), pt (B + 2), pt B],
  .func (.func 89) #[] #[pt (B + 3), pt B, pt (B + 2)],
  .func (.func 91) #[] #[pt (B + 3), pt B, pt (B + 2)],
  digF B,
  .func (.func 93) #[] #[pt (B + 2), pt (B + 3), pt B]]
/-- a reader of the text s, at p -/
structure IsRd (w : World) (B : Nat) (s : ByteArray) (p : Nat) (ok : Bool) : Prop where
  size : B + 6 ≤ w.heap.size
  text : w.cell? ⟨B, 0, none⟩ = some (.string s)
  place : w.cell? ⟨B + 2, 0, none⟩ = some (.int .i64 p)
  placeF : w.frozen? ⟨B + 2, 0, none⟩ = false
  flag : w.cell? ⟨B + 3, 0, none⟩ = some (.bool ok)
  flagF : w.frozen? ⟨B + 3, 0, none⟩ = false
  dig : w.cell? ⟨B + 4, 7, none⟩ = some (digF B)
  take : w.cell? ⟨B + 5, 0, none⟩ = some (takeF B)

theorem cell_past {w : World} {o : Obj} {b j : Nat} {v : Value} (h : w.cell? ⟨b, j, none⟩ = some v) : (w.alloc o).cell? ⟨b, j, none⟩ = some v := by
  rw [World.cell?_alloc_past _ _ _ ?_]; exact h
  rcases Nat.lt_or_ge b w.heap.size with h1 | h1
  · exact h1
  · simp [World.cell?, Array.getElem?_eq_none h1] at h
theorem frozen_past {w : World} {o : Obj} {b j : Nat} (hb : b < w.heap.size) (h : w.frozen? ⟨b, j, none⟩ = false) : (w.alloc o).frozen? ⟨b, j, none⟩ = false := by
  rw [World.frozen?_alloc_past _ _ _ hb]; exact h
theorem isRd_new (w : World) (s : ByteArray) (o1 : Obj) (row : Array Value) (T0 T2 T3 T4 T5 : TypeId) (hr : row[7]? = some (digF w.heap.size)) :
    IsRd ((((((w.alloc (.cells #[.string s] T0)).alloc o1).alloc (.cells #[.int .i64 0] T2)).alloc (.cells #[.bool true] T3)).alloc (.cells row T4)).alloc (.cells #[takeF w.heap.size] T5)) w.heap.size s 0 true := by
  refine ⟨by simp, ?_, ?_, ?_, ?_, ?_, ?_, ?_⟩
  · iterate 5 refine cell_past ?_
    rw [World.cell?_alloc_at _ _ _ _ (by simp)]; rfl
  · iterate 3 refine cell_past ?_
    rw [World.cell?_alloc_at _ _ _ _ (by simp)]; rfl
  · iterate 3 refine frozen_past (by simp) ?_
    exact World.frozen?_alloc_at _ _ _ _ (by simp)
  · iterate 2 refine cell_past ?_
    rw [World.cell?_alloc_at _ _ _ _ (by simp)]; rfl
  · iterate 2 refine frozen_past (by simp) ?_
    exact World.frozen?_alloc_at _ _ _ _ (by simp)
  · refine cell_past ?_
    rw [World.cell?_alloc_at _ _ _ _ (by simp)]; exact hr
  · rw [World.cell?_alloc_at _ _ _ _ (by simp)]; rfl
theorem readerOf_any (s : ByteArray) (w : World) :
    Calls Tryz.prog 64 #[.string s] w fun e w' => e = .returned (.agg (rdVals w.heap.size)) ∧ IsRd w' w.heap.size s 0 true ∧ Below w.heap.size w w' := by
  have hmf : ∀ (fn : Fn) (first cap : Array Value) (w : World), (Instr.makeFunc fn first cap).run Tryz.prog w = .ok (.func fn first cap) w := fun _ _ _ _ => rfl
  go_enter Tryz.func64, Tryz.ntmps64
  go_wp2
  refine bodyPost_ret (v := .agg (rdVals w.heap.size)) (by simp [results, Tryz.results64, go_sem, rdVals, digF, pt]) rfl ⟨rfl, ?_, ?_⟩
  · exact isRd_new w s _ _ _ _ _ _ _ rfl
  · go_grown

/-! ### how the world moves under a reader -/
theorem cell_set_same {w : World} {b j : Nat} {v : Value} (h : w.cell? ⟨b, j, none⟩ = some v) (u : Value) : (w.setCell ⟨b, j, none⟩ u).cell? ⟨b, j, none⟩ = some u := by
  unfold World.cell? at h ⊢
  simp only [World.setCell, Array.getElem?_modify, if_true]
  cases hb : w.heap[b]? with
  | none => simp [hb] at h
  | some o =>
    cases o with
    | cells c e f =>
      simp [hb] at h ⊢
      obtain ⟨hj, _⟩ := Array.getElem?_eq_some_iff.1 h
      rw [Array.getElem?_setIfInBounds_self_of_lt hj]
    | _ => simp [hb] at h
theorem cell_set_far {w : World} {b j b' j' : Nat} (hne : b' ≠ b) (u : Value) : (w.setCell ⟨b, j, none⟩ u).cell? ⟨b', j', none⟩ = w.cell? ⟨b', j', none⟩ :=
  World.cell?_of_block (w := w) (Below.heap_setCell w ⟨b, j, none⟩ u b' hne)
theorem frozen_set_far {w : World} {b j b' j' : Nat} (hne : b' ≠ b) (u : Value) : (w.setCell ⟨b, j, none⟩ u).frozen? ⟨b', j', none⟩ = w.frozen? ⟨b', j', none⟩ :=
  World.frozen?_of_block (w := w) (Below.heap_setCell w ⟨b, j, none⟩ u b' hne)
theorem frozen_set_same {w : World} {b j : Nat} (h : w.frozen? ⟨b, j, none⟩ = false) (u : Value) : (w.setCell ⟨b, j, none⟩ u).frozen? ⟨b, j, none⟩ = false := by
  unfold World.frozen? at h ⊢
  simp only [World.setCell, Array.getElem?_modify, if_true]
  cases hb : w.heap[b]? with
  | none => simp
  | some o => cases o <;> simp_all
theorem IsRd.setAt {w : World} {B : Nat} {s : ByteArray} {p : Nat} {ok : Bool} (h : IsRd w B s p ok) (q : Nat) : IsRd (w.setCell ⟨B + 2, 0, none⟩ (.int .i64 q)) B s q ok :=
  ⟨by rw [World.size_setCell]; exact h.size, by rw [cell_set_far (by omega)]; exact h.text, cell_set_same h.place _, frozen_set_same h.placeF _, by rw [cell_set_far (by omega)]; exact h.flag, by rw [frozen_set_far (by omega)]; exact h.flagF, by rw [cell_set_far (by omega)]; exact h.dig, by rw [cell_set_far (by omega)]; exact h.take⟩
theorem IsRd.setOk {w : World} {B : Nat} {s : ByteArray} {p : Nat} {ok : Bool} (h : IsRd w B s p ok) (q : Bool) : IsRd (w.setCell ⟨B + 3, 0, none⟩ (.bool q)) B s p q :=
  ⟨by rw [World.size_setCell]; exact h.size, by rw [cell_set_far (by omega)]; exact h.text, by rw [cell_set_far (by omega)]; exact h.place, by rw [frozen_set_far (by omega)]; exact h.placeF, cell_set_same h.flag _, frozen_set_same h.flagF _, by rw [cell_set_far (by omega)]; exact h.dig, by rw [cell_set_far (by omega)]; exact h.take⟩
theorem IsRd.kept {w w' : World} {B : Nat} {s : ByteArray} {p : Nat} {ok : Bool} (h : IsRd w B s p ok) (hb : Below w.heap.size w w') : IsRd w' B s p ok :=
  have hs := h.size
  ⟨Nat.le_trans hs hb.size, (hb.cell (p := ⟨B, 0, none⟩) (by show B < _; omega)).trans h.text, (hb.cell (p := ⟨B + 2, 0, none⟩) (by show B + 2 < _; omega)).trans h.place, (hb.frozen (p := ⟨B + 2, 0, none⟩) (by show B + 2 < _; omega)).trans h.placeF,
   (hb.cell (p := ⟨B + 3, 0, none⟩) (by show B + 3 < _; omega)).trans h.flag, (hb.frozen (p := ⟨B + 3, 0, none⟩) (by show B + 3 < _; omega)).trans h.flagF, (hb.cell (p := ⟨B + 4, 7, none⟩) (by show B + 4 < _; omega)).trans h.dig, (hb.cell (p := ⟨B + 5, 0, none⟩) (by show B + 5 < _; omega)).trans h.take⟩
/-- nothing but the reader's place and flag has turned -/
structure Kp (B : Nat) (w w' : World) : Prop where
  os : w'.os = w.os
  tape : w'.tape = w.tape
  output : w'.output = w.output
  size : w.heap.size ≤ w'.heap.size
  block : ∀ k, k < w.heap.size → k ≠ B + 2 → k ≠ B + 3 → w'.heap[k]? = w.heap[k]?
theorem Kp.refl (B : Nat) (w : World) : Kp B w w := ⟨rfl, rfl, rfl, Nat.le_refl _, fun _ _ _ _ => rfl⟩
theorem Kp.trans {B : Nat} {a b c : World} (h : Kp B a b) (k : Kp B b c) : Kp B a c :=
  ⟨k.os.trans h.os, k.tape.trans h.tape, k.output.trans h.output, Nat.le_trans h.size k.size, fun i h1 h2 h3 => (k.block i (Nat.lt_of_lt_of_le h1 h.size) h2 h3).trans (h.block i h1 h2 h3)⟩
theorem Kp.of_below {B : Nat} {w w' : World} (h : Below w.heap.size w w') : Kp B w w' := ⟨h.os, h.tape, h.output, h.size, fun k hk _ _ => h.block k hk⟩
theorem Kp.setAt {B : Nat} {a w : World} (h : Kp B a w) (v : Value) : Kp B a (w.setCell ⟨B + 2, 0, none⟩ v) :=
  h.trans ⟨rfl, rfl, rfl, by rw [World.size_setCell]; exact Nat.le_refl _, fun k _ h2 _ => Below.heap_setCell _ _ _ _ h2⟩
theorem Kp.setOk {B : Nat} {a w : World} (h : Kp B a w) (v : Value) : Kp B a (w.setCell ⟨B + 3, 0, none⟩ v) :=
  h.trans ⟨rfl, rfl, rfl, by rw [World.size_setCell]; exact Nat.le_refl _, fun k _ _ h3 => Below.heap_setCell _ _ _ _ h3⟩
theorem Kp.drewN {B : Nat} {a w : World} (h : Kp B a w) (n : Nat) : Kp B a (w.drewN n) := h.trans ⟨rfl, rfl, rfl, Nat.le_refl _, fun _ _ _ _ => rfl⟩
theorem Kp.alloc {B : Nat} {a w : World} (h : Kp B a w) (o : Obj) : Kp B a (w.alloc o) := h.trans (Kp.of_below ((Below.refl _ _).alloc (Nat.le_refl _) o))
theorem Kp.below {B C : Nat} {w w' : World} (h : Kp B w w') (hB : C ≤ B) (hs : C ≤ w.heap.size) : Below C w w' := ⟨h.os, h.tape, h.output, h.size, fun k hk => h.block k (by omega) (by omega) (by omega)⟩

/-! ### the functions -/
theorem isDigit_any (c : Nat) (w : World) : Calls Tryz.prog 81 #[.int .u8 c] w fun e w' => e = .returned (.bool (Rd.isD c)) ∧ w = w' := by
  by_cases h : 48 ≤ c
  · have h1 : decide ((48 : Int) ≤ (c : Int)) = true := by rw [decide_eq_true_eq]; omega
    by_cases h2 : c ≤ 57
    · have h3 : decide ((c : Int) ≤ 57) = true := by rw [decide_eq_true_eq]; omega
      go_enter Tryz.func81, Tryz.ntmps81
      go_wp2
      go_ret
      exact ⟨ret_bool (by simp [Rd.isD, h, h2]), rfl⟩
    · have h3 : decide ((c : Int) ≤ 57) = false := by rw [decide_eq_false_iff_not]; omega
      go_enter Tryz.func81, Tryz.ntmps81
      go_wp2
      go_ret
      exact ⟨ret_bool (by simp [Rd.isD, h2]), rfl⟩
  · have h1 : decide ((48 : Int) ≤ (c : Int)) = false := by rw [decide_eq_false_iff_not]; omega
    go_enter Tryz.func81, Tryz.ntmps81
    go_wp2
    go_ret
    exact ⟨ret_bool (by simp [Rd.isD, h]), rfl⟩

theorem digit_any {B : Nat} {s : ByteArray} {p : Nat} {ok : Bool} (w : World) (h : IsRd w B s p ok) :
    Calls Tryz.prog 80 #[pt (B + 3), pt (B + 2), pt B] w fun e w' => e = .returned (.bool (Rd.digAt s p ok)) ∧ w = w' := by
  obtain ⟨_, c0, c2, _, c3, _, _, _⟩ := h
  unfold pt
  cases ok
  · go_enter Tryz.func80, Tryz.ntmps80
    go_wp2
    go_ret
    exact ⟨ret_bool (by simp [Rd.digAt]), rfl⟩
  · by_cases hp : p < s.size
    · have h1 : decide ((p : Int) < (s.size : Int)) = true := by rw [decide_eq_true_eq]; omega
      have hd := Lib.hid (isDigit_any (s[p].toNat))
      go_enter Tryz.func80, Tryz.ntmps80
      go_wp2_with fail
      refine (hd.out _).mono ?_
      rintro e w1 ⟨rfl, rfl⟩
      go_wp2
      go_ret
      exact ⟨ret_bool (by simp [Rd.digAt, hp, Rd.byte_lt hp]), rfl⟩
    · have h1 : decide ((p : Int) < (s.size : Int)) = false := by rw [decide_eq_false_iff_not]; omega
      have h2 : decide (p < s.size) = false := by simpa using hp
      go_enter Tryz.func80, Tryz.ntmps80
      go_wp2
      go_ret
      exact ⟨ret_bool (by simp [Rd.digAt, hp]), rfl⟩
theorem take_any {B : Nat} {s : ByteArray} {p : Nat} {ok : Bool} (w : World) (h : IsRd w B s p ok) (hs : s.size ≤ 9223372036854775807) (hp : p < s.size) (hd : 48 ≤ Rd.byte s p) :
    Calls Tryz.prog 82 #[pt (B + 2), pt B] w fun e w' => e = .returned (.int .i64 ((Rd.byte s p : Int) - 48)) ∧ IsRd w' B s (p + 1) ok ∧ Kp B w w' := by
  have h' := h
  obtain ⟨_, c0, c2, cf, _, _, _, _⟩ := h
  have hb := Rd.byte_lt hp
  have hle := Rd.byte_le s p
  rw [hb] at hd hle
  unfold pt
  go_enter Tryz.func82, Tryz.ntmps82
  go_wp2
  go_ret
  exact ⟨ret_int (by rw [hb]), h'.setAt (p + 1), (Kp.refl _ _).setAt _⟩
end Go.Proofs.YthimnjegacdhaaaGreatDoor

/- The reader's number. -/
namespace Go.Proofs.YthimnjegacdhaaaGreatDoor
open Go.RowKit Go.BigFrame

theorem numEnd {B : Nat} {s : ByteArray} {p : Nat} {ok : Bool} {digits : Nat} {least most : Int} {w wr : World} {n : Int} {k q : Nat} {b : Bool} (hR : IsRd wr B s q ok) (hK : Kp B w wr)
    (hX : Rd.numAt s digits least most ok p = (n, k, q)) (hb : Rd.numOk least ok (n, k, q) = b) :
    Ending.returned (.int .i64 n) = .returned (.int .i64 (Rd.numAt s digits least most ok p).1) ∧
      IsRd (wr.setCell ⟨B + 3, 0, none⟩ (.bool b)) B s (Rd.numAt s digits least most ok p).2.2 (Rd.numOk least ok (Rd.numAt s digits least most ok p)) ∧ Kp B w (wr.setCell ⟨B + 3, 0, none⟩ (.bool b)) := by
  rw [hX, hb]; exact ⟨rfl, hR.setOk b, hK.setOk _⟩

set_option maxHeartbeats 1000000 in
set_option maxRecDepth 100000 in
theorem number_any {B : Nat} {s : ByteArray} {p : Nat} {ok : Bool} (digits : Nat) (least most : Int) (w : World) (h : IsRd w B s p ok) (hs : s.size ≤ 9223372036854775807) (hd : digits ≤ 18) :
    Calls Tryz.prog 83 #[.int .i64 digits, .int .i64 least, .int .i64 most, pt (B + 4), pt B, pt (B + 2), pt (B + 5), pt (B + 3)] w fun e w' =>
      e = .returned (.int .i64 (Rd.numAt s digits least most ok p).1) ∧ IsRd w' B s (Rd.numAt s digits least most ok p).2.2 (Rd.numOk least ok (Rd.numAt s digits least most ok p)) ∧ Kp B w w' := by
  have h' := Lib.hid h
  clear h
  unfold pt
  go_enter Tryz.func83, Tryz.ntmps83
  go_wp2_with fail
  go_loopw [12, 13] (fun n m wr => ∃ (nn : Int) (k q : Nat), n = .int .i64 nn ∧ m = .int .i64 k ∧ k ≤ digits ∧ 0 ≤ nn ∧ nn < 10 ^ k ∧ IsRd wr B s q ok ∧ Kp B w wr ∧
      Rd.numLoop s digits least most ok (digits - k) nn k q = Rd.numAt s digits least most ok p) (fun _ m _ => digits - (intOf m).toNat)
  case atStart => exact ⟨0, 0, p, rfl, rfl, by omega, by omega, by decide, h'.out, Kp.refl _ _, rfl⟩
  case round =>
    obtain ⟨n, k, q, rfl, rfl, hk, hn0, hn1, hR, hK, hF⟩ := hrel
    have HR := Lib.hid hR
    have HK := Lib.hid hK
    have HF := Lib.hid hF
    have HN := Lib.hid hn1
    obtain ⟨_, c0, c2, cf2, c3, cf3, cd, ct⟩ := hR
    unfold digF pt at cd
    unfold takeF pt at ct
    clear hK hF hn1 h'
    by_cases hkd : k < digits
    · have t1 : decide ((k : Int) < (digits : Int)) = true := by rw [decide_eq_true_eq]; omega
      have t1' : decide (k < digits) = true := by simpa using hkd
      go_wp2_with fail
      refine (digit_any wr HR.out).mono ?_
      rintro e w1 ⟨rfl, rfl⟩
      cases hdg : Rd.digAt s q ok
      · have HX := Lib.hid (HF.out.symm.trans (Rd.numLoop_stop (s := s) (digits := digits) (least := least) (most := most) (ok := ok) (f := digits - k) (n := n) (m := k) (p := q) (by simp [hdg])))
        clear hdg HF
        go_wp2
        all_goals go_ret
        all_goals refine numEnd HR.out HK.out HX.out ?_
        all_goals simp_all [Rd.numOk]
      · obtain ⟨hok, hq, hb0, hb1⟩ := Rd.digAt_true hdg
        subst hok
        have HD := Lib.hid hdg
        have e1 := Rd.byte_lt hq
        have He1 := Lib.hid e1
        rw [e1] at hb0 hb1
        have hn9 : n ≤ 99999999999999999 := by
          have h1 := HN.out
          have h2 : (10 : Int) ^ k ≤ 10 ^ 17 := by exact_mod_cast Nat.pow_le_pow_right (show 0 < 10 by omega) (show k ≤ 17 by omega)
          have h3 : (10 : Int) ^ 17 = 100000000000000000 := by decide
          omega
        clear hdg e1
        cases bk : decide (0 < k)
        · skip
          cases bm : decide (most < 10 * n + ((s[q].toNat : Int) - 48))
          · cases bx : (10 * n + ((s[q].toNat : Int) - 48) == 0)
            · have cx : decide (10 * n + ((s[q].toNat : Int) - 48) = 0) = false := by simpa using bx
              have HX := Lib.hid (Rd.numLoop_next (s := s) (digits := digits) (least := least) (most := most) (ok := true) (f := digits - k - 1) (n := n) (m := k) (p := q) ⟨hkd, HD.out⟩ (by rw [He1.out]; simp [Rd.stops, bk, bm, cx]))
              go_wp2_with fail
              refine (take_any wr HR.out hs hq (by rw [He1.out]; exact hb0)).mono ?_
              rintro e w1 ⟨rfl, hR1, hK1⟩
              rw [He1.out]
              have HR1 := Lib.hid hR1
              have HK1 := Lib.hid (HK.out.trans hK1)
              clear hR1 hK1
              go_wp2
              go_roundw
              case rel =>
                refine ⟨10 * n + ((s[q].toNat : Int) - 48), k + 1, q + 1, rfl, by go_num, by omega, by omega, ?_, HR1.out, HK1.out, ?_⟩
                · have := HN.out
                  rw [Int.pow_succ]; omega
                · rw [← HF.out, show digits - k = (digits - k - 1) + 1 by omega, HX.out, He1.out, show digits - (k + 1) = digits - k - 1 by omega]
              case measure => simp [intOf]; omega
            · have cx : decide (10 * n + ((s[q].toNat : Int) - 48) = 0) = true := by simpa using bx
              cases bl : decide (0 < least)
              · skip
                have HX := Lib.hid (Rd.numLoop_next (s := s) (digits := digits) (least := least) (most := most) (ok := true) (f := digits - k - 1) (n := n) (m := k) (p := q) ⟨hkd, HD.out⟩ (by rw [He1.out]; simp [Rd.stops, bk, bm, cx, bl]))
                go_wp2_with fail
                refine (take_any wr HR.out hs hq (by rw [He1.out]; exact hb0)).mono ?_
                rintro e w1 ⟨rfl, hR1, hK1⟩
                rw [He1.out]
                have HR1 := Lib.hid hR1
                have HK1 := Lib.hid (HK.out.trans hK1)
                clear hR1 hK1
                go_wp2
                go_roundw
                case rel =>
                  refine ⟨10 * n + ((s[q].toNat : Int) - 48), k + 1, q + 1, rfl, by go_num, by omega, by omega, ?_, HR1.out, HK1.out, ?_⟩
                  · have := HN.out
                    rw [Int.pow_succ]; omega
                  · rw [← HF.out, show digits - k = (digits - k - 1) + 1 by omega, HX.out, He1.out, show digits - (k + 1) = digits - k - 1 by omega]
                case measure => simp [intOf]; omega
              · skip
                have HX := Lib.hid (HF.out.symm.trans (Rd.numLoop_break (s := s) (digits := digits) (least := least) (most := most) (ok := true) (f := digits - k) (n := n) (m := k) (p := q) ⟨hkd, HD.out⟩ (by rw [He1.out]; simp [Rd.stops, bk, bm, cx, bl])))
                clear HF
                go_wp2
                go_ret
                refine numEnd HR.out HK.out HX.out ?_
                simp [Rd.numOk, bk]
          · skip
            have HX := Lib.hid (HF.out.symm.trans (Rd.numLoop_break (s := s) (digits := digits) (least := least) (most := most) (ok := true) (f := digits - k) (n := n) (m := k) (p := q) ⟨hkd, HD.out⟩ (by rw [He1.out]; simp [Rd.stops, bk, bm])))
            clear HF
            go_wp2
            go_ret
            refine numEnd HR.out HK.out HX.out ?_
            simp [Rd.numOk, bk]
        · cases bn : (n == 0)
          · have cn : decide (n = 0) = false := by simpa using bn
            cases bm : decide (most < 10 * n + ((s[q].toNat : Int) - 48))
            · cases bx : (10 * n + ((s[q].toNat : Int) - 48) == 0)
              · have cx : decide (10 * n + ((s[q].toNat : Int) - 48) = 0) = false := by simpa using bx
                have HX := Lib.hid (Rd.numLoop_next (s := s) (digits := digits) (least := least) (most := most) (ok := true) (f := digits - k - 1) (n := n) (m := k) (p := q) ⟨hkd, HD.out⟩ (by rw [He1.out]; simp [Rd.stops, bk, cn, bm, cx]))
                go_wp2_with fail
                refine (take_any wr HR.out hs hq (by rw [He1.out]; exact hb0)).mono ?_
                rintro e w1 ⟨rfl, hR1, hK1⟩
                rw [He1.out]
                have HR1 := Lib.hid hR1
                have HK1 := Lib.hid (HK.out.trans hK1)
                clear hR1 hK1
                go_wp2
                go_roundw
                case rel =>
                  refine ⟨10 * n + ((s[q].toNat : Int) - 48), k + 1, q + 1, rfl, by go_num, by omega, by omega, ?_, HR1.out, HK1.out, ?_⟩
                  · have := HN.out
                    rw [Int.pow_succ]; omega
                  · rw [← HF.out, show digits - k = (digits - k - 1) + 1 by omega, HX.out, He1.out, show digits - (k + 1) = digits - k - 1 by omega]
                case measure => simp [intOf]; omega
              · have cx : decide (10 * n + ((s[q].toNat : Int) - 48) = 0) = true := by simpa using bx
                cases bl : decide (0 < least)
                · skip
                  have HX := Lib.hid (Rd.numLoop_next (s := s) (digits := digits) (least := least) (most := most) (ok := true) (f := digits - k - 1) (n := n) (m := k) (p := q) ⟨hkd, HD.out⟩ (by rw [He1.out]; simp [Rd.stops, bk, cn, bm, cx, bl]))
                  go_wp2_with fail
                  refine (take_any wr HR.out hs hq (by rw [He1.out]; exact hb0)).mono ?_
                  rintro e w1 ⟨rfl, hR1, hK1⟩
                  rw [He1.out]
                  have HR1 := Lib.hid hR1
                  have HK1 := Lib.hid (HK.out.trans hK1)
                  clear hR1 hK1
                  go_wp2
                  go_roundw
                  case rel =>
                    refine ⟨10 * n + ((s[q].toNat : Int) - 48), k + 1, q + 1, rfl, by go_num, by omega, by omega, ?_, HR1.out, HK1.out, ?_⟩
                    · have := HN.out
                      rw [Int.pow_succ]; omega
                    · rw [← HF.out, show digits - k = (digits - k - 1) + 1 by omega, HX.out, He1.out, show digits - (k + 1) = digits - k - 1 by omega]
                  case measure => simp [intOf]; omega
                · skip
                  have HX := Lib.hid (HF.out.symm.trans (Rd.numLoop_break (s := s) (digits := digits) (least := least) (most := most) (ok := true) (f := digits - k) (n := n) (m := k) (p := q) ⟨hkd, HD.out⟩ (by rw [He1.out]; simp [Rd.stops, bk, cn, bm, cx, bl])))
                  clear HF
                  go_wp2
                  go_ret
                  refine numEnd HR.out HK.out HX.out ?_
                  simp [Rd.numOk, bk]
            · skip
              have HX := Lib.hid (HF.out.symm.trans (Rd.numLoop_break (s := s) (digits := digits) (least := least) (most := most) (ok := true) (f := digits - k) (n := n) (m := k) (p := q) ⟨hkd, HD.out⟩ (by rw [He1.out]; simp [Rd.stops, bk, cn, bm])))
              clear HF
              go_wp2
              go_ret
              refine numEnd HR.out HK.out HX.out ?_
              simp [Rd.numOk, bk]
          · have cn : decide (n = 0) = true := by simpa using bn
            have HX := Lib.hid (HF.out.symm.trans (Rd.numLoop_break (s := s) (digits := digits) (least := least) (most := most) (ok := true) (f := digits - k) (n := n) (m := k) (p := q) ⟨hkd, HD.out⟩ (by rw [He1.out]; simp [Rd.stops, bk, cn])))
            clear HF
            go_wp2
            go_ret
            refine numEnd HR.out HK.out HX.out ?_
            simp [Rd.numOk, bk]
    · have t1 : decide ((k : Int) < (digits : Int)) = false := by rw [decide_eq_false_iff_not]; omega
      have t1' : decide (k < digits) = false := by simpa using hkd
      have HX := Lib.hid (HF.out.symm.trans (Rd.numLoop_stop (s := s) (digits := digits) (least := least) (most := most) (ok := ok) (f := digits - k) (n := n) (m := k) (p := q) (by simp [hkd])))
      clear HF
      go_wp2
      all_goals go_ret
      all_goals refine numEnd HR.out HK.out HX.out ?_
      all_goals simp_all [Rd.numOk]
end Go.Proofs.YthimnjegacdhaaaGreatDoor

/- The reader's exact, pair, one, place. -/
namespace Go.Proofs.YthimnjegacdhaaaGreatDoor
open Go.RowKit Go.BigFrame

theorem IsRd.drew {w : World} {B : Nat} {s : ByteArray} {p : Nat} {ok : Bool} (h : IsRd w B s p ok) : IsRd w.drew B s p ok := h.kept (Below.refl _ _).drew
theorem Kp.drew {B : Nat} {a w : World} (h : Kp B a w) : Kp B a w.drew := h.trans (Kp.of_below (Below.refl _ _).drew)
def ExactTo (s t : ByteArray) (i q : Nat) (b : Bool) (z : Nat × Bool) : Prop := (b = false → z = (q, false)) ∧ (b = true → Rd.exactLoop s t (t.size - i) i q = z)

theorem ExactTo.no {s t : ByteArray} {i q : Nat} {z : Nat × Bool} (h : z = (q, false)) : ExactTo s t i q false z := ⟨fun _ => h, fun h => by cases h⟩
theorem ExactTo.yes {s t : ByteArray} {i q : Nat} {z : Nat × Bool} (h : Rd.exactLoop s t (t.size - i) i q = z) : ExactTo s t i q true z := ⟨fun h => (by cases h), fun _ => h⟩
set_option maxHeartbeats 1000000 in
set_option maxRecDepth 100000 in
theorem exact_any {B : Nat} {s : ByteArray} {p : Nat} {ok : Bool} (t : ByteArray) (w : World) (h : IsRd w B s p ok) (hs : s.size ≤ 9223372036854775807) (ht : t.size ≤ 9223372036854775807) :
    Calls Tryz.prog 86 #[.string t, pt (B + 3), pt (B + 2), pt B] w fun e w' =>
      e = .returned (.tuple #[]) ∧ IsRd w' B s (Rd.exactAt s t p ok).1 (Rd.exactAt s t p ok).2 ∧ Kp B w w' := by
  have h' := Lib.hid h
  have hst : ExactTo s t 0 p ok (Rd.exactAt s t p ok) := by
    unfold ExactTo Rd.exactAt
    cases ok <;> simp
  have Hst := Lib.hid hst
  generalize hz : Rd.exactAt s t p ok = z at Hst ⊢
  clear h hst hz
  unfold pt
  go_enter Tryz.func86, Tryz.ntmps86
  go_wp2_with fail
  go_loopw [5] (fun iv wr => ∃ (i q : Nat) (b : Bool), iv = .int .i64 i ∧ i ≤ t.size ∧ IsRd wr B s q b ∧ Kp B w wr ∧ ExactTo s t i q b z) (fun iv _ => t.size - (intOf iv).toNat)
  case atStart => exact ⟨0, p, ok, rfl, by omega, h'.out, Kp.refl _ _, Hst.out⟩
  case round =>
    obtain ⟨i, q, b, rfl, hi, hR, hK, hE⟩ := hrel
    have HR := Lib.hid hR
    have HK := Lib.hid hK
    have HE := Lib.hid hE
    obtain ⟨_, c0, c2, cf2, c3, cf3, _, _⟩ := hR
    clear hK hE h' Hst
    cases b
    · have hz := Lib.hid (HE.out.1 rfl)
      go_wp2
      go_end0
      rw [hz.out]
      exact ⟨rfl, HR.out, HK.out⟩
    · by_cases hit : i < t.size
      · have t1 : decide (i < t.size) = true := by simpa using hit
        by_cases hq : q < s.size
        · have t2 : decide (q < s.size) = true := by simpa using hq
          cases he : (((s[q]).toNat : Int) == ((t[i]).toNat : Int))
          · have hz : z = (q, false) := by
              rw [← HE.out.2 rfl, show t.size - i = (t.size - i - 1) + 1 by omega, Rd.exactLoop, if_pos hit, if_neg]
              rw [Rd.byte_lt hq, Rd.byte_lt hit]
              simp only [beq_eq_false_iff_ne, ne_eq] at he
              omega
            have Hz := Lib.hid hz
            clear hz HE
            go_wp2_with fail
            go_still_tail 13, (by kernel_rfl)
            change wpList _ _ _ _ _ wr.drew
            clear c0 c2 cf2 c3 cf3
            have hR2 := HR.out.drew
            have hK2 := HK.out.drew
            clear HR HK
            generalize wr.drew = w2 at hR2 hK2 ⊢
            have HR := Lib.hid hR2
            have HK := Lib.hid hK2
            obtain ⟨_, c0, c2, cf2, c3, cf3, _, _⟩ := hR2
            clear hK2
            go_wp2
            go_roundw
            case rel => exact ⟨i + 1, q, false, by go_num, by omega, HR.out.setOk false, HK.out.setOk _, ExactTo.no Hz.out⟩
            case measure => simp [intOf]; omega
          · have hz : Rd.exactLoop s t (t.size - (i + 1)) (i + 1) (q + 1) = z := by
              rw [← HE.out.2 rfl, show t.size - i = (t.size - (i + 1)) + 1 by omega]
              conv => rhs; rw [Rd.exactLoop, if_pos hit]
              rw [if_pos]
              rw [Rd.byte_lt hq, Rd.byte_lt hit]
              simp only [beq_iff_eq] at he
              exact ⟨hq, by omega⟩
            have Hz := Lib.hid hz
            clear hz HE
            go_wp2_with fail
            go_still_tail 13, (by kernel_rfl)
            change wpList _ _ _ _ _ wr.drew
            clear c0 c2 cf2 c3 cf3
            have hR2 := HR.out.drew
            have hK2 := HK.out.drew
            clear HR HK
            generalize wr.drew = w2 at hR2 hK2 ⊢
            have HR := Lib.hid hR2
            have HK := Lib.hid hK2
            obtain ⟨_, c0, c2, cf2, c3, cf3, _, _⟩ := hR2
            clear hK2
            go_wp2
            go_roundw
            case rel => exact ⟨i + 1, q + 1, true, by go_num, by omega, (HR.out.setOk true).setAt (q + 1), (HK.out.setOk _).setAt _, ExactTo.yes Hz.out⟩
            case measure => simp [intOf]; omega
        · have t2 : decide (q < s.size) = false := by simpa using hq
          have hz : z = (q, false) := by
            rw [← HE.out.2 rfl, show t.size - i = (t.size - i - 1) + 1 by omega, Rd.exactLoop, if_pos hit, if_neg]
            omega
          have Hz := Lib.hid hz
          clear hz HE
          go_wp2_with fail
          go_region
          go_wp2
          go_roundw
          case rel => exact ⟨i + 1, q, false, by go_num, by omega, (HR.out.setOk false).drew, (HK.out.setOk _).drew, ExactTo.no Hz.out⟩
          case measure => simp [intOf]; omega
      · have t1 : decide (i < t.size) = false := by simpa using hit
        have hz := Lib.hid (HE.out.2 rfl)
        go_wp2
        go_end0
        rw [← hz.out]
        have : Rd.exactLoop s t (t.size - i) i q = (q, true) := by rw [show t.size - i = 0 by omega]; rfl
        rw [this]
        exact ⟨rfl, HR.out, HK.out⟩

theorem place_any {B : Nat} {s : ByteArray} {p : Nat} {ok : Bool} (w : World) (h : IsRd w B s p ok) :
    Calls Tryz.prog 93 #[pt (B + 2), pt (B + 3), pt B] w fun e w' => e = .returned (.tuple #[.int .i64 p, .bool (ok && decide (p = s.size))]) ∧ ∃ n, w' = w.drewN n := by
  obtain ⟨_, c0, c2, cf2, c3, cf3, _, _⟩ := h
  unfold pt
  cases ok
  · go_enter Tryz.func93, Tryz.ntmps93
    go_wp2_with fail
    go_quiet (fail)
    go_wp2
    go_ret2
    exact ⟨by simp, _, rfl⟩
  · go_enter Tryz.func93, Tryz.ntmps93
    go_wp2_with fail
    go_quiet (fail)
    go_wp2
    go_ret2
    refine ⟨?_, _, rfl⟩
    have : ((p : Int) == (s.size : Int)) = (true && decide (p = s.size)) := by rw [Bool.eq_iff_iff, Bool.true_and, beq_iff_eq, decide_eq_true_eq]; omega
    rw [← this]; rfl
/-- one of these bytes: which -/
theorem one_any {B : Nat} {s : ByteArray} {p : Nat} {ok : Bool} (t : ByteArray) (w : World) (h : IsRd w B s p ok) (hs : s.size ≤ 9223372036854775807) :
    Calls Tryz.prog 87 #[.string t, pt (B + 3), pt (B + 2), pt B] w fun e w' =>
      e = .returned (.int .i64 (Rd.oneAt s t p ok).1) ∧ IsRd w' B s (Rd.oneAt s t p ok).2.1 (Rd.oneAt s t p ok).2.2 ∧ Kp B w w' := by
  have HR := Lib.hid h
  obtain ⟨_, c0, c2, cf2, c3, cf3, _, _⟩ := h
  unfold pt
  cases ok
  · go_enter Tryz.func87, Tryz.ntmps87
    go_wp2
    go_ret
    exact ⟨rfl, HR.out.setOk false, (Kp.refl _ _).setOk _⟩
  · by_cases hp : p < s.size
    · have t2 : decide (p < s.size) = true := by simpa using hp
      have hib := Lib.hid (Go.Proofs.Tryz.strings_IndexByte t ((s[p]).toNat : Int))
      go_enter Tryz.func87, Tryz.ntmps87
      go_wp2_with fail
      refine (hib.out _).mono ?_
      rintro e w1 ⟨rfl, rfl⟩
      have hby : (((s[p]).toNat : Int).toNat).toUInt8 = (Rd.byte s p).toUInt8 := by rw [Rd.byte_lt hp, Int.toNat_natCast]
      rw [hby]
      have hz := Lib.hid (show Rd.oneAt s t p true = if 0 ≤ Lib.indexByte t.data.toList (Rd.byte s p).toUInt8 then (Lib.indexByte t.data.toList (Rd.byte s p).toUInt8, p + 1, true) else (Lib.indexByte t.data.toList (Rd.byte s p).toUInt8, p, false) by unfold Rd.oneAt; rw [if_pos ⟨rfl, hp⟩])
      generalize Lib.indexByte t.data.toList (Rd.byte s p).toUInt8 = k at hz ⊢
      clear hib hby
      by_cases hk : 0 ≤ k
      · have t3 : decide (0 ≤ k) = true := by simpa using hk
        go_wp2
        go_ret
        have hz' := hz.out
        rw [if_pos hk] at hz'
        rw [hz']
        exact ⟨rfl, (HR.out.setOk true).setAt (p + 1), ((Kp.refl _ _).setOk _).setAt _⟩
      · have t3 : decide (0 ≤ k) = false := by simpa using hk
        have hk2 : k < 0 := by omega
        go_wp2
        go_ret
        have hz' := hz.out
        rw [if_neg (by omega)] at hz'
        rw [hz']
        exact ⟨rfl, HR.out.setOk false, (Kp.refl _ _).setOk _⟩
    · have t2 : decide (p < s.size) = false := by simpa using hp
      go_enter Tryz.func87, Tryz.ntmps87
      go_wp2
      go_ret
      have hz : Rd.oneAt s t p true = (-1, p, false) := by unfold Rd.oneAt; rw [if_neg (by simp [hp])]
      rw [hz]
      exact ⟨rfl, HR.out.setOk false, (Kp.refl _ _).setOk _⟩

theorem IsRd.of_kp {w w' : World} {B b j : Nat} {v : Value} (hk : Kp B w w') (h : w.cell? ⟨b, j, none⟩ = some v) (h2 : b ≠ B + 2) (h3 : b ≠ B + 3) : w'.cell? ⟨b, j, none⟩ = some v := by
  rcases Nat.lt_or_ge b w.heap.size with h1 | h1
  · rw [World.cell?_of_block (w := w) (hk.block b h1 h2 h3)]; exact h
  · simp [World.cell?, Array.getElem?_eq_none h1] at h
end Go.Proofs.YthimnjegacdhaaaGreatDoor

/- The reader's pair. -/
namespace Go.Proofs.YthimnjegacdhaaaGreatDoor
open Go.RowKit Go.BigFrame

def PairTo (s : ByteArray) (most : Int) (p : Nat) (ok : Bool) (i : Nat) (x : Int × Nat × Bool) : Prop :=
  (i = 0 → x = (0, p, ok)) ∧ (i = 1 → x = Rd.pairStep s most 10 (0, p, ok)) ∧ (i = 2 → x = Rd.pairAt s most p ok)
theorem PairTo.start (s : ByteArray) (most : Int) (p : Nat) (ok : Bool) : PairTo s most p ok 0 (0, p, ok) := ⟨fun _ => rfl, fun h => (by cases h), fun h => by cases h⟩
theorem PairTo.step {s : ByteArray} {most : Int} {p : Nat} {ok : Bool} {i : Nat} {x y : Int × Nat × Bool} (h : PairTo s most p ok i x) (hi : i = 0 ∧ y = Rd.pairStep s most 10 x ∨ i = 1 ∧ y = Rd.pairStep s most 1 x) : PairTo s most p ok (i + 1) y := by
  rcases hi with ⟨rfl, rfl⟩ | ⟨rfl, rfl⟩
  · refine ⟨fun h => (by omega), fun _ => ?_, fun h => (by omega)⟩
    rw [h.1 rfl]
  · refine ⟨fun h => (by omega), fun h => (by omega), fun _ => ?_⟩
    rw [h.2.1 rfl]; rfl
theorem pairStep_no {s : ByteArray} {most u n : Int} {q : Nat} {b : Bool} (h : ¬ (Rd.digAt s q b = true ∧ n + u * ((Rd.byte s q : Int) - 48) ≤ most)) : Rd.pairStep s most u (n, q, b) = (n, q, false) := by
  unfold Rd.pairStep; rw [if_neg h]
theorem pairStep_yes {s : ByteArray} {most u n : Int} {q : Nat} {b : Bool} (h : Rd.digAt s q b = true ∧ n + u * ((Rd.byte s q : Int) - 48) ≤ most) : Rd.pairStep s most u (n, q, b) = (n + u * ((Rd.byte s q : Int) - 48), q + 1, true) := by
  unfold Rd.pairStep; rw [if_pos h]

set_option maxHeartbeats 2000000 in
set_option maxRecDepth 100000 in
theorem pair_any {B : Nat} {s : ByteArray} {p : Nat} {ok : Bool} (most : Int) (w : World) (h : IsRd w B s p ok) (hs : s.size ≤ 9223372036854775807) :
    Calls Tryz.prog 85 #[.int .i64 most, pt (B + 4), pt B, pt (B + 2), pt (B + 3), pt (B + 5)] w fun e w' =>
      e = .returned (.int .i64 (Rd.pairAt s most p ok).1) ∧ IsRd w' B s (Rd.pairAt s most p ok).2.1 (Rd.pairAt s most p ok).2.2 ∧ Kp B w w' := by
  have hsz := h.size
  have h0 := Lib.hid ((Below.refl w.heap.size w).alloc (Nat.le_refl _) (.cells #[.int .i64 10, .int .i64 1] 3))
  have h' := Lib.hid (h.kept h0.out)
  clear h
  unfold pt
  go_enter Tryz.func85, Tryz.ntmps85
  go_wp2_with fail
  go_loopw [8, 13] (fun nv iv wr => ∃ (n : Int) (i q : Nat) (b : Bool), nv = .int .i64 n ∧ iv = .int .i64 i ∧ i ≤ 2 ∧ 0 ≤ n ∧ n ≤ 90 * i ∧ IsRd wr B s q b ∧ Kp B w wr ∧
      wr.cell? ⟨w.heap.size, 0, none⟩ = some (.int .i64 10) ∧ wr.cell? ⟨w.heap.size, 1, none⟩ = some (.int .i64 1) ∧ PairTo s most p ok i (n, q, b)) (fun _ iv _ => 2 - (intOf iv).toNat)
  case atStart => exact ⟨0, 0, p, ok, rfl, rfl, by omega, by omega, by omega, h'.out, Kp.of_below h0.out, by rw [World.cell?_alloc_at _ _ _ _ rfl]; rfl, by rw [World.cell?_alloc_at _ _ _ _ rfl]; rfl, PairTo.start s most p ok⟩
  case round =>
    obtain ⟨n, i, q, b, rfl, rfl, hi, hn0, hn1, hR, hK, u0, u1, hE⟩ := hrel
    have HR := Lib.hid hR
    have HK := Lib.hid hK
    have HE := Lib.hid hE
    have U0 := Lib.hid u0
    have U1 := Lib.hid u1
    obtain ⟨_, c0, c2, cf2, c3, cf3, cd, ct⟩ := hR
    unfold digF pt at cd
    unfold takeF pt at ct
    clear hK hE h' h0
    by_cases h2 : i = 2
    · subst h2
      have hz := Lib.hid (HE.out.2.2 rfl)
      go_wp2
      go_ret
      rw [← hz.out]
      exact ⟨rfl, HR.out, HK.out⟩
    by_cases h1 : i = 1
    · subst h1
      go_wp2_with fail
      refine (digit_any wr HR.out).mono ?_
      rintro e w1 ⟨rfl, rfl⟩
      cases hdg : Rd.digAt s q b
      · skip
        have HZ := Lib.hid (pairStep_no (s := s) (most := most) (u := 1) (n := n) (q := q) (b := b) (by simp [hdg])).symm
        clear hdg
        go_wp2
        go_roundw
        case rel =>
          exact ⟨n, 2, q, false, rfl, by go_num, by omega, by omega, by omega, HR.out.setOk false, HK.out.setOk _, by rw [cell_set_far (by omega)]; exact U0.out, by rw [cell_set_far (by omega)]; exact U1.out, HE.out.step (.inr ⟨rfl, HZ.out⟩)⟩
        case measure => simp [intOf]
      · obtain ⟨hok, hq, hb0, hb1⟩ := Rd.digAt_true hdg
        subst hok
        have HD := Lib.hid hdg
        have e1 := Rd.byte_lt hq
        have He1 := Lib.hid e1
        rw [e1] at hb0 hb1
        clear hdg e1
        by_cases hm : n + ((s[q].toNat : Int) - 48) ≤ most
        · have t3 : decide (n + ((s[q].toNat : Int) - 48) ≤ most) = true := by simpa using hm
          have HZ := Lib.hid (pairStep_yes (s := s) (most := most) (u := 1) (n := n) (q := q) (b := true) ⟨HD.out, by rw [He1.out]; omega⟩).symm
          clear hm
          go_wp2_with fail
          have hR2 := HR.out.setOk true
          have hK2 := HK.out.setOk (.bool true)
          have v0 : (wr.setCell ⟨B + 3, 0, none⟩ (.bool true)).cell? ⟨w.heap.size, 0, none⟩ = some (.int .i64 10) := by rw [cell_set_far (by omega)]; exact U0.out
          have v1 : (wr.setCell ⟨B + 3, 0, none⟩ (.bool true)).cell? ⟨w.heap.size, 1, none⟩ = some (.int .i64 1) := by rw [cell_set_far (by omega)]; exact U1.out
          generalize wr.setCell ⟨B + 3, 0, none⟩ (.bool true) = w2 at hR2 hK2 v0 v1 ⊢
          refine (take_any w2 hR2 hs hq (by rw [He1.out]; exact hb0)).mono ?_
          rintro e w1 ⟨rfl, hR1, hK1⟩
          rw [He1.out]
          have HR1 := Lib.hid hR1
          have HK1 := Lib.hid (hK2.trans hK1)
          have V0 := Lib.hid (IsRd.of_kp hK1 v0 (by omega) (by omega))
          have V1 := Lib.hid (IsRd.of_kp hK1 v1 (by omega) (by omega))
          clear hR1 hK1 hR2 hK2 v0 v1 c0 c2 cf2 c3 cf3 cd ct u0 u1
          go_wp2
          go_roundw
          case rel =>
            refine ⟨_, 2, q + 1, true, rfl, by go_num, by omega, by omega, by omega, HR1.out, HK1.out, V0.out, V1.out, HE.out.step ?_⟩
            rw [← He1.out]
            have HZ' := HZ.out
            rw [Int.one_mul] at HZ'; exact .inr ⟨rfl, HZ'⟩
          case measure => simp [intOf]
        · have t3 : decide (n + ((s[q].toNat : Int) - 48) ≤ most) = false := by simpa using hm
          have HZ := Lib.hid (pairStep_no (s := s) (most := most) (u := 1) (n := n) (q := q) (b := true) (by rw [He1.out]; omega)).symm
          go_wp2
          go_roundw
          case rel =>
            exact ⟨n, 2, q, false, rfl, by go_num, by omega, by omega, by omega, HR.out.setOk false, HK.out.setOk _, by rw [cell_set_far (by omega)]; exact U0.out, by rw [cell_set_far (by omega)]; exact U1.out, HE.out.step (.inr ⟨rfl, HZ.out⟩)⟩
          case measure => simp [intOf]
    · obtain rfl : i = 0 := by omega
      go_wp2_with fail
      refine (digit_any wr HR.out).mono ?_
      rintro e w1 ⟨rfl, rfl⟩
      cases hdg : Rd.digAt s q b
      · skip
        have HZ := Lib.hid (pairStep_no (s := s) (most := most) (u := 10) (n := n) (q := q) (b := b) (by simp [hdg])).symm
        clear hdg
        go_wp2
        go_roundw
        case rel =>
          exact ⟨n, 1, q, false, rfl, by go_num, by omega, by omega, by omega, HR.out.setOk false, HK.out.setOk _, by rw [cell_set_far (by omega)]; exact U0.out, by rw [cell_set_far (by omega)]; exact U1.out, HE.out.step (.inl ⟨rfl, HZ.out⟩)⟩
        case measure => simp [intOf]
      · obtain ⟨hok, hq, hb0, hb1⟩ := Rd.digAt_true hdg
        subst hok
        have HD := Lib.hid hdg
        have e1 := Rd.byte_lt hq
        have He1 := Lib.hid e1
        rw [e1] at hb0 hb1
        clear hdg e1
        by_cases hm : n + 10 * ((s[q].toNat : Int) - 48) ≤ most
        · have t3 : decide (n + 10 * ((s[q].toNat : Int) - 48) ≤ most) = true := by simpa using hm
          have HZ := Lib.hid (pairStep_yes (s := s) (most := most) (u := 10) (n := n) (q := q) (b := true) ⟨HD.out, by rw [He1.out]; omega⟩).symm
          clear hm
          go_wp2_with fail
          have hR2 := HR.out.setOk true
          have hK2 := HK.out.setOk (.bool true)
          have v0 : (wr.setCell ⟨B + 3, 0, none⟩ (.bool true)).cell? ⟨w.heap.size, 0, none⟩ = some (.int .i64 10) := by rw [cell_set_far (by omega)]; exact U0.out
          have v1 : (wr.setCell ⟨B + 3, 0, none⟩ (.bool true)).cell? ⟨w.heap.size, 1, none⟩ = some (.int .i64 1) := by rw [cell_set_far (by omega)]; exact U1.out
          generalize wr.setCell ⟨B + 3, 0, none⟩ (.bool true) = w2 at hR2 hK2 v0 v1 ⊢
          refine (take_any w2 hR2 hs hq (by rw [He1.out]; exact hb0)).mono ?_
          rintro e w1 ⟨rfl, hR1, hK1⟩
          rw [He1.out]
          have HR1 := Lib.hid hR1
          have HK1 := Lib.hid (hK2.trans hK1)
          have V0 := Lib.hid (IsRd.of_kp hK1 v0 (by omega) (by omega))
          have V1 := Lib.hid (IsRd.of_kp hK1 v1 (by omega) (by omega))
          clear hR1 hK1 hR2 hK2 v0 v1 c0 c2 cf2 c3 cf3 cd ct u0 u1
          go_wp2
          go_roundw
          case rel =>
            refine ⟨_, 1, q + 1, true, rfl, by go_num, by omega, by omega, by omega, HR1.out, HK1.out, V0.out, V1.out, HE.out.step ?_⟩
            rw [← He1.out]
            have HZ' := HZ.out
            exact .inl ⟨rfl, HZ'⟩
          case measure => simp [intOf]
        · have t3 : decide (n + 10 * ((s[q].toNat : Int) - 48) ≤ most) = false := by simpa using hm
          have HZ := Lib.hid (pairStep_no (s := s) (most := most) (u := 10) (n := n) (q := q) (b := true) (by rw [He1.out]; omega)).symm
          go_wp2
          go_roundw
          case rel =>
            exact ⟨n, 1, q, false, rfl, by go_num, by omega, by omega, by omega, HR.out.setOk false, HK.out.setOk _, by rw [cell_set_far (by omega)]; exact U0.out, by rw [cell_set_far (by omega)]; exact U1.out, HE.out.step (.inl ⟨rfl, HZ.out⟩)⟩
          case measure => simp [intOf]
end Go.Proofs.YthimnjegacdhaaaGreatDoor

/- The forms of texts, in plain words; what the reader's values are at most. -/
namespace Rd
theorem numLoop_pos (s : ByteArray) (digits : Nat) (least most : Int) (ok : Bool) : ∀ (f : Nat) (n : Int) (m p : Nat), p ≤ s.size → (numLoop s digits least most ok f n m p).2.2 ≤ s.size
  | 0, n, m, p, h => h
  | f + 1, n, m, p, h => by
    unfold numLoop
    split
    · split
      · exact h
      · rename_i h1 _
        have := (digAt_true h1.2).2.1
        exact numLoop_pos s digits least most ok f _ _ _ (by omega)
    · exact h
/-- the values that 'number' gives are small -/
theorem numLoop_val (s : ByteArray) (digits : Nat) (least most : Int) (ok : Bool) : ∀ (f : Nat) (n : Int) (m p : Nat), 0 ≤ n → (n ≤ most ∨ n = 0) → 0 ≤ (numLoop s digits least most ok f n m p).1 ∧ ((numLoop s digits least most ok f n m p).1 ≤ most ∨ (numLoop s digits least most ok f n m p).1 = 0)
  | 0, n, m, p, h, h2 => ⟨h, h2⟩
  | f + 1, n, m, p, h, h2 => by
    unfold numLoop
    split
    · rename_i h1
      have hd := digAt_true h1.2
      cases hst : stops least most n (10 * n + ((byte s p : Int) - 48)) m
      · rw [if_neg (by simp)]
        refine numLoop_val s digits least most ok f _ _ _ (by omega) ?_
        unfold stops at hst
        simp only [Bool.or_eq_false_iff, decide_eq_false_iff_not] at hst
        omega
      · rw [if_pos rfl]; exact ⟨h, h2⟩
    · exact ⟨h, h2⟩
theorem pairStep_val {s : ByteArray} {most u n : Int} {q : Nat} {b : Bool} (hu : 0 ≤ u) (h : 0 ≤ n) (hm : n ≤ most) : 0 ≤ (pairStep s most u (n, q, b)).1 ∧ (pairStep s most u (n, q, b)).1 ≤ most := by
  unfold pairStep
  split
  · rename_i h1
    dsimp only at h1
    have hd := digAt_true h1.1
    have : 0 ≤ u * ((byte s q : Int) - 48) := Int.mul_nonneg hu (by omega)
    exact ⟨by show 0 ≤ n + u * ((byte s q : Int) - 48); omega, h1.2⟩
  · exact ⟨h, hm⟩
theorem pairAt_val (s : ByteArray) {most : Int} (p : Nat) (ok : Bool) (hm : 0 ≤ most) : 0 ≤ (pairAt s most p ok).1 ∧ (pairAt s most p ok).1 ≤ most := by
  unfold pairAt
  have h1 := pairStep_val (s := s) (q := p) (b := ok) (u := 10) (n := 0) (by omega) (by omega) hm
  exact pairStep_val (q := (pairStep s most 10 (0, p, ok)).2.1) (b := (pairStep s most 10 (0, p, ok)).2.2) (by omega) h1.1 h1.2

/-! ### forms -/
def colon : ByteArray := ⟨#[58]⟩
def shortF (s : ByteArray) : Int × Nat × Bool :=
  let m := numAt s 2 0 59 true 0
  let c := exactAt s colon m.2.2 (numOk 0 true m)
  let x := pairAt s 59 c.1 c.2
  (60 * m.1 + x.1, x.2.1, x.2.2)
def longF (s : ByteArray) : Int × Nat × Bool :=
  let h := numAt s 3 1 999 true 0
  let c := exactAt s colon h.2.2 (numOk 1 true h)
  let m := pairAt s 59 c.1 c.2
  let d := exactAt s colon m.2.1 m.2.2
  let x := pairAt s 59 d.1 d.2
  (3600 * h.1 + 60 * m.1 + x.1, x.2.1, x.2.2)
/-- the value of the first form that a text has, how far the beginnings of forms go, the error -/
def formsLoop (s : ByteArray) : List (ByteArray → Int × Nat × Bool) → Nat → Int × Nat × Int
  | [], at_ => (0, at_, 6)
  | F :: r, at_ => if ((F s).2.2 && decide ((F s).2.1 = s.size)) = true then ((F s).1, 0, 0) else formsLoop s r (max at_ (F s).2.1)
def readForms (s : ByteArray) (l : List (ByteArray → Int × Nat × Bool)) : Int × Nat × Int := if 1000 < s.size then (0, 0, 3) else formsLoop s l 0
def ranged (x : Int × Nat × Int) (least most : Int) : Int × Nat × Int := if x.2.2 = 0 ∧ (x.1 < least ∨ most < x.1) then (0, 0, 9) else x
end Rd

/- Forms of durations. -/
namespace Go.Proofs.YthimnjegacdhaaaGreatDoor
open Go.RowKit Go.BigFrame

def FormOk (f : FuncId) (F : ByteArray → Int × Nat × Bool) : Prop := ∀ (B : Nat) (s : ByteArray) (w : World), IsRd w B s 0 true → s.size ≤ 1000 →
  Calls Tryz.prog f #[.agg (rdVals B)] w fun e w' => e = .returned (.int .i64 (F s).1) ∧ IsRd w' B s (F s).2.1 (F s).2.2 ∧ Kp B w w'
theorem cell_box {w : World} {vs : Array Value} {T : TypeId} (j : Nat) (v : Value) (h : vs[j]? = some v) : (w.alloc (.cells vs T)).cell? ⟨w.heap.size, j, none⟩ = some v := by
  rw [World.cell?_alloc_at _ _ _ _ rfl]; exact h
theorem IsRd.boxed {w : World} {B : Nat} {s : ByteArray} {p : Nat} {ok : Bool} (h : IsRd w B s p ok) (o : Obj) : IsRd (w.alloc o) B s p ok := h.kept ((Below.refl _ _).alloc (Nat.le_refl _) o)

def numF (B : Nat) : Value := .func (.func 83) #[] #[.pointer (some ⟨B + 4, 0, none⟩), .pointer (some ⟨B, 0, none⟩), .pointer (some ⟨B + 2, 0, none⟩), .pointer (some ⟨B + 5, 0, none⟩), .pointer (some ⟨B + 3, 0, none⟩)]
def pairF (B : Nat) : Value := .func (.func 85) #[] #[.pointer (some ⟨B + 4, 0, none⟩), .pointer (some ⟨B, 0, none⟩), .pointer (some ⟨B + 2, 0, none⟩), .pointer (some ⟨B + 3, 0, none⟩), .pointer (some ⟨B + 5, 0, none⟩)]
def exactF (B : Nat) : Value := .func (.func 86) #[] #[.pointer (some ⟨B + 3, 0, none⟩), .pointer (some ⟨B + 2, 0, none⟩), .pointer (some ⟨B, 0, none⟩)]
def oneF (B : Nat) : Value := .func (.func 87) #[] #[.pointer (some ⟨B + 3, 0, none⟩), .pointer (some ⟨B + 2, 0, none⟩), .pointer (some ⟨B, 0, none⟩)]
def digF' (B : Nat) : Value := .func (.func 80) #[] #[.pointer (some ⟨B + 3, 0, none⟩), .pointer (some ⟨B + 2, 0, none⟩), .pointer (some ⟨B, 0, none⟩)]
def placeF (B : Nat) : Value := .func (.func 93) #[] #[.pointer (some ⟨B + 2, 0, none⟩), .pointer (some ⟨B + 3, 0, none⟩), .pointer (some ⟨B, 0, none⟩)]
/-- a variable of type reader, in block C -/
structure IsBox (w : World) (C B : Nat) : Prop where
  num : w.cell? ⟨C, 0, none⟩ = some (numF B)
  pair : w.cell? ⟨C, 2, none⟩ = some (pairF B)
  exact_ : w.cell? ⟨C, 3, none⟩ = some (exactF B)
  one : w.cell? ⟨C, 4, none⟩ = some (oneF B)
  dig : w.cell? ⟨C, 7, none⟩ = some (digF' B)
  place : w.cell? ⟨C, 8, none⟩ = some (placeF B)
theorem isBox_new (w : World) (B : Nat) (T : TypeId) : IsBox (w.alloc (.cells (rdVals B) T)) w.heap.size B :=
  ⟨cell_box 0 _ rfl, cell_box 2 _ rfl, cell_box 3 _ rfl, cell_box 4 _ rfl, cell_box 7 _ rfl, cell_box 8 _ rfl⟩
theorem IsBox.kp {w w' : World} {C B : Nat} (h : IsBox w C B) (hk : Kp B w w') (hC : B + 4 ≤ C) : IsBox w' C B :=
  ⟨IsRd.of_kp hk h.num (by omega) (by omega), IsRd.of_kp hk h.pair (by omega) (by omega), IsRd.of_kp hk h.exact_ (by omega) (by omega), IsRd.of_kp hk h.one (by omega) (by omega), IsRd.of_kp hk h.dig (by omega) (by omega), IsRd.of_kp hk h.place (by omega) (by omega)⟩

set_option maxHeartbeats 1000000 in
set_option maxRecDepth 100000 in
theorem short_form : FormOk 66 Rd.shortF := by
  intro B s w h hs
  have hsz := h.size
  have hR0 := h.boxed (.cells (rdVals B) 49)
  have hK0 := (Kp.refl B w).alloc (.cells (rdVals B) 49)
  have hX := isBox_new w B 49
  have HX := Lib.hid hX
  have k0 := hX.num
  unfold numF at k0
  clear hX
  have hnum := Lib.hid (fun w (h : IsRd w B s 0 true) => number_any 2 0 59 w h (by omega) (by omega))
  generalize hm : Rd.numAt s 2 0 59 true 0 = m at hnum
  have hv : 0 ≤ m.1 ∧ m.1 ≤ 59 := by
    have := Rd.numLoop_val s 2 0 59 true 2 0 0 0 (by omega) (by omega)
    rw [← hm]; unfold Rd.numAt; omega
  have hex := Lib.hid (fun w (h : IsRd w B s m.2.2 (Rd.numOk 0 true m)) => exact_any Rd.colon w h (by omega) (by decide))
  generalize hc : Rd.exactAt s Rd.colon m.2.2 (Rd.numOk 0 true m) = c at hex
  have hpr := Lib.hid (fun w (h : IsRd w B s c.1 c.2) => pair_any 59 w h (by omega))
  have hx := Rd.pairAt_val s (most := 59) c.1 c.2 (by omega)
  generalize hxx : Rd.pairAt s 59 c.1 c.2 = x at hpr hx
  have hF : Rd.shortF s = (60 * m.1 + x.1, x.2.1, x.2.2) := by unfold Rd.shortF; simp only [hm, hc, hxx]
  rw [hF]
  have v0 := hv.1
  have v1 := hv.2
  have x0 := hx.1
  have x1 := hx.2
  clear hF hm hc hxx hv hx
  generalize hn1 : m.1 = mv at *
  generalize hn2 : x.1 = xv at *
  have hK0' := Lib.hid hK0
  have hR0' := Lib.hid hR0
  clear hK0 hR0 h hn1 hn2
  go_enter Tryz.func66, Tryz.ntmps66
  go_wp2_with fail
  refine (hnum.out _ hR0'.out).mono ?_
  rintro e w1 ⟨rfl, hR1, hK1⟩
  have HX1 := Lib.hid (HX.out.kp hK1 (by omega))
  have k3 := HX1.out.exact_
  unfold exactF at k3
  have HR1 := Lib.hid hR1
  have HK1 := Lib.hid (hK0'.out.trans hK1)
  clear hR1 hK1 k0 HX
  go_wp2_with fail
  refine (hex.out _ HR1.out).mono ?_
  rintro e w2 ⟨rfl, hR2, hK2⟩
  have HX2 := Lib.hid (HX1.out.kp hK2 (by omega))
  have k2 := HX2.out.pair
  unfold pairF at k2
  have HR2 := Lib.hid hR2
  have HK2 := Lib.hid (HK1.out.trans hK2)
  clear hR2 hK2 k3 HX1
  go_wp2_with fail
  refine (hpr.out _ HR2.out).mono ?_
  rintro e w3 ⟨rfl, hR3, hK3⟩
  have HR3 := Lib.hid hR3
  have HK3 := Lib.hid (HK2.out.trans hK3)
  clear hR3 hK3 k2
  go_wp2
  go_ret
  exact ⟨rfl, HR3.out, HK3.out⟩
end Go.Proofs.YthimnjegacdhaaaGreatDoor

/- The long form of durations. -/
namespace Go.Proofs.YthimnjegacdhaaaGreatDoor
open Go.RowKit Go.BigFrame

set_option maxHeartbeats 2000000 in
set_option maxRecDepth 100000 in
theorem long_form : FormOk 67 Rd.longF := by
  intro B s w h hs
  have hsz := h.size
  have hR0 := h.boxed (.cells (rdVals B) 49)
  have hK0 := (Kp.refl B w).alloc (.cells (rdVals B) 49)
  have hX := isBox_new w B 49
  have HX := Lib.hid hX
  have k0 := hX.num
  unfold numF at k0
  clear hX
  have hnum := Lib.hid (fun w (h : IsRd w B s 0 true) => number_any 3 1 999 w h (by omega) (by omega))
  have hv := Rd.numLoop_val s 3 1 999 true 3 0 0 0 (by omega) (by omega)
  rw [show Rd.numLoop s 3 1 999 true 3 0 0 0 = Rd.numAt s 3 1 999 true 0 from rfl] at hv
  generalize hh : Rd.numAt s 3 1 999 true 0 = h1 at hnum hv
  have hex := Lib.hid (fun w (h : IsRd w B s h1.2.2 (Rd.numOk 1 true h1)) => exact_any Rd.colon w h (by omega) (by decide))
  generalize hc : Rd.exactAt s Rd.colon h1.2.2 (Rd.numOk 1 true h1) = c at hex
  have hpr := Lib.hid (fun w (h : IsRd w B s c.1 c.2) => pair_any 59 w h (by omega))
  have hy := Rd.pairAt_val s (most := 59) c.1 c.2 (by omega)
  generalize hm : Rd.pairAt s 59 c.1 c.2 = m at hpr hy
  have hex2 := Lib.hid (fun w (h : IsRd w B s m.2.1 m.2.2) => exact_any Rd.colon w h (by omega) (by decide))
  generalize hd : Rd.exactAt s Rd.colon m.2.1 m.2.2 = d at hex2
  have hpr2 := Lib.hid (fun w (h : IsRd w B s d.1 d.2) => pair_any 59 w h (by omega))
  have hx := Rd.pairAt_val s (most := 59) d.1 d.2 (by omega)
  generalize hxx : Rd.pairAt s 59 d.1 d.2 = x at hpr2 hx
  have hF : Rd.longF s = (3600 * h1.1 + 60 * m.1 + x.1, x.2.1, x.2.2) := by unfold Rd.longF; simp only [hh, hc, hm, hd, hxx]
  rw [hF]
  have v0 := hv.1
  have v1 : h1.1 ≤ 999 := by omega
  have y0 := hy.1
  have y1 := hy.2
  have x0 := hx.1
  have x1 := hx.2
  clear hF hh hc hm hd hxx hv hx hy
  generalize hn1 : h1.1 = hv at *
  generalize hn2 : x.1 = xv at *
  generalize hn3 : m.1 = mv at *
  have hK0' := Lib.hid hK0
  have hR0' := Lib.hid hR0
  clear hK0 hR0 h hn1 hn2 hn3
  go_enter Tryz.func67, Tryz.ntmps67
  go_wp2_with fail
  refine (hnum.out _ hR0'.out).mono ?_
  rintro e w1 ⟨rfl, hR1, hK1⟩
  have HX1 := Lib.hid (HX.out.kp hK1 (by omega))
  have k3 := HX1.out.exact_
  unfold exactF at k3
  have HR1 := Lib.hid hR1
  have HK1 := Lib.hid (hK0'.out.trans hK1)
  clear hR1 hK1 k0 HX
  go_wp2_with fail
  refine (hex.out _ HR1.out).mono ?_
  rintro e w2 ⟨rfl, hR2, hK2⟩
  have HX2 := Lib.hid (HX1.out.kp hK2 (by omega))
  have k2 := HX2.out.pair
  unfold pairF at k2
  have HR2 := Lib.hid hR2
  have HK2 := Lib.hid (HK1.out.trans hK2)
  clear hR2 hK2 k3 HX1
  go_wp2_with fail
  refine (hpr.out _ HR2.out).mono ?_
  rintro e w3 ⟨rfl, hR3, hK3⟩
  have HX3 := Lib.hid (HX2.out.kp hK3 (by omega))
  have k3 := HX3.out.exact_
  unfold exactF at k3
  have HR3 := Lib.hid hR3
  have HK3 := Lib.hid (HK2.out.trans hK3)
  clear hR3 hK3 k2 HX2
  go_wp2_with fail
  refine (hex2.out _ HR3.out).mono ?_
  rintro e w4 ⟨rfl, hR4, hK4⟩
  have HX4 := Lib.hid (HX3.out.kp hK4 (by omega))
  have k2 := HX4.out.pair
  unfold pairF at k2
  have HR4 := Lib.hid hR4
  have HK4 := Lib.hid (HK3.out.trans hK4)
  clear hR4 hK4 k3 HX3
  go_wp2_with fail
  refine (hpr2.out _ HR4.out).mono ?_
  rintro e w5 ⟨rfl, hR5, hK5⟩
  have HR5 := Lib.hid hR5
  have HK5 := Lib.hid (HK4.out.trans hK5)
  clear hR5 hK5 k2
  go_wp2
  go_ret
  exact ⟨rfl, HR5.out, HK5.out⟩
end Go.Proofs.YthimnjegacdhaaaGreatDoor

/- readForms, ranged. -/
namespace Go.Proofs.YthimnjegacdhaaaGreatDoor
open Go.RowKit Go.BigFrame

theorem ranged_any (n e lo hi : Int) (a : Nat) (w : World) : Calls Tryz.prog 36 #[.int .i64 n, .int .i64 a, .int .i64 e, .int .i64 lo, .int .i64 hi] w fun r w' =>
    r = .returned (.tuple #[.int .i64 (Rd.ranged (n, a, e) lo hi).1, .int .i64 (Rd.ranged (n, a, e) lo hi).2.1, .int .i64 (Rd.ranged (n, a, e) lo hi).2.2]) ∧ w = w' := by
  cases h0 : (e == 0)
  · have hz : Rd.ranged (n, a, e) lo hi = (n, a, e) := by unfold Rd.ranged; rw [if_neg]; simp only [beq_eq_false_iff_ne] at h0; exact fun h => h0 h.1
    rw [hz]
    clear hz
    go_enter Tryz.func36, Tryz.ntmps36
    go_wp2
    go_ret3
    exact ⟨rfl, rfl⟩
  · have he : e = 0 := by simpa using h0
    subst he
    clear h0
    by_cases h1 : n < lo
    · have hz : Rd.ranged (n, a, 0) lo hi = (0, 0, 9) := by unfold Rd.ranged; rw [if_pos]; exact ⟨rfl, .inl h1⟩
      rw [hz]
      have t1 : decide (n < lo) = true := by simpa using h1
      clear hz h1
      go_enter Tryz.func36, Tryz.ntmps36
      go_wp2
      go_ret3
      exact ⟨rfl, rfl⟩
    · have t1 : decide (n < lo) = false := by simpa using h1
      by_cases h2 : hi < n
      · have hz : Rd.ranged (n, a, 0) lo hi = (0, 0, 9) := by unfold Rd.ranged; rw [if_pos]; exact ⟨rfl, .inr h2⟩
        rw [hz]
        have t2 : decide (hi < n) = true := by simpa using h2
        clear hz h1 h2
        go_enter Tryz.func36, Tryz.ntmps36
        go_wp2
        go_ret3
        exact ⟨rfl, rfl⟩
      · have hz : Rd.ranged (n, a, 0) lo hi = (n, a, 0) := by unfold Rd.ranged; rw [if_neg]; intro h; rcases h.2 with h | h; exact h1 h; exact h2 h
        rw [hz]
        have t2 : decide (hi < n) = false := by simpa using h2
        clear hz h1 h2
        go_enter Tryz.func36, Tryz.ntmps36
        go_wp2
        go_ret3
        exact ⟨rfl, rfl⟩

structure IsForm (f : FuncId) (F : ByteArray → Int × Nat × Bool) : Prop where
  enter : ∀ args w, Sem.run Tryz.prog (callFunc f args) w = .ok (.enter f args) w
  ok : FormOk f F
/-- a slice of forms in memory, without captured variables -/
def Forms (w : World) (R : Nat) : List FuncId → Nat → Prop
  | [], _ => True
  | f :: l, j => w.cell? ⟨R, j, none⟩ = some (.func (.func f) #[] #[]) ∧ Forms w R l (j + 1)

set_option maxHeartbeats 2000000 in
set_option maxRecDepth 100000 in
theorem readForms_any (s : ByteArray) (w : World) (R n : Nat) (fs : Nat → FuncId) (Fs : Nat → ByteArray → Int × Nat × Bool) (hn : n ≤ 100) (hR : R < w.heap.size)
    (hf : ∀ j, j < n → w.cell? ⟨R, j, none⟩ = some (.func (.func (fs j)) #[] #[])) (hF : ∀ j, j < n → IsForm (fs j) (Fs j)) (hs : s.size ≤ 9223372036854775807) (z : Int × Nat × Int)
    (hz : Rd.readForms s ((List.range n).map Fs) = z) :
    Calls Tryz.prog 35 #[.string s, .slice (some ⟨R, 0, none⟩) n n] w fun r w' =>
      r = .returned (.tuple #[.int .i64 z.1, .int .i64 z.2.1, .int .i64 z.2.2]) ∧ Below w.heap.size w w' := by
  have Hf := Lib.hid hf
  have HF := Lib.hid hF
  have Hz := Lib.hid hz
  clear hf hF hz
  by_cases h1 : 1000 < s.size
  · have t1 : decide ((1000 : Int) < (s.size : Int)) = true := by rw [decide_eq_true_eq]; omega
    have hzz : z = (0, 0, 3) := by rw [← Hz.out]; unfold Rd.readForms; rw [if_pos h1]
    subst hzz
    clear h1
    go_enter Tryz.func35, Tryz.ntmps35
    go_wp2_with fail
    go_ret3
    exact ⟨rfl, Below.refl _ _⟩
  · have t1 : decide ((1000 : Int) < (s.size : Int)) = false := by rw [decide_eq_false_iff_not]; omega
    have hsz : (s.size : Int) ≤ 1000 := by omega
    have hst := Lib.hid (show Rd.formsLoop s ((List.range n).map Fs) 0 = z by rw [← Hz.out]; unfold Rd.readForms; rw [if_neg h1])
    clear h1
    go_enter Tryz.func35, Tryz.ntmps35
    go_wp2_with fail
    go_loopw [5, 18] (fun av iv wr => ∃ (a i : Nat), av = .int .i64 a ∧ iv = .int .i64 i ∧ i ≤ n ∧ Below w.heap.size w wr ∧ Rd.formsLoop s (((List.range n).map Fs).drop i) a = z) (fun _ iv _ => n - (intOf iv).toNat)
    case atStart => exact ⟨0, 0, rfl, rfl, by omega, Below.refl _ _, hst.out⟩
    case round =>
      obtain ⟨a, i, rfl, rfl, hi, hb, hl⟩ := hrel
      have HB := Lib.hid hb
      have HL := Lib.hid hl
      have hbs := hb.size
      clear hb hl hst
      by_cases hin : i < n
      · have t2 : decide ((i : Int) < (n : Int)) = true := by rw [decide_eq_true_eq]; omega
        have hcf := (HF.out i hin).enter
        have c0 := (HB.out.cell (p := ⟨R, i, none⟩) hR).trans (Hf.out i hin)
        have hrd := Lib.hid (readerOf_any s wr)
        go_wp2_with fail
        refine hrd.out.mono ?_
        rintro e w1 ⟨rfl, hR1, hb1⟩
        unfold rdVals digF pt
        have hb1s := hb1.size
        have h6 := hR1.size
        have HR1 := Lib.hid (hR1.boxed (.cells (rdVals wr.heap.size) 49))
        have HX1 := Lib.hid (isBox_new w1 wr.heap.size 49)
        have HB1 := Lib.hid ((HB.out.trans (hb1.mono hbs)).alloc (by omega) (.cells (rdVals wr.heap.size) 49))
        clear hb1 hR1
        go_wp2_with fail
        change Calls Tryz.prog (fs i) #[.agg (rdVals wr.heap.size)] (w1.alloc (.cells (rdVals wr.heap.size) 49)) _
        refine ((HF.out i hin).ok wr.heap.size s _ HR1.out (by omega)).mono ?_
        rintro e w2 ⟨rfl, hR2, hK2⟩
        have HX2 := Lib.hid (HX1.out.kp hK2 (by omega))
        have hk2s := hK2.size
        have HB2 := Lib.hid (HB1.out.trans (hK2.below (C := w.heap.size) (by omega) (by simp; omega)))
        have HR2 := Lib.hid hR2
        have k8 := HX2.out.place
        unfold placeF at k8
        have hpl := Lib.hid (place_any w2 hR2)
        have hcons : (((List.range n).map Fs).drop i) = Fs i :: (((List.range n).map Fs).drop (i + 1)) := by
          rw [List.drop_eq_getElem_cons (by simpa using hin)]
          simp
        have hL := HL.out
        rw [hcons, Rd.formsLoop] at hL
        have HL' := Lib.hid hL
        clear hR2 hK2 hL hcons HL
        generalize Fs i s = F at HL' HR2 hpl ⊢
        go_wp2_with fail
        refine hpl.out.mono ?_
        rintro e w3 ⟨rfl, nd, rfl⟩
        have HB3 := Lib.hid (below_drewN HB2.out nd)
        clear k8 hpl
        cases hw : (F.2.2 && decide (F.2.1 = s.size))
        · have hL := HL'.out
          rw [hw, if_neg (by simp)] at hL
          have HL2 := Lib.hid hL
          clear hL HL' hw
          go_wp2
          go_roundw
          case rel => exact ⟨max a F.2.1, i + 1, congrArg (Value.int .i64) (by omega), by go_num, by omega, HB3.out, HL2.out⟩
          case measure => simp [intOf]; omega
        · have hL := HL'.out
          rw [hw, if_pos rfl] at hL
          subst hL
          clear HL' hw
          go_wp2
          go_ret3
          exact ⟨rfl, HB3.out⟩
      · have t2 : decide (i < n) = false := by simpa using hin
        have hL := HL.out
        rw [List.drop_of_length_le (by simp; omega), Rd.formsLoop] at hL
        subst hL
        clear HL hin
        go_wp2
        go_ret3
        exact ⟨rfl, HB.out⟩
end Go.Proofs.YthimnjegacdhaaaGreatDoor

/- Durations with letters, in plain words. -/
namespace Rd
/-- the last m of the letters h, m, s -/
def lets : Nat → ByteArray
  | 0 => ⟨#[]⟩
  | 1 => ⟨#[115]⟩
  | 2 => ⟨#[109, 115]⟩
  | _ => ⟨#[104, 109, 115]⟩
def unitOf (i : Int) : Int := if i = 0 then 3600 else if i = 1 then 60 else 1
def lettLoop (s : ByteArray) : Nat → Nat → Int → Nat → Bool → Int × Nat × Bool
  | 0, _, sum, p, ok => (sum, p, ok)
  | f + 1, m, sum, p, ok =>
    if m = 0 then (sum, p, ok) else
    let x := numAt s 7 0 9999999 ok p
    let k := oneAt s (lets m) x.2.2 (numOk 0 ok x)
    if k.1 < 0 then (0, k.2.1, k.2.2) else
    let sum' := sum + x.1 * unitOf (k.1 + 3 - m)
    if digAt s k.2.1 k.2.2 = true then lettLoop s f (m - (k.1 + 1).toNat) sum' k.2.1 k.2.2 else (sum', k.2.1, k.2.2)
def letteredF (s : ByteArray) : Int × Nat × Bool := lettLoop s 3 3 0 0 true
theorem lettLoop_end {s : ByteArray} {f : Nat} {sum : Int} {p : Nat} {ok : Bool} : lettLoop s f 0 sum p ok = (sum, p, ok) := by cases f <;> simp [lettLoop]
theorem lettLoop_none {s : ByteArray} {f m : Nat} {sum : Int} {p : Nat} {ok : Bool} {x : Int × Nat × Nat} {k : Int × Nat × Bool} (hm : m ≠ 0) (hx : numAt s 7 0 9999999 ok p = x) (hk : oneAt s (lets m) x.2.2 (numOk 0 ok x) = k) (h : k.1 < 0) :
    lettLoop s (f + 1) m sum p ok = (0, k.2.1, k.2.2) := by simp [lettLoop, hm, hx, hk, h]
theorem lettLoop_last {s : ByteArray} {f m : Nat} {sum : Int} {p : Nat} {ok : Bool} {x : Int × Nat × Nat} {k : Int × Nat × Bool} (hm : m ≠ 0) (hx : numAt s 7 0 9999999 ok p = x) (hk : oneAt s (lets m) x.2.2 (numOk 0 ok x) = k) (h : ¬ k.1 < 0)
    (hd : digAt s k.2.1 k.2.2 = false) : lettLoop s (f + 1) m sum p ok = (sum + x.1 * unitOf (k.1 + 3 - m), k.2.1, k.2.2) := by simp [lettLoop, hm, hx, hk, h, hd]
theorem lettLoop_next {s : ByteArray} {f m : Nat} {sum : Int} {p : Nat} {ok : Bool} {x : Int × Nat × Nat} {k : Int × Nat × Bool} (hm : m ≠ 0) (hx : numAt s 7 0 9999999 ok p = x) (hk : oneAt s (lets m) x.2.2 (numOk 0 ok x) = k) (h : ¬ k.1 < 0)
    (hd : digAt s k.2.1 k.2.2 = true) : lettLoop s (f + 1) m sum p ok = lettLoop s f (m - (k.1 + 1).toNat) (sum + x.1 * unitOf (k.1 + 3 - m)) k.2.1 k.2.2 := by simp [lettLoop, hm, hx, hk, h, hd]
theorem indexByte_lt (l : List UInt8) (c : UInt8) : Go.Lib.indexByte l c < l.length := by
  induction l with
  | nil => simp [Go.Lib.indexByte]
  | cons b l ih =>
    unfold Go.Lib.indexByte
    simp only [List.length_cons]
    split
    · omega
    · split <;> omega
theorem oneAt_lt (s t : ByteArray) (p : Nat) (ok : Bool) : (oneAt s t p ok).1 < t.size ∨ (oneAt s t p ok).1 < 0 := by
  unfold oneAt
  split
  · have := indexByte_lt t.data.toList (byte s p).toUInt8
    have e : (t.data.toList.length : Int) = t.size := rfl
    dsimp only
    split
    · left; show Go.Lib.indexByte _ _ < _; omega
    · right; show Go.Lib.indexByte _ _ < _; omega
  · right; show (-1 : Int) < 0; omega
theorem numAt_val (s : ByteArray) (digits : Nat) (least most : Int) (ok : Bool) (p : Nat) (hm : 0 ≤ most) : 0 ≤ (numAt s digits least most ok p).1 ∧ (numAt s digits least most ok p).1 ≤ most := by
  have := numLoop_val s digits least most ok digits 0 0 p (by omega) (by omega)
  unfold numAt; omega
end Rd

/- Durations with letters. -/
namespace Go.Proofs.YthimnjegacdhaaaGreatDoor
open Go.RowKit Go.BigFrame

def strLen : Value → Nat | .string t => t.size | _ => 0
theorem lets_size {m : Nat} (h : m ≤ 3) : (Rd.lets m).size = m := by
  rcases (show m = 0 ∨ m = 1 ∨ m = 2 ∨ m = 3 by omega) with rfl | rfl | rfl | rfl <;> rfl
theorem sum_bound {v u : Int} (h0 : 0 ≤ v) (h1 : v ≤ 9999999) (hu : u = 3600 ∨ u = 60 ∨ u = 1) : 0 ≤ v * u ∧ v * u ≤ 36000000000 := by
  rcases hu with rfl | rfl | rfl <;> omega

set_option maxHeartbeats 4000000 in
set_option maxRecDepth 100000 in
theorem lettered_form : FormOk 68 Rd.letteredF := by
  intro B s w h hs
  have hsz := h.size
  have hb0 := ((Below.refl w.heap.size w).alloc (Nat.le_refl _) (.cells (rdVals B) 49)).alloc (by simp) (.cells #[.int .i64 3600, .int .i64 60, .int .i64 1] 3)
  have hR0 := Lib.hid (h.kept hb0)
  have hK0 := Lib.hid (Kp.of_below (B := B) hb0)
  have hX0 := Lib.hid ((isBox_new w B 49).kp (Kp.of_below (B := B) ((Below.refl _ _).alloc (Nat.le_refl _) (.cells #[.int .i64 3600, .int .i64 60, .int .i64 1] 3))) (by omega))
  obtain ⟨z, hz⟩ : ∃ z, z = Rd.letteredF s := ⟨_, rfl⟩
  rw [← hz]
  have Hz := Lib.hid (hz.symm : Rd.lettLoop s 3 3 0 0 true = z)
  clear h hb0 hz
  go_enter Tryz.func68, Tryz.ntmps68
  go_wp2_with fail
  go_loopw [3, 5] (fun sv lv wr => ∃ (sum : Int) (m f p : Nat) (ok : Bool), sv = .int .i64 sum ∧ lv = .string (Rd.lets m) ∧ m ≤ 3 ∧ m ≤ f ∧ 0 ≤ sum ∧ sum ≤ 36000000000 * (3 - m) ∧ IsRd wr B s p ok ∧ IsBox wr w.heap.size B ∧ Kp B w wr ∧
      wr.cell? ⟨w.heap.size + 1, 0, none⟩ = some (.int .i64 3600) ∧ wr.cell? ⟨w.heap.size + 1, 1, none⟩ = some (.int .i64 60) ∧ wr.cell? ⟨w.heap.size + 1, 2, none⟩ = some (.int .i64 1) ∧ Rd.lettLoop s f m sum p ok = z) (fun _ lv _ => strLen lv)
  case atStart =>
    exact ⟨0, 3, 3, 0, true, rfl, rfl, by omega, by omega, by omega, by omega, hR0.out, hX0.out, hK0.out, by rw [World.cell?_alloc_at _ _ _ _ (by simp)]; rfl, by rw [World.cell?_alloc_at _ _ _ _ (by simp)]; rfl, by rw [World.cell?_alloc_at _ _ _ _ (by simp)]; rfl, Hz.out⟩
  case round =>
    obtain ⟨sum, m, f, p, ok, rfl, rfl, hm, hf, hs0, hs1, hR, hX, hK, u0, u1, u2, hL⟩ := hrel
    have HR := Lib.hid hR
    have HX := Lib.hid hX
    have HK := Lib.hid hK
    have HL := Lib.hid hL
    have k0 := hX.num
    unfold numF at k0
    clear hR hX hK hL Hz hR0 hX0 hK0
    by_cases hm0 : m = 0
    · subst hm0
      have hL := HL.out
      rw [Rd.lettLoop_end] at hL
      subst hL
      unfold Rd.lets
      clear HL
      go_wp2
      go_ret
      exact ⟨rfl, HR.out, HK.out⟩
    · have hne : (!(Rd.lets m).toList.isEmpty) = true := by
        rcases (show m = 1 ∨ m = 2 ∨ m = 3 by omega) with rfl | rfl | rfl <;> kernel_rfl
      have hne2 : (Rd.lets m).toList.isEmpty = false := by simpa using hne
      obtain ⟨f, rfl⟩ : ∃ g, f = g + 1 := ⟨f - 1, by omega⟩
      have hlm := lets_size hm
      have hnum := Lib.hid (number_any 7 0 9999999 wr HR.out (by omega) (by omega))
      have hv := Rd.numAt_val s 7 0 9999999 ok p (by omega)
      generalize hx : Rd.numAt s 7 0 9999999 ok p = x at hnum hv
      have hone := Lib.hid (fun w (h : IsRd w B s x.2.2 (Rd.numOk 0 ok x)) => one_any (Rd.lets m) w h (by omega))
      have hk := Rd.oneAt_lt s (Rd.lets m) x.2.2 (Rd.numOk 0 ok x)
      rw [hlm] at hk
      generalize hkk : Rd.oneAt s (Rd.lets m) x.2.2 (Rd.numOk 0 ok x) = k at hone hk
      have Hx := Lib.hid hx
      have Hk := Lib.hid hkk
      have v0 := hv.1
      have v1 := hv.2
      generalize hxv : x.1 = xv at v0 v1 hnum
      have Hxv := Lib.hid hxv
      generalize hkv : k.1 = kv at hk hone
      have Hkv := Lib.hid hkv
      clear hx hkk hv hlm hxv hkv
      go_wp2_with fail
      refine hnum.out.mono ?_
      rintro e w1 ⟨rfl, hR1, hK1⟩
      have HX1 := Lib.hid (HX.out.kp hK1 (by omega))
      have k4 := HX1.out.one
      unfold oneF at k4
      have HR1 := Lib.hid hR1
      have HK1 := Lib.hid (HK.out.trans hK1)
      have U0 := IsRd.of_kp hK1 u0 (by omega) (by omega)
      have U1 := IsRd.of_kp hK1 u1 (by omega) (by omega)
      have U2 := IsRd.of_kp hK1 u2 (by omega) (by omega)
      clear hR1 hK1 k0 HX u0 u1 u2 hnum
      go_wp2_with fail
      refine (hone.out _ HR1.out).mono ?_
      rintro e w2 ⟨rfl, hR2, hK2⟩
      have HX2 := Lib.hid (HX1.out.kp hK2 (by omega))
      have k7 := HX2.out.dig
      unfold digF' at k7
      have HR2 := Lib.hid hR2
      have HK2 := Lib.hid (HK1.out.trans hK2)
      have u0 := IsRd.of_kp hK2 U0 (by omega) (by omega)
      have u1 := IsRd.of_kp hK2 U1 (by omega) (by omega)
      have u2 := IsRd.of_kp hK2 U2 (by omega) (by omega)
      clear hR2 hK2 k4 HX1 U0 U1 U2 hone HR1 HK1 HR HK
      by_cases hkn : kv < 0
      · have t1 : decide (kv < 0) = true := by simpa using hkn
        have hL := HL.out
        rw [Rd.lettLoop_none hm0 Hx.out Hk.out (by rw [Hkv.out]; exact hkn)] at hL
        subst hL
        clear hk hkn HL
        go_wp2
        go_ret
        exact ⟨rfl, HR2.out, HK2.out⟩
      · have t1 : decide (kv < 0) = false := by simpa using hkn
        obtain ⟨kn, rfl⟩ := Int.eq_ofNat_of_zero_le (show 0 ≤ kv by omega)
        have hkm : kn < m := by omega
        have hdig := Lib.hid (digit_any w2 HR2.out)
        have h6 : (m = 1 ∧ kn = 0) ∨ (m = 2 ∧ kn = 0) ∨ (m = 2 ∧ kn = 1) ∨ (m = 3 ∧ kn = 0) ∨ (m = 3 ∧ kn = 1) ∨ (m = 3 ∧ kn = 2) := by omega
        cases hdg : Rd.digAt s k.2.1 k.2.2
        · have hL := HL.out
          rw [Rd.lettLoop_last hm0 Hx.out Hk.out (by rw [Hkv.out]; exact hkn) hdg, Hkv.out, Hxv.out] at hL
          rw [hdg] at hdig
          have HL2 := Lib.hid hL
          clear hL HL hdg hk hkn hkm
          rcases h6 with ⟨rfl, rfl⟩ | ⟨rfl, rfl⟩ | ⟨rfl, rfl⟩ | ⟨rfl, rfl⟩ | ⟨rfl, rfl⟩ | ⟨rfl, rfl⟩
          · have hb := sum_bound v0 v1 (u := 1) (by omega)
            clear hm0 hne hne2
            unfold Rd.lets
            go_wp2_with fail
            refine hdig.out.mono ?_
            rintro e w3 ⟨rfl, rfl⟩
            go_wp2
            go_ret
            rw [← HL2.out]
            refine ⟨ret_int ?_, HR2.out, HK2.out⟩
            show _ = sum + xv * 1
            omega
          · have hb := sum_bound v0 v1 (u := 60) (by omega)
            clear hm0 hne hne2
            unfold Rd.lets
            go_wp2_with fail
            refine hdig.out.mono ?_
            rintro e w3 ⟨rfl, rfl⟩
            go_wp2
            go_ret
            rw [← HL2.out]
            refine ⟨ret_int ?_, HR2.out, HK2.out⟩
            show _ = sum + xv * 60
            omega
          · have hb := sum_bound v0 v1 (u := 1) (by omega)
            clear hm0 hne hne2
            unfold Rd.lets
            go_wp2_with fail
            refine hdig.out.mono ?_
            rintro e w3 ⟨rfl, rfl⟩
            go_wp2
            go_ret
            rw [← HL2.out]
            refine ⟨ret_int ?_, HR2.out, HK2.out⟩
            show _ = sum + xv * 1
            omega
          · have hb := sum_bound v0 v1 (u := 3600) (by omega)
            clear hm0 hne hne2
            unfold Rd.lets
            go_wp2_with fail
            refine hdig.out.mono ?_
            rintro e w3 ⟨rfl, rfl⟩
            go_wp2
            go_ret
            rw [← HL2.out]
            refine ⟨ret_int ?_, HR2.out, HK2.out⟩
            show _ = sum + xv * 3600
            omega
          · have hb := sum_bound v0 v1 (u := 60) (by omega)
            clear hm0 hne hne2
            unfold Rd.lets
            go_wp2_with fail
            refine hdig.out.mono ?_
            rintro e w3 ⟨rfl, rfl⟩
            go_wp2
            go_ret
            rw [← HL2.out]
            refine ⟨ret_int ?_, HR2.out, HK2.out⟩
            show _ = sum + xv * 60
            omega
          · have hb := sum_bound v0 v1 (u := 1) (by omega)
            clear hm0 hne hne2
            unfold Rd.lets
            go_wp2_with fail
            refine hdig.out.mono ?_
            rintro e w3 ⟨rfl, rfl⟩
            go_wp2
            go_ret
            rw [← HL2.out]
            refine ⟨ret_int ?_, HR2.out, HK2.out⟩
            show _ = sum + xv * 1
            omega
        · have hL := HL.out
          rw [Rd.lettLoop_next hm0 Hx.out Hk.out (by rw [Hkv.out]; exact hkn) hdg, Hkv.out, Hxv.out] at hL
          rw [hdg] at hdig
          have HL2 := Lib.hid hL
          clear hL HL hdg hk hkn hkm
          rcases h6 with ⟨rfl, rfl⟩ | ⟨rfl, rfl⟩ | ⟨rfl, rfl⟩ | ⟨rfl, rfl⟩ | ⟨rfl, rfl⟩ | ⟨rfl, rfl⟩
          · have hb := sum_bound v0 v1 (u := 1) (by omega)
            clear hm0 hne hne2
            unfold Rd.lets
            go_wp2_with fail
            refine hdig.out.mono ?_
            rintro e w3 ⟨rfl, rfl⟩
            go_wp2
            go_roundw
            case rel =>
              refine ⟨sum + xv * 1, 0, f, k.2.1, k.2.2, ?_, ?_, by omega, by omega, by omega, by omega, HR2.out, HX2.out, HK2.out, u0, u1, u2, HL2.out⟩
              · exact congrArg (Value.int .i64) (by omega)
              · first | rfl | kernel_rfl
            case measure => first | (simp [strLen]; done) | decide | (show (_ : Nat) < _; kernel_rfl)
          · have hb := sum_bound v0 v1 (u := 60) (by omega)
            clear hm0 hne hne2
            unfold Rd.lets
            go_wp2_with fail
            refine hdig.out.mono ?_
            rintro e w3 ⟨rfl, rfl⟩
            go_wp2
            go_roundw
            case rel =>
              refine ⟨sum + xv * 60, 1, f, k.2.1, k.2.2, ?_, ?_, by omega, by omega, by omega, by omega, HR2.out, HX2.out, HK2.out, u0, u1, u2, HL2.out⟩
              · exact congrArg (Value.int .i64) (by omega)
              · first | rfl | kernel_rfl
            case measure => first | (simp [strLen]; done) | decide | (show (_ : Nat) < _; kernel_rfl)
          · have hb := sum_bound v0 v1 (u := 1) (by omega)
            clear hm0 hne hne2
            unfold Rd.lets
            go_wp2_with fail
            refine hdig.out.mono ?_
            rintro e w3 ⟨rfl, rfl⟩
            go_wp2
            go_roundw
            case rel =>
              refine ⟨sum + xv * 1, 0, f, k.2.1, k.2.2, ?_, ?_, by omega, by omega, by omega, by omega, HR2.out, HX2.out, HK2.out, u0, u1, u2, HL2.out⟩
              · exact congrArg (Value.int .i64) (by omega)
              · first | rfl | kernel_rfl
            case measure => first | (simp [strLen]; done) | decide | (show (_ : Nat) < _; kernel_rfl)
          · have hb := sum_bound v0 v1 (u := 3600) (by omega)
            clear hm0 hne hne2
            unfold Rd.lets
            go_wp2_with fail
            refine hdig.out.mono ?_
            rintro e w3 ⟨rfl, rfl⟩
            go_wp2
            go_roundw
            case rel =>
              refine ⟨sum + xv * 3600, 2, f, k.2.1, k.2.2, ?_, ?_, by omega, by omega, by omega, by omega, HR2.out, HX2.out, HK2.out, u0, u1, u2, HL2.out⟩
              · exact congrArg (Value.int .i64) (by omega)
              · first | rfl | kernel_rfl
            case measure => first | (simp [strLen]; done) | decide | (show (_ : Nat) < _; kernel_rfl)
          · have hb := sum_bound v0 v1 (u := 60) (by omega)
            clear hm0 hne hne2
            unfold Rd.lets
            go_wp2_with fail
            refine hdig.out.mono ?_
            rintro e w3 ⟨rfl, rfl⟩
            go_wp2
            go_roundw
            case rel =>
              refine ⟨sum + xv * 60, 1, f, k.2.1, k.2.2, ?_, ?_, by omega, by omega, by omega, by omega, HR2.out, HX2.out, HK2.out, u0, u1, u2, HL2.out⟩
              · exact congrArg (Value.int .i64) (by omega)
              · first | rfl | kernel_rfl
            case measure => first | (simp [strLen]; done) | decide | (show (_ : Nat) < _; kernel_rfl)
          · have hb := sum_bound v0 v1 (u := 1) (by omega)
            clear hm0 hne hne2
            unfold Rd.lets
            go_wp2_with fail
            refine hdig.out.mono ?_
            rintro e w3 ⟨rfl, rfl⟩
            go_wp2
            go_roundw
            case rel =>
              refine ⟨sum + xv * 1, 0, f, k.2.1, k.2.2, ?_, ?_, by omega, by omega, by omega, by omega, HR2.out, HX2.out, HK2.out, u0, u1, u2, HL2.out⟩
              · exact congrArg (Value.int .i64) (by omega)
              · first | rfl | kernel_rfl
            case measure => first | (simp [strLen]; done) | decide | (show (_ : Nat) < _; kernel_rfl)
end Go.Proofs.YthimnjegacdhaaaGreatDoor

/- ReadDuration; what every law asks besides: told. -/
namespace Go.Proofs.YthimnjegacdhaaaGreatDoor
open Go.RowKit Go.BigFrame

def durForms : Nat → FuncId | 0 => 66 | 1 => 67 | _ => 68
def durFs : Nat → ByteArray → Int × Nat × Bool | 0 => Rd.shortF | 1 => Rd.longF | _ => Rd.letteredF
theorem dur_isForm (j : Nat) (hj : j < 3) : IsForm (durForms j) (durFs j) := by
  rcases (show j = 0 ∨ j = 1 ∨ j = 2 by omega) with rfl | rfl | rfl
  · exact ⟨fun _ _ => by kernel_rfl, short_form⟩
  · exact ⟨fun _ _ => by kernel_rfl, long_form⟩
  · exact ⟨fun _ _ => by kernel_rfl, lettered_form⟩
def readDur (s : ByteArray) : Int × Nat × Int := Rd.ranged (Rd.readForms s [Rd.shortF, Rd.longF, Rd.letteredF]) 0 3599999
theorem readDuration_any (s : ByteArray) (w : World) (hs : s.size ≤ 9223372036854775807) :
    Calls Tryz.prog 44 #[.string s] w fun r w' => r = .returned (.tuple #[.int .i64 (readDur s).1, .int .i64 (readDur s).2.1, .int .i64 (readDur s).2.2]) ∧ Below w.heap.size w w' := by
  obtain ⟨z, hz⟩ : ∃ z, Rd.readForms s ((List.range 3).map durFs) = z := ⟨_, rfl⟩
  have hrf := fun (w : World) (R : Nat) (hR : R < w.heap.size) hf => readForms_any s w R 3 durForms durFs (by omega) hR hf dur_isForm hs z hz
  have Hrf := Lib.hid hrf
  have hd : readDur s = Rd.ranged z 0 3599999 := by rw [← hz]; rfl
  rw [hd]
  obtain ⟨n, a, e⟩ := z
  have hra := Lib.hid (ranged_any n e 0 3599999 a)
  generalize Rd.ranged (n, a, e) 0 3599999 = y at hra ⊢
  clear hz hd hrf
  go_enter Tryz.func44, Tryz.ntmps44
  go_wp2_with fail
  refine (Hrf.out _ w.heap.size (by simp) ?hf).mono ?_
  case hf =>
    intro j hj
    rw [World.cell?_alloc_at _ _ _ _ rfl]
    rcases (show j = 0 ∨ j = 1 ∨ j = 2 by omega) with rfl | rfl | rfl <;> rfl
  rintro r w1 ⟨rfl, hb1⟩
  have HB := Lib.hid (((Below.refl w.heap.size w).alloc (Nat.le_refl _) _).trans (hb1.mono (by simp)))
  clear hb1
  go_wp2_with fail
  refine (hra.out _).mono ?_
  rintro r w2 ⟨rfl, rfl⟩
  go_wp2
  go_ret3
  exact ⟨rfl, HB.out⟩
theorem told_dur : readDur ⟨#[49, 104, 53, 115]⟩ = (3605, 0, 0) := by decide +kernel
theorem told_sc : Sc.sc (-7) 1 2 5 = (-4, 0) := by decide +kernel
theorem told_any (w : World) : Calls Tryz.prog 15 #[] w fun e w' => e = .returned (.bool true) ∧ Below w.heap.size w w' := by
  have h1 := Lib.hid (scale_any (-7) 1 2 5 w (by omega) (by omega) (by omega) (by omega))
  have h2 := Lib.hid (fun w => readDuration_any ⟨#[49, 104, 53, 115]⟩ w (by decide))
  rw [told_dur] at h2
  rw [told_sc] at h1
  unfold scRet at h1
  go_enter Tryz.func15, Tryz.ntmps15
  go_wp2_with fail
  refine h1.out.mono ?_
  rintro e w1 ⟨rfl, hb⟩
  go_wp2_with fail
  refine (h2.out _).mono ?_
  rintro e w2 ⟨rfl, hb2⟩
  have HB := Lib.hid (hb.trans (hb2.mono hb.size))
  clear hb hb2
  go_wp2
  go_ret
  exact ⟨rfl, HB.out⟩
end Go.Proofs.YthimnjegacdhaaaGreatDoor

/- The law QuantRoundsAreNear: its walk. -/
namespace Go.Proofs.YthimnjegacdhaaaGreatDoor
open Go.RowKit Go.BigFrame

def Whole (w : World) (e : Ending) (w' : World) : Prop := e = .returned (.bool true) ∧ Below w.heap.size w w'
end Go.Proofs.YthimnjegacdhaaaGreatDoor

/- Days and weeks: the program. -/
namespace Go.Proofs.YthimnjegacdhaaaGreatDoor
open Go.RowKit Go.BigFrame

def dayB (n : Int) : Bool := decide (0 ≤ n) && decide (n ≤ 999999)
theorem isDay_any (n : Int) (w : World) : Calls Tryz.prog 46 #[.int .i64 n] w fun e w' => e = .returned (.bool (dayB n)) ∧ w = w' := by
  cases h : decide (0 ≤ n)
  all_goals
    go_enter Tryz.func46, Tryz.ntmps46
    go_wp2
    go_ret
    exact ⟨ret_bool (by simp [dayB, h]), rfl⟩

set_option maxHeartbeats 1000000 in
set_option maxRecDepth 100000 in
theorem dateOf_walk (day era n o k m : Int) (w : World) (h1 : -700000 ≤ day) (h2 : day ≤ 100000000) (e1 : (day + 730427) / 146097 = era) (e2 : (day + 730427) % 146097 = n) (e3 : (n - n / 1460 + n / 36524 - n / 146096) / 365 = o)
    (e4 : n - (365 * o + o / 4 - o / 100) = k) (e5 : (5 * k + 2) / 153 = m) (_n0 : 0 ≤ n) (_n1 : n ≤ 146096) (o0 : 0 ≤ o) (o1 : o ≤ 399) (k0 : 0 ≤ k) (k1 : k ≤ 365) (m0 : 0 ≤ m) (m1 : m ≤ 11) (r0 : 0 ≤ era) (r1 : era ≤ 1000) :
    Calls Tryz.prog 47 #[.int .i64 day] w fun e w' =>
      e = .returned (.tuple #[.int .i64 (if 12 < m + 3 then era * 400 + o + 1 else era * 400 + o), .int .i64 (if 12 < m + 3 then m + 3 - 12 else m + 3), .int .i64 (k - (153 * m + 2) / 5 + 1)]) ∧ w = w' := by
  by_cases h : 12 < m + 3
  · have c : decide (12 < m + 3) = true := by simpa using h
    rw [if_pos h, if_pos h]
    clear h
    go_enter Tryz.func47, Tryz.ntmps47
    go_wp2
    go_ret3
    exact ⟨rfl, rfl⟩
  · have c : decide (12 < m + 3) = false := by simpa using h
    rw [if_neg h, if_neg h]
    clear h
    go_enter Tryz.func47, Tryz.ntmps47
    go_wp2
    go_ret3
    exact ⟨rfl, rfl⟩
theorem dateOf_any (day : Int) (w : World) (h1 : -700000 ≤ day) (h2 : day ≤ 100000000) :
    Calls Tryz.prog 47 #[.int .i64 day] w fun e w' => e = .returned (.tuple #[.int .i64 (Cal.yearOf day), .int .i64 (Cal.monthOf day), .int .i64 (Cal.dateOf day)]) ∧ w = w' := by
  obtain ⟨b1, b2, b3, b4, b5, b6, b7, b8⟩ := Cal.bounds day
  exact dateOf_walk day (Cal.eraOf day) (Cal.inEra day) (Cal.yoeOf day) (Cal.doyOf day) (Cal.mpOf day) w h1 h2 rfl rfl rfl rfl rfl b1 (by omega) b3 (by omega) b5 b6 b7 b8 (by unfold Cal.eraOf; omega) (by unfold Cal.eraOf; omega)

set_option maxHeartbeats 1000000 in
set_option maxRecDepth 100000 in
theorem dayNumber_walk (y m d y' e f g : Int) (w : World) (h0 : 1 ≤ y) (h1 : y ≤ 100000) (m0 : 1 ≤ m) (m1 : m ≤ 12) (d0 : 1 ≤ d) (d1 : d ≤ 31) (hy : Hid (y' = if m < 3 then y - 1 else y)) (y0 : 0 ≤ y') (y1 : y' ≤ 100000)
    (e1 : y' / 400 = e) (e2 : y' % 400 = f) (e3 : (153 * ((m + 9) % 12) + 2) / 5 = g) (e0 : 0 ≤ e) (e10 : e ≤ 1000) (_f0 : 0 ≤ f) (_f1 : f ≤ 399) (g0 : 0 ≤ g) (g1 : g ≤ 400) :
    Calls Tryz.prog 45 #[.int .i64 y, .int .i64 m, .int .i64 d] w fun r w' =>
      r = .returned (.int .i64 (e * 146097 + f * 365 + f / 4 - f / 100 + g + d - 1 - 730427)) ∧ w = w' := by
  by_cases h : m < 3
  · have hy' := hy.out
    rw [if_pos h] at hy'
    have ey : y - 1 = y' := hy'.symm
    have c : decide (m < 3) = true := by simpa using h
    clear h hy hy'
    go_enter Tryz.func45, Tryz.ntmps45
    go_wp2
    go_ret
    exact ⟨rfl, rfl⟩
  · have hy' := hy.out
    rw [if_neg h] at hy'
    subst hy'
    have c : decide (m < 3) = false := by simpa using h
    clear h hy
    go_enter Tryz.func45, Tryz.ntmps45
    go_wp2
    go_ret
    exact ⟨rfl, rfl⟩
theorem dayNumber_any (y m d : Int) (w : World) (h0 : 1 ≤ y) (h1 : y ≤ 100000) (m0 : 1 ≤ m) (m1 : m ≤ 12) (d0 : 1 ≤ d) (d1 : d ≤ 31) :
    Calls Tryz.prog 45 #[.int .i64 y, .int .i64 m, .int .i64 d] w fun r w' => r = .returned (.int .i64 (Cal.dayNum y m d)) ∧ w = w' := by
  have hy : 0 ≤ (if m < 3 then y - 1 else y) ∧ (if m < 3 then y - 1 else y) ≤ 100000 := by split <;> omega
  obtain ⟨y', hy'⟩ : ∃ z, z = if m < 3 then y - 1 else y := ⟨_, rfl⟩
  rw [← hy'] at hy
  have := dayNumber_walk y m d y' (y' / 400) (y' % 400) ((153 * ((m + 9) % 12) + 2) / 5) w h0 h1 m0 m1 d0 d1 (Lib.hid hy') hy.1 hy.2 rfl rfl rfl (by omega) (by omega) (by omega) (by omega) (by omega) (by omega)
  unfold Cal.dayNum
  simp only [← hy']
  exact this

def okDay (n : Int) (e : Int) : Ending := .returned (.tuple #[.int .i64 n, .int .i64 e])
def weekdayF (day : Int) : Int × Int := if dayB day = true then (day % 7, 0) else (0, 9)
theorem dayB_true {n : Int} (h : dayB n = true) : 0 ≤ n ∧ n ≤ 999999 := by unfold dayB at h; simpa using h
def tri (p : Int × Int × Int) : Ending := .returned (.tuple #[.int .i64 p.1, .int .i64 p.2.1, .int .i64 p.2.2])
def thu (day : Int) : Int := day - day % 7 + 3
def weekF (day : Int) : Int × Int × Int := if dayB day = true then (Cal.yearOf (thu day), (thu day - Cal.dn (Cal.yearOf (thu day))) / 7 + 1, 0) else (0, 0, 9)
theorem dn_two : Cal.dn 2000 = -2 ∧ Cal.dn 4740 = 1000762 := by decide
theorem year_range {t : Int} (h0 : 0 ≤ t) (h1 : t ≤ 1000010) : 2000 ≤ Cal.yearOf t ∧ Cal.yearOf t ≤ 4740 := by
  have ⟨a, b⟩ := Cal.yr_spec t
  rw [Cal.yearOf_yr]
  have ⟨d1, d2⟩ := dn_two
  have c1 : 2000 ≤ Cal.yr t := Cal.dn_lt (by omega)
  have c2 : Cal.yr t ≤ 4740 := Cal.dn_lt (by have := Cal.dn_mono1 4740; omega)
  exact ⟨c1, c2⟩
end Go.Proofs.YthimnjegacdhaaaGreatDoor

/- Days and weeks: the reference. -/
namespace Go.Proofs.YthimnjegacdhaaaGreatDoor
open Go.RowKit Go.BigFrame

theorem leap_any (y : Int) (w : World) (h0 : 0 ≤ y) : Calls Tryz.prog 70 #[.int .i64 y] w fun e w' => e = .returned (.bool (Cal.leap y)) ∧ w = w' := by
  cases h1 : (y % 4 == 0)
  · go_enter Tryz.func70, Tryz.ntmps70
    go_wp2
    go_ret
    exact ⟨ret_bool (by simp [Cal.leap, h1]), rfl⟩
  · cases h2 : (y % 100 != 0)
    · go_enter Tryz.func70, Tryz.ntmps70
      go_wp2
      go_ret
      exact ⟨ret_bool (by simp [Cal.leap, h1, h2]), rfl⟩
    · go_enter Tryz.func70, Tryz.ntmps70
      go_wp2
      go_ret
      exact ⟨ret_bool (by simp [Cal.leap, h1, h2]), rfl⟩
theorem yearLong_any (y : Int) (w : World) (h0 : 0 ≤ y) : Calls Tryz.prog 49 #[.int .i64 y] w fun e w' => e = .returned (.int .i64 (Cal.yl y)) ∧ w = w' := by
  have hl := Lib.hid (leap_any y)
  unfold Cal.yl
  cases h : Cal.leap y
  all_goals
    rw [h] at hl
    clear h
    go_enter Tryz.func49, Tryz.ntmps49
    go_wp2_with fail
    refine (hl.out _ h0).mono ?_
    rintro e w1 ⟨rfl, rfl⟩
    go_wp2
    go_ret
    exact ⟨rfl, rfl⟩
theorem monthLong_any (y m : Int) (w : World) (h0 : 0 ≤ y) : Calls Tryz.prog 50 #[.int .i64 y, .int .i64 m] w fun e w' => e = .returned (.int .i64 (Cal.ml y m)) ∧ w = w' := by
  have hy := Lib.hid (yearLong_any y)
  have hc := Cal.yl_cases y
  have c0 : 365 ≤ Cal.yl y := by omega
  have c1 : Cal.yl y ≤ 366 := by omega
  clear hc
  unfold Cal.ml
  generalize Cal.yl y = L at hy c0 c1 ⊢
  cases h2 : (m == 2)
  · have n2 : m ≠ 2 := by simpa using h2
    rw [if_neg n2]
    clear n2
    cases h4 : (m == 4)
    · cases h6 : (m == 6)
      · cases h9 : (m == 9)
        · cases h11 : (m == 11)
          · rw [if_neg (by simp only [beq_eq_false_iff_ne] at h4 h6 h9 h11; omega)]
            go_enter Tryz.func50, Tryz.ntmps50
            go_wp2
            go_ret
            exact ⟨rfl, rfl⟩
          · rw [if_pos (by simp only [beq_iff_eq] at h11; omega)]
            go_enter Tryz.func50, Tryz.ntmps50
            go_wp2
            go_ret
            exact ⟨rfl, rfl⟩
        · rw [if_pos (by simp only [beq_iff_eq] at h9; omega)]
          go_enter Tryz.func50, Tryz.ntmps50
          go_wp2
          go_ret
          exact ⟨rfl, rfl⟩
      · rw [if_pos (by simp only [beq_iff_eq] at h6; omega)]
        go_enter Tryz.func50, Tryz.ntmps50
        go_wp2
        go_ret
        exact ⟨rfl, rfl⟩
    · rw [if_pos (by simp only [beq_iff_eq] at h4; omega)]
      go_enter Tryz.func50, Tryz.ntmps50
      go_wp2
      go_ret
      exact ⟨rfl, rfl⟩
  · have n2 : m = 2 := by simpa using h2
    rw [if_pos n2]
    clear n2
    go_enter Tryz.func50, Tryz.ntmps50
    go_wp2_with fail
    refine (hy.out _ h0).mono ?_
    rintro e w1 ⟨rfl, rfl⟩
    go_wp2
    go_ret
    exact ⟨rfl, rfl⟩

set_option maxHeartbeats 1000000 in
set_option maxRecDepth 100000 in
theorem before_any (y : Int) (w : World) (h0 : 2000 ≤ y) (h1 : y ≤ 100000) : Calls Tryz.prog 69 #[.int .i64 y] w fun e w' => e = .returned (.int .i64 (Cal.dn y + 2)) ∧ w' = w := by
  obtain ⟨Q, eQ⟩ : ∃ Q, (y - 2000) / 400 = Q := ⟨_, rfl⟩
  obtain ⟨R, eR⟩ : ∃ R : Nat, (y - 2000) % 400 = R := ⟨((y - 2000) % 400).toNat, by omega⟩
  have q0 : 0 ≤ Q := by omega
  have q1 : Q ≤ 300 := by omega
  have r1 : (R : Int) ≤ 399 := by omega
  have hb := Cal.before_dn y
  rw [eQ, eR, Int.toNat_natCast] at hb
  have Hb := Lib.hid hb
  clear hb
  go_enter Tryz.func69, Tryz.ntmps69
  go_wp2_with fail
  go_loop [3, 4] (fun nv yv => ∃ (n : Int) (k : Nat), nv = .int .i64 n ∧ yv = .int .i64 (2000 + (k : Int)) ∧ k ≤ R ∧ n = Q * 146097 + Cal.suml 2000 k) (fun _ yv => (2000 + (R : Int) - intOf yv).toNat)
  case atStart => exact ⟨Q * 146097, 0, rfl, rfl, by omega, by simp [Cal.suml]⟩
  case round =>
    obtain ⟨n, k, rfl, rfl, hk, hn⟩ := hrel
    have hs := Cal.suml_dn 2000 k
    have hd1 := Cal.dn_mono 2000 k
    have hd2 : Cal.dn (2000 + k) ≤ Cal.dn 2000 + 366 * k := by
      clear hs hn hd1 hk
      induction k with
      | zero => simp
      | succ k ih => have := Cal.dn_mono1 (2000 + k); rw [show (2000 : Int) + ((k + 1 : Nat) : Int) = 2000 + k + 1 by omega]; omega
    have b0 : 0 ≤ n := by omega
    have b1 : n ≤ 100000000 := by omega
    have Hn := Lib.hid hn
    clear hs hd1 hd2 hn
    by_cases hlt : k < R
    · have c1 : decide ((2000 : Int) + k < 2000 + R) = true := by rw [decide_eq_true_eq]; omega
      have c2 : decide (k < R) = true := by simpa using hlt
      have hyl := Lib.hid (yearLong_any (2000 + (k : Int)))
      have hyc := Cal.yl_cases (2000 + (k : Int))
      have hsucc := Lib.hid (show Cal.suml 2000 (k + 1) = Cal.suml 2000 k + Cal.yl (2000 + k) from rfl)
      have yc0 : 365 ≤ Cal.yl (2000 + (k : Int)) := by omega
      have yc1 : Cal.yl (2000 + (k : Int)) ≤ 366 := by omega
      generalize Cal.yl (2000 + (k : Int)) = L at hyl hsucc yc0 yc1 hyc
      clear hyc
      go_wp2_with fail
      refine (hyl.out _ (by omega)).mono ?_
      rintro e w1 ⟨rfl, rfl⟩
      go_wp2
      go_round
      case rel =>
        refine ⟨trivial, ?_⟩
        rw [eQ]
        repeat apply Exists.intro
        exact ⟨⟨n + L, k + 1, rfl, congrArg (Value.int .i64) (by omega), by omega, by rw [hsucc.out, Hn.out]; omega⟩, rfl⟩
      case measure => simp [intOf]; omega
    · have c1 : decide ((2000 : Int) + k < 2000 + R) = false := by rw [decide_eq_false_iff_not]; omega
      have c2 : decide (k < R) = false := by simpa using hlt
      have he : k = R := by omega
      have hfin := Lib.hid (show n = Cal.dn y + 2 by rw [Hn.out, he, Hb.out])
      clear he
      go_wp2
      go_ret
      exact ⟨ret_int hfin.out, rfl⟩
set_option maxRecDepth 100000 in
theorem dayOf_jan4 (y : Int) (w : World) (h0 : 2000 ≤ y) (h1 : y ≤ 4740) : Calls Tryz.prog 48 #[.int .i64 y, .int .i64 1, .int .i64 4] w fun e w' => e = .returned (.tuple #[.int .i64 (Cal.dn y + 3), .bool true]) ∧ w = w' := by
  have ho := Lib.hid (outside_any y 1990 4740)
  rw [show (decide (y < 1990) || decide (4740 < y)) = false by simp; omega] at ho
  have ho2 := Lib.hid (outside_any 1 1 12)
  rw [show (decide ((1 : Int) < 1) || decide ((12 : Int) < 1)) = false from rfl] at ho2
  have hm := Lib.hid (monthLong_any y 1)
  rw [show Cal.ml y 1 = 31 from rfl] at hm
  have ho3 := Lib.hid (outside_any 4 1 31)
  rw [show (decide ((4 : Int) < 1) || decide ((31 : Int) < 4)) = false from rfl] at ho3
  have hb := Lib.hid (before_any y)
  have hd := Cal.dn_mono 2000 (y - 2000).toNat
  rw [show 2000 + (((y - 2000).toNat : Nat) : Int) = y by omega] at hd
  have d0 : -2 ≤ Cal.dn y := by have := dn_two.1; omega
  have d1 : Cal.dn y ≤ 10000000 := by
    have h := Cal.dn_mono y (4740 - y).toNat
    rw [show y + (((4740 - y).toNat : Nat) : Int) = 4740 by omega] at h
    have := dn_two.2; omega
  clear hd
  generalize Cal.dn y = D at hb d0 d1 ⊢
  have c1 : decide (y < 2000) = false := by rw [decide_eq_false_iff_not]; omega
  go_enter Tryz.func48, Tryz.ntmps48
  go_wp2_with fail
  refine (ho.out _).mono ?_
  rintro e w1 ⟨rfl, rfl⟩
  go_wp2_with fail
  refine (ho2.out _).mono ?_
  rintro e w1 ⟨rfl, rfl⟩
  go_wp2_with fail
  refine (hm.out _ (by omega)).mono ?_
  rintro e w1 ⟨rfl, rfl⟩
  go_wp2_with fail
  refine (ho3.out _).mono ?_
  rintro e w1 ⟨rfl, rfl⟩
  go_wp2_with fail
  refine (hb.out _ (by omega) (by omega)).mono ?_
  rintro e w1 ⟨rfl, rfl⟩
  go_wp2_with fail
  refine wp_loop_rounds 1 ?_
  rw [rounds_succ]
  go_wp2
  go_ret2
  exact ⟨congrArg (fun n => Ending.returned (.tuple #[.int .i64 n, .bool true])) (by omega), rfl⟩
end Go.Proofs.YthimnjegacdhaaaGreatDoor
