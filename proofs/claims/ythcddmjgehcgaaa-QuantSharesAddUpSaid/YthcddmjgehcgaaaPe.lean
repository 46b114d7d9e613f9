/- Share of the program and of the reference. -/
import Derived.Test.YthcddmjgehcgaaaPd
namespace Go.Proofs.Ythcddmjgehcgaaa
open Go.RowKit Go.BigFrame
open Shr (sumF quo rst)

def wOk (x : Int) : Bool := decide (0 ≤ x) && decide (x ≤ 1000000)
def okB (W : Nat → Int) : Nat → Bool
  | 0 => true
  | k + 1 => okB W k && wOk (W k)
theorem okB_all {W : Nat → Int} : ∀ {n : Nat}, okB W n = true → ∀ i, i < n → 0 ≤ W i ∧ W i ≤ 1000000
  | 0, _, i, hi => by omega
  | n + 1, h, i, hi => by
    rw [okB, Bool.and_eq_true] at h
    by_cases e : i = n
    · subst e
      have := h.2
      simp only [wOk, Bool.and_eq_true, decide_eq_true_eq] at this
      exact this
    · exact okB_all h.1 i (by omega)
theorem okB_bad {W : Nat → Int} {n k : Nat} (hk : k < n) (h : wOk (W k) = false) : okB W n = false := by
  induction n with
  | zero => omega
  | succ n ih =>
    rw [okB]
    by_cases e : k = n
    · subst e; rw [h, Bool.and_false]
    · rw [ih (by omega), Bool.false_and]
theorem sum_le {W : Nat → Int} {c : Int} : ∀ {n : Nat}, (∀ i, i < n → 0 ≤ W i ∧ W i ≤ c) → 0 ≤ sumF W n ∧ sumF W n ≤ c * n
  | 0, _ => by simp [sumF]
  | n + 1, h => by
    obtain ⟨h0, h1⟩ := sum_le (c := c) (n := n) (fun i hi => h i (by omega))
    obtain ⟨h2, h3⟩ := h n (by omega)
    have e : sumF W (n + 1) = sumF W n + W n := rfl
    have e2 : c * ((n + 1 : Nat) : Int) = c * n + c := by push_cast; rw [Int.mul_add, Int.mul_one]
    rw [e, e2]
    omega
def shareErr (T : Int) (W : Nat → Int) (n : Nat) : Int :=
  if T < 0 ∨ 1000000000000 < T then 9 else if 1000 < n then 3 else if okB W n = true then (if sumF W n = 0 then 13 else 0) else 9
def Shared (T : Int) (W : Nat → Int) (n : Nat) (w : World) (e : Ending) (w' : World) : Prop :=
  (shareErr T W n = 0 → ∃ (l : List Nat) (g : Nat), Shr.IsOrd (rst T (sumF W n) W) n l ∧ e = .returned (.tuple #[.slice (some ⟨g, 0, none⟩) n n, .int .i64 0]) ∧ RowF w' g n (PartF T (sumF W n) W l (T - sumF (quo T (sumF W n) W) n).toNat) ∧ w.heap.size ≤ g) ∧
  (shareErr T W n ≠ 0 → e = .returned (.tuple #[.slice none 0 0, .int .i64 (shareErr T W n)])) ∧ Below w.heap.size w w'
theorem share_fine {T : Int} {W : Nat → Int} {n : Nat} (h : shareErr T W n = 0) : Fine T W n (sumF W n) := by
  unfold shareErr at h
  split at h
  · omega
  · split at h
    · omega
    · split at h
      · rename_i h1 h2 h3
        split at h
        · omega
        · rename_i h4
          have ha := okB_all h3
          obtain ⟨s0, s1⟩ := sum_le ha
          refine ⟨by omega, by omega, by omega, fun i hi => (ha i hi).1, fun i hi => ?_, by omega, by omega, rfl⟩
          have h5 : T * W i ≤ 1000000000000 * W i := Int.mul_le_mul_of_nonneg_right (by omega) (ha i hi).1
          have := (ha i hi).2
          omega
      · omega
theorem shared_err {T : Int} {W : Nat → Int} {n : Nat} {w : World} {x : Int} (h : shareErr T W n = x) (hx : x ≠ 0) : Shared T W n w (.returned (.tuple #[.slice none 0 0, .int .i64 x])) w := by
  refine ⟨fun h0 => absurd (h.symm.trans h0) hx, fun _ => by rw [h], Below.refl _ _⟩

set_option maxHeartbeats 1000000 in
set_option maxRecDepth 100000 in
theorem share_any (T : Int) (a : Option Addr) (n cap : Nat) (W : Nat → Int) (w : World) (hr : Row1 w a n W) :
    Calls Try.prog 22 #[.int .i64 T, .slice a n cap] w (Shared T W n w) := by
  by_cases hT : T < 0 ∨ 1000000000000 < T
  · have HE := Lib.hid (show shareErr T W n = 9 by unfold shareErr; rw [if_pos hT])
    clear hr
    rcases hT with hT | hT
    · have t1 : decide (T < 0) = true := by simpa using hT
      go_enter Try.func22, Try.ntmps22
      go_wp2_with fail
      go_ret2
      exact shared_err HE.out (by decide)
    · have t1 : decide (T < 0) = false := by rw [decide_eq_false_iff_not]; omega
      have t2 : decide (1000000000000 < T) = true := by simpa using hT
      go_enter Try.func22, Try.ntmps22
      go_wp2_with fail
      go_ret2
      exact shared_err HE.out (by decide)
  · have t1 : decide (T < 0) = false := by rw [decide_eq_false_iff_not]; omega
    have t2 : decide (1000000000000 < T) = false := by rw [decide_eq_false_iff_not]; omega
    by_cases hn : 1000 < n
    · have HE := Lib.hid (show shareErr T W n = 3 by unfold shareErr; rw [if_neg hT, if_pos hn])
      have t3 : decide ((1000 : Int) < (n : Int)) = true := by rw [decide_eq_true_eq]; omega
      clear hr hT hn
      go_enter Try.func22, Try.ntmps22
      go_wp2_with fail
      go_ret2
      exact shared_err HE.out (by decide)
    · have t3 : decide ((1000 : Int) < (n : Int)) = false := by rw [decide_eq_false_iff_not]; omega
      have hn1 : (n : Int) ≤ 1000 := by omega
      have HE := Lib.hid (show shareErr T W n = if okB W n = true then (if sumF W n = 0 then 13 else 0) else 9 by unfold shareErr; rw [if_neg hT, if_neg hn])
      have HR := Lib.hid hr
      clear hr hT hn
      go_enter Try.func22, Try.ntmps22
      go_wp2_with fail
      go_loop [6, 22] (fun sv iv => ∃ (k : Nat), sv = .int .i64 (sumF W k) ∧ iv = .int .i64 k ∧ k ≤ n ∧ Hid (okB W k = true)) (fun _ iv => n - (intOf iv).toNat)
      case atStart => exact ⟨0, rfl, rfl, by omega, Lib.hid rfl⟩
      case round =>
        obtain ⟨k, rfl, rfl, hk, HO⟩ := hrel
        by_cases hlt : k < n
        · have t4 : decide ((k : Int) < (n : Int)) = true := by rw [decide_eq_true_eq]; omega
          obtain ⟨b, off, rfl, _, hc⟩ := HR.out.here (by omega)
          have c1 := hc k hlt
          have hall := sum_le (okB_all HO.out)
          have HB := Lib.hid (fun (h : wOk (W k) = false) => okB_bad (n := n) hlt h)
          have HO2 := Lib.hid (show okB W (k + 1) = (okB W k && wOk (W k)) from rfl)
          have HS := Lib.hid (show sumF W (k + 1) = sumF W k + W k from rfl)
          generalize sumF W k = s at hall HS ⊢
          generalize W k = x at c1 HB HO2 HS
          clear hc
          by_cases h0 : x < 0
          · have t5 : decide (x < 0) = true := by simpa using h0
            have HE9 := Lib.hid (show shareErr T W n = 9 by rw [HE.out, HB.out (by unfold wOk; simp; omega), if_neg (by simp)])
            go_wp2_with fail
            go_ret2
            exact shared_err HE9.out (by decide)
          · have t5 : decide (x < 0) = false := by simpa using h0
            by_cases h1 : 1000000 < x
            · have t6 : decide (1000000 < x) = true := by simpa using h1
              have HE9 := Lib.hid (show shareErr T W n = 9 by rw [HE.out, HB.out (by unfold wOk; simp; omega), if_neg (by simp)])
              go_wp2_with fail
              go_ret2
              exact shared_err HE9.out (by decide)
            · have t6 : decide (1000000 < x) = false := by simpa using h1
              have HOK := Lib.hid (show okB W (k + 1) = true by rw [HO2.out, HO.out, Bool.true_and]; unfold wOk; simp; omega)
              go_wp2_with fail
              go_round
              case rel => exact ⟨k + 1, congrArg (Value.int .i64) HS.out.symm, by go_num, by omega, HOK⟩
              case measure => simp [intOf]; omega
        · have t4 : decide ((k : Int) < (n : Int)) = false := by rw [decide_eq_false_iff_not]; omega
          have t4' : decide (k < n) = false := by simpa using hlt
          obtain rfl : k = n := by omega
          obtain ⟨S, hS⟩ : ∃ S, sumF W k = S := ⟨_, rfl⟩
          rw [hS]
          have HS := Lib.hid hS
          clear hlt hk hS
          by_cases h0 : S = 0
          · have t5 : (S == 0) = true := by simpa using h0
            have HE13 := Lib.hid (show shareErr T W k = 13 by rw [HE.out, HO.out, if_pos rfl, HS.out, if_pos h0])
            clear h0
            go_wp2_with fail
            go_ret2
            exact shared_err HE13.out (by decide)
          · have t5 : (S == 0) = false := by simpa using h0
            have HE0 := Lib.hid (show shareErr T W k = 0 by rw [HE.out, HO.out, if_pos rfl, HS.out, if_neg h0])
            have HP := Lib.hid (parts_any T S a k cap W w HR.out (by rw [← HS.out]; exact share_fine HE0.out))
            clear h0
            go_wp2_with fail
            refine HP.out.mono ?_
            rintro e w1 ⟨l, g, ho, rfl, hrow, hg, hb⟩
            have HF := Lib.hid (show ∀ e, e = Ending.returned (.tuple #[.slice (some ⟨g, 0, none⟩) k k, .int .i64 0]) → Shared T W k w e w1 from fun e he => by
              refine ⟨fun _ => ⟨l, g, ?_, he, ?_, hg⟩, fun h => absurd HE0.out h, hb⟩
              · rw [HS.out]; exact ho
              · rw [HS.out]; exact hrow)
            clear ho hrow hg hb
            go_wp2_with fail
            go_ret2
            exact HF.out _ rfl
end Go.Proofs.Ythcddmjgehcgaaa
