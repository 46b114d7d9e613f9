/- Share of the reference. -/
import Derived.Test.YthcddmjgehcgaaaPe
namespace Go.Proofs.Ythcddmjgehcgaaa
open Go.RowKit Go.BigFrame
open Shr (sumF quo rst)

theorem not_wOk (x : Int) : (decide (x < 0) || decide (1000000 < x)) = !wOk x := by
  unfold wOk
  rw [Bool.eq_iff_iff]
  simp only [Bool.or_eq_true, decide_eq_true_eq, Bool.not_eq_true', Bool.and_eq_false_iff, decide_eq_false_iff_not]
  omega
set_option maxHeartbeats 1000000 in
set_option maxRecDepth 100000 in
theorem rshare_any (T : Int) (a : Option Addr) (n cap : Nat) (W : Nat → Int) (w : World) (hr : Row1 w a n W) :
    Calls Try.prog 23 #[.int .i64 T, .slice a n cap] w (Shared T W n w) := by
  have hout := outside_any T 0 1000000000000
  by_cases hT : T < 0 ∨ 1000000000000 < T
  · have HE := Lib.hid (show shareErr T W n = 9 by unfold shareErr; rw [if_pos hT])
    rw [show (decide (T < 0) || decide (1000000000000 < T)) = true by simp only [Bool.or_eq_true, decide_eq_true_eq]; exact hT] at hout
    have hout := Lib.hid hout
    clear hr hT
    go_enter Try.func23, Try.ntmps23
    go_wp2_with fail
    refine (hout.out _).mono ?_
    rintro e w1 ⟨rfl, rfl⟩
    go_wp2_with fail
    go_ret2
    exact shared_err HE.out (by decide)
  · rw [show (decide (T < 0) || decide (1000000000000 < T)) = false by simp only [Bool.or_eq_false_iff, decide_eq_false_iff_not]; omega] at hout
    have hout := Lib.hid hout
    by_cases hn : 1000 < n
    · have HE := Lib.hid (show shareErr T W n = 3 by unfold shareErr; rw [if_neg hT, if_pos hn])
      have t3 : decide ((1000 : Int) < (n : Int)) = true := by rw [decide_eq_true_eq]; omega
      clear hr hT hn
      go_enter Try.func23, Try.ntmps23
      go_wp2_with fail
      refine (hout.out _).mono ?_
      rintro e w1 ⟨rfl, rfl⟩
      go_wp2_with fail
      go_ret2
      exact shared_err HE.out (by decide)
    · have t3 : decide ((1000 : Int) < (n : Int)) = false := by rw [decide_eq_false_iff_not]; omega
      have hn1 : (n : Int) ≤ 1000 := by omega
      have HE := Lib.hid (show shareErr T W n = if okB W n = true then (if sumF W n = 0 then 13 else 0) else 9 by unfold shareErr; rw [if_neg hT, if_neg hn])
      have HR := Lib.hid hr
      clear hr hT hn
      go_enter Try.func23, Try.ntmps23
      go_wp2_with fail
      refine (hout.out _).mono ?_
      rintro e w1 ⟨rfl, rfl⟩
      go_wp2_with fail
      go_loop [6, 16] (fun sv iv => ∃ (k : Nat), sv = .int .i64 (sumF W k) ∧ iv = .int .i64 k ∧ k ≤ n ∧ Hid (okB W k = true)) (fun _ iv => n - (intOf iv).toNat)
      case atStart => exact ⟨0, rfl, rfl, by omega, Lib.hid rfl⟩
      case round =>
        obtain ⟨k, rfl, rfl, hk, HO⟩ := hrel
        by_cases hlt : k < n
        · have t4 : decide ((k : Int) < (n : Int)) = true := by rw [decide_eq_true_eq]; omega
          obtain ⟨b, off, rfl, _, hc⟩ := HR.out.here (by omega)
          have c1 := hc k hlt
          have hall := sum_le (okB_all HO.out)
          have HB := Lib.hid (fun (h : wOk (W k) = false) => okB_bad (n := n) hlt h)
          have HO2 := Lib.hid (show okB W (k + 1) = (okB W k && wOk (W k)) from rfl)
          have HS := Lib.hid (show sumF W (k + 1) = sumF W k + W k from rfl)
          generalize sumF W k = s at hall HS ⊢
          generalize W k = x at c1 HB HO2 HS
          have hx := outside_any x 0 1000000
          rw [not_wOk] at hx
          clear hc
          cases h0 : wOk x
          · rw [h0] at hx
            have hx := Lib.hid hx
            have HE9 := Lib.hid (show shareErr T W n = 9 by rw [HE.out, HB.out h0, if_neg (by simp)])
            clear h0
            go_wp2_with fail
            refine (hx.out _).mono ?_
            rintro e w2 ⟨rfl, rfl⟩
            go_wp2_with fail
            go_ret2
            exact shared_err HE9.out (by decide)
          · rw [h0] at hx
            have hx := Lib.hid hx
            have HOK := Lib.hid (show okB W (k + 1) = true by rw [HO2.out, HO.out, h0]; rfl)
            have hx01 : 0 ≤ x ∧ x ≤ 1000000 := by simpa only [wOk, Bool.and_eq_true, decide_eq_true_eq] using h0
            clear h0
            go_wp2_with fail
            refine (hx.out _).mono ?_
            rintro e w2 ⟨rfl, rfl⟩
            go_wp2_with fail
            go_round
            case rel => exact ⟨k + 1, congrArg (Value.int .i64) HS.out.symm, by go_num, by omega, HOK⟩
            case measure => simp [intOf]; omega
        · have t4 : decide ((k : Int) < (n : Int)) = false := by rw [decide_eq_false_iff_not]; omega
          have t4' : decide (k < n) = false := by simpa using hlt
          obtain rfl : k = n := by omega
          obtain ⟨S, hS⟩ : ∃ S, sumF W k = S := ⟨_, rfl⟩
          rw [hS]
          have HS := Lib.hid hS
          clear hlt hk hS
          by_cases h0 : S = 0
          · have t5 : (S == 0) = true := by simpa using h0
            have HE13 := Lib.hid (show shareErr T W k = 13 by rw [HE.out, HO.out, if_pos rfl, HS.out, if_pos h0])
            clear h0
            go_wp2_with fail
            go_ret2
            exact shared_err HE13.out (by decide)
          · have t5 : (S == 0) = false := by simpa using h0
            have HE0 := Lib.hid (show shareErr T W k = 0 by rw [HE.out, HO.out, if_pos rfl, HS.out, if_neg h0])
            have HP := Lib.hid (fun W0 hW => rparts_any T S a k cap W W0 hW (by rw [← HS.out]; exact share_fine HE0.out))
            clear h0
            go_wp2_with fail
            refine (HP.out _ HR.out).mono ?_
            rintro e w1 ⟨l, g, ho, rfl, hrow, hg, hb⟩
            have HF := Lib.hid (show ∀ e, e = Ending.returned (.tuple #[.slice (some ⟨g, 0, none⟩) k k, .int .i64 0]) → Shared T W k _ e w1 from fun e he => by
              refine ⟨fun _ => ⟨l, g, ?_, he, ?_, hg⟩, fun h => absurd HE0.out h, hb⟩
              · rw [HS.out]; exact ho
              · rw [HS.out]; exact hrow)
            clear ho hrow hg hb
            go_wp2_with fail
            go_ret2
            exact HF.out _ rfl
end Go.Proofs.Ythcddmjgehcgaaa
