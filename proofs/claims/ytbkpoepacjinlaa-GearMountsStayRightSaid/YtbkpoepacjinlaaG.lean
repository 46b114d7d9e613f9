/- Scale and Div of the reference return 'Sc.sc'. -/
import Derived.Test.YtbkpoepacjinlaaF
namespace Go.Proofs.Ytbkpoepacjinlaa
open Go.RowKit Go.BigFrame

theorem moreF_away {how : Int} (h1 : 1 ≤ how) (h5 : how ≤ 5) (b : Bool) (q r d : Nat) : moreF q r d b how = decide (0 < r ∧ Sc.away how b q r d = true) := by
  have e3 : ((q : Int) % 2 = 1) ↔ q % 2 = 1 := by omega
  have e5 : ((q : Int) % 2 == 1) = decide (q % 2 = 1) := by rw [Bool.eq_iff_iff, beq_iff_eq, decide_eq_true_eq]; exact e3
  unfold moreF
  by_cases h0 : r = 0
  · subst h0; simp
  rw [if_neg (by omega)]
  have hr : 0 < r := by omega
  unfold Sc.away
  by_cases a1 : how = 1
  · subst a1; cases b <;> simp [hr]
  by_cases a2 : how = 2
  · subst a2; cases b <;> simp [hr]
  by_cases a3 : how = 3
  · subst a3; simp
  simp only [a1, a2, a3, if_false]
  by_cases h6 : (r : Int) = d - r
  · rw [if_neg (by omega)]
    have h7 : 2 * r = d := by omega
    simp only [h7, hr, true_and, decide_true, Bool.true_and, e5]
    by_cases a4 : how = 4
    · subst a4; cases b <;> simp
    · simp [a4]
  · rw [if_pos h6]
    have h7 : ¬ 2 * r = d := by omega
    simp only [h7, hr, true_and, decide_false, Bool.false_and, Bool.or_false]
    have h8 : ((d : Int) - r < r) ↔ d < 2 * r := by omega
    by_cases a4 : how = 4
    · subst a4; simp [h8]
    · simp [a4, h8]

theorem rscale_kind (a num den how : Int) (w : World) (h : how < 1 ∨ 5 < how) :
    Calls Try.prog 73 #[.int .i64 a, .int .i64 num, .int .i64 den, .int .i64 how] w fun e w' => e = scRet (0, 7) ∧ Below w.heap.size w w' := by
  have ho : (decide (how < 1) || decide (5 < how)) = true := by simpa using h
  have hout := Lib.hid (outside_any how 1 5)
  clear h
  go_enter Try.func73, Try.ntmps73
  go_wp2_with fail
  refine (hout.out w).mono ?_
  rintro e w1 ⟨rfl, rfl⟩
  rw [ho]
  go_wp2
  go_ret2
  exact ⟨rfl, Below.refl _ _⟩
theorem rscale_arg (a num den how : Int) (w : World) (h1 : 1 ≤ how) (h5 : how ≤ 5) (h : den ≤ 0 ∨ num < 0) :
    Calls Try.prog 73 #[.int .i64 a, .int .i64 num, .int .i64 den, .int .i64 how] w fun e w' => e = scRet (0, 1) ∧ Below w.heap.size w w' := by
  have ho : (decide (how < 1) || decide (5 < how)) = false := by simp; omega
  have hout := Lib.hid (outside_any how 1 5)
  by_cases hd : den ≤ 0
  · have hd2 : decide (den < 1) = true := by rw [decide_eq_true_eq]; omega
    clear h
    go_enter Try.func73, Try.ntmps73
    go_wp2_with fail
    refine (hout.out w).mono ?_
    rintro e w1 ⟨rfl, rfl⟩
    rw [ho]
    go_wp2
    go_ret2
    exact ⟨rfl, Below.refl _ _⟩
  · have hd2 : decide (den < 1) = false := by rw [decide_eq_false_iff_not]; omega
    have hn2 : decide (num < 0) = true := by rw [decide_eq_true_eq]; omega
    clear h hd
    go_enter Try.func73, Try.ntmps73
    go_wp2_with fail
    refine (hout.out w).mono ?_
    rintro e w1 ⟨rfl, rfl⟩
    rw [ho]
    go_wp2
    go_ret2
    exact ⟨rfl, Below.refl _ _⟩

set_option maxHeartbeats 1000000 in
set_option maxRecDepth 100000 in
theorem rscale_high (a how : Int) (num den hi A : Nat) (w : World) (h1 : 1 ≤ how) (h5 : how ≤ 5) (hd : 1 ≤ den) (hD : (den : Int) ≤ 9223372036854775807) (hM : (num : Int) ≤ 9223372036854775807)
    (ha1 : -9223372036854775808 ≤ a) (ha2 : a ≤ 9223372036854775807) (hA : (A : Int) ≤ 9223372036854775808) (hAa : Hid (A = a.natAbs))
    (hhi' : ((A * num / 18446744073709551616 : Nat) : Int) = hi) (hle : (den : Int) ≤ hi) :
    Calls Try.prog 73 #[.int .i64 a, .int .i64 num, .int .i64 den, .int .i64 how] w fun e w' => e = scRet (0, 9) ∧ Below w.heap.size w w' := by
  have ho : (decide (how < 1) || decide (5 < how)) = false := by simp; omega
  have hout := Lib.hid (outside_any how 1 5)
  have hsz := Lib.hid (size_any a)
  have hmul := Lib.hid (Go.Proofs.Try.bits_Mul64 A num)
  have b1 : decide ((den : Int) < 1) = false := by rw [decide_eq_false_iff_not]; omega
  have b2 : decide ((den : Int) ≤ hi) = true := by rw [decide_eq_true_eq]; omega
  go_enter Try.func73, Try.ntmps73
  go_wp2_with fail
  refine (hout.out w).mono ?_
  rintro e w1 ⟨rfl, rfl⟩
  rw [ho]
  go_wp2_with fail
  refine (hsz.out _ ha1 ha2).mono ?_
  rintro e w1 ⟨rfl, rfl⟩
  rw [← hAa.out]
  go_wp2_with fail
  refine (hmul.out (by omega) (by omega) _).mono ?_
  rintro e w2 ⟨rfl, rfl⟩
  rw [hhi']
  go_wp2
  go_ret2
  exact ⟨rfl, Below.refl _ _⟩

set_option maxHeartbeats 2000000 in
set_option maxRecDepth 100000 in
theorem rscale_of (a how : Int) (num den hi lo q r A : Nat) (S : Bool) (w : World) (h1 : 1 ≤ how) (h5 : how ≤ 5) (hd : 1 ≤ den) (hD : (den : Int) ≤ 9223372036854775807) (hM : (num : Int) ≤ 9223372036854775807)
    (ha1 : -9223372036854775808 ≤ a) (ha2 : a ≤ 9223372036854775807) (hA : (A : Int) ≤ 9223372036854775808) (hAa : Hid (A = a.natAbs)) (hS : decide (a < 0) = S)
    (hhi' : ((A * num / 18446744073709551616 : Nat) : Int) = hi) (hlo' : ((A * num % 18446744073709551616 : Nat) : Int) = lo) (hlt : (hi : Int) < den)
    (hq' : (((hi * 18446744073709551616 + lo) / den : Nat) : Int) = q) (hr' : (((hi * 18446744073709551616 + lo) % den : Nat) : Int) = r) (hr0 : (r : Int) < den) (_hlo2 : (lo : Int) ≤ 18446744073709551615) (hq2 : (q : Int) ≤ 18446744073709551615)
    (hfin : Hid (Sc.sc a num den how = if 4611686018427387904 < Sc.quo how S q r den then (0, 9) else (Sc.sgn S (Sc.quo how S q r den), 0))) :
    Calls Try.prog 73 #[.int .i64 a, .int .i64 num, .int .i64 den, .int .i64 how] w fun e w' => e = scRet (Sc.sc a num den how) ∧ Below w.heap.size w w' := by
  have ho : (decide (how < 1) || decide (5 < how)) = false := by simp; omega
  have hout := Lib.hid (outside_any how 1 5)
  have hsz := Lib.hid (size_any a)
  have hmul := Lib.hid (Go.Proofs.Try.bits_Mul64 A num)
  have hdiv := Lib.hid (div64_any hi lo den)
  have b1 : decide ((den : Int) < 1) = false := by rw [decide_eq_false_iff_not]; omega
  have b2 : decide ((den : Int) ≤ hi) = false := by rw [decide_eq_false_iff_not]; omega
  have hmore := Lib.hid (more_any q r den S how)
  have hma := Lib.hid (moreF_away h1 h5 S q r den)
  go_enter Try.func73, Try.ntmps73
  go_wp2_with fail
  refine (hout.out w).mono ?_
  rintro e w1 ⟨rfl, rfl⟩
  rw [ho]
  go_wp2_with fail
  refine (hsz.out _ ha1 ha2).mono ?_
  rintro e w1 ⟨rfl, rfl⟩
  rw [← hAa.out]
  go_wp2_with fail
  refine (hmul.out (by omega) (by omega) _).mono ?_
  rintro e w2 ⟨rfl, rfl⟩
  rw [hhi', hlo']
  go_wp2_with fail
  refine (hdiv.out _ (by omega) (by omega) (by omega)).mono ?_
  rintro e w3 ⟨rfl, nd, rfl⟩
  rw [hq', hr']
  clear hhi' hlo' hq' hr' b1 b2
  go_wp2_with fail
  refine (hmore.out _ (by omega) (by omega) (by omega) (by omega)).mono ?_
  rintro e w4 ⟨rfl, rfl⟩
  rw [hma.out]
  cases haw : decide (0 < r ∧ Sc.away how S q r den = true)
  · have hQ : Sc.quo how S q r den = q := by
      unfold Sc.quo; rw [if_neg (by simpa using haw)]
    have HQ := Lib.hid hQ
    clear haw hQ hma hmore
    by_cases h9 : (q : Int) ≤ 4611686018427387904
    · have c4 : decide (4611686018427387904 < (q : Int)) = false := by rw [decide_eq_false_iff_not]; omega
      cases S
      · go_wp2
        go_ret2
        exact ⟨fin_ok hfin.out HQ.out h9 (by simp [Sc.sgn]), below_drewN (Below.refl _ _) _⟩
      · go_wp2
        go_ret2
        exact ⟨fin_ok hfin.out HQ.out h9 (by simp [Sc.sgn]), below_drewN (Below.refl _ _) _⟩
    · have c4 : decide (4611686018427387904 < (q : Int)) = true := by rw [decide_eq_true_eq]; omega
      have h9' := Lib.hid h9
      clear h9
      go_wp2
      go_ret2
      exact ⟨fin_big hfin.out HQ.out (by have := h9'.out; omega), below_drewN (Below.refl _ _) _⟩
  · have hQ : Sc.quo how S q r den = q + 1 := by
      unfold Sc.quo; rw [if_pos (by simpa using haw)]
    have HQ := Lib.hid hQ
    clear haw hQ hma hmore
    by_cases h8 : (q : Int) = 18446744073709551615
    · have c5 : IntKind.u64.wrap ((q : Int) + 1) = 0 := by rw [IntKind.wrap_u64]; omega
      have H8 := Lib.hid h8
      clear h8
      go_wp2
      go_ret2
      exact ⟨fin_big hfin.out HQ.out (by have := H8.out; omega), below_drewN (Below.refl _ _) _⟩
    · have c5 : IntKind.u64.wrap ((q : Int) + 1) = (q : Int) + 1 := by rw [IntKind.wrap_u64]; omega
      have c6 : ((q : Int) + 1 == 0) = false := by rw [beq_eq_false_iff_ne]; omega
      have H8 := Lib.hid h8
      clear h8
      by_cases h9 : (q : Int) + 1 ≤ 4611686018427387904
      · have c4 : decide (4611686018427387904 < (q : Int) + 1) = false := by rw [decide_eq_false_iff_not]; omega
        cases S
        · go_wp2
          go_ret2
          exact ⟨fin_ok hfin.out HQ.out (by omega) (by simp [Sc.sgn]), below_drewN (Below.refl _ _) _⟩
        · go_wp2
          go_ret2
          exact ⟨fin_ok hfin.out HQ.out (by omega) (by simp [Sc.sgn]), below_drewN (Below.refl _ _) _⟩
      · have c4 : decide (4611686018427387904 < (q : Int) + 1) = true := by rw [decide_eq_true_eq]; omega
        have h9' := Lib.hid h9
        clear h9
        go_wp2
        go_ret2
        exact ⟨fin_big hfin.out HQ.out (by have := h9'.out; omega), below_drewN (Below.refl _ _) _⟩

theorem rscale_any (a num den how : Int) (w : World) (ha1 : -9223372036854775808 ≤ a) (ha2 : a ≤ 9223372036854775807) (hn : num ≤ 9223372036854775807) (hd : den ≤ 9223372036854775807) :
    Calls Try.prog 73 #[.int .i64 a, .int .i64 num, .int .i64 den, .int .i64 how] w fun e w' => e = scRet (Sc.sc a num den how) ∧ Below w.heap.size w w' := by
  by_cases h1 : how < 1 ∨ 5 < how
  · rw [Sc.sc_kind _ _ _ _ h1]; exact rscale_kind a num den how w h1
  by_cases h2 : den ≤ 0 ∨ num < 0
  · rw [Sc.sc_arg _ _ _ _ (by omega) (by omega) h2]; exact rscale_arg a num den how w (by omega) (by omega) h2
  obtain ⟨num, rfl⟩ := Int.eq_ofNat_of_zero_le (show 0 ≤ num by omega)
  obtain ⟨den, rfl⟩ := Int.eq_ofNat_of_zero_le (show 0 ≤ den by omega)
  obtain ⟨N, hN⟩ : ∃ N, N = a.natAbs * num := ⟨_, rfl⟩
  have hN2 : N ≤ 9223372036854775808 * 9223372036854775807 := by rw [hN]; exact Nat.mul_le_mul (by omega) (by omega)
  by_cases h3 : den ≤ a.natAbs * num / 18446744073709551616
  · rw [Sc.sc_high a how num den (by omega) (by omega) (by omega) h3]
    exact rscale_high a how num den _ a.natAbs w (by omega) (by omega) (by omega) hd hn ha1 ha2 (by omega) (Lib.hid rfl) rfl (by omega)
  · have hfin := Sc.sc_of a how num den (by omega) (by omega) (by omega) (by omega)
    rw [← hN] at hfin h3
    have hr := Nat.mod_lt N (show 0 < den by omega)
    have hq : N / den < 18446744073709551616 := by
      rw [Nat.div_lt_iff_lt_mul (by omega)]
      omega
    have hlo := Nat.mod_lt N (show 0 < 18446744073709551616 by omega)
    exact rscale_of a how num den (N / 18446744073709551616) (N % 18446744073709551616) (N / den) (N % den) a.natAbs _ w (by omega) (by omega) (by omega) hd hn ha1 ha2 (by omega) (Lib.hid rfl) rfl
      (by rw [← hN]) (by rw [← hN]) (by omega) (by rw [word_split]) (by rw [word_split]) (by omega) (by omega) (by omega) (Lib.hid hfin)

end Go.Proofs.Ytbkpoepacjinlaa
