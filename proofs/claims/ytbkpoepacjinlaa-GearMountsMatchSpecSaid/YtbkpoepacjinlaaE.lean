/- Scale of the program returns 'Sc.sc'. -/
import Derived.Test.YtbkpoepacjinlaaD
namespace Go.Proofs.Ytbkpoepacjinlaa
open Go.RowKit Go.BigFrame

def scRet (p : Int × Int) : Ending := .returned (.tuple #[.int .i64 p.1, .int .i64 p.2])
theorem hasRow_new (w : World) (o : Obj) : HasRow ((w.alloc o).alloc (.cells wayRow 151)) (w.heap.size + 1) := by
  intro j hj
  rw [World.cell?_alloc_at _ _ _ _ (by simp)]
  rcases (show j = 0 ∨ j = 1 ∨ j = 2 ∨ j = 3 ∨ j = 4 ∨ j = 5 ∨ j = 6 ∨ j = 7 ∨ j = 8 ∨ j = 9 by omega) with rfl | rfl | rfl | rfl | rfl | rfl | rfl | rfl | rfl | rfl <;> rfl
theorem how_new (w : World) (how : Int) (o : Obj) : ((w.alloc (.cells #[.int .i64 how] 3)).alloc o).cell? ⟨w.heap.size, 0, none⟩ = some (.int .i64 how) := by
  rw [World.cell?_alloc_past _ _ _ (by simp), World.cell?_alloc_at _ _ _ _ rfl]; rfl
theorem below_two (w : World) (o o' : Obj) : Below w.heap.size w ((w.alloc o).alloc o') := ((Below.refl _ _).alloc (Nat.le_refl _) o).alloc (by simp) o'

set_option maxHeartbeats 400000 in
theorem scale_kind (a num den how : Int) (w : World) (h : how < 1 ∨ 5 < how) :
    Calls Try.prog 72 #[.int .i64 a, .int .i64 num, .int .i64 den, .int .i64 how] w fun e w' => e = scRet (0, 7) ∧ Below w.heap.size w w' := by
  have hw : wayAt how = -1 := by unfold wayAt; rw [if_neg (by omega)]
  have hmf : ∀ (fn : Fn) (first cap : Array Value) (w : World), (Instr.makeFunc fn first cap).run Try.prog w = .ok (.func fn first cap) w := fun _ _ _ _ => rfl
  go_enter Try.func72, Try.ntmps72
  go_wp2_with fail
  refine (ways_any _).mono ?_
  rintro e w1 ⟨rfl, rfl⟩
  go_wp2_with fail
  refine (index_any _ _ how _ (hasRow_new w _) (how_new w how _) (by simp) (by simp; omega)).mono ?_
  rintro e w1 ⟨rfl, hb⟩
  rw [hw]
  have hb' := (below_two w _ _).trans (hb.mono (by simp; omega))
  clear hb
  go_wp2
  go_ret2
  exact ⟨rfl, hb'⟩
set_option maxHeartbeats 400000 in
theorem scale_arg (a num den how : Int) (w : World) (h1 : 1 ≤ how) (h5 : how ≤ 5) (h : den ≤ 0 ∨ num < 0) :
    Calls Try.prog 72 #[.int .i64 a, .int .i64 num, .int .i64 den, .int .i64 how] w fun e w' => e = scRet (0, 1) ∧ Below w.heap.size w w' := by
  have hw : wayAt how = how - 1 := by unfold wayAt; rw [if_pos ⟨h1, h5⟩]
  have hmf : ∀ (fn : Fn) (first cap : Array Value) (w : World), (Instr.makeFunc fn first cap).run Try.prog w = .ok (.func fn first cap) w := fun _ _ _ _ => rfl
  have hk : decide (how - 1 < 0) = false := by rw [decide_eq_false_iff_not]; omega
  by_cases hd : den ≤ 0
  all_goals
    go_enter Try.func72, Try.ntmps72
    go_wp2_with fail
    refine (ways_any _).mono ?_
    rintro e w1 ⟨rfl, rfl⟩
    go_wp2_with fail
    refine (index_any _ _ how _ (hasRow_new w _) (how_new w how _) (by simp) (by simp; omega)).mono ?_
    rintro e w1 ⟨rfl, hb⟩
    rw [hw]
    have hb' := (below_two w _ _).trans (hb.mono (by simp; omega))
    clear hb hw
  · go_wp2
    go_ret2
    exact ⟨rfl, hb'⟩
  · have hd2 : decide (den ≤ 0) = false := by rw [decide_eq_false_iff_not]; omega
    have hn2 : decide (num < 0) = true := by rw [decide_eq_true_eq]; omega
    clear h hd
    go_wp2
    go_ret2
    exact ⟨rfl, hb'⟩

/-- the number without its sign, as the program makes it -/
theorem neg_wrap {a : Int} (h : a < 0) (h1 : -9223372036854775808 ≤ a) : IntKind.u64.wrap (-IntKind.u64.wrap a) = (a.natAbs : Int) := by
  simp only [IntKind.wrap_u64]; omega

theorem fin_ok {a num den how v : Int} {S : Bool} {q r d Q : Nat}
    (h : Sc.sc a num den how = if 4611686018427387904 < Sc.quo how S q r d then (0, 9) else (Sc.sgn S (Sc.quo how S q r d), 0))
    (hQ : Sc.quo how S q r d = Q) (hl : (Q : Int) ≤ 4611686018427387904) (hv : v = Sc.sgn S Q) :
    Ending.returned (.tuple #[.int .i64 v, .int .i64 0]) = scRet (Sc.sc a num den how) := by
  rw [h, hQ, if_neg (by omega), hv]; rfl
theorem fin_big {a num den how : Int} {S : Bool} {q r d Q : Nat}
    (h : Sc.sc a num den how = if 4611686018427387904 < Sc.quo how S q r d then (0, 9) else (Sc.sgn S (Sc.quo how S q r d), 0))
    (hQ : Sc.quo how S q r d = Q) (hl : 4611686018427387904 < (Q : Int)) :
    Ending.returned (.tuple #[.int .i64 0, .int .i64 9]) = scRet (Sc.sc a num den how) := by
  rw [h, hQ, if_pos (by omega)]; rfl
theorem quo_rest0 (how : Int) (S : Bool) (q d : Nat) : Sc.quo how S q 0 d = q := by simp [Sc.quo]
theorem quo_stay {how : Int} {S : Bool} {q r d : Nat} (h : Sc.away how S q r d = false) : Sc.quo how S q r d = q := by simp [Sc.quo, h]
theorem quo_up {how : Int} {S : Bool} {q r d : Nat} (h0 : 0 < r) (h : Sc.away how S q r d = true) : Sc.quo how S q r d = q + 1 := by simp [Sc.quo, h, h0]

set_option maxHeartbeats 2000000 in
set_option maxRecDepth 100000 in
/-- the product's quotient fits one word -/
theorem scale_neg (a how : Int) (num den hi lo q r k A : Nat) (w : World) (hk : Hid (how = (k : Int) + 1)) (hk5 : k < 5) (hd : 1 ≤ den) (hD : (den : Int) ≤ 9223372036854775807) (hM : (num : Int) ≤ 9223372036854775807)
    (hs : a < 0) (_ha1 : -9223372036854775808 ≤ a) (hneg : IntKind.u64.wrap (-IntKind.u64.wrap a) = (A : Int))
    (hhi' : ((A * num / 18446744073709551616 : Nat) : Int) = hi) (hlo' : ((A * num % 18446744073709551616 : Nat) : Int) = lo) (hlt : (hi : Int) < den)
    (hq' : (((hi * 18446744073709551616 + lo) / den : Nat) : Int) = q) (hr' : (((hi * 18446744073709551616 + lo) % den : Nat) : Int) = r) (hr0 : (r : Int) < den) (_hlo2 : (lo : Int) ≤ 18446744073709551615) (hq2 : (q : Int) ≤ 18446744073709551615) (hA : (A : Int) ≤ 9223372036854775808)
    (hfin : Hid (Sc.sc a num den how = if 4611686018427387904 < Sc.quo how true q r den then (0, 9) else (Sc.sgn true (Sc.quo how true q r den), 0))) :
    Calls Try.prog 72 #[.int .i64 a, .int .i64 num, .int .i64 den, .int .i64 how] w fun e w' => e = scRet (Sc.sc a num den how) ∧ Below w.heap.size w w' := by
  have hw : wayAt how = (k : Int) := by have := hk.out; unfold wayAt; rw [if_pos (by omega)]; omega
  have hmf : ∀ (fn : Fn) (first cap : Array Value) (w : World), (Instr.makeFunc fn first cap).run Try.prog w = .ok (.func fn first cap) w := fun _ _ _ _ => rfl
  have b1 : decide ((den : Int) ≤ 0) = false := by rw [decide_eq_false_iff_not]; omega
  have b2 : decide ((den : Int) ≤ hi) = false := by rw [decide_eq_false_iff_not]; omega
  have hmul := Lib.hid (Go.Proofs.Try.bits_Mul64 A num)
  have hdiv := Lib.hid (div64_any hi lo den)
  obtain ⟨f, g0, g1, hcf, hf'⟩ := way_any k hk5
  have hf := Lib.hid hf'
  clear hf'
  unfold fnv at g1
  go_enter Try.func72, Try.ntmps72
  go_wp2_with fail
  refine (ways_any _).mono ?_
  rintro e w1 ⟨rfl, rfl⟩
  go_wp2_with fail
  refine (index_any _ _ how _ (hasRow_new w _) (how_new w how _) (by simp) (by simp; omega)).mono ?_
  rintro e w1 ⟨rfl, hb⟩
  rw [hw]
  have hrow := (hasRow_new w (.cells #[.int .i64 how] 3)).at hb (by simp)
  have hb' := (below_two w _ _).trans (hb.mono (by simp; omega))
  have hk5i : (k : Int) < 5 := by omega
  have r0 := hrow (k * 2) (by omega)
  have r1 := hrow (k * 2 + 1) (by omega)
  rw [g0] at r0; rw [g1] at r1
  clear hb hw hrow g0 g1
  go_wp2_with fail
  refine (hmul.out (by omega) (by omega) _).mono ?_
  rintro e w2 ⟨rfl, rfl⟩
  rw [hhi', hlo']
  go_wp2_with fail
  refine (hdiv.out _ (by omega) (by omega) (by omega)).mono ?_
  rintro e w3 ⟨rfl, hn⟩
  rw [hq', hr']
  obtain ⟨r0', r1', hb2⟩ : w3.cell? ⟨w.heap.size + 1, k * 2, none⟩ = some (.int .i64 ((k : Int) + 1)) ∧ w3.cell? ⟨w.heap.size + 1, k * 2 + 1, none⟩ = some (.func (.func f) #[] #[]) ∧ Below w.heap.size w w3 := by
    obtain ⟨n, rfl⟩ := hn
    exact ⟨r0, r1, below_drewN hb' n⟩
  have Hb2 := Lib.hid hb2
  clear hn r0 r1 hb' hb2 hmul hdiv hq' hr' hhi' hlo' b2
  by_cases hr1 : r = 0
  · subst hr1
    have hQ := Lib.hid (quo_rest0 how true q den)
    go_wp2_with fail
    go_quiet (fail)
    go_wp2
    all_goals go_ret2
    all_goals refine ⟨?_, below_drewN Hb2.out _⟩
    all_goals first | exact fin_ok hfin.out hQ.out (by assumption) (by simp [Sc.sgn]) | exact fin_big hfin.out hQ.out (by assumption)
  · have c1 : decide ((0 : Int) < (r : Int)) = true := by rw [decide_eq_true_eq]; omega
    have hr1' : 0 < r := by omega
    clear hr1
    by_cases hq3 : q ≤ 4611686018427387904
    · have c2 : decide ((q : Int) ≤ 4611686018427387904) = true := by rw [decide_eq_true_eq]; omega
      have hq3i : (q : Int) ≤ 4611686018427387904 := by omega
      clear hq3
      cases haw : Sc.away how true q r den
      · have hwf : wayF ((k : Int) + 1) true q (cmpF r ((den : Int) - r)) = false := by rw [← hk.out, wayF_away, haw]
        have hQ := Lib.hid (quo_stay haw)
        clear haw
        go_wp2_with fail
        refine wp_region_quiet_lit (by kernel_rfl) (by kernel_rfl) ?_
        repeat (go_big_quiet_step (fail))
        go_big_quiet_want
        go_big_quiet_op
        go_big_quiet_call ((refine (compare_any _ _ _).mono ?_; exact fun _ _ h => ⟨h.1, _, h.2.symm⟩))
        go_big_quiet_want
        go_big_quiet_op
        go_big_quiet_call ((refine (hf.out _ _ _ _ (by omega)).mono ?_; exact fun _ _ h => ⟨h.1, _, h.2.symm⟩))
        repeat (go_big_quiet_step (fail))
        refine wpQuiet_nil ?_
        intro w4 hw4
        obtain ⟨nq, rfl⟩ := hw4
        have c4 : decide (4611686018427387904 < (q : Int)) = false := by rw [decide_eq_false_iff_not]; omega
        clear hk5 hd hr1' hmf hcf hlt
        go_wp2
        go_ret2
        refine ⟨?_, below_drewN Hb2.out _⟩
        exact fin_ok hfin.out hQ.out (by omega) (by simp [Sc.sgn])
      · have hwf : wayF ((k : Int) + 1) true q (cmpF r ((den : Int) - r)) = true := by rw [← hk.out, wayF_away, haw]
        have hQ := Lib.hid (quo_up hr1' haw)
        clear haw
        go_wp2_with fail
        refine wp_region_quiet_lit (by kernel_rfl) (by kernel_rfl) ?_
        repeat (go_big_quiet_step (fail))
        go_big_quiet_want
        go_big_quiet_op
        go_big_quiet_call ((refine (compare_any _ _ _).mono ?_; exact fun _ _ h => ⟨h.1, _, h.2.symm⟩))
        go_big_quiet_want
        go_big_quiet_op
        go_big_quiet_call ((refine (hf.out _ _ _ _ (by omega)).mono ?_; exact fun _ _ h => ⟨h.1, _, h.2.symm⟩))
        repeat (go_big_quiet_step (fail))
        refine wpQuiet_nil ?_
        intro w4 hw4
        obtain ⟨nq, rfl⟩ := hw4
        by_cases hq4 : (q : Int) = 4611686018427387904
        · have c4 : decide (4611686018427387904 < (q : Int) + 1) = true := by rw [decide_eq_true_eq]; omega
          have Hq4 := Lib.hid hq4
          clear hk5 hd hr1' hmf hcf hlt hq4
          go_wp2
          go_ret2
          refine ⟨?_, below_drewN Hb2.out _⟩
          exact fin_big hfin.out hQ.out (by have := Hq4.out; omega)
        · have c4 : decide (4611686018427387904 < (q : Int) + 1) = false := by rw [decide_eq_false_iff_not]; omega
          have hq5 : (q : Int) ≤ 4611686018427387903 := by omega
          clear hk5 hd hr1' hmf hcf hlt hq4 hq3i
          go_wp2
          go_ret2
          refine ⟨?_, below_drewN Hb2.out _⟩
          exact fin_ok hfin.out hQ.out (by omega) (by simp [Sc.sgn]; try omega)
    · have c2 : decide ((q : Int) ≤ 4611686018427387904) = false := by rw [decide_eq_false_iff_not]; omega
      have hq3i : 4611686018427387904 < (q : Int) := by omega
      clear hq3
      go_wp2_with fail
      go_quiet (fail)
      go_wp2
      go_ret2
      refine ⟨?_, below_drewN Hb2.out _⟩
      cases haw : Sc.away how true q r den
      · exact fin_big hfin.out (quo_stay haw) hq3i
      · exact fin_big hfin.out (quo_up hr1' haw) (by omega)
set_option maxHeartbeats 2000000 in
set_option maxRecDepth 100000 in
/-- the product's quotient fits one word -/
theorem scale_pos (how : Int) (num den hi lo q r k A : Nat) (w : World) (hk : Hid (how = (k : Int) + 1)) (hk5 : k < 5) (hd : 1 ≤ den) (hD : (den : Int) ≤ 9223372036854775807) (hM : (num : Int) ≤ 9223372036854775807)
    
    (hhi' : ((A * num / 18446744073709551616 : Nat) : Int) = hi) (hlo' : ((A * num % 18446744073709551616 : Nat) : Int) = lo) (hlt : (hi : Int) < den)
    (hq' : (((hi * 18446744073709551616 + lo) / den : Nat) : Int) = q) (hr' : (((hi * 18446744073709551616 + lo) % den : Nat) : Int) = r) (hr0 : (r : Int) < den) (_hlo2 : (lo : Int) ≤ 18446744073709551615) (hq2 : (q : Int) ≤ 18446744073709551615) (hA : (A : Int) ≤ 9223372036854775807)
    (hfin : Hid (Sc.sc A num den how = if 4611686018427387904 < Sc.quo how false q r den then (0, 9) else (Sc.sgn false (Sc.quo how false q r den), 0))) :
    Calls Try.prog 72 #[.int .i64 A, .int .i64 num, .int .i64 den, .int .i64 how] w fun e w' => e = scRet (Sc.sc A num den how) ∧ Below w.heap.size w w' := by
  have hw : wayAt how = (k : Int) := by have := hk.out; unfold wayAt; rw [if_pos (by omega)]; omega
  have hmf : ∀ (fn : Fn) (first cap : Array Value) (w : World), (Instr.makeFunc fn first cap).run Try.prog w = .ok (.func fn first cap) w := fun _ _ _ _ => rfl
  have b5 : decide ((A : Int) < 0) = false := by rw [decide_eq_false_iff_not]; omega
  have b1 : decide ((den : Int) ≤ 0) = false := by rw [decide_eq_false_iff_not]; omega
  have b2 : decide ((den : Int) ≤ hi) = false := by rw [decide_eq_false_iff_not]; omega
  have hmul := Lib.hid (Go.Proofs.Try.bits_Mul64 A num)
  have hdiv := Lib.hid (div64_any hi lo den)
  obtain ⟨f, g0, g1, hcf, hf'⟩ := way_any k hk5
  have hf := Lib.hid hf'
  clear hf'
  unfold fnv at g1
  go_enter Try.func72, Try.ntmps72
  go_wp2_with fail
  refine (ways_any _).mono ?_
  rintro e w1 ⟨rfl, rfl⟩
  go_wp2_with fail
  refine (index_any _ _ how _ (hasRow_new w _) (how_new w how _) (by simp) (by simp; omega)).mono ?_
  rintro e w1 ⟨rfl, hb⟩
  rw [hw]
  have hrow := (hasRow_new w (.cells #[.int .i64 how] 3)).at hb (by simp)
  have hb' := (below_two w _ _).trans (hb.mono (by simp; omega))
  have hk5i : (k : Int) < 5 := by omega
  have r0 := hrow (k * 2) (by omega)
  have r1 := hrow (k * 2 + 1) (by omega)
  rw [g0] at r0; rw [g1] at r1
  clear hb hw hrow g0 g1
  go_wp2_with fail
  refine (hmul.out (by omega) (by omega) _).mono ?_
  rintro e w2 ⟨rfl, rfl⟩
  rw [hhi', hlo']
  go_wp2_with fail
  refine (hdiv.out _ (by omega) (by omega) (by omega)).mono ?_
  rintro e w3 ⟨rfl, hn⟩
  rw [hq', hr']
  obtain ⟨r0', r1', hb2⟩ : w3.cell? ⟨w.heap.size + 1, k * 2, none⟩ = some (.int .i64 ((k : Int) + 1)) ∧ w3.cell? ⟨w.heap.size + 1, k * 2 + 1, none⟩ = some (.func (.func f) #[] #[]) ∧ Below w.heap.size w w3 := by
    obtain ⟨n, rfl⟩ := hn
    exact ⟨r0, r1, below_drewN hb' n⟩
  have Hb2 := Lib.hid hb2
  clear hn r0 r1 hb' hb2 hmul hdiv hq' hr' hhi' hlo' b2
  by_cases hr1 : r = 0
  · subst hr1
    have hQ := Lib.hid (quo_rest0 how false q den)
    go_wp2_with fail
    go_quiet (fail)
    go_wp2
    all_goals go_ret2
    all_goals refine ⟨?_, below_drewN Hb2.out _⟩
    all_goals first | exact fin_ok hfin.out hQ.out (by assumption) (by simp [Sc.sgn]) | exact fin_big hfin.out hQ.out (by assumption)
  · have c1 : decide ((0 : Int) < (r : Int)) = true := by rw [decide_eq_true_eq]; omega
    have hr1' : 0 < r := by omega
    clear hr1
    by_cases hq3 : q ≤ 4611686018427387904
    · have c2 : decide ((q : Int) ≤ 4611686018427387904) = true := by rw [decide_eq_true_eq]; omega
      have hq3i : (q : Int) ≤ 4611686018427387904 := by omega
      clear hq3
      cases haw : Sc.away how false q r den
      · have hwf : wayF ((k : Int) + 1) false q (cmpF r ((den : Int) - r)) = false := by rw [← hk.out, wayF_away, haw]
        have hQ := Lib.hid (quo_stay haw)
        clear haw
        go_wp2_with fail
        refine wp_region_quiet_lit (by kernel_rfl) (by kernel_rfl) ?_
        repeat (go_big_quiet_step (fail))
        go_big_quiet_want
        go_big_quiet_op
        go_big_quiet_call ((refine (compare_any _ _ _).mono ?_; exact fun _ _ h => ⟨h.1, _, h.2.symm⟩))
        go_big_quiet_want
        go_big_quiet_op
        go_big_quiet_call ((refine (hf.out _ _ _ _ (by omega)).mono ?_; exact fun _ _ h => ⟨h.1, _, h.2.symm⟩))
        repeat (go_big_quiet_step (fail))
        refine wpQuiet_nil ?_
        intro w4 hw4
        obtain ⟨nq, rfl⟩ := hw4
        have c4 : decide (4611686018427387904 < (q : Int)) = false := by rw [decide_eq_false_iff_not]; omega
        clear hk5 hd hr1' hmf hcf hlt
        go_wp2
        go_ret2
        refine ⟨?_, below_drewN Hb2.out _⟩
        exact fin_ok hfin.out hQ.out (by omega) (by simp [Sc.sgn])
      · have hwf : wayF ((k : Int) + 1) false q (cmpF r ((den : Int) - r)) = true := by rw [← hk.out, wayF_away, haw]
        have hQ := Lib.hid (quo_up hr1' haw)
        clear haw
        go_wp2_with fail
        refine wp_region_quiet_lit (by kernel_rfl) (by kernel_rfl) ?_
        repeat (go_big_quiet_step (fail))
        go_big_quiet_want
        go_big_quiet_op
        go_big_quiet_call ((refine (compare_any _ _ _).mono ?_; exact fun _ _ h => ⟨h.1, _, h.2.symm⟩))
        go_big_quiet_want
        go_big_quiet_op
        go_big_quiet_call ((refine (hf.out _ _ _ _ (by omega)).mono ?_; exact fun _ _ h => ⟨h.1, _, h.2.symm⟩))
        repeat (go_big_quiet_step (fail))
        refine wpQuiet_nil ?_
        intro w4 hw4
        obtain ⟨nq, rfl⟩ := hw4
        by_cases hq4 : (q : Int) = 4611686018427387904
        · have c4 : decide (4611686018427387904 < (q : Int) + 1) = true := by rw [decide_eq_true_eq]; omega
          have Hq4 := Lib.hid hq4
          clear hk5 hd hr1' hmf hcf hlt hq4
          go_wp2
          go_ret2
          refine ⟨?_, below_drewN Hb2.out _⟩
          exact fin_big hfin.out hQ.out (by have := Hq4.out; omega)
        · have c4 : decide (4611686018427387904 < (q : Int) + 1) = false := by rw [decide_eq_false_iff_not]; omega
          have hq5 : (q : Int) ≤ 4611686018427387903 := by omega
          clear hk5 hd hr1' hmf hcf hlt hq4 hq3i
          go_wp2
          go_ret2
          refine ⟨?_, below_drewN Hb2.out _⟩
          exact fin_ok hfin.out hQ.out (by omega) (by simp [Sc.sgn]; try omega)
    · have c2 : decide ((q : Int) ≤ 4611686018427387904) = false := by rw [decide_eq_false_iff_not]; omega
      have hq3i : 4611686018427387904 < (q : Int) := by omega
      clear hq3
      go_wp2_with fail
      go_quiet (fail)
      go_wp2
      go_ret2
      refine ⟨?_, below_drewN Hb2.out _⟩
      cases haw : Sc.away how false q r den
      · exact fin_big hfin.out (quo_stay haw) hq3i
      · exact fin_big hfin.out (quo_up hr1' haw) (by omega)
end Go.Proofs.Ytbkpoepacjinlaa
