/- The stable sort of the library: the merge's main way (printed by wip/gen_merge.py). -/
import Derived.Test.YtbkpoepacjinlaaSl
namespace Go.Proofs.Ytbkpoepacjinlaa
open Go.RowKit Go.BigFrame
open Stb (at' sw2 Srt Res Mrg)

set_option maxHeartbeats 4000000 in
set_option maxRecDepth 100000 in
theorem merge_hi (R : Int → Int) (w0 w : World) (base g cap n c a m b mid : Nat) (M0 M : List Int) (h : SW w0 w base g cap n M) (hM0 : M.Perm M0) (hcmp : CmpOk R w0 base g cap n c M0)
    (hb : b ≤ n) (hn : (n : Int) ≤ 1000000) (hm : Mrg R M a m b) (h1 : a + 2 ≤ m) (h2 : m + 2 ≤ b) (hmid : mid = (a + b) / 2) (hmm : mid < m)
    (ih : ∀ a' m' b' w M, b' - a' < b - a → SW w0 w base g cap n M → M.Perm M0 → Mrg R M a' m' b' → b' ≤ n →
      Calls Try.prog 196 #[.slice (some ⟨g, 0, none⟩) n cap, .int .i64 a', .int .i64 m', .int .i64 b', .func (.func 158) #[] #[.pointer (some ⟨c, 0, none⟩)]] w (Merged R w0 base g cap n a' b' M)) :
    Calls Try.prog 196 #[.slice (some ⟨g, 0, none⟩) n cap, .int .i64 a, .int .i64 m, .int .i64 b, .func (.func 158) #[] #[.pointer (some ⟨c, 0, none⟩)]] w (Merged R w0 base g cap n a b M) := by
  have H := Lib.hid h
  have HM0 := Lib.hid hM0
  have HC := Lib.hid hcmp
  have HG := Lib.hid hm
  have HIH := Lib.hid ih
  have HMID := Lib.hid hmid
  clear h hM0 hcmp hm ih
  have t1 : (((m : Int) - (a : Int)) == 1) = false := by rw [beq_eq_false_iff_ne]; omega
  have t2 : (((b : Int) - (m : Int)) == 1) = false := by rw [beq_eq_false_iff_ne]; omega
  have hb1 : IntKind.i64.wrap ((m : Int) - (a : Int)) = (m : Int) - (a : Int) := IntWalk.i64_in _ (by omega)
  have hb3 : IntKind.i64.wrap ((b : Int) - (m : Int)) = (b : Int) - (m : Int) := IntWalk.i64_in _ (by omega)
  have emid : ((a : Int) + (b : Int)) / 2 = (mid : Int) := by omega
  have md1 : a + 2 ≤ mid := by omega
  have md2 : mid + 2 ≤ b := by omega
  have md3 : 2 * mid ≤ a + b := by omega
  have md4 : a + b ≤ 2 * mid + 1 := by omega
  have tm : decide ((mid : Int) < (m : Int)) = true := by rw [decide_eq_true_eq]; omega
  have tm' : decide (mid < m) = true := by rw [decide_eq_true_eq]; omega
  obtain ⟨s0, hs0⟩ : ∃ s0 : Nat, mid + m - b = s0 := ⟨_, rfl⟩
  have es0 : (mid : Int) + (m : Int) - (b : Int) = (s0 : Int) := by omega
  have hs1 : s0 + b = mid + m := by omega
  clear hs0
  clear hmid
  go_enter Try.func196, Try.ntmps196
  go_wp2_with fail
  go_loopw [20, 21] (fun sv rv wr => ∃ (s r : Nat), sv = .int .i64 s ∧ rv = .int .i64 r ∧ s0 ≤ s ∧ s ≤ r ∧ r ≤ mid ∧ Hid (SW w0 wr base g cap n M) ∧ Hid (s = s0 ∨ R (at' M (mid + m - 1 - (s - 1))) ≤ R (at' M (s - 1))) ∧ Hid (r = mid ∨ R (at' M r) < R (at' M (mid + m - 1 - r)))) (fun sv rv _ => (intOf rv - intOf sv).toNat)
  case atStart => exact ⟨s0, mid, rfl, rfl, by omega, by omega, by omega, H, Lib.hid (Or.inl rfl), Lib.hid (Or.inl rfl)⟩
  case round =>
    obtain ⟨s, r, rfl, rfl, hs, hsr, hrr, HS, HL, HH⟩ := hrel
    by_cases hlt : s < r
    · have t3 : decide ((s : Int) < (r : Int)) = true := by rw [decide_eq_true_eq]; omega
      have t3' : decide (s < r) = true := by simpa using hlt
      obtain ⟨k, hk⟩ : ∃ k : Nat, (s + r) / 2 = k := ⟨_, rfl⟩
      have ek : ((s : Int) + (r : Int)) / 2 = (k : Int) := by omega
      have k0 : s ≤ k := by omega
      have k1 : k < r := by omega
      clear hk
      obtain ⟨u, hu⟩ : ∃ u : Nat, mid + m - 1 - k = u := ⟨_, rfl⟩
      have eu : (mid : Int) + (m : Int) - 1 - (k : Int) = (u : Int) := by omega
      have u0 : m ≤ u := by omega
      have u1 : u < b := by omega
      have HU := Lib.hid hu
      clear hu
      have hp2 : M.Perm M0 := HM0.out
      have c1 := HS.out.cell (j := u) (by omega)
      have c2 := HS.out.cell (j := k) (by omega)
      have m1 := at_mem HS.out.len (show u < n by omega) hp2
      have m2 := at_mem HS.out.len (show k < n by omega) hp2
      have hun : u < n := by omega
      have hkn : k < n := by omega
      obtain ⟨x, hx⟩ : ∃ x, at' M u = x := ⟨_, rfl⟩
      obtain ⟨y, hy⟩ : ∃ y, at' M k = y := ⟨_, rfl⟩
      rw [hx] at c1 m1
      rw [hy] at c2 m2
      have HX := Lib.hid hx
      have HY := Lib.hid hy
      have HQ := Lib.hid (fun q => HC.out (wr.drewN q) M (HS.out.drewN q) x y m1 m2)
      clear hx hy hp2 m1 m2
      by_cases hc : R y < R x
      · have t4 : decide (Lib.compareInt (R y) (R x) < 0) = true := by rw [decide_eq_true_eq, cmp_neg]; exact hc
        have HH2 := Lib.hid (show k = mid ∨ R (at' M k) < R (at' M (mid + m - 1 - k)) from Or.inr (by rw [HU.out, HX.out, HY.out]; exact hc))
        generalize Lib.compareInt (R y) (R x) = cv at t4 HQ
        go_wp2_with fail
        go_quiet ((go_at_call 158; exact Calls.quiet_of (HQ.out _)))
        go_wp2_with fail
        go_roundw
        case rel => exact ⟨s, k, rfl, rfl, hs, k0, by omega, Lib.hid (HS.out.drewN _), HL, HH2⟩
        case measure => simp [intOf]; omega
      · have t4 : decide (Lib.compareInt (R y) (R x) < 0) = false := by rw [decide_eq_false_iff_not, cmp_neg]; exact hc
        have HL2 := Lib.hid (show k + 1 = s0 ∨ R (at' M (mid + m - 1 - (k + 1 - 1))) ≤ R (at' M (k + 1 - 1)) from Or.inr (by rw [Nat.add_sub_cancel, HU.out, HX.out, HY.out]; omega))
        generalize Lib.compareInt (R y) (R x) = cv at t4 HQ
        go_wp2_with fail
        go_quiet ((go_at_call 158; exact Calls.quiet_of (HQ.out _)))
        go_wp2_with fail
        go_roundw
        case rel => exact ⟨k + 1, r, by go_num, rfl, by omega, by omega, hrr, Lib.hid (HS.out.drewN _), HL2, HH⟩
        case measure => simp [intOf]; omega
    · have t3 : decide ((s : Int) < (r : Int)) = false := by rw [decide_eq_false_iff_not]; omega
      have t3' : decide (s < r) = false := by simpa using hlt
      obtain rfl : s = r := by omega
      obtain ⟨e, he⟩ : ∃ e : Nat, mid + m - s = e := ⟨_, rfl⟩
      have ee : (mid : Int) + (m : Int) - (s : Int) = (e : Int) := by omega
      have hsum : s + e = mid + m := by omega
      have CUT := Lib.hid (show Stb.Cutp R M a m b mid s e from by
        rw [← he]
        refine Stb.cut_of HG.out HMID.out (by omega) (by omega) ?_ ?_
        · rcases HL.out with h | h
          · exact Or.inl ⟨hmm, by omega⟩
          · exact Or.inr (Or.inr (Int.not_lt.2 h))
        · rcases HH.out with h | h
          · exact Or.inl ⟨hmm, h⟩
          · exact Or.inr (Or.inr h))
      clear he hlt hsr
      have b1 : m ≤ e := CUT.out.me
      have b2 : e ≤ b := CUT.out.eb
      have b3 : a ≤ s := CUT.out.as
      have b4 : s ≤ m := CUT.out.sm
      have b5 : s ≤ mid := CUT.out.smid
      have b6 : mid ≤ e := CUT.out.mide
      have hways : (s < m ∧ m < e ∧ a < s ∧ e < b) ∨ (s < m ∧ m < e ∧ a < s ∧ b ≤ e) ∨ (s < m ∧ m < e ∧ s ≤ a ∧ e < b) ∨ (s < m ∧ m < e ∧ s ≤ a ∧ b ≤ e) ∨ (m ≤ s ∧ m < mid) ∨ (m ≤ s ∧ mid ≤ m) ∨ (s < m ∧ e ≤ m) := by omega
      rcases hways with ⟨z0, z1, z2, z3⟩ | ⟨z0, z1, z2, z3⟩ | ⟨z0, z1, z2, z3⟩ | ⟨z0, z1, z2, z3⟩ | ⟨z0, z1⟩ | ⟨z0, z1⟩ | ⟨z0, z1⟩
      · have hcond : True := trivial
        have d0 : decide ((s : Int) < (m : Int)) = true := by rw [decide_eq_true_eq]; omega
        have d0' : decide (s < m) = true := by rw [decide_eq_true_eq]; omega
        have d1 : decide ((m : Int) < (e : Int)) = true := by rw [decide_eq_true_eq]; omega
        have d1' : decide (m < e) = true := by rw [decide_eq_true_eq]; omega
        have d2 : decide ((a : Int) < (s : Int)) = true := by rw [decide_eq_true_eq]; omega
        have d2' : decide (a < s) = true := by rw [decide_eq_true_eq]; omega
        have d3 : decide ((s : Int) < (mid : Int)) = true := by rw [decide_eq_true_eq]; omega
        have d3' : decide (s < mid) = true := by rw [decide_eq_true_eq]; omega
        have d4 : decide ((mid : Int) < (e : Int)) = true := by rw [decide_eq_true_eq]; omega
        have d4' : decide (mid < e) = true := by rw [decide_eq_true_eq]; omega
        have d5 : decide ((e : Int) < (b : Int)) = true := by rw [decide_eq_true_eq]; omega
        have d5' : decide (e < b) = true := by rw [decide_eq_true_eq]; omega
        clear hcond
        go_wp2_with fail
        refine (rotate_any w0 wr base g cap n s m e M (.func (.func 158) #[] #[.pointer (some ⟨c, 0, none⟩)]) HS.out (by omega) (by omega) (by omega) hn).mono ?_
        rintro e1 w1 ⟨rfl, M1, hS, hP, hE⟩
        have HS1 := Lib.hid hS
        have HE1 := Lib.hid hE
        have HR1 := Lib.hid (Stb.rot_res hP (by omega) (by omega) hE)
        clear hS hP hE
        go_wp2_with fail
        refine (HIH.out a s mid w1 M1 (by omega) HS1.out (HR1.out.perm.trans HM0.out) (Stb.cut_left HG.out CUT.out HR1.out HE1.out (by omega) (by omega)) (by omega)).mono ?_
        rintro e2 w2 ⟨rfl, M2, hS, hR, hO⟩
        have HS2 := Lib.hid hS
        have HR2 := Lib.hid hR
        have HO2 := Lib.hid hO
        clear hS hR hO
        go_wp2_with fail
        refine (HIH.out mid e b w2 M2 (by omega) HS2.out (HR2.out.perm.trans (HR1.out.perm.trans HM0.out)) ((Stb.cut_right HG.out CUT.out HR1.out HE1.out (by omega) (by omega)).congr HR2.out.length (fun p h1 h2 => HR2.out.out p (Or.inr h1))) (by omega)).mono ?_
        rintro e3 w3 ⟨rfl, M3, hS, hR, hO⟩
        have HS3 := Lib.hid hS
        have HR3 := Lib.hid hR
        have HO3 := Lib.hid hO
        clear hS hR hO
        have HFS := Lib.hid (Stb.halves (Stb.cut_mid HG.out CUT.out HE1.out) HR2.out HO2.out HR3.out HO3.out)
        have HFR := Lib.hid ((HR1.out.mono (by omega) (by omega)).trans ((HR2.out.mono (Nat.le_refl _) (by omega)).trans (HR3.out.mono (by omega) (Nat.le_refl _))))
        go_wp2_with fail
        go_end0
        exact ⟨rfl, M3, HS3.out, HFR.out, HFS.out⟩
      · have hcond : True := trivial
        have d0 : decide ((s : Int) < (m : Int)) = true := by rw [decide_eq_true_eq]; omega
        have d0' : decide (s < m) = true := by rw [decide_eq_true_eq]; omega
        have d1 : decide ((m : Int) < (e : Int)) = true := by rw [decide_eq_true_eq]; omega
        have d1' : decide (m < e) = true := by rw [decide_eq_true_eq]; omega
        have d2 : decide ((a : Int) < (s : Int)) = true := by rw [decide_eq_true_eq]; omega
        have d2' : decide (a < s) = true := by rw [decide_eq_true_eq]; omega
        have d3 : decide ((s : Int) < (mid : Int)) = true := by rw [decide_eq_true_eq]; omega
        have d3' : decide (s < mid) = true := by rw [decide_eq_true_eq]; omega
        have d4 : decide ((mid : Int) < (e : Int)) = true := by rw [decide_eq_true_eq]; omega
        have d4' : decide (mid < e) = true := by rw [decide_eq_true_eq]; omega
        have d5 : decide ((e : Int) < (b : Int)) = false := by rw [decide_eq_false_iff_not]; omega
        have d5' : decide (e < b) = false := by rw [decide_eq_false_iff_not]; omega
        clear hcond
        go_wp2_with fail
        refine (rotate_any w0 wr base g cap n s m e M (.func (.func 158) #[] #[.pointer (some ⟨c, 0, none⟩)]) HS.out (by omega) (by omega) (by omega) hn).mono ?_
        rintro e1 w1 ⟨rfl, M1, hS, hP, hE⟩
        have HS1 := Lib.hid hS
        have HE1 := Lib.hid hE
        have HR1 := Lib.hid (Stb.rot_res hP (by omega) (by omega) hE)
        clear hS hP hE
        go_wp2_with fail
        refine (HIH.out a s mid w1 M1 (by omega) HS1.out (HR1.out.perm.trans HM0.out) (Stb.cut_left HG.out CUT.out HR1.out HE1.out (by omega) (by omega)) (by omega)).mono ?_
        rintro e2 w2 ⟨rfl, M2, hS, hR, hO⟩
        have HS2 := Lib.hid hS
        have HR2 := Lib.hid hR
        have HO2 := Lib.hid hO
        clear hS hR hO
        have HR3 := Lib.hid (Res.refl M2 mid b)
        have HO3 := Lib.hid ((Stb.cut_right_sorted HG.out CUT.out HE1.out (by omega)).congr (fun p h1 h2 => HR2.out.out p (Or.inr h1)))
        have HS3 := HS2
        have HFS := Lib.hid (Stb.halves (Stb.cut_mid HG.out CUT.out HE1.out) HR2.out HO2.out HR3.out HO3.out)
        have HFR := Lib.hid ((HR1.out.mono (by omega) (by omega)).trans ((HR2.out.mono (Nat.le_refl _) (by omega)).trans (HR3.out.mono (by omega) (Nat.le_refl _))))
        go_wp2_with fail
        go_end0
        exact ⟨rfl, M2, HS3.out, HFR.out, HFS.out⟩
      · have hcond : True := trivial
        have d0 : decide ((s : Int) < (m : Int)) = true := by rw [decide_eq_true_eq]; omega
        have d0' : decide (s < m) = true := by rw [decide_eq_true_eq]; omega
        have d1 : decide ((m : Int) < (e : Int)) = true := by rw [decide_eq_true_eq]; omega
        have d1' : decide (m < e) = true := by rw [decide_eq_true_eq]; omega
        have d2 : decide ((a : Int) < (s : Int)) = false := by rw [decide_eq_false_iff_not]; omega
        have d2' : decide (a < s) = false := by rw [decide_eq_false_iff_not]; omega
        have d3 : decide ((mid : Int) < (e : Int)) = true := by rw [decide_eq_true_eq]; omega
        have d3' : decide (mid < e) = true := by rw [decide_eq_true_eq]; omega
        have d4 : decide ((e : Int) < (b : Int)) = true := by rw [decide_eq_true_eq]; omega
        have d4' : decide (e < b) = true := by rw [decide_eq_true_eq]; omega
        clear hcond
        go_wp2_with fail
        refine (rotate_any w0 wr base g cap n s m e M (.func (.func 158) #[] #[.pointer (some ⟨c, 0, none⟩)]) HS.out (by omega) (by omega) (by omega) hn).mono ?_
        rintro e1 w1 ⟨rfl, M1, hS, hP, hE⟩
        have HS1 := Lib.hid hS
        have HE1 := Lib.hid hE
        have HR1 := Lib.hid (Stb.rot_res hP (by omega) (by omega) hE)
        clear hS hP hE
        go_wp2_with fail
        have HR2 := Lib.hid (Res.refl M1 a mid)
        have HO2 := Lib.hid (Stb.cut_left_sorted HG.out CUT.out HE1.out (by omega))
        have HS2 := HS1
        refine (HIH.out mid e b w1 M1 (by omega) HS2.out (HR2.out.perm.trans (HR1.out.perm.trans HM0.out)) ((Stb.cut_right HG.out CUT.out HR1.out HE1.out (by omega) (by omega)).congr HR2.out.length (fun p h1 h2 => HR2.out.out p (Or.inr h1))) (by omega)).mono ?_
        rintro e3 w3 ⟨rfl, M3, hS, hR, hO⟩
        have HS3 := Lib.hid hS
        have HR3 := Lib.hid hR
        have HO3 := Lib.hid hO
        clear hS hR hO
        have HFS := Lib.hid (Stb.halves (Stb.cut_mid HG.out CUT.out HE1.out) HR2.out HO2.out HR3.out HO3.out)
        have HFR := Lib.hid ((HR1.out.mono (by omega) (by omega)).trans ((HR2.out.mono (Nat.le_refl _) (by omega)).trans (HR3.out.mono (by omega) (Nat.le_refl _))))
        go_wp2_with fail
        go_end0
        exact ⟨rfl, M3, HS3.out, HFR.out, HFS.out⟩
      · have hcond : True := trivial
        have d0 : decide ((s : Int) < (m : Int)) = true := by rw [decide_eq_true_eq]; omega
        have d0' : decide (s < m) = true := by rw [decide_eq_true_eq]; omega
        have d1 : decide ((m : Int) < (e : Int)) = true := by rw [decide_eq_true_eq]; omega
        have d1' : decide (m < e) = true := by rw [decide_eq_true_eq]; omega
        have d2 : decide ((a : Int) < (s : Int)) = false := by rw [decide_eq_false_iff_not]; omega
        have d2' : decide (a < s) = false := by rw [decide_eq_false_iff_not]; omega
        have d3 : decide ((mid : Int) < (e : Int)) = true := by rw [decide_eq_true_eq]; omega
        have d3' : decide (mid < e) = true := by rw [decide_eq_true_eq]; omega
        have d4 : decide ((e : Int) < (b : Int)) = false := by rw [decide_eq_false_iff_not]; omega
        have d4' : decide (e < b) = false := by rw [decide_eq_false_iff_not]; omega
        clear hcond
        go_wp2_with fail
        refine (rotate_any w0 wr base g cap n s m e M (.func (.func 158) #[] #[.pointer (some ⟨c, 0, none⟩)]) HS.out (by omega) (by omega) (by omega) hn).mono ?_
        rintro e1 w1 ⟨rfl, M1, hS, hP, hE⟩
        have HS1 := Lib.hid hS
        have HE1 := Lib.hid hE
        have HR1 := Lib.hid (Stb.rot_res hP (by omega) (by omega) hE)
        clear hS hP hE
        have HR2 := Lib.hid (Res.refl M1 a mid)
        have HO2 := Lib.hid (Stb.cut_left_sorted HG.out CUT.out HE1.out (by omega))
        have HS2 := HS1
        have HR3 := Lib.hid (Res.refl M1 mid b)
        have HO3 := Lib.hid ((Stb.cut_right_sorted HG.out CUT.out HE1.out (by omega)).congr (fun p h1 h2 => HR2.out.out p (Or.inr h1)))
        have HS3 := HS2
        have HFS := Lib.hid (Stb.halves (Stb.cut_mid HG.out CUT.out HE1.out) HR2.out HO2.out HR3.out HO3.out)
        have HFR := Lib.hid ((HR1.out.mono (by omega) (by omega)).trans ((HR2.out.mono (Nat.le_refl _) (by omega)).trans (HR3.out.mono (by omega) (Nat.le_refl _))))
        go_wp2_with fail
        go_end0
        exact ⟨rfl, M1, HS3.out, HFR.out, HFS.out⟩
      · have hcond : True := trivial
        have d0 : decide ((s : Int) < (m : Int)) = false := by rw [decide_eq_false_iff_not]; omega
        have d0' : decide (s < m) = false := by rw [decide_eq_false_iff_not]; omega
        have d1 : decide ((a : Int) < (s : Int)) = true := by rw [decide_eq_true_eq]; omega
        have d1' : decide (a < s) = true := by rw [decide_eq_true_eq]; omega
        have d2 : decide ((s : Int) < (mid : Int)) = true := by rw [decide_eq_true_eq]; omega
        have d2' : decide (s < mid) = true := by rw [decide_eq_true_eq]; omega
        have d3 : decide ((mid : Int) < (e : Int)) = false := by rw [decide_eq_false_iff_not]; omega
        have d3' : decide (mid < e) = false := by rw [decide_eq_false_iff_not]; omega
        clear hcond
        go_wp2_with fail
        have HE1 := Lib.hid (show ∀ p, at' M p = Stb.rotF (at' M) s m e p from fun p => (Stb.rotF_id (by omega) (by omega) (by omega) p).symm)
        have HR1 := Lib.hid (Res.refl M s e)
        obtain ⟨w1, hw1⟩ : ∃ w1 : World, w1 = wr := ⟨_, rfl⟩
        obtain ⟨M1, hM1⟩ : ∃ M1, M1 = M := ⟨_, rfl⟩
        have HS1 := Lib.hid (show SW w0 w1 base g cap n M1 by rw [hw1, hM1]; exact HS.out)
        rw [← hw1]
        replace HE1 := Lib.hid (show ∀ p, at' M1 p = Stb.rotF (at' M) s m e p by rw [hM1]; exact HE1.out)
        replace HR1 := Lib.hid (show Res M M1 s e by rw [hM1]; exact HR1.out)
        clear hw1 hM1
        refine (HIH.out a s mid w1 M1 (by omega) HS1.out (HR1.out.perm.trans HM0.out) (Stb.cut_left HG.out CUT.out HR1.out HE1.out (by omega) (by omega)) (by omega)).mono ?_
        rintro e2 w2 ⟨rfl, M2, hS, hR, hO⟩
        have HS2 := Lib.hid hS
        have HR2 := Lib.hid hR
        have HO2 := Lib.hid hO
        clear hS hR hO
        have HR3 := Lib.hid (Res.refl M2 mid b)
        have HO3 := Lib.hid ((Stb.cut_right_sorted HG.out CUT.out HE1.out (by omega)).congr (fun p h1 h2 => HR2.out.out p (Or.inr h1)))
        have HS3 := HS2
        have HFS := Lib.hid (Stb.halves (Stb.cut_mid HG.out CUT.out HE1.out) HR2.out HO2.out HR3.out HO3.out)
        have HFR := Lib.hid ((HR1.out.mono (by omega) (by omega)).trans ((HR2.out.mono (Nat.le_refl _) (by omega)).trans (HR3.out.mono (by omega) (Nat.le_refl _))))
        go_wp2_with fail
        go_end0
        exact ⟨rfl, M2, HS3.out, HFR.out, HFS.out⟩
      · have hcond : True := trivial
        have d0 : decide ((s : Int) < (m : Int)) = false := by rw [decide_eq_false_iff_not]; omega
        have d0' : decide (s < m) = false := by rw [decide_eq_false_iff_not]; omega
        have d1 : decide ((a : Int) < (s : Int)) = true := by rw [decide_eq_true_eq]; omega
        have d1' : decide (a < s) = true := by rw [decide_eq_true_eq]; omega
        have d2 : decide ((s : Int) < (mid : Int)) = false := by rw [decide_eq_false_iff_not]; omega
        have d2' : decide (s < mid) = false := by rw [decide_eq_false_iff_not]; omega
        have d3 : decide ((mid : Int) < (e : Int)) = false := by rw [decide_eq_false_iff_not]; omega
        have d3' : decide (mid < e) = false := by rw [decide_eq_false_iff_not]; omega
        clear hcond
        go_wp2_with fail
        have HE1 := Lib.hid (show ∀ p, at' M p = Stb.rotF (at' M) s m e p from fun p => (Stb.rotF_id (by omega) (by omega) (by omega) p).symm)
        have HR1 := Lib.hid (Res.refl M s e)
        obtain ⟨w1, hw1⟩ : ∃ w1 : World, w1 = wr := ⟨_, rfl⟩
        obtain ⟨M1, hM1⟩ : ∃ M1, M1 = M := ⟨_, rfl⟩
        have HS1 := Lib.hid (show SW w0 w1 base g cap n M1 by rw [hw1, hM1]; exact HS.out)
        rw [← hw1]
        replace HE1 := Lib.hid (show ∀ p, at' M1 p = Stb.rotF (at' M) s m e p by rw [hM1]; exact HE1.out)
        replace HR1 := Lib.hid (show Res M M1 s e by rw [hM1]; exact HR1.out)
        clear hw1 hM1
        have HR2 := Lib.hid (Res.refl M1 a mid)
        have HO2 := Lib.hid (Stb.cut_left_sorted HG.out CUT.out HE1.out (by omega))
        have HS2 := HS1
        have HR3 := Lib.hid (Res.refl M1 mid b)
        have HO3 := Lib.hid ((Stb.cut_right_sorted HG.out CUT.out HE1.out (by omega)).congr (fun p h1 h2 => HR2.out.out p (Or.inr h1)))
        have HS3 := HS2
        have HFS := Lib.hid (Stb.halves (Stb.cut_mid HG.out CUT.out HE1.out) HR2.out HO2.out HR3.out HO3.out)
        have HFR := Lib.hid ((HR1.out.mono (by omega) (by omega)).trans ((HR2.out.mono (Nat.le_refl _) (by omega)).trans (HR3.out.mono (by omega) (Nat.le_refl _))))
        go_end0
        exact ⟨rfl, M1, HS3.out, HFR.out, HFS.out⟩
      · have hcond : True := trivial
        have d0 : decide ((s : Int) < (m : Int)) = true := by rw [decide_eq_true_eq]; omega
        have d0' : decide (s < m) = true := by rw [decide_eq_true_eq]; omega
        have d1 : decide ((m : Int) < (e : Int)) = false := by rw [decide_eq_false_iff_not]; omega
        have d1' : decide (m < e) = false := by rw [decide_eq_false_iff_not]; omega
        have d2 : decide ((a : Int) < (s : Int)) = true := by rw [decide_eq_true_eq]; omega
        have d2' : decide (a < s) = true := by rw [decide_eq_true_eq]; omega
        have d3 : decide ((s : Int) < (mid : Int)) = false := by rw [decide_eq_false_iff_not]; omega
        have d3' : decide (s < mid) = false := by rw [decide_eq_false_iff_not]; omega
        have d4 : decide ((mid : Int) < (e : Int)) = true := by rw [decide_eq_true_eq]; omega
        have d4' : decide (mid < e) = true := by rw [decide_eq_true_eq]; omega
        have d5 : decide ((e : Int) < (b : Int)) = true := by rw [decide_eq_true_eq]; omega
        have d5' : decide (e < b) = true := by rw [decide_eq_true_eq]; omega
        clear hcond
        go_wp2_with fail
        have HE1 := Lib.hid (show ∀ p, at' M p = Stb.rotF (at' M) s m e p from fun p => (Stb.rotF_id (by omega) (by omega) (by omega) p).symm)
        have HR1 := Lib.hid (Res.refl M s e)
        obtain ⟨w1, hw1⟩ : ∃ w1 : World, w1 = wr := ⟨_, rfl⟩
        obtain ⟨M1, hM1⟩ : ∃ M1, M1 = M := ⟨_, rfl⟩
        have HS1 := Lib.hid (show SW w0 w1 base g cap n M1 by rw [hw1, hM1]; exact HS.out)
        rw [← hw1]
        replace HE1 := Lib.hid (show ∀ p, at' M1 p = Stb.rotF (at' M) s m e p by rw [hM1]; exact HE1.out)
        replace HR1 := Lib.hid (show Res M M1 s e by rw [hM1]; exact HR1.out)
        clear hw1 hM1
        have HR2 := Lib.hid (Res.refl M1 a mid)
        have HO2 := Lib.hid (Stb.cut_left_sorted HG.out CUT.out HE1.out (by omega))
        have HS2 := HS1
        refine (HIH.out mid e b w1 M1 (by omega) HS2.out (HR2.out.perm.trans (HR1.out.perm.trans HM0.out)) ((Stb.cut_right HG.out CUT.out HR1.out HE1.out (by omega) (by omega)).congr HR2.out.length (fun p h1 h2 => HR2.out.out p (Or.inr h1))) (by omega)).mono ?_
        rintro e3 w3 ⟨rfl, M3, hS, hR, hO⟩
        have HS3 := Lib.hid hS
        have HR3 := Lib.hid hR
        have HO3 := Lib.hid hO
        clear hS hR hO
        have HFS := Lib.hid (Stb.halves (Stb.cut_mid HG.out CUT.out HE1.out) HR2.out HO2.out HR3.out HO3.out)
        have HFR := Lib.hid ((HR1.out.mono (by omega) (by omega)).trans ((HR2.out.mono (Nat.le_refl _) (by omega)).trans (HR3.out.mono (by omega) (Nat.le_refl _))))
        go_wp2_with fail
        go_end0
        exact ⟨rfl, M3, HS3.out, HFR.out, HFS.out⟩

set_option maxHeartbeats 4000000 in
set_option maxRecDepth 100000 in
theorem merge_lo (R : Int → Int) (w0 w : World) (base g cap n c a m b mid : Nat) (M0 M : List Int) (h : SW w0 w base g cap n M) (hM0 : M.Perm M0) (hcmp : CmpOk R w0 base g cap n c M0)
    (hb : b ≤ n) (hn : (n : Int) ≤ 1000000) (hm : Mrg R M a m b) (h1 : a + 2 ≤ m) (h2 : m + 2 ≤ b) (hmid : mid = (a + b) / 2) (hmm : m ≤ mid)
    (ih : ∀ a' m' b' w M, b' - a' < b - a → SW w0 w base g cap n M → M.Perm M0 → Mrg R M a' m' b' → b' ≤ n →
      Calls Try.prog 196 #[.slice (some ⟨g, 0, none⟩) n cap, .int .i64 a', .int .i64 m', .int .i64 b', .func (.func 158) #[] #[.pointer (some ⟨c, 0, none⟩)]] w (Merged R w0 base g cap n a' b' M)) :
    Calls Try.prog 196 #[.slice (some ⟨g, 0, none⟩) n cap, .int .i64 a, .int .i64 m, .int .i64 b, .func (.func 158) #[] #[.pointer (some ⟨c, 0, none⟩)]] w (Merged R w0 base g cap n a b M) := by
  have H := Lib.hid h
  have HM0 := Lib.hid hM0
  have HC := Lib.hid hcmp
  have HG := Lib.hid hm
  have HIH := Lib.hid ih
  have HMID := Lib.hid hmid
  clear h hM0 hcmp hm ih
  have t1 : (((m : Int) - (a : Int)) == 1) = false := by rw [beq_eq_false_iff_ne]; omega
  have t2 : (((b : Int) - (m : Int)) == 1) = false := by rw [beq_eq_false_iff_ne]; omega
  have hb1 : IntKind.i64.wrap ((m : Int) - (a : Int)) = (m : Int) - (a : Int) := IntWalk.i64_in _ (by omega)
  have hb3 : IntKind.i64.wrap ((b : Int) - (m : Int)) = (b : Int) - (m : Int) := IntWalk.i64_in _ (by omega)
  have emid : ((a : Int) + (b : Int)) / 2 = (mid : Int) := by omega
  have md1 : a + 2 ≤ mid := by omega
  have md2 : mid + 2 ≤ b := by omega
  have md3 : 2 * mid ≤ a + b := by omega
  have md4 : a + b ≤ 2 * mid + 1 := by omega
  have tm : decide ((mid : Int) < (m : Int)) = false := by rw [decide_eq_false_iff_not]; omega
  have tm' : decide (mid < m) = false := by rw [decide_eq_false_iff_not]; omega
  clear hmid
  go_enter Try.func196, Try.ntmps196
  go_wp2_with fail
  go_loopw [20, 21] (fun sv rv wr => ∃ (s r : Nat), sv = .int .i64 s ∧ rv = .int .i64 r ∧ a ≤ s ∧ s ≤ r ∧ r ≤ m ∧ Hid (SW w0 wr base g cap n M) ∧ Hid (s = a ∨ R (at' M (mid + m - 1 - (s - 1))) ≤ R (at' M (s - 1))) ∧ Hid (r = m ∨ R (at' M r) < R (at' M (mid + m - 1 - r)))) (fun sv rv _ => (intOf rv - intOf sv).toNat)
  case atStart => exact ⟨a, m, rfl, rfl, by omega, by omega, by omega, H, Lib.hid (Or.inl rfl), Lib.hid (Or.inl rfl)⟩
  case round =>
    obtain ⟨s, r, rfl, rfl, hs, hsr, hrr, HS, HL, HH⟩ := hrel
    by_cases hlt : s < r
    · have t3 : decide ((s : Int) < (r : Int)) = true := by rw [decide_eq_true_eq]; omega
      have t3' : decide (s < r) = true := by simpa using hlt
      obtain ⟨k, hk⟩ : ∃ k : Nat, (s + r) / 2 = k := ⟨_, rfl⟩
      have ek : ((s : Int) + (r : Int)) / 2 = (k : Int) := by omega
      have k0 : s ≤ k := by omega
      have k1 : k < r := by omega
      clear hk
      obtain ⟨u, hu⟩ : ∃ u : Nat, mid + m - 1 - k = u := ⟨_, rfl⟩
      have eu : (mid : Int) + (m : Int) - 1 - (k : Int) = (u : Int) := by omega
      have u0 : m ≤ u := by omega
      have u1 : u < b := by omega
      have HU := Lib.hid hu
      clear hu
      have hp2 : M.Perm M0 := HM0.out
      have c1 := HS.out.cell (j := u) (by omega)
      have c2 := HS.out.cell (j := k) (by omega)
      have m1 := at_mem HS.out.len (show u < n by omega) hp2
      have m2 := at_mem HS.out.len (show k < n by omega) hp2
      have hun : u < n := by omega
      have hkn : k < n := by omega
      obtain ⟨x, hx⟩ : ∃ x, at' M u = x := ⟨_, rfl⟩
      obtain ⟨y, hy⟩ : ∃ y, at' M k = y := ⟨_, rfl⟩
      rw [hx] at c1 m1
      rw [hy] at c2 m2
      have HX := Lib.hid hx
      have HY := Lib.hid hy
      have HQ := Lib.hid (fun q => HC.out (wr.drewN q) M (HS.out.drewN q) x y m1 m2)
      clear hx hy hp2 m1 m2
      by_cases hc : R y < R x
      · have t4 : decide (Lib.compareInt (R y) (R x) < 0) = true := by rw [decide_eq_true_eq, cmp_neg]; exact hc
        have HH2 := Lib.hid (show k = m ∨ R (at' M k) < R (at' M (mid + m - 1 - k)) from Or.inr (by rw [HU.out, HX.out, HY.out]; exact hc))
        generalize Lib.compareInt (R y) (R x) = cv at t4 HQ
        go_wp2_with fail
        go_quiet ((go_at_call 158; exact Calls.quiet_of (HQ.out _)))
        go_wp2_with fail
        go_roundw
        case rel => exact ⟨s, k, rfl, rfl, hs, k0, by omega, Lib.hid (HS.out.drewN _), HL, HH2⟩
        case measure => simp [intOf]; omega
      · have t4 : decide (Lib.compareInt (R y) (R x) < 0) = false := by rw [decide_eq_false_iff_not, cmp_neg]; exact hc
        have HL2 := Lib.hid (show k + 1 = a ∨ R (at' M (mid + m - 1 - (k + 1 - 1))) ≤ R (at' M (k + 1 - 1)) from Or.inr (by rw [Nat.add_sub_cancel, HU.out, HX.out, HY.out]; omega))
        generalize Lib.compareInt (R y) (R x) = cv at t4 HQ
        go_wp2_with fail
        go_quiet ((go_at_call 158; exact Calls.quiet_of (HQ.out _)))
        go_wp2_with fail
        go_roundw
        case rel => exact ⟨k + 1, r, by go_num, rfl, by omega, by omega, hrr, Lib.hid (HS.out.drewN _), HL2, HH⟩
        case measure => simp [intOf]; omega
    · have t3 : decide ((s : Int) < (r : Int)) = false := by rw [decide_eq_false_iff_not]; omega
      have t3' : decide (s < r) = false := by simpa using hlt
      obtain rfl : s = r := by omega
      obtain ⟨e, he⟩ : ∃ e : Nat, mid + m - s = e := ⟨_, rfl⟩
      have ee : (mid : Int) + (m : Int) - (s : Int) = (e : Int) := by omega
      have hsum : s + e = mid + m := by omega
      have CUT := Lib.hid (show Stb.Cutp R M a m b mid s e from by
        rw [← he]
        refine Stb.cut_of HG.out HMID.out (by omega) (by omega) ?_ ?_
        · rcases HL.out with h | h
          · exact Or.inr (Or.inl ⟨hmm, h⟩)
          · exact Or.inr (Or.inr (Int.not_lt.2 h))
        · rcases HH.out with h | h
          · exact Or.inr (Or.inl ⟨hmm, h⟩)
          · exact Or.inr (Or.inr h))
      clear he hlt hsr
      have b1 : m ≤ e := CUT.out.me
      have b2 : e ≤ b := CUT.out.eb
      have b3 : a ≤ s := CUT.out.as
      have b4 : s ≤ m := CUT.out.sm
      have b5 : s ≤ mid := CUT.out.smid
      have b6 : mid ≤ e := CUT.out.mide
      have hways : (s < m ∧ m < e ∧ a < s ∧ e < b) ∨ (s < m ∧ m < e ∧ a < s ∧ b ≤ e) ∨ (s < m ∧ m < e ∧ s ≤ a ∧ e < b) ∨ (s < m ∧ m < e ∧ s ≤ a ∧ b ≤ e) ∨ (m ≤ s ∧ m < mid) ∨ (m ≤ s ∧ mid ≤ m) ∨ (s < m ∧ e ≤ m) := by omega
      rcases hways with ⟨z0, z1, z2, z3⟩ | ⟨z0, z1, z2, z3⟩ | ⟨z0, z1, z2, z3⟩ | ⟨z0, z1, z2, z3⟩ | ⟨z0, z1⟩ | ⟨z0, z1⟩ | ⟨z0, z1⟩
      · have hcond : True := trivial
        have d0 : decide ((s : Int) < (m : Int)) = true := by rw [decide_eq_true_eq]; omega
        have d0' : decide (s < m) = true := by rw [decide_eq_true_eq]; omega
        have d1 : decide ((m : Int) < (e : Int)) = true := by rw [decide_eq_true_eq]; omega
        have d1' : decide (m < e) = true := by rw [decide_eq_true_eq]; omega
        have d2 : decide ((a : Int) < (s : Int)) = true := by rw [decide_eq_true_eq]; omega
        have d2' : decide (a < s) = true := by rw [decide_eq_true_eq]; omega
        have d3 : decide ((s : Int) < (mid : Int)) = true := by rw [decide_eq_true_eq]; omega
        have d3' : decide (s < mid) = true := by rw [decide_eq_true_eq]; omega
        have d4 : decide ((mid : Int) < (e : Int)) = true := by rw [decide_eq_true_eq]; omega
        have d4' : decide (mid < e) = true := by rw [decide_eq_true_eq]; omega
        have d5 : decide ((e : Int) < (b : Int)) = true := by rw [decide_eq_true_eq]; omega
        have d5' : decide (e < b) = true := by rw [decide_eq_true_eq]; omega
        clear hcond
        go_wp2_with fail
        refine (rotate_any w0 wr base g cap n s m e M (.func (.func 158) #[] #[.pointer (some ⟨c, 0, none⟩)]) HS.out (by omega) (by omega) (by omega) hn).mono ?_
        rintro e1 w1 ⟨rfl, M1, hS, hP, hE⟩
        have HS1 := Lib.hid hS
        have HE1 := Lib.hid hE
        have HR1 := Lib.hid (Stb.rot_res hP (by omega) (by omega) hE)
        clear hS hP hE
        go_wp2_with fail
        refine (HIH.out a s mid w1 M1 (by omega) HS1.out (HR1.out.perm.trans HM0.out) (Stb.cut_left HG.out CUT.out HR1.out HE1.out (by omega) (by omega)) (by omega)).mono ?_
        rintro e2 w2 ⟨rfl, M2, hS, hR, hO⟩
        have HS2 := Lib.hid hS
        have HR2 := Lib.hid hR
        have HO2 := Lib.hid hO
        clear hS hR hO
        go_wp2_with fail
        refine (HIH.out mid e b w2 M2 (by omega) HS2.out (HR2.out.perm.trans (HR1.out.perm.trans HM0.out)) ((Stb.cut_right HG.out CUT.out HR1.out HE1.out (by omega) (by omega)).congr HR2.out.length (fun p h1 h2 => HR2.out.out p (Or.inr h1))) (by omega)).mono ?_
        rintro e3 w3 ⟨rfl, M3, hS, hR, hO⟩
        have HS3 := Lib.hid hS
        have HR3 := Lib.hid hR
        have HO3 := Lib.hid hO
        clear hS hR hO
        have HFS := Lib.hid (Stb.halves (Stb.cut_mid HG.out CUT.out HE1.out) HR2.out HO2.out HR3.out HO3.out)
        have HFR := Lib.hid ((HR1.out.mono (by omega) (by omega)).trans ((HR2.out.mono (Nat.le_refl _) (by omega)).trans (HR3.out.mono (by omega) (Nat.le_refl _))))
        go_wp2_with fail
        go_end0
        exact ⟨rfl, M3, HS3.out, HFR.out, HFS.out⟩
      · have hcond : True := trivial
        have d0 : decide ((s : Int) < (m : Int)) = true := by rw [decide_eq_true_eq]; omega
        have d0' : decide (s < m) = true := by rw [decide_eq_true_eq]; omega
        have d1 : decide ((m : Int) < (e : Int)) = true := by rw [decide_eq_true_eq]; omega
        have d1' : decide (m < e) = true := by rw [decide_eq_true_eq]; omega
        have d2 : decide ((a : Int) < (s : Int)) = true := by rw [decide_eq_true_eq]; omega
        have d2' : decide (a < s) = true := by rw [decide_eq_true_eq]; omega
        have d3 : decide ((s : Int) < (mid : Int)) = true := by rw [decide_eq_true_eq]; omega
        have d3' : decide (s < mid) = true := by rw [decide_eq_true_eq]; omega
        have d4 : decide ((mid : Int) < (e : Int)) = true := by rw [decide_eq_true_eq]; omega
        have d4' : decide (mid < e) = true := by rw [decide_eq_true_eq]; omega
        have d5 : decide ((e : Int) < (b : Int)) = false := by rw [decide_eq_false_iff_not]; omega
        have d5' : decide (e < b) = false := by rw [decide_eq_false_iff_not]; omega
        clear hcond
        go_wp2_with fail
        refine (rotate_any w0 wr base g cap n s m e M (.func (.func 158) #[] #[.pointer (some ⟨c, 0, none⟩)]) HS.out (by omega) (by omega) (by omega) hn).mono ?_
        rintro e1 w1 ⟨rfl, M1, hS, hP, hE⟩
        have HS1 := Lib.hid hS
        have HE1 := Lib.hid hE
        have HR1 := Lib.hid (Stb.rot_res hP (by omega) (by omega) hE)
        clear hS hP hE
        go_wp2_with fail
        refine (HIH.out a s mid w1 M1 (by omega) HS1.out (HR1.out.perm.trans HM0.out) (Stb.cut_left HG.out CUT.out HR1.out HE1.out (by omega) (by omega)) (by omega)).mono ?_
        rintro e2 w2 ⟨rfl, M2, hS, hR, hO⟩
        have HS2 := Lib.hid hS
        have HR2 := Lib.hid hR
        have HO2 := Lib.hid hO
        clear hS hR hO
        have HR3 := Lib.hid (Res.refl M2 mid b)
        have HO3 := Lib.hid ((Stb.cut_right_sorted HG.out CUT.out HE1.out (by omega)).congr (fun p h1 h2 => HR2.out.out p (Or.inr h1)))
        have HS3 := HS2
        have HFS := Lib.hid (Stb.halves (Stb.cut_mid HG.out CUT.out HE1.out) HR2.out HO2.out HR3.out HO3.out)
        have HFR := Lib.hid ((HR1.out.mono (by omega) (by omega)).trans ((HR2.out.mono (Nat.le_refl _) (by omega)).trans (HR3.out.mono (by omega) (Nat.le_refl _))))
        go_wp2_with fail
        go_end0
        exact ⟨rfl, M2, HS3.out, HFR.out, HFS.out⟩
      · have hcond : True := trivial
        have d0 : decide ((s : Int) < (m : Int)) = true := by rw [decide_eq_true_eq]; omega
        have d0' : decide (s < m) = true := by rw [decide_eq_true_eq]; omega
        have d1 : decide ((m : Int) < (e : Int)) = true := by rw [decide_eq_true_eq]; omega
        have d1' : decide (m < e) = true := by rw [decide_eq_true_eq]; omega
        have d2 : decide ((a : Int) < (s : Int)) = false := by rw [decide_eq_false_iff_not]; omega
        have d2' : decide (a < s) = false := by rw [decide_eq_false_iff_not]; omega
        have d3 : decide ((mid : Int) < (e : Int)) = true := by rw [decide_eq_true_eq]; omega
        have d3' : decide (mid < e) = true := by rw [decide_eq_true_eq]; omega
        have d4 : decide ((e : Int) < (b : Int)) = true := by rw [decide_eq_true_eq]; omega
        have d4' : decide (e < b) = true := by rw [decide_eq_true_eq]; omega
        clear hcond
        go_wp2_with fail
        refine (rotate_any w0 wr base g cap n s m e M (.func (.func 158) #[] #[.pointer (some ⟨c, 0, none⟩)]) HS.out (by omega) (by omega) (by omega) hn).mono ?_
        rintro e1 w1 ⟨rfl, M1, hS, hP, hE⟩
        have HS1 := Lib.hid hS
        have HE1 := Lib.hid hE
        have HR1 := Lib.hid (Stb.rot_res hP (by omega) (by omega) hE)
        clear hS hP hE
        go_wp2_with fail
        have HR2 := Lib.hid (Res.refl M1 a mid)
        have HO2 := Lib.hid (Stb.cut_left_sorted HG.out CUT.out HE1.out (by omega))
        have HS2 := HS1
        refine (HIH.out mid e b w1 M1 (by omega) HS2.out (HR2.out.perm.trans (HR1.out.perm.trans HM0.out)) ((Stb.cut_right HG.out CUT.out HR1.out HE1.out (by omega) (by omega)).congr HR2.out.length (fun p h1 h2 => HR2.out.out p (Or.inr h1))) (by omega)).mono ?_
        rintro e3 w3 ⟨rfl, M3, hS, hR, hO⟩
        have HS3 := Lib.hid hS
        have HR3 := Lib.hid hR
        have HO3 := Lib.hid hO
        clear hS hR hO
        have HFS := Lib.hid (Stb.halves (Stb.cut_mid HG.out CUT.out HE1.out) HR2.out HO2.out HR3.out HO3.out)
        have HFR := Lib.hid ((HR1.out.mono (by omega) (by omega)).trans ((HR2.out.mono (Nat.le_refl _) (by omega)).trans (HR3.out.mono (by omega) (Nat.le_refl _))))
        go_wp2_with fail
        go_end0
        exact ⟨rfl, M3, HS3.out, HFR.out, HFS.out⟩
      · have hcond : True := trivial
        have d0 : decide ((s : Int) < (m : Int)) = true := by rw [decide_eq_true_eq]; omega
        have d0' : decide (s < m) = true := by rw [decide_eq_true_eq]; omega
        have d1 : decide ((m : Int) < (e : Int)) = true := by rw [decide_eq_true_eq]; omega
        have d1' : decide (m < e) = true := by rw [decide_eq_true_eq]; omega
        have d2 : decide ((a : Int) < (s : Int)) = false := by rw [decide_eq_false_iff_not]; omega
        have d2' : decide (a < s) = false := by rw [decide_eq_false_iff_not]; omega
        have d3 : decide ((mid : Int) < (e : Int)) = true := by rw [decide_eq_true_eq]; omega
        have d3' : decide (mid < e) = true := by rw [decide_eq_true_eq]; omega
        have d4 : decide ((e : Int) < (b : Int)) = false := by rw [decide_eq_false_iff_not]; omega
        have d4' : decide (e < b) = false := by rw [decide_eq_false_iff_not]; omega
        clear hcond
        go_wp2_with fail
        refine (rotate_any w0 wr base g cap n s m e M (.func (.func 158) #[] #[.pointer (some ⟨c, 0, none⟩)]) HS.out (by omega) (by omega) (by omega) hn).mono ?_
        rintro e1 w1 ⟨rfl, M1, hS, hP, hE⟩
        have HS1 := Lib.hid hS
        have HE1 := Lib.hid hE
        have HR1 := Lib.hid (Stb.rot_res hP (by omega) (by omega) hE)
        clear hS hP hE
        have HR2 := Lib.hid (Res.refl M1 a mid)
        have HO2 := Lib.hid (Stb.cut_left_sorted HG.out CUT.out HE1.out (by omega))
        have HS2 := HS1
        have HR3 := Lib.hid (Res.refl M1 mid b)
        have HO3 := Lib.hid ((Stb.cut_right_sorted HG.out CUT.out HE1.out (by omega)).congr (fun p h1 h2 => HR2.out.out p (Or.inr h1)))
        have HS3 := HS2
        have HFS := Lib.hid (Stb.halves (Stb.cut_mid HG.out CUT.out HE1.out) HR2.out HO2.out HR3.out HO3.out)
        have HFR := Lib.hid ((HR1.out.mono (by omega) (by omega)).trans ((HR2.out.mono (Nat.le_refl _) (by omega)).trans (HR3.out.mono (by omega) (Nat.le_refl _))))
        go_wp2_with fail
        go_end0
        exact ⟨rfl, M1, HS3.out, HFR.out, HFS.out⟩
      · have hcond : True := trivial
        have d0 : decide ((s : Int) < (m : Int)) = false := by rw [decide_eq_false_iff_not]; omega
        have d0' : decide (s < m) = false := by rw [decide_eq_false_iff_not]; omega
        have d1 : decide ((a : Int) < (s : Int)) = true := by rw [decide_eq_true_eq]; omega
        have d1' : decide (a < s) = true := by rw [decide_eq_true_eq]; omega
        have d2 : decide ((s : Int) < (mid : Int)) = true := by rw [decide_eq_true_eq]; omega
        have d2' : decide (s < mid) = true := by rw [decide_eq_true_eq]; omega
        have d3 : decide ((mid : Int) < (e : Int)) = false := by rw [decide_eq_false_iff_not]; omega
        have d3' : decide (mid < e) = false := by rw [decide_eq_false_iff_not]; omega
        clear hcond
        go_wp2_with fail
        have HE1 := Lib.hid (show ∀ p, at' M p = Stb.rotF (at' M) s m e p from fun p => (Stb.rotF_id (by omega) (by omega) (by omega) p).symm)
        have HR1 := Lib.hid (Res.refl M s e)
        obtain ⟨w1, hw1⟩ : ∃ w1 : World, w1 = wr := ⟨_, rfl⟩
        obtain ⟨M1, hM1⟩ : ∃ M1, M1 = M := ⟨_, rfl⟩
        have HS1 := Lib.hid (show SW w0 w1 base g cap n M1 by rw [hw1, hM1]; exact HS.out)
        rw [← hw1]
        replace HE1 := Lib.hid (show ∀ p, at' M1 p = Stb.rotF (at' M) s m e p by rw [hM1]; exact HE1.out)
        replace HR1 := Lib.hid (show Res M M1 s e by rw [hM1]; exact HR1.out)
        clear hw1 hM1
        refine (HIH.out a s mid w1 M1 (by omega) HS1.out (HR1.out.perm.trans HM0.out) (Stb.cut_left HG.out CUT.out HR1.out HE1.out (by omega) (by omega)) (by omega)).mono ?_
        rintro e2 w2 ⟨rfl, M2, hS, hR, hO⟩
        have HS2 := Lib.hid hS
        have HR2 := Lib.hid hR
        have HO2 := Lib.hid hO
        clear hS hR hO
        have HR3 := Lib.hid (Res.refl M2 mid b)
        have HO3 := Lib.hid ((Stb.cut_right_sorted HG.out CUT.out HE1.out (by omega)).congr (fun p h1 h2 => HR2.out.out p (Or.inr h1)))
        have HS3 := HS2
        have HFS := Lib.hid (Stb.halves (Stb.cut_mid HG.out CUT.out HE1.out) HR2.out HO2.out HR3.out HO3.out)
        have HFR := Lib.hid ((HR1.out.mono (by omega) (by omega)).trans ((HR2.out.mono (Nat.le_refl _) (by omega)).trans (HR3.out.mono (by omega) (Nat.le_refl _))))
        go_wp2_with fail
        go_end0
        exact ⟨rfl, M2, HS3.out, HFR.out, HFS.out⟩
      · have hcond : True := trivial
        have d0 : decide ((s : Int) < (m : Int)) = false := by rw [decide_eq_false_iff_not]; omega
        have d0' : decide (s < m) = false := by rw [decide_eq_false_iff_not]; omega
        have d1 : decide ((a : Int) < (s : Int)) = true := by rw [decide_eq_true_eq]; omega
        have d1' : decide (a < s) = true := by rw [decide_eq_true_eq]; omega
        have d2 : decide ((s : Int) < (mid : Int)) = false := by rw [decide_eq_false_iff_not]; omega
        have d2' : decide (s < mid) = false := by rw [decide_eq_false_iff_not]; omega
        have d3 : decide ((mid : Int) < (e : Int)) = false := by rw [decide_eq_false_iff_not]; omega
        have d3' : decide (mid < e) = false := by rw [decide_eq_false_iff_not]; omega
        clear hcond
        go_wp2_with fail
        have HE1 := Lib.hid (show ∀ p, at' M p = Stb.rotF (at' M) s m e p from fun p => (Stb.rotF_id (by omega) (by omega) (by omega) p).symm)
        have HR1 := Lib.hid (Res.refl M s e)
        obtain ⟨w1, hw1⟩ : ∃ w1 : World, w1 = wr := ⟨_, rfl⟩
        obtain ⟨M1, hM1⟩ : ∃ M1, M1 = M := ⟨_, rfl⟩
        have HS1 := Lib.hid (show SW w0 w1 base g cap n M1 by rw [hw1, hM1]; exact HS.out)
        rw [← hw1]
        replace HE1 := Lib.hid (show ∀ p, at' M1 p = Stb.rotF (at' M) s m e p by rw [hM1]; exact HE1.out)
        replace HR1 := Lib.hid (show Res M M1 s e by rw [hM1]; exact HR1.out)
        clear hw1 hM1
        have HR2 := Lib.hid (Res.refl M1 a mid)
        have HO2 := Lib.hid (Stb.cut_left_sorted HG.out CUT.out HE1.out (by omega))
        have HS2 := HS1
        have HR3 := Lib.hid (Res.refl M1 mid b)
        have HO3 := Lib.hid ((Stb.cut_right_sorted HG.out CUT.out HE1.out (by omega)).congr (fun p h1 h2 => HR2.out.out p (Or.inr h1)))
        have HS3 := HS2
        have HFS := Lib.hid (Stb.halves (Stb.cut_mid HG.out CUT.out HE1.out) HR2.out HO2.out HR3.out HO3.out)
        have HFR := Lib.hid ((HR1.out.mono (by omega) (by omega)).trans ((HR2.out.mono (Nat.le_refl _) (by omega)).trans (HR3.out.mono (by omega) (Nat.le_refl _))))
        go_end0
        exact ⟨rfl, M1, HS3.out, HFR.out, HFS.out⟩
      · have hcond : True := trivial
        have d0 : decide ((s : Int) < (m : Int)) = true := by rw [decide_eq_true_eq]; omega
        have d0' : decide (s < m) = true := by rw [decide_eq_true_eq]; omega
        have d1 : decide ((m : Int) < (e : Int)) = false := by rw [decide_eq_false_iff_not]; omega
        have d1' : decide (m < e) = false := by rw [decide_eq_false_iff_not]; omega
        have d2 : decide ((a : Int) < (s : Int)) = true := by rw [decide_eq_true_eq]; omega
        have d2' : decide (a < s) = true := by rw [decide_eq_true_eq]; omega
        have d3 : decide ((s : Int) < (mid : Int)) = false := by rw [decide_eq_false_iff_not]; omega
        have d3' : decide (s < mid) = false := by rw [decide_eq_false_iff_not]; omega
        have d4 : decide ((mid : Int) < (e : Int)) = true := by rw [decide_eq_true_eq]; omega
        have d4' : decide (mid < e) = true := by rw [decide_eq_true_eq]; omega
        have d5 : decide ((e : Int) < (b : Int)) = true := by rw [decide_eq_true_eq]; omega
        have d5' : decide (e < b) = true := by rw [decide_eq_true_eq]; omega
        clear hcond
        go_wp2_with fail
        have HE1 := Lib.hid (show ∀ p, at' M p = Stb.rotF (at' M) s m e p from fun p => (Stb.rotF_id (by omega) (by omega) (by omega) p).symm)
        have HR1 := Lib.hid (Res.refl M s e)
        obtain ⟨w1, hw1⟩ : ∃ w1 : World, w1 = wr := ⟨_, rfl⟩
        obtain ⟨M1, hM1⟩ : ∃ M1, M1 = M := ⟨_, rfl⟩
        have HS1 := Lib.hid (show SW w0 w1 base g cap n M1 by rw [hw1, hM1]; exact HS.out)
        rw [← hw1]
        replace HE1 := Lib.hid (show ∀ p, at' M1 p = Stb.rotF (at' M) s m e p by rw [hM1]; exact HE1.out)
        replace HR1 := Lib.hid (show Res M M1 s e by rw [hM1]; exact HR1.out)
        clear hw1 hM1
        have HR2 := Lib.hid (Res.refl M1 a mid)
        have HO2 := Lib.hid (Stb.cut_left_sorted HG.out CUT.out HE1.out (by omega))
        have HS2 := HS1
        refine (HIH.out mid e b w1 M1 (by omega) HS2.out (HR2.out.perm.trans (HR1.out.perm.trans HM0.out)) ((Stb.cut_right HG.out CUT.out HR1.out HE1.out (by omega) (by omega)).congr HR2.out.length (fun p h1 h2 => HR2.out.out p (Or.inr h1))) (by omega)).mono ?_
        rintro e3 w3 ⟨rfl, M3, hS, hR, hO⟩
        have HS3 := Lib.hid hS
        have HR3 := Lib.hid hR
        have HO3 := Lib.hid hO
        clear hS hR hO
        have HFS := Lib.hid (Stb.halves (Stb.cut_mid HG.out CUT.out HE1.out) HR2.out HO2.out HR3.out HO3.out)
        have HFR := Lib.hid ((HR1.out.mono (by omega) (by omega)).trans ((HR2.out.mono (Nat.le_refl _) (by omega)).trans (HR3.out.mono (by omega) (Nat.le_refl _))))
        go_wp2_with fail
        go_end0
        exact ⟨rfl, M3, HS3.out, HFR.out, HFS.out⟩
end Go.Proofs.Ytbkpoepacjinlaa
