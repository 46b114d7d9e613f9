/- The stable sort of the library: the merge of one at the end. -/
import Derived.Test.YtbkpoepacjinlaaSm
namespace Go.Proofs.Ytbkpoepacjinlaa
open Go.RowKit Go.BigFrame
open Stb (at' sw2 Srt Res Mrg)

set_option maxHeartbeats 2000000 in
set_option maxRecDepth 100000 in
theorem merge_last (R : Int → Int) (w0 w : World) (base g cap n c a b : Nat) (M0 M : List Int) (h : SW w0 w base g cap n M) (hM0 : M.Perm M0) (hcmp : CmpOk R w0 base g cap n c M0)
    (hb : b ≤ n) (hn : (n : Int) ≤ 1000000) (m : Nat) (hm : Mrg R M a m (m + 1)) (hne : m ≠ a + 1) (hb2 : b = m + 1) :
    Calls Try.prog 196 #[.slice (some ⟨g, 0, none⟩) n cap, .int .i64 a, .int .i64 m, .int .i64 b, .func (.func 158) #[] #[.pointer (some ⟨c, 0, none⟩)]] w (Merged R w0 base g cap n a b M) := by
  have H := Lib.hid h
  have HM0 := Lib.hid hM0
  have HC := Lib.hid hcmp
  have HG := Lib.hid hm
  have ham : a < m := hm.am
  clear h hM0 hcmp hm
  have t1 : (((m : Int) - (a : Int)) == 1) = false := by rw [beq_eq_false_iff_ne]; omega
  have t2 : (((b : Int) - (m : Int)) == 1) = true := by rw [beq_iff_eq]; omega
  have HM := Lib.hid hb2
  have hm1 : m < b := by omega
  have hb1 : IntKind.i64.wrap ((m : Int) - (a : Int)) = (m : Int) - (a : Int) := IntWalk.i64_in _ (by omega)
  have hb3 : IntKind.i64.wrap ((b : Int) - (m : Int)) = (b : Int) - (m : Int) := IntWalk.i64_in _ (by omega)
  clear hb2 hne
  go_enter Try.func196, Try.ntmps196
  go_wp2_with fail
  go_loopw [14, 15] (fun iv jv wr => ∃ (i j : Nat), iv = .int .i64 i ∧ jv = .int .i64 j ∧ a ≤ i ∧ i ≤ j ∧ j ≤ m ∧ Hid (SW w0 wr base g cap n M) ∧ Hid (∀ q, a ≤ q → q < i → R (at' M m) ≤ R (at' M q)) ∧ Hid (∀ q, j ≤ q → q < m → R (at' M q) < R (at' M m))) (fun iv jv _ => (intOf jv - intOf iv).toNat)
  case atStart => exact ⟨a, m, rfl, rfl, by omega, by omega, by omega, H, Lib.hid (fun q h1 h2 => by omega), Lib.hid (fun q h1 h2 => by omega)⟩
  case round =>
    obtain ⟨i, j, rfl, rfl, hmi, hij, hjb, HS, HL, HH⟩ := hrel
    by_cases hlt : i < j
    · have t3' : decide ((i : Int) < (j : Int)) = true := by rw [decide_eq_true_eq]; omega
      have t3'' : decide (i < j) = true := by simpa using hlt
      obtain ⟨k, hk⟩ : ∃ k : Nat, (i + j) / 2 = k := ⟨_, rfl⟩
      have ek : ((i : Int) + (j : Int)) / 2 = (k : Int) := by omega
      have k0 : i ≤ k := by omega
      have k1 : k < j := by omega
      clear hk
      have hp2 : M.Perm M0 := HM0.out
      have c1 := HS.out.cell (j := m) (by omega)
      have c2 := HS.out.cell (j := k) (by omega)
      have m1 := at_mem HS.out.len (show m < n by omega) hp2
      have m2 := at_mem HS.out.len (show k < n by omega) hp2
      have hka : k < n := by omega
      have han : m < n := by omega
      obtain ⟨x, hx⟩ : ∃ x, at' M m = x := ⟨_, rfl⟩
      obtain ⟨y, hy⟩ : ∃ y, at' M k = y := ⟨_, rfl⟩
      rw [hx] at c1 m1
      rw [hy] at c2 m2
      have HX := Lib.hid hx
      have HY := Lib.hid hy
      have HQ := Lib.hid (fun q => HC.out (wr.drewN q) M (HS.out.drewN q) x y m1 m2)
      clear hx hy hp2 m1 m2
      by_cases hc : R y < R x
      · have t3 : decide (Lib.compareInt (R y) (R x) < 0) = true := by rw [decide_eq_true_eq, cmp_neg]; exact hc
        have HH2 := Lib.hid (show ∀ q, k ≤ q → q < m → R (at' M q) < R (at' M m) from fun q h1 h2 => HG.out.hi' (Nat.le_refl _) (Nat.lt_succ_self _) (show a ≤ k by omega) (by rw [HX.out, HY.out]; exact hc) q h1 h2)
        generalize Lib.compareInt (R y) (R x) = cv at t3 HQ
        go_wp2_with fail
        go_quiet ((go_at_call 158; exact Calls.quiet_of (HQ.out _)))
        go_wp2_with fail
        go_roundw
        case rel => exact ⟨i, k, rfl, rfl, hmi, k0, by omega, Lib.hid (HS.out.drewN _), HL, HH2⟩
        case measure => simp [intOf]; omega
      · have t3 : decide (Lib.compareInt (R y) (R x) < 0) = false := by rw [decide_eq_false_iff_not, cmp_neg]; exact hc
        have HL2 := Lib.hid (show ∀ q, a ≤ q → q < k + 1 → R (at' M m) ≤ R (at' M q) from fun q h1 h2 => Int.not_lt.1 (HG.out.lo' (Nat.le_refl _) (Nat.lt_succ_self _) (show k < m by omega) (by rw [HX.out, HY.out]; exact hc) q h1 (by omega)))
        generalize Lib.compareInt (R y) (R x) = cv at t3 HQ
        go_wp2_with fail
        go_quiet ((go_at_call 158; exact Calls.quiet_of (HQ.out _)))
        go_wp2_with fail
        go_roundw
        case rel => exact ⟨k + 1, j, by go_num, rfl, by omega, by omega, hjb, Lib.hid (HS.out.drewN _), HL2, HH⟩
        case measure => simp [intOf]; omega
    · have t3' : decide ((i : Int) < (j : Int)) = false := by rw [decide_eq_false_iff_not]; omega
      have t3'' : decide (i < j) = false := by simpa using hlt
      obtain rfl : i = j := by omega
      clear hlt hij
      go_wp2_with fail
      obtain ⟨wo, rfl⟩ : ∃ wo : World, wo = wr := ⟨_, rfl⟩
      go_loopw [17] (fun kv w2 => ∃ (k : Nat) (M2 : List Int), kv = .int .i64 k ∧ i ≤ k ∧ k ≤ m ∧ Hid (SW w0 w2 base g cap n M2) ∧ Hid (M2.Perm M) ∧ Hid (∀ p, at' M2 p = Stb.dnF (at' M) m k p)) (fun kv _ => (intOf kv).toNat)
      case atStart => exact ⟨m, M, rfl, by omega, Nat.le_refl _, HS, Lib.hid (List.Perm.refl _), Lib.hid (fun p => (Stb.dnF_start _ _ _).symm)⟩
      case round =>
        obtain ⟨k, M2, rfl, hak, hki, HS2, HP2, HE2⟩ := hrel
        by_cases hlt : i < k
        · obtain ⟨kp, rfl⟩ : ∃ kp, k = kp + 1 := ⟨k - 1, by omega⟩
          have t4 : decide ((i : Int) < (kp : Int) + 1) = true := by rw [decide_eq_true_eq]; omega
          have t4' : decide (i < kp + 1) = true := by simpa using hlt
          have c1 := HS2.out.cell (j := kp + 1) (by omega)
          have c2 := HS2.out.cell (j := kp) (by omega)
          have f1 := HS2.out.frozen (kp + 1)
          have f2 := HS2.out.frozen kp
          obtain ⟨x, hx⟩ : ∃ x, at' M2 (kp + 1) = x := ⟨_, rfl⟩
          obtain ⟨y, hy⟩ : ∃ y, at' M2 kp = y := ⟨_, rfl⟩
          rw [hx] at c1
          rw [hy] at c2
          have HX := Lib.hid hx
          have HY := Lib.hid hy
          have hidx : ((kp : Int) + 1).toNat = kp + 1 := by omega
          have hkn : kp + 1 < n := by omega
          clear hx hy
          go_wp2_with fail
          go_region
          go_wp2
          go_roundw
          case rel => exact ⟨kp, sw2 M2 (kp + 1) kp, by first | rfl | go_num, by omega, by omega, Lib.hid ((HS2.out.swap HX.out HY.out).drew), Lib.hid ((Stb.sw2_perm (by rw [HS2.out.len]; omega) (by rw [HS2.out.len]; omega)).trans HP2.out), Lib.hid (Stb.dnF_step (k := kp + 1) hki (by omega) (by rw [HS2.out.len]; omega) HE2.out)⟩
          case measure => simp [intOf] <;> omega
        · have t4 : decide ((i : Int) < (k : Int)) = false := by rw [decide_eq_false_iff_not]; omega
          have t4' : decide (i < k) = false := by simpa using hlt
          obtain rfl : k = i := by omega
          have HF := Lib.hid (show Res M M2 a b ∧ Srt R M2 a b from by
            have e := HM.out
            subst e
            exact ⟨Stb.dn_res HP2.out hmi hki HE2.out, Stb.dn_sorted HG.out hmi hki (fun q h1 h2 => Int.not_lt.2 (HL.out q h1 h2)) HH.out HE2.out⟩)
          clear hlt
          go_wp2_with fail
          go_end0
          exact ⟨rfl, M2, HS2.out, HF.out.1, HF.out.2⟩
end Go.Proofs.Ytbkpoepacjinlaa
