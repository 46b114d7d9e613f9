/- Several texts of this claim in one. -/
import Derived.Test.YthdmceeipmmhjaaGreatDoorFt3
import Derived.Test.YthdmceeipmmhjaaGreatDoorFt1
import Derived.Test.YthdmceeipmmhjaaGreatDoorFt2
import Derived.Deep.RegionHeld3
import Derived.Deep.DeepCutAuto
import Derived.Laws.EntriesVeiled
/- The stable sort of the library: the merge. -/
namespace Go.Proofs.YthdmceeipmmhjaaGreatDoor
open Go.RowKit Go.BigFrame
open Stb (at' sw2 Srt Res Mrg)

/-- what a merge leaves -/
def Merged (R : Int → Int) (w0 : World) (base g cap n a b : Nat) (M : List Int) (e : Ending) (w' : World) : Prop :=
  e = .returned (.tuple #[]) ∧ ∃ M', SW w0 w' base g cap n M' ∧ Res M M' a b ∧ Srt R M' a b

set_option maxHeartbeats 2000000 in
set_option maxRecDepth 100000 in
theorem merge_one (R : Int → Int) (w0 w : World) (base g cap n c a b : Nat) (M0 M : List Int) (h : SW w0 w base g cap n M) (hM0 : M.Perm M0) (hcmp : CmpOk R w0 base g cap n c M0)
    (hb : b ≤ n) (hn : (n : Int) ≤ 1000000) (hm : Mrg R M a (a + 1) b) :
    Calls Tryz.prog 119 #[.slice (some ⟨g, 0, none⟩) n cap, .int .i64 a, .int .i64 ((a + 1 : Nat) : Int), .int .i64 b, .func (.func 109) #[] #[.pointer (some ⟨c, 0, none⟩)]] w (Merged R w0 base g cap n a b M) := by
  have H := Lib.hid h
  have HM0 := Lib.hid hM0
  have HC := Lib.hid hcmp
  have HG := Lib.hid hm
  have hab : a + 1 < b := hm.mb
  clear h hM0 hcmp hm
  have t1 : ((((a + 1 : Nat) : Int) - (a : Int)) == 1) = true := by rw [beq_iff_eq]; omega
  obtain ⟨m, hm⟩ : ∃ m, a + 1 = m := ⟨_, rfl⟩
  rw [hm] at t1 ⊢
  have hm1 : m < b := by omega
  have HM := Lib.hid hm
  have hb1 : IntKind.i64.wrap ((m : Int) - (a : Int)) = (m : Int) - (a : Int) := IntWalk.i64_in _ (by omega)
  clear hm hab
  go_enter Tryz.func119, Tryz.ntmps119
  go_wp2_with fail
  go_loopw [10, 11] (fun iv jv wr => ∃ (i j : Nat), iv = .int .i64 i ∧ jv = .int .i64 j ∧ m ≤ i ∧ i ≤ j ∧ j ≤ b ∧ Hid (SW w0 wr base g cap n M) ∧ Hid (∀ q, m ≤ q → q < i → R (at' M a) < R (at' M q)) ∧ Hid (∀ q, j ≤ q → q < b → R (at' M q) ≤ R (at' M a))) (fun iv jv _ => (intOf jv - intOf iv).toNat)
  case atStart => exact ⟨m, b, rfl, rfl, by omega, by omega, by omega, H, Lib.hid (fun q h1 h2 => by omega), Lib.hid (fun q h1 h2 => by omega)⟩
  case round =>
    obtain ⟨i, j, rfl, rfl, hmi, hij, hjb, HS, HL, HH⟩ := hrel
    by_cases hlt : i < j
    · have t2 : decide ((i : Int) < (j : Int)) = true := by rw [decide_eq_true_eq]; omega
      have t2' : decide (i < j) = true := by simpa using hlt
      obtain ⟨k, hk⟩ : ∃ k : Nat, (i + j) / 2 = k := ⟨_, rfl⟩
      have ek : ((i : Int) + (j : Int)) / 2 = (k : Int) := by omega
      have k0 : i ≤ k := by omega
      have k1 : k < j := by omega
      clear hk
      have hp2 : M.Perm M0 := HM0.out
      have c1 := HS.out.cell (j := k) (by omega)
      have c2 := HS.out.cell (j := a) (by have := HM.out; omega)
      have m1 := at_mem HS.out.len (show k < n by omega) hp2
      have m2 := at_mem HS.out.len (show a < n by have := HM.out; omega) hp2
      have hka : k < n := by omega
      have han : a < n := by have := HM.out; omega
      obtain ⟨x, hx⟩ : ∃ x, at' M k = x := ⟨_, rfl⟩
      obtain ⟨y, hy⟩ : ∃ y, at' M a = y := ⟨_, rfl⟩
      rw [hx] at c1 m1
      rw [hy] at c2 m2
      have HX := Lib.hid hx
      have HY := Lib.hid hy
      have HQ := Lib.hid (fun q => HC.out (wr.drewN q) M (HS.out.drewN q) x y m1 m2)
      clear hx hy hp2 m1 m2
      by_cases hc : R y < R x
      · have t3 : decide (Lib.compareInt (R y) (R x) < 0) = true := by rw [decide_eq_true_eq, cmp_neg]; exact hc
        have HL2 := Lib.hid (show ∀ q, m ≤ q → q < k + 1 → R (at' M a) < R (at' M q) from fun q h1 h2 => by
          have hgm := HM.out
          subst hgm
          exact HG.out.lo (Nat.le_refl _) (Nat.lt_succ_self _) (show k < b by omega) (by rw [HX.out, HY.out]; exact hc) q h1 (by omega))
        generalize Lib.compareInt (R y) (R x) = cv at t3 HQ
        go_wp2_with fail
        go_quiet ((go_at_call 109; exact Calls.quiet_of (HQ.out _)))
        go_wp2_with fail
        go_roundw
        case rel => exact ⟨k + 1, j, by go_num, rfl, by omega, by omega, hjb, Lib.hid (HS.out.drewN _), HL2, HH⟩
        case measure => simp [intOf]; omega
      · have t3 : decide (Lib.compareInt (R y) (R x) < 0) = false := by rw [decide_eq_false_iff_not, cmp_neg]; exact hc
        have HH2 := Lib.hid (show ∀ q, k ≤ q → q < b → R (at' M q) ≤ R (at' M a) from fun q h1 h2 => by
          have hgm := HM.out
          subst hgm
          exact Int.not_lt.1 (HG.out.hi (Nat.le_refl _) (Nat.lt_succ_self _) (show a + 1 ≤ k by omega) (by rw [HX.out, HY.out]; exact hc) q h1 h2))
        generalize Lib.compareInt (R y) (R x) = cv at t3 HQ
        go_wp2_with fail
        go_quiet ((go_at_call 109; exact Calls.quiet_of (HQ.out _)))
        go_wp2_with fail
        go_roundw
        case rel => exact ⟨i, k, rfl, rfl, hmi, k0, by omega, Lib.hid (HS.out.drewN _), HL, HH2⟩
        case measure => simp [intOf]; omega
    · have t2 : decide ((i : Int) < (j : Int)) = false := by rw [decide_eq_false_iff_not]; omega
      have t2' : decide (i < j) = false := by simpa using hlt
      obtain rfl : i = j := by omega
      have ham : a + 1 ≤ i := by have := HM.out; omega
      have e3 : (i : Int) - 1 = ((i - 1 : Nat) : Int) := by omega
      clear hlt hij
      go_wp2_with fail
      obtain ⟨wo, rfl⟩ : ∃ wo : World, wo = wr := ⟨_, rfl⟩
      go_loopw [13] (fun kv w2 => ∃ (k : Nat) (M2 : List Int), kv = .int .i64 k ∧ a ≤ k ∧ k ≤ i - 1 ∧ Hid (SW w0 w2 base g cap n M2) ∧ Hid (M2.Perm M) ∧ Hid (∀ p, at' M2 p = Stb.upF (at' M) a k p)) (fun kv _ => i - (intOf kv).toNat)
      case atStart => exact ⟨a, M, rfl, Nat.le_refl _, by omega, HS, Lib.hid (List.Perm.refl _), Lib.hid (fun p => (Stb.upF_start _ _ _).symm)⟩
      case round =>
        obtain ⟨k, M2, rfl, hak, hki, HS2, HP2, HE2⟩ := hrel
        by_cases hlt : k < i - 1
        · have t4 : decide ((k : Int) < ((i - 1 : Nat) : Int)) = true := by rw [decide_eq_true_eq]; omega
          have t4' : decide (k < i - 1) = true := by simpa using hlt
          have c1 := HS2.out.cell (j := k) (by omega)
          have c2 := HS2.out.cell (j := k + 1) (by omega)
          have f1 := HS2.out.frozen k
          have f2 := HS2.out.frozen (k + 1)
          obtain ⟨x, hx⟩ : ∃ x, at' M2 k = x := ⟨_, rfl⟩
          obtain ⟨y, hy⟩ : ∃ y, at' M2 (k + 1) = y := ⟨_, rfl⟩
          rw [hx] at c1
          rw [hy] at c2
          have HX := Lib.hid hx
          have HY := Lib.hid hy
          have hidx : ((k : Int) + 1).toNat = k + 1 := by omega
          have hkn : k + 1 < n := by omega
          clear hx hy
          go_wp2_with fail
          go_region
          go_wp2
          go_roundw
          case rel => exact ⟨k + 1, sw2 M2 k (k + 1), by go_num, by omega, by omega, Lib.hid ((HS2.out.swap HX.out HY.out).drew), Lib.hid ((Stb.sw2_perm (by rw [HS2.out.len]; omega) (by rw [HS2.out.len]; omega)).trans HP2.out), Lib.hid (Stb.upF_step hak (by rw [HS2.out.len]; omega) HE2.out)⟩
          case measure => simp [intOf]; omega
        · have t4 : decide ((k : Int) < ((i - 1 : Nat) : Int)) = false := by rw [decide_eq_false_iff_not]; omega
          have t4' : decide (k < i - 1) = false := by simpa using hlt
          obtain rfl : k = i - 1 := by omega
          have HF := Lib.hid (show Res M M2 a b ∧ Srt R M2 a b from by
            have hgm := HM.out
            subst hgm
            exact ⟨Stb.up_res HP2.out hak (by omega) HE2.out, Stb.up_sorted HG.out hmi hjb HL.out (fun q h1 h2 => Int.not_lt.2 (HH.out q h1 h2)) HE2.out⟩)
          clear hlt
          go_wp2_with fail
          go_end0
          exact ⟨rfl, M2, HS2.out, HF.out.1, HF.out.2⟩
end Go.Proofs.YthdmceeipmmhjaaGreatDoor

/- The stable sort of the library: the merge of one at the end. -/
namespace Go.Proofs.YthdmceeipmmhjaaGreatDoor
open Go.RowKit Go.BigFrame
open Stb (at' sw2 Srt Res Mrg)

set_option maxHeartbeats 2000000 in
set_option maxRecDepth 100000 in
theorem merge_last (R : Int → Int) (w0 w : World) (base g cap n c a b : Nat) (M0 M : List Int) (h : SW w0 w base g cap n M) (hM0 : M.Perm M0) (hcmp : CmpOk R w0 base g cap n c M0)
    (hb : b ≤ n) (hn : (n : Int) ≤ 1000000) (m : Nat) (hm : Mrg R M a m (m + 1)) (hne : m ≠ a + 1) (hb2 : b = m + 1) :
    Calls Tryz.prog 119 #[.slice (some ⟨g, 0, none⟩) n cap, .int .i64 a, .int .i64 m, .int .i64 b, .func (.func 109) #[] #[.pointer (some ⟨c, 0, none⟩)]] w (Merged R w0 base g cap n a b M) := by
  have H := Lib.hid h
  have HM0 := Lib.hid hM0
  have HC := Lib.hid hcmp
  have HG := Lib.hid hm
  have ham : a < m := hm.am
  clear h hM0 hcmp hm
  have t1 : (((m : Int) - (a : Int)) == 1) = false := by rw [beq_eq_false_iff_ne]; omega
  have t2 : (((b : Int) - (m : Int)) == 1) = true := by rw [beq_iff_eq]; omega
  have HM := Lib.hid hb2
  have hm1 : m < b := by omega
  have hb1 : IntKind.i64.wrap ((m : Int) - (a : Int)) = (m : Int) - (a : Int) := IntWalk.i64_in _ (by omega)
  have hb3 : IntKind.i64.wrap ((b : Int) - (m : Int)) = (b : Int) - (m : Int) := IntWalk.i64_in _ (by omega)
  clear hb2 hne
  go_enter Tryz.func119, Tryz.ntmps119
  go_wp2_with fail
  go_loopw [14, 15] (fun iv jv wr => ∃ (i j : Nat), iv = .int .i64 i ∧ jv = .int .i64 j ∧ a ≤ i ∧ i ≤ j ∧ j ≤ m ∧ Hid (SW w0 wr base g cap n M) ∧ Hid (∀ q, a ≤ q → q < i → R (at' M m) ≤ R (at' M q)) ∧ Hid (∀ q, j ≤ q → q < m → R (at' M q) < R (at' M m))) (fun iv jv _ => (intOf jv - intOf iv).toNat)
  case atStart => exact ⟨a, m, rfl, rfl, by omega, by omega, by omega, H, Lib.hid (fun q h1 h2 => by omega), Lib.hid (fun q h1 h2 => by omega)⟩
  case round =>
    obtain ⟨i, j, rfl, rfl, hmi, hij, hjb, HS, HL, HH⟩ := hrel
    by_cases hlt : i < j
    · have t3' : decide ((i : Int) < (j : Int)) = true := by rw [decide_eq_true_eq]; omega
      have t3'' : decide (i < j) = true := by simpa using hlt
      obtain ⟨k, hk⟩ : ∃ k : Nat, (i + j) / 2 = k := ⟨_, rfl⟩
      have ek : ((i : Int) + (j : Int)) / 2 = (k : Int) := by omega
      have k0 : i ≤ k := by omega
      have k1 : k < j := by omega
      clear hk
      have hp2 : M.Perm M0 := HM0.out
      have c1 := HS.out.cell (j := m) (by omega)
      have c2 := HS.out.cell (j := k) (by omega)
      have m1 := at_mem HS.out.len (show m < n by omega) hp2
      have m2 := at_mem HS.out.len (show k < n by omega) hp2
      have hka : k < n := by omega
      have han : m < n := by omega
      obtain ⟨x, hx⟩ : ∃ x, at' M m = x := ⟨_, rfl⟩
      obtain ⟨y, hy⟩ : ∃ y, at' M k = y := ⟨_, rfl⟩
      rw [hx] at c1 m1
      rw [hy] at c2 m2
      have HX := Lib.hid hx
      have HY := Lib.hid hy
      have HQ := Lib.hid (fun q => HC.out (wr.drewN q) M (HS.out.drewN q) x y m1 m2)
      clear hx hy hp2 m1 m2
      by_cases hc : R y < R x
      · have t3 : decide (Lib.compareInt (R y) (R x) < 0) = true := by rw [decide_eq_true_eq, cmp_neg]; exact hc
        have HH2 := Lib.hid (show ∀ q, k ≤ q → q < m → R (at' M q) < R (at' M m) from fun q h1 h2 => HG.out.hi' (Nat.le_refl _) (Nat.lt_succ_self _) (show a ≤ k by omega) (by rw [HX.out, HY.out]; exact hc) q h1 h2)
        generalize Lib.compareInt (R y) (R x) = cv at t3 HQ
        go_wp2_with fail
        go_quiet ((go_at_call 109; exact Calls.quiet_of (HQ.out _)))
        go_wp2_with fail
        go_roundw
        case rel => exact ⟨i, k, rfl, rfl, hmi, k0, by omega, Lib.hid (HS.out.drewN _), HL, HH2⟩
        case measure => simp [intOf]; omega
      · have t3 : decide (Lib.compareInt (R y) (R x) < 0) = false := by rw [decide_eq_false_iff_not, cmp_neg]; exact hc
        have HL2 := Lib.hid (show ∀ q, a ≤ q → q < k + 1 → R (at' M m) ≤ R (at' M q) from fun q h1 h2 => Int.not_lt.1 (HG.out.lo' (Nat.le_refl _) (Nat.lt_succ_self _) (show k < m by omega) (by rw [HX.out, HY.out]; exact hc) q h1 (by omega)))
        generalize Lib.compareInt (R y) (R x) = cv at t3 HQ
        go_wp2_with fail
        go_quiet ((go_at_call 109; exact Calls.quiet_of (HQ.out _)))
        go_wp2_with fail
        go_roundw
        case rel => exact ⟨k + 1, j, by go_num, rfl, by omega, by omega, hjb, Lib.hid (HS.out.drewN _), HL2, HH⟩
        case measure => simp [intOf]; omega
    · have t3' : decide ((i : Int) < (j : Int)) = false := by rw [decide_eq_false_iff_not]; omega
      have t3'' : decide (i < j) = false := by simpa using hlt
      obtain rfl : i = j := by omega
      clear hlt hij
      go_wp2_with fail
      obtain ⟨wo, rfl⟩ : ∃ wo : World, wo = wr := ⟨_, rfl⟩
      go_loopw [17] (fun kv w2 => ∃ (k : Nat) (M2 : List Int), kv = .int .i64 k ∧ i ≤ k ∧ k ≤ m ∧ Hid (SW w0 w2 base g cap n M2) ∧ Hid (M2.Perm M) ∧ Hid (∀ p, at' M2 p = Stb.dnF (at' M) m k p)) (fun kv _ => (intOf kv).toNat)
      case atStart => exact ⟨m, M, rfl, by omega, Nat.le_refl _, HS, Lib.hid (List.Perm.refl _), Lib.hid (fun p => (Stb.dnF_start _ _ _).symm)⟩
      case round =>
        obtain ⟨k, M2, rfl, hak, hki, HS2, HP2, HE2⟩ := hrel
        by_cases hlt : i < k
        · obtain ⟨kp, rfl⟩ : ∃ kp, k = kp + 1 := ⟨k - 1, by omega⟩
          have t4 : decide ((i : Int) < (kp : Int) + 1) = true := by rw [decide_eq_true_eq]; omega
          have t4' : decide (i < kp + 1) = true := by simpa using hlt
          have c1 := HS2.out.cell (j := kp + 1) (by omega)
          have c2 := HS2.out.cell (j := kp) (by omega)
          have f1 := HS2.out.frozen (kp + 1)
          have f2 := HS2.out.frozen kp
          obtain ⟨x, hx⟩ : ∃ x, at' M2 (kp + 1) = x := ⟨_, rfl⟩
          obtain ⟨y, hy⟩ : ∃ y, at' M2 kp = y := ⟨_, rfl⟩
          rw [hx] at c1
          rw [hy] at c2
          have HX := Lib.hid hx
          have HY := Lib.hid hy
          have hidx : ((kp : Int) + 1).toNat = kp + 1 := by omega
          have hkn : kp + 1 < n := by omega
          clear hx hy
          go_wp2_with fail
          go_region
          go_wp2
          go_roundw
          case rel => exact ⟨kp, sw2 M2 (kp + 1) kp, by first | rfl | go_num, by omega, by omega, Lib.hid ((HS2.out.swap HX.out HY.out).drew), Lib.hid ((Stb.sw2_perm (by rw [HS2.out.len]; omega) (by rw [HS2.out.len]; omega)).trans HP2.out), Lib.hid (Stb.dnF_step (k := kp + 1) hki (by omega) (by rw [HS2.out.len]; omega) HE2.out)⟩
          case measure => simp [intOf] <;> omega
        · have t4 : decide ((i : Int) < (k : Int)) = false := by rw [decide_eq_false_iff_not]; omega
          have t4' : decide (i < k) = false := by simpa using hlt
          obtain rfl : k = i := by omega
          have HF := Lib.hid (show Res M M2 a b ∧ Srt R M2 a b from by
            have e := HM.out
            subst e
            exact ⟨Stb.dn_res HP2.out hmi hki HE2.out, Stb.dn_sorted HG.out hmi hki (fun q h1 h2 => Int.not_lt.2 (HL.out q h1 h2)) HH.out HE2.out⟩)
          clear hlt
          go_wp2_with fail
          go_end0
          exact ⟨rfl, M2, HS2.out, HF.out.1, HF.out.2⟩
end Go.Proofs.YthdmceeipmmhjaaGreatDoor

/- The stable sort of the library: the merge's main way (printed by wip/gen_merge.py). -/
namespace Go.Proofs.YthdmceeipmmhjaaGreatDoor
open Go.RowKit Go.BigFrame
open Stb (at' sw2 Srt Res Mrg)

set_option maxHeartbeats 4000000 in
set_option maxRecDepth 100000 in
theorem merge_hi (R : Int → Int) (w0 w : World) (base g cap n c a m b mid : Nat) (M0 M : List Int) (h : SW w0 w base g cap n M) (hM0 : M.Perm M0) (hcmp : CmpOk R w0 base g cap n c M0)
    (hb : b ≤ n) (hn : (n : Int) ≤ 1000000) (hm : Mrg R M a m b) (h1 : a + 2 ≤ m) (h2 : m + 2 ≤ b) (hmid : mid = (a + b) / 2) (hmm : mid < m)
    (ih : ∀ a' m' b' w M, b' - a' < b - a → SW w0 w base g cap n M → M.Perm M0 → Mrg R M a' m' b' → b' ≤ n →
      Calls Tryz.prog 119 #[.slice (some ⟨g, 0, none⟩) n cap, .int .i64 a', .int .i64 m', .int .i64 b', .func (.func 109) #[] #[.pointer (some ⟨c, 0, none⟩)]] w (Merged R w0 base g cap n a' b' M)) :
    Calls Tryz.prog 119 #[.slice (some ⟨g, 0, none⟩) n cap, .int .i64 a, .int .i64 m, .int .i64 b, .func (.func 109) #[] #[.pointer (some ⟨c, 0, none⟩)]] w (Merged R w0 base g cap n a b M) := by
  have H := Lib.hid h
  have HM0 := Lib.hid hM0
  have HC := Lib.hid hcmp
  have HG := Lib.hid hm
  have HIH := Lib.hid ih
  have HMID := Lib.hid hmid
  clear h hM0 hcmp hm ih
  have t1 : (((m : Int) - (a : Int)) == 1) = false := by rw [beq_eq_false_iff_ne]; omega
  have t2 : (((b : Int) - (m : Int)) == 1) = false := by rw [beq_eq_false_iff_ne]; omega
  have hb1 : IntKind.i64.wrap ((m : Int) - (a : Int)) = (m : Int) - (a : Int) := IntWalk.i64_in _ (by omega)
  have hb3 : IntKind.i64.wrap ((b : Int) - (m : Int)) = (b : Int) - (m : Int) := IntWalk.i64_in _ (by omega)
  have emid : ((a : Int) + (b : Int)) / 2 = (mid : Int) := by omega
  have md1 : a + 2 ≤ mid := by omega
  have md2 : mid + 2 ≤ b := by omega
  have md3 : 2 * mid ≤ a + b := by omega
  have md4 : a + b ≤ 2 * mid + 1 := by omega
  have tm : decide ((mid : Int) < (m : Int)) = true := by rw [decide_eq_true_eq]; omega
  have tm' : decide (mid < m) = true := by rw [decide_eq_true_eq]; omega
  obtain ⟨s0, hs0⟩ : ∃ s0 : Nat, mid + m - b = s0 := ⟨_, rfl⟩
  have es0 : (mid : Int) + (m : Int) - (b : Int) = (s0 : Int) := by omega
  have hs1 : s0 + b = mid + m := by omega
  clear hs0
  clear hmid
  go_enter Tryz.func119, Tryz.ntmps119
  go_wp2_with fail
  go_loopw [20, 21] (fun sv rv wr => ∃ (s r : Nat), sv = .int .i64 s ∧ rv = .int .i64 r ∧ s0 ≤ s ∧ s ≤ r ∧ r ≤ mid ∧ Hid (SW w0 wr base g cap n M) ∧ Hid (s = s0 ∨ R (at' M (mid + m - 1 - (s - 1))) ≤ R (at' M (s - 1))) ∧ Hid (r = mid ∨ R (at' M r) < R (at' M (mid + m - 1 - r)))) (fun sv rv _ => (intOf rv - intOf sv).toNat)
  case atStart => exact ⟨s0, mid, rfl, rfl, by omega, by omega, by omega, H, Lib.hid (Or.inl rfl), Lib.hid (Or.inl rfl)⟩
  case round =>
    obtain ⟨s, r, rfl, rfl, hs, hsr, hrr, HS, HL, HH⟩ := hrel
    by_cases hlt : s < r
    · have t3 : decide ((s : Int) < (r : Int)) = true := by rw [decide_eq_true_eq]; omega
      have t3' : decide (s < r) = true := by simpa using hlt
      obtain ⟨k, hk⟩ : ∃ k : Nat, (s + r) / 2 = k := ⟨_, rfl⟩
      have ek : ((s : Int) + (r : Int)) / 2 = (k : Int) := by omega
      have k0 : s ≤ k := by omega
      have k1 : k < r := by omega
      clear hk
      obtain ⟨u, hu⟩ : ∃ u : Nat, mid + m - 1 - k = u := ⟨_, rfl⟩
      have eu : (mid : Int) + (m : Int) - 1 - (k : Int) = (u : Int) := by omega
      have u0 : m ≤ u := by omega
      have u1 : u < b := by omega
      have HU := Lib.hid hu
      clear hu
      have hp2 : M.Perm M0 := HM0.out
      have c1 := HS.out.cell (j := u) (by omega)
      have c2 := HS.out.cell (j := k) (by omega)
      have m1 := at_mem HS.out.len (show u < n by omega) hp2
      have m2 := at_mem HS.out.len (show k < n by omega) hp2
      have hun : u < n := by omega
      have hkn : k < n := by omega
      obtain ⟨x, hx⟩ : ∃ x, at' M u = x := ⟨_, rfl⟩
      obtain ⟨y, hy⟩ : ∃ y, at' M k = y := ⟨_, rfl⟩
      rw [hx] at c1 m1
      rw [hy] at c2 m2
      have HX := Lib.hid hx
      have HY := Lib.hid hy
      have HQ := Lib.hid (fun q => HC.out (wr.drewN q) M (HS.out.drewN q) x y m1 m2)
      clear hx hy hp2 m1 m2
      by_cases hc : R y < R x
      · have t4 : decide (Lib.compareInt (R y) (R x) < 0) = true := by rw [decide_eq_true_eq, cmp_neg]; exact hc
        have HH2 := Lib.hid (show k = mid ∨ R (at' M k) < R (at' M (mid + m - 1 - k)) from Or.inr (by rw [HU.out, HX.out, HY.out]; exact hc))
        generalize Lib.compareInt (R y) (R x) = cv at t4 HQ
        go_wp2_with fail
        go_quiet ((go_at_call 109; exact Calls.quiet_of (HQ.out _)))
        go_wp2_with fail
        go_roundw
        case rel => exact ⟨s, k, rfl, rfl, hs, k0, by omega, Lib.hid (HS.out.drewN _), HL, HH2⟩
        case measure => simp [intOf]; omega
      · have t4 : decide (Lib.compareInt (R y) (R x) < 0) = false := by rw [decide_eq_false_iff_not, cmp_neg]; exact hc
        have HL2 := Lib.hid (show k + 1 = s0 ∨ R (at' M (mid + m - 1 - (k + 1 - 1))) ≤ R (at' M (k + 1 - 1)) from Or.inr (by rw [Nat.add_sub_cancel, HU.out, HX.out, HY.out]; omega))
        generalize Lib.compareInt (R y) (R x) = cv at t4 HQ
        go_wp2_with fail
        go_quiet ((go_at_call 109; exact Calls.quiet_of (HQ.out _)))
        go_wp2_with fail
        go_roundw
        case rel => exact ⟨k + 1, r, by go_num, rfl, by omega, by omega, hrr, Lib.hid (HS.out.drewN _), HL2, HH⟩
        case measure => simp [intOf]; omega
    · have t3 : decide ((s : Int) < (r : Int)) = false := by rw [decide_eq_false_iff_not]; omega
      have t3' : decide (s < r) = false := by simpa using hlt
      obtain rfl : s = r := by omega
      obtain ⟨e, he⟩ : ∃ e : Nat, mid + m - s = e := ⟨_, rfl⟩
      have ee : (mid : Int) + (m : Int) - (s : Int) = (e : Int) := by omega
      have hsum : s + e = mid + m := by omega
      have CUT := Lib.hid (show Stb.Cutp R M a m b mid s e from by
        rw [← he]
        refine Stb.cut_of HG.out HMID.out (by omega) (by omega) ?_ ?_
        · rcases HL.out with h | h
          · exact Or.inl ⟨hmm, by omega⟩
          · exact Or.inr (Or.inr (Int.not_lt.2 h))
        · rcases HH.out with h | h
          · exact Or.inl ⟨hmm, h⟩
          · exact Or.inr (Or.inr h))
      clear he hlt hsr
      have b1 : m ≤ e := CUT.out.me
      have b2 : e ≤ b := CUT.out.eb
      have b3 : a ≤ s := CUT.out.as
      have b4 : s ≤ m := CUT.out.sm
      have b5 : s ≤ mid := CUT.out.smid
      have b6 : mid ≤ e := CUT.out.mide
      have hways : (s < m ∧ m < e ∧ a < s ∧ e < b) ∨ (s < m ∧ m < e ∧ a < s ∧ b ≤ e) ∨ (s < m ∧ m < e ∧ s ≤ a ∧ e < b) ∨ (s < m ∧ m < e ∧ s ≤ a ∧ b ≤ e) ∨ (m ≤ s ∧ m < mid) ∨ (m ≤ s ∧ mid ≤ m) ∨ (s < m ∧ e ≤ m) := by omega
      rcases hways with ⟨z0, z1, z2, z3⟩ | ⟨z0, z1, z2, z3⟩ | ⟨z0, z1, z2, z3⟩ | ⟨z0, z1, z2, z3⟩ | ⟨z0, z1⟩ | ⟨z0, z1⟩ | ⟨z0, z1⟩
      · have hcond : True := trivial
        have d0 : decide ((s : Int) < (m : Int)) = true := by rw [decide_eq_true_eq]; omega
        have d0' : decide (s < m) = true := by rw [decide_eq_true_eq]; omega
        have d1 : decide ((m : Int) < (e : Int)) = true := by rw [decide_eq_true_eq]; omega
        have d1' : decide (m < e) = true := by rw [decide_eq_true_eq]; omega
        have d2 : decide ((a : Int) < (s : Int)) = true := by rw [decide_eq_true_eq]; omega
        have d2' : decide (a < s) = true := by rw [decide_eq_true_eq]; omega
        have d3 : decide ((s : Int) < (mid : Int)) = true := by rw [decide_eq_true_eq]; omega
        have d3' : decide (s < mid) = true := by rw [decide_eq_true_eq]; omega
        have d4 : decide ((mid : Int) < (e : Int)) = true := by rw [decide_eq_true_eq]; omega
        have d4' : decide (mid < e) = true := by rw [decide_eq_true_eq]; omega
        have d5 : decide ((e : Int) < (b : Int)) = true := by rw [decide_eq_true_eq]; omega
        have d5' : decide (e < b) = true := by rw [decide_eq_true_eq]; omega
        clear hcond
        go_wp2_with fail
        refine (rotate_any w0 wr base g cap n s m e M (.func (.func 109) #[] #[.pointer (some ⟨c, 0, none⟩)]) HS.out (by omega) (by omega) (by omega) hn).mono ?_
        rintro e1 w1 ⟨rfl, M1, hS, hP, hE⟩
        have HS1 := Lib.hid hS
        have HE1 := Lib.hid hE
        have HR1 := Lib.hid (Stb.rot_res hP (by omega) (by omega) hE)
        clear hS hP hE
        go_wp2_with fail
        refine (HIH.out a s mid w1 M1 (by omega) HS1.out (HR1.out.perm.trans HM0.out) (Stb.cut_left HG.out CUT.out HR1.out HE1.out (by omega) (by omega)) (by omega)).mono ?_
        rintro e2 w2 ⟨rfl, M2, hS, hR, hO⟩
        have HS2 := Lib.hid hS
        have HR2 := Lib.hid hR
        have HO2 := Lib.hid hO
        clear hS hR hO
        go_wp2_with fail
        refine (HIH.out mid e b w2 M2 (by omega) HS2.out (HR2.out.perm.trans (HR1.out.perm.trans HM0.out)) ((Stb.cut_right HG.out CUT.out HR1.out HE1.out (by omega) (by omega)).congr HR2.out.length (fun p h1 h2 => HR2.out.out p (Or.inr h1))) (by omega)).mono ?_
        rintro e3 w3 ⟨rfl, M3, hS, hR, hO⟩
        have HS3 := Lib.hid hS
        have HR3 := Lib.hid hR
        have HO3 := Lib.hid hO
        clear hS hR hO
        have HFS := Lib.hid (Stb.halves (Stb.cut_mid HG.out CUT.out HE1.out) HR2.out HO2.out HR3.out HO3.out)
        have HFR := Lib.hid ((HR1.out.mono (by omega) (by omega)).trans ((HR2.out.mono (Nat.le_refl _) (by omega)).trans (HR3.out.mono (by omega) (Nat.le_refl _))))
        go_wp2_with fail
        go_end0
        exact ⟨rfl, M3, HS3.out, HFR.out, HFS.out⟩
      · have hcond : True := trivial
        have d0 : decide ((s : Int) < (m : Int)) = true := by rw [decide_eq_true_eq]; omega
        have d0' : decide (s < m) = true := by rw [decide_eq_true_eq]; omega
        have d1 : decide ((m : Int) < (e : Int)) = true := by rw [decide_eq_true_eq]; omega
        have d1' : decide (m < e) = true := by rw [decide_eq_true_eq]; omega
        have d2 : decide ((a : Int) < (s : Int)) = true := by rw [decide_eq_true_eq]; omega
        have d2' : decide (a < s) = true := by rw [decide_eq_true_eq]; omega
        have d3 : decide ((s : Int) < (mid : Int)) = true := by rw [decide_eq_true_eq]; omega
        have d3' : decide (s < mid) = true := by rw [decide_eq_true_eq]; omega
        have d4 : decide ((mid : Int) < (e : Int)) = true := by rw [decide_eq_true_eq]; omega
        have d4' : decide (mid < e) = true := by rw [decide_eq_true_eq]; omega
        have d5 : decide ((e : Int) < (b : Int)) = false := by rw [decide_eq_false_iff_not]; omega
        have d5' : decide (e < b) = false := by rw [decide_eq_false_iff_not]; omega
        clear hcond
        go_wp2_with fail
        refine (rotate_any w0 wr base g cap n s m e M (.func (.func 109) #[] #[.pointer (some ⟨c, 0, none⟩)]) HS.out (by omega) (by omega) (by omega) hn).mono ?_
        rintro e1 w1 ⟨rfl, M1, hS, hP, hE⟩
        have HS1 := Lib.hid hS
        have HE1 := Lib.hid hE
        have HR1 := Lib.hid (Stb.rot_res hP (by omega) (by omega) hE)
        clear hS hP hE
        go_wp2_with fail
        refine (HIH.out a s mid w1 M1 (by omega) HS1.out (HR1.out.perm.trans HM0.out) (Stb.cut_left HG.out CUT.out HR1.out HE1.out (by omega) (by omega)) (by omega)).mono ?_
        rintro e2 w2 ⟨rfl, M2, hS, hR, hO⟩
        have HS2 := Lib.hid hS
        have HR2 := Lib.hid hR
        have HO2 := Lib.hid hO
        clear hS hR hO
        have HR3 := Lib.hid (Res.refl M2 mid b)
        have HO3 := Lib.hid ((Stb.cut_right_sorted HG.out CUT.out HE1.out (by omega)).congr (fun p h1 h2 => HR2.out.out p (Or.inr h1)))
        have HS3 := HS2
        have HFS := Lib.hid (Stb.halves (Stb.cut_mid HG.out CUT.out HE1.out) HR2.out HO2.out HR3.out HO3.out)
        have HFR := Lib.hid ((HR1.out.mono (by omega) (by omega)).trans ((HR2.out.mono (Nat.le_refl _) (by omega)).trans (HR3.out.mono (by omega) (Nat.le_refl _))))
        go_wp2_with fail
        go_end0
        exact ⟨rfl, M2, HS3.out, HFR.out, HFS.out⟩
      · have hcond : True := trivial
        have d0 : decide ((s : Int) < (m : Int)) = true := by rw [decide_eq_true_eq]; omega
        have d0' : decide (s < m) = true := by rw [decide_eq_true_eq]; omega
        have d1 : decide ((m : Int) < (e : Int)) = true := by rw [decide_eq_true_eq]; omega
        have d1' : decide (m < e) = true := by rw [decide_eq_true_eq]; omega
        have d2 : decide ((a : Int) < (s : Int)) = false := by rw [decide_eq_false_iff_not]; omega
        have d2' : decide (a < s) = false := by rw [decide_eq_false_iff_not]; omega
        have d3 : decide ((mid : Int) < (e : Int)) = true := by rw [decide_eq_true_eq]; omega
        have d3' : decide (mid < e) = true := by rw [decide_eq_true_eq]; omega
        have d4 : decide ((e : Int) < (b : Int)) = true := by rw [decide_eq_true_eq]; omega
        have d4' : decide (e < b) = true := by rw [decide_eq_true_eq]; omega
        clear hcond
        go_wp2_with fail
        refine (rotate_any w0 wr base g cap n s m e M (.func (.func 109) #[] #[.pointer (some ⟨c, 0, none⟩)]) HS.out (by omega) (by omega) (by omega) hn).mono ?_
        rintro e1 w1 ⟨rfl, M1, hS, hP, hE⟩
        have HS1 := Lib.hid hS
        have HE1 := Lib.hid hE
        have HR1 := Lib.hid (Stb.rot_res hP (by omega) (by omega) hE)
        clear hS hP hE
        go_wp2_with fail
        have HR2 := Lib.hid (Res.refl M1 a mid)
        have HO2 := Lib.hid (Stb.cut_left_sorted HG.out CUT.out HE1.out (by omega))
        have HS2 := HS1
        refine (HIH.out mid e b w1 M1 (by omega) HS2.out (HR2.out.perm.trans (HR1.out.perm.trans HM0.out)) ((Stb.cut_right HG.out CUT.out HR1.out HE1.out (by omega) (by omega)).congr HR2.out.length (fun p h1 h2 => HR2.out.out p (Or.inr h1))) (by omega)).mono ?_
        rintro e3 w3 ⟨rfl, M3, hS, hR, hO⟩
        have HS3 := Lib.hid hS
        have HR3 := Lib.hid hR
        have HO3 := Lib.hid hO
        clear hS hR hO
        have HFS := Lib.hid (Stb.halves (Stb.cut_mid HG.out CUT.out HE1.out) HR2.out HO2.out HR3.out HO3.out)
        have HFR := Lib.hid ((HR1.out.mono (by omega) (by omega)).trans ((HR2.out.mono (Nat.le_refl _) (by omega)).trans (HR3.out.mono (by omega) (Nat.le_refl _))))
        go_wp2_with fail
        go_end0
        exact ⟨rfl, M3, HS3.out, HFR.out, HFS.out⟩
      · have hcond : True := trivial
        have d0 : decide ((s : Int) < (m : Int)) = true := by rw [decide_eq_true_eq]; omega
        have d0' : decide (s < m) = true := by rw [decide_eq_true_eq]; omega
        have d1 : decide ((m : Int) < (e : Int)) = true := by rw [decide_eq_true_eq]; omega
        have d1' : decide (m < e) = true := by rw [decide_eq_true_eq]; omega
        have d2 : decide ((a : Int) < (s : Int)) = false := by rw [decide_eq_false_iff_not]; omega
        have d2' : decide (a < s) = false := by rw [decide_eq_false_iff_not]; omega
        have d3 : decide ((mid : Int) < (e : Int)) = true := by rw [decide_eq_true_eq]; omega
        have d3' : decide (mid < e) = true := by rw [decide_eq_true_eq]; omega
        have d4 : decide ((e : Int) < (b : Int)) = false := by rw [decide_eq_false_iff_not]; omega
        have d4' : decide (e < b) = false := by rw [decide_eq_false_iff_not]; omega
        clear hcond
        go_wp2_with fail
        refine (rotate_any w0 wr base g cap n s m e M (.func (.func 109) #[] #[.pointer (some ⟨c, 0, none⟩)]) HS.out (by omega) (by omega) (by omega) hn).mono ?_
        rintro e1 w1 ⟨rfl, M1, hS, hP, hE⟩
        have HS1 := Lib.hid hS
        have HE1 := Lib.hid hE
        have HR1 := Lib.hid (Stb.rot_res hP (by omega) (by omega) hE)
        clear hS hP hE
        have HR2 := Lib.hid (Res.refl M1 a mid)
        have HO2 := Lib.hid (Stb.cut_left_sorted HG.out CUT.out HE1.out (by omega))
        have HS2 := HS1
        have HR3 := Lib.hid (Res.refl M1 mid b)
        have HO3 := Lib.hid ((Stb.cut_right_sorted HG.out CUT.out HE1.out (by omega)).congr (fun p h1 h2 => HR2.out.out p (Or.inr h1)))
        have HS3 := HS2
        have HFS := Lib.hid (Stb.halves (Stb.cut_mid HG.out CUT.out HE1.out) HR2.out HO2.out HR3.out HO3.out)
        have HFR := Lib.hid ((HR1.out.mono (by omega) (by omega)).trans ((HR2.out.mono (Nat.le_refl _) (by omega)).trans (HR3.out.mono (by omega) (Nat.le_refl _))))
        go_wp2_with fail
        go_end0
        exact ⟨rfl, M1, HS3.out, HFR.out, HFS.out⟩
      · have hcond : True := trivial
        have d0 : decide ((s : Int) < (m : Int)) = false := by rw [decide_eq_false_iff_not]; omega
        have d0' : decide (s < m) = false := by rw [decide_eq_false_iff_not]; omega
        have d1 : decide ((a : Int) < (s : Int)) = true := by rw [decide_eq_true_eq]; omega
        have d1' : decide (a < s) = true := by rw [decide_eq_true_eq]; omega
        have d2 : decide ((s : Int) < (mid : Int)) = true := by rw [decide_eq_true_eq]; omega
        have d2' : decide (s < mid) = true := by rw [decide_eq_true_eq]; omega
        have d3 : decide ((mid : Int) < (e : Int)) = false := by rw [decide_eq_false_iff_not]; omega
        have d3' : decide (mid < e) = false := by rw [decide_eq_false_iff_not]; omega
        clear hcond
        go_wp2_with fail
        have HE1 := Lib.hid (show ∀ p, at' M p = Stb.rotF (at' M) s m e p from fun p => (Stb.rotF_id (by omega) (by omega) (by omega) p).symm)
        have HR1 := Lib.hid (Res.refl M s e)
        obtain ⟨w1, hw1⟩ : ∃ w1 : World, w1 = wr := ⟨_, rfl⟩
        obtain ⟨M1, hM1⟩ : ∃ M1, M1 = M := ⟨_, rfl⟩
        have HS1 := Lib.hid (show SW w0 w1 base g cap n M1 by rw [hw1, hM1]; exact HS.out)
        rw [← hw1]
        replace HE1 := Lib.hid (show ∀ p, at' M1 p = Stb.rotF (at' M) s m e p by rw [hM1]; exact HE1.out)
        replace HR1 := Lib.hid (show Res M M1 s e by rw [hM1]; exact HR1.out)
        clear hw1 hM1
        refine (HIH.out a s mid w1 M1 (by omega) HS1.out (HR1.out.perm.trans HM0.out) (Stb.cut_left HG.out CUT.out HR1.out HE1.out (by omega) (by omega)) (by omega)).mono ?_
        rintro e2 w2 ⟨rfl, M2, hS, hR, hO⟩
        have HS2 := Lib.hid hS
        have HR2 := Lib.hid hR
        have HO2 := Lib.hid hO
        clear hS hR hO
        have HR3 := Lib.hid (Res.refl M2 mid b)
        have HO3 := Lib.hid ((Stb.cut_right_sorted HG.out CUT.out HE1.out (by omega)).congr (fun p h1 h2 => HR2.out.out p (Or.inr h1)))
        have HS3 := HS2
        have HFS := Lib.hid (Stb.halves (Stb.cut_mid HG.out CUT.out HE1.out) HR2.out HO2.out HR3.out HO3.out)
        have HFR := Lib.hid ((HR1.out.mono (by omega) (by omega)).trans ((HR2.out.mono (Nat.le_refl _) (by omega)).trans (HR3.out.mono (by omega) (Nat.le_refl _))))
        go_wp2_with fail
        go_end0
        exact ⟨rfl, M2, HS3.out, HFR.out, HFS.out⟩
      · have hcond : True := trivial
        have d0 : decide ((s : Int) < (m : Int)) = false := by rw [decide_eq_false_iff_not]; omega
        have d0' : decide (s < m) = false := by rw [decide_eq_false_iff_not]; omega
        have d1 : decide ((a : Int) < (s : Int)) = true := by rw [decide_eq_true_eq]; omega
        have d1' : decide (a < s) = true := by rw [decide_eq_true_eq]; omega
        have d2 : decide ((s : Int) < (mid : Int)) = false := by rw [decide_eq_false_iff_not]; omega
        have d2' : decide (s < mid) = false := by rw [decide_eq_false_iff_not]; omega
        have d3 : decide ((mid : Int) < (e : Int)) = false := by rw [decide_eq_false_iff_not]; omega
        have d3' : decide (mid < e) = false := by rw [decide_eq_false_iff_not]; omega
        clear hcond
        go_wp2_with fail
        have HE1 := Lib.hid (show ∀ p, at' M p = Stb.rotF (at' M) s m e p from fun p => (Stb.rotF_id (by omega) (by omega) (by omega) p).symm)
        have HR1 := Lib.hid (Res.refl M s e)
        obtain ⟨w1, hw1⟩ : ∃ w1 : World, w1 = wr := ⟨_, rfl⟩
        obtain ⟨M1, hM1⟩ : ∃ M1, M1 = M := ⟨_, rfl⟩
        have HS1 := Lib.hid (show SW w0 w1 base g cap n M1 by rw [hw1, hM1]; exact HS.out)
        rw [← hw1]
        replace HE1 := Lib.hid (show ∀ p, at' M1 p = Stb.rotF (at' M) s m e p by rw [hM1]; exact HE1.out)
        replace HR1 := Lib.hid (show Res M M1 s e by rw [hM1]; exact HR1.out)
        clear hw1 hM1
        have HR2 := Lib.hid (Res.refl M1 a mid)
        have HO2 := Lib.hid (Stb.cut_left_sorted HG.out CUT.out HE1.out (by omega))
        have HS2 := HS1
        have HR3 := Lib.hid (Res.refl M1 mid b)
        have HO3 := Lib.hid ((Stb.cut_right_sorted HG.out CUT.out HE1.out (by omega)).congr (fun p h1 h2 => HR2.out.out p (Or.inr h1)))
        have HS3 := HS2
        have HFS := Lib.hid (Stb.halves (Stb.cut_mid HG.out CUT.out HE1.out) HR2.out HO2.out HR3.out HO3.out)
        have HFR := Lib.hid ((HR1.out.mono (by omega) (by omega)).trans ((HR2.out.mono (Nat.le_refl _) (by omega)).trans (HR3.out.mono (by omega) (Nat.le_refl _))))
        go_end0
        exact ⟨rfl, M1, HS3.out, HFR.out, HFS.out⟩
      · have hcond : True := trivial
        have d0 : decide ((s : Int) < (m : Int)) = true := by rw [decide_eq_true_eq]; omega
        have d0' : decide (s < m) = true := by rw [decide_eq_true_eq]; omega
        have d1 : decide ((m : Int) < (e : Int)) = false := by rw [decide_eq_false_iff_not]; omega
        have d1' : decide (m < e) = false := by rw [decide_eq_false_iff_not]; omega
        have d2 : decide ((a : Int) < (s : Int)) = true := by rw [decide_eq_true_eq]; omega
        have d2' : decide (a < s) = true := by rw [decide_eq_true_eq]; omega
        have d3 : decide ((s : Int) < (mid : Int)) = false := by rw [decide_eq_false_iff_not]; omega
        have d3' : decide (s < mid) = false := by rw [decide_eq_false_iff_not]; omega
        have d4 : decide ((mid : Int) < (e : Int)) = true := by rw [decide_eq_true_eq]; omega
        have d4' : decide (mid < e) = true := by rw [decide_eq_true_eq]; omega
        have d5 : decide ((e : Int) < (b : Int)) = true := by rw [decide_eq_true_eq]; omega
        have d5' : decide (e < b) = true := by rw [decide_eq_true_eq]; omega
        clear hcond
        go_wp2_with fail
        have HE1 := Lib.hid (show ∀ p, at' M p = Stb.rotF (at' M) s m e p from fun p => (Stb.rotF_id (by omega) (by omega) (by omega) p).symm)
        have HR1 := Lib.hid (Res.refl M s e)
        obtain ⟨w1, hw1⟩ : ∃ w1 : World, w1 = wr := ⟨_, rfl⟩
        obtain ⟨M1, hM1⟩ : ∃ M1, M1 = M := ⟨_, rfl⟩
        have HS1 := Lib.hid (show SW w0 w1 base g cap n M1 by rw [hw1, hM1]; exact HS.out)
        rw [← hw1]
        replace HE1 := Lib.hid (show ∀ p, at' M1 p = Stb.rotF (at' M) s m e p by rw [hM1]; exact HE1.out)
        replace HR1 := Lib.hid (show Res M M1 s e by rw [hM1]; exact HR1.out)
        clear hw1 hM1
        have HR2 := Lib.hid (Res.refl M1 a mid)
        have HO2 := Lib.hid (Stb.cut_left_sorted HG.out CUT.out HE1.out (by omega))
        have HS2 := HS1
        refine (HIH.out mid e b w1 M1 (by omega) HS2.out (HR2.out.perm.trans (HR1.out.perm.trans HM0.out)) ((Stb.cut_right HG.out CUT.out HR1.out HE1.out (by omega) (by omega)).congr HR2.out.length (fun p h1 h2 => HR2.out.out p (Or.inr h1))) (by omega)).mono ?_
        rintro e3 w3 ⟨rfl, M3, hS, hR, hO⟩
        have HS3 := Lib.hid hS
        have HR3 := Lib.hid hR
        have HO3 := Lib.hid hO
        clear hS hR hO
        have HFS := Lib.hid (Stb.halves (Stb.cut_mid HG.out CUT.out HE1.out) HR2.out HO2.out HR3.out HO3.out)
        have HFR := Lib.hid ((HR1.out.mono (by omega) (by omega)).trans ((HR2.out.mono (Nat.le_refl _) (by omega)).trans (HR3.out.mono (by omega) (Nat.le_refl _))))
        go_wp2_with fail
        go_end0
        exact ⟨rfl, M3, HS3.out, HFR.out, HFS.out⟩

set_option maxHeartbeats 4000000 in
set_option maxRecDepth 100000 in
theorem merge_lo (R : Int → Int) (w0 w : World) (base g cap n c a m b mid : Nat) (M0 M : List Int) (h : SW w0 w base g cap n M) (hM0 : M.Perm M0) (hcmp : CmpOk R w0 base g cap n c M0)
    (hb : b ≤ n) (hn : (n : Int) ≤ 1000000) (hm : Mrg R M a m b) (h1 : a + 2 ≤ m) (h2 : m + 2 ≤ b) (hmid : mid = (a + b) / 2) (hmm : m ≤ mid)
    (ih : ∀ a' m' b' w M, b' - a' < b - a → SW w0 w base g cap n M → M.Perm M0 → Mrg R M a' m' b' → b' ≤ n →
      Calls Tryz.prog 119 #[.slice (some ⟨g, 0, none⟩) n cap, .int .i64 a', .int .i64 m', .int .i64 b', .func (.func 109) #[] #[.pointer (some ⟨c, 0, none⟩)]] w (Merged R w0 base g cap n a' b' M)) :
    Calls Tryz.prog 119 #[.slice (some ⟨g, 0, none⟩) n cap, .int .i64 a, .int .i64 m, .int .i64 b, .func (.func 109) #[] #[.pointer (some ⟨c, 0, none⟩)]] w (Merged R w0 base g cap n a b M) := by
  have H := Lib.hid h
  have HM0 := Lib.hid hM0
  have HC := Lib.hid hcmp
  have HG := Lib.hid hm
  have HIH := Lib.hid ih
  have HMID := Lib.hid hmid
  clear h hM0 hcmp hm ih
  have t1 : (((m : Int) - (a : Int)) == 1) = false := by rw [beq_eq_false_iff_ne]; omega
  have t2 : (((b : Int) - (m : Int)) == 1) = false := by rw [beq_eq_false_iff_ne]; omega
  have hb1 : IntKind.i64.wrap ((m : Int) - (a : Int)) = (m : Int) - (a : Int) := IntWalk.i64_in _ (by omega)
  have hb3 : IntKind.i64.wrap ((b : Int) - (m : Int)) = (b : Int) - (m : Int) := IntWalk.i64_in _ (by omega)
  have emid : ((a : Int) + (b : Int)) / 2 = (mid : Int) := by omega
  have md1 : a + 2 ≤ mid := by omega
  have md2 : mid + 2 ≤ b := by omega
  have md3 : 2 * mid ≤ a + b := by omega
  have md4 : a + b ≤ 2 * mid + 1 := by omega
  have tm : decide ((mid : Int) < (m : Int)) = false := by rw [decide_eq_false_iff_not]; omega
  have tm' : decide (mid < m) = false := by rw [decide_eq_false_iff_not]; omega
  clear hmid
  go_enter Tryz.func119, Tryz.ntmps119
  go_wp2_with fail
  go_loopw [20, 21] (fun sv rv wr => ∃ (s r : Nat), sv = .int .i64 s ∧ rv = .int .i64 r ∧ a ≤ s ∧ s ≤ r ∧ r ≤ m ∧ Hid (SW w0 wr base g cap n M) ∧ Hid (s = a ∨ R (at' M (mid + m - 1 - (s - 1))) ≤ R (at' M (s - 1))) ∧ Hid (r = m ∨ R (at' M r) < R (at' M (mid + m - 1 - r)))) (fun sv rv _ => (intOf rv - intOf sv).toNat)
  case atStart => exact ⟨a, m, rfl, rfl, by omega, by omega, by omega, H, Lib.hid (Or.inl rfl), Lib.hid (Or.inl rfl)⟩
  case round =>
    obtain ⟨s, r, rfl, rfl, hs, hsr, hrr, HS, HL, HH⟩ := hrel
    by_cases hlt : s < r
    · have t3 : decide ((s : Int) < (r : Int)) = true := by rw [decide_eq_true_eq]; omega
      have t3' : decide (s < r) = true := by simpa using hlt
      obtain ⟨k, hk⟩ : ∃ k : Nat, (s + r) / 2 = k := ⟨_, rfl⟩
      have ek : ((s : Int) + (r : Int)) / 2 = (k : Int) := by omega
      have k0 : s ≤ k := by omega
      have k1 : k < r := by omega
      clear hk
      obtain ⟨u, hu⟩ : ∃ u : Nat, mid + m - 1 - k = u := ⟨_, rfl⟩
      have eu : (mid : Int) + (m : Int) - 1 - (k : Int) = (u : Int) := by omega
      have u0 : m ≤ u := by omega
      have u1 : u < b := by omega
      have HU := Lib.hid hu
      clear hu
      have hp2 : M.Perm M0 := HM0.out
      have c1 := HS.out.cell (j := u) (by omega)
      have c2 := HS.out.cell (j := k) (by omega)
      have m1 := at_mem HS.out.len (show u < n by omega) hp2
      have m2 := at_mem HS.out.len (show k < n by omega) hp2
      have hun : u < n := by omega
      have hkn : k < n := by omega
      obtain ⟨x, hx⟩ : ∃ x, at' M u = x := ⟨_, rfl⟩
      obtain ⟨y, hy⟩ : ∃ y, at' M k = y := ⟨_, rfl⟩
      rw [hx] at c1 m1
      rw [hy] at c2 m2
      have HX := Lib.hid hx
      have HY := Lib.hid hy
      have HQ := Lib.hid (fun q => HC.out (wr.drewN q) M (HS.out.drewN q) x y m1 m2)
      clear hx hy hp2 m1 m2
      by_cases hc : R y < R x
      · have t4 : decide (Lib.compareInt (R y) (R x) < 0) = true := by rw [decide_eq_true_eq, cmp_neg]; exact hc
        have HH2 := Lib.hid (show k = m ∨ R (at' M k) < R (at' M (mid + m - 1 - k)) from Or.inr (by rw [HU.out, HX.out, HY.out]; exact hc))
        generalize Lib.compareInt (R y) (R x) = cv at t4 HQ
        go_wp2_with fail
        go_quiet ((go_at_call 109; exact Calls.quiet_of (HQ.out _)))
        go_wp2_with fail
        go_roundw
        case rel => exact ⟨s, k, rfl, rfl, hs, k0, by omega, Lib.hid (HS.out.drewN _), HL, HH2⟩
        case measure => simp [intOf]; omega
      · have t4 : decide (Lib.compareInt (R y) (R x) < 0) = false := by rw [decide_eq_false_iff_not, cmp_neg]; exact hc
        have HL2 := Lib.hid (show k + 1 = a ∨ R (at' M (mid + m - 1 - (k + 1 - 1))) ≤ R (at' M (k + 1 - 1)) from Or.inr (by rw [Nat.add_sub_cancel, HU.out, HX.out, HY.out]; omega))
        generalize Lib.compareInt (R y) (R x) = cv at t4 HQ
        go_wp2_with fail
        go_quiet ((go_at_call 109; exact Calls.quiet_of (HQ.out _)))
        go_wp2_with fail
        go_roundw
        case rel => exact ⟨k + 1, r, by go_num, rfl, by omega, by omega, hrr, Lib.hid (HS.out.drewN _), HL2, HH⟩
        case measure => simp [intOf]; omega
    · have t3 : decide ((s : Int) < (r : Int)) = false := by rw [decide_eq_false_iff_not]; omega
      have t3' : decide (s < r) = false := by simpa using hlt
      obtain rfl : s = r := by omega
      obtain ⟨e, he⟩ : ∃ e : Nat, mid + m - s = e := ⟨_, rfl⟩
      have ee : (mid : Int) + (m : Int) - (s : Int) = (e : Int) := by omega
      have hsum : s + e = mid + m := by omega
      have CUT := Lib.hid (show Stb.Cutp R M a m b mid s e from by
        rw [← he]
        refine Stb.cut_of HG.out HMID.out (by omega) (by omega) ?_ ?_
        · rcases HL.out with h | h
          · exact Or.inr (Or.inl ⟨hmm, h⟩)
          · exact Or.inr (Or.inr (Int.not_lt.2 h))
        · rcases HH.out with h | h
          · exact Or.inr (Or.inl ⟨hmm, h⟩)
          · exact Or.inr (Or.inr h))
      clear he hlt hsr
      have b1 : m ≤ e := CUT.out.me
      have b2 : e ≤ b := CUT.out.eb
      have b3 : a ≤ s := CUT.out.as
      have b4 : s ≤ m := CUT.out.sm
      have b5 : s ≤ mid := CUT.out.smid
      have b6 : mid ≤ e := CUT.out.mide
      have hways : (s < m ∧ m < e ∧ a < s ∧ e < b) ∨ (s < m ∧ m < e ∧ a < s ∧ b ≤ e) ∨ (s < m ∧ m < e ∧ s ≤ a ∧ e < b) ∨ (s < m ∧ m < e ∧ s ≤ a ∧ b ≤ e) ∨ (m ≤ s ∧ m < mid) ∨ (m ≤ s ∧ mid ≤ m) ∨ (s < m ∧ e ≤ m) := by omega
      rcases hways with ⟨z0, z1, z2, z3⟩ | ⟨z0, z1, z2, z3⟩ | ⟨z0, z1, z2, z3⟩ | ⟨z0, z1, z2, z3⟩ | ⟨z0, z1⟩ | ⟨z0, z1⟩ | ⟨z0, z1⟩
      · have hcond : True := trivial
        have d0 : decide ((s : Int) < (m : Int)) = true := by rw [decide_eq_true_eq]; omega
        have d0' : decide (s < m) = true := by rw [decide_eq_true_eq]; omega
        have d1 : decide ((m : Int) < (e : Int)) = true := by rw [decide_eq_true_eq]; omega
        have d1' : decide (m < e) = true := by rw [decide_eq_true_eq]; omega
        have d2 : decide ((a : Int) < (s : Int)) = true := by rw [decide_eq_true_eq]; omega
        have d2' : decide (a < s) = true := by rw [decide_eq_true_eq]; omega
        have d3 : decide ((s : Int) < (mid : Int)) = true := by rw [decide_eq_true_eq]; omega
        have d3' : decide (s < mid) = true := by rw [decide_eq_true_eq]; omega
        have d4 : decide ((mid : Int) < (e : Int)) = true := by rw [decide_eq_true_eq]; omega
        have d4' : decide (mid < e) = true := by rw [decide_eq_true_eq]; omega
        have d5 : decide ((e : Int) < (b : Int)) = true := by rw [decide_eq_true_eq]; omega
        have d5' : decide (e < b) = true := by rw [decide_eq_true_eq]; omega
        clear hcond
        go_wp2_with fail
        refine (rotate_any w0 wr base g cap n s m e M (.func (.func 109) #[] #[.pointer (some ⟨c, 0, none⟩)]) HS.out (by omega) (by omega) (by omega) hn).mono ?_
        rintro e1 w1 ⟨rfl, M1, hS, hP, hE⟩
        have HS1 := Lib.hid hS
        have HE1 := Lib.hid hE
        have HR1 := Lib.hid (Stb.rot_res hP (by omega) (by omega) hE)
        clear hS hP hE
        go_wp2_with fail
        refine (HIH.out a s mid w1 M1 (by omega) HS1.out (HR1.out.perm.trans HM0.out) (Stb.cut_left HG.out CUT.out HR1.out HE1.out (by omega) (by omega)) (by omega)).mono ?_
        rintro e2 w2 ⟨rfl, M2, hS, hR, hO⟩
        have HS2 := Lib.hid hS
        have HR2 := Lib.hid hR
        have HO2 := Lib.hid hO
        clear hS hR hO
        go_wp2_with fail
        refine (HIH.out mid e b w2 M2 (by omega) HS2.out (HR2.out.perm.trans (HR1.out.perm.trans HM0.out)) ((Stb.cut_right HG.out CUT.out HR1.out HE1.out (by omega) (by omega)).congr HR2.out.length (fun p h1 h2 => HR2.out.out p (Or.inr h1))) (by omega)).mono ?_
        rintro e3 w3 ⟨rfl, M3, hS, hR, hO⟩
        have HS3 := Lib.hid hS
        have HR3 := Lib.hid hR
        have HO3 := Lib.hid hO
        clear hS hR hO
        have HFS := Lib.hid (Stb.halves (Stb.cut_mid HG.out CUT.out HE1.out) HR2.out HO2.out HR3.out HO3.out)
        have HFR := Lib.hid ((HR1.out.mono (by omega) (by omega)).trans ((HR2.out.mono (Nat.le_refl _) (by omega)).trans (HR3.out.mono (by omega) (Nat.le_refl _))))
        go_wp2_with fail
        go_end0
        exact ⟨rfl, M3, HS3.out, HFR.out, HFS.out⟩
      · have hcond : True := trivial
        have d0 : decide ((s : Int) < (m : Int)) = true := by rw [decide_eq_true_eq]; omega
        have d0' : decide (s < m) = true := by rw [decide_eq_true_eq]; omega
        have d1 : decide ((m : Int) < (e : Int)) = true := by rw [decide_eq_true_eq]; omega
        have d1' : decide (m < e) = true := by rw [decide_eq_true_eq]; omega
        have d2 : decide ((a : Int) < (s : Int)) = true := by rw [decide_eq_true_eq]; omega
        have d2' : decide (a < s) = true := by rw [decide_eq_true_eq]; omega
        have d3 : decide ((s : Int) < (mid : Int)) = true := by rw [decide_eq_true_eq]; omega
        have d3' : decide (s < mid) = true := by rw [decide_eq_true_eq]; omega
        have d4 : decide ((mid : Int) < (e : Int)) = true := by rw [decide_eq_true_eq]; omega
        have d4' : decide (mid < e) = true := by rw [decide_eq_true_eq]; omega
        have d5 : decide ((e : Int) < (b : Int)) = false := by rw [decide_eq_false_iff_not]; omega
        have d5' : decide (e < b) = false := by rw [decide_eq_false_iff_not]; omega
        clear hcond
        go_wp2_with fail
        refine (rotate_any w0 wr base g cap n s m e M (.func (.func 109) #[] #[.pointer (some ⟨c, 0, none⟩)]) HS.out (by omega) (by omega) (by omega) hn).mono ?_
        rintro e1 w1 ⟨rfl, M1, hS, hP, hE⟩
        have HS1 := Lib.hid hS
        have HE1 := Lib.hid hE
        have HR1 := Lib.hid (Stb.rot_res hP (by omega) (by omega) hE)
        clear hS hP hE
        go_wp2_with fail
        refine (HIH.out a s mid w1 M1 (by omega) HS1.out (HR1.out.perm.trans HM0.out) (Stb.cut_left HG.out CUT.out HR1.out HE1.out (by omega) (by omega)) (by omega)).mono ?_
        rintro e2 w2 ⟨rfl, M2, hS, hR, hO⟩
        have HS2 := Lib.hid hS
        have HR2 := Lib.hid hR
        have HO2 := Lib.hid hO
        clear hS hR hO
        have HR3 := Lib.hid (Res.refl M2 mid b)
        have HO3 := Lib.hid ((Stb.cut_right_sorted HG.out CUT.out HE1.out (by omega)).congr (fun p h1 h2 => HR2.out.out p (Or.inr h1)))
        have HS3 := HS2
        have HFS := Lib.hid (Stb.halves (Stb.cut_mid HG.out CUT.out HE1.out) HR2.out HO2.out HR3.out HO3.out)
        have HFR := Lib.hid ((HR1.out.mono (by omega) (by omega)).trans ((HR2.out.mono (Nat.le_refl _) (by omega)).trans (HR3.out.mono (by omega) (Nat.le_refl _))))
        go_wp2_with fail
        go_end0
        exact ⟨rfl, M2, HS3.out, HFR.out, HFS.out⟩
      · have hcond : True := trivial
        have d0 : decide ((s : Int) < (m : Int)) = true := by rw [decide_eq_true_eq]; omega
        have d0' : decide (s < m) = true := by rw [decide_eq_true_eq]; omega
        have d1 : decide ((m : Int) < (e : Int)) = true := by rw [decide_eq_true_eq]; omega
        have d1' : decide (m < e) = true := by rw [decide_eq_true_eq]; omega
        have d2 : decide ((a : Int) < (s : Int)) = false := by rw [decide_eq_false_iff_not]; omega
        have d2' : decide (a < s) = false := by rw [decide_eq_false_iff_not]; omega
        have d3 : decide ((mid : Int) < (e : Int)) = true := by rw [decide_eq_true_eq]; omega
        have d3' : decide (mid < e) = true := by rw [decide_eq_true_eq]; omega
        have d4 : decide ((e : Int) < (b : Int)) = true := by rw [decide_eq_true_eq]; omega
        have d4' : decide (e < b) = true := by rw [decide_eq_true_eq]; omega
        clear hcond
        go_wp2_with fail
        refine (rotate_any w0 wr base g cap n s m e M (.func (.func 109) #[] #[.pointer (some ⟨c, 0, none⟩)]) HS.out (by omega) (by omega) (by omega) hn).mono ?_
        rintro e1 w1 ⟨rfl, M1, hS, hP, hE⟩
        have HS1 := Lib.hid hS
        have HE1 := Lib.hid hE
        have HR1 := Lib.hid (Stb.rot_res hP (by omega) (by omega) hE)
        clear hS hP hE
        go_wp2_with fail
        have HR2 := Lib.hid (Res.refl M1 a mid)
        have HO2 := Lib.hid (Stb.cut_left_sorted HG.out CUT.out HE1.out (by omega))
        have HS2 := HS1
        refine (HIH.out mid e b w1 M1 (by omega) HS2.out (HR2.out.perm.trans (HR1.out.perm.trans HM0.out)) ((Stb.cut_right HG.out CUT.out HR1.out HE1.out (by omega) (by omega)).congr HR2.out.length (fun p h1 h2 => HR2.out.out p (Or.inr h1))) (by omega)).mono ?_
        rintro e3 w3 ⟨rfl, M3, hS, hR, hO⟩
        have HS3 := Lib.hid hS
        have HR3 := Lib.hid hR
        have HO3 := Lib.hid hO
        clear hS hR hO
        have HFS := Lib.hid (Stb.halves (Stb.cut_mid HG.out CUT.out HE1.out) HR2.out HO2.out HR3.out HO3.out)
        have HFR := Lib.hid ((HR1.out.mono (by omega) (by omega)).trans ((HR2.out.mono (Nat.le_refl _) (by omega)).trans (HR3.out.mono (by omega) (Nat.le_refl _))))
        go_wp2_with fail
        go_end0
        exact ⟨rfl, M3, HS3.out, HFR.out, HFS.out⟩
      · have hcond : True := trivial
        have d0 : decide ((s : Int) < (m : Int)) = true := by rw [decide_eq_true_eq]; omega
        have d0' : decide (s < m) = true := by rw [decide_eq_true_eq]; omega
        have d1 : decide ((m : Int) < (e : Int)) = true := by rw [decide_eq_true_eq]; omega
        have d1' : decide (m < e) = true := by rw [decide_eq_true_eq]; omega
        have d2 : decide ((a : Int) < (s : Int)) = false := by rw [decide_eq_false_iff_not]; omega
        have d2' : decide (a < s) = false := by rw [decide_eq_false_iff_not]; omega
        have d3 : decide ((mid : Int) < (e : Int)) = true := by rw [decide_eq_true_eq]; omega
        have d3' : decide (mid < e) = true := by rw [decide_eq_true_eq]; omega
        have d4 : decide ((e : Int) < (b : Int)) = false := by rw [decide_eq_false_iff_not]; omega
        have d4' : decide (e < b) = false := by rw [decide_eq_false_iff_not]; omega
        clear hcond
        go_wp2_with fail
        refine (rotate_any w0 wr base g cap n s m e M (.func (.func 109) #[] #[.pointer (some ⟨c, 0, none⟩)]) HS.out (by omega) (by omega) (by omega) hn).mono ?_
        rintro e1 w1 ⟨rfl, M1, hS, hP, hE⟩
        have HS1 := Lib.hid hS
        have HE1 := Lib.hid hE
        have HR1 := Lib.hid (Stb.rot_res hP (by omega) (by omega) hE)
        clear hS hP hE
        have HR2 := Lib.hid (Res.refl M1 a mid)
        have HO2 := Lib.hid (Stb.cut_left_sorted HG.out CUT.out HE1.out (by omega))
        have HS2 := HS1
        have HR3 := Lib.hid (Res.refl M1 mid b)
        have HO3 := Lib.hid ((Stb.cut_right_sorted HG.out CUT.out HE1.out (by omega)).congr (fun p h1 h2 => HR2.out.out p (Or.inr h1)))
        have HS3 := HS2
        have HFS := Lib.hid (Stb.halves (Stb.cut_mid HG.out CUT.out HE1.out) HR2.out HO2.out HR3.out HO3.out)
        have HFR := Lib.hid ((HR1.out.mono (by omega) (by omega)).trans ((HR2.out.mono (Nat.le_refl _) (by omega)).trans (HR3.out.mono (by omega) (Nat.le_refl _))))
        go_wp2_with fail
        go_end0
        exact ⟨rfl, M1, HS3.out, HFR.out, HFS.out⟩
      · have hcond : True := trivial
        have d0 : decide ((s : Int) < (m : Int)) = false := by rw [decide_eq_false_iff_not]; omega
        have d0' : decide (s < m) = false := by rw [decide_eq_false_iff_not]; omega
        have d1 : decide ((a : Int) < (s : Int)) = true := by rw [decide_eq_true_eq]; omega
        have d1' : decide (a < s) = true := by rw [decide_eq_true_eq]; omega
        have d2 : decide ((s : Int) < (mid : Int)) = true := by rw [decide_eq_true_eq]; omega
        have d2' : decide (s < mid) = true := by rw [decide_eq_true_eq]; omega
        have d3 : decide ((mid : Int) < (e : Int)) = false := by rw [decide_eq_false_iff_not]; omega
        have d3' : decide (mid < e) = false := by rw [decide_eq_false_iff_not]; omega
        clear hcond
        go_wp2_with fail
        have HE1 := Lib.hid (show ∀ p, at' M p = Stb.rotF (at' M) s m e p from fun p => (Stb.rotF_id (by omega) (by omega) (by omega) p).symm)
        have HR1 := Lib.hid (Res.refl M s e)
        obtain ⟨w1, hw1⟩ : ∃ w1 : World, w1 = wr := ⟨_, rfl⟩
        obtain ⟨M1, hM1⟩ : ∃ M1, M1 = M := ⟨_, rfl⟩
        have HS1 := Lib.hid (show SW w0 w1 base g cap n M1 by rw [hw1, hM1]; exact HS.out)
        rw [← hw1]
        replace HE1 := Lib.hid (show ∀ p, at' M1 p = Stb.rotF (at' M) s m e p by rw [hM1]; exact HE1.out)
        replace HR1 := Lib.hid (show Res M M1 s e by rw [hM1]; exact HR1.out)
        clear hw1 hM1
        refine (HIH.out a s mid w1 M1 (by omega) HS1.out (HR1.out.perm.trans HM0.out) (Stb.cut_left HG.out CUT.out HR1.out HE1.out (by omega) (by omega)) (by omega)).mono ?_
        rintro e2 w2 ⟨rfl, M2, hS, hR, hO⟩
        have HS2 := Lib.hid hS
        have HR2 := Lib.hid hR
        have HO2 := Lib.hid hO
        clear hS hR hO
        have HR3 := Lib.hid (Res.refl M2 mid b)
        have HO3 := Lib.hid ((Stb.cut_right_sorted HG.out CUT.out HE1.out (by omega)).congr (fun p h1 h2 => HR2.out.out p (Or.inr h1)))
        have HS3 := HS2
        have HFS := Lib.hid (Stb.halves (Stb.cut_mid HG.out CUT.out HE1.out) HR2.out HO2.out HR3.out HO3.out)
        have HFR := Lib.hid ((HR1.out.mono (by omega) (by omega)).trans ((HR2.out.mono (Nat.le_refl _) (by omega)).trans (HR3.out.mono (by omega) (Nat.le_refl _))))
        go_wp2_with fail
        go_end0
        exact ⟨rfl, M2, HS3.out, HFR.out, HFS.out⟩
      · have hcond : True := trivial
        have d0 : decide ((s : Int) < (m : Int)) = false := by rw [decide_eq_false_iff_not]; omega
        have d0' : decide (s < m) = false := by rw [decide_eq_false_iff_not]; omega
        have d1 : decide ((a : Int) < (s : Int)) = true := by rw [decide_eq_true_eq]; omega
        have d1' : decide (a < s) = true := by rw [decide_eq_true_eq]; omega
        have d2 : decide ((s : Int) < (mid : Int)) = false := by rw [decide_eq_false_iff_not]; omega
        have d2' : decide (s < mid) = false := by rw [decide_eq_false_iff_not]; omega
        have d3 : decide ((mid : Int) < (e : Int)) = false := by rw [decide_eq_false_iff_not]; omega
        have d3' : decide (mid < e) = false := by rw [decide_eq_false_iff_not]; omega
        clear hcond
        go_wp2_with fail
        have HE1 := Lib.hid (show ∀ p, at' M p = Stb.rotF (at' M) s m e p from fun p => (Stb.rotF_id (by omega) (by omega) (by omega) p).symm)
        have HR1 := Lib.hid (Res.refl M s e)
        obtain ⟨w1, hw1⟩ : ∃ w1 : World, w1 = wr := ⟨_, rfl⟩
        obtain ⟨M1, hM1⟩ : ∃ M1, M1 = M := ⟨_, rfl⟩
        have HS1 := Lib.hid (show SW w0 w1 base g cap n M1 by rw [hw1, hM1]; exact HS.out)
        rw [← hw1]
        replace HE1 := Lib.hid (show ∀ p, at' M1 p = Stb.rotF (at' M) s m e p by rw [hM1]; exact HE1.out)
        replace HR1 := Lib.hid (show Res M M1 s e by rw [hM1]; exact HR1.out)
        clear hw1 hM1
        have HR2 := Lib.hid (Res.refl M1 a mid)
        have HO2 := Lib.hid (Stb.cut_left_sorted HG.out CUT.out HE1.out (by omega))
        have HS2 := HS1
        have HR3 := Lib.hid (Res.refl M1 mid b)
        have HO3 := Lib.hid ((Stb.cut_right_sorted HG.out CUT.out HE1.out (by omega)).congr (fun p h1 h2 => HR2.out.out p (Or.inr h1)))
        have HS3 := HS2
        have HFS := Lib.hid (Stb.halves (Stb.cut_mid HG.out CUT.out HE1.out) HR2.out HO2.out HR3.out HO3.out)
        have HFR := Lib.hid ((HR1.out.mono (by omega) (by omega)).trans ((HR2.out.mono (Nat.le_refl _) (by omega)).trans (HR3.out.mono (by omega) (Nat.le_refl _))))
        go_end0
        exact ⟨rfl, M1, HS3.out, HFR.out, HFS.out⟩
      · have hcond : True := trivial
        have d0 : decide ((s : Int) < (m : Int)) = true := by rw [decide_eq_true_eq]; omega
        have d0' : decide (s < m) = true := by rw [decide_eq_true_eq]; omega
        have d1 : decide ((m : Int) < (e : Int)) = false := by rw [decide_eq_false_iff_not]; omega
        have d1' : decide (m < e) = false := by rw [decide_eq_false_iff_not]; omega
        have d2 : decide ((a : Int) < (s : Int)) = true := by rw [decide_eq_true_eq]; omega
        have d2' : decide (a < s) = true := by rw [decide_eq_true_eq]; omega
        have d3 : decide ((s : Int) < (mid : Int)) = false := by rw [decide_eq_false_iff_not]; omega
        have d3' : decide (s < mid) = false := by rw [decide_eq_false_iff_not]; omega
        have d4 : decide ((mid : Int) < (e : Int)) = true := by rw [decide_eq_true_eq]; omega
        have d4' : decide (mid < e) = true := by rw [decide_eq_true_eq]; omega
        have d5 : decide ((e : Int) < (b : Int)) = true := by rw [decide_eq_true_eq]; omega
        have d5' : decide (e < b) = true := by rw [decide_eq_true_eq]; omega
        clear hcond
        go_wp2_with fail
        have HE1 := Lib.hid (show ∀ p, at' M p = Stb.rotF (at' M) s m e p from fun p => (Stb.rotF_id (by omega) (by omega) (by omega) p).symm)
        have HR1 := Lib.hid (Res.refl M s e)
        obtain ⟨w1, hw1⟩ : ∃ w1 : World, w1 = wr := ⟨_, rfl⟩
        obtain ⟨M1, hM1⟩ : ∃ M1, M1 = M := ⟨_, rfl⟩
        have HS1 := Lib.hid (show SW w0 w1 base g cap n M1 by rw [hw1, hM1]; exact HS.out)
        rw [← hw1]
        replace HE1 := Lib.hid (show ∀ p, at' M1 p = Stb.rotF (at' M) s m e p by rw [hM1]; exact HE1.out)
        replace HR1 := Lib.hid (show Res M M1 s e by rw [hM1]; exact HR1.out)
        clear hw1 hM1
        have HR2 := Lib.hid (Res.refl M1 a mid)
        have HO2 := Lib.hid (Stb.cut_left_sorted HG.out CUT.out HE1.out (by omega))
        have HS2 := HS1
        refine (HIH.out mid e b w1 M1 (by omega) HS2.out (HR2.out.perm.trans (HR1.out.perm.trans HM0.out)) ((Stb.cut_right HG.out CUT.out HR1.out HE1.out (by omega) (by omega)).congr HR2.out.length (fun p h1 h2 => HR2.out.out p (Or.inr h1))) (by omega)).mono ?_
        rintro e3 w3 ⟨rfl, M3, hS, hR, hO⟩
        have HS3 := Lib.hid hS
        have HR3 := Lib.hid hR
        have HO3 := Lib.hid hO
        clear hS hR hO
        have HFS := Lib.hid (Stb.halves (Stb.cut_mid HG.out CUT.out HE1.out) HR2.out HO2.out HR3.out HO3.out)
        have HFR := Lib.hid ((HR1.out.mono (by omega) (by omega)).trans ((HR2.out.mono (Nat.le_refl _) (by omega)).trans (HR3.out.mono (by omega) (Nat.le_refl _))))
        go_wp2_with fail
        go_end0
        exact ⟨rfl, M3, HS3.out, HFR.out, HFS.out⟩
end Go.Proofs.YthdmceeipmmhjaaGreatDoor

/- The stable sort of the library: the merge at every place; the stable sort. -/
namespace Go.Proofs.YthdmceeipmmhjaaGreatDoor
open Go.RowKit Go.BigFrame
open Stb (at' sw2 Srt Res Mrg)

theorem merge_any (R : Int → Int) (w0 : World) (base g cap n c : Nat) (M0 : List Int) (hcmp : CmpOk R w0 base g cap n c M0) (hn : (n : Int) ≤ 1000000) :
    ∀ (k a m b : Nat) (w : World) (M : List Int), b - a ≤ k → SW w0 w base g cap n M → M.Perm M0 → Mrg R M a m b → b ≤ n →
      Calls Tryz.prog 119 #[.slice (some ⟨g, 0, none⟩) n cap, .int .i64 a, .int .i64 m, .int .i64 b, .func (.func 109) #[] #[.pointer (some ⟨c, 0, none⟩)]] w (Merged R w0 base g cap n a b M)
  | 0, a, m, b, w, M, hk, h, hM, hm, hb => by have := hm.am; have := hm.mb; omega
  | k + 1, a, m, b, w, M, hk, h, hM, hm, hb => by
    have h1 := hm.am
    have h2 := hm.mb
    by_cases e1 : m = a + 1
    · subst e1
      exact merge_one R w0 w base g cap n c a b M0 M h hM hcmp hb hn hm
    · by_cases e2 : b = m + 1
      · subst e2
        exact merge_last R w0 w base g cap n c a (m + 1) M0 M h hM hcmp hb hn m hm e1 rfl
      · have ih : ∀ a' m' b' w M, b' - a' < b - a → SW w0 w base g cap n M → M.Perm M0 → Mrg R M a' m' b' → b' ≤ n →
            Calls Tryz.prog 119 #[.slice (some ⟨g, 0, none⟩) n cap, .int .i64 a', .int .i64 m', .int .i64 b', .func (.func 109) #[] #[.pointer (some ⟨c, 0, none⟩)]] w (Merged R w0 base g cap n a' b' M) :=
          fun a' m' b' w M hlt hs hp hg hb' => merge_any R w0 base g cap n c M0 hcmp hn k a' m' b' w M (by omega) hs hp hg hb'
        by_cases e3 : (a + b) / 2 < m
        · exact merge_hi R w0 w base g cap n c a m b ((a + b) / 2) M0 M h hM hcmp hb hn hm (by omega) (by omega) rfl e3 ih
        · exact merge_lo R w0 w base g cap n c a m b ((a + b) / 2) M0 M h hM hcmp hb hn hm (by omega) (by omega) rfl (by omega) ih

/-- blocks of s numbers: each number lies in its own block -/
def Blk (s n : Nat) (M : List Int) (lo : Nat) : Prop := ∀ p, lo ≤ p → p < n → ∃ v : Nat, at' M p = v ∧ v < n ∧ v / s = p / s
/-- each block before hi is sorted -/
def Chk (R : Int → Int) (s n : Nat) (M : List Int) (lo hi : Nat) : Prop := ∀ p q, lo ≤ p → p < q → q < hi → q < n → p / s = q / s → Stb.Bf R (at' M p) (at' M q)

theorem div_mono {p q s : Nat} (h : p ≤ q) : p / s ≤ q / s := Nat.div_le_div_right h
theorem div_block {p s t : Nat} (_hs : 0 < s) (h1 : s * t ≤ p) (h2 : p < s * t + s) : p / s = t := by
  apply Nat.div_eq_of_lt_le
  · rw [Nat.mul_comm]; exact h1
  · rw [Nat.succ_mul, Nat.mul_comm]; exact h2
theorem div_double {v p s : Nat} (h : v / s = p / s) : v / (2 * s) = p / (2 * s) := by
  rw [Nat.mul_comm, ← Nat.div_div_eq_div_mul, ← Nat.div_div_eq_div_mul, h]
theorem Res.blk {M M' : List Int} {s n a b lo : Nat} (h : Res M M' a b) (hb : b ≤ n) (hs : ∀ p, a ≤ p → p < b → p / s = a / s) (g : Blk s n M lo) (hlo : lo ≤ a) : Blk s n M' lo := by
  intro p h1 h2
  by_cases hp : a ≤ p ∧ p < b
  · obtain ⟨q, q1, q2, e⟩ := h.img p hp.1 hp.2
    obtain ⟨v, v1, v2, v3⟩ := g q (by omega) (by omega)
    exact ⟨v, by rw [e, v1], v2, by rw [v3, hs q q1 q2, hs p hp.1 hp.2]⟩
  · obtain ⟨v, v1, v2, v3⟩ := g p h1 h2
    exact ⟨v, by rw [h.out p (by omega), v1], v2, v3⟩
theorem Res.chk {R : Int → Int} {M M' : List Int} {s n a b lo : Nat} (h : Res M M' a b) (_hb : b ≤ n) (hs : ∀ p, a ≤ p → p < b → p / s = a / s) (g : Chk R s n M lo a) (hsrt : Srt R M' a b) (hlo : ∀ p, p < a → p / s ≠ a / s) : Chk R s n M' lo b := by
  intro p q h1 h2 h3 h4 h5
  by_cases hq : q < a
  · show Stb.Bf R _ _
    rw [h.out p (Or.inl (by omega)), h.out q (Or.inl hq)]
    exact g p q h1 h2 hq h4 h5
  · by_cases hp : a ≤ p
    · exact hsrt p q hp h2 h3
    · exact absurd (h5.trans (hs q (by omega) h3)) (hlo p (by omega))
/-- what a merge of two neighbour blocks finds -/
theorem mrg_of {R : Int → Int} {M : List Int} {s n a t b : Nat} (hs : 0 < s) (ha : a = 2 * s * t) (h1 : a + s < b) (hb : b ≤ a + 2 * s) (hbn : b ≤ n) (hl : M.length = n) (hB : Blk s n M a) (hC : Chk R s n M a n) : Mrg R M a (a + s) b := by
  have d1 : ∀ p, a ≤ p → p < a + s → p / s = 2 * t := fun p h2 h3 => div_block hs (by rw [← Nat.mul_assoc, Nat.mul_comm s 2, ← ha]; exact h2) (by rw [← Nat.mul_assoc, Nat.mul_comm s 2, ← ha]; exact h3)
  have e2 : s * (2 * t + 1) = a + s := by rw [Nat.mul_add, Nat.mul_one, ← Nat.mul_assoc, Nat.mul_comm s 2, ← ha]
  have d2 : ∀ p, a + s ≤ p → p < b → p / s = 2 * t + 1 := fun p h2 h3 => div_block hs (by rw [e2]; exact h2) (by rw [e2]; omega)
  refine ⟨by omega, h1, by omega, ?_, ?_, ?_⟩
  · intro p q h2 h3 h4
    exact hC p q h2 h3 (by omega) (by omega) (by rw [d1 p h2 (by omega), d1 q (by omega) h4])
  · intro p q h2 h3 h4
    exact hC p q (by omega) h3 (by omega) (by omega) (by rw [d2 p h2 (by omega), d2 q (by omega) h4])
  · intro p q h2 h3 h4 h5
    obtain ⟨v, v1, _, v3⟩ := hB p h2 (by omega)
    obtain ⟨u, u1, _, u3⟩ := hB q (by omega) (by omega)
    rw [v1, u1]
    rw [d1 p h2 h3] at v3
    rw [d2 q h4 h5] at u3
    have hvu : v < u := Nat.lt_of_not_le fun hle => by
      have := div_mono (s := s) hle
      rw [v3, u3] at this
      omega
    exact_mod_cast hvu
theorem srt_of_chk {R : Int → Int} {M : List Int} {s n : Nat} (h : n ≤ s) (g : Chk R s n M 0 n) : Srt R M 0 n := fun p q h1 h2 h3 =>
  g p q h1 h2 h3 h3 (by rw [Nat.div_eq_of_lt (by omega), Nat.div_eq_of_lt (by omega)])
theorem Blk.lo {s n lo lo' : Nat} {M : List Int} (h : Blk s n M lo) (hl : lo ≤ lo') : Blk s n M lo' := fun p h1 h2 => h p (by omega) h2
theorem Blk.double {s n lo : Nat} {M : List Int} (h : Blk s n M lo) : Blk (2 * s) n M lo := fun p h1 h2 => by
  obtain ⟨v, v1, v2, v3⟩ := h p h1 h2
  exact ⟨v, v1, v2, div_double v3⟩
theorem Blk.res {s n a b : Nat} {M M' : List Int} (h : Blk s n M a) (r : Res M M' a b) (hab : a ≤ b) : Blk s n M' b := fun p h1 h2 => by
  obtain ⟨v, v1, v2, v3⟩ := h p (by omega) h2
  exact ⟨v, by rw [r.out p (Or.inr h1), v1], v2, v3⟩
theorem Chk.res {R : Int → Int} {s n a b : Nat} {M M' : List Int} (h : Chk R s n M a n) (r : Res M M' a b) (hab : a ≤ b) : Chk R s n M' b n := fun p q h1 h2 h3 h4 h5 => by
  rw [r.out p (Or.inr h1), r.out q (Or.inr (by omega))]
  exact h p q (by omega) h2 h3 h4 h5
theorem blk_div {s a t p : Nat} (hs : 0 < s) (ha : a = s * t) (h1 : a ≤ p) (h2 : p < a + s) : p / s = a / s := by
  rw [div_block hs (by omega : s * t ≤ p) (by omega), div_block hs (by omega : s * t ≤ a) (by omega)]
theorem blk_ne {s a t p : Nat} (hs : 0 < s) (ha : a = s * t) (h1 : p < a) : p / s ≠ a / s := by
  have h2 : a / s = t := div_block hs (by omega) (by omega)
  rw [h2]
  have := (Nat.div_lt_iff_lt_mul hs).2 (show p < t * s by rw [Nat.mul_comm, ← ha]; exact h1)
  omega
/-- the rest behind the last merge of a round -/
theorem chk_rest {R : Int → Int} {M : List Int} {s n a t : Nat} (hs : 0 < s) (ha : a = 2 * s * t) (hn : n ≤ a + s) (hC : Chk R s n M a n) (hD : Chk R (2 * s) n M 0 a) : Chk R (2 * s) n M 0 n := by
  intro p q h1 h2 h3 h4 h5
  by_cases hq : q < a
  · exact hD p q h1 h2 hq h4 h5
  · have hp : a ≤ p := Nat.le_of_not_lt fun hlt => by
      have e := blk_ne (by omega : 0 < 2 * s) ha hlt
      rw [h5, blk_div (by omega : 0 < 2 * s) ha (by omega : a ≤ q) (by omega)] at e
      exact e rfl
    have d1 : ∀ p, a ≤ p → p < a + s → p / s = 2 * t := fun p h2 h3 => div_block hs (by rw [← Nat.mul_assoc, Nat.mul_comm s 2, ← ha]; exact h2) (by rw [← Nat.mul_assoc, Nat.mul_comm s 2, ← ha]; exact h3)
    exact hC p q hp h2 h3 h4 (by rw [d1 p hp (by omega), d1 q (by omega) (by omega)])

set_option maxHeartbeats 4000000 in
set_option maxRecDepth 100000 in
theorem stable_any (R : Int → Int) (w0 w : World) (base g cap n c : Nat) (M0 : List Int) (h : SW w0 w base g cap n M0) (hid : ∀ p, p < n → at' M0 p = (p : Int)) (hcmp : CmpOk R w0 base g cap n c M0) (hn0 : 0 < n) (hn : (n : Int) ≤ 1000000) :
    Calls Tryz.prog 115 #[.slice (some ⟨g, 0, none⟩) n cap, .int .i64 n, .func (.func 109) #[] #[.pointer (some ⟨c, 0, none⟩)]] w fun e w' =>
      e = .returned (.tuple #[]) ∧ ∃ M', SW w0 w' base g cap n M' ∧ M'.Perm M0 ∧ Srt R M' 0 n := by
  have H := Lib.hid h
  have HID := Lib.hid hid
  have HC := Lib.hid hcmp
  clear h hid hcmp
  go_enter Tryz.func115, Tryz.ntmps115
  go_wp2_with fail
  go_loopw [7, 8] (fun av bv wr => ∃ (a : Nat) (M : List Int), av = .int .i64 a ∧ bv = .int .i64 ((a + 20 : Nat) : Int) ∧ a ≤ n ∧ Hid (∃ t, a = 20 * t) ∧ Hid (SW w0 wr base g cap n M) ∧ Hid (Res M0 M 0 a) ∧ Hid (Blk 20 n M 0) ∧ Hid (Chk R 20 n M 0 a)) (fun av _ _ => n - (intOf av).toNat)
  case atStart => exact ⟨0, M0, rfl, rfl, by omega, Lib.hid ⟨0, rfl⟩, H, Lib.hid (Res.refl _ _ _), Lib.hid (fun p _ h2 => ⟨p, HID.out p h2, h2, rfl⟩), Lib.hid (fun p q h1 h2 h3 => by omega)⟩
  case round =>
    obtain ⟨a, M, rfl, rfl, han, HT, HS, HR, HB, HK⟩ := hrel
    have hinc : ∀ b, b ≤ n → ∀ p q, a ≤ p → p < q → q < b → at' M p < at' M q := fun b hb p q h1 h2 h3 => by
      rw [HR.out.out p (Or.inr h1), HR.out.out q (Or.inr (by omega)), HID.out p (by omega), HID.out q (by omega)]
      omega
    have hblk : ∀ p, a ≤ p → p < a + 20 → p / 20 = a / 20 := fun p h1 h2 => by
      obtain ⟨t, ht⟩ := HT.out
      exact blk_div (by omega) ht h1 h2
    have hne : ∀ p, p < a → p / 20 ≠ a / 20 := fun p h1 => by
      obtain ⟨t, ht⟩ := HT.out
      exact blk_ne (by omega) ht h1
    have HBK := Lib.hid hblk
    have HNE := Lib.hid hne
    have HINC := Lib.hid hinc
    clear hinc hblk hne
    obtain ⟨b, hb⟩ : ∃ b, a + 20 = b := ⟨_, rfl⟩
    have HBB := Lib.hid hb
    by_cases hlt : b ≤ n
    · rw [hb]
      have t1 : decide ((b : Int) ≤ (n : Int)) = true := by rw [decide_eq_true_eq]; omega
      have t1' : decide (b ≤ n) = true := by simpa using hlt
      have hlt2 : a < b := by omega
      clear hb
      go_wp2_with fail
      refine (insertion_any R w0 wr base g cap n c a b M0 M HS.out HR.out.perm HC.out hlt hn han (HINC.out b hlt)).mono ?_
      rintro e w1 ⟨rfl, M1, hS, hR, hO⟩
      have HS1 := Lib.hid hS
      have HR1 := Lib.hid (show Res M0 M1 0 b from (HR.out.mono (Nat.le_refl _) (by omega)).trans (hR.mono (by omega) (Nat.le_refl _)))
      have HB1 := Lib.hid (Res.blk hR hlt (fun p h1 h2 => HBK.out p h1 (by have := HBB.out; omega)) HB.out (by omega))
      have HK1 := Lib.hid (Res.chk hR hlt (fun p h1 h2 => HBK.out p h1 (by have := HBB.out; omega)) HK.out hO (fun p h1 => HNE.out p h1))
      have HT1 := Lib.hid (show ∃ t, b = 20 * t from by obtain ⟨t, ht⟩ := HT.out; exact ⟨t + 1, by have := HBB.out; omega⟩)
      clear hS hR hO
      go_wp2_with fail
      go_roundw
      case rel => exact ⟨b, M1, rfl, by first | rfl | go_num, hlt, HT1, HS1, HR1, HB1, HK1⟩
      case measure => simp [intOf]; omega
    · rw [hb]
      have t1 : decide ((b : Int) ≤ (n : Int)) = false := by rw [decide_eq_false_iff_not]; omega
      have t1' : decide (b ≤ n) = false := by simpa using hlt
      have hlt2 : n < b := by omega
      clear hb hlt
      go_wp2_with fail
      refine (insertion_any R w0 wr base g cap n c a n M0 M HS.out HR.out.perm HC.out (Nat.le_refl _) hn han (HINC.out n (Nat.le_refl _))).mono ?_
      rintro e w1 ⟨rfl, M1, hS, hR, hO⟩
      have HS1 := Lib.hid hS
      have HP1 := Lib.hid (hR.perm.trans HR.out.perm)
      have HB1 := Lib.hid (Res.blk hR (Nat.le_refl _) (fun p h1 h2 => HBK.out p h1 (by have := HBB.out; omega)) HB.out (by omega))
      have HK1 := Lib.hid (Res.chk hR (Nat.le_refl _) (fun p h1 h2 => HBK.out p h1 (by have := HBB.out; omega)) HK.out hO (fun p h1 => HNE.out p h1))
      clear hS hR hO
      go_wp2_with fail
      go_loopw [6] (fun sv w2 => ∃ (s : Nat) (M : List Int), sv = .int .i64 s ∧ 0 < s ∧ (s : Int) ≤ 2000000 ∧ Hid (SW w0 w2 base g cap n M) ∧ Hid (M.Perm M0) ∧ Hid (Blk s n M 0) ∧ Hid (Chk R s n M 0 n)) (fun sv _ => n - (intOf sv).toNat)
      case atStart => exact ⟨20, M1, rfl, by omega, by omega, HS1, HP1, HB1, HK1⟩
      case round =>
        obtain ⟨s, M2, rfl, hs0, hs1, HS2, HP2, HB2, HK2⟩ := hrel
        by_cases hsn : s < n
        · have t2 : decide ((s : Int) < (n : Int)) = true := by rw [decide_eq_true_eq]; omega
          have t2' : decide (s < n) = true := by simpa using hsn
          go_wp2_with fail
          obtain ⟨wo, rfl⟩ : ∃ wo : World, wo = wr := ⟨_, rfl⟩
          go_loopw [7, 8] (fun av bv w3 => ∃ (a b : Nat) (M3 : List Int), av = .int .i64 a ∧ bv = .int .i64 b ∧ a ≤ n ∧ a + 2 * s ≤ b ∧ b ≤ a + 2 * s ∧ Hid (∃ t, a = 2 * s * t) ∧ Hid (SW w0 w3 base g cap n M3) ∧ Hid (M3.Perm M0) ∧ Hid (Blk (2 * s) n M3 0) ∧ Hid (Blk s n M3 a) ∧ Hid (Chk R (2 * s) n M3 0 a) ∧ Hid (Chk R s n M3 a n)) (fun av _ _ => n - (intOf av).toNat)
          case atStart => exact ⟨0, 2 * s, M2, rfl, by congr 1, by omega, by omega, by omega, Lib.hid ⟨0, rfl⟩, HS2, HP2, Lib.hid HB2.out.double, HB2, Lib.hid (fun p q h1 h2 h3 => by omega), HK2⟩
          case round =>
            obtain ⟨a, b, M3, rfl, rfl, han, hb1, hb2, HT, HS3, HP3, HBD, HBS, HKD, HKS⟩ := hrel
            obtain ⟨m, hm⟩ : ∃ m : Nat, a + s = m := ⟨_, rfl⟩
            have em : (a : Int) + (s : Int) = (m : Int) := by omega
            have hm1 : m < b := by omega
            have HMM := Lib.hid hm
            have HDB := Lib.hid (show ∀ p, a ≤ p → p < b → p / (2 * s) = a / (2 * s) from fun p h1 h2 => by
              obtain ⟨t, ht⟩ := HT.out
              exact blk_div (by omega) ht h1 (by omega))
            have HDN := Lib.hid (show ∀ p, p < a → p / (2 * s) ≠ a / (2 * s) from fun p h1 => by
              obtain ⟨t, ht⟩ := HT.out
              exact blk_ne (by omega) ht h1)
            by_cases hlt : b ≤ n
            · have t3 : decide ((b : Int) ≤ (n : Int)) = true := by rw [decide_eq_true_eq]; omega
              have t3' : decide (b ≤ n) = true := by simpa using hlt
              have HMG := Lib.hid (show Mrg R M3 a m b from by
                obtain ⟨t, ht⟩ := HT.out
                rw [← hm]
                exact mrg_of hs0 ht (by omega) hb2 hlt HS3.out.len HBS.out HKS.out)
              have hab : a ≤ b := by omega
              clear hm
              go_wp2_with fail
              refine (merge_any R w0 base g cap n c M0 HC.out hn (b - a) a m b wr M3 (Nat.le_refl _) HS3.out HP3.out HMG.out hlt).mono ?_
              rintro e w4 ⟨rfl, M4, hS, hR, hO⟩
              have HS4 := Lib.hid hS
              have HP4 := Lib.hid (hR.perm.trans HP3.out)
              have HBD4 := Lib.hid (Res.blk hR hlt HDB.out HBD.out (Nat.zero_le _))
              have HBS4 := Lib.hid (Blk.res HBS.out hR hab)
              have HKD4 := Lib.hid (Res.chk hR hlt HDB.out HKD.out hO HDN.out)
              have HKS4 := Lib.hid (Chk.res HKS.out hR hab)
              have HT4 := Lib.hid (show ∃ t, b = 2 * s * t from by
                obtain ⟨t, ht⟩ := HT.out
                exact ⟨t + 1, by rw [Nat.mul_add, Nat.mul_one, ← ht]; omega⟩)
              clear hS hR hO
              go_wp2_with fail
              go_roundw
              case rel => exact ⟨b, b + 2 * s, M4, rfl, by congr 1, hlt, by omega, by omega, HT4, HS4, HP4, HBD4, HBS4, HKD4, HKS4⟩
              case measure => simp [intOf]; omega
            · have t3 : decide ((b : Int) ≤ (n : Int)) = false := by rw [decide_eq_false_iff_not]; omega
              have t3' : decide (b ≤ n) = false := by simpa using hlt
              have hnb : n < b := by omega
              by_cases hmn : m < n
              · have t4 : decide ((m : Int) < (n : Int)) = true := by rw [decide_eq_true_eq]; omega
                have t4' : decide (m < n) = true := by simpa using hmn
                have HMG := Lib.hid (show Mrg R M3 a m n from by
                  obtain ⟨t, ht⟩ := HT.out
                  rw [← hm]
                  exact mrg_of hs0 ht (by omega) (by omega) (Nat.le_refl _) HS3.out.len HBS.out HKS.out)
                clear hm hlt
                go_wp2_with fail
                refine (merge_any R w0 base g cap n c M0 HC.out hn (n - a) a m n wr M3 (Nat.le_refl _) HS3.out HP3.out HMG.out (Nat.le_refl _)).mono ?_
                rintro e w4 ⟨rfl, M4, hS, hR, hO⟩
                have HS4 := Lib.hid hS
                have HP4 := Lib.hid (hR.perm.trans HP3.out)
                have HBD4 := Lib.hid (Res.blk hR (Nat.le_refl _) (fun p h1 h2 => HDB.out p h1 (by omega)) HBD.out (Nat.zero_le _))
                have HKD4 := Lib.hid (Res.chk hR (Nat.le_refl _) (fun p h1 h2 => HDB.out p h1 (by omega)) HKD.out hO HDN.out)
                clear hS hR hO
                go_wp2_with fail
                go_roundw
                case rel => exact ⟨2 * s, M4, by congr 1; omega, by omega, by omega, HS4, HP4, HBD4, HKD4⟩
                case measure => simp [intOf]; omega
              · have t4 : decide ((m : Int) < (n : Int)) = false := by rw [decide_eq_false_iff_not]; omega
                have t4' : decide (m < n) = false := by simpa using hmn
                have HKD4 := Lib.hid (show Chk R (2 * s) n M3 0 n from by
                  obtain ⟨t, ht⟩ := HT.out
                  exact chk_rest hs0 ht (by omega) HKS.out HKD.out)
                clear hm hlt hmn
                go_wp2_with fail
                go_roundw
                case rel => exact ⟨2 * s, M3, by congr 1; omega, by omega, by omega, HS3, HP3, HBD, HKD4⟩
                case measure => simp [intOf]; omega
        · have t2 : decide ((s : Int) < (n : Int)) = false := by rw [decide_eq_false_iff_not]; omega
          have t2' : decide (s < n) = false := by simpa using hsn
          have HF := Lib.hid (srt_of_chk (by omega) HK2.out)
          clear hsn
          go_wp2_with fail
          go_end0
          exact ⟨rfl, M2, HS2.out, HP2.out, HF.out⟩
end Go.Proofs.YthdmceeipmmhjaaGreatDoor

/- Parts: the comparison that it hands to the stable sort; the stable sort of an order of numbers. -/
namespace Go.Proofs.YthdmceeipmmhjaaGreatDoor
open Go.RowKit Go.BigFrame
open Stb (at' Srt)

/-- a row of the call's own, of n integers -/
def RowF (w : World) (g n : Nat) (f : Nat → Int) : Prop := w.ownsRow g 3 1 (.slice (some ⟨g, 0, none⟩) n n) n ((List.range n).map fun i => .int .i64 (f i))
theorem RowF.cell {w : World} {g n : Nat} {f : Nat → Int} (h : RowF w g n f) {j : Nat} (hj : j < n) : w.cell? ⟨g, j, none⟩ = some (.int .i64 (f j)) := by
  rw [World.ownsRow.cellAt h j (by omega), List.getElem?_map, List.getElem?_range hj]
  rfl
theorem RowF.frozen {w : World} {g n : Nat} {f : Nat → Int} (h : RowF w g n f) (j : Nat) : w.frozen? ⟨g, j, none⟩ = false := World.ownsRow.frozenAt h j
theorem RowF.lt {w : World} {g n : Nat} {f : Nat → Int} (h : RowF w g n f) : g < w.heap.size := (World.ownsRow.lt h g rfl).2
theorem RowF.kept {w w' : World} {g n : Nat} {f : Nat → Int} {row : Option Nat} (h : RowF w g n f) (hg : w.grownBy w' row) (hne : some g ≠ row) : RowF w' g n f := World.ownsRow.kept h hg (Or.inr hne)
theorem RowF.ext {w : World} {g n : Nat} {f f' : Nat → Int} (h : RowF w g n f) (he : ∀ i, i < n → f i = f' i) : RowF w g n f' := by
  unfold RowF at h ⊢
  rwa [List.map_congr_left (fun i hi => by rw [he i (List.mem_range.1 hi)])] at h
theorem RowF.stored {w : World} {g n : Nat} {f : Nat → Int} (h : RowF w g n f) (k : Nat) (x : Int) :
    RowF (w.setCell ⟨g, k, none⟩ (.int .i64 x)) g n (fun i => if i = k then x else f i) ∧ w.grownBy (w.setCell ⟨g, k, none⟩ (.int .i64 x)) (some g) := by
  obtain ⟨h1, h2⟩ := World.ownsRow.stored h k (.int .i64 x)
  refine ⟨?_, h2⟩
  unfold RowF
  have e : ((List.range n).map fun i => Value.int .i64 (f i)).set k (.int .i64 x) = (List.range n).map fun i => Value.int .i64 (if i = k then x else f i) := by
    apply List.ext_getElem
    · simp
    · intro i h3 h4
      simp only [List.getElem_set, List.getElem_map, List.getElem_range]
      by_cases e1 : k = i
      · subst e1; simp
      · rw [if_neg e1, if_neg (fun h => e1 h.symm)]
  rw [← e]
  exact h1
theorem RowF.of_make {w : World} {g n : Nat} (h : w.ownsRow g 3 1 (.slice (some ⟨g, 0, none⟩) n n) n (madeCells (Value.int .i64 0).cells (n * 1)).toList) : RowF w g n (fun _ => 0) := by
  unfold RowF
  have e : (madeCells (Value.int .i64 0).cells (n * 1)).toList = (List.range n).map fun _ => Value.int .i64 0 := by
    rw [Nat.mul_one]
    show (madeCells #[Value.int .i64 0] n).toList = _
    rw [toList_madeCells_one]
    apply List.ext_getElem <;> simp
  rw [← e]
  exact h

theorem grown_drewN' (w : World) (n : Nat) (row : Option Nat) : w.grownBy (w.drewN n) row := ⟨rfl, rfl, rfl, Nat.le_refl _, fun _ _ _ => rfl⟩
/-- the comparison of two numbers of weights -/
theorem cmp_any (x y c g n : Nat) (f : Nat → Int) (w : World) (hx : x < n) (hy : y < n) (hv : w.heap[c]? = some (.cells #[.slice (some ⟨g, 0, none⟩) n n] 112 (0, 0))) (hr : RowF w g n f) :
    Calls Tryz.prog 109 #[.int .i64 x, .int .i64 y, .pointer (some ⟨c, 0, none⟩)] w fun e w' => e = .returned (.int .i64 (Lib.compareInt (f y) (f x))) ∧ ∃ q, w' = w.drewN q := by
  have cv := cell_of_one hv
  have c1 := hr.cell hx
  have c2 := hr.cell hy
  have HC := Lib.hid (fun q => Tryz.cmp_Compare_int (f y) (f x) (w.drewN q))
  generalize f x = u at c1 HC
  generalize f y = v at c2 HC
  clear hv hr
  go_enter Tryz.func109, Tryz.ntmps109
  go_wp2_with fail
  go_quiet ((go_at_call 53; exact Calls.quiet_of_same (HC.out _)))
  go_wp2_with fail
  go_ret
  exact ⟨rfl, _, rfl⟩

/-- the stable sort of the numbers from 0 on, by what stands in a row -/
theorem sortStable_any (w : World) (g c h n : Nat) (f : Nat → Int) (hn0 : 0 < n) (hn : (n : Int) ≤ 1000000) (hv : w.heap[c]? = some (.cells #[.slice (some ⟨h, 0, none⟩) n n] 112 (0, 0))) (hr : RowF w h n f)
    (ho : RowF w g n (fun i => (i : Int))) (hgc : g ≠ c) (hgh : g ≠ h) :
    Calls Tryz.prog 108 #[.slice (some ⟨g, 0, none⟩) n n, .func (.func 109) #[] #[.pointer (some ⟨c, 0, none⟩)]] w fun e w' =>
      e = .returned (.tuple #[]) ∧ ∃ l : List Nat, Shr.IsOrd f n l ∧ RowF w' g n (fun i => (l.getD i 0 : Nat)) ∧ w.grownBy w' (some g) := by
  have hlenM : ((List.range n).map (fun (i : Nat) => (i : Int))).length = n := by simp
  have hS : SW w w g g n n ((List.range n).map (fun (i : Nat) => (i : Int))) := ⟨hlenM, by rw [List.map_map]; exact ho, ⟨rfl, rfl, rfl, Nat.le_refl _, fun _ _ _ => rfl⟩⟩
  have hat : ∀ p, p < n → at' ((List.range n).map (fun (i : Nat) => (i : Int))) p = (p : Int) := fun p hp => by
    rw [Stb.at', List.getD_eq_getElem?_getD, List.getElem?_map, List.getElem?_range hp]
    rfl
  have hmem : ∀ x, x ∈ (List.range n).map (fun (i : Nat) => (i : Int)) → ∃ i : Nat, i < n ∧ x = i := fun x hx => by
    obtain ⟨i, hi, rfl⟩ := List.mem_map.1 hx
    exact ⟨i, List.mem_range.1 hi, rfl⟩
  have hcmp : CmpOk (fun x => f x.toNat) w g g n n c ((List.range n).map (fun (i : Nat) => (i : Int))) := by
    intro w' M hSW x y hx hy
    obtain ⟨i, hi, rfl⟩ := hmem x hx
    obtain ⟨j, hj, rfl⟩ := hmem y hy
    have hc : c < w.heap.size := lt_of_block hv
    have hv' := (hSW.grown.block c hc (by simpa using fun e => hgc e.symm)).trans hv
    have hr' := hr.kept hSW.grown (by simpa using fun e => hgh e.symm)
    exact cmp_any i j c h n f w' hi hj hv' hr'
  have HC := Lib.hid (stable_any (fun x => f x.toNat) w w g g n n c _ hS hat hcmp hn0 hn)
  have HM := Lib.hid hmem
  have HL := Lib.hid hlenM
  clear hS hat hcmp hmem hlenM hv hr ho
  go_enter Tryz.func108, Tryz.ntmps108
  go_wp2_with fail
  refine HC.out.mono ?_
  rintro e w1 ⟨rfl, M, hS, hP, hO⟩
  have HS := Lib.hid hS
  have HF := Lib.hid (show ∃ l : List Nat, Shr.IsOrd f n l ∧ RowF w1 g n (fun i => (l.getD i 0 : Nat)) from by
    have hl : M.length = n := hS.len
    have hnn : ∀ i (hi : i < M.length), ∃ k : Nat, k < n ∧ M[i] = (k : Int) := fun i hi => HM.out _ (hP.mem_iff.1 (List.getElem_mem hi))
    refine ⟨M.map Int.toNat, ⟨?_, ?_⟩, ?_⟩
    · have := hP.map Int.toNat
      rw [List.map_map] at this
      have e : (Int.toNat ∘ fun (i : Nat) => (i : Int)) = id := by funext i; simp
      rw [e, List.map_id] at this
      exact this
    · rw [List.pairwise_map, List.pairwise_iff_getElem]
      intro i j hi hj hij
      have := hO i j (Nat.zero_le _) hij (by omega)
      rw [Stb.at', Stb.at', List.getD_eq_getElem?_getD, List.getD_eq_getElem?_getD, List.getElem?_eq_getElem hi, List.getElem?_eq_getElem hj] at this
      simp only [Option.getD_some] at this
      obtain ⟨u, _, hu⟩ := hnn i hi
      obtain ⟨v, _, hv⟩ := hnn j hj
      rw [hu, hv] at this ⊢
      unfold Stb.Bf at this
      unfold Shr.Bef
      simp only [Int.toNat_natCast] at this ⊢
      omega
    · have hrow := hS.row
      unfold RowF
      have e : M.map (Value.int .i64) = (List.range n).map fun i => Value.int .i64 (((M.map Int.toNat).getD i 0 : Nat) : Int) := by
        apply List.ext_getElem
        · simp [hl]
        · intro i h1 h2
          simp only [List.length_map] at h1
          obtain ⟨u, _, hu⟩ := hnn i h1
          simp only [List.getElem_map, List.getElem_range, List.getD_eq_getElem?_getD, List.getElem?_map, List.getElem?_eq_getElem h1, Option.map_some, Option.getD_some, hu, Int.toNat_natCast]
      rw [← e]
      exact hrow)
  clear hS hP hO
  go_wp2_with fail
  go_end0
  obtain ⟨l, hl1, hl2⟩ := HF.out
  exact ⟨rfl, l, hl1, hl2, HS.out.grown⟩
end Go.Proofs.YthdmceeipmmhjaaGreatDoor

/- Parts of the program: its walk. -/
namespace Go.Proofs.YthdmceeipmmhjaaGreatDoor
open Go.RowKit Go.BigFrame
open Shr (sumF quo rst)

/-- a slice of integers that came in -/
structure Row1 (w : World) (a : Option Addr) (len : Nat) (W : Nat → Int) : Prop where
  here : 0 < len → ∃ b off, a = some ⟨b, off, none⟩ ∧ b < w.heap.size ∧ ∀ i, i < len → w.cell? ⟨b, off + i, none⟩ = some (.int .i64 (W i))
theorem Row1.below {w w' : World} {a : Option Addr} {len B : Nat} {W : Nat → Int} (h : Row1 w a len W) (hb : Below B w w') (hB : w.heap.size ≤ B) : Row1 w' a len W := by
  refine ⟨fun hl => ?_⟩
  obtain ⟨b, off, rfl, hlt, hc⟩ := h.here hl
  exact ⟨b, off, rfl, Nat.lt_of_lt_of_le hlt hb.size, fun i hi => (hb.cell (p := ⟨b, off + i, none⟩) (Nat.lt_of_lt_of_le hlt hB)).trans (hc i hi)⟩
/-- total and weights of moderate size -/
structure Fine (T : Int) (W : Nat → Int) (n : Nat) (S : Int) : Prop where
  t0 : 0 ≤ T
  t1 : T ≤ 4611686018427387904
  n1 : (n : Int) ≤ 1000000
  w0 : ∀ i, i < n → 0 ≤ W i
  tw : ∀ i, i < n → T * W i ≤ 4611686018427387903
  s0 : 0 < S
  s1 : S ≤ 9223372036854775807
  sum : sumF W n = S
theorem sum_mono {W : Nat → Int} {n : Nat} (h : ∀ i, i < n → 0 ≤ W i) : ∀ k, k ≤ n → 0 ≤ sumF W k ∧ ∀ j, j ≤ k → sumF W j ≤ sumF W k
  | 0, _ => ⟨Int.le_refl _, fun j hj => by rw [Nat.le_zero.1 hj]; exact Int.le_refl _⟩
  | k + 1, hk => by
    obtain ⟨h0, h1⟩ := sum_mono h k (by omega)
    have h2 := h k (by omega)
    refine ⟨by show 0 ≤ sumF W k + W k; omega, fun j hj => ?_⟩
    show sumF W j ≤ sumF W k + W k
    by_cases e : j = k + 1
    · subst e; exact Int.le_refl _
    · have := h1 j (by omega); omega
theorem Fine.pos {T : Int} {W : Nat → Int} {n : Nat} {S : Int} (h : Fine T W n S) : 0 < n := by
  rcases Nat.eq_zero_or_pos n with h0 | h0
  · have := h.sum; rw [h0] at this; have := h.s0; unfold sumF at *; omega
  · exact h0
theorem Fine.part {T : Int} {W : Nat → Int} {n : Nat} {S : Int} (h : Fine T W n S) : ∀ k, k ≤ n → 0 ≤ sumF W k ∧ sumF W k ≤ S := fun k hk => by
  obtain ⟨h0, h1⟩ := sum_mono h.w0 n (Nat.le_refl _)
  exact ⟨(sum_mono h.w0 k hk).1, by rw [← h.sum]; exact h1 k hk⟩
theorem Fine.prod {T : Int} {W : Nat → Int} {n : Nat} {S : Int} (h : Fine T W n S) {i : Nat} (hi : i < n) : 0 ≤ T * W i ∧ T * W i ≤ 4611686018427387903 := ⟨Int.mul_nonneg h.t0 (h.w0 i hi), h.tw i hi⟩
theorem Fine.quo_nn {T : Int} {W : Nat → Int} {n : Nat} {S : Int} (h : Fine T W n S) {i : Nat} (hi : i < n) : 0 ≤ quo T S W i := Int.ediv_nonneg (h.prod hi).1 (Int.le_of_lt h.s0)
theorem Fine.left {T : Int} {W : Nat → Int} {n : Nat} {S : Int} (h : Fine T W n S) : ∀ k, k ≤ n → 0 ≤ sumF (quo T S W) k ∧ sumF (quo T S W) k ≤ T := fun k hk => by
  have hq : ∀ i, i < n → 0 ≤ quo T S W i := fun i hi => h.quo_nn hi
  have h2 := (Shr.left_bounds (T := T) h.s0 h.sum).1
  have h3 := (sum_mono hq n (Nat.le_refl _)).2 k hk
  exact ⟨(sum_mono hq k hk).1, by omega⟩
theorem Fine.quo_le {T : Int} {W : Nat → Int} {n : Nat} {S : Int} (h : Fine T W n S) {i : Nat} (hi : i < n) : quo T S W i ≤ T := by
  have h1 := (h.left (i + 1) (by omega)).2
  have h2 := (h.left i (by omega)).1
  have h3 : sumF (quo T S W) (i + 1) = sumF (quo T S W) i + quo T S W i := rfl
  omega
/-- what Parts returns -/
def PartF (T S : Int) (W : Nat → Int) (l : List Nat) (j : Nat) (i : Nat) : Int := quo T S W i + if i ∈ l.take j then 1 else 0
def Parted (T S : Int) (W : Nat → Int) (n : Nat) (w : World) (e : Ending) (w' : World) : Prop :=
  ∃ (l : List Nat) (g : Nat), Shr.IsOrd (rst T S W) n l ∧ e = .returned (.slice (some ⟨g, 0, none⟩) n n) ∧ RowF w' g n (PartF T S W l (T - sumF (quo T S W) n).toNat) ∧ w.heap.size ≤ g ∧ Below w.heap.size w w'

/-- the rows of Parts -/
structure Fill (w wr : World) (g1 g2 c g4 n : Nat) (f1 f2 f4 : Nat → Int) : Prop where
  o1 : RowF wr g1 n f1
  o2 : RowF wr g2 n f2
  o4 : RowF wr g4 n f4
  var : wr.heap[c]? = some (.cells #[.slice (some ⟨g2, 0, none⟩) n n] 112 (0, 0))
  below : Below w.heap.size w wr
theorem Fill.ext {w wr : World} {g1 g2 c g4 n : Nat} {f1 f2 f4 h1 h2 h4 : Nat → Int} (h : Fill w wr g1 g2 c g4 n f1 f2 f4) (e1 : ∀ i, i < n → f1 i = h1 i) (e2 : ∀ i, i < n → f2 i = h2 i) (e4 : ∀ i, i < n → f4 i = h4 i) : Fill w wr g1 g2 c g4 n h1 h2 h4 :=
  ⟨h.o1.ext e1, h.o2.ext e2, h.o4.ext e4, h.var, h.below⟩
theorem Fill.drew {w wr : World} {g1 g2 c g4 n : Nat} {f1 f2 f4 : Nat → Int} (h : Fill w wr g1 g2 c g4 n f1 f2 f4) : Fill w wr.drew g1 g2 c g4 n f1 f2 f4 :=
  ⟨h.o1.kept (grown_drewN' wr 1 none) (by simp), h.o2.kept (grown_drewN' wr 1 none) (by simp), h.o4.kept (grown_drewN' wr 1 none) (by simp), h.var, below_drewN h.below 1⟩
theorem Fill.store {w wr : World} {g1 g2 c g4 n : Nat} {f1 f2 f4 : Nat → Int} (h : Fill w wr g1 g2 c g4 n f1 f2 f4) (h0 : w.heap.size ≤ g1) (h12 : g1 < g2) (h23 : g2 < c) (h34 : c < g4) (j : Nat) (x y z : Int) :
    Fill w (((wr.setCell ⟨g1, j, none⟩ (.int .i64 x)).setCell ⟨g2, j, none⟩ (.int .i64 y)).setCell ⟨g4, j, none⟩ (.int .i64 z)) g1 g2 c g4 n (fun i => if i = j then x else f1 i) (fun i => if i = j then y else f2 i) (fun i => if i = j then z else f4 i) := by
  obtain ⟨a1, b1⟩ := h.o1.stored j x
  obtain ⟨a2, b2⟩ := (h.o2.kept b1 (by simp; omega)).stored j y
  obtain ⟨a3, b3⟩ := ((h.o4.kept b1 (by simp; omega)).kept b2 (by simp; omega)).stored j z
  have hc := lt_of_block h.var
  refine ⟨(a1.kept b2 (by simp; omega)).kept b3 (by simp; omega), a2.kept b3 (by simp; omega), a3, ?_, ?_⟩
  · refine (b3.block c (Nat.lt_of_lt_of_le hc (Nat.le_trans b1.size b2.size)) (by simp; omega)).trans ?_
    refine (b2.block c (Nat.lt_of_lt_of_le hc b1.size) (by simp; omega)).trans ?_
    exact (b1.block c hc (by simp; omega)).trans h.var
  · exact ((h.below.grown b1 h.below.size (by rintro _ ⟨rfl⟩; exact h0)).grown b2 (Nat.le_trans h.below.size b1.size) (by rintro _ ⟨rfl⟩; omega)).grown b3 (Nat.le_trans h.below.size (Nat.le_trans b1.size b2.size)) (by rintro _ ⟨rfl⟩; omega)
set_option maxHeartbeats 4000000 in
set_option maxRecDepth 100000 in
theorem parts_any (T S : Int) (a : Option Addr) (n cap : Nat) (W : Nat → Int) (w : World) (hr : Row1 w a n W) (hf : Fine T W n S) :
    Calls Tryz.prog 92 #[.int .i64 T, .slice a n cap] w (Parted T S W n w) := by
  obtain ⟨i0, hi0, hz0, hz1, hz2⟩ := info_parts (show (Tryz.prog.info? 3).map (fun i => (i.zero, i.size, i.bytes)) = some (some (.int .i64 0), 1, 8) by kernel_rfl)
  have HR := Lib.hid hr
  have HF := Lib.hid hf
  have hn0 := hf.pos
  have hn1 := hf.n1
  have hs0 := hf.s0
  have hs1 := hf.s1
  have ht0 := hf.t0
  have ht1 := hf.t1
  obtain ⟨b, off, rfl, hbl, hcW⟩ := hr.here hn0
  have HCW := Lib.hid hcW
  have hmf : ∀ fn first cap w, (Instr.makeFunc fn first cap).run Tryz.prog w = .ok (.func fn first cap) w := fun _ _ _ _ => rfl
  clear hr hf hcW
  go_enter Tryz.func92, Tryz.ntmps92
  go_wp2_with fail
  go_loop [5, 18] (fun sv iv => ∃ (k : Nat), sv = .int .i64 (sumF W k) ∧ iv = .int .i64 k ∧ k ≤ n) (fun _ iv => n - (intOf iv).toNat)
  case atStart => exact ⟨0, rfl, rfl, by omega⟩
  case round =>
    obtain ⟨k, rfl, rfl, hk⟩ := hrel
    by_cases hlt : k < n
    · have t1 : decide ((k : Int) < (n : Int)) = true := by rw [decide_eq_true_eq]; omega
      have c1 := HCW.out k hlt
      have hp := HF.out.part (k + 1) (by omega)
      have hp2 := HF.out.part k (by omega)
      have hsucc : sumF W (k + 1) = sumF W k + W k := rfl
      rw [hsucc] at hp
      have HS := Lib.hid hsucc
      have hw0 := HF.out.w0 k hlt
      clear hsucc
      generalize W k = x at c1 hp hw0 HS
      go_wp2_with fail
      go_round
      case rel => exact ⟨k + 1, congrArg (Value.int .i64) HS.out.symm, by go_num, by omega⟩
      case measure => simp [intOf]; omega
    · have t1 : decide ((k : Int) < (n : Int)) = false := by rw [decide_eq_false_iff_not]; omega
      have t1' : decide (k < n) = false := by simpa using hlt
      obtain rfl : k = n := by omega
      have hsm : sumF W k = S := HF.out.sum
      rw [hsm]
      have hby : 8 * k ≤ 281474976710656 := by omega
      have hml : k ≤ maxLen := by unfold maxLen; omega
      clear hsm hlt hk
      go_wp2_with (first
        | (at_make; refine wpList_make_full _ rfl (.tmp 27) (.tmp 27) 112 rfl _ 3 i0 (.int .i64 0) 1 Tryz.underlying112 hi0 hz0 hz1 .i64 .i64 k k k rfl rfl rfl rfl (by rw [hz2]; exact hby) hml (Nat.le_refl _) ?_; intro wa hoa hga; have HOa := Lib.hid hoa; have HGa := Lib.hid hga; clear hoa hga)
        | (at_make; refine wpList_make_full _ rfl (.tmp 30) (.tmp 30) 112 rfl _ 3 i0 (.int .i64 0) 1 Tryz.underlying112 hi0 hz0 hz1 .i64 .i64 k k k rfl rfl rfl rfl (by rw [hz2]; exact hby) hml (Nat.le_refl _) ?_; intro wb hob hgb; have HOb := Lib.hid hob; have HGb := Lib.hid hgb; clear hob hgb)
        | (at_make; refine wpList_make_full _ rfl (.tmp 33) (.tmp 33) 112 rfl _ 3 i0 (.int .i64 0) 1 Tryz.underlying112 hi0 hz0 hz1 .i64 .i64 k k k rfl rfl rfl rfl (by rw [hz2]; exact hby) hml (Nat.le_refl _) ?_; intro wc hoc hgc; have HOc := Lib.hid hoc; have HGc := Lib.hid hgc; clear hoc hgc)
        | fail)
      have z1 : w.heap.size < wa.heap.size := (RowF.of_make HOa.out).lt
      have z2 : wa.heap.size < wb.heap.size := (RowF.of_make HOb.out).lt
      have FILL := Lib.hid (show Fill w wc w.heap.size wa.heap.size wb.heap.size (wb.heap.size + 1) k (fun _ => 0) (fun _ => 0) (fun _ => 0) from by
        have hA := World.grownBy_alloc wb (.cells #[.slice (some ⟨wa.heap.size, 0, none⟩) k k] 112) none
        have o4 := RowF.of_make HOc.out
        rw [World.size_alloc] at o4
        refine ⟨(((RowF.of_make HOa.out).kept HGb.out (by simp)).kept hA (by simp)).kept HGc.out (by simp), ((RowF.of_make HOb.out).kept hA (by simp)).kept HGc.out (by simp), o4, ?_, ?_⟩
        · exact (HGc.out.block wb.heap.size (by simp) (by simp)).trans (heap_alloc_new wb _)
        · have b1 : Below w.heap.size w wa := (Below.refl _ _).grown HGa.out (Nat.le_refl _) (fun _ h => by cases h)
          have b2 := b1.grown HGb.out b1.size (fun _ h => by cases h)
          have b3 := b2.grown hA b2.size (fun _ h => by cases h)
          exact b3.grown HGc.out b3.size (fun _ h => by cases h))
      clear HOa HOb HOc HGa HGb HGc
      obtain ⟨g1, e1⟩ : ∃ g1, w.heap.size = g1 := ⟨_, rfl⟩
      rw [e1] at FILL z1 ⊢
      have E1 := Lib.hid e1
      obtain ⟨g2, e2⟩ : ∃ g2, wa.heap.size = g2 := ⟨_, rfl⟩
      rw [e2] at FILL z1 z2 ⊢
      obtain ⟨c, e3⟩ : ∃ c, wb.heap.size = c := ⟨_, rfl⟩
      rw [e3] at FILL z2 ⊢
      obtain ⟨g4, e4⟩ : ∃ g4, c + 1 = g4 := ⟨_, rfl⟩
      rw [e4] at FILL ⊢
      have z3 : c < g4 := by omega
      clear e1 e2 e3 e4
      go_loopw [11, 38] (fun lv iv wr => ∃ (j : Nat), lv = .int .i64 (T - sumF (quo T S W) j) ∧ iv = .int .i64 j ∧ j ≤ k ∧ Hid (Fill w wr g1 g2 c g4 k (fun i => if i < j then quo T S W i else 0) (fun i => if i < j then rst T S W i else 0) (fun i => if i < j then (i : Int) else 0))) (fun _ iv _ => k - (intOf iv).toNat)
      case atStart => exact ⟨0, congrArg (Value.int .i64) (by show T = T - 0; omega), rfl, by omega, Lib.hid (FILL.out.ext (fun i _ => by simp) (fun i _ => by simp) (fun i _ => by simp))⟩
      case round =>
        obtain ⟨j, rfl, rfl, hj, HFL⟩ := hrel
        by_cases hlt : j < k
        · have t1 : decide ((j : Int) < (k : Int)) = true := by rw [decide_eq_true_eq]; omega
          have c1 := (HFL.out.below.cell (p := ⟨b, off + j, none⟩) hbl).trans (HCW.out j hlt)
          obtain ⟨u1, c2⟩ : ∃ u, wr.cell? ⟨g1, j, none⟩ = some u := ⟨_, HFL.out.o1.cell hlt⟩
          obtain ⟨u2, c3⟩ : ∃ u, wr.cell? ⟨g2, j, none⟩ = some u := ⟨_, HFL.out.o2.cell hlt⟩
          obtain ⟨u4, c4⟩ : ∃ u, wr.cell? ⟨g4, j, none⟩ = some u := ⟨_, HFL.out.o4.cell hlt⟩
          have f1 := HFL.out.o1.frozen j
          have f2 := HFL.out.o2.frozen j
          have f4 := HFL.out.o4.frozen j
          have cv := cell_of_one HFL.out.var
          obtain ⟨p0, p1⟩ := HF.out.prod hlt
          have q0 := HF.out.quo_nn hlt
          have l1 := HF.out.left (j + 1) (by omega)
          have l2 := HF.out.left j (by omega)
          have hsucc : sumF (quo T S W) (j + 1) = sumF (quo T S W) j + quo T S W j := rfl
          rw [hsucc] at l1
          have HSU := Lib.hid hsucc
          have HQ := Lib.hid (show T * W j / S = quo T S W j from rfl)
          have HRS := Lib.hid (show T * W j % S = rst T S W j from rfl)
          generalize W j = x at c1 p0 p1 HQ HRS
          generalize sumF (quo T S W) j = sq at l1 l2 HSU ⊢
          have n12 : g1 ≠ g2 := by omega
          have n14 : g1 ≠ g4 := by omega
          have n24 : g2 ≠ g4 := by omega
          have n1c : g1 ≠ c := by omega
          have n2c : g2 ≠ c := by omega
          clear hsucc
          go_wp2_with fail
          go_region
          go_wp2_with fail
          rw [HQ.out, HRS.out]
          have v5 : wrap64 (T - sq - quo T S W j) = T - sq - quo T S W j := IntWalk.wrap64_in _ ⟨by omega, by omega⟩
          rw [v5]
          go_roundw
          case rel => exact ⟨j + 1, congrArg (Value.int .i64) (by rw [HSU.out]; omega), by go_num, by omega, Lib.hid ((HFL.out.store (by rw [E1.out]; exact Nat.le_refl _) z1 z2 z3 j _ _ _).drew.ext
            (fun i _ => by by_cases e : i = j; (subst e; simp); (rw [if_neg e]; by_cases e2 : i < j; (rw [if_pos e2, if_pos (by omega)]); (rw [if_neg e2, if_neg (by omega)])))
            (fun i _ => by by_cases e : i = j; (subst e; simp); (rw [if_neg e]; by_cases e2 : i < j; (rw [if_pos e2, if_pos (by omega)]); (rw [if_neg e2, if_neg (by omega)])))
            (fun i _ => by by_cases e : i = j; (subst e; simp); (rw [if_neg e]; by_cases e2 : i < j; (rw [if_pos e2, if_pos (by omega)]); (rw [if_neg e2, if_neg (by omega)]))))⟩
          case measure => simp [intOf]; omega
        · have t1 : decide ((j : Int) < (k : Int)) = false := by rw [decide_eq_false_iff_not]; omega
          have t1' : decide (j < k) = false := by simpa using hlt
          obtain rfl : j = k := by omega
          have FL := Lib.hid (show Fill w wr g1 g2 c g4 j (quo T S W) (rst T S W) (fun i => (i : Int)) from HFL.out.ext (fun i hi => by simp [hi]) (fun i hi => by simp [hi]) (fun i hi => by simp [hi]))
          obtain ⟨b0, b1⟩ := Shr.left_bounds (T := T) (W := W) hs0 HF.out.sum
          obtain ⟨l, hl⟩ : ∃ l : Nat, T - sumF (quo T S W) j = l := ⟨(T - sumF (quo T S W) j).toNat, by omega⟩
          rw [hl] at b1 ⊢
          have HL := Lib.hid hl
          have hlj : l ≤ j := by omega
          clear hlt hj hl b0 b1
          go_wp2_with fail
          refine (sortStable_any wr g4 c g2 j (rst T S W) hn0 hn1 FL.out.var FL.out.o2 FL.out.o4 (by omega) (by omega)).mono ?_
          rintro e w1 ⟨rfl, ol, hord, hrow, hgr⟩
          have HORD := Lib.hid hord
          have R4 := Lib.hid hrow
          have R1 := Lib.hid (FL.out.o1.kept hgr (by simp; omega))
          have B1 := Lib.hid (FL.out.below.grown hgr FL.out.below.size (by rintro _ ⟨rfl⟩; have := E1.out; omega))
          clear hord hrow hgr
          go_wp2_with fail
          obtain ⟨wo, rfl⟩ : ∃ wo : World, wo = wr := ⟨_, rfl⟩
          go_loopw [77] (fun mv w2 => ∃ (m : Nat), mv = .int .i64 m ∧ m ≤ l ∧ Hid (RowF w2 g1 j (PartF T S W ol m)) ∧ Hid (RowF w2 g4 j (fun i => (ol.getD i 0 : Nat))) ∧ Hid (Below w.heap.size w w2)) (fun mv _ => l - (intOf mv).toNat)
          case atStart => exact ⟨0, rfl, by omega, Lib.hid (R1.out.ext (fun i _ => by simp [PartF])), R4, B1⟩
          case round =>
            obtain ⟨m, rfl, hm, P1, P4, PB⟩ := hrel
            by_cases hlt : m < l
            · have t2 : decide ((m : Int) < (l : Int)) = true := by rw [decide_eq_true_eq]; omega
              have c1 := P4.out.cell (show m < j by omega)
              have hml : m < ol.length := by rw [HORD.out.length]; omega
              have hxl : ol.getD m 0 = ol[m] := by rw [List.getD_eq_getElem?_getD, List.getElem?_eq_getElem hml]; rfl
              have hxj : ol.getD m 0 < j := by rw [hxl]; exact HORD.out.mem.1 (List.getElem_mem _)
              have hxt : ol.getD m 0 ∉ ol.take m := by
                rw [hxl]
                intro hin
                obtain ⟨q, hq, he⟩ := List.getElem_of_mem hin
                rw [List.length_take] at hq
                rw [List.getElem_take] at he
                have := List.nodup_iff_pairwise_ne.1 HORD.out.nodup
                rw [List.pairwise_iff_getElem] at this
                exact this q m (by omega) hml (by omega) he
              have HTK := Lib.hid (show ol.take (m + 1) = ol.take m ++ [ol.getD m 0] by rw [List.take_succ_eq_append_getElem hml, hxl])
              have HXT := Lib.hid hxt
              clear hxl hxt
              generalize ol.getD m 0 = x at c1 hxj HTK HXT
              have c2 := P1.out.cell hxj
              have f2 := P1.out.frozen x
              have hy : PartF T S W ol m x = quo T S W x := by unfold PartF; rw [if_neg HXT.out]; omega
              have hy1 := HF.out.quo_le hxj
              have hy2 := HF.out.quo_nn hxj
              rw [hy] at c2
              have HY := Lib.hid hy
              clear hy
              obtain ⟨y, hy⟩ : ∃ y, quo T S W x = y := ⟨_, rfl⟩
              rw [hy] at c2 hy1 hy2 HY
              have HQY := Lib.hid hy
              clear hy
              have n14 : g1 ≠ g4 := by omega
              go_wp2_with fail
              go_roundw
              case rel =>
                have hst := P1.out.stored x (y + 1)
                exact ⟨m + 1, by go_num, by omega, Lib.hid (hst.1.ext (fun i _ => by
                  unfold PartF
                  have hk := HTK.out
                  by_cases e : i = x
                  · subst e; rw [if_pos rfl, if_pos (by rw [hk]; simp), HQY.out]
                  · rw [if_neg e]
                    by_cases e2 : i ∈ ol.take m
                    · rw [if_pos e2, if_pos (by rw [hk]; exact List.mem_append_left _ e2)]
                    · rw [if_neg e2, if_neg (by rw [hk, List.mem_append, List.mem_singleton]; rintro (h | h); exact e2 h; exact e h)])), Lib.hid (P4.out.kept hst.2 (by simp; omega)), Lib.hid (PB.out.grown hst.2 PB.out.size (by rintro _ ⟨rfl⟩; have := E1.out; omega))⟩
              case measure => simp [intOf]; omega
            · have t2 : decide ((m : Int) < (l : Int)) = false := by rw [decide_eq_false_iff_not]; omega
              have t2' : decide (m < l) = false := by simpa using hlt
              obtain rfl : m = l := by omega
              clear hlt hm
              go_wp2_with fail
              go_ret
              exact ⟨ol, g1, HORD.out, rfl, by rw [HL.out, Int.toNat_natCast]; exact P1.out, by rw [E1.out]; exact Nat.le_refl _, PB.out⟩
end Go.Proofs.YthdmceeipmmhjaaGreatDoor

/- Scale of the program returns 'Sc.sc'. -/
namespace Go.Proofs.YthdmceeipmmhjaaGreatDoor
open Go.RowKit Go.BigFrame

def scRet (p : Int × Int) : Ending := .returned (.tuple #[.int .i64 p.1, .int .i64 p.2])
theorem how_new (w : World) (how : Int) (o : Obj) : ((w.alloc (.cells #[.int .i64 how] 3)).alloc o).cell? ⟨w.heap.size, 0, none⟩ = some (.int .i64 how) := by
  rw [World.cell?_alloc_past _ _ _ (by simp), World.cell?_alloc_at _ _ _ _ rfl]; rfl
theorem below_two (w : World) (o o' : Obj) : Below w.heap.size w ((w.alloc o).alloc o') := ((Below.refl _ _).alloc (Nat.le_refl _) o).alloc (by simp) o'

/-- the number without its sign, as the program makes it -/
theorem neg_wrap {a : Int} (h : a < 0) (h1 : -9223372036854775808 ≤ a) : IntKind.u64.wrap (-IntKind.u64.wrap a) = (a.natAbs : Int) := by
  simp only [IntKind.wrap_u64]; omega

theorem fin_ok {a num den how v : Int} {S : Bool} {q r d Q : Nat}
    (h : Sc.sc a num den how = if 4611686018427387904 < Sc.quo how S q r d then (0, 9) else (Sc.sgn S (Sc.quo how S q r d), 0))
    (hQ : Sc.quo how S q r d = Q) (hl : (Q : Int) ≤ 4611686018427387904) (hv : v = Sc.sgn S Q) :
    Ending.returned (.tuple #[.int .i64 v, .int .i64 0]) = scRet (Sc.sc a num den how) := by
  rw [h, hQ, if_neg (by omega), hv]; rfl
theorem fin_big {a num den how : Int} {S : Bool} {q r d Q : Nat}
    (h : Sc.sc a num den how = if 4611686018427387904 < Sc.quo how S q r d then (0, 9) else (Sc.sgn S (Sc.quo how S q r d), 0))
    (hQ : Sc.quo how S q r d = Q) (hl : 4611686018427387904 < (Q : Int)) :
    Ending.returned (.tuple #[.int .i64 0, .int .i64 9]) = scRet (Sc.sc a num den how) := by
  rw [h, hQ, if_pos (by omega)]; rfl
theorem quo_rest0 (how : Int) (S : Bool) (q d : Nat) : Sc.quo how S q 0 d = q := by simp [Sc.quo]
theorem quo_stay {how : Int} {S : Bool} {q r d : Nat} (h : Sc.away how S q r d = false) : Sc.quo how S q r d = q := by simp [Sc.quo, h]
theorem quo_up {how : Int} {S : Bool} {q r d : Nat} (h0 : 0 < r) (h : Sc.away how S q r d = true) : Sc.quo how S q r d = q + 1 := by simp [Sc.quo, h, h0]

end Go.Proofs.YthdmceeipmmhjaaGreatDoor

/- Scale and Div of the program and of the reference: all return 'Sc.sc'. -/
namespace Go.Proofs.YthdmceeipmmhjaaGreatDoor
open Go.RowKit Go.BigFrame

theorem word_split (n : Nat) : n / 18446744073709551616 * 18446744073709551616 + n % 18446744073709551616 = n := by omega

end Go.Proofs.YthdmceeipmmhjaaGreatDoor

/- Scale and Div of the reference return 'Sc.sc'. -/
namespace Go.Proofs.YthdmceeipmmhjaaGreatDoor
open Go.RowKit Go.BigFrame

theorem moreF_away {how : Int} (h1 : 1 ≤ how) (h5 : how ≤ 5) (b : Bool) (q r d : Nat) : moreF q r d b how = decide (0 < r ∧ Sc.away how b q r d = true) := by
  have e3 : ((q : Int) % 2 = 1) ↔ q % 2 = 1 := by omega
  have e5 : ((q : Int) % 2 == 1) = decide (q % 2 = 1) := by rw [Bool.eq_iff_iff, beq_iff_eq, decide_eq_true_eq]; exact e3
  unfold moreF
  by_cases h0 : r = 0
  · subst h0; simp
  rw [if_neg (by omega)]
  have hr : 0 < r := by omega
  unfold Sc.away
  by_cases a1 : how = 1
  · subst a1; cases b <;> simp [hr]
  by_cases a2 : how = 2
  · subst a2; cases b <;> simp [hr]
  by_cases a3 : how = 3
  · subst a3; simp
  simp only [a1, a2, a3, if_false]
  by_cases h6 : (r : Int) = d - r
  · rw [if_neg (by omega)]
    have h7 : 2 * r = d := by omega
    simp only [h7, hr, true_and, decide_true, Bool.true_and, e5]
    by_cases a4 : how = 4
    · subst a4; cases b <;> simp
    · simp [a4]
  · rw [if_pos h6]
    have h7 : ¬ 2 * r = d := by omega
    simp only [h7, hr, true_and, decide_false, Bool.false_and, Bool.or_false]
    have h8 : ((d : Int) - r < r) ↔ d < 2 * r := by omega
    by_cases a4 : how = 4
    · subst a4; simp [h8]
    · simp [a4, h8]

end Go.Proofs.YthdmceeipmmhjaaGreatDoor

/- Parts of the reference: the rest of a product. -/
namespace Go.Proofs.YthdmceeipmmhjaaGreatDoor
open Go.RowKit Go.BigFrame

end Go.Proofs.YthdmceeipmmhjaaGreatDoor

/- Parts of the reference: its walk. -/
namespace Go.Proofs.YthdmceeipmmhjaaGreatDoor
open Go.RowKit Go.BigFrame
open Shr (sumF quo rst)

/-- what is yet to be merged into an order -/
theorem ord_exists (R : Nat → Int) (n : Nat) : ∃ l, Shr.IsOrd R n l := by
  refine ⟨(List.range n).mergeSort fun i k => decide (R k < R i ∨ R k = R i ∧ i ≤ k), List.mergeSort_perm _ _, ?_⟩
  have h1 := List.pairwise_mergeSort (le := fun i k => decide (R k < R i ∨ R k = R i ∧ i ≤ k)) (by intro a b c; simp only [decide_eq_true_eq]; omega) (by intro a b; simp only [Bool.or_eq_true, decide_eq_true_eq]; omega) (List.range n)
  have h2 : ((List.range n).mergeSort fun i k => decide (R k < R i ∨ R k = R i ∧ i ≤ k)).Nodup := (List.mergeSort_perm _ _).nodup_iff.2 List.nodup_range
  exact (h1.and h2).imp (by intro a b h; simp only [decide_eq_true_eq] at h; unfold Shr.Bef; omega)
theorem sc_down {T x S : Int} (hT : 0 ≤ T) (hx : 0 ≤ x) (hS : 0 < S) (h : T * x ≤ 4611686018427387903) : Sc.sc T x S 1 = (T * x / S, 0) := by
  obtain ⟨A, rfl⟩ := Int.eq_ofNat_of_zero_le hT
  obtain ⟨B, rfl⟩ := Int.eq_ofNat_of_zero_le hx
  obtain ⟨D, rfl⟩ := Int.eq_ofNat_of_zero_le (Int.le_of_lt hS)
  have hAB : ((A * B : Nat) : Int) ≤ 4611686018427387903 := by rw [Int.natCast_mul]; exact h
  rw [Sc.sc_small _ _ _ _ (by decide) (by decide) (by omega) (by omega) (by simp only [Int.natAbs_natCast, Int.toNat_natCast]; omega)]
  have e : decide ((A : Int) < 0) = false := by simp
  rw [e]
  unfold Sc.quo Sc.away Sc.sgn
  simp
/-- a row of the call's own, of n bools -/
def RowB (w : World) (g n : Nat) (f : Nat → Bool) : Prop := w.ownsRow g 4 1 (.slice (some ⟨g, 0, none⟩) n n) n ((List.range n).map fun i => .bool (f i))
theorem RowB.cell {w : World} {g n : Nat} {f : Nat → Bool} (h : RowB w g n f) {j : Nat} (hj : j < n) : w.cell? ⟨g, j, none⟩ = some (.bool (f j)) := by
  rw [World.ownsRow.cellAt h j (by omega), List.getElem?_map, List.getElem?_range hj]
  rfl
theorem RowB.frozen {w : World} {g n : Nat} {f : Nat → Bool} (h : RowB w g n f) (j : Nat) : w.frozen? ⟨g, j, none⟩ = false := World.ownsRow.frozenAt h j
theorem RowB.lt {w : World} {g n : Nat} {f : Nat → Bool} (h : RowB w g n f) : g < w.heap.size := (World.ownsRow.lt h g rfl).2
theorem RowB.kept {w w' : World} {g n : Nat} {f : Nat → Bool} {row : Option Nat} (h : RowB w g n f) (hg : w.grownBy w' row) (hne : some g ≠ row) : RowB w' g n f := World.ownsRow.kept h hg (Or.inr hne)
theorem RowB.ext {w : World} {g n : Nat} {f f' : Nat → Bool} (h : RowB w g n f) (he : ∀ i, i < n → f i = f' i) : RowB w g n f' := by
  unfold RowB at h ⊢
  rwa [List.map_congr_left (fun i hi => by rw [he i (List.mem_range.1 hi)])] at h
theorem RowB.stored {w : World} {g n : Nat} {f : Nat → Bool} (h : RowB w g n f) (k : Nat) (x : Bool) :
    RowB (w.setCell ⟨g, k, none⟩ (.bool x)) g n (fun i => if i = k then x else f i) ∧ w.grownBy (w.setCell ⟨g, k, none⟩ (.bool x)) (some g) := by
  obtain ⟨h1, h2⟩ := World.ownsRow.stored h k (.bool x)
  refine ⟨?_, h2⟩
  unfold RowB
  have e : ((List.range n).map fun i => Value.bool (f i)).set k (.bool x) = (List.range n).map fun i => Value.bool (if i = k then x else f i) := by
    apply List.ext_getElem
    · simp
    · intro i h3 h4
      simp only [List.getElem_set, List.getElem_map, List.getElem_range]
      by_cases e1 : k = i
      · subst e1; simp
      · rw [if_neg e1, if_neg (fun h => e1 h.symm)]
  rw [← e]
  exact h1
theorem RowB.of_make {w : World} {g n : Nat} (h : w.ownsRow g 4 1 (.slice (some ⟨g, 0, none⟩) n n) n (madeCells (Value.bool false).cells (n * 1)).toList) : RowB w g n (fun _ => false) := by
  unfold RowB
  have e : (madeCells (Value.bool false).cells (n * 1)).toList = (List.range n).map fun _ => Value.bool false := by
    rw [Nat.mul_one]
    show (madeCells #[Value.bool false] n).toList = _
    rw [toList_madeCells_one]
    apply List.ext_getElem <;> simp
  rw [← e]
  exact h
/-- of those looked at and not taken the first in the order -/
def Best (R : Nat → Int) (tk : List Nat) (m : Nat) (q : Int) : Prop :=
  (q = -1 ∧ ∀ j, j < m → j ∈ tk) ∨ ∃ b : Nat, q = b ∧ b < m ∧ b ∉ tk ∧ ∀ j, j < m → j ∉ tk → j ≠ b → Shr.Bef R b j
theorem Best.skip {R : Nat → Int} {tk : List Nat} {m : Nat} {q : Int} (h : Best R tk m q) (hm : m ∈ tk) : Best R tk (m + 1) q := by
  rcases h with ⟨h1, h2⟩ | ⟨b, h1, h2, h3, h4⟩
  · exact Or.inl ⟨h1, fun j hj => by by_cases e : j = m; (subst e; exact hm); exact h2 j (by omega)⟩
  · exact Or.inr ⟨b, h1, by omega, h3, fun j hj hn he => by
      by_cases e : j = m
      · subst e; exact absurd hm hn
      · exact h4 j (by omega) hn he⟩
theorem Best.first {R : Nat → Int} {tk : List Nat} {m : Nat} {q : Int} (h : Best R tk m q) (hq : q < 0) (hm : m ∉ tk) : Best R tk (m + 1) (m : Int) := by
  rcases h with ⟨h1, h2⟩ | ⟨b, h1, _⟩
  · exact Or.inr ⟨m, rfl, by omega, hm, fun j hj hn he => absurd (h2 j (by omega)) hn⟩
  · omega
theorem Best.better {R : Nat → Int} {tk : List Nat} {m b : Nat} (h : Best R tk m (b : Int)) (hm : m ∉ tk) (hl : R b < R m) : Best R tk (m + 1) (m : Int) := by
  rcases h with ⟨h1, h2⟩ | ⟨b', h1, h2, h3, h4⟩
  · omega
  · obtain rfl : b = b' := by omega
    refine Or.inr ⟨m, rfl, by omega, hm, fun j hj hn he => ?_⟩
    by_cases e : j = b
    · subst e; exact Or.inl hl
    · exact Shr.bef_trans (Or.inl hl) (h4 j (by omega) hn e)
theorem Best.keep {R : Nat → Int} {tk : List Nat} {m b : Nat} (h : Best R tk m (b : Int)) (hl : ¬ R b < R m) : Best R tk (m + 1) (b : Int) := by
  rcases h with ⟨h1, h2⟩ | ⟨b', h1, h2, h3, h4⟩
  · omega
  · obtain rfl : b = b' := by omega
    refine Or.inr ⟨b, rfl, by omega, h3, fun j hj hn he => ?_⟩
    by_cases e : j = m
    · subst e; unfold Shr.Bef; omega
    · exact h4 j (by omega) hn he
theorem not_in_take {R : Nat → Int} {n t : Nat} {l : List Nat} (h : Shr.IsOrd R n l) (ht : t < l.length) : l[t] ∉ l.take t := by
  intro hin
  obtain ⟨q, hq, he⟩ := List.getElem_of_mem hin
  rw [List.length_take] at hq
  rw [List.getElem_take] at he
  have := List.nodup_iff_pairwise_ne.1 h.nodup
  rw [List.pairwise_iff_getElem] at this
  exact this q t (by omega) ht (by omega) he
theorem Best.done {R : Nat → Int} {n t : Nat} {l : List Nat} {q : Int} (h : Shr.IsOrd R n l) (ht : t < n) (hb : Best R (l.take t) n q) :
    ∃ b : Nat, q = b ∧ b < n ∧ b ∉ l.take t ∧ l.take (t + 1) = l.take t ++ [b] := by
  rcases hb with ⟨_, h2⟩ | ⟨b, h1, h2, h3, h4⟩
  · have hl : t < l.length := by rw [h.length]; exact ht
    exact absurd (h2 _ (h.mem.1 (List.getElem_mem hl))) (not_in_take h hl)
  · exact ⟨b, h1, h2, h3, Shr.pick h ht h2 h3 h4⟩
theorem below_grown {w w' : World} (hb : Below w.heap.size w w') : w.grownBy w' none := ⟨hb.os, hb.tape, hb.output, hb.size, fun k hk _ => hb.block k hk⟩

end Go.Proofs.YthdmceeipmmhjaaGreatDoor

/- Gear: the ways of the pieces, in plain numbers. -/
namespace Go.Proofs.YthdmceeipmmhjaaGreatDoor
open Go.RowKit
open Shr (sumF quo rst)

/-- the order of the rests -/
def ordL (R : Nat → Int) (n : Nat) : List Nat := (List.range n).mergeSort fun i k => decide (R k < R i ∨ R k = R i ∧ i ≤ k)
theorem ordL_ord (R : Nat → Int) (n : Nat) : Shr.IsOrd R n (ordL R n) := by
  refine ⟨List.mergeSort_perm _ _, ?_⟩
  have h1 := List.pairwise_mergeSort (le := fun i k => decide (R k < R i ∨ R k = R i ∧ i ≤ k)) (by intro a b c; simp only [decide_eq_true_eq]; omega) (by intro a b; simp only [Bool.or_eq_true, decide_eq_true_eq]; omega) (List.range n)
  have h2 : (ordL R n).Nodup := (List.mergeSort_perm _ _).nodup_iff.2 List.nodup_range
  exact (h1.and h2).imp (by intro a b h; simp only [decide_eq_true_eq] at h; unfold Shr.Bef; omega)
/-- the i-th part of T by the weights W -/
def wayG (T S : Int) (W : Nat → Int) (n i : Nat) : Int := PartF T S W (ordL (rst T S W) n) (T - sumF (quo T S W) n).toNat i
theorem wayG_of {T S : Int} {W : Nat → Int} {n : Nat} {l : List Nat} (h : Shr.IsOrd (rst T S W) n l) (i : Nat) : PartF T S W l (T - sumF (quo T S W) n).toNat i = wayG T S W n i := by
  rw [h.unique (ordL_ord _ _)]
  rfl
def pget (l : List Pcs.Pc) (i : Nat) : Pcs.Pc := l.getD i (⟨#[]⟩, 0)
def secW (l : List Pcs.Pc) (i : Nat) : Int := (pget l i).2
theorem sum_take (l : List Pcs.Pc) : ∀ k, k ≤ l.length → sumF (secW l) k = Pcs.secs (l.take k)
  | 0, _ => by simp [sumF, Pcs.secs]
  | k + 1, hk => by
    rw [sumF, sum_take l k (by omega), List.take_succ_eq_append_getElem (by omega)]
    unfold Pcs.secs secW pget
    rw [List.map_append, List.sum_append]
    simp [List.getD, List.getElem?_eq_getElem (show k < l.length by omega)]
theorem secs_le {l : List Pcs.Pc} (h : ∀ q, q ∈ l → 0 < q.2) {q : Pcs.Pc} (hq : q ∈ l) : q.2 ≤ Pcs.secs l := by
  induction l with
  | nil => simp at hq
  | cons a l ih =>
    have h0 := h a (by simp)
    have h1 : (l.length : Int) ≤ Pcs.secs l := Pcs.secs_ge l fun x hx => h x (by simp [hx])
    unfold Pcs.secs at *
    rw [List.map_cons, List.sum_cons]
    rcases List.mem_cons.1 hq with rfl | hq
    · omega
    · have := ih (fun x hx => h x (by simp [hx])) hq
      omega
theorem pget_mem {l : List Pcs.Pc} {i : Nat} (hi : i < l.length) : pget l i ∈ l := by
  unfold pget
  rw [List.getD, List.getElem?_eq_getElem hi]
  exact List.getElem_mem hi
/-- the pieces of a right use in a right slot -/
structure Good (l : List Pcs.Pc) (us : Int) : Prop where
  pos : ∀ q, q ∈ l → 0 < q.2
  sum : Pcs.secs l = us
theorem good_pieces {uf us : Int} {ms : List Pcs.Mnt} (h : Pcs.Ord ms) (h2 : 1 ≤ us) : Good (Pcs.pieces uf (uf + us) ms) us := by
  have h3 := Pcs.rp_fill (last := uf + us) (ms := ms) us.toNat uf (by omega) (by omega)
  rw [Pcs.pieces_eq h (n := us.toNat) (by omega)] at h3
  exact ⟨h3.2, by rw [h3.1]; omega⟩
theorem Good.len {l : List Pcs.Pc} {us : Int} (h : Good l us) : (l.length : Int) ≤ us := by
  rw [← h.sum]
  exact Pcs.secs_ge l h.pos
theorem Good.ne {l : List Pcs.Pc} {us : Int} (h : Good l us) (h2 : 1 ≤ us) : 0 < l.length := by
  cases l with
  | nil => have := h.sum; simp [Pcs.secs] at this; omega
  | cons a l => simp
theorem Good.fine {l : List Pcs.Pc} {us uw : Int} (h : Good l us) (h2 : 1 ≤ us) (h3 : us ≤ 1000000) (h4 : 0 ≤ uw) (h5 : uw ≤ 1000000000) : Fine uw (secW l) l.length us := by
  have hw : ∀ i, i < l.length → 0 ≤ secW l i ∧ secW l i ≤ 1000000 := fun i hi => by
    have h6 := h.pos _ (pget_mem hi)
    have h7 := secs_le h.pos (pget_mem hi)
    have h8 := h.sum
    unfold secW
    omega
  refine ⟨h4, by omega, by have := h.len; omega, fun i hi => (hw i hi).1, fun i hi => ?_, by omega, by omega, ?_⟩
  · have h9 : uw * secW l i ≤ 1000000000 * 1000000 := Int.mul_le_mul h5 (hw i hi).2 (hw i hi).1 (by omega)
    omega
  · rw [sum_take l _ (Nat.le_refl _), List.take_length, h.sum]
/-- rows of rows of five -/
theorem flat5 {f : Pcs.Pc → List Value} (hf : ∀ q, (f q).length = 5) : ∀ (l : List Pcs.Pc) (k j : Nat), k < l.length → j < 5 → (l.flatMap f)[k * 5 + j]? = (f (pget l k))[j]?
  | [], k, j, h, _ => by simp at h
  | q :: l, 0, j, _, hj => by
    rw [List.flatMap_cons, Nat.zero_mul, Nat.zero_add, List.getElem?_append_left (by rw [hf]; exact hj)]
    rfl
  | q :: l, k + 1, j, h, hj => by
    rw [List.flatMap_cons, List.getElem?_append_right (by rw [hf]; omega), hf, show (k + 1) * 5 + j - 5 = k * 5 + j by omega]
    exact flat5 hf l k j (by simpa using h) hj
end Go.Proofs.YthdmceeipmmhjaaGreatDoor

/- Gear: the pieces of a use in a slot (program): its walk. -/
namespace Go.Proofs.YthdmceeipmmhjaaGreatDoor
open Go.RowKit Go.BigFrame

def mcell (m : Pcs.Mnt) : List Value := [.string m.s, .string m.p, .int .i64 m.f, .int .i64 m.t]
def mget (ms : List Pcs.Mnt) (i : Nat) : Pcs.Mnt := ms.getD i ⟨⟨#[]⟩, ⟨#[]⟩, 0, 0⟩
theorem add_len (last : Int) (st : Int × List Pcs.Pc) (p : ByteArray) (tt : Int) : (Pcs.add last st p tt).2.length ≤ st.2.length + 1 ∧ st.1 ≤ (Pcs.add last st p tt).1 := by
  unfold Pcs.add
  split <;> simp <;> omega
theorem step_len (last : Int) (st : Int × List Pcs.Pc) (m : Pcs.Mnt) : (Pcs.step last st m).2.length ≤ st.2.length + 2 ∧ st.1 ≤ (Pcs.step last st m).1 := by
  unfold Pcs.step
  split
  · have h1 := add_len last st Pcs.em m.f
    have h2 := add_len last (Pcs.add last st Pcs.em m.f) m.p (Pcs.en m)
    omega
  · simp
/-- after k mounts -/
def stK (last a : Int) (ms : List Pcs.Mnt) (k : Nat) : Int × List Pcs.Pc := (ms.take k).foldl (Pcs.step last) (a, [])
theorem stK_succ (last a : Int) (ms : List Pcs.Mnt) {k : Nat} (hk : k < ms.length) : stK last a ms (k + 1) = Pcs.step last (stK last a ms k) (mget ms k) := by
  unfold stK mget
  rw [List.take_succ_eq_append_getElem hk, List.foldl_append]
  simp [List.getD, List.getElem?_eq_getElem hk]
theorem stK_bounds (last a : Int) (ms : List Pcs.Mnt) : ∀ k, k ≤ ms.length → (stK last a ms k).2.length ≤ 2 * k ∧ a ≤ (stK last a ms k).1
  | 0, _ => by simp [stK]
  | k + 1, hk => by
    rw [stK_succ last a ms (by omega)]
    have h1 := stK_bounds last a ms k (by omega)
    have h2 := step_len last (stK last a ms k) (mget ms k)
    omega
theorem stK_all (last a : Int) (ms : List Pcs.Mnt) : stK last a ms ms.length = ms.foldl (Pcs.step last) (a, []) := by
  unfold stK
  rw [List.take_length]

theorem alloc_block (w : World) (cs : Array Value) (T : TypeId) : ∃ W, w.alloc (.cells cs T) = W ∧ Below w.heap.size w W ∧ W.heap.size = w.heap.size + 1 ∧ W.heap[w.heap.size]? = some (.cells cs T (0, 0)) :=
  ⟨_, rfl, below_al _ _, by simp, heap_alloc_new w _⟩
theorem below_block {w w' : World} {b : Nat} {o : Obj} (hb : Below w.heap.size w w') (h : w.heap[b]? = some o) : w'.heap[b]? = some o := (hb.block b (lt_of_block h)).trans h
theorem two_cells (V : World) (o1 o2 : Obj) : ((V.alloc o1).alloc o2).drew.heap[V.heap.size]? = some o1 ∧ ((V.alloc o1).alloc o2).drew.heap[V.heap.size + 1]? = some o2 ∧ Below V.heap.size V ((V.alloc o1).alloc o2).drew ∧ ((V.alloc o1).alloc o2).drew.heap.size = V.heap.size + 2 := by
  refine ⟨?_, ?_, below_drewN (below_tr (below_al V o1) (by simp) (below_al _ o2)) 1, by show ((V.alloc o1).alloc o2).heap.size = _; simp⟩
  · show ((V.alloc o1).alloc o2).heap[V.heap.size]? = some o1
    exact (Below.heap_alloc (V.alloc o1) o2 V.heap.size (by simp)).trans (heap_alloc_new V o1)
  · show ((V.alloc o1).alloc o2).heap[V.heap.size + 1]? = some o2
    have := heap_alloc_new (V.alloc o1) o2
    simpa using this
theorem not_own {w : World} {v : Value} {base e size n : Nat} {xs : List Value} {b : Nat} (h : w.ownsRow base e size v n xs) (hb : b < base ∨ w.heap.size ≤ b) : ¬ v.ownBlock = some b := fun e => by
  have := h.lt b e
  omega
theorem not_own_ty {w : World} {v : Value} {base e size n : Nat} {xs : List Value} {b : Nat} {cs : Array Value} {T : TypeId} (h : w.ownsRow base e size v n xs) (hb : w.heap[b]? = some (.cells cs T (0, 0))) (hT : T ≠ e) : ¬ v.ownBlock = some b := fun e' => by
  rcases h.2 with ⟨rfl, _⟩ | ⟨g, cap, cur, rfl, _, h3, _⟩
  · simp [Value.ownBlock] at e'
  · simp [Value.ownBlock] at e'
    subst e'
    rw [h3] at hb
    injection hb with hb
    injection hb with _ hb _
    exact hT hb.symm
/-- a piece with its way -/
def pcellW (u s : ByteArray) (q : Pcs.Pc) (x : Int) : List Value := [.string u, .string s, .string q.1, .int .i64 q.2, .int .i64 x]
theorem pcellW_low (u s : ByteArray) (q : Pcs.Pc) (x y : Int) {j : Nat} (hj : j < 4) : (pcellW u s q x)[j]? = (pcellW u s q y)[j]? := by
  unfold pcellW
  match j, hj with
  | 0, _ => rfl
  | 1, _ => rfl
  | 2, _ => rfl
  | 3, _ => rfl
theorem pcellW_some (u s : ByteArray) (q : Pcs.Pc) (x : Int) {j : Nat} (hj : j < 5) : ∃ v, (pcellW u s q x)[j]? = some v := ⟨_, List.getElem?_eq_getElem (by simpa [pcellW] using hj)⟩
/-- what piecesOf returns -/
def PcsRet (un slot : ByteArray) (l : List Pcs.Pc) (us uw : Int) (w : World) (e : Ending) (w' : World) : Prop :=
  ∃ g cap : Nat, e = .returned (.slice (some ⟨g, 0, none⟩) l.length cap) ∧ w.heap.size ≤ g ∧ RowK w' (some ⟨g, 0, none⟩) l.length 5 (fun i => pcellW un slot (pget l i) (wayG uw us (secW l) l.length i)) ∧ Below w.heap.size w w'
set_option maxHeartbeats 8000000 in
set_option maxRecDepth 100000 in
theorem piecesOf_any (un ur : ByteArray) (uf us uw : Int) (slot : ByteArray) (am : Option Addr) (cm : Nat) (ms : List Pcs.Mnt) (w : World) (hr : RowK w am ms.length 4 (fun i => mcell (mget ms i)))
    (h0 : 0 ≤ uf) (h1 : uf ≤ 86399999999) (h2 : 1 ≤ us) (h3 : us ≤ 1000000) (h4 : 0 ≤ uw) (h5 : uw ≤ 1000000000) (hl : ms.length ≤ 2000) (ho : Pcs.Ord ms) :
    Calls Tryz.prog 73 #[useV un ur uf us uw, .string slot, .slice am ms.length cm] w (PcsRet un slot (Pcs.pieces uf (uf + us) ms) us uw w) := by
  have HR := Lib.hid hr
  have HO := Lib.hid ho
  unfold useV
  have hmf : ∀ fn first cap w, (Instr.makeFunc fn first cap).run Tryz.prog w = .ok (.func fn first cap) w := fun _ _ _ _ => rfl
  obtain ⟨V0, hV0, hb0, hs0, q0⟩ := alloc_block w #[.string un, .string ur, .int .i64 uf, .int .i64 us, .int .i64 uw] 54
  obtain ⟨V1, hV1, hb1, hs1, q1⟩ := alloc_block V0 #[.string slot] 9
  obtain ⟨V2, hV2, hb2, hs2, q2⟩ := alloc_block V1 #[.slice none 0 0] 69
  have q0 := below_block hb2 (below_block hb1 q0)
  have q1 := below_block hb2 q1
  have g1 : w.heap.size < V0.heap.size := by omega
  have g2 : V0.heap.size < V1.heap.size := by omega
  have g3 : V1.heap.size < V2.heap.size := by omega
  have HBV := Lib.hid (hb0.trans ((hb1.mono (by omega)).trans (hb2.mono (by omega))))
  have HQ0 := Lib.hid q0
  have HQ1 := Lib.hid q1
  have HQ2 := Lib.hid q2
  have c2 : V2.cell? ⟨w.heap.size, 2, none⟩ = some (.int .i64 uf) := block_cell q0 rfl
  have c3 : V2.cell? ⟨w.heap.size, 3, none⟩ = some (.int .i64 us) := block_cell q0 rfl
  have c2d : V2.drew.cell? ⟨w.heap.size, 2, none⟩ = some (.int .i64 uf) := c2
  have c3d : V2.drew.cell? ⟨w.heap.size, 3, none⟩ = some (.int .i64 us) := c3
  clear hr ho q0 q1 q2 hb0 hb1 hb2 hs0 hs1 hs2
  go_enter Tryz.func73, Tryz.ntmps73
  go_upto_region 2 with (fail)
  clear hV0 hV1 hV2
  have hws := IntWalk.i64_in (uf + us) (by omega)
  have HWS := Lib.hid hws
  clear hws
  go_cut [8, 9] (fun p q wx => ∃ ca cl : Nat, p = .pointer (some ⟨ca, 0, none⟩) ∧ q = .pointer (some ⟨cl, 0, none⟩) ∧ ca ≠ cl ∧ V2.heap.size ≤ ca ∧ V2.heap.size ≤ cl ∧ Hid (wx.heap[ca]? = some (.cells #[.int .i64 uf] 3 (0, 0))) ∧ Hid (wx.heap[cl]? = some (.cells #[.int .i64 (uf + us)] 3 (0, 0))) ∧ Hid (Below V2.heap.size V2 wx) ∧ wx.heap.size = V2.heap.size + 2)
  case first =>
    go_region_held3 (fun w' => w'.cell? ⟨w.heap.size, 2, none⟩ = some (.int .i64 uf) ∧ w'.cell? ⟨w.heap.size, 3, none⟩ = some (.int .i64 us)) (go_keep) (fail)
    · go_wp2_with fail
      go_meet
      rw [HWS.out]
      obtain ⟨x1, x2, x3, x4⟩ := two_cells V2 (.cells #[.int .i64 uf] 3) (.cells #[.int .i64 (uf + us)] 3)
      exact ⟨_, _, rfl, rfl, by omega, by omega, by omega, Lib.hid x1, Lib.hid x2, Lib.hid x3, x4⟩
    · go_wp2_with fail
      go_meet
      rw [HWS.out]
      obtain ⟨x1, x2, x3, x4⟩ := two_cells V2 (.cells #[.int .i64 (uf + us)] 3) (.cells #[.int .i64 uf] 3)
      exact ⟨_, _, rfl, rfl, by omega, by omega, by omega, Lib.hid x2, Lib.hid x1, Lib.hid x3, x4⟩
  case rest =>
    obtain ⟨ca, cl, rfl, rfl, hne, hca, hcl, HCA, HCL, HBX, hsx⟩ := hcut
    obtain ⟨bs, hbs⟩ : ∃ bs, wc.heap.size = bs := ⟨_, rfl⟩
    have hca2 : ca < bs := by rw [← hbs]; exact lt_of_block HCA.out
    have hcl2 : cl < bs := by rw [← hbs]; exact lt_of_block HCL.out
    have hst : PSt wc (.slice none 0 0) bs V1.heap.size ca cl w.heap.size V0.heap.size (stK (uf + us) uf ms 0).1 (uf + us) (stK (uf + us) uf ms 0).2 un ur uf us uw slot :=
      ⟨below_block HBX.out HQ2.out, World.ownsRow_nil _ _ _ _, HCA.out, HCL.out, below_block HBX.out HQ0.out, below_block HBX.out HQ1.out⟩
    have HST := Lib.hid hst
    have HBC := Lib.hid (HBV.out.trans (HBX.out.mono (by omega)))
    have hbs2 : V1.heap.size < bs := by omega
    have hca' : V1.heap.size < ca := by omega
    have hcl' : V1.heap.size < cl := by omega
    have HBS := Lib.hid hbs
    clear hca hcl c2 c3 c2d c3d hst HCA HCL HBX hsx hbs HQ0 HQ1 HQ2
    have DA : ∀ (X : World) (part : ByteArray) (tt : Int) (v : Value) (a : Int) (l : List Pcs.Pc), PSt X v bs V1.heap.size ca cl w.heap.size V0.heap.size a (uf + us) l un ur uf us uw slot → 0 ≤ a → (l.length : Int) ≤ 1000000 → bs ≤ X.heap.size →
        Calls Tryz.prog 91 #[.string part, .int .i64 tt, .pointer (some ⟨cl, 0, none⟩), .pointer (some ⟨ca, 0, none⟩), .pointer (some ⟨V1.heap.size, 0, none⟩), .pointer (some ⟨w.heap.size, 0, none⟩), .pointer (some ⟨V0.heap.size, 0, none⟩)] X fun e w' => e = .returned (.tuple #[]) ∧
          (∃ v', PSt w' v' bs V1.heap.size ca cl w.heap.size V0.heap.size (Pcs.add (uf + us) (a, l) part tt).1 (uf + us) (Pcs.add (uf + us) (a, l) part tt).2 un ur uf us uw slot) ∧ Kept (fun b => b = V1.heap.size ∨ b = ca ∨ v.ownBlock = some b) X w' :=
      fun X part tt v a l hp ha hl hb => addPc_any part tt bs _ ca cl _ _ a (uf + us) l un ur uf us uw slot X v hp ha (by omega) hl (by omega) (by omega) (by omega) (by omega) (by omega) (by omega) (by omega) hb
    have HDA := Lib.hid DA
    clear DA
    go_wp2_with fail
    go_loopw [28] (fun iv wr => ∃ (k : Nat), iv = .int .i64 k ∧ k ≤ ms.length ∧ Hid (∃ v, PSt wr v bs V1.heap.size ca cl w.heap.size V0.heap.size (stK (uf + us) uf ms k).1 (uf + us) (stK (uf + us) uf ms k).2 un ur uf us uw slot) ∧ Hid (Kept (fun b => b = V1.heap.size ∨ b = ca ∨ bs ≤ b) wc wr)) (fun iv _ => ms.length - (intOf iv).toNat)
    case atStart => exact ⟨0, rfl, by omega, Lib.hid ⟨_, HST.out⟩, Lib.hid (Kept.refl _ _)⟩
    case round =>
      obtain ⟨k, rfl, hk, HPE, HK⟩ := hrel
      obtain ⟨v, hp⟩ := HPE.out
      have HP := Lib.hid hp
      have hb1 := stK_bounds (uf + us) uf ms k hk
      by_cases hlt : k < ms.length
      · have t1 : decide ((k : Int) < (ms.length : Int)) = true := by rw [decide_eq_true_eq]; omega
        have t1' : decide (k < ms.length) = true := by simpa using hlt
        obtain ⟨b, off, rfl, hbl, hc⟩ := HR.out.here (by omega)
        have hbw : wr.heap[b]? = w.heap[b]? := (HK.out.block b (by rw [HBS.out]; omega) (by omega)).trans (HBC.out.block b hbl)
        have hsz : bs ≤ wr.heap.size := by rw [← HBS.out]; exact HK.out.size
        have hbr : b < wr.heap.size := by omega
        have e0 : wr.cell? ⟨b, off + k * 4, none⟩ = some (.string (mget ms k).s) := (World.cell?_of_block hbw).trans (hc k hlt 0 (by omega))
        have e1 : wr.cell? ⟨b, off + k * 4 + 1, none⟩ = some (.string (mget ms k).p) := (World.cell?_of_block hbw).trans (hc k hlt 1 (by omega))
        have e2 : wr.cell? ⟨b, off + k * 4 + 2, none⟩ = some (.int .i64 (mget ms k).f) := (World.cell?_of_block hbw).trans (hc k hlt 2 (by omega))
        have e3 : wr.cell? ⟨b, off + k * 4 + 3, none⟩ = some (.int .i64 (mget ms k).t) := (World.cell?_of_block hbw).trans (hc k hlt 3 (by omega))
        have hsucc := stK_succ (uf + us) uf ms hlt
        unfold Pcs.step at hsucc
        obtain ⟨V, hV, hvb, hvs, hvq⟩ := alloc_block wr #[.string (mget ms k).s, .string (mget ms k).p, .int .i64 (mget ms k).f, .int .i64 (mget ms k).t] 52
        have HVQ := Lib.hid hvq
        have HVB := Lib.hid hvb
        have HV' := Lib.hid hV
        have HPV := Lib.hid (hp.kept (Kept.of_below (O := fun _ => False) hvb) (by simp) (by simp) (by simp) (by simp) (by simp) (by simp))
        have L0 : ∀ Y : Ext V, Y.1.cell? ⟨wr.heap.size, 0, none⟩ = some (.string (mget ms k).s) := Ext.ex (block_cell hvq rfl)
        have L1 : ∀ Y : Ext V, Y.1.cell? ⟨wr.heap.size, 1, none⟩ = some (.string (mget ms k).p) := Ext.ex (block_cell hvq rfl)
        have L2 : ∀ Y : Ext V, Y.1.cell? ⟨wr.heap.size, 2, none⟩ = some (.int .i64 (mget ms k).f) := Ext.ex (block_cell hvq rfl)
        have L3 : ∀ Y : Ext V, Y.1.cell? ⟨wr.heap.size, 3, none⟩ = some (.int .i64 (mget ms k).t) := Ext.ex (block_cell hvq rfl)
        have L4 : ∀ Y : Ext V, Y.1.cell? ⟨ca, 0, none⟩ = some (.int .i64 (stK (uf + us) uf ms k).1) := Ext.ex (cell_of_one HPV.out.hca)
        have DE := Lib.hid (fun W => gend_any (mget ms k).s (mget ms k).p (mget ms k).f (mget ms k).t W)
        unfold mountV at DE
        rw [show Gar.endG (mget ms k).t = Pcs.en (mget ms k) from rfl] at DE
        have HSUCC := Lib.hid hsucc
        clear hbw hc hV hvb hvq hsucc hp HPE
        have hvsz : wr.heap.size < V.heap.size := by omega
        have hno := not_own HP.out.own (Or.inr (Nat.le_refl wr.heap.size))
        have HNO := Lib.hid hno
        have hlen : ((stK (uf + us) uf ms k).2.length : Int) ≤ 999990 := by omega
        have hal : 0 ≤ (stK (uf + us) uf ms k).1 := by omega
        clear hno hb1
        obtain ⟨st, hst0⟩ : ∃ st, stK (uf + us) uf ms k = st := ⟨_, rfl⟩
        rw [hst0] at L4 HPV HSUCC hal hlen
        obtain ⟨a, ha⟩ : ∃ a, st.1 = a := ⟨_, rfl⟩
        obtain ⟨l, hl'⟩ : ∃ l, st.2 = l := ⟨_, rfl⟩
        have HSA : Hid (a = st.1) := Lib.hid ha.symm
        have HSL : Hid (l = st.2) := Lib.hid hl'.symm
        rw [ha] at L4 HPV hal
        rw [hl'] at HPV hlen
        clear hst0 ha hl'
        have hys : ∀ Y : Ext V, bs ≤ Y.1.heap.size := fun Y => Nat.le_trans hsz (Nat.le_trans HVB.out.size Y.2.size)
        have HYS := Lib.hid hys
        clear hys
        cases hd : decide (a < Pcs.en (mget ms k))
        · rw [decide_eq_false_iff_not] at hd
          have hst2 : stK (uf + us) uf ms (k + 1) = st := HSUCC.out.trans (if_neg (by rw [← HSA.out]; exact hd))
          have HST2 := Lib.hid hst2
          have d1 : decide (a < Pcs.en (mget ms k)) = false := by rw [decide_eq_false_iff_not]; exact hd
          clear hst2 hd
          go_upto_region 7 with (fail)
          rw [HV'.out]
          refine ext_wp fun X1 => ?_
          refine wp_region_ext (W := V) _ (by kernel_rfl) (by kernel_rfl) ?_
          repeat go_big_quiet_step ((go_at_call 51; exact Ext.calls _ (DE.out _)))
          refine wpQuiet_nil ?_
          intro _ hw'
          obtain ⟨Y, rfl⟩ := hw'
          go_wp2_with fail
          go_roundw
          case rel =>
            refine ⟨k + 1, by go_num, by omega, Lib.hid ⟨v, ?_⟩, Lib.hid ((HK.out.trans (Kept.of_below HVB.out)).trans (Kept.of_below Y.2))⟩
            rw [HST2.out, ← HSA.out, ← HSL.out]
            exact HPV.out.kept (Kept.of_below (O := fun _ => False) Y.2) (by simp) (by simp) (by simp) (by simp) (by simp) (by simp)
          case measure => simp [intOf]; omega
        · have hd' := hd
          rw [decide_eq_true_eq] at hd'
          have hst2 : stK (uf + us) uf ms (k + 1) = Pcs.add (uf + us) (Pcs.add (uf + us) (a, l) Pcs.em (mget ms k).f) (mget ms k).p (Pcs.en (mget ms k)) := by
            rw [HSUCC.out, if_pos (by rw [← HSA.out]; exact hd'), show st = (a, l) by rw [HSA.out, HSL.out]]
          have HST2 := Lib.hid hst2
          clear hst2 hd'
          go_upto_region 7 with (fail)
          rw [HV'.out]
          refine ext_wp fun X1 => ?_
          refine wp_region_ext (W := V) _ (by kernel_rfl) (by kernel_rfl) ?_
          repeat go_big_quiet_step ((go_at_call 51; exact Ext.calls _ (DE.out _)))
          refine wpQuiet_nil ?_
          intro _ hw'
          obtain ⟨Y, rfl⟩ := hw'
          go_wp2_with fail
          have hpy := HPV.out.kept (Kept.of_below (O := fun _ => False) Y.2) (by simp) (by simp) (by simp) (by simp) (by simp) (by simp)
          refine (HDA.out _ _ _ v a l hpy hal (by omega) (HYS.out Y)).mono ?_
          rintro e w2 ⟨rfl, ⟨v2, hp2⟩, hk2⟩
          have hnb : ¬ (wr.heap.size = V1.heap.size ∨ wr.heap.size = ca ∨ v.ownBlock = some wr.heap.size) := by
            rintro (h | h | h)
            · omega
            · omega
            · exact HNO.out h
          have hq2 := (hk2.block wr.heap.size (Nat.lt_of_lt_of_le hvsz Y.2.size) hnb).trans (below_block Y.2 HVQ.out)
          have hsz2 : bs ≤ w2.heap.size := Nat.le_trans (HYS.out Y) hk2.size
          have hk02 : Kept (fun b => b = V1.heap.size ∨ b = ca ∨ bs ≤ b) wc w2 := by
            refine ((HK.out.trans (Kept.of_below HVB.out)).trans (Kept.of_below Y.2)).trans ⟨hk2.os, hk2.tape, hk2.output, hk2.size, fun b hb ho => hk2.block b hb (fun h => ho ?_)⟩
            rcases h with h | h | h
            · exact Or.inl h
            · exact Or.inr (Or.inl h)
            · exact Or.inr (Or.inr (HP.out.own.lt b h).1)
          have hno2 := not_own_ty hp2.own hq2 (by decide)
          have hno3 : ¬ (wr.heap.size = V1.heap.size ∨ wr.heap.size = ca ∨ v2.ownBlock = some wr.heap.size) := by
            rintro (h | h | h)
            · omega
            · omega
            · exact hno2 h
          have hlen2 := (add_len (uf + us) (a, l) Pcs.em (mget ms k).f).1
          have hal2 := (add_len (uf + us) (a, l) Pcs.em (mget ms k).f).2
          simp only at hlen2 hal2
          rw [show (⟨#[]⟩ : ByteArray) = Pcs.em from rfl] at hp2
          generalize Pcs.add (uf + us) (a, l) Pcs.em (mget ms k).f = st2 at HST2 hp2 hlen2 hal2
          have N0 : ∀ Z : ExtO (fun b => b = V1.heap.size ∨ b = ca ∨ v2.ownBlock = some b) w2, Z.1.cell? ⟨wr.heap.size, 0, none⟩ = some (.string (mget ms k).s) := ExtO.ex hno3 (block_cell hq2 rfl)
          have N1 : ∀ Z : ExtO (fun b => b = V1.heap.size ∨ b = ca ∨ v2.ownBlock = some b) w2, Z.1.cell? ⟨wr.heap.size, 1, none⟩ = some (.string (mget ms k).p) := ExtO.ex hno3 (block_cell hq2 rfl)
          have N2 : ∀ Z : ExtO (fun b => b = V1.heap.size ∨ b = ca ∨ v2.ownBlock = some b) w2, Z.1.cell? ⟨wr.heap.size, 2, none⟩ = some (.int .i64 (mget ms k).f) := ExtO.ex hno3 (block_cell hq2 rfl)
          have N3 : ∀ Z : ExtO (fun b => b = V1.heap.size ∨ b = ca ∨ v2.ownBlock = some b) w2, Z.1.cell? ⟨wr.heap.size, 3, none⟩ = some (.int .i64 (mget ms k).t) := ExtO.ex hno3 (block_cell hq2 rfl)
          have HP2 := Lib.hid hp2
          have HK02 := Lib.hid hk02
          clear hp2 hk02 hk2 hnb hq2 hno2 hno3 hpy HNO L0 L1 L2 L3 L4 hd
          go_wp2_with fail
          refine held_start (C := fun w' => ∃ Z : ExtO (fun b => b = V1.heap.size ∨ b = ca ∨ v2.ownBlock = some b) w2, w' = Z.1) (by kernel_rfl) ?_
          obtain ⟨Z0, hZ0, hz0⟩ : ∃ Z : ExtO (fun b => b = V1.heap.size ∨ b = ca ∨ v2.ownBlock = some b) w2, ({ w2 with drawn := w2.drawn + 1 } : World) = Z.1 ∧ Kept (fun _ => False) w2 Z.1 := ⟨⟨{ w2 with drawn := w2.drawn + 1 }, ⟨rfl, rfl, rfl, Nat.le_refl _, fun _ _ _ => rfl⟩⟩, rfl, ⟨rfl, rfl, rfl, Nat.le_refl _, fun _ _ _ => rfl⟩⟩
          rw [hZ0]
          have HZ0 := Lib.hid hz0
          clear hZ0 hz0
          refine held_quiet (by kernel_rfl) (fun _ _ d _ _ h => by cases d <;> exact h) ⟨Z0, rfl⟩ [0, 1, 2, 3] 2 _ _ (by kernel_rfl) ?_
          change wpQuiet _ _ _ _ (_ :: _ :: _ :: _ :: []) _
          repeat go_big_quiet_step (fail)
          refine wpQuiet_nil ?_
          refine held_do (i := 4) _ rfl (by kernel_rfl) rfl (fun K hK => ?_)
          go_simp
          refine (DE.out _).mono ?_
          rintro e w3 ⟨rfl, hb3⟩
          have hz3 : Kept (fun _ => False) w2 w3 := HZ0.out.trans (Kept.of_below hb3)
          obtain ⟨Z1, rfl⟩ : ∃ Z : ExtO (fun b => b = V1.heap.size ∨ b = ca ∨ v2.ownBlock = some b) w2, w3 = Z.1 := ⟨⟨w3, Z0.2.trans (Kept.of_below hb3)⟩, rfl⟩
          refine hK _ _ ⟨Z1, rfl⟩ ?_
          have HZ3 := Lib.hid hz3
          clear hb3 hK K hz3
          refine held_do (i := 5) _ rfl (by kernel_rfl) rfl (fun K hK => ?_)
          go_simp
          have hp3 := HP2.out.kept HZ3.out (by simp) (by simp) (by simp) (by simp) (by simp) (by simp)
          refine (HDA.out _ _ _ v2 st2.1 st2.2 hp3 (by omega) (by omega) (Nat.le_trans hsz2 HZ3.out.size)).mono ?_
          rintro e w4 ⟨rfl, ⟨v4, hp4⟩, hk4⟩
          have HP4 := Lib.hid hp4
          have HK4 : Hid (Kept (fun b => b = V1.heap.size ∨ b = ca ∨ bs ≤ b) wc w4) := Lib.hid ((HK02.out.trans ⟨HZ3.out.os, HZ3.out.tape, HZ3.out.output, HZ3.out.size, fun b hb _ => HZ3.out.block b hb (by simp)⟩).trans ⟨hk4.os, hk4.tape, hk4.output, hk4.size, fun b hb ho => hk4.block b hb (by
            rintro (h | h | h)
            · exact ho (Or.inl h)
            · exact ho (Or.inr (Or.inl h))
            · exact ho (Or.inr (Or.inr (HP2.out.own.lt b h).1)))⟩)
          obtain ⟨Z2, rfl⟩ : ∃ Z : ExtO (fun b => b = V1.heap.size ∨ b = ca ∨ v2.ownBlock = some b) w2, w4 = Z.1 := ⟨⟨w4, Z1.2.trans hk4⟩, rfl⟩
          refine hK _ _ ⟨Z2, rfl⟩ ?_
          clear hp4 hk4 hK K hp3
          refine wpAnyH_done (by kernel_rfl) ?_ _
          go_wp2_with fail
          go_roundw
          case rel =>
            refine ⟨k + 1, by go_num, by omega, Lib.hid ⟨v4, ?_⟩, HK4⟩
            rw [HST2.out]
            exact HP4.out
          case measure => simp [intOf]; omega
      · have t1 : decide ((k : Int) < (ms.length : Int)) = false := by rw [decide_eq_false_iff_not]; omega
        have t1' : decide (k < ms.length) = false := by simpa using hlt
        obtain rfl : k = ms.length := by omega
        have hsz : bs ≤ wr.heap.size := by rw [← HBS.out]; exact HK.out.size
        have k2 := cell_of_one hp.hcl
        have hpl : (Pcs.add (uf + us) ((stK (uf + us) uf ms ms.length).1, (stK (uf + us) uf ms ms.length).2) ⟨#[]⟩ (uf + us)).2 = Pcs.pieces uf (uf + us) ms := by
          rw [stK_all]
          rfl
        have HPL := Lib.hid hpl
        have HGD := Lib.hid (good_pieces (uf := uf) HO.out h2)
        have hlen : ((stK (uf + us) uf ms ms.length).2.length : Int) ≤ 1000000 := by omega
        have hal : 0 ≤ (stK (uf + us) uf ms ms.length).1 := by omega
        clear hpl hp HPE hlt
        go_wp2_with fail
        refine (HDA.out _ _ _ v _ _ HP.out hal hlen hsz).mono ?_
        rintro e w2 ⟨rfl, ⟨v2, hp2⟩, hk2⟩
        rw [HPL.out] at hp2
        have hk02 : Kept (fun b => b = V1.heap.size ∨ b = ca ∨ bs ≤ b) wc w2 := by
          refine HK.out.trans ⟨hk2.os, hk2.tape, hk2.output, hk2.size, fun b hb ho => hk2.block b hb (fun h => ho ?_)⟩
          rcases h with h | h | h
          · exact Or.inl h
          · exact Or.inr (Or.inl h)
          · exact Or.inr (Or.inr (HP.out.own.lt b h).1)
        generalize (Pcs.add (uf + us) ((stK (uf + us) uf ms ms.length).1, (stK (uf + us) uf ms ms.length).2) ⟨#[]⟩ (uf + us)).1 = af at hp2
        obtain ⟨l, hl0⟩ : ∃ l, Pcs.pieces uf (uf + us) ms = l := ⟨_, rfl⟩
        rw [hl0] at hp2 HGD
        have HL0 := Lib.hid hl0
        clear hl0
        have hn0 := HGD.out.ne h2
        have hn1 := HGD.out.len
        have HFI := Lib.hid (HGD.out.fine h2 h3 h4 h5)
        obtain ⟨g, cap, rfl, hg1, hg2⟩ := hp2.own.form hn0
        have hB2 : bs ≤ w2.heap.size := Nat.le_trans hsz hk2.size
        obtain ⟨B2, hBB⟩ : ∃ B2, w2.heap.size = B2 := ⟨_, rfl⟩
        rw [hBB] at hB2 hg2
        have HBB := Lib.hid hBB
        have HP2 := Lib.hid hp2
        have HK02 := Lib.hid hk02
        have kc := cell_of_one hp2.hco
        have O0 : ∀ Z : ExtO (fun b => B2 ≤ b) w2, Z.1.cell? ⟨V1.heap.size, 0, none⟩ = some (.slice (some ⟨g, 0, none⟩) l.length cap) := ExtO.ex (by show ¬ B2 ≤ V1.heap.size; omega) kc
        obtain ⟨i1, hi1, hy0, hy1, hy2⟩ := info_parts (show (Tryz.prog.info? 3).map (fun i => (i.zero, i.size, i.bytes)) = some (some (.int .i64 0), 1, 8) by kernel_rfl)
        have HI1 := Lib.hid hi1
        have HY0 := Lib.hid hy0
        have HY1 := Lib.hid hy1
        have HY2 := Lib.hid hy2
        have HUI := Lib.hid (show Tryz.prog.underlying 112 = some (.slice 3) by kernel_rfl)
        clear hk2 hp2 hk02 hBB hi1 hy0 hy1 hy2 HP HK HST k2 HPL hal hlen hsz hb1
        go_wp2_with fail
        clear kc
        go_loopw [13, 52] (fun sv iv wr => ∃ (k : Nat), iv = .int .i64 k ∧ k ≤ l.length ∧ Hid (wr.ownsRow B2 3 1 sv k ((List.range k).map fun i => .int .i64 (secW l i))) ∧ Hid (∃ Z : ExtO (fun b => B2 ≤ b) w2, wr = Z.1)) (fun _ iv _ => l.length - (intOf iv).toNat)
        case atStart => exact ⟨0, rfl, by omega, Lib.hid (World.ownsRow_nil _ _ _ _), Lib.hid ⟨⟨w2, Kept.refl _ _⟩, rfl⟩⟩
        case round =>
          obtain ⟨k, rfl, hk, HS, HZE⟩ := hrel
          obtain ⟨Z, rfl⟩ := HZE.out
          by_cases hlt : k < l.length
          · have t1 : decide ((k : Int) < (l.length : Int)) = true := by rw [decide_eq_true_eq]; omega
            have t1' : decide (k < l.length) = true := by simpa using hlt
            have hcell : ∀ j v, j < 5 → (pcell un slot (pget l k))[j]? = some v → Z.1.cell? ⟨g, k * 5 + j, none⟩ = some v := fun j v hj hv => by
              have h6 := HP2.out.own.cells (g := g) rfl (k * 5 + j) v (by rw [← hv]; exact flat5 (fun q => rfl) l k j hlt hj)
              rw [addr_add0] at h6
              exact Z.2.cell (by show ¬ B2 ≤ g; omega) h6
            have e0 : Z.1.cell? ⟨g, k * 5, none⟩ = some (.string un) := hcell 0 _ (by omega) rfl
            have e1 : Z.1.cell? ⟨g, k * 5 + 1, none⟩ = some (.string slot) := hcell 1 _ (by omega) rfl
            have e2 : Z.1.cell? ⟨g, k * 5 + 2, none⟩ = some (.string (pget l k).1) := hcell 2 _ (by omega) rfl
            have e3 : Z.1.cell? ⟨g, k * 5 + 3, none⟩ = some (.int .i64 (pget l k).2) := hcell 3 _ (by omega) rfl
            have e4 : Z.1.cell? ⟨g, k * 5 + 4, none⟩ = some (.int .i64 0) := hcell 4 _ (by omega) rfl
            have hzs : B2 ≤ Z.1.heap.size := Nat.le_trans (Nat.le_of_eq HBB.out.symm) Z.2.size
            clear hcell
            go_wp2_with (at_builtin; refine wpList_append_own _ rfl (.tmp 56) (.tmp 59) 112 rfl B2 3 i1 (.int .i64 0) 1 8 HUI.out HI1.out HY0.out HY1.out HY2.out rfl (by decide) _ k _ rfl ((HS.out.alloc _).alloc _) ⟨Z.1.heap.size + 1, 0, none⟩ 1 1 [.int .i64 (pget l k).2] rfl rfl ?c1 ?c2 ?c3 ?c4 ?c5 ?_)
            case c1 =>
              intro j u hu
              rw [addr_add0, World.cell?_alloc_at _ _ _ _ (by simp)]
              simpa using hu
            case c2 =>
              intro u hu
              simp only [List.mem_singleton] at hu
              rw [hu]
              rfl
            case c3 => unfold maxLen; omega
            case c4 => omega
            case c5 => simp; omega
            intro v5 w5 hown5 hg5 _
            have HS2 : Hid (w5.ownsRow B2 3 1 v5 (k + 1) ((List.range (k + 1)).map fun i => .int .i64 (secW l i))) := Lib.hid (by
              rw [List.range_succ, List.map_append]
              exact hown5)
            have HZ2 : Hid (∃ Z : ExtO (fun b => B2 ≤ b) w2, w5 = Z.1) := Lib.hid ⟨⟨w5, (Z.2.trans (Kept.of_below (below_tr (below_al Z.1 _) (by simp) (below_al _ _)))).grown hg5 (fun q hq _ => (HS.out.lt q hq).1)⟩, rfl⟩
            clear hown5 hg5 HS HZE
            go_wp2_with fail
            go_roundw
            case rel => exact ⟨k + 1, by go_num, by omega, HS2, HZ2⟩
            case measure => simp [intOf]; omega
          · have t1 : decide ((k : Int) < (l.length : Int)) = false := by rw [decide_eq_false_iff_not]; omega
            have t1' : decide (k < l.length) = false := by simpa using hlt
            obtain rfl : k = l.length := by omega
            have hpz := HP2.out.kept Z.2 (by omega) (by omega) (by omega) (by omega) (by omega) (by intro b hb; simp [Value.ownBlock] at hb; omega)
            have hwz : Below w.heap.size w Z.1 := Kept.below (Kept.below HBC.out HK02.out (by rw [HBS.out]; omega) (fun k hk => by omega)) Z.2 (by rw [HBB.out]; omega) (fun k hk => by omega)
            have hzs : B2 ≤ Z.1.heap.size := Nat.le_trans (Nat.le_of_eq HBB.out.symm) Z.2.size
            obtain ⟨g2, cap2, hv2, hg3, hg4⟩ := HS.out.form hn0
            have hrow : Row1 Z.1 (some ⟨g2, 0, none⟩) l.length (secW l) := ⟨fun _ => ⟨g2, 0, rfl, hg4, fun i hi => by
              have h6 := HS.out
              rw [hv2] at h6
              have h7 := h6.cells (g := g2) rfl i (.int .i64 (secW l i)) (by simp [hi])
              rw [addr_add0] at h7
              rw [Nat.zero_add]
              exact h7⟩⟩
            have HPZ := Lib.hid hpz
            have HWZ := Lib.hid hwz
            have DP := Lib.hid (parts_any uw us (some ⟨g2, 0, none⟩) l.length cap2 (secW l) Z.1 hrow HFI.out)
            have kc := cell_of_one hpz.hco
            have ku : Z.1.cell? ⟨w.heap.size, 4, none⟩ = some (.int .i64 uw) := block_cell hpz.hcu rfl
            subst hv2
            clear hpz hwz hrow HS HZE hlt
            go_wp2_with fail
            refine DP.out.mono ?_
            rintro e w6 ⟨lo, g5, hord, rfl, hrf, hg6, hb6⟩
            have hkb6 : Kept (fun b => b = g) Z.1 w6 := Kept.of_below hb6
            have hp6 := HPZ.out.kept (Kept.of_below (O := fun _ => False) hb6) (by simp) (by simp) (by simp) (by simp) (by simp) (by simp)
            have hrw : RowF w6 g5 l.length (wayG uw us (secW l) l.length) := hrf.ext (fun i _ => wayG_of hord i)
            have hg56 : g ≠ g5 := by omega
            have hg7 : g5 < w6.heap.size := hrw.lt
            have HW6 := Lib.hid (HWZ.out.trans (hb6.mono HWZ.out.size))
            have hs6 : w.heap.size ≤ w6.heap.size := HW6.out.size
            have hinit : ∀ i, i < l.length → ∀ j, j < 5 → (pcells un slot l)[i * 5 + j]? = (pcellW un slot (pget l i) (if i < 0 then wayG uw us (secW l) l.length i else 0))[j]? := fun i hi j hj => by
              rw [if_neg (by omega)]
              exact flat5 (fun q => rfl) l i j hi hj
            have HINI := Lib.hid hinit
            have HP6 := Lib.hid hp6
            have HRW := Lib.hid hrw
            have Q0 : ∀ Z : ExtO (fun b => b = g) w6, Z.1.cell? ⟨V1.heap.size, 0, none⟩ = some (.slice (some ⟨g, 0, none⟩) l.length cap) := ExtO.ex (by show ¬ V1.heap.size = g; omega) (cell_of_one hp6.hco)
            obtain ⟨wy, hwy⟩ : ∃ wy, wayG uw us (secW l) l.length = wy := ⟨_, rfl⟩
            rw [hwy] at HINI HRW
            have HWY := Lib.hid hwy
            clear hwy
            clear hkb6 hp6 hrw hord hrf hg6 hb6 kc ku HPZ HWZ HP2 HK02 HFI HBB DP O0 hinit
            go_wp2_with fail
            go_loopw [67] (fun iv wr => ∃ (k : Nat), iv = .int .i64 k ∧ k ≤ l.length ∧ Hid (∃ xs, wr.ownsRow bs 75 5 (.slice (some ⟨g, 0, none⟩) l.length cap) l.length xs ∧ ∀ i, i < l.length → ∀ j, j < 5 → xs[i * 5 + j]? = (pcellW un slot (pget l i) (if i < k then wy i else 0))[j]?) ∧ Hid (∃ Z : ExtO (fun b => b = g) w6, wr = Z.1)) (fun iv _ => l.length - (intOf iv).toNat)
            case atStart => exact ⟨0, rfl, by omega, Lib.hid ⟨_, HP6.out.own, HINI.out⟩, Lib.hid ⟨⟨w6, Kept.refl _ _⟩, rfl⟩⟩
            case round =>
              obtain ⟨k, rfl, hk, HS, HZE⟩ := hrel
              obtain ⟨Z6, rfl⟩ := HZE.out
              obtain ⟨xs, hx1, hx2⟩ := HS.out
              have HX1 := Lib.hid hx1
              have HX2 := Lib.hid hx2
              clear hx1 hx2 HS HZE
              by_cases hlt : k < l.length
              · have t1 : decide ((k : Int) < (l.length : Int)) = true := by rw [decide_eq_true_eq]; omega
                have t1' : decide (k < l.length) = true := by simpa using hlt
                have e5 : Z6.1.cell? ⟨g5, k, none⟩ = some (.int .i64 (wy k)) := Z6.2.cell (by show ¬ g5 = g; omega) (HRW.out.cell hlt)
                have e6 : Z6.1.cell? ⟨g, k * 5 + 4, none⟩ = some (.int .i64 0) := by
                  have h6 := HX1.out.cells (g := g) rfl (k * 5 + 4) (.int .i64 0) (by rw [HX2.out k hlt 4 (by omega), if_neg (by omega)]; rfl)
                  rwa [addr_add0] at h6
                have f6 : Z6.1.frozen? ⟨g, k * 5 + 4, none⟩ = false := World.ownsRow.frozenAt HX1.out (k * 5 + 4)
                obtain ⟨hs1, hs2⟩ := HX1.out.stored (k * 5 + 4) (.int .i64 (wy k))
                have HS2 := Lib.hid hs1
                have HZ7 : Hid (∃ Y : ExtO (fun b => b = g) w6, Z6.1.setCell ⟨g, k * 5 + 4, none⟩ (.int .i64 (wy k)) = Y.1) := Lib.hid ⟨⟨_, Z6.2.grown hs2 (fun q hq _ => by injection hq with hq; exact hq.symm)⟩, rfl⟩
                clear hs1 hs2
                go_wp2_with fail
                go_roundw
                case rel =>
                  refine ⟨k + 1, by go_num, by omega, Lib.hid ⟨_, HS2.out, fun i hi j hj => ?_⟩, HZ7⟩
                  have hlx : xs.length = l.length * 5 := HX1.out.1
                  rw [List.getElem?_set]
                  by_cases e : k * 5 + 4 = i * 5 + j
                  · obtain rfl : i = k := by omega
                    obtain rfl : j = 4 := by omega
                    rw [if_pos rfl, if_pos (by omega), if_pos (by omega)]
                    rfl
                  · rw [if_neg e, HX2.out i hi j hj]
                    by_cases e2 : i = k
                    · subst e2
                      exact pcellW_low _ _ _ _ _ (by omega)
                    · by_cases e3 : i < k
                      · rw [if_pos e3, if_pos (by omega)]
                      · rw [if_neg e3, if_neg (by omega)]
                case measure => simp [intOf]; omega
              · have t1 : decide ((k : Int) < (l.length : Int)) = false := by rw [decide_eq_false_iff_not]; omega
                have t1' : decide (k < l.length) = false := by simpa using hlt
                obtain rfl : k = l.length := by omega
                clear hlt
                go_wp2_with fail
                go_ret
                rw [HL0.out]
                refine ⟨g, cap, rfl, by omega, ⟨fun _ => ⟨g, 0, rfl, (HX1.out.lt g rfl).2, fun i hi j hj => ?_⟩⟩, Kept.below HW6.out Z6.2 hs6 (fun q hq => by omega)⟩
                obtain ⟨u, hu⟩ := pcellW_some un slot (pget l i) (wy i) hj
                have h6 := HX1.out.cells (g := g) rfl (i * 5 + j) u (by rw [HX2.out i hi j hj, if_pos hi, hu])
                rw [addr_add0] at h6
                rw [Nat.zero_add, HWY.out, hu]
                exact h6
end Go.Proofs.YthdmceeipmmhjaaGreatDoor

/- Gear: the mounts of each slot, in a map (program). -/
namespace Go.Proofs.YthdmceeipmmhjaaGreatDoor
open Go.RowKit Go.BigFrame Go.ChangeMaps Go.WideMaps

/-- a slice's header -/
abbrev Hdr := Option (Nat × Nat × Nat)
def hval : Hdr → Value
  | none => .slice none 0 0
  | some (g, n, c) => .slice (some ⟨g, 0, none⟩) n c
def hdat : Hdr → DataW Unit
  | none => .nil
  | some (g, n, c) => .agg [.lit (.int .i64 g), .lit (.int .i64 n), .lit (.int .i64 c)]
def hdrR : Value → Option (DataW Unit × List MemPlace)
  | .slice none 0 0 => some (.nil, [])
  | .slice (some ⟨g, 0, none⟩) n c => some (.agg [.lit (.int .i64 g), .lit (.int .i64 n), .lit (.int .i64 c)], [])
  | _ => none
theorem hdrR_inv : ∀ v x ps, hdrR v = some (hdat x, ps) → v = hval x := by
  intro v x ps h
  unfold hdrR at h
  split at h
  · cases x with
    | none => rfl
    | some y => simp [hdat] at h
  · cases x with
    | none => simp [hdat] at h
    | some y =>
      obtain ⟨a, b, c⟩ := y
      simp only [hdat, Option.some.injEq, Prod.mk.injEq, DataW.agg.injEq, List.cons.injEq, DataW.lit.injEq, Lit.int.injEq] at h
      obtain ⟨⟨⟨_, h1⟩, ⟨_, h2⟩, ⟨_, h3⟩, _⟩, _⟩ := h
      have e1 := Int.ofNat.inj h1
      have e2 := Int.ofNat.inj h2
      have e3 := Int.ofNat.inj h3
      subst e1 e2 e3
      rfl
  · cases h
def mcells (ms : List Pcs.Mnt) : List Value := ms.flatMap mcell
/-- two operations that may come up -/
theorem held_two {P : Program} {Q : Exit → Act → World → Prop} {C : World → Prop} {l : List Oper} {i j fuel : Nat} {listed : Array Bool} {a : Act} {w : World} (oi oj : Oper) (hi : nth l i = some oi) (hj : nth l j = some oj) (hr : Region.ready .any l.toArray listed = [i, j])
    (hwi : Region.wanted oi (yielded l.toArray a.tmps) = true) (hwj : Region.wanted oj (yielded l.toArray a.tmps) = true)
    (h1 : ∀ K : Act → World → Prop, (∀ a' w', C w' → wpAnyH P .any l.toArray Q C fuel (listed.setIfInBounds i true) a' w' → K a' w') → oi.wp P a w K Q)
    (h2 : ∀ K : Act → World → Prop, (∀ a' w', C w' → wpAnyH P .any l.toArray Q C fuel (listed.setIfInBounds j true) a' w' → K a' w') → oj.wp P a w K Q) : wpAnyH P .any l.toArray Q C (fuel + 1) listed a w := by
  rw [nth_eq] at hi hj
  refine wpAnyH_all hr (by simp) fun q hq => ?_
  simp only [List.mem_cons, List.not_mem_nil, or_false] at hq
  rcases hq with rfl | rfl
  · unfold wpOp
    simp only [hi, hwi, if_true]
    exact Or.inl (h1 _ fun a' w' h3 h4 => ⟨h3, h4⟩)
  · unfold wpOp
    simp only [hj, hwj, if_true]
    exact Or.inl (h2 _ fun a' w' h3 h4 => ⟨h3, h4⟩)
theorem wp_lookup_str {α : Type} {P : Program} {k e t : TypeId} {R : Value → Option (DataW Unit × List MemPlace)} {b n : Nat} {dat : α → DataW Unit} {zd : DataW Unit} {f : ByteArray → α} {w : World} {o : Oper} {a : Act} {K : Act → World → Prop} {Q : Exit → Act → World → Prop} (m x : Operand) (hop : o.op = .lookup t m x false)
    (hk : P.underlying k = some .string) (ht : P.underlying t = some (.map k e)) {z : Value} (hz : (zeroValue e).run P w = .ok z w) {zp : List MemPlace} (hzd : R z = some (zd, zp)) (val : α → Value) (hR : ∀ v x ps, R v = some (dat x, ps) → v = val x)
    (hm : a.eval m = .map (some b)) (hown : StrMap w P k R b n dat zd f) {s : ByteArray} (hx : a.eval x = .string s) (hs : s.size ≤ maxLen) (hK : K (a.put o.dst (val (f s))) w) : o.wp P a w K Q := by
  have hrun := hown.look hk ht hz hzd val hR hs
  unfold Oper.wp
  simp [execOp, hop, hm, hx, hrun, Result.andThen]
  exact hK
/-- the mounts of each slot lie in rows of the call's own -/
structure Had (w : World) (base : Nat) (g : Gar) (k : Nat) (hd : ByteArray → Hdr) : Prop where
  row : ∀ s, w.ownsRow base 52 4 (hval (hd s)) (Gar.mountsK g s k).length (mcells (Gar.mountsK g s k))
  nil : ∀ s, Gar.mountsK g s k = [] → hd s = none
theorem Had.kept {w w' : World} {base : Nat} {g : Gar} {k : Nat} {hd : ByteArray → Hdr} (h : Had w base g k hd) {O : Nat → Prop} (hk : Kept O w w') (hO : ∀ b, base ≤ b → ¬ O b) : Had w' base g k hd := by
  refine ⟨fun s => ?_, h.nil⟩
  obtain ⟨h1, h2⟩ := h.row s
  refine ⟨h1, ?_⟩
  rcases h2 with h7 | ⟨q, cap, cur, e1, e2, e3, e4⟩
  · exact Or.inl h7
  · exact Or.inr ⟨q, cap, cur, e1, e2, (hk.block q (lt_of_block e3) (hO q e2)).trans e3, e4⟩
theorem mountsK_mem {g : Gar} {s : ByteArray} {k : Nat} {m : Pcs.Mnt} (h : m ∈ Gar.mountsK g s k) : m.s = s := by
  obtain ⟨i, _, h2, rfl⟩ := Gar.mem_mountsK h
  exact h2
/-- the first cell of a row names its slot -/
theorem Had.first {w : World} {base : Nat} {g : Gar} {k : Nat} {hd : ByteArray → Hdr} (h : Had w base g k hd) {s : ByteArray} {q : Nat} (hq : (hval (hd s)).ownBlock = some q) : w.cell? ⟨q, 0, none⟩ = some (.string s) := by
  cases hl : Gar.mountsK g s k with
  | nil => rw [h.nil s hl] at hq; simp [hval, Value.ownBlock] at hq
  | cons m l =>
    have h1 := (h.row s).cells hq 0 (.string s) (by
      rw [hl]
      have : m.s = s := mountsK_mem (k := k) (g := g) (by rw [hl]; simp)
      simp [mcells, mcell, this])
    rwa [addr_add0] at h1
theorem Had.apart {w : World} {base : Nat} {g : Gar} {k : Nat} {hd : ByteArray → Hdr} (h : Had w base g k hd) {s s' : ByteArray} (hs : s' ≠ s) : (hval (hd s')).ownBlock = none ∨ (hval (hd s')).ownBlock ≠ (hval (hd s)).ownBlock := by
  cases h1 : (hval (hd s')).ownBlock with
  | none => exact Or.inl rfl
  | some q =>
    refine Or.inr fun h2 => hs ?_
    have h3 := h.first h1
    have h4 := h.first h2.symm
    rw [h3] at h4
    injection h4 with h4
    injection h4
/-- one mount more -/
theorem Had.step {w w1 w2 : World} {base B : Nat} {g : Gar} {k : Nat} {hd : ByteArray → Hdr} {y : Hdr} (h : Had w base g k hd) (hB : B < base) (h1 : w.grownBy w1 (hval (hd (g.ms k))).ownBlock)
    (ho : w1.ownsRow base 52 4 (hval y) ((Gar.mountsK g (g.ms k) k).length + 1) (mcells (Gar.mountsK g (g.ms k) k) ++ mcell (g.mnt k))) (h2 : w1.grownBy w2 (some B)) : Had w2 base g (k + 1) (setF hd (g.ms k) y) := by
  have nb : ∀ {v : Value} {n : Nat} {xs : List Value} {w : World}, w.ownsRow base 52 4 v n xs → v.ownBlock = none ∨ v.ownBlock ≠ some B := fun {v n xs w} h => by
    cases hv : v.ownBlock with
    | none => exact Or.inl rfl
    | some q => exact Or.inr fun e => by injection e with e; have := (h.lt q hv).1; omega
  refine ⟨fun s => ?_, fun s hs => ?_⟩
  · by_cases e : g.ms k = s
    · subst e
      rw [Gar.mountsK, if_pos rfl, List.length_append]
      unfold setF
      rw [if_pos rfl]
      unfold mcells
      rw [List.flatMap_append]
      have := ho.kept h2 (nb ho)
      simpa [mcells] using this
    · rw [Gar.mountsK, if_neg e]
      unfold setF
      rw [if_neg (fun e' => e e'.symm)]
      have h3 := (h.row s).kept h1 (h.apart (fun e' => e e'.symm))
      exact h3.kept h2 (nb h3)
  · by_cases e : g.ms k = s
    · rw [Gar.mountsK, if_pos e] at hs
      simp at hs
    · rw [Gar.mountsK, if_neg e] at hs
      unfold setF
      rw [if_neg (fun e' => e e'.symm)]
      exact h.nil s hs
end Go.Proofs.YthdmceeipmmhjaaGreatDoor
