/- The stable sort of the library: the merge. -/
import Derived.Test.YtbkpoepacjinlaaSi
namespace Go.Proofs.Ytbkpoepacjinlaa
open Go.RowKit Go.BigFrame
open Stb (at' sw2 Srt Res Mrg)

/-- what a merge leaves -/
def Merged (R : Int → Int) (w0 : World) (base g cap n a b : Nat) (M : List Int) (e : Ending) (w' : World) : Prop :=
  e = .returned (.tuple #[]) ∧ ∃ M', SW w0 w' base g cap n M' ∧ Res M M' a b ∧ Srt R M' a b

set_option maxHeartbeats 2000000 in
set_option maxRecDepth 100000 in
theorem merge_one (R : Int → Int) (w0 w : World) (base g cap n c a b : Nat) (M0 M : List Int) (h : SW w0 w base g cap n M) (hM0 : M.Perm M0) (hcmp : CmpOk R w0 base g cap n c M0)
    (hb : b ≤ n) (hn : (n : Int) ≤ 1000000) (hm : Mrg R M a (a + 1) b) :
    Calls Try.prog 196 #[.slice (some ⟨g, 0, none⟩) n cap, .int .i64 a, .int .i64 ((a + 1 : Nat) : Int), .int .i64 b, .func (.func 158) #[] #[.pointer (some ⟨c, 0, none⟩)]] w (Merged R w0 base g cap n a b M) := by
  have H := Lib.hid h
  have HM0 := Lib.hid hM0
  have HC := Lib.hid hcmp
  have HG := Lib.hid hm
  have hab : a + 1 < b := hm.mb
  clear h hM0 hcmp hm
  have t1 : ((((a + 1 : Nat) : Int) - (a : Int)) == 1) = true := by rw [beq_iff_eq]; omega
  obtain ⟨m, hm⟩ : ∃ m, a + 1 = m := ⟨_, rfl⟩
  rw [hm] at t1 ⊢
  have hm1 : m < b := by omega
  have HM := Lib.hid hm
  have hb1 : IntKind.i64.wrap ((m : Int) - (a : Int)) = (m : Int) - (a : Int) := IntWalk.i64_in _ (by omega)
  clear hm hab
  go_enter Try.func196, Try.ntmps196
  go_wp2_with fail
  go_loopw [10, 11] (fun iv jv wr => ∃ (i j : Nat), iv = .int .i64 i ∧ jv = .int .i64 j ∧ m ≤ i ∧ i ≤ j ∧ j ≤ b ∧ Hid (SW w0 wr base g cap n M) ∧ Hid (∀ q, m ≤ q → q < i → R (at' M a) < R (at' M q)) ∧ Hid (∀ q, j ≤ q → q < b → R (at' M q) ≤ R (at' M a))) (fun iv jv _ => (intOf jv - intOf iv).toNat)
  case atStart => exact ⟨m, b, rfl, rfl, by omega, by omega, by omega, H, Lib.hid (fun q h1 h2 => by omega), Lib.hid (fun q h1 h2 => by omega)⟩
  case round =>
    obtain ⟨i, j, rfl, rfl, hmi, hij, hjb, HS, HL, HH⟩ := hrel
    by_cases hlt : i < j
    · have t2 : decide ((i : Int) < (j : Int)) = true := by rw [decide_eq_true_eq]; omega
      have t2' : decide (i < j) = true := by simpa using hlt
      obtain ⟨k, hk⟩ : ∃ k : Nat, (i + j) / 2 = k := ⟨_, rfl⟩
      have ek : ((i : Int) + (j : Int)) / 2 = (k : Int) := by omega
      have k0 : i ≤ k := by omega
      have k1 : k < j := by omega
      clear hk
      have hp2 : M.Perm M0 := HM0.out
      have c1 := HS.out.cell (j := k) (by omega)
      have c2 := HS.out.cell (j := a) (by have := HM.out; omega)
      have m1 := at_mem HS.out.len (show k < n by omega) hp2
      have m2 := at_mem HS.out.len (show a < n by have := HM.out; omega) hp2
      have hka : k < n := by omega
      have han : a < n := by have := HM.out; omega
      obtain ⟨x, hx⟩ : ∃ x, at' M k = x := ⟨_, rfl⟩
      obtain ⟨y, hy⟩ : ∃ y, at' M a = y := ⟨_, rfl⟩
      rw [hx] at c1 m1
      rw [hy] at c2 m2
      have HX := Lib.hid hx
      have HY := Lib.hid hy
      have HQ := Lib.hid (fun q => HC.out (wr.drewN q) M (HS.out.drewN q) x y m1 m2)
      clear hx hy hp2 m1 m2
      by_cases hc : R y < R x
      · have t3 : decide (Lib.compareInt (R y) (R x) < 0) = true := by rw [decide_eq_true_eq, cmp_neg]; exact hc
        have HL2 := Lib.hid (show ∀ q, m ≤ q → q < k + 1 → R (at' M a) < R (at' M q) from fun q h1 h2 => by
          have hgm := HM.out
          subst hgm
          exact HG.out.lo (Nat.le_refl _) (Nat.lt_succ_self _) (show k < b by omega) (by rw [HX.out, HY.out]; exact hc) q h1 (by omega))
        generalize Lib.compareInt (R y) (R x) = cv at t3 HQ
        go_wp2_with fail
        go_quiet ((go_at_call 158; exact Calls.quiet_of (HQ.out _)))
        go_wp2_with fail
        go_roundw
        case rel => exact ⟨k + 1, j, by go_num, rfl, by omega, by omega, hjb, Lib.hid (HS.out.drewN _), HL2, HH⟩
        case measure => simp [intOf]; omega
      · have t3 : decide (Lib.compareInt (R y) (R x) < 0) = false := by rw [decide_eq_false_iff_not, cmp_neg]; exact hc
        have HH2 := Lib.hid (show ∀ q, k ≤ q → q < b → R (at' M q) ≤ R (at' M a) from fun q h1 h2 => by
          have hgm := HM.out
          subst hgm
          exact Int.not_lt.1 (HG.out.hi (Nat.le_refl _) (Nat.lt_succ_self _) (show a + 1 ≤ k by omega) (by rw [HX.out, HY.out]; exact hc) q h1 h2))
        generalize Lib.compareInt (R y) (R x) = cv at t3 HQ
        go_wp2_with fail
        go_quiet ((go_at_call 158; exact Calls.quiet_of (HQ.out _)))
        go_wp2_with fail
        go_roundw
        case rel => exact ⟨i, k, rfl, rfl, hmi, k0, by omega, Lib.hid (HS.out.drewN _), HL, HH2⟩
        case measure => simp [intOf]; omega
    · have t2 : decide ((i : Int) < (j : Int)) = false := by rw [decide_eq_false_iff_not]; omega
      have t2' : decide (i < j) = false := by simpa using hlt
      obtain rfl : i = j := by omega
      have ham : a + 1 ≤ i := by have := HM.out; omega
      have e3 : (i : Int) - 1 = ((i - 1 : Nat) : Int) := by omega
      clear hlt hij
      go_wp2_with fail
      obtain ⟨wo, rfl⟩ : ∃ wo : World, wo = wr := ⟨_, rfl⟩
      go_loopw [13] (fun kv w2 => ∃ (k : Nat) (M2 : List Int), kv = .int .i64 k ∧ a ≤ k ∧ k ≤ i - 1 ∧ Hid (SW w0 w2 base g cap n M2) ∧ Hid (M2.Perm M) ∧ Hid (∀ p, at' M2 p = Stb.upF (at' M) a k p)) (fun kv _ => i - (intOf kv).toNat)
      case atStart => exact ⟨a, M, rfl, Nat.le_refl _, by omega, HS, Lib.hid (List.Perm.refl _), Lib.hid (fun p => (Stb.upF_start _ _ _).symm)⟩
      case round =>
        obtain ⟨k, M2, rfl, hak, hki, HS2, HP2, HE2⟩ := hrel
        by_cases hlt : k < i - 1
        · have t4 : decide ((k : Int) < ((i - 1 : Nat) : Int)) = true := by rw [decide_eq_true_eq]; omega
          have t4' : decide (k < i - 1) = true := by simpa using hlt
          have c1 := HS2.out.cell (j := k) (by omega)
          have c2 := HS2.out.cell (j := k + 1) (by omega)
          have f1 := HS2.out.frozen k
          have f2 := HS2.out.frozen (k + 1)
          obtain ⟨x, hx⟩ : ∃ x, at' M2 k = x := ⟨_, rfl⟩
          obtain ⟨y, hy⟩ : ∃ y, at' M2 (k + 1) = y := ⟨_, rfl⟩
          rw [hx] at c1
          rw [hy] at c2
          have HX := Lib.hid hx
          have HY := Lib.hid hy
          have hidx : ((k : Int) + 1).toNat = k + 1 := by omega
          have hkn : k + 1 < n := by omega
          clear hx hy
          go_wp2_with fail
          go_region
          go_wp2
          go_roundw
          case rel => exact ⟨k + 1, sw2 M2 k (k + 1), by go_num, by omega, by omega, Lib.hid ((HS2.out.swap HX.out HY.out).drew), Lib.hid ((Stb.sw2_perm (by rw [HS2.out.len]; omega) (by rw [HS2.out.len]; omega)).trans HP2.out), Lib.hid (Stb.upF_step hak (by rw [HS2.out.len]; omega) HE2.out)⟩
          case measure => simp [intOf]; omega
        · have t4 : decide ((k : Int) < ((i - 1 : Nat) : Int)) = false := by rw [decide_eq_false_iff_not]; omega
          have t4' : decide (k < i - 1) = false := by simpa using hlt
          obtain rfl : k = i - 1 := by omega
          have HF := Lib.hid (show Res M M2 a b ∧ Srt R M2 a b from by
            have hgm := HM.out
            subst hgm
            exact ⟨Stb.up_res HP2.out hak (by omega) HE2.out, Stb.up_sorted HG.out hmi hjb HL.out (fun q h1 h2 => Int.not_lt.2 (HH.out q h1 h2)) HE2.out⟩)
          clear hlt
          go_wp2_with fail
          go_end0
          exact ⟨rfl, M2, HS2.out, HF.out.1, HF.out.2⟩
end Go.Proofs.Ytbkpoepacjinlaa
