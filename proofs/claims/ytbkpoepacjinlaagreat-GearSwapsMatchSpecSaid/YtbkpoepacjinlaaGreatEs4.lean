/- Several texts of this claim in one. -/
import Derived.Test.YtbkpoepacjinlaaGreatEs3
import Derived.Lib.Small
import Derived.Test.YtbkpoepacjinlaaGreatEs1
import Derived.Test.YtbkpoepacjinlaaGreatEs2
/- The stable sort of the library: insertion. -/
namespace Go.Proofs.YtbkpoepacjinlaaGreat
open Go.RowKit Go.BigFrame
open Stb (at' sw2 Srt Res InsI)

/-- the function value that compares only reads, whatever the row holds -/
def CmpOk (R : Int → Int) (w0 : World) (base g cap n c : Nat) (M0 : List Int) : Prop :=
  ∀ w M, SW w0 w base g cap n M → ∀ x y, x ∈ M0 → y ∈ M0 →
    Calls Tryz.prog 75 #[.int .i64 x, .int .i64 y, .pointer (some ⟨c, 0, none⟩)] w fun e w' => e = .returned (.int .i64 (Lib.compareInt (R y) (R x))) ∧ ∃ q, w' = w.drewN q
def cmpV (c : Nat) : Value := .func (.func 75) #[] #[.pointer (some ⟨c, 0, none⟩)]
theorem cmp_neg (x y : Int) : Lib.compareInt x y < 0 ↔ x < y := by
  unfold Lib.compareInt
  split
  · constructor
    · intro _; assumption
    · intro _; decide
  · split
    · constructor
      · intro h; exact absurd h (by decide)
      · intro h; omega
    · constructor
      · intro h; exact absurd h (by decide)
      · intro h; omega
theorem at_mem {M M0 : List Int} {p n : Nat} (hl : M.length = n) (hp : p < n) (h : M.Perm M0) : at' M p ∈ M0 := by
  refine h.mem_iff.1 ?_
  rw [Stb.at', List.getD_eq_getElem?_getD, List.getElem?_eq_getElem (by rw [hl]; exact hp)]
  exact List.getElem_mem _

set_option maxHeartbeats 1000000 in
set_option maxRecDepth 100000 in
theorem insertion_any (R : Int → Int) (w0 w : World) (base g cap n c a b : Nat) (M0 M : List Int) (h : SW w0 w base g cap n M) (hM0 : M.Perm M0) (hcmp : CmpOk R w0 base g cap n c M0)
    (hb : b ≤ n) (hn : (n : Int) ≤ 1000000) (ha : a ≤ n) (hinc : ∀ p q, a ≤ p → p < q → q < b → at' M p < at' M q) :
    Calls Tryz.prog 76 #[.slice (some ⟨g, 0, none⟩) n cap, .int .i64 a, .int .i64 b, .func (.func 75) #[] #[.pointer (some ⟨c, 0, none⟩)]] w fun e w' =>
      e = .returned (.tuple #[]) ∧ ∃ M', SW w0 w' base g cap n M' ∧ Res M M' a b ∧ Srt R M' a b := by
  have H := Lib.hid h
  have HM0 := Lib.hid hM0
  have HC := Lib.hid hcmp
  have HI := Lib.hid hinc
  clear h hM0 hcmp hinc
  go_enter Tryz.func76, Tryz.ntmps76
  go_wp2_with fail
  go_loopw [8] (fun iv wr => ∃ (i : Nat) (M' : List Int), iv = .int .i64 i ∧ a < i ∧ (i ≤ b ∨ i = a + 1) ∧ Hid (SW w0 wr base g cap n M') ∧ Hid (Res M M' a i) ∧ Hid (Srt R M' a i)) (fun iv _ => b - (intOf iv).toNat)
  case atStart => exact ⟨a + 1, M, by go_num, by omega, Or.inr rfl, H, Lib.hid (Res.refl _ _ _), Lib.hid (fun p q h1 h2 h3 => by omega)⟩
  case round =>
    obtain ⟨i, M', rfl, hai, hib, HS, HR, HO⟩ := hrel
    by_cases hlt : i < b
    · have t1 : decide ((i : Int) < (b : Int)) = true := by rw [decide_eq_true_eq]; omega
      have hstart : InsI R M' a i i := Stb.ins_start HO.out (fun p h1 h2 => by
        obtain ⟨q, q1, q2, e⟩ := HR.out.img p h1 h2
        rw [e, HR.out.out i (Or.inr (Nat.le_refl _))]
        exact HI.out q i q1 q2 hlt)
      have HST := Lib.hid hstart
      clear hstart hib
      go_wp2_with fail
      obtain ⟨wo, rfl⟩ : ∃ wo : World, wo = wr := ⟨_, rfl⟩
      go_loopw [9] (fun jv w2 => ∃ (j : Nat) (M2 : List Int), jv = .int .i64 j ∧ a ≤ j ∧ j ≤ i ∧ Hid (SW w0 w2 base g cap n M2) ∧ Hid (Res M M2 a (i + 1)) ∧ Hid (InsI R M2 a i j)) (fun jv _ => (intOf jv).toNat)
      case atStart => exact ⟨i, M', rfl, by omega, Nat.le_refl _, HS, Lib.hid (HR.out.mono (Nat.le_refl _) (Nat.le_succ _)), HST⟩
      case round =>
        obtain ⟨j, M2, rfl, haj, hji, HS2, HR2, HI2⟩ := hrel
        by_cases hja : a < j
        · obtain ⟨jp, rfl⟩ : ∃ jp, j = jp + 1 := ⟨j - 1, by omega⟩
          have t2 : decide ((a : Int) < (jp : Int) + 1) = true := by rw [decide_eq_true_eq]; omega
          have t2' : decide (a < jp + 1) = true := by simpa using hja
          have c1 := HS2.out.cell (j := jp + 1) (by omega)
          have c2 := HS2.out.cell (j := jp) (by omega)
          have f1 := HS2.out.frozen (jp + 1)
          have f2 := HS2.out.frozen jp
          have hp2 : M2.Perm M0 := HR2.out.perm.trans HM0.out
          have m1 := at_mem HS2.out.len (show jp + 1 < n by omega) hp2
          have m2 := at_mem HS2.out.len (show jp < n by omega) hp2
          obtain ⟨x, hx⟩ : ∃ x, at' M2 (jp + 1) = x := ⟨_, rfl⟩
          obtain ⟨y, hy⟩ : ∃ y, at' M2 jp = y := ⟨_, rfl⟩
          rw [hx] at c1 m1
          rw [hy] at c2 m2
          have HX := Lib.hid hx
          have HY := Lib.hid hy
          have HQ := Lib.hid (fun q => HC.out (wr.drewN q) M2 (HS2.out.drewN q) x y m1 m2)
          have hidx : ((jp : Int) + 1).toNat = jp + 1 := by omega
          have hl1 : jp + 1 < n := by omega
          clear hx hy hp2 m1 m2
          by_cases hc : R y < R x
          · have t3 : decide (Lib.compareInt (R y) (R x) < 0) = true := by rw [decide_eq_true_eq, cmp_neg]; exact hc
            generalize Lib.compareInt (R y) (R x) = cv at t3 HQ
            go_wp2_with fail
            go_quiet ((go_at_call 75; exact Calls.quiet_of (HQ.out _)))
            go_wp2_with fail
            have HS5 := Lib.hid (HS2.out.drewN nq)
            have c1' : (wr.drewN nq).cell? ⟨g, jp + 1, none⟩ = some (.int .i64 x) := c1
            have c2' : (wr.drewN nq).cell? ⟨g, jp, none⟩ = some (.int .i64 y) := c2
            have f1' : (wr.drewN nq).frozen? ⟨g, jp + 1, none⟩ = false := f1
            have f2' : (wr.drewN nq).frozen? ⟨g, jp, none⟩ = false := f2
            clear c1 c2 f1 f2 HQ
            generalize wr.drewN nq = w5 at HS5 c1' c2' f1' f2' ⊢
            go_region
            go_wp2
            go_roundw
            case rel => exact ⟨jp, sw2 M2 (jp + 1) jp, by first | rfl | go_num, by omega, by omega, Lib.hid ((HS5.out.swap HX.out HY.out).drew), Lib.hid (HR2.out.trans (Res.sw2 (by omega) (by omega) (by omega) (by omega) (by omega) (by rw [HS2.out.len]; omega))), Lib.hid (Stb.ins_step HI2.out (by omega) hji (by rw [HS2.out.len]; omega) (by show R (at' M2 jp) < R (at' M2 (jp + 1)); rw [HX.out, HY.out]; exact hc))⟩
            case measure => simp [intOf]
          · have t3 : decide (Lib.compareInt (R y) (R x) < 0) = false := by rw [decide_eq_false_iff_not, cmp_neg]; exact hc
            generalize Lib.compareInt (R y) (R x) = cv at t3 HQ
            have HE := Lib.hid (Stb.ins_end HI2.out haj hji (Or.inr (by show ¬ R (at' M2 jp) < R (at' M2 (jp + 1)); rw [HX.out, HY.out]; exact hc)))
            go_wp2_with fail
            go_quiet ((go_at_call 75; exact Calls.quiet_of (HQ.out _)))
            go_wp2_with fail
            go_roundw
            case rel => exact ⟨i + 1, M2, by go_num, by omega, by omega, Lib.hid (HS2.out.drewN _), HR2, HE⟩
            case measure => simp [intOf]; omega
        · obtain rfl : j = a := by omega
          have t2 : decide ((j : Int) < (j : Int)) = false := by simp
          have HE := Lib.hid (Stb.ins_end HI2.out haj hji (Or.inl rfl))
          go_wp2_with fail
          go_quiet (fail)
          go_wp2_with fail
          go_roundw
          case rel => exact ⟨i + 1, M2, by go_num, by omega, by omega, Lib.hid (HS2.out.drewN _), HR2, HE⟩
          case measure => simp [intOf]; omega
    · have t1 : decide ((i : Int) < (b : Int)) = false := by rw [decide_eq_false_iff_not]; omega
      have t1' : decide (i < b) = false := by simpa using hlt
      have HE := Lib.hid (show Res M M' a b ∧ Srt R M' a b from by
        rcases hib with h | h
        · obtain rfl : i = b := by omega
          exact ⟨HR.out, HO.out⟩
        · subst h
          by_cases hab : a < b
          · obtain rfl : b = a + 1 := by omega
            exact ⟨HR.out, HO.out⟩
          · refine ⟨?_, fun p q h1 h2 h3 => by omega⟩
            have : ∀ p, at' M' p = at' M p := fun p => by
              by_cases hp : p = a
              · subst hp
                obtain ⟨q, q1, q2, e⟩ := HR.out.img p (Nat.le_refl _) (by omega)
                obtain rfl : q = p := by omega
                exact e
              · exact HR.out.out p (by omega)
            exact ⟨HR.out.perm, fun p _ => this p, fun p h1 h2 => ⟨p, h1, h2, this p⟩⟩)
      clear hib hlt
      go_wp2_with fail
      go_end0
      exact ⟨rfl, M', HS.out, HE.out.1, HE.out.2⟩
end Go.Proofs.YtbkpoepacjinlaaGreat

/- The stable sort of the library: the merge. -/
namespace Go.Proofs.YtbkpoepacjinlaaGreat
open Go.RowKit Go.BigFrame
open Stb (at' sw2 Srt Res Mrg)

/-- what a merge leaves -/
def Merged (R : Int → Int) (w0 : World) (base g cap n a b : Nat) (M : List Int) (e : Ending) (w' : World) : Prop :=
  e = .returned (.tuple #[]) ∧ ∃ M', SW w0 w' base g cap n M' ∧ Res M M' a b ∧ Srt R M' a b

set_option maxHeartbeats 2000000 in
set_option maxRecDepth 100000 in
theorem merge_one (R : Int → Int) (w0 w : World) (base g cap n c a b : Nat) (M0 M : List Int) (h : SW w0 w base g cap n M) (hM0 : M.Perm M0) (hcmp : CmpOk R w0 base g cap n c M0)
    (hb : b ≤ n) (hn : (n : Int) ≤ 1000000) (hm : Mrg R M a (a + 1) b) :
    Calls Tryz.prog 95 #[.slice (some ⟨g, 0, none⟩) n cap, .int .i64 a, .int .i64 ((a + 1 : Nat) : Int), .int .i64 b, .func (.func 75) #[] #[.pointer (some ⟨c, 0, none⟩)]] w (Merged R w0 base g cap n a b M) := by
  have H := Lib.hid h
  have HM0 := Lib.hid hM0
  have HC := Lib.hid hcmp
  have HG := Lib.hid hm
  have hab : a + 1 < b := hm.mb
  clear h hM0 hcmp hm
  have t1 : ((((a + 1 : Nat) : Int) - (a : Int)) == 1) = true := by rw [beq_iff_eq]; omega
  obtain ⟨m, hm⟩ : ∃ m, a + 1 = m := ⟨_, rfl⟩
  rw [hm] at t1 ⊢
  have hm1 : m < b := by omega
  have HM := Lib.hid hm
  have hb1 : IntKind.i64.wrap ((m : Int) - (a : Int)) = (m : Int) - (a : Int) := IntWalk.i64_in _ (by omega)
  clear hm hab
  go_enter Tryz.func95, Tryz.ntmps95
  go_wp2_with fail
  go_loopw [10, 11] (fun iv jv wr => ∃ (i j : Nat), iv = .int .i64 i ∧ jv = .int .i64 j ∧ m ≤ i ∧ i ≤ j ∧ j ≤ b ∧ Hid (SW w0 wr base g cap n M) ∧ Hid (∀ q, m ≤ q → q < i → R (at' M a) < R (at' M q)) ∧ Hid (∀ q, j ≤ q → q < b → R (at' M q) ≤ R (at' M a))) (fun iv jv _ => (intOf jv - intOf iv).toNat)
  case atStart => exact ⟨m, b, rfl, rfl, by omega, by omega, by omega, H, Lib.hid (fun q h1 h2 => by omega), Lib.hid (fun q h1 h2 => by omega)⟩
  case round =>
    obtain ⟨i, j, rfl, rfl, hmi, hij, hjb, HS, HL, HH⟩ := hrel
    by_cases hlt : i < j
    · have t2 : decide ((i : Int) < (j : Int)) = true := by rw [decide_eq_true_eq]; omega
      have t2' : decide (i < j) = true := by simpa using hlt
      obtain ⟨k, hk⟩ : ∃ k : Nat, (i + j) / 2 = k := ⟨_, rfl⟩
      have ek : ((i : Int) + (j : Int)) / 2 = (k : Int) := by omega
      have k0 : i ≤ k := by omega
      have k1 : k < j := by omega
      clear hk
      have hp2 : M.Perm M0 := HM0.out
      have c1 := HS.out.cell (j := k) (by omega)
      have c2 := HS.out.cell (j := a) (by have := HM.out; omega)
      have m1 := at_mem HS.out.len (show k < n by omega) hp2
      have m2 := at_mem HS.out.len (show a < n by have := HM.out; omega) hp2
      have hka : k < n := by omega
      have han : a < n := by have := HM.out; omega
      obtain ⟨x, hx⟩ : ∃ x, at' M k = x := ⟨_, rfl⟩
      obtain ⟨y, hy⟩ : ∃ y, at' M a = y := ⟨_, rfl⟩
      rw [hx] at c1 m1
      rw [hy] at c2 m2
      have HX := Lib.hid hx
      have HY := Lib.hid hy
      have HQ := Lib.hid (fun q => HC.out (wr.drewN q) M (HS.out.drewN q) x y m1 m2)
      clear hx hy hp2 m1 m2
      by_cases hc : R y < R x
      · have t3 : decide (Lib.compareInt (R y) (R x) < 0) = true := by rw [decide_eq_true_eq, cmp_neg]; exact hc
        have HL2 := Lib.hid (show ∀ q, m ≤ q → q < k + 1 → R (at' M a) < R (at' M q) from fun q h1 h2 => by
          have hgm := HM.out
          subst hgm
          exact HG.out.lo (Nat.le_refl _) (Nat.lt_succ_self _) (show k < b by omega) (by rw [HX.out, HY.out]; exact hc) q h1 (by omega))
        generalize Lib.compareInt (R y) (R x) = cv at t3 HQ
        go_wp2_with fail
        go_quiet ((go_at_call 75; exact Calls.quiet_of (HQ.out _)))
        go_wp2_with fail
        go_roundw
        case rel => exact ⟨k + 1, j, by go_num, rfl, by omega, by omega, hjb, Lib.hid (HS.out.drewN _), HL2, HH⟩
        case measure => simp [intOf]; omega
      · have t3 : decide (Lib.compareInt (R y) (R x) < 0) = false := by rw [decide_eq_false_iff_not, cmp_neg]; exact hc
        have HH2 := Lib.hid (show ∀ q, k ≤ q → q < b → R (at' M q) ≤ R (at' M a) from fun q h1 h2 => by
          have hgm := HM.out
          subst hgm
          exact Int.not_lt.1 (HG.out.hi (Nat.le_refl _) (Nat.lt_succ_self _) (show a + 1 ≤ k by omega) (by rw [HX.out, HY.out]; exact hc) q h1 h2))
        generalize Lib.compareInt (R y) (R x) = cv at t3 HQ
        go_wp2_with fail
        go_quiet ((go_at_call 75; exact Calls.quiet_of (HQ.out _)))
        go_wp2_with fail
        go_roundw
        case rel => exact ⟨i, k, rfl, rfl, hmi, k0, by omega, Lib.hid (HS.out.drewN _), HL, HH2⟩
        case measure => simp [intOf]; omega
    · have t2 : decide ((i : Int) < (j : Int)) = false := by rw [decide_eq_false_iff_not]; omega
      have t2' : decide (i < j) = false := by simpa using hlt
      obtain rfl : i = j := by omega
      have ham : a + 1 ≤ i := by have := HM.out; omega
      have e3 : (i : Int) - 1 = ((i - 1 : Nat) : Int) := by omega
      clear hlt hij
      go_wp2_with fail
      obtain ⟨wo, rfl⟩ : ∃ wo : World, wo = wr := ⟨_, rfl⟩
      go_loopw [13] (fun kv w2 => ∃ (k : Nat) (M2 : List Int), kv = .int .i64 k ∧ a ≤ k ∧ k ≤ i - 1 ∧ Hid (SW w0 w2 base g cap n M2) ∧ Hid (M2.Perm M) ∧ Hid (∀ p, at' M2 p = Stb.upF (at' M) a k p)) (fun kv _ => i - (intOf kv).toNat)
      case atStart => exact ⟨a, M, rfl, Nat.le_refl _, by omega, HS, Lib.hid (List.Perm.refl _), Lib.hid (fun p => (Stb.upF_start _ _ _).symm)⟩
      case round =>
        obtain ⟨k, M2, rfl, hak, hki, HS2, HP2, HE2⟩ := hrel
        by_cases hlt : k < i - 1
        · have t4 : decide ((k : Int) < ((i - 1 : Nat) : Int)) = true := by rw [decide_eq_true_eq]; omega
          have t4' : decide (k < i - 1) = true := by simpa using hlt
          have c1 := HS2.out.cell (j := k) (by omega)
          have c2 := HS2.out.cell (j := k + 1) (by omega)
          have f1 := HS2.out.frozen k
          have f2 := HS2.out.frozen (k + 1)
          obtain ⟨x, hx⟩ : ∃ x, at' M2 k = x := ⟨_, rfl⟩
          obtain ⟨y, hy⟩ : ∃ y, at' M2 (k + 1) = y := ⟨_, rfl⟩
          rw [hx] at c1
          rw [hy] at c2
          have HX := Lib.hid hx
          have HY := Lib.hid hy
          have hidx : ((k : Int) + 1).toNat = k + 1 := by omega
          have hkn : k + 1 < n := by omega
          clear hx hy
          go_wp2_with fail
          go_region
          go_wp2
          go_roundw
          case rel => exact ⟨k + 1, sw2 M2 k (k + 1), by go_num, by omega, by omega, Lib.hid ((HS2.out.swap HX.out HY.out).drew), Lib.hid ((Stb.sw2_perm (by rw [HS2.out.len]; omega) (by rw [HS2.out.len]; omega)).trans HP2.out), Lib.hid (Stb.upF_step hak (by rw [HS2.out.len]; omega) HE2.out)⟩
          case measure => simp [intOf]; omega
        · have t4 : decide ((k : Int) < ((i - 1 : Nat) : Int)) = false := by rw [decide_eq_false_iff_not]; omega
          have t4' : decide (k < i - 1) = false := by simpa using hlt
          obtain rfl : k = i - 1 := by omega
          have HF := Lib.hid (show Res M M2 a b ∧ Srt R M2 a b from by
            have hgm := HM.out
            subst hgm
            exact ⟨Stb.up_res HP2.out hak (by omega) HE2.out, Stb.up_sorted HG.out hmi hjb HL.out (fun q h1 h2 => Int.not_lt.2 (HH.out q h1 h2)) HE2.out⟩)
          clear hlt
          go_wp2_with fail
          go_end0
          exact ⟨rfl, M2, HS2.out, HF.out.1, HF.out.2⟩
end Go.Proofs.YtbkpoepacjinlaaGreat

/- The stable sort of the library: the merge of one at the end. -/
namespace Go.Proofs.YtbkpoepacjinlaaGreat
open Go.RowKit Go.BigFrame
open Stb (at' sw2 Srt Res Mrg)

set_option maxHeartbeats 2000000 in
set_option maxRecDepth 100000 in
theorem merge_last (R : Int → Int) (w0 w : World) (base g cap n c a b : Nat) (M0 M : List Int) (h : SW w0 w base g cap n M) (hM0 : M.Perm M0) (hcmp : CmpOk R w0 base g cap n c M0)
    (hb : b ≤ n) (hn : (n : Int) ≤ 1000000) (m : Nat) (hm : Mrg R M a m (m + 1)) (hne : m ≠ a + 1) (hb2 : b = m + 1) :
    Calls Tryz.prog 95 #[.slice (some ⟨g, 0, none⟩) n cap, .int .i64 a, .int .i64 m, .int .i64 b, .func (.func 75) #[] #[.pointer (some ⟨c, 0, none⟩)]] w (Merged R w0 base g cap n a b M) := by
  have H := Lib.hid h
  have HM0 := Lib.hid hM0
  have HC := Lib.hid hcmp
  have HG := Lib.hid hm
  have ham : a < m := hm.am
  clear h hM0 hcmp hm
  have t1 : (((m : Int) - (a : Int)) == 1) = false := by rw [beq_eq_false_iff_ne]; omega
  have t2 : (((b : Int) - (m : Int)) == 1) = true := by rw [beq_iff_eq]; omega
  have HM := Lib.hid hb2
  have hm1 : m < b := by omega
  have hb1 : IntKind.i64.wrap ((m : Int) - (a : Int)) = (m : Int) - (a : Int) := IntWalk.i64_in _ (by omega)
  have hb3 : IntKind.i64.wrap ((b : Int) - (m : Int)) = (b : Int) - (m : Int) := IntWalk.i64_in _ (by omega)
  clear hb2 hne
  go_enter Tryz.func95, Tryz.ntmps95
  go_wp2_with fail
  go_loopw [14, 15] (fun iv jv wr => ∃ (i j : Nat), iv = .int .i64 i ∧ jv = .int .i64 j ∧ a ≤ i ∧ i ≤ j ∧ j ≤ m ∧ Hid (SW w0 wr base g cap n M) ∧ Hid (∀ q, a ≤ q → q < i → R (at' M m) ≤ R (at' M q)) ∧ Hid (∀ q, j ≤ q → q < m → R (at' M q) < R (at' M m))) (fun iv jv _ => (intOf jv - intOf iv).toNat)
  case atStart => exact ⟨a, m, rfl, rfl, by omega, by omega, by omega, H, Lib.hid (fun q h1 h2 => by omega), Lib.hid (fun q h1 h2 => by omega)⟩
  case round =>
    obtain ⟨i, j, rfl, rfl, hmi, hij, hjb, HS, HL, HH⟩ := hrel
    by_cases hlt : i < j
    · have t3' : decide ((i : Int) < (j : Int)) = true := by rw [decide_eq_true_eq]; omega
      have t3'' : decide (i < j) = true := by simpa using hlt
      obtain ⟨k, hk⟩ : ∃ k : Nat, (i + j) / 2 = k := ⟨_, rfl⟩
      have ek : ((i : Int) + (j : Int)) / 2 = (k : Int) := by omega
      have k0 : i ≤ k := by omega
      have k1 : k < j := by omega
      clear hk
      have hp2 : M.Perm M0 := HM0.out
      have c1 := HS.out.cell (j := m) (by omega)
      have c2 := HS.out.cell (j := k) (by omega)
      have m1 := at_mem HS.out.len (show m < n by omega) hp2
      have m2 := at_mem HS.out.len (show k < n by omega) hp2
      have hka : k < n := by omega
      have han : m < n := by omega
      obtain ⟨x, hx⟩ : ∃ x, at' M m = x := ⟨_, rfl⟩
      obtain ⟨y, hy⟩ : ∃ y, at' M k = y := ⟨_, rfl⟩
      rw [hx] at c1 m1
      rw [hy] at c2 m2
      have HX := Lib.hid hx
      have HY := Lib.hid hy
      have HQ := Lib.hid (fun q => HC.out (wr.drewN q) M (HS.out.drewN q) x y m1 m2)
      clear hx hy hp2 m1 m2
      by_cases hc : R y < R x
      · have t3 : decide (Lib.compareInt (R y) (R x) < 0) = true := by rw [decide_eq_true_eq, cmp_neg]; exact hc
        have HH2 := Lib.hid (show ∀ q, k ≤ q → q < m → R (at' M q) < R (at' M m) from fun q h1 h2 => HG.out.hi' (Nat.le_refl _) (Nat.lt_succ_self _) (show a ≤ k by omega) (by rw [HX.out, HY.out]; exact hc) q h1 h2)
        generalize Lib.compareInt (R y) (R x) = cv at t3 HQ
        go_wp2_with fail
        go_quiet ((go_at_call 75; exact Calls.quiet_of (HQ.out _)))
        go_wp2_with fail
        go_roundw
        case rel => exact ⟨i, k, rfl, rfl, hmi, k0, by omega, Lib.hid (HS.out.drewN _), HL, HH2⟩
        case measure => simp [intOf]; omega
      · have t3 : decide (Lib.compareInt (R y) (R x) < 0) = false := by rw [decide_eq_false_iff_not, cmp_neg]; exact hc
        have HL2 := Lib.hid (show ∀ q, a ≤ q → q < k + 1 → R (at' M m) ≤ R (at' M q) from fun q h1 h2 => Int.not_lt.1 (HG.out.lo' (Nat.le_refl _) (Nat.lt_succ_self _) (show k < m by omega) (by rw [HX.out, HY.out]; exact hc) q h1 (by omega)))
        generalize Lib.compareInt (R y) (R x) = cv at t3 HQ
        go_wp2_with fail
        go_quiet ((go_at_call 75; exact Calls.quiet_of (HQ.out _)))
        go_wp2_with fail
        go_roundw
        case rel => exact ⟨k + 1, j, by go_num, rfl, by omega, by omega, hjb, Lib.hid (HS.out.drewN _), HL2, HH⟩
        case measure => simp [intOf]; omega
    · have t3' : decide ((i : Int) < (j : Int)) = false := by rw [decide_eq_false_iff_not]; omega
      have t3'' : decide (i < j) = false := by simpa using hlt
      obtain rfl : i = j := by omega
      clear hlt hij
      go_wp2_with fail
      obtain ⟨wo, rfl⟩ : ∃ wo : World, wo = wr := ⟨_, rfl⟩
      go_loopw [17] (fun kv w2 => ∃ (k : Nat) (M2 : List Int), kv = .int .i64 k ∧ i ≤ k ∧ k ≤ m ∧ Hid (SW w0 w2 base g cap n M2) ∧ Hid (M2.Perm M) ∧ Hid (∀ p, at' M2 p = Stb.dnF (at' M) m k p)) (fun kv _ => (intOf kv).toNat)
      case atStart => exact ⟨m, M, rfl, by omega, Nat.le_refl _, HS, Lib.hid (List.Perm.refl _), Lib.hid (fun p => (Stb.dnF_start _ _ _).symm)⟩
      case round =>
        obtain ⟨k, M2, rfl, hak, hki, HS2, HP2, HE2⟩ := hrel
        by_cases hlt : i < k
        · obtain ⟨kp, rfl⟩ : ∃ kp, k = kp + 1 := ⟨k - 1, by omega⟩
          have t4 : decide ((i : Int) < (kp : Int) + 1) = true := by rw [decide_eq_true_eq]; omega
          have t4' : decide (i < kp + 1) = true := by simpa using hlt
          have c1 := HS2.out.cell (j := kp + 1) (by omega)
          have c2 := HS2.out.cell (j := kp) (by omega)
          have f1 := HS2.out.frozen (kp + 1)
          have f2 := HS2.out.frozen kp
          obtain ⟨x, hx⟩ : ∃ x, at' M2 (kp + 1) = x := ⟨_, rfl⟩
          obtain ⟨y, hy⟩ : ∃ y, at' M2 kp = y := ⟨_, rfl⟩
          rw [hx] at c1
          rw [hy] at c2
          have HX := Lib.hid hx
          have HY := Lib.hid hy
          have hidx : ((kp : Int) + 1).toNat = kp + 1 := by omega
          have hkn : kp + 1 < n := by omega
          clear hx hy
          go_wp2_with fail
          go_region
          go_wp2
          go_roundw
          case rel => exact ⟨kp, sw2 M2 (kp + 1) kp, by first | rfl | go_num, by omega, by omega, Lib.hid ((HS2.out.swap HX.out HY.out).drew), Lib.hid ((Stb.sw2_perm (by rw [HS2.out.len]; omega) (by rw [HS2.out.len]; omega)).trans HP2.out), Lib.hid (Stb.dnF_step (k := kp + 1) hki (by omega) (by rw [HS2.out.len]; omega) HE2.out)⟩
          case measure => simp [intOf] <;> omega
        · have t4 : decide ((i : Int) < (k : Int)) = false := by rw [decide_eq_false_iff_not]; omega
          have t4' : decide (i < k) = false := by simpa using hlt
          obtain rfl : k = i := by omega
          have HF := Lib.hid (show Res M M2 a b ∧ Srt R M2 a b from by
            have e := HM.out
            subst e
            exact ⟨Stb.dn_res HP2.out hmi hki HE2.out, Stb.dn_sorted HG.out hmi hki (fun q h1 h2 => Int.not_lt.2 (HL.out q h1 h2)) HH.out HE2.out⟩)
          clear hlt
          go_wp2_with fail
          go_end0
          exact ⟨rfl, M2, HS2.out, HF.out.1, HF.out.2⟩
end Go.Proofs.YtbkpoepacjinlaaGreat

/- The stable sort of the library: the merge's main way (printed by wip/gen_merge.py). -/
namespace Go.Proofs.YtbkpoepacjinlaaGreat
open Go.RowKit Go.BigFrame
open Stb (at' sw2 Srt Res Mrg)

set_option maxHeartbeats 4000000 in
set_option maxRecDepth 100000 in
theorem merge_hi (R : Int → Int) (w0 w : World) (base g cap n c a m b mid : Nat) (M0 M : List Int) (h : SW w0 w base g cap n M) (hM0 : M.Perm M0) (hcmp : CmpOk R w0 base g cap n c M0)
    (hb : b ≤ n) (hn : (n : Int) ≤ 1000000) (hm : Mrg R M a m b) (h1 : a + 2 ≤ m) (h2 : m + 2 ≤ b) (hmid : mid = (a + b) / 2) (hmm : mid < m)
    (ih : ∀ a' m' b' w M, b' - a' < b - a → SW w0 w base g cap n M → M.Perm M0 → Mrg R M a' m' b' → b' ≤ n →
      Calls Tryz.prog 95 #[.slice (some ⟨g, 0, none⟩) n cap, .int .i64 a', .int .i64 m', .int .i64 b', .func (.func 75) #[] #[.pointer (some ⟨c, 0, none⟩)]] w (Merged R w0 base g cap n a' b' M)) :
    Calls Tryz.prog 95 #[.slice (some ⟨g, 0, none⟩) n cap, .int .i64 a, .int .i64 m, .int .i64 b, .func (.func 75) #[] #[.pointer (some ⟨c, 0, none⟩)]] w (Merged R w0 base g cap n a b M) := by
  have H := Lib.hid h
  have HM0 := Lib.hid hM0
  have HC := Lib.hid hcmp
  have HG := Lib.hid hm
  have HIH := Lib.hid ih
  have HMID := Lib.hid hmid
  clear h hM0 hcmp hm ih
  have t1 : (((m : Int) - (a : Int)) == 1) = false := by rw [beq_eq_false_iff_ne]; omega
  have t2 : (((b : Int) - (m : Int)) == 1) = false := by rw [beq_eq_false_iff_ne]; omega
  have hb1 : IntKind.i64.wrap ((m : Int) - (a : Int)) = (m : Int) - (a : Int) := IntWalk.i64_in _ (by omega)
  have hb3 : IntKind.i64.wrap ((b : Int) - (m : Int)) = (b : Int) - (m : Int) := IntWalk.i64_in _ (by omega)
  have emid : ((a : Int) + (b : Int)) / 2 = (mid : Int) := by omega
  have md1 : a + 2 ≤ mid := by omega
  have md2 : mid + 2 ≤ b := by omega
  have md3 : 2 * mid ≤ a + b := by omega
  have md4 : a + b ≤ 2 * mid + 1 := by omega
  have tm : decide ((mid : Int) < (m : Int)) = true := by rw [decide_eq_true_eq]; omega
  have tm' : decide (mid < m) = true := by rw [decide_eq_true_eq]; omega
  obtain ⟨s0, hs0⟩ : ∃ s0 : Nat, mid + m - b = s0 := ⟨_, rfl⟩
  have es0 : (mid : Int) + (m : Int) - (b : Int) = (s0 : Int) := by omega
  have hs1 : s0 + b = mid + m := by omega
  clear hs0
  clear hmid
  go_enter Tryz.func95, Tryz.ntmps95
  go_wp2_with fail
  go_loopw [20, 21] (fun sv rv wr => ∃ (s r : Nat), sv = .int .i64 s ∧ rv = .int .i64 r ∧ s0 ≤ s ∧ s ≤ r ∧ r ≤ mid ∧ Hid (SW w0 wr base g cap n M) ∧ Hid (s = s0 ∨ R (at' M (mid + m - 1 - (s - 1))) ≤ R (at' M (s - 1))) ∧ Hid (r = mid ∨ R (at' M r) < R (at' M (mid + m - 1 - r)))) (fun sv rv _ => (intOf rv - intOf sv).toNat)
  case atStart => exact ⟨s0, mid, rfl, rfl, by omega, by omega, by omega, H, Lib.hid (Or.inl rfl), Lib.hid (Or.inl rfl)⟩
  case round =>
    obtain ⟨s, r, rfl, rfl, hs, hsr, hrr, HS, HL, HH⟩ := hrel
    by_cases hlt : s < r
    · have t3 : decide ((s : Int) < (r : Int)) = true := by rw [decide_eq_true_eq]; omega
      have t3' : decide (s < r) = true := by simpa using hlt
      obtain ⟨k, hk⟩ : ∃ k : Nat, (s + r) / 2 = k := ⟨_, rfl⟩
      have ek : ((s : Int) + (r : Int)) / 2 = (k : Int) := by omega
      have k0 : s ≤ k := by omega
      have k1 : k < r := by omega
      clear hk
      obtain ⟨u, hu⟩ : ∃ u : Nat, mid + m - 1 - k = u := ⟨_, rfl⟩
      have eu : (mid : Int) + (m : Int) - 1 - (k : Int) = (u : Int) := by omega
      have u0 : m ≤ u := by omega
      have u1 : u < b := by omega
      have HU := Lib.hid hu
      clear hu
      have hp2 : M.Perm M0 := HM0.out
      have c1 := HS.out.cell (j := u) (by omega)
      have c2 := HS.out.cell (j := k) (by omega)
      have m1 := at_mem HS.out.len (show u < n by omega) hp2
      have m2 := at_mem HS.out.len (show k < n by omega) hp2
      have hun : u < n := by omega
      have hkn : k < n := by omega
      obtain ⟨x, hx⟩ : ∃ x, at' M u = x := ⟨_, rfl⟩
      obtain ⟨y, hy⟩ : ∃ y, at' M k = y := ⟨_, rfl⟩
      rw [hx] at c1 m1
      rw [hy] at c2 m2
      have HX := Lib.hid hx
      have HY := Lib.hid hy
      have HQ := Lib.hid (fun q => HC.out (wr.drewN q) M (HS.out.drewN q) x y m1 m2)
      clear hx hy hp2 m1 m2
      by_cases hc : R y < R x
      · have t4 : decide (Lib.compareInt (R y) (R x) < 0) = true := by rw [decide_eq_true_eq, cmp_neg]; exact hc
        have HH2 := Lib.hid (show k = mid ∨ R (at' M k) < R (at' M (mid + m - 1 - k)) from Or.inr (by rw [HU.out, HX.out, HY.out]; exact hc))
        generalize Lib.compareInt (R y) (R x) = cv at t4 HQ
        go_wp2_with fail
        go_quiet ((go_at_call 75; exact Calls.quiet_of (HQ.out _)))
        go_wp2_with fail
        go_roundw
        case rel => exact ⟨s, k, rfl, rfl, hs, k0, by omega, Lib.hid (HS.out.drewN _), HL, HH2⟩
        case measure => simp [intOf]; omega
      · have t4 : decide (Lib.compareInt (R y) (R x) < 0) = false := by rw [decide_eq_false_iff_not, cmp_neg]; exact hc
        have HL2 := Lib.hid (show k + 1 = s0 ∨ R (at' M (mid + m - 1 - (k + 1 - 1))) ≤ R (at' M (k + 1 - 1)) from Or.inr (by rw [Nat.add_sub_cancel, HU.out, HX.out, HY.out]; omega))
        generalize Lib.compareInt (R y) (R x) = cv at t4 HQ
        go_wp2_with fail
        go_quiet ((go_at_call 75; exact Calls.quiet_of (HQ.out _)))
        go_wp2_with fail
        go_roundw
        case rel => exact ⟨k + 1, r, by go_num, rfl, by omega, by omega, hrr, Lib.hid (HS.out.drewN _), HL2, HH⟩
        case measure => simp [intOf]; omega
    · have t3 : decide ((s : Int) < (r : Int)) = false := by rw [decide_eq_false_iff_not]; omega
      have t3' : decide (s < r) = false := by simpa using hlt
      obtain rfl : s = r := by omega
      obtain ⟨e, he⟩ : ∃ e : Nat, mid + m - s = e := ⟨_, rfl⟩
      have ee : (mid : Int) + (m : Int) - (s : Int) = (e : Int) := by omega
      have hsum : s + e = mid + m := by omega
      have CUT := Lib.hid (show Stb.Cutp R M a m b mid s e from by
        rw [← he]
        refine Stb.cut_of HG.out HMID.out (by omega) (by omega) ?_ ?_
        · rcases HL.out with h | h
          · exact Or.inl ⟨hmm, by omega⟩
          · exact Or.inr (Or.inr (Int.not_lt.2 h))
        · rcases HH.out with h | h
          · exact Or.inl ⟨hmm, h⟩
          · exact Or.inr (Or.inr h))
      clear he hlt hsr
      have b1 : m ≤ e := CUT.out.me
      have b2 : e ≤ b := CUT.out.eb
      have b3 : a ≤ s := CUT.out.as
      have b4 : s ≤ m := CUT.out.sm
      have b5 : s ≤ mid := CUT.out.smid
      have b6 : mid ≤ e := CUT.out.mide
      have hways : (s < m ∧ m < e ∧ a < s ∧ e < b) ∨ (s < m ∧ m < e ∧ a < s ∧ b ≤ e) ∨ (s < m ∧ m < e ∧ s ≤ a ∧ e < b) ∨ (s < m ∧ m < e ∧ s ≤ a ∧ b ≤ e) ∨ (m ≤ s ∧ m < mid) ∨ (m ≤ s ∧ mid ≤ m) ∨ (s < m ∧ e ≤ m) := by omega
      rcases hways with ⟨z0, z1, z2, z3⟩ | ⟨z0, z1, z2, z3⟩ | ⟨z0, z1, z2, z3⟩ | ⟨z0, z1, z2, z3⟩ | ⟨z0, z1⟩ | ⟨z0, z1⟩ | ⟨z0, z1⟩
      · have hcond : True := trivial
        have d0 : decide ((s : Int) < (m : Int)) = true := by rw [decide_eq_true_eq]; omega
        have d0' : decide (s < m) = true := by rw [decide_eq_true_eq]; omega
        have d1 : decide ((m : Int) < (e : Int)) = true := by rw [decide_eq_true_eq]; omega
        have d1' : decide (m < e) = true := by rw [decide_eq_true_eq]; omega
        have d2 : decide ((a : Int) < (s : Int)) = true := by rw [decide_eq_true_eq]; omega
        have d2' : decide (a < s) = true := by rw [decide_eq_true_eq]; omega
        have d3 : decide ((s : Int) < (mid : Int)) = true := by rw [decide_eq_true_eq]; omega
        have d3' : decide (s < mid) = true := by rw [decide_eq_true_eq]; omega
        have d4 : decide ((mid : Int) < (e : Int)) = true := by rw [decide_eq_true_eq]; omega
        have d4' : decide (mid < e) = true := by rw [decide_eq_true_eq]; omega
        have d5 : decide ((e : Int) < (b : Int)) = true := by rw [decide_eq_true_eq]; omega
        have d5' : decide (e < b) = true := by rw [decide_eq_true_eq]; omega
        clear hcond
        go_wp2_with fail
        refine (rotate_any w0 wr base g cap n s m e M (.func (.func 75) #[] #[.pointer (some ⟨c, 0, none⟩)]) HS.out (by omega) (by omega) (by omega) hn).mono ?_
        rintro e1 w1 ⟨rfl, M1, hS, hP, hE⟩
        have HS1 := Lib.hid hS
        have HE1 := Lib.hid hE
        have HR1 := Lib.hid (Stb.rot_res hP (by omega) (by omega) hE)
        clear hS hP hE
        go_wp2_with fail
        refine (HIH.out a s mid w1 M1 (by omega) HS1.out (HR1.out.perm.trans HM0.out) (Stb.cut_left HG.out CUT.out HR1.out HE1.out (by omega) (by omega)) (by omega)).mono ?_
        rintro e2 w2 ⟨rfl, M2, hS, hR, hO⟩
        have HS2 := Lib.hid hS
        have HR2 := Lib.hid hR
        have HO2 := Lib.hid hO
        clear hS hR hO
        go_wp2_with fail
        refine (HIH.out mid e b w2 M2 (by omega) HS2.out (HR2.out.perm.trans (HR1.out.perm.trans HM0.out)) ((Stb.cut_right HG.out CUT.out HR1.out HE1.out (by omega) (by omega)).congr HR2.out.length (fun p h1 h2 => HR2.out.out p (Or.inr h1))) (by omega)).mono ?_
        rintro e3 w3 ⟨rfl, M3, hS, hR, hO⟩
        have HS3 := Lib.hid hS
        have HR3 := Lib.hid hR
        have HO3 := Lib.hid hO
        clear hS hR hO
        have HFS := Lib.hid (Stb.halves (Stb.cut_mid HG.out CUT.out HE1.out) HR2.out HO2.out HR3.out HO3.out)
        have HFR := Lib.hid ((HR1.out.mono (by omega) (by omega)).trans ((HR2.out.mono (Nat.le_refl _) (by omega)).trans (HR3.out.mono (by omega) (Nat.le_refl _))))
        go_wp2_with fail
        go_end0
        exact ⟨rfl, M3, HS3.out, HFR.out, HFS.out⟩
      · have hcond : True := trivial
        have d0 : decide ((s : Int) < (m : Int)) = true := by rw [decide_eq_true_eq]; omega
        have d0' : decide (s < m) = true := by rw [decide_eq_true_eq]; omega
        have d1 : decide ((m : Int) < (e : Int)) = true := by rw [decide_eq_true_eq]; omega
        have d1' : decide (m < e) = true := by rw [decide_eq_true_eq]; omega
        have d2 : decide ((a : Int) < (s : Int)) = true := by rw [decide_eq_true_eq]; omega
        have d2' : decide (a < s) = true := by rw [decide_eq_true_eq]; omega
        have d3 : decide ((s : Int) < (mid : Int)) = true := by rw [decide_eq_true_eq]; omega
        have d3' : decide (s < mid) = true := by rw [decide_eq_true_eq]; omega
        have d4 : decide ((mid : Int) < (e : Int)) = true := by rw [decide_eq_true_eq]; omega
        have d4' : decide (mid < e) = true := by rw [decide_eq_true_eq]; omega
        have d5 : decide ((e : Int) < (b : Int)) = false := by rw [decide_eq_false_iff_not]; omega
        have d5' : decide (e < b) = false := by rw [decide_eq_false_iff_not]; omega
        clear hcond
        go_wp2_with fail
        refine (rotate_any w0 wr base g cap n s m e M (.func (.func 75) #[] #[.pointer (some ⟨c, 0, none⟩)]) HS.out (by omega) (by omega) (by omega) hn).mono ?_
        rintro e1 w1 ⟨rfl, M1, hS, hP, hE⟩
        have HS1 := Lib.hid hS
        have HE1 := Lib.hid hE
        have HR1 := Lib.hid (Stb.rot_res hP (by omega) (by omega) hE)
        clear hS hP hE
        go_wp2_with fail
        refine (HIH.out a s mid w1 M1 (by omega) HS1.out (HR1.out.perm.trans HM0.out) (Stb.cut_left HG.out CUT.out HR1.out HE1.out (by omega) (by omega)) (by omega)).mono ?_
        rintro e2 w2 ⟨rfl, M2, hS, hR, hO⟩
        have HS2 := Lib.hid hS
        have HR2 := Lib.hid hR
        have HO2 := Lib.hid hO
        clear hS hR hO
        have HR3 := Lib.hid (Res.refl M2 mid b)
        have HO3 := Lib.hid ((Stb.cut_right_sorted HG.out CUT.out HE1.out (by omega)).congr (fun p h1 h2 => HR2.out.out p (Or.inr h1)))
        have HS3 := HS2
        have HFS := Lib.hid (Stb.halves (Stb.cut_mid HG.out CUT.out HE1.out) HR2.out HO2.out HR3.out HO3.out)
        have HFR := Lib.hid ((HR1.out.mono (by omega) (by omega)).trans ((HR2.out.mono (Nat.le_refl _) (by omega)).trans (HR3.out.mono (by omega) (Nat.le_refl _))))
        go_wp2_with fail
        go_end0
        exact ⟨rfl, M2, HS3.out, HFR.out, HFS.out⟩
      · have hcond : True := trivial
        have d0 : decide ((s : Int) < (m : Int)) = true := by rw [decide_eq_true_eq]; omega
        have d0' : decide (s < m) = true := by rw [decide_eq_true_eq]; omega
        have d1 : decide ((m : Int) < (e : Int)) = true := by rw [decide_eq_true_eq]; omega
        have d1' : decide (m < e) = true := by rw [decide_eq_true_eq]; omega
        have d2 : decide ((a : Int) < (s : Int)) = false := by rw [decide_eq_false_iff_not]; omega
        have d2' : decide (a < s) = false := by rw [decide_eq_false_iff_not]; omega
        have d3 : decide ((mid : Int) < (e : Int)) = true := by rw [decide_eq_true_eq]; omega
        have d3' : decide (mid < e) = true := by rw [decide_eq_true_eq]; omega
        have d4 : decide ((e : Int) < (b : Int)) = true := by rw [decide_eq_true_eq]; omega
        have d4' : decide (e < b) = true := by rw [decide_eq_true_eq]; omega
        clear hcond
        go_wp2_with fail
        refine (rotate_any w0 wr base g cap n s m e M (.func (.func 75) #[] #[.pointer (some ⟨c, 0, none⟩)]) HS.out (by omega) (by omega) (by omega) hn).mono ?_
        rintro e1 w1 ⟨rfl, M1, hS, hP, hE⟩
        have HS1 := Lib.hid hS
        have HE1 := Lib.hid hE
        have HR1 := Lib.hid (Stb.rot_res hP (by omega) (by omega) hE)
        clear hS hP hE
        go_wp2_with fail
        have HR2 := Lib.hid (Res.refl M1 a mid)
        have HO2 := Lib.hid (Stb.cut_left_sorted HG.out CUT.out HE1.out (by omega))
        have HS2 := HS1
        refine (HIH.out mid e b w1 M1 (by omega) HS2.out (HR2.out.perm.trans (HR1.out.perm.trans HM0.out)) ((Stb.cut_right HG.out CUT.out HR1.out HE1.out (by omega) (by omega)).congr HR2.out.length (fun p h1 h2 => HR2.out.out p (Or.inr h1))) (by omega)).mono ?_
        rintro e3 w3 ⟨rfl, M3, hS, hR, hO⟩
        have HS3 := Lib.hid hS
        have HR3 := Lib.hid hR
        have HO3 := Lib.hid hO
        clear hS hR hO
        have HFS := Lib.hid (Stb.halves (Stb.cut_mid HG.out CUT.out HE1.out) HR2.out HO2.out HR3.out HO3.out)
        have HFR := Lib.hid ((HR1.out.mono (by omega) (by omega)).trans ((HR2.out.mono (Nat.le_refl _) (by omega)).trans (HR3.out.mono (by omega) (Nat.le_refl _))))
        go_wp2_with fail
        go_end0
        exact ⟨rfl, M3, HS3.out, HFR.out, HFS.out⟩
      · have hcond : True := trivial
        have d0 : decide ((s : Int) < (m : Int)) = true := by rw [decide_eq_true_eq]; omega
        have d0' : decide (s < m) = true := by rw [decide_eq_true_eq]; omega
        have d1 : decide ((m : Int) < (e : Int)) = true := by rw [decide_eq_true_eq]; omega
        have d1' : decide (m < e) = true := by rw [decide_eq_true_eq]; omega
        have d2 : decide ((a : Int) < (s : Int)) = false := by rw [decide_eq_false_iff_not]; omega
        have d2' : decide (a < s) = false := by rw [decide_eq_false_iff_not]; omega
        have d3 : decide ((mid : Int) < (e : Int)) = true := by rw [decide_eq_true_eq]; omega
        have d3' : decide (mid < e) = true := by rw [decide_eq_true_eq]; omega
        have d4 : decide ((e : Int) < (b : Int)) = false := by rw [decide_eq_false_iff_not]; omega
        have d4' : decide (e < b) = false := by rw [decide_eq_false_iff_not]; omega
        clear hcond
        go_wp2_with fail
        refine (rotate_any w0 wr base g cap n s m e M (.func (.func 75) #[] #[.pointer (some ⟨c, 0, none⟩)]) HS.out (by omega) (by omega) (by omega) hn).mono ?_
        rintro e1 w1 ⟨rfl, M1, hS, hP, hE⟩
        have HS1 := Lib.hid hS
        have HE1 := Lib.hid hE
        have HR1 := Lib.hid (Stb.rot_res hP (by omega) (by omega) hE)
        clear hS hP hE
        have HR2 := Lib.hid (Res.refl M1 a mid)
        have HO2 := Lib.hid (Stb.cut_left_sorted HG.out CUT.out HE1.out (by omega))
        have HS2 := HS1
        have HR3 := Lib.hid (Res.refl M1 mid b)
        have HO3 := Lib.hid ((Stb.cut_right_sorted HG.out CUT.out HE1.out (by omega)).congr (fun p h1 h2 => HR2.out.out p (Or.inr h1)))
        have HS3 := HS2
        have HFS := Lib.hid (Stb.halves (Stb.cut_mid HG.out CUT.out HE1.out) HR2.out HO2.out HR3.out HO3.out)
        have HFR := Lib.hid ((HR1.out.mono (by omega) (by omega)).trans ((HR2.out.mono (Nat.le_refl _) (by omega)).trans (HR3.out.mono (by omega) (Nat.le_refl _))))
        go_wp2_with fail
        go_end0
        exact ⟨rfl, M1, HS3.out, HFR.out, HFS.out⟩
      · have hcond : True := trivial
        have d0 : decide ((s : Int) < (m : Int)) = false := by rw [decide_eq_false_iff_not]; omega
        have d0' : decide (s < m) = false := by rw [decide_eq_false_iff_not]; omega
        have d1 : decide ((a : Int) < (s : Int)) = true := by rw [decide_eq_true_eq]; omega
        have d1' : decide (a < s) = true := by rw [decide_eq_true_eq]; omega
        have d2 : decide ((s : Int) < (mid : Int)) = true := by rw [decide_eq_true_eq]; omega
        have d2' : decide (s < mid) = true := by rw [decide_eq_true_eq]; omega
        have d3 : decide ((mid : Int) < (e : Int)) = false := by rw [decide_eq_false_iff_not]; omega
        have d3' : decide (mid < e) = false := by rw [decide_eq_false_iff_not]; omega
        clear hcond
        go_wp2_with fail
        have HE1 := Lib.hid (show ∀ p, at' M p = Stb.rotF (at' M) s m e p from fun p => (Stb.rotF_id (by omega) (by omega) (by omega) p).symm)
        have HR1 := Lib.hid (Res.refl M s e)
        obtain ⟨w1, hw1⟩ : ∃ w1 : World, w1 = wr := ⟨_, rfl⟩
        obtain ⟨M1, hM1⟩ : ∃ M1, M1 = M := ⟨_, rfl⟩
        have HS1 := Lib.hid (show SW w0 w1 base g cap n M1 by rw [hw1, hM1]; exact HS.out)
        rw [← hw1]
        replace HE1 := Lib.hid (show ∀ p, at' M1 p = Stb.rotF (at' M) s m e p by rw [hM1]; exact HE1.out)
        replace HR1 := Lib.hid (show Res M M1 s e by rw [hM1]; exact HR1.out)
        clear hw1 hM1
        refine (HIH.out a s mid w1 M1 (by omega) HS1.out (HR1.out.perm.trans HM0.out) (Stb.cut_left HG.out CUT.out HR1.out HE1.out (by omega) (by omega)) (by omega)).mono ?_
        rintro e2 w2 ⟨rfl, M2, hS, hR, hO⟩
        have HS2 := Lib.hid hS
        have HR2 := Lib.hid hR
        have HO2 := Lib.hid hO
        clear hS hR hO
        have HR3 := Lib.hid (Res.refl M2 mid b)
        have HO3 := Lib.hid ((Stb.cut_right_sorted HG.out CUT.out HE1.out (by omega)).congr (fun p h1 h2 => HR2.out.out p (Or.inr h1)))
        have HS3 := HS2
        have HFS := Lib.hid (Stb.halves (Stb.cut_mid HG.out CUT.out HE1.out) HR2.out HO2.out HR3.out HO3.out)
        have HFR := Lib.hid ((HR1.out.mono (by omega) (by omega)).trans ((HR2.out.mono (Nat.le_refl _) (by omega)).trans (HR3.out.mono (by omega) (Nat.le_refl _))))
        go_wp2_with fail
        go_end0
        exact ⟨rfl, M2, HS3.out, HFR.out, HFS.out⟩
      · have hcond : True := trivial
        have d0 : decide ((s : Int) < (m : Int)) = false := by rw [decide_eq_false_iff_not]; omega
        have d0' : decide (s < m) = false := by rw [decide_eq_false_iff_not]; omega
        have d1 : decide ((a : Int) < (s : Int)) = true := by rw [decide_eq_true_eq]; omega
        have d1' : decide (a < s) = true := by rw [decide_eq_true_eq]; omega
        have d2 : decide ((s : Int) < (mid : Int)) = false := by rw [decide_eq_false_iff_not]; omega
        have d2' : decide (s < mid) = false := by rw [decide_eq_false_iff_not]; omega
        have d3 : decide ((mid : Int) < (e : Int)) = false := by rw [decide_eq_false_iff_not]; omega
        have d3' : decide (mid < e) = false := by rw [decide_eq_false_iff_not]; omega
        clear hcond
        go_wp2_with fail
        have HE1 := Lib.hid (show ∀ p, at' M p = Stb.rotF (at' M) s m e p from fun p => (Stb.rotF_id (by omega) (by omega) (by omega) p).symm)
        have HR1 := Lib.hid (Res.refl M s e)
        obtain ⟨w1, hw1⟩ : ∃ w1 : World, w1 = wr := ⟨_, rfl⟩
        obtain ⟨M1, hM1⟩ : ∃ M1, M1 = M := ⟨_, rfl⟩
        have HS1 := Lib.hid (show SW w0 w1 base g cap n M1 by rw [hw1, hM1]; exact HS.out)
        rw [← hw1]
        replace HE1 := Lib.hid (show ∀ p, at' M1 p = Stb.rotF (at' M) s m e p by rw [hM1]; exact HE1.out)
        replace HR1 := Lib.hid (show Res M M1 s e by rw [hM1]; exact HR1.out)
        clear hw1 hM1
        have HR2 := Lib.hid (Res.refl M1 a mid)
        have HO2 := Lib.hid (Stb.cut_left_sorted HG.out CUT.out HE1.out (by omega))
        have HS2 := HS1
        have HR3 := Lib.hid (Res.refl M1 mid b)
        have HO3 := Lib.hid ((Stb.cut_right_sorted HG.out CUT.out HE1.out (by omega)).congr (fun p h1 h2 => HR2.out.out p (Or.inr h1)))
        have HS3 := HS2
        have HFS := Lib.hid (Stb.halves (Stb.cut_mid HG.out CUT.out HE1.out) HR2.out HO2.out HR3.out HO3.out)
        have HFR := Lib.hid ((HR1.out.mono (by omega) (by omega)).trans ((HR2.out.mono (Nat.le_refl _) (by omega)).trans (HR3.out.mono (by omega) (Nat.le_refl _))))
        go_end0
        exact ⟨rfl, M1, HS3.out, HFR.out, HFS.out⟩
      · have hcond : True := trivial
        have d0 : decide ((s : Int) < (m : Int)) = true := by rw [decide_eq_true_eq]; omega
        have d0' : decide (s < m) = true := by rw [decide_eq_true_eq]; omega
        have d1 : decide ((m : Int) < (e : Int)) = false := by rw [decide_eq_false_iff_not]; omega
        have d1' : decide (m < e) = false := by rw [decide_eq_false_iff_not]; omega
        have d2 : decide ((a : Int) < (s : Int)) = true := by rw [decide_eq_true_eq]; omega
        have d2' : decide (a < s) = true := by rw [decide_eq_true_eq]; omega
        have d3 : decide ((s : Int) < (mid : Int)) = false := by rw [decide_eq_false_iff_not]; omega
        have d3' : decide (s < mid) = false := by rw [decide_eq_false_iff_not]; omega
        have d4 : decide ((mid : Int) < (e : Int)) = true := by rw [decide_eq_true_eq]; omega
        have d4' : decide (mid < e) = true := by rw [decide_eq_true_eq]; omega
        have d5 : decide ((e : Int) < (b : Int)) = true := by rw [decide_eq_true_eq]; omega
        have d5' : decide (e < b) = true := by rw [decide_eq_true_eq]; omega
        clear hcond
        go_wp2_with fail
        have HE1 := Lib.hid (show ∀ p, at' M p = Stb.rotF (at' M) s m e p from fun p => (Stb.rotF_id (by omega) (by omega) (by omega) p).symm)
        have HR1 := Lib.hid (Res.refl M s e)
        obtain ⟨w1, hw1⟩ : ∃ w1 : World, w1 = wr := ⟨_, rfl⟩
        obtain ⟨M1, hM1⟩ : ∃ M1, M1 = M := ⟨_, rfl⟩
        have HS1 := Lib.hid (show SW w0 w1 base g cap n M1 by rw [hw1, hM1]; exact HS.out)
        rw [← hw1]
        replace HE1 := Lib.hid (show ∀ p, at' M1 p = Stb.rotF (at' M) s m e p by rw [hM1]; exact HE1.out)
        replace HR1 := Lib.hid (show Res M M1 s e by rw [hM1]; exact HR1.out)
        clear hw1 hM1
        have HR2 := Lib.hid (Res.refl M1 a mid)
        have HO2 := Lib.hid (Stb.cut_left_sorted HG.out CUT.out HE1.out (by omega))
        have HS2 := HS1
        refine (HIH.out mid e b w1 M1 (by omega) HS2.out (HR2.out.perm.trans (HR1.out.perm.trans HM0.out)) ((Stb.cut_right HG.out CUT.out HR1.out HE1.out (by omega) (by omega)).congr HR2.out.length (fun p h1 h2 => HR2.out.out p (Or.inr h1))) (by omega)).mono ?_
        rintro e3 w3 ⟨rfl, M3, hS, hR, hO⟩
        have HS3 := Lib.hid hS
        have HR3 := Lib.hid hR
        have HO3 := Lib.hid hO
        clear hS hR hO
        have HFS := Lib.hid (Stb.halves (Stb.cut_mid HG.out CUT.out HE1.out) HR2.out HO2.out HR3.out HO3.out)
        have HFR := Lib.hid ((HR1.out.mono (by omega) (by omega)).trans ((HR2.out.mono (Nat.le_refl _) (by omega)).trans (HR3.out.mono (by omega) (Nat.le_refl _))))
        go_wp2_with fail
        go_end0
        exact ⟨rfl, M3, HS3.out, HFR.out, HFS.out⟩

set_option maxHeartbeats 4000000 in
set_option maxRecDepth 100000 in
theorem merge_lo (R : Int → Int) (w0 w : World) (base g cap n c a m b mid : Nat) (M0 M : List Int) (h : SW w0 w base g cap n M) (hM0 : M.Perm M0) (hcmp : CmpOk R w0 base g cap n c M0)
    (hb : b ≤ n) (hn : (n : Int) ≤ 1000000) (hm : Mrg R M a m b) (h1 : a + 2 ≤ m) (h2 : m + 2 ≤ b) (hmid : mid = (a + b) / 2) (hmm : m ≤ mid)
    (ih : ∀ a' m' b' w M, b' - a' < b - a → SW w0 w base g cap n M → M.Perm M0 → Mrg R M a' m' b' → b' ≤ n →
      Calls Tryz.prog 95 #[.slice (some ⟨g, 0, none⟩) n cap, .int .i64 a', .int .i64 m', .int .i64 b', .func (.func 75) #[] #[.pointer (some ⟨c, 0, none⟩)]] w (Merged R w0 base g cap n a' b' M)) :
    Calls Tryz.prog 95 #[.slice (some ⟨g, 0, none⟩) n cap, .int .i64 a, .int .i64 m, .int .i64 b, .func (.func 75) #[] #[.pointer (some ⟨c, 0, none⟩)]] w (Merged R w0 base g cap n a b M) := by
  have H := Lib.hid h
  have HM0 := Lib.hid hM0
  have HC := Lib.hid hcmp
  have HG := Lib.hid hm
  have HIH := Lib.hid ih
  have HMID := Lib.hid hmid
  clear h hM0 hcmp hm ih
  have t1 : (((m : Int) - (a : Int)) == 1) = false := by rw [beq_eq_false_iff_ne]; omega
  have t2 : (((b : Int) - (m : Int)) == 1) = false := by rw [beq_eq_false_iff_ne]; omega
  have hb1 : IntKind.i64.wrap ((m : Int) - (a : Int)) = (m : Int) - (a : Int) := IntWalk.i64_in _ (by omega)
  have hb3 : IntKind.i64.wrap ((b : Int) - (m : Int)) = (b : Int) - (m : Int) := IntWalk.i64_in _ (by omega)
  have emid : ((a : Int) + (b : Int)) / 2 = (mid : Int) := by omega
  have md1 : a + 2 ≤ mid := by omega
  have md2 : mid + 2 ≤ b := by omega
  have md3 : 2 * mid ≤ a + b := by omega
  have md4 : a + b ≤ 2 * mid + 1 := by omega
  have tm : decide ((mid : Int) < (m : Int)) = false := by rw [decide_eq_false_iff_not]; omega
  have tm' : decide (mid < m) = false := by rw [decide_eq_false_iff_not]; omega
  clear hmid
  go_enter Tryz.func95, Tryz.ntmps95
  go_wp2_with fail
  go_loopw [20, 21] (fun sv rv wr => ∃ (s r : Nat), sv = .int .i64 s ∧ rv = .int .i64 r ∧ a ≤ s ∧ s ≤ r ∧ r ≤ m ∧ Hid (SW w0 wr base g cap n M) ∧ Hid (s = a ∨ R (at' M (mid + m - 1 - (s - 1))) ≤ R (at' M (s - 1))) ∧ Hid (r = m ∨ R (at' M r) < R (at' M (mid + m - 1 - r)))) (fun sv rv _ => (intOf rv - intOf sv).toNat)
  case atStart => exact ⟨a, m, rfl, rfl, by omega, by omega, by omega, H, Lib.hid (Or.inl rfl), Lib.hid (Or.inl rfl)⟩
  case round =>
    obtain ⟨s, r, rfl, rfl, hs, hsr, hrr, HS, HL, HH⟩ := hrel
    by_cases hlt : s < r
    · have t3 : decide ((s : Int) < (r : Int)) = true := by rw [decide_eq_true_eq]; omega
      have t3' : decide (s < r) = true := by simpa using hlt
      obtain ⟨k, hk⟩ : ∃ k : Nat, (s + r) / 2 = k := ⟨_, rfl⟩
      have ek : ((s : Int) + (r : Int)) / 2 = (k : Int) := by omega
      have k0 : s ≤ k := by omega
      have k1 : k < r := by omega
      clear hk
      obtain ⟨u, hu⟩ : ∃ u : Nat, mid + m - 1 - k = u := ⟨_, rfl⟩
      have eu : (mid : Int) + (m : Int) - 1 - (k : Int) = (u : Int) := by omega
      have u0 : m ≤ u := by omega
      have u1 : u < b := by omega
      have HU := Lib.hid hu
      clear hu
      have hp2 : M.Perm M0 := HM0.out
      have c1 := HS.out.cell (j := u) (by omega)
      have c2 := HS.out.cell (j := k) (by omega)
      have m1 := at_mem HS.out.len (show u < n by omega) hp2
      have m2 := at_mem HS.out.len (show k < n by omega) hp2
      have hun : u < n := by omega
      have hkn : k < n := by omega
      obtain ⟨x, hx⟩ : ∃ x, at' M u = x := ⟨_, rfl⟩
      obtain ⟨y, hy⟩ : ∃ y, at' M k = y := ⟨_, rfl⟩
      rw [hx] at c1 m1
      rw [hy] at c2 m2
      have HX := Lib.hid hx
      have HY := Lib.hid hy
      have HQ := Lib.hid (fun q => HC.out (wr.drewN q) M (HS.out.drewN q) x y m1 m2)
      clear hx hy hp2 m1 m2
      by_cases hc : R y < R x
      · have t4 : decide (Lib.compareInt (R y) (R x) < 0) = true := by rw [decide_eq_true_eq, cmp_neg]; exact hc
        have HH2 := Lib.hid (show k = m ∨ R (at' M k) < R (at' M (mid + m - 1 - k)) from Or.inr (by rw [HU.out, HX.out, HY.out]; exact hc))
        generalize Lib.compareInt (R y) (R x) = cv at t4 HQ
        go_wp2_with fail
        go_quiet ((go_at_call 75; exact Calls.quiet_of (HQ.out _)))
        go_wp2_with fail
        go_roundw
        case rel => exact ⟨s, k, rfl, rfl, hs, k0, by omega, Lib.hid (HS.out.drewN _), HL, HH2⟩
        case measure => simp [intOf]; omega
      · have t4 : decide (Lib.compareInt (R y) (R x) < 0) = false := by rw [decide_eq_false_iff_not, cmp_neg]; exact hc
        have HL2 := Lib.hid (show k + 1 = a ∨ R (at' M (mid + m - 1 - (k + 1 - 1))) ≤ R (at' M (k + 1 - 1)) from Or.inr (by rw [Nat.add_sub_cancel, HU.out, HX.out, HY.out]; omega))
        generalize Lib.compareInt (R y) (R x) = cv at t4 HQ
        go_wp2_with fail
        go_quiet ((go_at_call 75; exact Calls.quiet_of (HQ.out _)))
        go_wp2_with fail
        go_roundw
        case rel => exact ⟨k + 1, r, by go_num, rfl, by omega, by omega, hrr, Lib.hid (HS.out.drewN _), HL2, HH⟩
        case measure => simp [intOf]; omega
    · have t3 : decide ((s : Int) < (r : Int)) = false := by rw [decide_eq_false_iff_not]; omega
      have t3' : decide (s < r) = false := by simpa using hlt
      obtain rfl : s = r := by omega
      obtain ⟨e, he⟩ : ∃ e : Nat, mid + m - s = e := ⟨_, rfl⟩
      have ee : (mid : Int) + (m : Int) - (s : Int) = (e : Int) := by omega
      have hsum : s + e = mid + m := by omega
      have CUT := Lib.hid (show Stb.Cutp R M a m b mid s e from by
        rw [← he]
        refine Stb.cut_of HG.out HMID.out (by omega) (by omega) ?_ ?_
        · rcases HL.out with h | h
          · exact Or.inr (Or.inl ⟨hmm, h⟩)
          · exact Or.inr (Or.inr (Int.not_lt.2 h))
        · rcases HH.out with h | h
          · exact Or.inr (Or.inl ⟨hmm, h⟩)
          · exact Or.inr (Or.inr h))
      clear he hlt hsr
      have b1 : m ≤ e := CUT.out.me
      have b2 : e ≤ b := CUT.out.eb
      have b3 : a ≤ s := CUT.out.as
      have b4 : s ≤ m := CUT.out.sm
      have b5 : s ≤ mid := CUT.out.smid
      have b6 : mid ≤ e := CUT.out.mide
      have hways : (s < m ∧ m < e ∧ a < s ∧ e < b) ∨ (s < m ∧ m < e ∧ a < s ∧ b ≤ e) ∨ (s < m ∧ m < e ∧ s ≤ a ∧ e < b) ∨ (s < m ∧ m < e ∧ s ≤ a ∧ b ≤ e) ∨ (m ≤ s ∧ m < mid) ∨ (m ≤ s ∧ mid ≤ m) ∨ (s < m ∧ e ≤ m) := by omega
      rcases hways with ⟨z0, z1, z2, z3⟩ | ⟨z0, z1, z2, z3⟩ | ⟨z0, z1, z2, z3⟩ | ⟨z0, z1, z2, z3⟩ | ⟨z0, z1⟩ | ⟨z0, z1⟩ | ⟨z0, z1⟩
      · have hcond : True := trivial
        have d0 : decide ((s : Int) < (m : Int)) = true := by rw [decide_eq_true_eq]; omega
        have d0' : decide (s < m) = true := by rw [decide_eq_true_eq]; omega
        have d1 : decide ((m : Int) < (e : Int)) = true := by rw [decide_eq_true_eq]; omega
        have d1' : decide (m < e) = true := by rw [decide_eq_true_eq]; omega
        have d2 : decide ((a : Int) < (s : Int)) = true := by rw [decide_eq_true_eq]; omega
        have d2' : decide (a < s) = true := by rw [decide_eq_true_eq]; omega
        have d3 : decide ((s : Int) < (mid : Int)) = true := by rw [decide_eq_true_eq]; omega
        have d3' : decide (s < mid) = true := by rw [decide_eq_true_eq]; omega
        have d4 : decide ((mid : Int) < (e : Int)) = true := by rw [decide_eq_true_eq]; omega
        have d4' : decide (mid < e) = true := by rw [decide_eq_true_eq]; omega
        have d5 : decide ((e : Int) < (b : Int)) = true := by rw [decide_eq_true_eq]; omega
        have d5' : decide (e < b) = true := by rw [decide_eq_true_eq]; omega
        clear hcond
        go_wp2_with fail
        refine (rotate_any w0 wr base g cap n s m e M (.func (.func 75) #[] #[.pointer (some ⟨c, 0, none⟩)]) HS.out (by omega) (by omega) (by omega) hn).mono ?_
        rintro e1 w1 ⟨rfl, M1, hS, hP, hE⟩
        have HS1 := Lib.hid hS
        have HE1 := Lib.hid hE
        have HR1 := Lib.hid (Stb.rot_res hP (by omega) (by omega) hE)
        clear hS hP hE
        go_wp2_with fail
        refine (HIH.out a s mid w1 M1 (by omega) HS1.out (HR1.out.perm.trans HM0.out) (Stb.cut_left HG.out CUT.out HR1.out HE1.out (by omega) (by omega)) (by omega)).mono ?_
        rintro e2 w2 ⟨rfl, M2, hS, hR, hO⟩
        have HS2 := Lib.hid hS
        have HR2 := Lib.hid hR
        have HO2 := Lib.hid hO
        clear hS hR hO
        go_wp2_with fail
        refine (HIH.out mid e b w2 M2 (by omega) HS2.out (HR2.out.perm.trans (HR1.out.perm.trans HM0.out)) ((Stb.cut_right HG.out CUT.out HR1.out HE1.out (by omega) (by omega)).congr HR2.out.length (fun p h1 h2 => HR2.out.out p (Or.inr h1))) (by omega)).mono ?_
        rintro e3 w3 ⟨rfl, M3, hS, hR, hO⟩
        have HS3 := Lib.hid hS
        have HR3 := Lib.hid hR
        have HO3 := Lib.hid hO
        clear hS hR hO
        have HFS := Lib.hid (Stb.halves (Stb.cut_mid HG.out CUT.out HE1.out) HR2.out HO2.out HR3.out HO3.out)
        have HFR := Lib.hid ((HR1.out.mono (by omega) (by omega)).trans ((HR2.out.mono (Nat.le_refl _) (by omega)).trans (HR3.out.mono (by omega) (Nat.le_refl _))))
        go_wp2_with fail
        go_end0
        exact ⟨rfl, M3, HS3.out, HFR.out, HFS.out⟩
      · have hcond : True := trivial
        have d0 : decide ((s : Int) < (m : Int)) = true := by rw [decide_eq_true_eq]; omega
        have d0' : decide (s < m) = true := by rw [decide_eq_true_eq]; omega
        have d1 : decide ((m : Int) < (e : Int)) = true := by rw [decide_eq_true_eq]; omega
        have d1' : decide (m < e) = true := by rw [decide_eq_true_eq]; omega
        have d2 : decide ((a : Int) < (s : Int)) = true := by rw [decide_eq_true_eq]; omega
        have d2' : decide (a < s) = true := by rw [decide_eq_true_eq]; omega
        have d3 : decide ((s : Int) < (mid : Int)) = true := by rw [decide_eq_true_eq]; omega
        have d3' : decide (s < mid) = true := by rw [decide_eq_true_eq]; omega
        have d4 : decide ((mid : Int) < (e : Int)) = true := by rw [decide_eq_true_eq]; omega
        have d4' : decide (mid < e) = true := by rw [decide_eq_true_eq]; omega
        have d5 : decide ((e : Int) < (b : Int)) = false := by rw [decide_eq_false_iff_not]; omega
        have d5' : decide (e < b) = false := by rw [decide_eq_false_iff_not]; omega
        clear hcond
        go_wp2_with fail
        refine (rotate_any w0 wr base g cap n s m e M (.func (.func 75) #[] #[.pointer (some ⟨c, 0, none⟩)]) HS.out (by omega) (by omega) (by omega) hn).mono ?_
        rintro e1 w1 ⟨rfl, M1, hS, hP, hE⟩
        have HS1 := Lib.hid hS
        have HE1 := Lib.hid hE
        have HR1 := Lib.hid (Stb.rot_res hP (by omega) (by omega) hE)
        clear hS hP hE
        go_wp2_with fail
        refine (HIH.out a s mid w1 M1 (by omega) HS1.out (HR1.out.perm.trans HM0.out) (Stb.cut_left HG.out CUT.out HR1.out HE1.out (by omega) (by omega)) (by omega)).mono ?_
        rintro e2 w2 ⟨rfl, M2, hS, hR, hO⟩
        have HS2 := Lib.hid hS
        have HR2 := Lib.hid hR
        have HO2 := Lib.hid hO
        clear hS hR hO
        have HR3 := Lib.hid (Res.refl M2 mid b)
        have HO3 := Lib.hid ((Stb.cut_right_sorted HG.out CUT.out HE1.out (by omega)).congr (fun p h1 h2 => HR2.out.out p (Or.inr h1)))
        have HS3 := HS2
        have HFS := Lib.hid (Stb.halves (Stb.cut_mid HG.out CUT.out HE1.out) HR2.out HO2.out HR3.out HO3.out)
        have HFR := Lib.hid ((HR1.out.mono (by omega) (by omega)).trans ((HR2.out.mono (Nat.le_refl _) (by omega)).trans (HR3.out.mono (by omega) (Nat.le_refl _))))
        go_wp2_with fail
        go_end0
        exact ⟨rfl, M2, HS3.out, HFR.out, HFS.out⟩
      · have hcond : True := trivial
        have d0 : decide ((s : Int) < (m : Int)) = true := by rw [decide_eq_true_eq]; omega
        have d0' : decide (s < m) = true := by rw [decide_eq_true_eq]; omega
        have d1 : decide ((m : Int) < (e : Int)) = true := by rw [decide_eq_true_eq]; omega
        have d1' : decide (m < e) = true := by rw [decide_eq_true_eq]; omega
        have d2 : decide ((a : Int) < (s : Int)) = false := by rw [decide_eq_false_iff_not]; omega
        have d2' : decide (a < s) = false := by rw [decide_eq_false_iff_not]; omega
        have d3 : decide ((mid : Int) < (e : Int)) = true := by rw [decide_eq_true_eq]; omega
        have d3' : decide (mid < e) = true := by rw [decide_eq_true_eq]; omega
        have d4 : decide ((e : Int) < (b : Int)) = true := by rw [decide_eq_true_eq]; omega
        have d4' : decide (e < b) = true := by rw [decide_eq_true_eq]; omega
        clear hcond
        go_wp2_with fail
        refine (rotate_any w0 wr base g cap n s m e M (.func (.func 75) #[] #[.pointer (some ⟨c, 0, none⟩)]) HS.out (by omega) (by omega) (by omega) hn).mono ?_
        rintro e1 w1 ⟨rfl, M1, hS, hP, hE⟩
        have HS1 := Lib.hid hS
        have HE1 := Lib.hid hE
        have HR1 := Lib.hid (Stb.rot_res hP (by omega) (by omega) hE)
        clear hS hP hE
        go_wp2_with fail
        have HR2 := Lib.hid (Res.refl M1 a mid)
        have HO2 := Lib.hid (Stb.cut_left_sorted HG.out CUT.out HE1.out (by omega))
        have HS2 := HS1
        refine (HIH.out mid e b w1 M1 (by omega) HS2.out (HR2.out.perm.trans (HR1.out.perm.trans HM0.out)) ((Stb.cut_right HG.out CUT.out HR1.out HE1.out (by omega) (by omega)).congr HR2.out.length (fun p h1 h2 => HR2.out.out p (Or.inr h1))) (by omega)).mono ?_
        rintro e3 w3 ⟨rfl, M3, hS, hR, hO⟩
        have HS3 := Lib.hid hS
        have HR3 := Lib.hid hR
        have HO3 := Lib.hid hO
        clear hS hR hO
        have HFS := Lib.hid (Stb.halves (Stb.cut_mid HG.out CUT.out HE1.out) HR2.out HO2.out HR3.out HO3.out)
        have HFR := Lib.hid ((HR1.out.mono (by omega) (by omega)).trans ((HR2.out.mono (Nat.le_refl _) (by omega)).trans (HR3.out.mono (by omega) (Nat.le_refl _))))
        go_wp2_with fail
        go_end0
        exact ⟨rfl, M3, HS3.out, HFR.out, HFS.out⟩
      · have hcond : True := trivial
        have d0 : decide ((s : Int) < (m : Int)) = true := by rw [decide_eq_true_eq]; omega
        have d0' : decide (s < m) = true := by rw [decide_eq_true_eq]; omega
        have d1 : decide ((m : Int) < (e : Int)) = true := by rw [decide_eq_true_eq]; omega
        have d1' : decide (m < e) = true := by rw [decide_eq_true_eq]; omega
        have d2 : decide ((a : Int) < (s : Int)) = false := by rw [decide_eq_false_iff_not]; omega
        have d2' : decide (a < s) = false := by rw [decide_eq_false_iff_not]; omega
        have d3 : decide ((mid : Int) < (e : Int)) = true := by rw [decide_eq_true_eq]; omega
        have d3' : decide (mid < e) = true := by rw [decide_eq_true_eq]; omega
        have d4 : decide ((e : Int) < (b : Int)) = false := by rw [decide_eq_false_iff_not]; omega
        have d4' : decide (e < b) = false := by rw [decide_eq_false_iff_not]; omega
        clear hcond
        go_wp2_with fail
        refine (rotate_any w0 wr base g cap n s m e M (.func (.func 75) #[] #[.pointer (some ⟨c, 0, none⟩)]) HS.out (by omega) (by omega) (by omega) hn).mono ?_
        rintro e1 w1 ⟨rfl, M1, hS, hP, hE⟩
        have HS1 := Lib.hid hS
        have HE1 := Lib.hid hE
        have HR1 := Lib.hid (Stb.rot_res hP (by omega) (by omega) hE)
        clear hS hP hE
        have HR2 := Lib.hid (Res.refl M1 a mid)
        have HO2 := Lib.hid (Stb.cut_left_sorted HG.out CUT.out HE1.out (by omega))
        have HS2 := HS1
        have HR3 := Lib.hid (Res.refl M1 mid b)
        have HO3 := Lib.hid ((Stb.cut_right_sorted HG.out CUT.out HE1.out (by omega)).congr (fun p h1 h2 => HR2.out.out p (Or.inr h1)))
        have HS3 := HS2
        have HFS := Lib.hid (Stb.halves (Stb.cut_mid HG.out CUT.out HE1.out) HR2.out HO2.out HR3.out HO3.out)
        have HFR := Lib.hid ((HR1.out.mono (by omega) (by omega)).trans ((HR2.out.mono (Nat.le_refl _) (by omega)).trans (HR3.out.mono (by omega) (Nat.le_refl _))))
        go_wp2_with fail
        go_end0
        exact ⟨rfl, M1, HS3.out, HFR.out, HFS.out⟩
      · have hcond : True := trivial
        have d0 : decide ((s : Int) < (m : Int)) = false := by rw [decide_eq_false_iff_not]; omega
        have d0' : decide (s < m) = false := by rw [decide_eq_false_iff_not]; omega
        have d1 : decide ((a : Int) < (s : Int)) = true := by rw [decide_eq_true_eq]; omega
        have d1' : decide (a < s) = true := by rw [decide_eq_true_eq]; omega
        have d2 : decide ((s : Int) < (mid : Int)) = true := by rw [decide_eq_true_eq]; omega
        have d2' : decide (s < mid) = true := by rw [decide_eq_true_eq]; omega
        have d3 : decide ((mid : Int) < (e : Int)) = false := by rw [decide_eq_false_iff_not]; omega
        have d3' : decide (mid < e) = false := by rw [decide_eq_false_iff_not]; omega
        clear hcond
        go_wp2_with fail
        have HE1 := Lib.hid (show ∀ p, at' M p = Stb.rotF (at' M) s m e p from fun p => (Stb.rotF_id (by omega) (by omega) (by omega) p).symm)
        have HR1 := Lib.hid (Res.refl M s e)
        obtain ⟨w1, hw1⟩ : ∃ w1 : World, w1 = wr := ⟨_, rfl⟩
        obtain ⟨M1, hM1⟩ : ∃ M1, M1 = M := ⟨_, rfl⟩
        have HS1 := Lib.hid (show SW w0 w1 base g cap n M1 by rw [hw1, hM1]; exact HS.out)
        rw [← hw1]
        replace HE1 := Lib.hid (show ∀ p, at' M1 p = Stb.rotF (at' M) s m e p by rw [hM1]; exact HE1.out)
        replace HR1 := Lib.hid (show Res M M1 s e by rw [hM1]; exact HR1.out)
        clear hw1 hM1
        refine (HIH.out a s mid w1 M1 (by omega) HS1.out (HR1.out.perm.trans HM0.out) (Stb.cut_left HG.out CUT.out HR1.out HE1.out (by omega) (by omega)) (by omega)).mono ?_
        rintro e2 w2 ⟨rfl, M2, hS, hR, hO⟩
        have HS2 := Lib.hid hS
        have HR2 := Lib.hid hR
        have HO2 := Lib.hid hO
        clear hS hR hO
        have HR3 := Lib.hid (Res.refl M2 mid b)
        have HO3 := Lib.hid ((Stb.cut_right_sorted HG.out CUT.out HE1.out (by omega)).congr (fun p h1 h2 => HR2.out.out p (Or.inr h1)))
        have HS3 := HS2
        have HFS := Lib.hid (Stb.halves (Stb.cut_mid HG.out CUT.out HE1.out) HR2.out HO2.out HR3.out HO3.out)
        have HFR := Lib.hid ((HR1.out.mono (by omega) (by omega)).trans ((HR2.out.mono (Nat.le_refl _) (by omega)).trans (HR3.out.mono (by omega) (Nat.le_refl _))))
        go_wp2_with fail
        go_end0
        exact ⟨rfl, M2, HS3.out, HFR.out, HFS.out⟩
      · have hcond : True := trivial
        have d0 : decide ((s : Int) < (m : Int)) = false := by rw [decide_eq_false_iff_not]; omega
        have d0' : decide (s < m) = false := by rw [decide_eq_false_iff_not]; omega
        have d1 : decide ((a : Int) < (s : Int)) = true := by rw [decide_eq_true_eq]; omega
        have d1' : decide (a < s) = true := by rw [decide_eq_true_eq]; omega
        have d2 : decide ((s : Int) < (mid : Int)) = false := by rw [decide_eq_false_iff_not]; omega
        have d2' : decide (s < mid) = false := by rw [decide_eq_false_iff_not]; omega
        have d3 : decide ((mid : Int) < (e : Int)) = false := by rw [decide_eq_false_iff_not]; omega
        have d3' : decide (mid < e) = false := by rw [decide_eq_false_iff_not]; omega
        clear hcond
        go_wp2_with fail
        have HE1 := Lib.hid (show ∀ p, at' M p = Stb.rotF (at' M) s m e p from fun p => (Stb.rotF_id (by omega) (by omega) (by omega) p).symm)
        have HR1 := Lib.hid (Res.refl M s e)
        obtain ⟨w1, hw1⟩ : ∃ w1 : World, w1 = wr := ⟨_, rfl⟩
        obtain ⟨M1, hM1⟩ : ∃ M1, M1 = M := ⟨_, rfl⟩
        have HS1 := Lib.hid (show SW w0 w1 base g cap n M1 by rw [hw1, hM1]; exact HS.out)
        rw [← hw1]
        replace HE1 := Lib.hid (show ∀ p, at' M1 p = Stb.rotF (at' M) s m e p by rw [hM1]; exact HE1.out)
        replace HR1 := Lib.hid (show Res M M1 s e by rw [hM1]; exact HR1.out)
        clear hw1 hM1
        have HR2 := Lib.hid (Res.refl M1 a mid)
        have HO2 := Lib.hid (Stb.cut_left_sorted HG.out CUT.out HE1.out (by omega))
        have HS2 := HS1
        have HR3 := Lib.hid (Res.refl M1 mid b)
        have HO3 := Lib.hid ((Stb.cut_right_sorted HG.out CUT.out HE1.out (by omega)).congr (fun p h1 h2 => HR2.out.out p (Or.inr h1)))
        have HS3 := HS2
        have HFS := Lib.hid (Stb.halves (Stb.cut_mid HG.out CUT.out HE1.out) HR2.out HO2.out HR3.out HO3.out)
        have HFR := Lib.hid ((HR1.out.mono (by omega) (by omega)).trans ((HR2.out.mono (Nat.le_refl _) (by omega)).trans (HR3.out.mono (by omega) (Nat.le_refl _))))
        go_end0
        exact ⟨rfl, M1, HS3.out, HFR.out, HFS.out⟩
      · have hcond : True := trivial
        have d0 : decide ((s : Int) < (m : Int)) = true := by rw [decide_eq_true_eq]; omega
        have d0' : decide (s < m) = true := by rw [decide_eq_true_eq]; omega
        have d1 : decide ((m : Int) < (e : Int)) = false := by rw [decide_eq_false_iff_not]; omega
        have d1' : decide (m < e) = false := by rw [decide_eq_false_iff_not]; omega
        have d2 : decide ((a : Int) < (s : Int)) = true := by rw [decide_eq_true_eq]; omega
        have d2' : decide (a < s) = true := by rw [decide_eq_true_eq]; omega
        have d3 : decide ((s : Int) < (mid : Int)) = false := by rw [decide_eq_false_iff_not]; omega
        have d3' : decide (s < mid) = false := by rw [decide_eq_false_iff_not]; omega
        have d4 : decide ((mid : Int) < (e : Int)) = true := by rw [decide_eq_true_eq]; omega
        have d4' : decide (mid < e) = true := by rw [decide_eq_true_eq]; omega
        have d5 : decide ((e : Int) < (b : Int)) = true := by rw [decide_eq_true_eq]; omega
        have d5' : decide (e < b) = true := by rw [decide_eq_true_eq]; omega
        clear hcond
        go_wp2_with fail
        have HE1 := Lib.hid (show ∀ p, at' M p = Stb.rotF (at' M) s m e p from fun p => (Stb.rotF_id (by omega) (by omega) (by omega) p).symm)
        have HR1 := Lib.hid (Res.refl M s e)
        obtain ⟨w1, hw1⟩ : ∃ w1 : World, w1 = wr := ⟨_, rfl⟩
        obtain ⟨M1, hM1⟩ : ∃ M1, M1 = M := ⟨_, rfl⟩
        have HS1 := Lib.hid (show SW w0 w1 base g cap n M1 by rw [hw1, hM1]; exact HS.out)
        rw [← hw1]
        replace HE1 := Lib.hid (show ∀ p, at' M1 p = Stb.rotF (at' M) s m e p by rw [hM1]; exact HE1.out)
        replace HR1 := Lib.hid (show Res M M1 s e by rw [hM1]; exact HR1.out)
        clear hw1 hM1
        have HR2 := Lib.hid (Res.refl M1 a mid)
        have HO2 := Lib.hid (Stb.cut_left_sorted HG.out CUT.out HE1.out (by omega))
        have HS2 := HS1
        refine (HIH.out mid e b w1 M1 (by omega) HS2.out (HR2.out.perm.trans (HR1.out.perm.trans HM0.out)) ((Stb.cut_right HG.out CUT.out HR1.out HE1.out (by omega) (by omega)).congr HR2.out.length (fun p h1 h2 => HR2.out.out p (Or.inr h1))) (by omega)).mono ?_
        rintro e3 w3 ⟨rfl, M3, hS, hR, hO⟩
        have HS3 := Lib.hid hS
        have HR3 := Lib.hid hR
        have HO3 := Lib.hid hO
        clear hS hR hO
        have HFS := Lib.hid (Stb.halves (Stb.cut_mid HG.out CUT.out HE1.out) HR2.out HO2.out HR3.out HO3.out)
        have HFR := Lib.hid ((HR1.out.mono (by omega) (by omega)).trans ((HR2.out.mono (Nat.le_refl _) (by omega)).trans (HR3.out.mono (by omega) (Nat.le_refl _))))
        go_wp2_with fail
        go_end0
        exact ⟨rfl, M3, HS3.out, HFR.out, HFS.out⟩
end Go.Proofs.YtbkpoepacjinlaaGreat

/- The stable sort of the library: the merge at every place; the stable sort. -/
namespace Go.Proofs.YtbkpoepacjinlaaGreat
open Go.RowKit Go.BigFrame
open Stb (at' sw2 Srt Res Mrg)

theorem merge_any (R : Int → Int) (w0 : World) (base g cap n c : Nat) (M0 : List Int) (hcmp : CmpOk R w0 base g cap n c M0) (hn : (n : Int) ≤ 1000000) :
    ∀ (k a m b : Nat) (w : World) (M : List Int), b - a ≤ k → SW w0 w base g cap n M → M.Perm M0 → Mrg R M a m b → b ≤ n →
      Calls Tryz.prog 95 #[.slice (some ⟨g, 0, none⟩) n cap, .int .i64 a, .int .i64 m, .int .i64 b, .func (.func 75) #[] #[.pointer (some ⟨c, 0, none⟩)]] w (Merged R w0 base g cap n a b M)
  | 0, a, m, b, w, M, hk, h, hM, hm, hb => by have := hm.am; have := hm.mb; omega
  | k + 1, a, m, b, w, M, hk, h, hM, hm, hb => by
    have h1 := hm.am
    have h2 := hm.mb
    by_cases e1 : m = a + 1
    · subst e1
      exact merge_one R w0 w base g cap n c a b M0 M h hM hcmp hb hn hm
    · by_cases e2 : b = m + 1
      · subst e2
        exact merge_last R w0 w base g cap n c a (m + 1) M0 M h hM hcmp hb hn m hm e1 rfl
      · have ih : ∀ a' m' b' w M, b' - a' < b - a → SW w0 w base g cap n M → M.Perm M0 → Mrg R M a' m' b' → b' ≤ n →
            Calls Tryz.prog 95 #[.slice (some ⟨g, 0, none⟩) n cap, .int .i64 a', .int .i64 m', .int .i64 b', .func (.func 75) #[] #[.pointer (some ⟨c, 0, none⟩)]] w (Merged R w0 base g cap n a' b' M) :=
          fun a' m' b' w M hlt hs hp hg hb' => merge_any R w0 base g cap n c M0 hcmp hn k a' m' b' w M (by omega) hs hp hg hb'
        by_cases e3 : (a + b) / 2 < m
        · exact merge_hi R w0 w base g cap n c a m b ((a + b) / 2) M0 M h hM hcmp hb hn hm (by omega) (by omega) rfl e3 ih
        · exact merge_lo R w0 w base g cap n c a m b ((a + b) / 2) M0 M h hM hcmp hb hn hm (by omega) (by omega) rfl (by omega) ih

/-- blocks of s numbers: each number lies in its own block -/
def Blk (s n : Nat) (M : List Int) (lo : Nat) : Prop := ∀ p, lo ≤ p → p < n → ∃ v : Nat, at' M p = v ∧ v < n ∧ v / s = p / s
/-- each block before hi is sorted -/
def Chk (R : Int → Int) (s n : Nat) (M : List Int) (lo hi : Nat) : Prop := ∀ p q, lo ≤ p → p < q → q < hi → q < n → p / s = q / s → Stb.Bf R (at' M p) (at' M q)

theorem div_mono {p q s : Nat} (h : p ≤ q) : p / s ≤ q / s := Nat.div_le_div_right h
theorem div_block {p s t : Nat} (_hs : 0 < s) (h1 : s * t ≤ p) (h2 : p < s * t + s) : p / s = t := by
  apply Nat.div_eq_of_lt_le
  · rw [Nat.mul_comm]; exact h1
  · rw [Nat.succ_mul, Nat.mul_comm]; exact h2
theorem div_double {v p s : Nat} (h : v / s = p / s) : v / (2 * s) = p / (2 * s) := by
  rw [Nat.mul_comm, ← Nat.div_div_eq_div_mul, ← Nat.div_div_eq_div_mul, h]
theorem Res.blk {M M' : List Int} {s n a b lo : Nat} (h : Res M M' a b) (hb : b ≤ n) (hs : ∀ p, a ≤ p → p < b → p / s = a / s) (g : Blk s n M lo) (hlo : lo ≤ a) : Blk s n M' lo := by
  intro p h1 h2
  by_cases hp : a ≤ p ∧ p < b
  · obtain ⟨q, q1, q2, e⟩ := h.img p hp.1 hp.2
    obtain ⟨v, v1, v2, v3⟩ := g q (by omega) (by omega)
    exact ⟨v, by rw [e, v1], v2, by rw [v3, hs q q1 q2, hs p hp.1 hp.2]⟩
  · obtain ⟨v, v1, v2, v3⟩ := g p h1 h2
    exact ⟨v, by rw [h.out p (by omega), v1], v2, v3⟩
theorem Res.chk {R : Int → Int} {M M' : List Int} {s n a b lo : Nat} (h : Res M M' a b) (_hb : b ≤ n) (hs : ∀ p, a ≤ p → p < b → p / s = a / s) (g : Chk R s n M lo a) (hsrt : Srt R M' a b) (hlo : ∀ p, p < a → p / s ≠ a / s) : Chk R s n M' lo b := by
  intro p q h1 h2 h3 h4 h5
  by_cases hq : q < a
  · show Stb.Bf R _ _
    rw [h.out p (Or.inl (by omega)), h.out q (Or.inl hq)]
    exact g p q h1 h2 hq h4 h5
  · by_cases hp : a ≤ p
    · exact hsrt p q hp h2 h3
    · exact absurd (h5.trans (hs q (by omega) h3)) (hlo p (by omega))
/-- what a merge of two neighbour blocks finds -/
theorem mrg_of {R : Int → Int} {M : List Int} {s n a t b : Nat} (hs : 0 < s) (ha : a = 2 * s * t) (h1 : a + s < b) (hb : b ≤ a + 2 * s) (hbn : b ≤ n) (hl : M.length = n) (hB : Blk s n M a) (hC : Chk R s n M a n) : Mrg R M a (a + s) b := by
  have d1 : ∀ p, a ≤ p → p < a + s → p / s = 2 * t := fun p h2 h3 => div_block hs (by rw [← Nat.mul_assoc, Nat.mul_comm s 2, ← ha]; exact h2) (by rw [← Nat.mul_assoc, Nat.mul_comm s 2, ← ha]; exact h3)
  have e2 : s * (2 * t + 1) = a + s := by rw [Nat.mul_add, Nat.mul_one, ← Nat.mul_assoc, Nat.mul_comm s 2, ← ha]
  have d2 : ∀ p, a + s ≤ p → p < b → p / s = 2 * t + 1 := fun p h2 h3 => div_block hs (by rw [e2]; exact h2) (by rw [e2]; omega)
  refine ⟨by omega, h1, by omega, ?_, ?_, ?_⟩
  · intro p q h2 h3 h4
    exact hC p q h2 h3 (by omega) (by omega) (by rw [d1 p h2 (by omega), d1 q (by omega) h4])
  · intro p q h2 h3 h4
    exact hC p q (by omega) h3 (by omega) (by omega) (by rw [d2 p h2 (by omega), d2 q (by omega) h4])
  · intro p q h2 h3 h4 h5
    obtain ⟨v, v1, _, v3⟩ := hB p h2 (by omega)
    obtain ⟨u, u1, _, u3⟩ := hB q (by omega) (by omega)
    rw [v1, u1]
    rw [d1 p h2 h3] at v3
    rw [d2 q h4 h5] at u3
    have hvu : v < u := Nat.lt_of_not_le fun hle => by
      have := div_mono (s := s) hle
      rw [v3, u3] at this
      omega
    exact_mod_cast hvu
theorem srt_of_chk {R : Int → Int} {M : List Int} {s n : Nat} (h : n ≤ s) (g : Chk R s n M 0 n) : Srt R M 0 n := fun p q h1 h2 h3 =>
  g p q h1 h2 h3 h3 (by rw [Nat.div_eq_of_lt (by omega), Nat.div_eq_of_lt (by omega)])
theorem Blk.lo {s n lo lo' : Nat} {M : List Int} (h : Blk s n M lo) (hl : lo ≤ lo') : Blk s n M lo' := fun p h1 h2 => h p (by omega) h2
theorem Blk.double {s n lo : Nat} {M : List Int} (h : Blk s n M lo) : Blk (2 * s) n M lo := fun p h1 h2 => by
  obtain ⟨v, v1, v2, v3⟩ := h p h1 h2
  exact ⟨v, v1, v2, div_double v3⟩
theorem Blk.res {s n a b : Nat} {M M' : List Int} (h : Blk s n M a) (r : Res M M' a b) (hab : a ≤ b) : Blk s n M' b := fun p h1 h2 => by
  obtain ⟨v, v1, v2, v3⟩ := h p (by omega) h2
  exact ⟨v, by rw [r.out p (Or.inr h1), v1], v2, v3⟩
theorem Chk.res {R : Int → Int} {s n a b : Nat} {M M' : List Int} (h : Chk R s n M a n) (r : Res M M' a b) (hab : a ≤ b) : Chk R s n M' b n := fun p q h1 h2 h3 h4 h5 => by
  rw [r.out p (Or.inr h1), r.out q (Or.inr (by omega))]
  exact h p q (by omega) h2 h3 h4 h5
theorem blk_div {s a t p : Nat} (hs : 0 < s) (ha : a = s * t) (h1 : a ≤ p) (h2 : p < a + s) : p / s = a / s := by
  rw [div_block hs (by omega : s * t ≤ p) (by omega), div_block hs (by omega : s * t ≤ a) (by omega)]
theorem blk_ne {s a t p : Nat} (hs : 0 < s) (ha : a = s * t) (h1 : p < a) : p / s ≠ a / s := by
  have h2 : a / s = t := div_block hs (by omega) (by omega)
  rw [h2]
  have := (Nat.div_lt_iff_lt_mul hs).2 (show p < t * s by rw [Nat.mul_comm, ← ha]; exact h1)
  omega
/-- the rest behind the last merge of a round -/
theorem chk_rest {R : Int → Int} {M : List Int} {s n a t : Nat} (hs : 0 < s) (ha : a = 2 * s * t) (hn : n ≤ a + s) (hC : Chk R s n M a n) (hD : Chk R (2 * s) n M 0 a) : Chk R (2 * s) n M 0 n := by
  intro p q h1 h2 h3 h4 h5
  by_cases hq : q < a
  · exact hD p q h1 h2 hq h4 h5
  · have hp : a ≤ p := Nat.le_of_not_lt fun hlt => by
      have e := blk_ne (by omega : 0 < 2 * s) ha hlt
      rw [h5, blk_div (by omega : 0 < 2 * s) ha (by omega : a ≤ q) (by omega)] at e
      exact e rfl
    have d1 : ∀ p, a ≤ p → p < a + s → p / s = 2 * t := fun p h2 h3 => div_block hs (by rw [← Nat.mul_assoc, Nat.mul_comm s 2, ← ha]; exact h2) (by rw [← Nat.mul_assoc, Nat.mul_comm s 2, ← ha]; exact h3)
    exact hC p q hp h2 h3 h4 (by rw [d1 p hp (by omega), d1 q (by omega) (by omega)])

set_option maxHeartbeats 4000000 in
set_option maxRecDepth 100000 in
theorem stable_any (R : Int → Int) (w0 w : World) (base g cap n c : Nat) (M0 : List Int) (h : SW w0 w base g cap n M0) (hid : ∀ p, p < n → at' M0 p = (p : Int)) (hcmp : CmpOk R w0 base g cap n c M0) (hn0 : 0 < n) (hn : (n : Int) ≤ 1000000) :
    Calls Tryz.prog 87 #[.slice (some ⟨g, 0, none⟩) n cap, .int .i64 n, .func (.func 75) #[] #[.pointer (some ⟨c, 0, none⟩)]] w fun e w' =>
      e = .returned (.tuple #[]) ∧ ∃ M', SW w0 w' base g cap n M' ∧ M'.Perm M0 ∧ Srt R M' 0 n := by
  have H := Lib.hid h
  have HID := Lib.hid hid
  have HC := Lib.hid hcmp
  clear h hid hcmp
  go_enter Tryz.func87, Tryz.ntmps87
  go_wp2_with fail
  go_loopw [7, 8] (fun av bv wr => ∃ (a : Nat) (M : List Int), av = .int .i64 a ∧ bv = .int .i64 ((a + 20 : Nat) : Int) ∧ a ≤ n ∧ Hid (∃ t, a = 20 * t) ∧ Hid (SW w0 wr base g cap n M) ∧ Hid (Res M0 M 0 a) ∧ Hid (Blk 20 n M 0) ∧ Hid (Chk R 20 n M 0 a)) (fun av _ _ => n - (intOf av).toNat)
  case atStart => exact ⟨0, M0, rfl, rfl, by omega, Lib.hid ⟨0, rfl⟩, H, Lib.hid (Res.refl _ _ _), Lib.hid (fun p _ h2 => ⟨p, HID.out p h2, h2, rfl⟩), Lib.hid (fun p q h1 h2 h3 => by omega)⟩
  case round =>
    obtain ⟨a, M, rfl, rfl, han, HT, HS, HR, HB, HK⟩ := hrel
    have hinc : ∀ b, b ≤ n → ∀ p q, a ≤ p → p < q → q < b → at' M p < at' M q := fun b hb p q h1 h2 h3 => by
      rw [HR.out.out p (Or.inr h1), HR.out.out q (Or.inr (by omega)), HID.out p (by omega), HID.out q (by omega)]
      omega
    have hblk : ∀ p, a ≤ p → p < a + 20 → p / 20 = a / 20 := fun p h1 h2 => by
      obtain ⟨t, ht⟩ := HT.out
      exact blk_div (by omega) ht h1 h2
    have hne : ∀ p, p < a → p / 20 ≠ a / 20 := fun p h1 => by
      obtain ⟨t, ht⟩ := HT.out
      exact blk_ne (by omega) ht h1
    have HBK := Lib.hid hblk
    have HNE := Lib.hid hne
    have HINC := Lib.hid hinc
    clear hinc hblk hne
    obtain ⟨b, hb⟩ : ∃ b, a + 20 = b := ⟨_, rfl⟩
    have HBB := Lib.hid hb
    by_cases hlt : b ≤ n
    · rw [hb]
      have t1 : decide ((b : Int) ≤ (n : Int)) = true := by rw [decide_eq_true_eq]; omega
      have t1' : decide (b ≤ n) = true := by simpa using hlt
      have hlt2 : a < b := by omega
      clear hb
      go_wp2_with fail
      refine (insertion_any R w0 wr base g cap n c a b M0 M HS.out HR.out.perm HC.out hlt hn han (HINC.out b hlt)).mono ?_
      rintro e w1 ⟨rfl, M1, hS, hR, hO⟩
      have HS1 := Lib.hid hS
      have HR1 := Lib.hid (show Res M0 M1 0 b from (HR.out.mono (Nat.le_refl _) (by omega)).trans (hR.mono (by omega) (Nat.le_refl _)))
      have HB1 := Lib.hid (Res.blk hR hlt (fun p h1 h2 => HBK.out p h1 (by have := HBB.out; omega)) HB.out (by omega))
      have HK1 := Lib.hid (Res.chk hR hlt (fun p h1 h2 => HBK.out p h1 (by have := HBB.out; omega)) HK.out hO (fun p h1 => HNE.out p h1))
      have HT1 := Lib.hid (show ∃ t, b = 20 * t from by obtain ⟨t, ht⟩ := HT.out; exact ⟨t + 1, by have := HBB.out; omega⟩)
      clear hS hR hO
      go_wp2_with fail
      go_roundw
      case rel => exact ⟨b, M1, rfl, by first | rfl | go_num, hlt, HT1, HS1, HR1, HB1, HK1⟩
      case measure => simp [intOf]; omega
    · rw [hb]
      have t1 : decide ((b : Int) ≤ (n : Int)) = false := by rw [decide_eq_false_iff_not]; omega
      have t1' : decide (b ≤ n) = false := by simpa using hlt
      have hlt2 : n < b := by omega
      clear hb hlt
      go_wp2_with fail
      refine (insertion_any R w0 wr base g cap n c a n M0 M HS.out HR.out.perm HC.out (Nat.le_refl _) hn han (HINC.out n (Nat.le_refl _))).mono ?_
      rintro e w1 ⟨rfl, M1, hS, hR, hO⟩
      have HS1 := Lib.hid hS
      have HP1 := Lib.hid (hR.perm.trans HR.out.perm)
      have HB1 := Lib.hid (Res.blk hR (Nat.le_refl _) (fun p h1 h2 => HBK.out p h1 (by have := HBB.out; omega)) HB.out (by omega))
      have HK1 := Lib.hid (Res.chk hR (Nat.le_refl _) (fun p h1 h2 => HBK.out p h1 (by have := HBB.out; omega)) HK.out hO (fun p h1 => HNE.out p h1))
      clear hS hR hO
      go_wp2_with fail
      go_loopw [6] (fun sv w2 => ∃ (s : Nat) (M : List Int), sv = .int .i64 s ∧ 0 < s ∧ (s : Int) ≤ 2000000 ∧ Hid (SW w0 w2 base g cap n M) ∧ Hid (M.Perm M0) ∧ Hid (Blk s n M 0) ∧ Hid (Chk R s n M 0 n)) (fun sv _ => n - (intOf sv).toNat)
      case atStart => exact ⟨20, M1, rfl, by omega, by omega, HS1, HP1, HB1, HK1⟩
      case round =>
        obtain ⟨s, M2, rfl, hs0, hs1, HS2, HP2, HB2, HK2⟩ := hrel
        by_cases hsn : s < n
        · have t2 : decide ((s : Int) < (n : Int)) = true := by rw [decide_eq_true_eq]; omega
          have t2' : decide (s < n) = true := by simpa using hsn
          go_wp2_with fail
          obtain ⟨wo, rfl⟩ : ∃ wo : World, wo = wr := ⟨_, rfl⟩
          go_loopw [7, 8] (fun av bv w3 => ∃ (a b : Nat) (M3 : List Int), av = .int .i64 a ∧ bv = .int .i64 b ∧ a ≤ n ∧ a + 2 * s ≤ b ∧ b ≤ a + 2 * s ∧ Hid (∃ t, a = 2 * s * t) ∧ Hid (SW w0 w3 base g cap n M3) ∧ Hid (M3.Perm M0) ∧ Hid (Blk (2 * s) n M3 0) ∧ Hid (Blk s n M3 a) ∧ Hid (Chk R (2 * s) n M3 0 a) ∧ Hid (Chk R s n M3 a n)) (fun av _ _ => n - (intOf av).toNat)
          case atStart => exact ⟨0, 2 * s, M2, rfl, by congr 1, by omega, by omega, by omega, Lib.hid ⟨0, rfl⟩, HS2, HP2, Lib.hid HB2.out.double, HB2, Lib.hid (fun p q h1 h2 h3 => by omega), HK2⟩
          case round =>
            obtain ⟨a, b, M3, rfl, rfl, han, hb1, hb2, HT, HS3, HP3, HBD, HBS, HKD, HKS⟩ := hrel
            obtain ⟨m, hm⟩ : ∃ m : Nat, a + s = m := ⟨_, rfl⟩
            have em : (a : Int) + (s : Int) = (m : Int) := by omega
            have hm1 : m < b := by omega
            have HMM := Lib.hid hm
            have HDB := Lib.hid (show ∀ p, a ≤ p → p < b → p / (2 * s) = a / (2 * s) from fun p h1 h2 => by
              obtain ⟨t, ht⟩ := HT.out
              exact blk_div (by omega) ht h1 (by omega))
            have HDN := Lib.hid (show ∀ p, p < a → p / (2 * s) ≠ a / (2 * s) from fun p h1 => by
              obtain ⟨t, ht⟩ := HT.out
              exact blk_ne (by omega) ht h1)
            by_cases hlt : b ≤ n
            · have t3 : decide ((b : Int) ≤ (n : Int)) = true := by rw [decide_eq_true_eq]; omega
              have t3' : decide (b ≤ n) = true := by simpa using hlt
              have HMG := Lib.hid (show Mrg R M3 a m b from by
                obtain ⟨t, ht⟩ := HT.out
                rw [← hm]
                exact mrg_of hs0 ht (by omega) hb2 hlt HS3.out.len HBS.out HKS.out)
              have hab : a ≤ b := by omega
              clear hm
              go_wp2_with fail
              refine (merge_any R w0 base g cap n c M0 HC.out hn (b - a) a m b wr M3 (Nat.le_refl _) HS3.out HP3.out HMG.out hlt).mono ?_
              rintro e w4 ⟨rfl, M4, hS, hR, hO⟩
              have HS4 := Lib.hid hS
              have HP4 := Lib.hid (hR.perm.trans HP3.out)
              have HBD4 := Lib.hid (Res.blk hR hlt HDB.out HBD.out (Nat.zero_le _))
              have HBS4 := Lib.hid (Blk.res HBS.out hR hab)
              have HKD4 := Lib.hid (Res.chk hR hlt HDB.out HKD.out hO HDN.out)
              have HKS4 := Lib.hid (Chk.res HKS.out hR hab)
              have HT4 := Lib.hid (show ∃ t, b = 2 * s * t from by
                obtain ⟨t, ht⟩ := HT.out
                exact ⟨t + 1, by rw [Nat.mul_add, Nat.mul_one, ← ht]; omega⟩)
              clear hS hR hO
              go_wp2_with fail
              go_roundw
              case rel => exact ⟨b, b + 2 * s, M4, rfl, by congr 1, hlt, by omega, by omega, HT4, HS4, HP4, HBD4, HBS4, HKD4, HKS4⟩
              case measure => simp [intOf]; omega
            · have t3 : decide ((b : Int) ≤ (n : Int)) = false := by rw [decide_eq_false_iff_not]; omega
              have t3' : decide (b ≤ n) = false := by simpa using hlt
              have hnb : n < b := by omega
              by_cases hmn : m < n
              · have t4 : decide ((m : Int) < (n : Int)) = true := by rw [decide_eq_true_eq]; omega
                have t4' : decide (m < n) = true := by simpa using hmn
                have HMG := Lib.hid (show Mrg R M3 a m n from by
                  obtain ⟨t, ht⟩ := HT.out
                  rw [← hm]
                  exact mrg_of hs0 ht (by omega) (by omega) (Nat.le_refl _) HS3.out.len HBS.out HKS.out)
                clear hm hlt
                go_wp2_with fail
                refine (merge_any R w0 base g cap n c M0 HC.out hn (n - a) a m n wr M3 (Nat.le_refl _) HS3.out HP3.out HMG.out (Nat.le_refl _)).mono ?_
                rintro e w4 ⟨rfl, M4, hS, hR, hO⟩
                have HS4 := Lib.hid hS
                have HP4 := Lib.hid (hR.perm.trans HP3.out)
                have HBD4 := Lib.hid (Res.blk hR (Nat.le_refl _) (fun p h1 h2 => HDB.out p h1 (by omega)) HBD.out (Nat.zero_le _))
                have HKD4 := Lib.hid (Res.chk hR (Nat.le_refl _) (fun p h1 h2 => HDB.out p h1 (by omega)) HKD.out hO HDN.out)
                clear hS hR hO
                go_wp2_with fail
                go_roundw
                case rel => exact ⟨2 * s, M4, by congr 1; omega, by omega, by omega, HS4, HP4, HBD4, HKD4⟩
                case measure => simp [intOf]; omega
              · have t4 : decide ((m : Int) < (n : Int)) = false := by rw [decide_eq_false_iff_not]; omega
                have t4' : decide (m < n) = false := by simpa using hmn
                have HKD4 := Lib.hid (show Chk R (2 * s) n M3 0 n from by
                  obtain ⟨t, ht⟩ := HT.out
                  exact chk_rest hs0 ht (by omega) HKS.out HKD.out)
                clear hm hlt hmn
                go_wp2_with fail
                go_roundw
                case rel => exact ⟨2 * s, M3, by congr 1; omega, by omega, by omega, HS3, HP3, HBD, HKD4⟩
                case measure => simp [intOf]; omega
        · have t2 : decide ((s : Int) < (n : Int)) = false := by rw [decide_eq_false_iff_not]; omega
          have t2' : decide (s < n) = false := by simpa using hsn
          have HF := Lib.hid (srt_of_chk (by omega) HK2.out)
          clear hsn
          go_wp2_with fail
          go_end0
          exact ⟨rfl, M2, HS2.out, HP2.out, HF.out⟩
end Go.Proofs.YtbkpoepacjinlaaGreat

/- Parts: the comparison that it hands to the stable sort; the stable sort of an order of numbers. -/
namespace Go.Proofs.YtbkpoepacjinlaaGreat
open Go.RowKit Go.BigFrame
open Stb (at' Srt)

/-- a row of the call's own, of n integers -/
def RowF (w : World) (g n : Nat) (f : Nat → Int) : Prop := w.ownsRow g 3 1 (.slice (some ⟨g, 0, none⟩) n n) n ((List.range n).map fun i => .int .i64 (f i))
theorem RowF.cell {w : World} {g n : Nat} {f : Nat → Int} (h : RowF w g n f) {j : Nat} (hj : j < n) : w.cell? ⟨g, j, none⟩ = some (.int .i64 (f j)) := by
  rw [World.ownsRow.cellAt h j (by omega), List.getElem?_map, List.getElem?_range hj]
  rfl
theorem RowF.frozen {w : World} {g n : Nat} {f : Nat → Int} (h : RowF w g n f) (j : Nat) : w.frozen? ⟨g, j, none⟩ = false := World.ownsRow.frozenAt h j
theorem RowF.lt {w : World} {g n : Nat} {f : Nat → Int} (h : RowF w g n f) : g < w.heap.size := (World.ownsRow.lt h g rfl).2
theorem RowF.kept {w w' : World} {g n : Nat} {f : Nat → Int} {row : Option Nat} (h : RowF w g n f) (hg : w.grownBy w' row) (hne : some g ≠ row) : RowF w' g n f := World.ownsRow.kept h hg (Or.inr hne)
theorem RowF.ext {w : World} {g n : Nat} {f f' : Nat → Int} (h : RowF w g n f) (he : ∀ i, i < n → f i = f' i) : RowF w g n f' := by
  unfold RowF at h ⊢
  rwa [List.map_congr_left (fun i hi => by rw [he i (List.mem_range.1 hi)])] at h
theorem RowF.stored {w : World} {g n : Nat} {f : Nat → Int} (h : RowF w g n f) (k : Nat) (x : Int) :
    RowF (w.setCell ⟨g, k, none⟩ (.int .i64 x)) g n (fun i => if i = k then x else f i) ∧ w.grownBy (w.setCell ⟨g, k, none⟩ (.int .i64 x)) (some g) := by
  obtain ⟨h1, h2⟩ := World.ownsRow.stored h k (.int .i64 x)
  refine ⟨?_, h2⟩
  unfold RowF
  have e : ((List.range n).map fun i => Value.int .i64 (f i)).set k (.int .i64 x) = (List.range n).map fun i => Value.int .i64 (if i = k then x else f i) := by
    apply List.ext_getElem
    · simp
    · intro i h3 h4
      simp only [List.getElem_set, List.getElem_map, List.getElem_range]
      by_cases e1 : k = i
      · subst e1; simp
      · rw [if_neg e1, if_neg (fun h => e1 h.symm)]
  rw [← e]
  exact h1
theorem RowF.of_make {w : World} {g n : Nat} (h : w.ownsRow g 3 1 (.slice (some ⟨g, 0, none⟩) n n) n (madeCells (Value.int .i64 0).cells (n * 1)).toList) : RowF w g n (fun _ => 0) := by
  unfold RowF
  have e : (madeCells (Value.int .i64 0).cells (n * 1)).toList = (List.range n).map fun _ => Value.int .i64 0 := by
    rw [Nat.mul_one]
    show (madeCells #[Value.int .i64 0] n).toList = _
    rw [toList_madeCells_one]
    apply List.ext_getElem <;> simp
  rw [← e]
  exact h

theorem grown_drewN' (w : World) (n : Nat) (row : Option Nat) : w.grownBy (w.drewN n) row := ⟨rfl, rfl, rfl, Nat.le_refl _, fun _ _ _ => rfl⟩
/-- the comparison of two numbers of weights -/
theorem cmp_any (x y c g n : Nat) (f : Nat → Int) (w : World) (hx : x < n) (hy : y < n) (hv : w.heap[c]? = some (.cells #[.slice (some ⟨g, 0, none⟩) n n] 39 (0, 0))) (hr : RowF w g n f) :
    Calls Tryz.prog 75 #[.int .i64 x, .int .i64 y, .pointer (some ⟨c, 0, none⟩)] w fun e w' => e = .returned (.int .i64 (Lib.compareInt (f y) (f x))) ∧ ∃ q, w' = w.drewN q := by
  have cv := cell_of_one hv
  have c1 := hr.cell hx
  have c2 := hr.cell hy
  have HC := Lib.hid (fun q => Tryz.cmp_Compare_int (f y) (f x) (w.drewN q))
  generalize f x = u at c1 HC
  generalize f y = v at c2 HC
  clear hv hr
  go_enter Tryz.func75, Tryz.ntmps75
  go_wp2_with fail
  go_quiet ((go_at_call 34; exact Calls.quiet_of_same (HC.out _)))
  go_wp2_with fail
  go_ret
  exact ⟨rfl, _, rfl⟩

/-- the stable sort of the numbers from 0 on, by what stands in a row -/
theorem sortStable_any (w : World) (g c h n : Nat) (f : Nat → Int) (hn0 : 0 < n) (hn : (n : Int) ≤ 1000000) (hv : w.heap[c]? = some (.cells #[.slice (some ⟨h, 0, none⟩) n n] 39 (0, 0))) (hr : RowF w h n f)
    (ho : RowF w g n (fun i => (i : Int))) (hgc : g ≠ c) (hgh : g ≠ h) :
    Calls Tryz.prog 74 #[.slice (some ⟨g, 0, none⟩) n n, .func (.func 75) #[] #[.pointer (some ⟨c, 0, none⟩)]] w fun e w' =>
      e = .returned (.tuple #[]) ∧ ∃ l : List Nat, Shr.IsOrd f n l ∧ RowF w' g n (fun i => (l.getD i 0 : Nat)) ∧ w.grownBy w' (some g) := by
  have hlenM : ((List.range n).map (fun (i : Nat) => (i : Int))).length = n := by simp
  have hS : SW w w g g n n ((List.range n).map (fun (i : Nat) => (i : Int))) := ⟨hlenM, by rw [List.map_map]; exact ho, ⟨rfl, rfl, rfl, Nat.le_refl _, fun _ _ _ => rfl⟩⟩
  have hat : ∀ p, p < n → at' ((List.range n).map (fun (i : Nat) => (i : Int))) p = (p : Int) := fun p hp => by
    rw [Stb.at', List.getD_eq_getElem?_getD, List.getElem?_map, List.getElem?_range hp]
    rfl
  have hmem : ∀ x, x ∈ (List.range n).map (fun (i : Nat) => (i : Int)) → ∃ i : Nat, i < n ∧ x = i := fun x hx => by
    obtain ⟨i, hi, rfl⟩ := List.mem_map.1 hx
    exact ⟨i, List.mem_range.1 hi, rfl⟩
  have hcmp : CmpOk (fun x => f x.toNat) w g g n n c ((List.range n).map (fun (i : Nat) => (i : Int))) := by
    intro w' M hSW x y hx hy
    obtain ⟨i, hi, rfl⟩ := hmem x hx
    obtain ⟨j, hj, rfl⟩ := hmem y hy
    have hc : c < w.heap.size := lt_of_block hv
    have hv' := (hSW.grown.block c hc (by simpa using fun e => hgc e.symm)).trans hv
    have hr' := hr.kept hSW.grown (by simpa using fun e => hgh e.symm)
    exact cmp_any i j c h n f w' hi hj hv' hr'
  have HC := Lib.hid (stable_any (fun x => f x.toNat) w w g g n n c _ hS hat hcmp hn0 hn)
  have HM := Lib.hid hmem
  have HL := Lib.hid hlenM
  clear hS hat hcmp hmem hlenM hv hr ho
  go_enter Tryz.func74, Tryz.ntmps74
  go_wp2_with fail
  refine HC.out.mono ?_
  rintro e w1 ⟨rfl, M, hS, hP, hO⟩
  have HS := Lib.hid hS
  have HF := Lib.hid (show ∃ l : List Nat, Shr.IsOrd f n l ∧ RowF w1 g n (fun i => (l.getD i 0 : Nat)) from by
    have hl : M.length = n := hS.len
    have hnn : ∀ i (hi : i < M.length), ∃ k : Nat, k < n ∧ M[i] = (k : Int) := fun i hi => HM.out _ (hP.mem_iff.1 (List.getElem_mem hi))
    refine ⟨M.map Int.toNat, ⟨?_, ?_⟩, ?_⟩
    · have := hP.map Int.toNat
      rw [List.map_map] at this
      have e : (Int.toNat ∘ fun (i : Nat) => (i : Int)) = id := by funext i; simp
      rw [e, List.map_id] at this
      exact this
    · rw [List.pairwise_map, List.pairwise_iff_getElem]
      intro i j hi hj hij
      have := hO i j (Nat.zero_le _) hij (by omega)
      rw [Stb.at', Stb.at', List.getD_eq_getElem?_getD, List.getD_eq_getElem?_getD, List.getElem?_eq_getElem hi, List.getElem?_eq_getElem hj] at this
      simp only [Option.getD_some] at this
      obtain ⟨u, _, hu⟩ := hnn i hi
      obtain ⟨v, _, hv⟩ := hnn j hj
      rw [hu, hv] at this ⊢
      unfold Stb.Bf at this
      unfold Shr.Bef
      simp only [Int.toNat_natCast] at this ⊢
      omega
    · have hrow := hS.row
      unfold RowF
      have e : M.map (Value.int .i64) = (List.range n).map fun i => Value.int .i64 (((M.map Int.toNat).getD i 0 : Nat) : Int) := by
        apply List.ext_getElem
        · simp [hl]
        · intro i h1 h2
          simp only [List.length_map] at h1
          obtain ⟨u, _, hu⟩ := hnn i h1
          simp only [List.getElem_map, List.getElem_range, List.getD_eq_getElem?_getD, List.getElem?_map, List.getElem?_eq_getElem h1, Option.map_some, Option.getD_some, hu, Int.toNat_natCast]
      rw [← e]
      exact hrow)
  clear hS hP hO
  go_wp2_with fail
  go_end0
  obtain ⟨l, hl1, hl2⟩ := HF.out
  exact ⟨rfl, l, hl1, hl2, HS.out.grown⟩
end Go.Proofs.YtbkpoepacjinlaaGreat

/- Parts of the program: its walk. -/
namespace Go.Proofs.YtbkpoepacjinlaaGreat
open Go.RowKit Go.BigFrame
open Shr (sumF quo rst)

/-- a slice of integers that came in -/
structure Row1 (w : World) (a : Option Addr) (len : Nat) (W : Nat → Int) : Prop where
  here : 0 < len → ∃ b off, a = some ⟨b, off, none⟩ ∧ b < w.heap.size ∧ ∀ i, i < len → w.cell? ⟨b, off + i, none⟩ = some (.int .i64 (W i))
theorem Row1.below {w w' : World} {a : Option Addr} {len B : Nat} {W : Nat → Int} (h : Row1 w a len W) (hb : Below B w w') (hB : w.heap.size ≤ B) : Row1 w' a len W := by
  refine ⟨fun hl => ?_⟩
  obtain ⟨b, off, rfl, hlt, hc⟩ := h.here hl
  exact ⟨b, off, rfl, Nat.lt_of_lt_of_le hlt hb.size, fun i hi => (hb.cell (p := ⟨b, off + i, none⟩) (Nat.lt_of_lt_of_le hlt hB)).trans (hc i hi)⟩
/-- total and weights of moderate size -/
structure Fine (T : Int) (W : Nat → Int) (n : Nat) (S : Int) : Prop where
  t0 : 0 ≤ T
  t1 : T ≤ 4611686018427387904
  n1 : (n : Int) ≤ 1000000
  w0 : ∀ i, i < n → 0 ≤ W i
  tw : ∀ i, i < n → T * W i ≤ 4611686018427387903
  s0 : 0 < S
  s1 : S ≤ 9223372036854775807
  sum : sumF W n = S
theorem sum_mono {W : Nat → Int} {n : Nat} (h : ∀ i, i < n → 0 ≤ W i) : ∀ k, k ≤ n → 0 ≤ sumF W k ∧ ∀ j, j ≤ k → sumF W j ≤ sumF W k
  | 0, _ => ⟨Int.le_refl _, fun j hj => by rw [Nat.le_zero.1 hj]; exact Int.le_refl _⟩
  | k + 1, hk => by
    obtain ⟨h0, h1⟩ := sum_mono h k (by omega)
    have h2 := h k (by omega)
    refine ⟨by show 0 ≤ sumF W k + W k; omega, fun j hj => ?_⟩
    show sumF W j ≤ sumF W k + W k
    by_cases e : j = k + 1
    · subst e; exact Int.le_refl _
    · have := h1 j (by omega); omega
theorem Fine.pos {T : Int} {W : Nat → Int} {n : Nat} {S : Int} (h : Fine T W n S) : 0 < n := by
  rcases Nat.eq_zero_or_pos n with h0 | h0
  · have := h.sum; rw [h0] at this; have := h.s0; unfold sumF at *; omega
  · exact h0
theorem Fine.part {T : Int} {W : Nat → Int} {n : Nat} {S : Int} (h : Fine T W n S) : ∀ k, k ≤ n → 0 ≤ sumF W k ∧ sumF W k ≤ S := fun k hk => by
  obtain ⟨h0, h1⟩ := sum_mono h.w0 n (Nat.le_refl _)
  exact ⟨(sum_mono h.w0 k hk).1, by rw [← h.sum]; exact h1 k hk⟩
theorem Fine.prod {T : Int} {W : Nat → Int} {n : Nat} {S : Int} (h : Fine T W n S) {i : Nat} (hi : i < n) : 0 ≤ T * W i ∧ T * W i ≤ 4611686018427387903 := ⟨Int.mul_nonneg h.t0 (h.w0 i hi), h.tw i hi⟩
theorem Fine.quo_nn {T : Int} {W : Nat → Int} {n : Nat} {S : Int} (h : Fine T W n S) {i : Nat} (hi : i < n) : 0 ≤ quo T S W i := Int.ediv_nonneg (h.prod hi).1 (Int.le_of_lt h.s0)
theorem Fine.left {T : Int} {W : Nat → Int} {n : Nat} {S : Int} (h : Fine T W n S) : ∀ k, k ≤ n → 0 ≤ sumF (quo T S W) k ∧ sumF (quo T S W) k ≤ T := fun k hk => by
  have hq : ∀ i, i < n → 0 ≤ quo T S W i := fun i hi => h.quo_nn hi
  have h2 := (Shr.left_bounds (T := T) h.s0 h.sum).1
  have h3 := (sum_mono hq n (Nat.le_refl _)).2 k hk
  exact ⟨(sum_mono hq k hk).1, by omega⟩
theorem Fine.quo_le {T : Int} {W : Nat → Int} {n : Nat} {S : Int} (h : Fine T W n S) {i : Nat} (hi : i < n) : quo T S W i ≤ T := by
  have h1 := (h.left (i + 1) (by omega)).2
  have h2 := (h.left i (by omega)).1
  have h3 : sumF (quo T S W) (i + 1) = sumF (quo T S W) i + quo T S W i := rfl
  omega
/-- what Parts returns -/
def PartF (T S : Int) (W : Nat → Int) (l : List Nat) (j : Nat) (i : Nat) : Int := quo T S W i + if i ∈ l.take j then 1 else 0
def Parted (T S : Int) (W : Nat → Int) (n : Nat) (w : World) (e : Ending) (w' : World) : Prop :=
  ∃ (l : List Nat) (g : Nat), Shr.IsOrd (rst T S W) n l ∧ e = .returned (.slice (some ⟨g, 0, none⟩) n n) ∧ RowF w' g n (PartF T S W l (T - sumF (quo T S W) n).toNat) ∧ w.heap.size ≤ g ∧ Below w.heap.size w w'

/-- the rows of Parts -/
structure Fill (w wr : World) (g1 g2 c g4 n : Nat) (f1 f2 f4 : Nat → Int) : Prop where
  o1 : RowF wr g1 n f1
  o2 : RowF wr g2 n f2
  o4 : RowF wr g4 n f4
  var : wr.heap[c]? = some (.cells #[.slice (some ⟨g2, 0, none⟩) n n] 39 (0, 0))
  below : Below w.heap.size w wr
theorem Fill.ext {w wr : World} {g1 g2 c g4 n : Nat} {f1 f2 f4 h1 h2 h4 : Nat → Int} (h : Fill w wr g1 g2 c g4 n f1 f2 f4) (e1 : ∀ i, i < n → f1 i = h1 i) (e2 : ∀ i, i < n → f2 i = h2 i) (e4 : ∀ i, i < n → f4 i = h4 i) : Fill w wr g1 g2 c g4 n h1 h2 h4 :=
  ⟨h.o1.ext e1, h.o2.ext e2, h.o4.ext e4, h.var, h.below⟩
theorem Fill.drew {w wr : World} {g1 g2 c g4 n : Nat} {f1 f2 f4 : Nat → Int} (h : Fill w wr g1 g2 c g4 n f1 f2 f4) : Fill w wr.drew g1 g2 c g4 n f1 f2 f4 :=
  ⟨h.o1.kept (grown_drewN' wr 1 none) (by simp), h.o2.kept (grown_drewN' wr 1 none) (by simp), h.o4.kept (grown_drewN' wr 1 none) (by simp), h.var, below_drewN h.below 1⟩
theorem Fill.store {w wr : World} {g1 g2 c g4 n : Nat} {f1 f2 f4 : Nat → Int} (h : Fill w wr g1 g2 c g4 n f1 f2 f4) (h0 : w.heap.size ≤ g1) (h12 : g1 < g2) (h23 : g2 < c) (h34 : c < g4) (j : Nat) (x y z : Int) :
    Fill w (((wr.setCell ⟨g1, j, none⟩ (.int .i64 x)).setCell ⟨g2, j, none⟩ (.int .i64 y)).setCell ⟨g4, j, none⟩ (.int .i64 z)) g1 g2 c g4 n (fun i => if i = j then x else f1 i) (fun i => if i = j then y else f2 i) (fun i => if i = j then z else f4 i) := by
  obtain ⟨a1, b1⟩ := h.o1.stored j x
  obtain ⟨a2, b2⟩ := (h.o2.kept b1 (by simp; omega)).stored j y
  obtain ⟨a3, b3⟩ := ((h.o4.kept b1 (by simp; omega)).kept b2 (by simp; omega)).stored j z
  have hc := lt_of_block h.var
  refine ⟨(a1.kept b2 (by simp; omega)).kept b3 (by simp; omega), a2.kept b3 (by simp; omega), a3, ?_, ?_⟩
  · refine (b3.block c (Nat.lt_of_lt_of_le hc (Nat.le_trans b1.size b2.size)) (by simp; omega)).trans ?_
    refine (b2.block c (Nat.lt_of_lt_of_le hc b1.size) (by simp; omega)).trans ?_
    exact (b1.block c hc (by simp; omega)).trans h.var
  · exact ((h.below.grown b1 h.below.size (by rintro _ ⟨rfl⟩; exact h0)).grown b2 (Nat.le_trans h.below.size b1.size) (by rintro _ ⟨rfl⟩; omega)).grown b3 (Nat.le_trans h.below.size (Nat.le_trans b1.size b2.size)) (by rintro _ ⟨rfl⟩; omega)
set_option maxHeartbeats 4000000 in
set_option maxRecDepth 100000 in
theorem parts_any (T S : Int) (a : Option Addr) (n cap : Nat) (W : Nat → Int) (w : World) (hr : Row1 w a n W) (hf : Fine T W n S) :
    Calls Tryz.prog 68 #[.int .i64 T, .slice a n cap] w (Parted T S W n w) := by
  obtain ⟨i0, hi0, hz0, hz1, hz2⟩ := info_parts (show (Tryz.prog.info? 3).map (fun i => (i.zero, i.size, i.bytes)) = some (some (.int .i64 0), 1, 8) by kernel_rfl)
  have HR := Lib.hid hr
  have HF := Lib.hid hf
  have hn0 := hf.pos
  have hn1 := hf.n1
  have hs0 := hf.s0
  have hs1 := hf.s1
  have ht0 := hf.t0
  have ht1 := hf.t1
  obtain ⟨b, off, rfl, hbl, hcW⟩ := hr.here hn0
  have HCW := Lib.hid hcW
  have hmf : ∀ fn first cap w, (Instr.makeFunc fn first cap).run Tryz.prog w = .ok (.func fn first cap) w := fun _ _ _ _ => rfl
  clear hr hf hcW
  go_enter Tryz.func68, Tryz.ntmps68
  go_wp2_with fail
  go_loop [5, 18] (fun sv iv => ∃ (k : Nat), sv = .int .i64 (sumF W k) ∧ iv = .int .i64 k ∧ k ≤ n) (fun _ iv => n - (intOf iv).toNat)
  case atStart => exact ⟨0, rfl, rfl, by omega⟩
  case round =>
    obtain ⟨k, rfl, rfl, hk⟩ := hrel
    by_cases hlt : k < n
    · have t1 : decide ((k : Int) < (n : Int)) = true := by rw [decide_eq_true_eq]; omega
      have c1 := HCW.out k hlt
      have hp := HF.out.part (k + 1) (by omega)
      have hp2 := HF.out.part k (by omega)
      have hsucc : sumF W (k + 1) = sumF W k + W k := rfl
      rw [hsucc] at hp
      have HS := Lib.hid hsucc
      have hw0 := HF.out.w0 k hlt
      clear hsucc
      generalize W k = x at c1 hp hw0 HS
      go_wp2_with fail
      go_round
      case rel => exact ⟨k + 1, congrArg (Value.int .i64) HS.out.symm, by go_num, by omega⟩
      case measure => simp [intOf]; omega
    · have t1 : decide ((k : Int) < (n : Int)) = false := by rw [decide_eq_false_iff_not]; omega
      have t1' : decide (k < n) = false := by simpa using hlt
      obtain rfl : k = n := by omega
      have hsm : sumF W k = S := HF.out.sum
      rw [hsm]
      have hby : 8 * k ≤ 281474976710656 := by omega
      have hml : k ≤ maxLen := by unfold maxLen; omega
      clear hsm hlt hk
      go_wp2_with (first
        | (at_make; refine wpList_make_full _ rfl (.tmp 27) (.tmp 27) 39 rfl _ 3 i0 (.int .i64 0) 1 Tryz.underlying39 hi0 hz0 hz1 .i64 .i64 k k k rfl rfl rfl rfl (by rw [hz2]; exact hby) hml (Nat.le_refl _) ?_; intro wa hoa hga; have HOa := Lib.hid hoa; have HGa := Lib.hid hga; clear hoa hga)
        | (at_make; refine wpList_make_full _ rfl (.tmp 30) (.tmp 30) 39 rfl _ 3 i0 (.int .i64 0) 1 Tryz.underlying39 hi0 hz0 hz1 .i64 .i64 k k k rfl rfl rfl rfl (by rw [hz2]; exact hby) hml (Nat.le_refl _) ?_; intro wb hob hgb; have HOb := Lib.hid hob; have HGb := Lib.hid hgb; clear hob hgb)
        | (at_make; refine wpList_make_full _ rfl (.tmp 33) (.tmp 33) 39 rfl _ 3 i0 (.int .i64 0) 1 Tryz.underlying39 hi0 hz0 hz1 .i64 .i64 k k k rfl rfl rfl rfl (by rw [hz2]; exact hby) hml (Nat.le_refl _) ?_; intro wc hoc hgc; have HOc := Lib.hid hoc; have HGc := Lib.hid hgc; clear hoc hgc)
        | fail)
      have z1 : w.heap.size < wa.heap.size := (RowF.of_make HOa.out).lt
      have z2 : wa.heap.size < wb.heap.size := (RowF.of_make HOb.out).lt
      have FILL := Lib.hid (show Fill w wc w.heap.size wa.heap.size wb.heap.size (wb.heap.size + 1) k (fun _ => 0) (fun _ => 0) (fun _ => 0) from by
        have hA := World.grownBy_alloc wb (.cells #[.slice (some ⟨wa.heap.size, 0, none⟩) k k] 39) none
        have o4 := RowF.of_make HOc.out
        rw [World.size_alloc] at o4
        refine ⟨(((RowF.of_make HOa.out).kept HGb.out (by simp)).kept hA (by simp)).kept HGc.out (by simp), ((RowF.of_make HOb.out).kept hA (by simp)).kept HGc.out (by simp), o4, ?_, ?_⟩
        · exact (HGc.out.block wb.heap.size (by simp) (by simp)).trans (heap_alloc_new wb _)
        · have b1 : Below w.heap.size w wa := (Below.refl _ _).grown HGa.out (Nat.le_refl _) (fun _ h => by cases h)
          have b2 := b1.grown HGb.out b1.size (fun _ h => by cases h)
          have b3 := b2.grown hA b2.size (fun _ h => by cases h)
          exact b3.grown HGc.out b3.size (fun _ h => by cases h))
      clear HOa HOb HOc HGa HGb HGc
      obtain ⟨g1, e1⟩ : ∃ g1, w.heap.size = g1 := ⟨_, rfl⟩
      rw [e1] at FILL z1 ⊢
      have E1 := Lib.hid e1
      obtain ⟨g2, e2⟩ : ∃ g2, wa.heap.size = g2 := ⟨_, rfl⟩
      rw [e2] at FILL z1 z2 ⊢
      obtain ⟨c, e3⟩ : ∃ c, wb.heap.size = c := ⟨_, rfl⟩
      rw [e3] at FILL z2 ⊢
      obtain ⟨g4, e4⟩ : ∃ g4, c + 1 = g4 := ⟨_, rfl⟩
      rw [e4] at FILL ⊢
      have z3 : c < g4 := by omega
      clear e1 e2 e3 e4
      go_loopw [11, 38] (fun lv iv wr => ∃ (j : Nat), lv = .int .i64 (T - sumF (quo T S W) j) ∧ iv = .int .i64 j ∧ j ≤ k ∧ Hid (Fill w wr g1 g2 c g4 k (fun i => if i < j then quo T S W i else 0) (fun i => if i < j then rst T S W i else 0) (fun i => if i < j then (i : Int) else 0))) (fun _ iv _ => k - (intOf iv).toNat)
      case atStart => exact ⟨0, congrArg (Value.int .i64) (by show T = T - 0; omega), rfl, by omega, Lib.hid (FILL.out.ext (fun i _ => by simp) (fun i _ => by simp) (fun i _ => by simp))⟩
      case round =>
        obtain ⟨j, rfl, rfl, hj, HFL⟩ := hrel
        by_cases hlt : j < k
        · have t1 : decide ((j : Int) < (k : Int)) = true := by rw [decide_eq_true_eq]; omega
          have c1 := (HFL.out.below.cell (p := ⟨b, off + j, none⟩) hbl).trans (HCW.out j hlt)
          obtain ⟨u1, c2⟩ : ∃ u, wr.cell? ⟨g1, j, none⟩ = some u := ⟨_, HFL.out.o1.cell hlt⟩
          obtain ⟨u2, c3⟩ : ∃ u, wr.cell? ⟨g2, j, none⟩ = some u := ⟨_, HFL.out.o2.cell hlt⟩
          obtain ⟨u4, c4⟩ : ∃ u, wr.cell? ⟨g4, j, none⟩ = some u := ⟨_, HFL.out.o4.cell hlt⟩
          have f1 := HFL.out.o1.frozen j
          have f2 := HFL.out.o2.frozen j
          have f4 := HFL.out.o4.frozen j
          have cv := cell_of_one HFL.out.var
          obtain ⟨p0, p1⟩ := HF.out.prod hlt
          have q0 := HF.out.quo_nn hlt
          have l1 := HF.out.left (j + 1) (by omega)
          have l2 := HF.out.left j (by omega)
          have hsucc : sumF (quo T S W) (j + 1) = sumF (quo T S W) j + quo T S W j := rfl
          rw [hsucc] at l1
          have HSU := Lib.hid hsucc
          have HQ := Lib.hid (show T * W j / S = quo T S W j from rfl)
          have HRS := Lib.hid (show T * W j % S = rst T S W j from rfl)
          generalize W j = x at c1 p0 p1 HQ HRS
          generalize sumF (quo T S W) j = sq at l1 l2 HSU ⊢
          have n12 : g1 ≠ g2 := by omega
          have n14 : g1 ≠ g4 := by omega
          have n24 : g2 ≠ g4 := by omega
          have n1c : g1 ≠ c := by omega
          have n2c : g2 ≠ c := by omega
          clear hsucc
          go_wp2_with fail
          go_region
          go_wp2_with fail
          rw [HQ.out, HRS.out]
          have v5 : wrap64 (T - sq - quo T S W j) = T - sq - quo T S W j := IntWalk.wrap64_in _ ⟨by omega, by omega⟩
          rw [v5]
          go_roundw
          case rel => exact ⟨j + 1, congrArg (Value.int .i64) (by rw [HSU.out]; omega), by go_num, by omega, Lib.hid ((HFL.out.store (by rw [E1.out]; exact Nat.le_refl _) z1 z2 z3 j _ _ _).drew.ext
            (fun i _ => by by_cases e : i = j; (subst e; simp); (rw [if_neg e]; by_cases e2 : i < j; (rw [if_pos e2, if_pos (by omega)]); (rw [if_neg e2, if_neg (by omega)])))
            (fun i _ => by by_cases e : i = j; (subst e; simp); (rw [if_neg e]; by_cases e2 : i < j; (rw [if_pos e2, if_pos (by omega)]); (rw [if_neg e2, if_neg (by omega)])))
            (fun i _ => by by_cases e : i = j; (subst e; simp); (rw [if_neg e]; by_cases e2 : i < j; (rw [if_pos e2, if_pos (by omega)]); (rw [if_neg e2, if_neg (by omega)]))))⟩
          case measure => simp [intOf]; omega
        · have t1 : decide ((j : Int) < (k : Int)) = false := by rw [decide_eq_false_iff_not]; omega
          have t1' : decide (j < k) = false := by simpa using hlt
          obtain rfl : j = k := by omega
          have FL := Lib.hid (show Fill w wr g1 g2 c g4 j (quo T S W) (rst T S W) (fun i => (i : Int)) from HFL.out.ext (fun i hi => by simp [hi]) (fun i hi => by simp [hi]) (fun i hi => by simp [hi]))
          obtain ⟨b0, b1⟩ := Shr.left_bounds (T := T) (W := W) hs0 HF.out.sum
          obtain ⟨l, hl⟩ : ∃ l : Nat, T - sumF (quo T S W) j = l := ⟨(T - sumF (quo T S W) j).toNat, by omega⟩
          rw [hl] at b1 ⊢
          have HL := Lib.hid hl
          have hlj : l ≤ j := by omega
          clear hlt hj hl b0 b1
          go_wp2_with fail
          refine (sortStable_any wr g4 c g2 j (rst T S W) hn0 hn1 FL.out.var FL.out.o2 FL.out.o4 (by omega) (by omega)).mono ?_
          rintro e w1 ⟨rfl, ol, hord, hrow, hgr⟩
          have HORD := Lib.hid hord
          have R4 := Lib.hid hrow
          have R1 := Lib.hid (FL.out.o1.kept hgr (by simp; omega))
          have B1 := Lib.hid (FL.out.below.grown hgr FL.out.below.size (by rintro _ ⟨rfl⟩; have := E1.out; omega))
          clear hord hrow hgr
          go_wp2_with fail
          obtain ⟨wo, rfl⟩ : ∃ wo : World, wo = wr := ⟨_, rfl⟩
          go_loopw [77] (fun mv w2 => ∃ (m : Nat), mv = .int .i64 m ∧ m ≤ l ∧ Hid (RowF w2 g1 j (PartF T S W ol m)) ∧ Hid (RowF w2 g4 j (fun i => (ol.getD i 0 : Nat))) ∧ Hid (Below w.heap.size w w2)) (fun mv _ => l - (intOf mv).toNat)
          case atStart => exact ⟨0, rfl, by omega, Lib.hid (R1.out.ext (fun i _ => by simp [PartF])), R4, B1⟩
          case round =>
            obtain ⟨m, rfl, hm, P1, P4, PB⟩ := hrel
            by_cases hlt : m < l
            · have t2 : decide ((m : Int) < (l : Int)) = true := by rw [decide_eq_true_eq]; omega
              have c1 := P4.out.cell (show m < j by omega)
              have hml : m < ol.length := by rw [HORD.out.length]; omega
              have hxl : ol.getD m 0 = ol[m] := by rw [List.getD_eq_getElem?_getD, List.getElem?_eq_getElem hml]; rfl
              have hxj : ol.getD m 0 < j := by rw [hxl]; exact HORD.out.mem.1 (List.getElem_mem _)
              have hxt : ol.getD m 0 ∉ ol.take m := by
                rw [hxl]
                intro hin
                obtain ⟨q, hq, he⟩ := List.getElem_of_mem hin
                rw [List.length_take] at hq
                rw [List.getElem_take] at he
                have := List.nodup_iff_pairwise_ne.1 HORD.out.nodup
                rw [List.pairwise_iff_getElem] at this
                exact this q m (by omega) hml (by omega) he
              have HTK := Lib.hid (show ol.take (m + 1) = ol.take m ++ [ol.getD m 0] by rw [List.take_succ_eq_append_getElem hml, hxl])
              have HXT := Lib.hid hxt
              clear hxl hxt
              generalize ol.getD m 0 = x at c1 hxj HTK HXT
              have c2 := P1.out.cell hxj
              have f2 := P1.out.frozen x
              have hy : PartF T S W ol m x = quo T S W x := by unfold PartF; rw [if_neg HXT.out]; omega
              have hy1 := HF.out.quo_le hxj
              have hy2 := HF.out.quo_nn hxj
              rw [hy] at c2
              have HY := Lib.hid hy
              clear hy
              obtain ⟨y, hy⟩ : ∃ y, quo T S W x = y := ⟨_, rfl⟩
              rw [hy] at c2 hy1 hy2 HY
              have HQY := Lib.hid hy
              clear hy
              have n14 : g1 ≠ g4 := by omega
              go_wp2_with fail
              go_roundw
              case rel =>
                have hst := P1.out.stored x (y + 1)
                exact ⟨m + 1, by go_num, by omega, Lib.hid (hst.1.ext (fun i _ => by
                  unfold PartF
                  have hk := HTK.out
                  by_cases e : i = x
                  · subst e; rw [if_pos rfl, if_pos (by rw [hk]; simp), HQY.out]
                  · rw [if_neg e]
                    by_cases e2 : i ∈ ol.take m
                    · rw [if_pos e2, if_pos (by rw [hk]; exact List.mem_append_left _ e2)]
                    · rw [if_neg e2, if_neg (by rw [hk, List.mem_append, List.mem_singleton]; rintro (h | h); exact e2 h; exact e h)])), Lib.hid (P4.out.kept hst.2 (by simp; omega)), Lib.hid (PB.out.grown hst.2 PB.out.size (by rintro _ ⟨rfl⟩; have := E1.out; omega))⟩
              case measure => simp [intOf]; omega
            · have t2 : decide ((m : Int) < (l : Int)) = false := by rw [decide_eq_false_iff_not]; omega
              have t2' : decide (m < l) = false := by simpa using hlt
              obtain rfl : m = l := by omega
              clear hlt hm
              go_wp2_with fail
              go_ret
              exact ⟨ol, g1, HORD.out, rfl, by rw [HL.out, Int.toNat_natCast]; exact P1.out, by rw [E1.out]; exact Nat.le_refl _, PB.out⟩
end Go.Proofs.YtbkpoepacjinlaaGreat

/- Scale of the program returns 'Sc.sc'. -/
namespace Go.Proofs.YtbkpoepacjinlaaGreat
open Go.RowKit Go.BigFrame

def scRet (p : Int × Int) : Ending := .returned (.tuple #[.int .i64 p.1, .int .i64 p.2])
theorem how_new (w : World) (how : Int) (o : Obj) : ((w.alloc (.cells #[.int .i64 how] 3)).alloc o).cell? ⟨w.heap.size, 0, none⟩ = some (.int .i64 how) := by
  rw [World.cell?_alloc_past _ _ _ (by simp), World.cell?_alloc_at _ _ _ _ rfl]; rfl
theorem below_two (w : World) (o o' : Obj) : Below w.heap.size w ((w.alloc o).alloc o') := ((Below.refl _ _).alloc (Nat.le_refl _) o).alloc (by simp) o'

/-- the number without its sign, as the program makes it -/
theorem neg_wrap {a : Int} (h : a < 0) (h1 : -9223372036854775808 ≤ a) : IntKind.u64.wrap (-IntKind.u64.wrap a) = (a.natAbs : Int) := by
  simp only [IntKind.wrap_u64]; omega

theorem fin_ok {a num den how v : Int} {S : Bool} {q r d Q : Nat}
    (h : Sc.sc a num den how = if 4611686018427387904 < Sc.quo how S q r d then (0, 9) else (Sc.sgn S (Sc.quo how S q r d), 0))
    (hQ : Sc.quo how S q r d = Q) (hl : (Q : Int) ≤ 4611686018427387904) (hv : v = Sc.sgn S Q) :
    Ending.returned (.tuple #[.int .i64 v, .int .i64 0]) = scRet (Sc.sc a num den how) := by
  rw [h, hQ, if_neg (by omega), hv]; rfl
theorem fin_big {a num den how : Int} {S : Bool} {q r d Q : Nat}
    (h : Sc.sc a num den how = if 4611686018427387904 < Sc.quo how S q r d then (0, 9) else (Sc.sgn S (Sc.quo how S q r d), 0))
    (hQ : Sc.quo how S q r d = Q) (hl : 4611686018427387904 < (Q : Int)) :
    Ending.returned (.tuple #[.int .i64 0, .int .i64 9]) = scRet (Sc.sc a num den how) := by
  rw [h, hQ, if_pos (by omega)]; rfl
theorem quo_rest0 (how : Int) (S : Bool) (q d : Nat) : Sc.quo how S q 0 d = q := by simp [Sc.quo]
theorem quo_stay {how : Int} {S : Bool} {q r d : Nat} (h : Sc.away how S q r d = false) : Sc.quo how S q r d = q := by simp [Sc.quo, h]
theorem quo_up {how : Int} {S : Bool} {q r d : Nat} (h0 : 0 < r) (h : Sc.away how S q r d = true) : Sc.quo how S q r d = q + 1 := by simp [Sc.quo, h, h0]

end Go.Proofs.YtbkpoepacjinlaaGreat

/- Scale and Div of the program and of the reference: all return 'Sc.sc'. -/
namespace Go.Proofs.YtbkpoepacjinlaaGreat
open Go.RowKit Go.BigFrame

theorem word_split (n : Nat) : n / 18446744073709551616 * 18446744073709551616 + n % 18446744073709551616 = n := by omega

end Go.Proofs.YtbkpoepacjinlaaGreat

/- Scale and Div of the reference return 'Sc.sc'. -/
namespace Go.Proofs.YtbkpoepacjinlaaGreat
open Go.RowKit Go.BigFrame

theorem moreF_away {how : Int} (h1 : 1 ≤ how) (h5 : how ≤ 5) (b : Bool) (q r d : Nat) : moreF q r d b how = decide (0 < r ∧ Sc.away how b q r d = true) := by
  have e3 : ((q : Int) % 2 = 1) ↔ q % 2 = 1 := by omega
  have e5 : ((q : Int) % 2 == 1) = decide (q % 2 = 1) := by rw [Bool.eq_iff_iff, beq_iff_eq, decide_eq_true_eq]; exact e3
  unfold moreF
  by_cases h0 : r = 0
  · subst h0; simp
  rw [if_neg (by omega)]
  have hr : 0 < r := by omega
  unfold Sc.away
  by_cases a1 : how = 1
  · subst a1; cases b <;> simp [hr]
  by_cases a2 : how = 2
  · subst a2; cases b <;> simp [hr]
  by_cases a3 : how = 3
  · subst a3; simp
  simp only [a1, a2, a3, if_false]
  by_cases h6 : (r : Int) = d - r
  · rw [if_neg (by omega)]
    have h7 : 2 * r = d := by omega
    simp only [h7, hr, true_and, decide_true, Bool.true_and, e5]
    by_cases a4 : how = 4
    · subst a4; cases b <;> simp
    · simp [a4]
  · rw [if_pos h6]
    have h7 : ¬ 2 * r = d := by omega
    simp only [h7, hr, true_and, decide_false, Bool.false_and, Bool.or_false]
    have h8 : ((d : Int) - r < r) ↔ d < 2 * r := by omega
    by_cases a4 : how = 4
    · subst a4; simp [h8]
    · simp [a4, h8]

theorem rscale_kind (a num den how : Int) (w : World) (h : how < 1 ∨ 5 < how) :
    Calls Tryz.prog 93 #[.int .i64 a, .int .i64 num, .int .i64 den, .int .i64 how] w fun e w' => e = scRet (0, 7) ∧ Below w.heap.size w w' := by
  have ho : (decide (how < 1) || decide (5 < how)) = true := by simpa using h
  have hout := Lib.hid (outside_any how 1 5)
  clear h
  go_enter Tryz.func93, Tryz.ntmps93
  go_wp2_with fail
  refine (hout.out w).mono ?_
  rintro e w1 ⟨rfl, rfl⟩
  rw [ho]
  go_wp2
  go_ret2
  exact ⟨rfl, Below.refl _ _⟩
theorem rscale_arg (a num den how : Int) (w : World) (h1 : 1 ≤ how) (h5 : how ≤ 5) (h : den ≤ 0 ∨ num < 0) :
    Calls Tryz.prog 93 #[.int .i64 a, .int .i64 num, .int .i64 den, .int .i64 how] w fun e w' => e = scRet (0, 1) ∧ Below w.heap.size w w' := by
  have ho : (decide (how < 1) || decide (5 < how)) = false := by simp; omega
  have hout := Lib.hid (outside_any how 1 5)
  by_cases hd : den ≤ 0
  · have hd2 : decide (den < 1) = true := by rw [decide_eq_true_eq]; omega
    clear h
    go_enter Tryz.func93, Tryz.ntmps93
    go_wp2_with fail
    refine (hout.out w).mono ?_
    rintro e w1 ⟨rfl, rfl⟩
    rw [ho]
    go_wp2
    go_ret2
    exact ⟨rfl, Below.refl _ _⟩
  · have hd2 : decide (den < 1) = false := by rw [decide_eq_false_iff_not]; omega
    have hn2 : decide (num < 0) = true := by rw [decide_eq_true_eq]; omega
    clear h hd
    go_enter Tryz.func93, Tryz.ntmps93
    go_wp2_with fail
    refine (hout.out w).mono ?_
    rintro e w1 ⟨rfl, rfl⟩
    rw [ho]
    go_wp2
    go_ret2
    exact ⟨rfl, Below.refl _ _⟩

set_option maxHeartbeats 1000000 in
set_option maxRecDepth 100000 in
theorem rscale_high (a how : Int) (num den hi A : Nat) (w : World) (h1 : 1 ≤ how) (h5 : how ≤ 5) (hd : 1 ≤ den) (hD : (den : Int) ≤ 9223372036854775807) (hM : (num : Int) ≤ 9223372036854775807)
    (ha1 : -9223372036854775808 ≤ a) (ha2 : a ≤ 9223372036854775807) (hA : (A : Int) ≤ 9223372036854775808) (hAa : Hid (A = a.natAbs))
    (hhi' : ((A * num / 18446744073709551616 : Nat) : Int) = hi) (hle : (den : Int) ≤ hi) :
    Calls Tryz.prog 93 #[.int .i64 a, .int .i64 num, .int .i64 den, .int .i64 how] w fun e w' => e = scRet (0, 9) ∧ Below w.heap.size w w' := by
  have ho : (decide (how < 1) || decide (5 < how)) = false := by simp; omega
  have hout := Lib.hid (outside_any how 1 5)
  have hsz := Lib.hid (size_any a)
  have hmul := Lib.hid (Go.Proofs.Tryz.bits_Mul64 A num)
  have b1 : decide ((den : Int) < 1) = false := by rw [decide_eq_false_iff_not]; omega
  have b2 : decide ((den : Int) ≤ hi) = true := by rw [decide_eq_true_eq]; omega
  go_enter Tryz.func93, Tryz.ntmps93
  go_wp2_with fail
  refine (hout.out w).mono ?_
  rintro e w1 ⟨rfl, rfl⟩
  rw [ho]
  go_wp2_with fail
  refine (hsz.out _ ha1 ha2).mono ?_
  rintro e w1 ⟨rfl, rfl⟩
  rw [← hAa.out]
  go_wp2_with fail
  refine (hmul.out (by omega) (by omega) _).mono ?_
  rintro e w2 ⟨rfl, rfl⟩
  rw [hhi']
  go_wp2
  go_ret2
  exact ⟨rfl, Below.refl _ _⟩

set_option maxHeartbeats 2000000 in
set_option maxRecDepth 100000 in
theorem rscale_of (a how : Int) (num den hi lo q r A : Nat) (S : Bool) (w : World) (h1 : 1 ≤ how) (h5 : how ≤ 5) (hd : 1 ≤ den) (hD : (den : Int) ≤ 9223372036854775807) (hM : (num : Int) ≤ 9223372036854775807)
    (ha1 : -9223372036854775808 ≤ a) (ha2 : a ≤ 9223372036854775807) (hA : (A : Int) ≤ 9223372036854775808) (hAa : Hid (A = a.natAbs)) (hS : decide (a < 0) = S)
    (hhi' : ((A * num / 18446744073709551616 : Nat) : Int) = hi) (hlo' : ((A * num % 18446744073709551616 : Nat) : Int) = lo) (hlt : (hi : Int) < den)
    (hq' : (((hi * 18446744073709551616 + lo) / den : Nat) : Int) = q) (hr' : (((hi * 18446744073709551616 + lo) % den : Nat) : Int) = r) (hr0 : (r : Int) < den) (_hlo2 : (lo : Int) ≤ 18446744073709551615) (hq2 : (q : Int) ≤ 18446744073709551615)
    (hfin : Hid (Sc.sc a num den how = if 4611686018427387904 < Sc.quo how S q r den then (0, 9) else (Sc.sgn S (Sc.quo how S q r den), 0))) :
    Calls Tryz.prog 93 #[.int .i64 a, .int .i64 num, .int .i64 den, .int .i64 how] w fun e w' => e = scRet (Sc.sc a num den how) ∧ Below w.heap.size w w' := by
  have ho : (decide (how < 1) || decide (5 < how)) = false := by simp; omega
  have hout := Lib.hid (outside_any how 1 5)
  have hsz := Lib.hid (size_any a)
  have hmul := Lib.hid (Go.Proofs.Tryz.bits_Mul64 A num)
  have hdiv := Lib.hid (div64_any hi lo den)
  have b1 : decide ((den : Int) < 1) = false := by rw [decide_eq_false_iff_not]; omega
  have b2 : decide ((den : Int) ≤ hi) = false := by rw [decide_eq_false_iff_not]; omega
  have hmore := Lib.hid (more_any q r den S how)
  have hma := Lib.hid (moreF_away h1 h5 S q r den)
  go_enter Tryz.func93, Tryz.ntmps93
  go_wp2_with fail
  refine (hout.out w).mono ?_
  rintro e w1 ⟨rfl, rfl⟩
  rw [ho]
  go_wp2_with fail
  refine (hsz.out _ ha1 ha2).mono ?_
  rintro e w1 ⟨rfl, rfl⟩
  rw [← hAa.out]
  go_wp2_with fail
  refine (hmul.out (by omega) (by omega) _).mono ?_
  rintro e w2 ⟨rfl, rfl⟩
  rw [hhi', hlo']
  go_wp2_with fail
  refine (hdiv.out _ (by omega) (by omega) (by omega)).mono ?_
  rintro e w3 ⟨rfl, nd, rfl⟩
  rw [hq', hr']
  clear hhi' hlo' hq' hr' b1 b2
  go_wp2_with fail
  refine (hmore.out _ (by omega) (by omega) (by omega) (by omega)).mono ?_
  rintro e w4 ⟨rfl, rfl⟩
  rw [hma.out]
  cases haw : decide (0 < r ∧ Sc.away how S q r den = true)
  · have hQ : Sc.quo how S q r den = q := by
      unfold Sc.quo; rw [if_neg (by simpa using haw)]
    have HQ := Lib.hid hQ
    clear haw hQ hma hmore
    by_cases h9 : (q : Int) ≤ 4611686018427387904
    · have c4 : decide (4611686018427387904 < (q : Int)) = false := by rw [decide_eq_false_iff_not]; omega
      cases S
      · go_wp2
        go_ret2
        exact ⟨fin_ok hfin.out HQ.out h9 (by simp [Sc.sgn]), below_drewN (Below.refl _ _) _⟩
      · go_wp2
        go_ret2
        exact ⟨fin_ok hfin.out HQ.out h9 (by simp [Sc.sgn]), below_drewN (Below.refl _ _) _⟩
    · have c4 : decide (4611686018427387904 < (q : Int)) = true := by rw [decide_eq_true_eq]; omega
      have h9' := Lib.hid h9
      clear h9
      go_wp2
      go_ret2
      exact ⟨fin_big hfin.out HQ.out (by have := h9'.out; omega), below_drewN (Below.refl _ _) _⟩
  · have hQ : Sc.quo how S q r den = q + 1 := by
      unfold Sc.quo; rw [if_pos (by simpa using haw)]
    have HQ := Lib.hid hQ
    clear haw hQ hma hmore
    by_cases h8 : (q : Int) = 18446744073709551615
    · have c5 : IntKind.u64.wrap ((q : Int) + 1) = 0 := by rw [IntKind.wrap_u64]; omega
      have H8 := Lib.hid h8
      clear h8
      go_wp2
      go_ret2
      exact ⟨fin_big hfin.out HQ.out (by have := H8.out; omega), below_drewN (Below.refl _ _) _⟩
    · have c5 : IntKind.u64.wrap ((q : Int) + 1) = (q : Int) + 1 := by rw [IntKind.wrap_u64]; omega
      have c6 : ((q : Int) + 1 == 0) = false := by rw [beq_eq_false_iff_ne]; omega
      have H8 := Lib.hid h8
      clear h8
      by_cases h9 : (q : Int) + 1 ≤ 4611686018427387904
      · have c4 : decide (4611686018427387904 < (q : Int) + 1) = false := by rw [decide_eq_false_iff_not]; omega
        cases S
        · go_wp2
          go_ret2
          exact ⟨fin_ok hfin.out HQ.out (by omega) (by simp [Sc.sgn]), below_drewN (Below.refl _ _) _⟩
        · go_wp2
          go_ret2
          exact ⟨fin_ok hfin.out HQ.out (by omega) (by simp [Sc.sgn]), below_drewN (Below.refl _ _) _⟩
      · have c4 : decide (4611686018427387904 < (q : Int) + 1) = true := by rw [decide_eq_true_eq]; omega
        have h9' := Lib.hid h9
        clear h9
        go_wp2
        go_ret2
        exact ⟨fin_big hfin.out HQ.out (by have := h9'.out; omega), below_drewN (Below.refl _ _) _⟩

theorem rscale_any (a num den how : Int) (w : World) (ha1 : -9223372036854775808 ≤ a) (ha2 : a ≤ 9223372036854775807) (hn : num ≤ 9223372036854775807) (hd : den ≤ 9223372036854775807) :
    Calls Tryz.prog 93 #[.int .i64 a, .int .i64 num, .int .i64 den, .int .i64 how] w fun e w' => e = scRet (Sc.sc a num den how) ∧ Below w.heap.size w w' := by
  by_cases h1 : how < 1 ∨ 5 < how
  · rw [Sc.sc_kind _ _ _ _ h1]; exact rscale_kind a num den how w h1
  by_cases h2 : den ≤ 0 ∨ num < 0
  · rw [Sc.sc_arg _ _ _ _ (by omega) (by omega) h2]; exact rscale_arg a num den how w (by omega) (by omega) h2
  obtain ⟨num, rfl⟩ := Int.eq_ofNat_of_zero_le (show 0 ≤ num by omega)
  obtain ⟨den, rfl⟩ := Int.eq_ofNat_of_zero_le (show 0 ≤ den by omega)
  obtain ⟨N, hN⟩ : ∃ N, N = a.natAbs * num := ⟨_, rfl⟩
  have hN2 : N ≤ 9223372036854775808 * 9223372036854775807 := by rw [hN]; exact Nat.mul_le_mul (by omega) (by omega)
  by_cases h3 : den ≤ a.natAbs * num / 18446744073709551616
  · rw [Sc.sc_high a how num den (by omega) (by omega) (by omega) h3]
    exact rscale_high a how num den _ a.natAbs w (by omega) (by omega) (by omega) hd hn ha1 ha2 (by omega) (Lib.hid rfl) rfl (by omega)
  · have hfin := Sc.sc_of a how num den (by omega) (by omega) (by omega) (by omega)
    rw [← hN] at hfin h3
    have hr := Nat.mod_lt N (show 0 < den by omega)
    have hq : N / den < 18446744073709551616 := by
      rw [Nat.div_lt_iff_lt_mul (by omega)]
      omega
    have hlo := Nat.mod_lt N (show 0 < 18446744073709551616 by omega)
    exact rscale_of a how num den (N / 18446744073709551616) (N % 18446744073709551616) (N / den) (N % den) a.natAbs _ w (by omega) (by omega) (by omega) hd hn ha1 ha2 (by omega) (Lib.hid rfl) rfl
      (by rw [← hN]) (by rw [← hN]) (by omega) (by rw [word_split]) (by rw [word_split]) (by omega) (by omega) (by omega) (Lib.hid hfin)

end Go.Proofs.YtbkpoepacjinlaaGreat

/- Parts of the reference: the rest of a product. -/
namespace Go.Proofs.YtbkpoepacjinlaaGreat
open Go.RowKit Go.BigFrame

set_option maxHeartbeats 1000000 in
set_option maxRecDepth 100000 in
theorem rest_any (A B D L : Nat) (w : World) (hL : A * B = L) (hA : (A : Int) ≤ 9223372036854775807) (hB : (B : Int) ≤ 9223372036854775807) (hD : (D : Int) ≤ 9223372036854775807) (hD0 : 0 < D) (hl : (L : Int) ≤ 9223372036854775807) :
    Calls Tryz.prog 94 #[.int .i64 A, .int .i64 B, .int .i64 D] w fun e w' => e = .returned (.int .u64 ((L % D : Nat) : Int)) ∧ ∃ q, w' = w.drewN q := by
  have hlt : L < 18446744073709551616 := by omega
  have hmul := Tryz.bits_Mul64 A B (by omega) (by omega) w
  rw [hL, Nat.div_eq_of_lt hlt, Nat.mod_eq_of_lt hlt] at hmul
  have hdiv := div64_any 0 L D w hD0 hlt (by omega)
  rw [Nat.zero_mul, Nat.zero_add] at hdiv
  have HM := Lib.hid hmul
  have HD := Lib.hid hdiv
  have HLT := Lib.hid hlt
  have hD1 : 0 < (D : Int) := by omega
  have hLz : (L : Int) % (D : Int) = ((L % D : Nat) : Int) := by simp
  generalize L % D = r at hLz HD
  generalize L / D = qq at HD
  clear hmul hdiv hlt hL hLz
  go_enter Tryz.func94, Tryz.ntmps94
  go_wp2_with fail
  refine HM.out.mono ?_
  rintro e w1 ⟨rfl, rfl⟩
  go_wp2_with fail
  refine HD.out.mono ?_
  rintro e w2 ⟨rfl, q, rfl⟩
  go_wp2_with fail
  go_ret
  exact ⟨rfl, q, rfl⟩
end Go.Proofs.YtbkpoepacjinlaaGreat

/- Parts of the reference: its walk. -/
namespace Go.Proofs.YtbkpoepacjinlaaGreat
open Go.RowKit Go.BigFrame
open Shr (sumF quo rst)

/-- what is yet to be merged into an order -/
theorem ord_exists (R : Nat → Int) (n : Nat) : ∃ l, Shr.IsOrd R n l := by
  refine ⟨(List.range n).mergeSort fun i k => decide (R k < R i ∨ R k = R i ∧ i ≤ k), List.mergeSort_perm _ _, ?_⟩
  have h1 := List.pairwise_mergeSort (le := fun i k => decide (R k < R i ∨ R k = R i ∧ i ≤ k)) (by intro a b c; simp only [decide_eq_true_eq]; omega) (by intro a b; simp only [Bool.or_eq_true, decide_eq_true_eq]; omega) (List.range n)
  have h2 : ((List.range n).mergeSort fun i k => decide (R k < R i ∨ R k = R i ∧ i ≤ k)).Nodup := (List.mergeSort_perm _ _).nodup_iff.2 List.nodup_range
  exact (h1.and h2).imp (by intro a b h; simp only [decide_eq_true_eq] at h; unfold Shr.Bef; omega)
theorem sc_down {T x S : Int} (hT : 0 ≤ T) (hx : 0 ≤ x) (hS : 0 < S) (h : T * x ≤ 4611686018427387903) : Sc.sc T x S 1 = (T * x / S, 0) := by
  obtain ⟨A, rfl⟩ := Int.eq_ofNat_of_zero_le hT
  obtain ⟨B, rfl⟩ := Int.eq_ofNat_of_zero_le hx
  obtain ⟨D, rfl⟩ := Int.eq_ofNat_of_zero_le (Int.le_of_lt hS)
  have hAB : ((A * B : Nat) : Int) ≤ 4611686018427387903 := by rw [Int.natCast_mul]; exact h
  rw [Sc.sc_small _ _ _ _ (by decide) (by decide) (by omega) (by omega) (by simp only [Int.natAbs_natCast, Int.toNat_natCast]; omega)]
  have e : decide ((A : Int) < 0) = false := by simp
  rw [e]
  unfold Sc.quo Sc.away Sc.sgn
  simp
theorem rest_int {T x S : Int} (w : World) (hT : 0 ≤ T) (hT2 : T ≤ 9223372036854775807) (hx : 0 ≤ x) (hx2 : x ≤ 9223372036854775807) (hS : 0 < S) (hS2 : S ≤ 9223372036854775807) (h : T * x ≤ 4611686018427387903) :
    Calls Tryz.prog 94 #[.int .i64 T, .int .i64 x, .int .i64 S] w fun e w' => e = .returned (.int .u64 (T * x % S)) ∧ ∃ q, w' = w.drewN q := by
  obtain ⟨A, rfl⟩ := Int.eq_ofNat_of_zero_le hT
  obtain ⟨B, rfl⟩ := Int.eq_ofNat_of_zero_le hx
  obtain ⟨D, rfl⟩ := Int.eq_ofNat_of_zero_le (Int.le_of_lt hS)
  have hAB : ((A * B : Nat) : Int) ≤ 4611686018427387903 := by rw [Int.natCast_mul]; exact h
  have := rest_any A B D (A * B) w rfl hT2 hx2 hS2 (by omega) (by omega)
  rw [Int.natCast_emod, Int.natCast_mul] at this
  exact this

/-- a row of the call's own, of n bools -/
def RowB (w : World) (g n : Nat) (f : Nat → Bool) : Prop := w.ownsRow g 4 1 (.slice (some ⟨g, 0, none⟩) n n) n ((List.range n).map fun i => .bool (f i))
theorem RowB.cell {w : World} {g n : Nat} {f : Nat → Bool} (h : RowB w g n f) {j : Nat} (hj : j < n) : w.cell? ⟨g, j, none⟩ = some (.bool (f j)) := by
  rw [World.ownsRow.cellAt h j (by omega), List.getElem?_map, List.getElem?_range hj]
  rfl
theorem RowB.frozen {w : World} {g n : Nat} {f : Nat → Bool} (h : RowB w g n f) (j : Nat) : w.frozen? ⟨g, j, none⟩ = false := World.ownsRow.frozenAt h j
theorem RowB.lt {w : World} {g n : Nat} {f : Nat → Bool} (h : RowB w g n f) : g < w.heap.size := (World.ownsRow.lt h g rfl).2
theorem RowB.kept {w w' : World} {g n : Nat} {f : Nat → Bool} {row : Option Nat} (h : RowB w g n f) (hg : w.grownBy w' row) (hne : some g ≠ row) : RowB w' g n f := World.ownsRow.kept h hg (Or.inr hne)
theorem RowB.ext {w : World} {g n : Nat} {f f' : Nat → Bool} (h : RowB w g n f) (he : ∀ i, i < n → f i = f' i) : RowB w g n f' := by
  unfold RowB at h ⊢
  rwa [List.map_congr_left (fun i hi => by rw [he i (List.mem_range.1 hi)])] at h
theorem RowB.stored {w : World} {g n : Nat} {f : Nat → Bool} (h : RowB w g n f) (k : Nat) (x : Bool) :
    RowB (w.setCell ⟨g, k, none⟩ (.bool x)) g n (fun i => if i = k then x else f i) ∧ w.grownBy (w.setCell ⟨g, k, none⟩ (.bool x)) (some g) := by
  obtain ⟨h1, h2⟩ := World.ownsRow.stored h k (.bool x)
  refine ⟨?_, h2⟩
  unfold RowB
  have e : ((List.range n).map fun i => Value.bool (f i)).set k (.bool x) = (List.range n).map fun i => Value.bool (if i = k then x else f i) := by
    apply List.ext_getElem
    · simp
    · intro i h3 h4
      simp only [List.getElem_set, List.getElem_map, List.getElem_range]
      by_cases e1 : k = i
      · subst e1; simp
      · rw [if_neg e1, if_neg (fun h => e1 h.symm)]
  rw [← e]
  exact h1
theorem RowB.of_make {w : World} {g n : Nat} (h : w.ownsRow g 4 1 (.slice (some ⟨g, 0, none⟩) n n) n (madeCells (Value.bool false).cells (n * 1)).toList) : RowB w g n (fun _ => false) := by
  unfold RowB
  have e : (madeCells (Value.bool false).cells (n * 1)).toList = (List.range n).map fun _ => Value.bool false := by
    rw [Nat.mul_one]
    show (madeCells #[Value.bool false] n).toList = _
    rw [toList_madeCells_one]
    apply List.ext_getElem <;> simp
  rw [← e]
  exact h
/-- of those looked at and not taken the first in the order -/
def Best (R : Nat → Int) (tk : List Nat) (m : Nat) (q : Int) : Prop :=
  (q = -1 ∧ ∀ j, j < m → j ∈ tk) ∨ ∃ b : Nat, q = b ∧ b < m ∧ b ∉ tk ∧ ∀ j, j < m → j ∉ tk → j ≠ b → Shr.Bef R b j
theorem Best.skip {R : Nat → Int} {tk : List Nat} {m : Nat} {q : Int} (h : Best R tk m q) (hm : m ∈ tk) : Best R tk (m + 1) q := by
  rcases h with ⟨h1, h2⟩ | ⟨b, h1, h2, h3, h4⟩
  · exact Or.inl ⟨h1, fun j hj => by by_cases e : j = m; (subst e; exact hm); exact h2 j (by omega)⟩
  · exact Or.inr ⟨b, h1, by omega, h3, fun j hj hn he => by
      by_cases e : j = m
      · subst e; exact absurd hm hn
      · exact h4 j (by omega) hn he⟩
theorem Best.first {R : Nat → Int} {tk : List Nat} {m : Nat} {q : Int} (h : Best R tk m q) (hq : q < 0) (hm : m ∉ tk) : Best R tk (m + 1) (m : Int) := by
  rcases h with ⟨h1, h2⟩ | ⟨b, h1, _⟩
  · exact Or.inr ⟨m, rfl, by omega, hm, fun j hj hn he => absurd (h2 j (by omega)) hn⟩
  · omega
theorem Best.better {R : Nat → Int} {tk : List Nat} {m b : Nat} (h : Best R tk m (b : Int)) (hm : m ∉ tk) (hl : R b < R m) : Best R tk (m + 1) (m : Int) := by
  rcases h with ⟨h1, h2⟩ | ⟨b', h1, h2, h3, h4⟩
  · omega
  · obtain rfl : b = b' := by omega
    refine Or.inr ⟨m, rfl, by omega, hm, fun j hj hn he => ?_⟩
    by_cases e : j = b
    · subst e; exact Or.inl hl
    · exact Shr.bef_trans (Or.inl hl) (h4 j (by omega) hn e)
theorem Best.keep {R : Nat → Int} {tk : List Nat} {m b : Nat} (h : Best R tk m (b : Int)) (hl : ¬ R b < R m) : Best R tk (m + 1) (b : Int) := by
  rcases h with ⟨h1, h2⟩ | ⟨b', h1, h2, h3, h4⟩
  · omega
  · obtain rfl : b = b' := by omega
    refine Or.inr ⟨b, rfl, by omega, h3, fun j hj hn he => ?_⟩
    by_cases e : j = m
    · subst e; unfold Shr.Bef; omega
    · exact h4 j (by omega) hn he
theorem not_in_take {R : Nat → Int} {n t : Nat} {l : List Nat} (h : Shr.IsOrd R n l) (ht : t < l.length) : l[t] ∉ l.take t := by
  intro hin
  obtain ⟨q, hq, he⟩ := List.getElem_of_mem hin
  rw [List.length_take] at hq
  rw [List.getElem_take] at he
  have := List.nodup_iff_pairwise_ne.1 h.nodup
  rw [List.pairwise_iff_getElem] at this
  exact this q t (by omega) ht (by omega) he
theorem Best.done {R : Nat → Int} {n t : Nat} {l : List Nat} {q : Int} (h : Shr.IsOrd R n l) (ht : t < n) (hb : Best R (l.take t) n q) :
    ∃ b : Nat, q = b ∧ b < n ∧ b ∉ l.take t ∧ l.take (t + 1) = l.take t ++ [b] := by
  rcases hb with ⟨_, h2⟩ | ⟨b, h1, h2, h3, h4⟩
  · have hl : t < l.length := by rw [h.length]; exact ht
    exact absurd (h2 _ (h.mem.1 (List.getElem_mem hl))) (not_in_take h hl)
  · exact ⟨b, h1, h2, h3, Shr.pick h ht h2 h3 h4⟩
theorem below_grown {w w' : World} (hb : Below w.heap.size w w') : w.grownBy w' none := ⟨hb.os, hb.tape, hb.output, hb.size, fun k hk _ => hb.block k hk⟩

set_option maxHeartbeats 4000000 in
set_option maxRecDepth 100000 in
theorem rparts_any (T S : Int) (a : Option Addr) (n cap : Nat) (W : Nat → Int) (w : World) (hr : Row1 w a n W) (hf : Fine T W n S) :
    Calls Tryz.prog 86 #[.int .i64 T, .slice a n cap] w (Parted T S W n w) := by
  obtain ⟨i0, hi0, hz0, hz1, hz2⟩ := info_parts (show (Tryz.prog.info? 3).map (fun i => (i.zero, i.size, i.bytes)) = some (some (.int .i64 0), 1, 8) by kernel_rfl)
  obtain ⟨i1, hi1, hy0, hy1, hy2⟩ := info_parts (show (Tryz.prog.info? 4).map (fun i => (i.zero, i.size, i.bytes)) = some (some (.bool false), 1, 1) by kernel_rfl)
  have HR := Lib.hid hr
  have HF := Lib.hid hf
  have hn0 := hf.pos
  have hn1 := hf.n1
  have hs0 := hf.s0
  have hs1 := hf.s1
  have ht0 := hf.t0
  have ht1 := hf.t1
  obtain ⟨b, off, rfl, hbl, hcW⟩ := hr.here hn0
  have HCW := Lib.hid hcW
  obtain ⟨ol, hord⟩ := ord_exists (rst T S W) n
  have HORD := Lib.hid hord
  clear hr hf hcW hord
  go_enter Tryz.func86, Tryz.ntmps86
  go_wp2_with fail
  go_loop [5, 18] (fun sv iv => ∃ (k : Nat), sv = .int .i64 (sumF W k) ∧ iv = .int .i64 k ∧ k ≤ n) (fun _ iv => n - (intOf iv).toNat)
  case atStart => exact ⟨0, rfl, rfl, by omega⟩
  case round =>
    obtain ⟨k, rfl, rfl, hk⟩ := hrel
    by_cases hlt : k < n
    · have t1 : decide ((k : Int) < (n : Int)) = true := by rw [decide_eq_true_eq]; omega
      have c1 := HCW.out k hlt
      have hp := HF.out.part (k + 1) (by omega)
      have hp2 := HF.out.part k (by omega)
      have hsucc : sumF W (k + 1) = sumF W k + W k := rfl
      rw [hsucc] at hp
      have HS := Lib.hid hsucc
      have hw0 := HF.out.w0 k hlt
      clear hsucc
      generalize W k = x at c1 hp hw0 HS
      go_wp2_with fail
      go_round
      case rel => exact ⟨k + 1, congrArg (Value.int .i64) HS.out.symm, by go_num, by omega⟩
      case measure => simp [intOf]; omega
    · have t1 : decide ((k : Int) < (n : Int)) = false := by rw [decide_eq_false_iff_not]; omega
      have t1' : decide (k < n) = false := by simpa using hlt
      obtain rfl : k = n := by omega
      have hsm : sumF W k = S := HF.out.sum
      rw [hsm]
      have hby : 8 * k ≤ 281474976710656 := by omega
      have hby1 : 1 * k ≤ 281474976710656 := by omega
      have hml : k ≤ maxLen := by unfold maxLen; omega
      clear hsm hlt hk
      go_wp2_with (first
        | (at_make; refine wpList_make_full _ rfl (.tmp 27) (.tmp 27) 39 rfl _ 3 i0 (.int .i64 0) 1 Tryz.underlying39 hi0 hz0 hz1 .i64 .i64 k k k rfl rfl rfl rfl (by rw [hz2]; exact hby) hml (Nat.le_refl _) ?_; intro wa hoa hga; have HOa := Lib.hid hoa; have HGa := Lib.hid hga; clear hoa hga)
        | (at_make; refine wpList_make_full _ rfl (.tmp 30) (.tmp 30) 81 rfl _ 4 i1 (.bool false) 1 Tryz.underlying81 hi1 hy0 hy1 .i64 .i64 k k k rfl rfl rfl rfl (by rw [hy2]; exact hby1) hml (Nat.le_refl _) ?_; intro wb hob hgb; have HOb := Lib.hid hob; have HGb := Lib.hid hgb; clear hob hgb)
        | fail)
      have z1 : w.heap.size < wa.heap.size := (RowF.of_make HOa.out).lt
      have FL := Lib.hid (show RowF wb w.heap.size k (fun _ => 0) ∧ RowB wb wa.heap.size k (fun _ => false) ∧ Below w.heap.size w wb from by
        refine ⟨(RowF.of_make HOa.out).kept HGb.out (by simp), RowB.of_make HOb.out, ?_⟩
        have b1 : Below w.heap.size w wa := (Below.refl _ _).grown HGa.out (Nat.le_refl _) (fun _ h => by cases h)
        exact b1.grown HGb.out b1.size (fun _ h => by cases h))
      clear HOa HOb HGa HGb
      obtain ⟨g1, e1⟩ : ∃ g1, w.heap.size = g1 := ⟨_, rfl⟩
      rw [e1] at z1 ⊢
      have E1 := Lib.hid e1
      obtain ⟨g2, e2⟩ : ∃ g2, wa.heap.size = g2 := ⟨_, rfl⟩
      rw [e2] at FL z1 ⊢
      have FL2 := Lib.hid (show RowF wb g1 k (fun _ => 0) ∧ RowB wb g2 k (fun _ => false) ∧ Below w.heap.size w wb by rw [← e1]; exact FL.out)
      clear e1 e2 FL
      go_loopw [10, 35] (fun lv iv wr => ∃ (j : Nat), lv = .int .i64 (T - sumF (quo T S W) j) ∧ iv = .int .i64 j ∧ j ≤ k ∧ Hid (RowF wr g1 k (fun i => if i < j then quo T S W i else 0)) ∧ Hid (RowB wr g2 k (fun _ => false)) ∧ Hid (Below w.heap.size w wr)) (fun _ iv _ => k - (intOf iv).toNat)
      case atStart => exact ⟨0, congrArg (Value.int .i64) (by show T = T - 0; omega), rfl, by omega, Lib.hid (FL2.out.1.ext (fun i _ => by simp)), Lib.hid FL2.out.2.1, Lib.hid FL2.out.2.2⟩
      case round =>
        obtain ⟨j, rfl, rfl, hj, P1, P2, PB⟩ := hrel
        by_cases hlt : j < k
        · have t1 : decide ((j : Int) < (k : Int)) = true := by rw [decide_eq_true_eq]; omega
          have c1 := (PB.out.cell (p := ⟨b, off + j, none⟩) hbl).trans (HCW.out j hlt)
          obtain ⟨p0, p1⟩ := HF.out.prod hlt
          have q0 := HF.out.quo_nn hlt
          have qT := HF.out.quo_le hlt
          have w0 := HF.out.w0 j hlt
          have l1 := HF.out.left (j + 1) (by omega)
          have l2 := HF.out.left j (by omega)
          have wS := HF.out.part (j + 1) (by omega)
          have wS2 := HF.out.part j (by omega)
          have hsW : sumF W (j + 1) = sumF W j + W j := rfl
          rw [hsW] at wS
          have hsucc : sumF (quo T S W) (j + 1) = sumF (quo T S W) j + quo T S W j := rfl
          rw [hsucc] at l1
          have HSU := Lib.hid hsucc
          have hsc := sc_down ht0 w0 hs0 p1
          have HSC := rscale_any T (W j) S 1 wr (by omega) (by omega) (by omega) (by omega)
          rw [hsc, show T * W j / S = quo T S W j from rfl] at HSC
          unfold scRet at HSC
          have HSC := Lib.hid HSC
          generalize W j = x at c1 HSC
          obtain ⟨qv, hqv⟩ : ∃ qv, quo T S W j = qv := ⟨_, rfl⟩
          rw [hqv] at q0 qT l1 HSU HSC
          have HQV := Lib.hid hqv
          clear hqv
          generalize sumF (quo T S W) j = sq at l1 l2 HSU ⊢
          clear hsucc hsc hsW wS wS2 w0 p0 p1
          go_wp2_with fail
          refine HSC.out.mono ?_
          rintro e w5 ⟨rfl, hb5⟩
          have hg5 := below_grown hb5
          have P15 := P1.out.kept hg5 (by simp)
          obtain ⟨u1, c2⟩ : ∃ u, w5.cell? ⟨g1, j, none⟩ = some u := ⟨_, P15.cell hlt⟩
          have f1 := P15.frozen j
          have Q1 := Lib.hid P15
          have Q2 := Lib.hid (P2.out.kept hg5 (by simp))
          have QB := Lib.hid (PB.out.trans (hb5.mono PB.out.size))
          clear hb5 hg5 P15
          go_wp2_with fail
          go_roundw
          case rel =>
            have hst := Q1.out.stored j qv
            exact ⟨j + 1, congrArg (Value.int .i64) (by rw [HSU.out]; omega), by go_num, by omega, Lib.hid (hst.1.ext (fun i _ => by
              by_cases e : i = j
              · subst e; rw [if_pos rfl, if_pos (by omega), HQV.out]
              · rw [if_neg e]
                by_cases e2 : i < j
                · rw [if_pos e2, if_pos (by omega)]
                · rw [if_neg e2, if_neg (by omega)])), Lib.hid (Q2.out.kept hst.2 (by simp; omega)), Lib.hid (QB.out.grown hst.2 QB.out.size (by rintro _ ⟨rfl⟩; have := E1.out; omega))⟩
          case measure => simp [intOf]; omega
        · have t1 : decide ((j : Int) < (k : Int)) = false := by rw [decide_eq_false_iff_not]; omega
          have t1' : decide (j < k) = false := by simpa using hlt
          obtain rfl : j = k := by omega
          obtain ⟨b0, b1⟩ := Shr.left_bounds (T := T) (W := W) hs0 HF.out.sum
          obtain ⟨l, hl⟩ : ∃ l : Nat, T - sumF (quo T S W) j = l := ⟨(T - sumF (quo T S W) j).toNat, by omega⟩
          rw [hl] at b1 ⊢
          have HL := Lib.hid hl
          have hlj : l ≤ j := by omega
          have Q1 := Lib.hid (show RowF wr g1 j (PartF T S W ol 0) from P1.out.ext (fun i hi => by simp [PartF, hi]))
          have Q2 := Lib.hid (show RowB wr g2 j (fun i => decide (i ∈ ol.take 0)) from P2.out.ext (fun i hi => by simp))
          clear hlt hj hl b0 b1
          go_wp2_with fail
          obtain ⟨wo, rfl⟩ : ∃ wo : World, wo = wr := ⟨_, rfl⟩
          go_loopw [10] (fun lv w2 => ∃ (t : Nat), lv = .int .i64 ((l : Int) - t) ∧ t ≤ l ∧ Hid (RowF w2 g1 j (PartF T S W ol t)) ∧ Hid (RowB w2 g2 j (fun i => decide (i ∈ ol.take t))) ∧ Hid (Below w.heap.size w w2)) (fun lv _ => (intOf lv).toNat)
          case atStart => exact ⟨0, congrArg (Value.int .i64) (by omega), by omega, Q1, Q2, PB⟩
          case round =>
            obtain ⟨t, rfl, ht, R1, R2, RB⟩ := hrel
            by_cases hlt : t < l
            · have t2 : decide ((0 : Int) < (l : Int) - (t : Int)) = true := by rw [decide_eq_true_eq]; omega
              go_wp2_with fail
              obtain ⟨wp, rfl⟩ : ∃ wp : World, wp = wr := ⟨_, rfl⟩
              go_loopw [13, 63] (fun bv mv w3 => ∃ (q : Int) (m : Nat), bv = .int .i64 q ∧ mv = .int .i64 m ∧ m ≤ j ∧ -1 ≤ q ∧ q < (j : Int) ∧ Hid (Best (rst T S W) (ol.take t) m q) ∧ Hid (∃ d, w3 = wp.drewN d)) (fun _ mv _ => j - (intOf mv).toNat)
              case atStart => exact ⟨-1, 0, rfl, rfl, by omega, by omega, by omega, Lib.hid (Or.inl ⟨rfl, fun j hj => by omega⟩), Lib.hid ⟨0, rfl⟩⟩
              case round =>
                obtain ⟨q, m, rfl, rfl, hm, hq0, hq1, HBE, HWD⟩ := hrel
                obtain ⟨d, rfl⟩ := HWD.out
                by_cases hmj : m < j
                · have t3 : decide ((m : Int) < (j : Int)) = true := by rw [decide_eq_true_eq]; omega
                  have cw : (wp.drewN d).cell? ⟨b, off + m, none⟩ = some (.int .i64 (W m)) := (RB.out.cell (p := ⟨b, off + m, none⟩) hbl).trans (HCW.out m hmj)
                  have cg : (wp.drewN d).cell? ⟨g2, m, none⟩ = some (.bool (decide (m ∈ ol.take t))) := R2.out.cell hmj
                  have w0 := HF.out.w0 m hmj
                  obtain ⟨p0, p1⟩ := HF.out.prod hmj
                  have wS := HF.out.part (m + 1) (by omega)
                  have wS2 := HF.out.part m (by omega)
                  have hsW : sumF W (m + 1) = sumF W m + W m := rfl
                  rw [hsW] at wS
                  have HX := Lib.hid (fun W5 => rest_int (T := T) (x := W m) (S := S) W5 ht0 (by omega) w0 (by omega) hs0 hs1 p1)
                  rw [show T * W m % S = rst T S W m from rfl] at HX
                  clear hsW wS wS2 p0 p1 w0
                  by_cases htk : m ∈ ol.take t
                  · rw [show decide (m ∈ ol.take t) = true by simpa using htk] at cg
                    have HB2 := Lib.hid (HBE.out.skip htk)
                    obtain ⟨w5, hw5⟩ : ∃ w5, wp.drewN d = w5 := ⟨_, rfl⟩
                    rw [hw5] at cw cg ⊢
                    have HW5 := Lib.hid hw5
                    clear htk hw5
                    generalize W m = x at cw HX
                    go_wp2_with fail
                    go_quiet (fail)
                    go_wp2_with fail
                    go_roundw
                    case rel => exact ⟨q, m + 1, rfl, by go_num, by omega, hq0, hq1, HB2, Lib.hid ⟨d + nq, by rw [← HW5.out, World.drewN_drewN]⟩⟩
                    case measure => simp [intOf]; omega
                  · rw [show decide (m ∈ ol.take t) = false by simpa using htk] at cg
                    by_cases hq : q < 0
                    · have HB2 := Lib.hid (HBE.out.first hq htk)
                      have t4 : decide (q < 0) = true := by simpa using hq
                      obtain ⟨w5, hw5⟩ : ∃ w5, wp.drewN d = w5 := ⟨_, rfl⟩
                      rw [hw5] at cw cg ⊢
                      have HW5 := Lib.hid hw5
                      clear htk hw5 hq
                      generalize W m = x at cw HX
                      go_wp2_with fail
                      go_quiet (fail)
                      go_wp2_with fail
                      go_roundw
                      case rel => exact ⟨m, m + 1, rfl, by go_num, by omega, by omega, by omega, HB2, Lib.hid ⟨d + nq, by rw [← HW5.out, World.drewN_drewN]⟩⟩
                      case measure => simp [intOf]; omega
                    · obtain ⟨bq, rfl⟩ : ∃ bq : Nat, q = bq := ⟨q.toNat, by omega⟩
                      have hbj : bq < j := by omega
                      have t4 : decide ((bq : Int) < 0) = false := by rw [decide_eq_false_iff_not]; omega
                      have cb : (wp.drewN d).cell? ⟨b, off + bq, none⟩ = some (.int .i64 (W bq)) := (RB.out.cell (p := ⟨b, off + bq, none⟩) hbl).trans (HCW.out bq hbj)
                      have w0 := HF.out.w0 bq hbj
                      obtain ⟨p0, p1⟩ := HF.out.prod hbj
                      have wS := HF.out.part (bq + 1) (by omega)
                      have wS2 := HF.out.part bq (by omega)
                      have hsW : sumF W (bq + 1) = sumF W bq + W bq := rfl
                      rw [hsW] at wS
                      have HY := Lib.hid (fun W5 => rest_int (T := T) (x := W bq) (S := S) W5 ht0 (by omega) w0 (by omega) hs0 hs1 p1)
                      rw [show T * W bq % S = rst T S W bq from rfl] at HY
                      clear hsW wS wS2 p0 p1 w0
                      obtain ⟨w5, hw5⟩ : ∃ w5, wp.drewN d = w5 := ⟨_, rfl⟩
                      rw [hw5] at cw cg cb ⊢
                      have HW5 := Lib.hid hw5
                      have HTK := Lib.hid htk
                      clear htk hw5 hq
                      by_cases hl : rst T S W bq < rst T S W m
                      · have t5 : decide (rst T S W bq < rst T S W m) = true := by simpa using hl
                        have HB2 := Lib.hid (HBE.out.better HTK.out hl)
                        generalize rst T S W bq = rb at t5 HY
                        generalize rst T S W m = rm at t5 HX
                        generalize W m = x at cw HX
                        generalize W bq = y at cb HY
                        clear hl
                        go_wp2_with fail
                        go_quiet ((go_at_call 94; first | with_reducible exact Calls.quiet_of (HX.out _) | with_reducible exact Calls.quiet_of (HY.out _)))
                        go_wp2_with fail
                        go_roundw
                        case rel => exact ⟨m, m + 1, rfl, by go_num, by omega, by omega, by omega, HB2, Lib.hid ⟨d + nq, by rw [← HW5.out, World.drewN_drewN]⟩⟩
                        case measure => simp [intOf]; omega
                      · have t5 : decide (rst T S W bq < rst T S W m) = false := by simpa using hl
                        have HB2 := Lib.hid (HBE.out.keep hl)
                        generalize rst T S W bq = rb at t5 HY
                        generalize rst T S W m = rm at t5 HX
                        generalize W m = x at cw HX
                        generalize W bq = y at cb HY
                        clear hl
                        go_wp2_with fail
                        go_quiet ((go_at_call 94; first | with_reducible exact Calls.quiet_of (HX.out _) | with_reducible exact Calls.quiet_of (HY.out _)))
                        go_wp2_with fail
                        go_roundw
                        case rel => exact ⟨bq, m + 1, rfl, by go_num, by omega, by omega, by omega, HB2, Lib.hid ⟨d + nq, by rw [← HW5.out, World.drewN_drewN]⟩⟩
                        case measure => simp [intOf]; omega
                · have t3 : decide ((m : Int) < (j : Int)) = false := by rw [decide_eq_false_iff_not]; omega
                  have t3' : decide (m < j) = false := by simpa using hmj
                  obtain rfl : m = j := by omega
                  obtain ⟨bq, rfl, hbm, hbt, htk⟩ := HBE.out.done HORD.out (by omega)
                  have HBT := Lib.hid hbt
                  have HTK := Lib.hid htk
                  obtain ⟨w5, hw5⟩ : ∃ w5, wp.drewN d = w5 := ⟨_, rfl⟩
                  have hg5 : wp.grownBy w5 none := by rw [← hw5]; exact grown_drewN' _ _ _
                  have Q1 := Lib.hid (R1.out.kept hg5 (by simp))
                  have Q2 := Lib.hid (R2.out.kept hg5 (by simp))
                  have QB := Lib.hid (show Below w.heap.size w w5 by rw [← hw5]; exact below_drewN RB.out d)
                  rw [hw5]
                  have hy : PartF T S W ol t bq = quo T S W bq := by unfold PartF; rw [if_neg HBT.out]; omega
                  have c1 := Q1.out.cell hbm
                  rw [hy] at c1
                  have hy1 := HF.out.quo_le hbm
                  have hy2 := HF.out.quo_nn hbm
                  obtain ⟨y, hqy⟩ : ∃ y, quo T S W bq = y := ⟨_, rfl⟩
                  rw [hqy] at c1 hy1 hy2 hy
                  have HY := Lib.hid hy
                  have HQY := Lib.hid hqy
                  obtain ⟨u2, c2⟩ : ∃ u, w5.cell? ⟨g2, bq, none⟩ = some u := ⟨_, Q2.out.cell hbm⟩
                  have f1 := Q1.out.frozen bq
                  have f2 := Q2.out.frozen bq
                  have n12 : g1 ≠ g2 := by omega
                  have n21 : g2 ≠ g1 := by omega
                  clear hbt htk hw5 hg5 hy hqy hmj hm
                  go_wp2_with fail
                  go_roundw
                  case rel =>
                    have hs2 := Q2.out.stored bq true
                    have hs1 := (Q1.out.kept hs2.2 (by simp; omega)).stored bq (y + 1)
                    have hk := HTK.out
                    exact ⟨t + 1, congrArg (Value.int .i64) (by omega), by omega, Lib.hid (hs1.1.ext (fun i _ => by
                      unfold PartF
                      by_cases e : i = bq
                      · subst e; rw [if_pos rfl, if_pos (by rw [hk]; simp), HQY.out]
                      · rw [if_neg e]
                        by_cases e2 : i ∈ ol.take t
                        · rw [if_pos e2, if_pos (by rw [hk]; exact List.mem_append_left _ e2)]
                        · rw [if_neg e2, if_neg (by rw [hk, List.mem_append, List.mem_singleton]; rintro (h | h); exact e2 h; exact e h)])),
                      Lib.hid ((hs2.1.kept hs1.2 (by simp; omega)).ext (fun i _ => by
                        by_cases e : i = bq
                        · subst e; rw [if_pos rfl]; symm; rw [decide_eq_true_eq, hk]; simp
                        · rw [if_neg e, Bool.eq_iff_iff, decide_eq_true_eq, decide_eq_true_eq, hk, List.mem_append, List.mem_singleton]
                          exact ⟨Or.inl, fun h => h.resolve_right e⟩)),
                      Lib.hid ((QB.out.grown hs2.2 QB.out.size (by rintro _ ⟨rfl⟩; have := E1.out; omega)).grown hs1.2 (Nat.le_trans QB.out.size hs2.2.size) (by rintro _ ⟨rfl⟩; have := E1.out; omega))⟩
                  case measure => simp [intOf]; omega
            · have t2 : decide ((0 : Int) < (l : Int) - (t : Int)) = false := by rw [decide_eq_false_iff_not]; omega
              obtain rfl : t = l := by omega
              clear hlt ht
              go_wp2_with fail
              go_ret
              exact ⟨ol, g1, HORD.out, rfl, by rw [HL.out, Int.toNat_natCast]; exact R1.out, by rw [E1.out]; exact Nat.le_refl _, RB.out⟩
end Go.Proofs.YtbkpoepacjinlaaGreat

/- Gear: the ways of the pieces, in plain numbers. -/
namespace Go.Proofs.YtbkpoepacjinlaaGreat
open Go.RowKit
open Shr (sumF quo rst)

/-- the order of the rests -/
def ordL (R : Nat → Int) (n : Nat) : List Nat := (List.range n).mergeSort fun i k => decide (R k < R i ∨ R k = R i ∧ i ≤ k)
theorem ordL_ord (R : Nat → Int) (n : Nat) : Shr.IsOrd R n (ordL R n) := by
  refine ⟨List.mergeSort_perm _ _, ?_⟩
  have h1 := List.pairwise_mergeSort (le := fun i k => decide (R k < R i ∨ R k = R i ∧ i ≤ k)) (by intro a b c; simp only [decide_eq_true_eq]; omega) (by intro a b; simp only [Bool.or_eq_true, decide_eq_true_eq]; omega) (List.range n)
  have h2 : (ordL R n).Nodup := (List.mergeSort_perm _ _).nodup_iff.2 List.nodup_range
  exact (h1.and h2).imp (by intro a b h; simp only [decide_eq_true_eq] at h; unfold Shr.Bef; omega)
/-- the i-th part of T by the weights W -/
def wayG (T S : Int) (W : Nat → Int) (n i : Nat) : Int := PartF T S W (ordL (rst T S W) n) (T - sumF (quo T S W) n).toNat i
theorem wayG_of {T S : Int} {W : Nat → Int} {n : Nat} {l : List Nat} (h : Shr.IsOrd (rst T S W) n l) (i : Nat) : PartF T S W l (T - sumF (quo T S W) n).toNat i = wayG T S W n i := by
  rw [h.unique (ordL_ord _ _)]
  rfl
def pget (l : List Pcs.Pc) (i : Nat) : Pcs.Pc := l.getD i (⟨#[]⟩, 0)
def secW (l : List Pcs.Pc) (i : Nat) : Int := (pget l i).2
theorem sum_take (l : List Pcs.Pc) : ∀ k, k ≤ l.length → sumF (secW l) k = Pcs.secs (l.take k)
  | 0, _ => by simp [sumF, Pcs.secs]
  | k + 1, hk => by
    rw [sumF, sum_take l k (by omega), List.take_succ_eq_append_getElem (by omega)]
    unfold Pcs.secs secW pget
    rw [List.map_append, List.sum_append]
    simp [List.getD, List.getElem?_eq_getElem (show k < l.length by omega)]
theorem secs_le {l : List Pcs.Pc} (h : ∀ q, q ∈ l → 0 < q.2) {q : Pcs.Pc} (hq : q ∈ l) : q.2 ≤ Pcs.secs l := by
  induction l with
  | nil => simp at hq
  | cons a l ih =>
    have h0 := h a (by simp)
    have h1 : (l.length : Int) ≤ Pcs.secs l := Pcs.secs_ge l fun x hx => h x (by simp [hx])
    unfold Pcs.secs at *
    rw [List.map_cons, List.sum_cons]
    rcases List.mem_cons.1 hq with rfl | hq
    · omega
    · have := ih (fun x hx => h x (by simp [hx])) hq
      omega
theorem pget_mem {l : List Pcs.Pc} {i : Nat} (hi : i < l.length) : pget l i ∈ l := by
  unfold pget
  rw [List.getD, List.getElem?_eq_getElem hi]
  exact List.getElem_mem hi
/-- the pieces of a right use in a right slot -/
structure Good (l : List Pcs.Pc) (us : Int) : Prop where
  pos : ∀ q, q ∈ l → 0 < q.2
  sum : Pcs.secs l = us
theorem good_pieces {uf us : Int} {ms : List Pcs.Mnt} (h : Pcs.Ord ms) (h2 : 1 ≤ us) : Good (Pcs.pieces uf (uf + us) ms) us := by
  have h3 := Pcs.rp_fill (last := uf + us) (ms := ms) us.toNat uf (by omega) (by omega)
  rw [Pcs.pieces_eq h (n := us.toNat) (by omega)] at h3
  exact ⟨h3.2, by rw [h3.1]; omega⟩
theorem Good.len {l : List Pcs.Pc} {us : Int} (h : Good l us) : (l.length : Int) ≤ us := by
  rw [← h.sum]
  exact Pcs.secs_ge l h.pos
theorem Good.ne {l : List Pcs.Pc} {us : Int} (h : Good l us) (h2 : 1 ≤ us) : 0 < l.length := by
  cases l with
  | nil => have := h.sum; simp [Pcs.secs] at this; omega
  | cons a l => simp
theorem Good.fine {l : List Pcs.Pc} {us uw : Int} (h : Good l us) (h2 : 1 ≤ us) (h3 : us ≤ 1000000) (h4 : 0 ≤ uw) (h5 : uw ≤ 1000000000) : Fine uw (secW l) l.length us := by
  have hw : ∀ i, i < l.length → 0 ≤ secW l i ∧ secW l i ≤ 1000000 := fun i hi => by
    have h6 := h.pos _ (pget_mem hi)
    have h7 := secs_le h.pos (pget_mem hi)
    have h8 := h.sum
    unfold secW
    omega
  refine ⟨h4, by omega, by have := h.len; omega, fun i hi => (hw i hi).1, fun i hi => ?_, by omega, by omega, ?_⟩
  · have h9 : uw * secW l i ≤ 1000000000 * 1000000 := Int.mul_le_mul h5 (hw i hi).2 (hw i hi).1 (by omega)
    omega
  · rw [sum_take l _ (Nat.le_refl _), List.take_length, h.sum]
/-- rows of rows of five -/
theorem flat5 {f : Pcs.Pc → List Value} (hf : ∀ q, (f q).length = 5) : ∀ (l : List Pcs.Pc) (k j : Nat), k < l.length → j < 5 → (l.flatMap f)[k * 5 + j]? = (f (pget l k))[j]?
  | [], k, j, h, _ => by simp at h
  | q :: l, 0, j, _, hj => by
    rw [List.flatMap_cons, Nat.zero_mul, Nat.zero_add, List.getElem?_append_left (by rw [hf]; exact hj)]
    rfl
  | q :: l, k + 1, j, h, hj => by
    rw [List.flatMap_cons, List.getElem?_append_right (by rw [hf]; omega), hf, show (k + 1) * 5 + j - 5 = k * 5 + j by omega]
    exact flat5 hf l k j (by simpa using h) hj
end Go.Proofs.YtbkpoepacjinlaaGreat
