/- The stable sort of the library: insertion. -/
import Derived.Test.YtbkpoepacjinlaaSw
import Derived.Lib.Small
namespace Go.Proofs.Ytbkpoepacjinlaa
open Go.RowKit Go.BigFrame
open Stb (at' sw2 Srt Res InsI)

/-- the function value that compares only reads, whatever the row holds -/
def CmpOk (R : Int → Int) (w0 : World) (base g cap n c : Nat) (M0 : List Int) : Prop :=
  ∀ w M, SW w0 w base g cap n M → ∀ x y, x ∈ M0 → y ∈ M0 →
    Calls Try.prog 158 #[.int .i64 x, .int .i64 y, .pointer (some ⟨c, 0, none⟩)] w fun e w' => e = .returned (.int .i64 (Lib.compareInt (R y) (R x))) ∧ ∃ q, w' = w.drewN q
def cmpV (c : Nat) : Value := .func (.func 158) #[] #[.pointer (some ⟨c, 0, none⟩)]
theorem cmp_neg (x y : Int) : Lib.compareInt x y < 0 ↔ x < y := by
  unfold Lib.compareInt
  split
  · constructor
    · intro _; assumption
    · intro _; decide
  · split
    · constructor
      · intro h; exact absurd h (by decide)
      · intro h; omega
    · constructor
      · intro h; exact absurd h (by decide)
      · intro h; omega
theorem at_mem {M M0 : List Int} {p n : Nat} (hl : M.length = n) (hp : p < n) (h : M.Perm M0) : at' M p ∈ M0 := by
  refine h.mem_iff.1 ?_
  rw [Stb.at', List.getD_eq_getElem?_getD, List.getElem?_eq_getElem (by rw [hl]; exact hp)]
  exact List.getElem_mem _

set_option maxHeartbeats 1000000 in
set_option maxRecDepth 100000 in
theorem insertion_any (R : Int → Int) (w0 w : World) (base g cap n c a b : Nat) (M0 M : List Int) (h : SW w0 w base g cap n M) (hM0 : M.Perm M0) (hcmp : CmpOk R w0 base g cap n c M0)
    (hb : b ≤ n) (hn : (n : Int) ≤ 1000000) (ha : a ≤ n) (hinc : ∀ p q, a ≤ p → p < q → q < b → at' M p < at' M q) :
    Calls Try.prog 188 #[.slice (some ⟨g, 0, none⟩) n cap, .int .i64 a, .int .i64 b, .func (.func 158) #[] #[.pointer (some ⟨c, 0, none⟩)]] w fun e w' =>
      e = .returned (.tuple #[]) ∧ ∃ M', SW w0 w' base g cap n M' ∧ Res M M' a b ∧ Srt R M' a b := by
  have H := Lib.hid h
  have HM0 := Lib.hid hM0
  have HC := Lib.hid hcmp
  have HI := Lib.hid hinc
  clear h hM0 hcmp hinc
  go_enter Try.func188, Try.ntmps188
  go_wp2_with fail
  go_loopw [8] (fun iv wr => ∃ (i : Nat) (M' : List Int), iv = .int .i64 i ∧ a < i ∧ (i ≤ b ∨ i = a + 1) ∧ Hid (SW w0 wr base g cap n M') ∧ Hid (Res M M' a i) ∧ Hid (Srt R M' a i)) (fun iv _ => b - (intOf iv).toNat)
  case atStart => exact ⟨a + 1, M, by go_num, by omega, Or.inr rfl, H, Lib.hid (Res.refl _ _ _), Lib.hid (fun p q h1 h2 h3 => by omega)⟩
  case round =>
    obtain ⟨i, M', rfl, hai, hib, HS, HR, HO⟩ := hrel
    by_cases hlt : i < b
    · have t1 : decide ((i : Int) < (b : Int)) = true := by rw [decide_eq_true_eq]; omega
      have hstart : InsI R M' a i i := Stb.ins_start HO.out (fun p h1 h2 => by
        obtain ⟨q, q1, q2, e⟩ := HR.out.img p h1 h2
        rw [e, HR.out.out i (Or.inr (Nat.le_refl _))]
        exact HI.out q i q1 q2 hlt)
      have HST := Lib.hid hstart
      clear hstart hib
      go_wp2_with fail
      obtain ⟨wo, rfl⟩ : ∃ wo : World, wo = wr := ⟨_, rfl⟩
      go_loopw [9] (fun jv w2 => ∃ (j : Nat) (M2 : List Int), jv = .int .i64 j ∧ a ≤ j ∧ j ≤ i ∧ Hid (SW w0 w2 base g cap n M2) ∧ Hid (Res M M2 a (i + 1)) ∧ Hid (InsI R M2 a i j)) (fun jv _ => (intOf jv).toNat)
      case atStart => exact ⟨i, M', rfl, by omega, Nat.le_refl _, HS, Lib.hid (HR.out.mono (Nat.le_refl _) (Nat.le_succ _)), HST⟩
      case round =>
        obtain ⟨j, M2, rfl, haj, hji, HS2, HR2, HI2⟩ := hrel
        by_cases hja : a < j
        · obtain ⟨jp, rfl⟩ : ∃ jp, j = jp + 1 := ⟨j - 1, by omega⟩
          have t2 : decide ((a : Int) < (jp : Int) + 1) = true := by rw [decide_eq_true_eq]; omega
          have t2' : decide (a < jp + 1) = true := by simpa using hja
          have c1 := HS2.out.cell (j := jp + 1) (by omega)
          have c2 := HS2.out.cell (j := jp) (by omega)
          have f1 := HS2.out.frozen (jp + 1)
          have f2 := HS2.out.frozen jp
          have hp2 : M2.Perm M0 := HR2.out.perm.trans HM0.out
          have m1 := at_mem HS2.out.len (show jp + 1 < n by omega) hp2
          have m2 := at_mem HS2.out.len (show jp < n by omega) hp2
          obtain ⟨x, hx⟩ : ∃ x, at' M2 (jp + 1) = x := ⟨_, rfl⟩
          obtain ⟨y, hy⟩ : ∃ y, at' M2 jp = y := ⟨_, rfl⟩
          rw [hx] at c1 m1
          rw [hy] at c2 m2
          have HX := Lib.hid hx
          have HY := Lib.hid hy
          have HQ := Lib.hid (fun q => HC.out (wr.drewN q) M2 (HS2.out.drewN q) x y m1 m2)
          have hidx : ((jp : Int) + 1).toNat = jp + 1 := by omega
          have hl1 : jp + 1 < n := by omega
          clear hx hy hp2 m1 m2
          by_cases hc : R y < R x
          · have t3 : decide (Lib.compareInt (R y) (R x) < 0) = true := by rw [decide_eq_true_eq, cmp_neg]; exact hc
            generalize Lib.compareInt (R y) (R x) = cv at t3 HQ
            go_wp2_with fail
            go_quiet ((go_at_call 158; exact Calls.quiet_of (HQ.out _)))
            go_wp2_with fail
            have HS5 := Lib.hid (HS2.out.drewN nq)
            have c1' : (wr.drewN nq).cell? ⟨g, jp + 1, none⟩ = some (.int .i64 x) := c1
            have c2' : (wr.drewN nq).cell? ⟨g, jp, none⟩ = some (.int .i64 y) := c2
            have f1' : (wr.drewN nq).frozen? ⟨g, jp + 1, none⟩ = false := f1
            have f2' : (wr.drewN nq).frozen? ⟨g, jp, none⟩ = false := f2
            clear c1 c2 f1 f2 HQ
            generalize wr.drewN nq = w5 at HS5 c1' c2' f1' f2' ⊢
            go_region
            go_wp2
            go_roundw
            case rel => exact ⟨jp, sw2 M2 (jp + 1) jp, by first | rfl | go_num, by omega, by omega, Lib.hid ((HS5.out.swap HX.out HY.out).drew), Lib.hid (HR2.out.trans (Res.sw2 (by omega) (by omega) (by omega) (by omega) (by omega) (by rw [HS2.out.len]; omega))), Lib.hid (Stb.ins_step HI2.out (by omega) hji (by rw [HS2.out.len]; omega) (by show R (at' M2 jp) < R (at' M2 (jp + 1)); rw [HX.out, HY.out]; exact hc))⟩
            case measure => simp [intOf]
          · have t3 : decide (Lib.compareInt (R y) (R x) < 0) = false := by rw [decide_eq_false_iff_not, cmp_neg]; exact hc
            generalize Lib.compareInt (R y) (R x) = cv at t3 HQ
            have HE := Lib.hid (Stb.ins_end HI2.out haj hji (Or.inr (by show ¬ R (at' M2 jp) < R (at' M2 (jp + 1)); rw [HX.out, HY.out]; exact hc)))
            go_wp2_with fail
            go_quiet ((go_at_call 158; exact Calls.quiet_of (HQ.out _)))
            go_wp2_with fail
            go_roundw
            case rel => exact ⟨i + 1, M2, by go_num, by omega, by omega, Lib.hid (HS2.out.drewN _), HR2, HE⟩
            case measure => simp [intOf]; omega
        · obtain rfl : j = a := by omega
          have t2 : decide ((j : Int) < (j : Int)) = false := by simp
          have HE := Lib.hid (Stb.ins_end HI2.out haj hji (Or.inl rfl))
          go_wp2_with fail
          go_quiet (fail)
          go_wp2_with fail
          go_roundw
          case rel => exact ⟨i + 1, M2, by go_num, by omega, by omega, Lib.hid (HS2.out.drewN _), HR2, HE⟩
          case measure => simp [intOf]; omega
    · have t1 : decide ((i : Int) < (b : Int)) = false := by rw [decide_eq_false_iff_not]; omega
      have t1' : decide (i < b) = false := by simpa using hlt
      have HE := Lib.hid (show Res M M' a b ∧ Srt R M' a b from by
        rcases hib with h | h
        · obtain rfl : i = b := by omega
          exact ⟨HR.out, HO.out⟩
        · subst h
          by_cases hab : a < b
          · obtain rfl : b = a + 1 := by omega
            exact ⟨HR.out, HO.out⟩
          · refine ⟨?_, fun p q h1 h2 h3 => by omega⟩
            have : ∀ p, at' M' p = at' M p := fun p => by
              by_cases hp : p = a
              · subst hp
                obtain ⟨q, q1, q2, e⟩ := HR.out.img p (Nat.le_refl _) (by omega)
                obtain rfl : q = p := by omega
                exact e
              · exact HR.out.out p (by omega)
            exact ⟨HR.out.perm, fun p _ => this p, fun p h1 h2 => ⟨p, h1, h2, this p⟩⟩)
      clear hib hlt
      go_wp2_with fail
      go_end0
      exact ⟨rfl, M', HS.out, HE.out.1, HE.out.2⟩
end Go.Proofs.Ytbkpoepacjinlaa
