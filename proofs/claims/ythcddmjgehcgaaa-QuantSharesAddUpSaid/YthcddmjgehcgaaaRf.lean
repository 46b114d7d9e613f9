/- The forms of texts, in plain words; what the reader's values are at most. -/
import Derived.Test.YthcddmjgehcgaaaRd
namespace Rd
theorem numLoop_pos (s : ByteArray) (digits : Nat) (least most : Int) (ok : Bool) : ∀ (f : Nat) (n : Int) (m p : Nat), p ≤ s.size → (numLoop s digits least most ok f n m p).2.2 ≤ s.size
  | 0, n, m, p, h => h
  | f + 1, n, m, p, h => by
    unfold numLoop
    split
    · split
      · exact h
      · rename_i h1 _
        have := (digAt_true h1.2).2.1
        exact numLoop_pos s digits least most ok f _ _ _ (by omega)
    · exact h
/-- the values that 'number' gives are small -/
theorem numLoop_val (s : ByteArray) (digits : Nat) (least most : Int) (ok : Bool) : ∀ (f : Nat) (n : Int) (m p : Nat), 0 ≤ n → (n ≤ most ∨ n = 0) → 0 ≤ (numLoop s digits least most ok f n m p).1 ∧ ((numLoop s digits least most ok f n m p).1 ≤ most ∨ (numLoop s digits least most ok f n m p).1 = 0)
  | 0, n, m, p, h, h2 => ⟨h, h2⟩
  | f + 1, n, m, p, h, h2 => by
    unfold numLoop
    split
    · rename_i h1
      have hd := digAt_true h1.2
      cases hst : stops least most n (10 * n + ((byte s p : Int) - 48)) m
      · rw [if_neg (by simp)]
        refine numLoop_val s digits least most ok f _ _ _ (by omega) ?_
        unfold stops at hst
        simp only [Bool.or_eq_false_iff, decide_eq_false_iff_not] at hst
        omega
      · rw [if_pos rfl]; exact ⟨h, h2⟩
    · exact ⟨h, h2⟩
theorem pairStep_val {s : ByteArray} {most u n : Int} {q : Nat} {b : Bool} (hu : 0 ≤ u) (h : 0 ≤ n) (hm : n ≤ most) : 0 ≤ (pairStep s most u (n, q, b)).1 ∧ (pairStep s most u (n, q, b)).1 ≤ most := by
  unfold pairStep
  split
  · rename_i h1
    dsimp only at h1
    have hd := digAt_true h1.1
    have : 0 ≤ u * ((byte s q : Int) - 48) := Int.mul_nonneg hu (by omega)
    exact ⟨by show 0 ≤ n + u * ((byte s q : Int) - 48); omega, h1.2⟩
  · exact ⟨h, hm⟩
theorem pairAt_val (s : ByteArray) {most : Int} (p : Nat) (ok : Bool) (hm : 0 ≤ most) : 0 ≤ (pairAt s most p ok).1 ∧ (pairAt s most p ok).1 ≤ most := by
  unfold pairAt
  have h1 := pairStep_val (s := s) (q := p) (b := ok) (u := 10) (n := 0) (by omega) (by omega) hm
  exact pairStep_val (q := (pairStep s most 10 (0, p, ok)).2.1) (b := (pairStep s most 10 (0, p, ok)).2.2) (by omega) h1.1 h1.2

/-! ### forms -/
def colon : ByteArray := ⟨#[58]⟩
def shortF (s : ByteArray) : Int × Nat × Bool :=
  let m := numAt s 2 0 59 true 0
  let c := exactAt s colon m.2.2 (numOk 0 true m)
  let x := pairAt s 59 c.1 c.2
  (60 * m.1 + x.1, x.2.1, x.2.2)
def longF (s : ByteArray) : Int × Nat × Bool :=
  let h := numAt s 3 1 999 true 0
  let c := exactAt s colon h.2.2 (numOk 1 true h)
  let m := pairAt s 59 c.1 c.2
  let d := exactAt s colon m.2.1 m.2.2
  let x := pairAt s 59 d.1 d.2
  (3600 * h.1 + 60 * m.1 + x.1, x.2.1, x.2.2)
/-- the value of the first form that a text has, how far the beginnings of forms go, the error -/
def formsLoop (s : ByteArray) : List (ByteArray → Int × Nat × Bool) → Nat → Int × Nat × Int
  | [], at_ => (0, at_, 6)
  | F :: r, at_ => if ((F s).2.2 && decide ((F s).2.1 = s.size)) = true then ((F s).1, 0, 0) else formsLoop s r (max at_ (F s).2.1)
def readForms (s : ByteArray) (l : List (ByteArray → Int × Nat × Bool)) : Int × Nat × Int := if 1000 < s.size then (0, 0, 3) else formsLoop s l 0
def ranged (x : Int × Nat × Int) (least most : Int) : Int × Nat × Int := if x.2.2 = 0 ∧ (x.1 < least ∨ most < x.1) then (0, 0, 9) else x
end Rd
