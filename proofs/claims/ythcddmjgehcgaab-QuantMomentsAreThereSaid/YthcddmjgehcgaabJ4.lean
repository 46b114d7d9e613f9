/- Zones: Offset and Local of the program and of the reference. -/
import Derived.Test.YthcddmjgehcgaabJ3
namespace Go.Proofs.Ythcddmjgehcgaab
open Go.RowKit Go.BigFrame

theorem chkLoop_zero {F O : Nat → Int} : ∀ {n k : Nat}, chkLoop F O n k = 0 → ∀ j, k ≤ j → j < k + n → momB (F j) = true ∧ outB (O j) = false ∧ (0 < j → F (j - 1) < F j)
  | 0, _, _, _, _, _ => by omega
  | n + 1, k, h, j, h1, h2 => by
    rw [chkLoop] at h
    split at h
    · cases h
    · rename_i hn
      split at h
      · cases h
      · rename_i hn2
        by_cases hj : j = k
        · subst hj
          simp at hn
          exact ⟨hn.1, hn.2, fun h0 => by
            rcases Int.lt_or_le (F (j - 1)) (F j) with h3 | h3
            · exact h3
            · exact absurd ⟨h0, h3⟩ hn2⟩
        · exact chkLoop_zero h j (by omega) (by omega)
theorem chk_zero {first : Int} {F O : Nat → Int} {len : Nat} (h : chk first F O len = 0) : len ≤ 200 ∧ outB first = false ∧ ∀ j, j < len → momB (F j) = true ∧ outB (O j) = false ∧ (0 < j → F (j - 1) < F j) := by
  unfold chk at h
  split at h
  · cases h
  · split at h
    · cases h
    · rename_i h1 h2
      exact ⟨by omega, by simpa using h2, fun j hj => chkLoop_zero h j (Nat.zero_le _) (by omega)⟩
theorem outB_false {n : Int} (h : outB n = false) : -720 ≤ n ∧ n ≤ 840 := by
  simp [outB] at h; exact h
theorem momB_true {n : Int} (h : momB n = true) : 0 ≤ n ∧ n ≤ 86399999999 := by
  simp only [momB, Bool.and_eq_true, decide_eq_true_eq] at h; exact h
theorem offF_bounds {first moment : Int} {F O : Nat → Int} : ∀ {len : Nat}, outB first = false → (∀ j, j < len → outB (O j) = false) → outB (offF first moment F O len) = false
  | 0, h, _ => h
  | k + 1, h, ho => by
    rw [offF]
    split
    · exact ho k (by omega)
    · exact offF_bounds h (fun j hj => ho j (by omega))
def offsetR (first : Int) (F O : Nat → Int) (len : Nat) (moment : Int) : Int × Int :=
  if chk first F O len = 0 then (if momB moment = true then (offF first moment F O len, 0) else (0, 9)) else (0, chk first F O len)
theorem offsetR_bounds (first : Int) (F O : Nat → Int) (len : Nat) (moment : Int) (h : (offsetR first F O len moment).2 = 0) :
    momB moment = true ∧ outB (offsetR first F O len moment).1 = false ∧ chk first F O len = 0 := by
  unfold offsetR at h ⊢
  split at h
  · rename_i h0
    rw [if_pos h0]
    split at h
    · rename_i h1
      rw [if_pos h1]
      obtain ⟨_, a, b⟩ := chk_zero h0
      exact ⟨h1, offF_bounds a (fun j hj => (b j hj).2.1), h0⟩
    · cases h
  · rename_i h0
    exact absurd h h0
theorem chk_cases (first : Int) (F O : Nat → Int) (len : Nat) : 0 ≤ chk first F O len := by
  have h : ∀ n k, 0 ≤ chkLoop F O n k := by
    intro n
    induction n with
    | zero => intro k; exact Int.le_refl _
    | succ n ih => intro k; rw [chkLoop]; split; exact (by decide); split; exact (by decide); exact ih _
  unfold chk
  split
  · decide
  · split
    · decide
    · exact h _ _

set_option maxHeartbeats 1000000 in
set_option maxRecDepth 100000 in
theorem zoffset_any (first moment : Int) (a : Option Addr) (len cap : Nat) (F O : Nat → Int) (w : World) (hr : Rows2 w a len F O) :
    Calls Try.prog 9 #[.agg #[.int .i64 first, .slice a len cap], .int .i64 moment] w fun e w' => e = scRet (offsetR first F O len moment) ∧ Below w.heap.size w w' := by
  have HR := Lib.hid hr
  have hw1 : Below w.heap.size w (w.alloc (.cells #[.int .i64 first, .slice a len cap] 24)) := (Below.refl _ _).alloc (Nat.le_refl _) _
  have HR1 := hr.below hw1 (Nat.le_refl _)
  have hc := Lib.hid (checkZone_any first a len cap F O _ HR1)
  have hm := Lib.hid (isMoment_any moment)
  unfold offsetR
  have hn := chk_cases first F O len
  by_cases h0 : chk first F O len = 0
  · rw [if_pos h0]
    have hlen := (chk_zero h0).1
    rw [h0] at hc
    clear hn h0 hr
    cases h1 : momB moment
    · rw [if_neg (by simp)]
      rw [h1] at hm
      clear h1
      go_enter Try.func9, Try.ntmps9
      go_wp2_with fail
      refine hc.out.mono ?_
      rintro e w1 ⟨rfl, hb1⟩
      have HB1 := Lib.hid (hw1.trans (hb1.mono (by simp)))
      clear hb1
      go_wp2_with fail
      refine (hm.out _).mono ?_
      rintro e w2 ⟨rfl, rfl⟩
      go_wp2_with fail
      go_ret2
      exact ⟨rfl, HB1.out⟩
    · rw [if_pos rfl]
      rw [h1] at hm
      clear h1
      go_enter Try.func9, Try.ntmps9
      go_wp2_with fail
      refine hc.out.mono ?_
      rintro e w1 ⟨rfl, hb1⟩
      have HB1 := Lib.hid (hw1.trans (hb1.mono (by simp)))
      have c0 : w1.cell? ⟨w.heap.size, 0, none⟩ = some (.int .i64 first) := (hb1.cell (p := ⟨w.heap.size, 0, none⟩) (by simp)).trans (by rw [World.cell?_alloc_at _ _ _ _ rfl]; rfl)
      have c1 : w1.cell? ⟨w.heap.size, 1, none⟩ = some (.slice a len cap) := (hb1.cell (p := ⟨w.heap.size, 1, none⟩) (by simp)).trans (by rw [World.cell?_alloc_at _ _ _ _ rfl]; rfl)
      have ho := Lib.hid (offset_any first moment a len cap F O w1 (by omega) (HR.out.below HB1.out (Nat.le_refl _)))
      have hs := HB1.out.size
      clear hb1
      go_wp2_with fail
      refine (hm.out _).mono ?_
      rintro e w2 ⟨rfl, rfl⟩
      go_wp2_with fail
      refine ho.out.mono ?_
      rintro e w3 ⟨rfl, hb3⟩
      have HB3 := Lib.hid (HB1.out.trans (hb3.mono hs))
      clear hb3
      go_wp2_with fail
      go_ret2
      exact ⟨rfl, HB3.out⟩
  · rw [if_neg h0]
    generalize chk first F O len = z at hc h0 hn ⊢
    have hz : (z == 0) = false := by simpa using h0
    have hz' : (z != 0) = true := by simpa using h0
    clear h0 hr
    go_enter Try.func9, Try.ntmps9
    go_wp2_with fail
    refine hc.out.mono ?_
    rintro e w1 ⟨rfl, hb1⟩
    have HB1 := Lib.hid (hw1.trans (hb1.mono (by simp)))
    clear hb1
    go_wp2_with fail
    go_ret2
    exact ⟨rfl, HB1.out⟩
end Go.Proofs.Ythcddmjgehcgaab
