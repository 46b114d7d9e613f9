/- Zones: Offset of the reference; Local of both. -/
import Derived.Test.YthcddmjgehcgaabJ4
namespace Go.Proofs.Ythcddmjgehcgaab
open Go.RowKit Go.BigFrame

def localR (first : Int) (F O : Nat → Int) (len : Nat) (moment : Int) : Int × Int × Int :=
  if (offsetR first F O len moment).2 = 0 then
    (if momB (moment + 60 * (offsetR first F O len moment).1) = true then ((moment + 60 * (offsetR first F O len moment).1) / 86400, (moment + 60 * (offsetR first F O len moment).1) % 86400, 0) else (0, 0, 9))
  else (0, 0, (offsetR first F O len moment).2)

set_option maxHeartbeats 1000000 in
set_option maxRecDepth 100000 in
theorem local_any (first moment : Int) (a : Option Addr) (len cap : Nat) (F O : Nat → Int) (w : World) (hr : Rows2 w a len F O) :
    Calls Try.prog 4 #[.agg #[.int .i64 first, .slice a len cap], .int .i64 moment] w fun e w' => e = tri (localR first F O len moment) ∧ Below w.heap.size w w' := by
  have hw1 : Below w.heap.size w (w.alloc (.cells #[.int .i64 first, .slice a len cap] 24)) := (Below.refl _ _).alloc (Nat.le_refl _) _
  have HR1 := hr.below hw1 (Nat.le_refl _)
  have hc := Lib.hid (zoffset_any first moment a len cap F O _ HR1)
  have hb := offsetR_bounds first F O len moment
  unfold localR
  generalize offsetR first F O len moment = p at hc hb ⊢
  obtain ⟨n, z⟩ := p
  unfold scRet at hc
  simp only at hc hb ⊢
  by_cases h0 : z = 0
  · subst h0
    obtain ⟨b1, b2, _⟩ := hb rfl
    obtain ⟨n0, n1⟩ := outB_false b2
    obtain ⟨m0, m1⟩ := momB_true b1
    rw [if_pos rfl]
    have hm := Lib.hid (isMoment_any (moment + 60 * n))
    clear hb b1 b2 hr
    cases h1 : momB (moment + 60 * n)
    · rw [if_neg (by simp)]
      rw [h1] at hm
      clear h1
      go_enter Try.func4, Try.ntmps4
      go_wp2_with fail
      refine hc.out.mono ?_
      rintro e w1 ⟨rfl, hb1⟩
      have HB1 := Lib.hid (hw1.trans (hb1.mono (by simp)))
      clear hb1
      go_wp2_with fail
      refine (hm.out _).mono ?_
      rintro e w2 ⟨rfl, rfl⟩
      go_wp2_with fail
      go_ret3
      exact ⟨rfl, HB1.out⟩
    · rw [if_pos rfl]
      rw [h1] at hm
      obtain ⟨q0, q1⟩ := momB_true h1
      clear h1
      go_enter Try.func4, Try.ntmps4
      go_wp2_with fail
      refine hc.out.mono ?_
      rintro e w1 ⟨rfl, hb1⟩
      have HB1 := Lib.hid (hw1.trans (hb1.mono (by simp)))
      clear hb1
      go_wp2_with fail
      refine (hm.out _).mono ?_
      rintro e w2 ⟨rfl, rfl⟩
      go_wp2_with fail
      go_ret3
      exact ⟨rfl, HB1.out⟩
  · rw [if_neg h0]
    have hz : (z == 0) = false := by simpa using h0
    have hz' : (z != 0) = true := by simpa using h0
    clear h0 hr hb
    go_enter Try.func4, Try.ntmps4
    go_wp2_with fail
    refine hc.out.mono ?_
    rintro e w1 ⟨rfl, hb1⟩
    have HB1 := Lib.hid (hw1.trans (hb1.mono (by simp)))
    clear hb1
    go_wp2_with fail
    go_ret3
    exact ⟨rfl, HB1.out⟩
end Go.Proofs.Ythcddmjgehcgaab
