/- Zones: Offset of the reference; Local of both. -/
import Derived.Test.YthcddmjgehcgaaaJ4
namespace Go.Proofs.Ythcddmjgehcgaaa
open Go.RowKit Go.BigFrame

set_option maxHeartbeats 1000000 in
set_option maxRecDepth 100000 in
theorem rzoffset_any (first moment : Int) (a : Option Addr) (len cap : Nat) (F O : Nat → Int) (w : World) (hr : Rows2 w a len F O) :
    Calls Try.prog 26 #[.agg #[.int .i64 first, .slice a len cap], .int .i64 moment] w fun e w' => e = scRet (offsetR first F O len moment) ∧ Below w.heap.size w w' := by
  have HR := Lib.hid hr
  have hw1 : Below w.heap.size w (w.alloc (.cells #[.int .i64 first, .slice a len cap] 40)) := (Below.refl _ _).alloc (Nat.le_refl _) _
  have HR1 := hr.below hw1 (Nat.le_refl _)
  have hc := Lib.hid (rcheckZone_any first a len cap F O _ HR1)
  have hm := outside_any moment 0 86399999999
  rw [notMom] at hm
  replace hm := Lib.hid hm
  unfold offsetR
  have hn := chk_cases first F O len
  by_cases h0 : chk first F O len = 0
  · rw [if_pos h0]
    have hlen := (chk_zero h0).1
    have hl : (len : Int) ≤ 200 := by omega
    rw [h0] at hc
    clear hn h0 hr
    cases h1 : momB moment
    · rw [if_neg (by simp)]
      rw [h1] at hm
      clear h1
      go_enter Try.func26, Try.ntmps26
      go_wp2_with fail
      refine hc.out.mono ?_
      rintro e w1 ⟨rfl, hb1⟩
      have HB1 := Lib.hid (hw1.trans (hb1.mono (by simp)))
      clear hb1
      go_wp2_with fail
      refine (hm.out _).mono ?_
      rintro e w2 ⟨rfl, rfl⟩
      go_wp2_with fail
      go_ret2
      exact ⟨rfl, HB1.out⟩
    · rw [if_pos rfl]
      rw [h1] at hm
      clear h1
      go_enter Try.func26, Try.ntmps26
      go_wp2_with fail
      refine hc.out.mono ?_
      rintro e w1 ⟨rfl, hb1⟩
      have HB1 := Lib.hid (hw1.trans (hb1.mono (by simp)))
      have c0 : w1.cell? ⟨w.heap.size, 0, none⟩ = some (.int .i64 first) := (hb1.cell (p := ⟨w.heap.size, 0, none⟩) (by simp)).trans (by rw [World.cell?_alloc_at _ _ _ _ rfl]; rfl)
      have c1 : w1.cell? ⟨w.heap.size, 1, none⟩ = some (.slice a len cap) := (hb1.cell (p := ⟨w.heap.size, 1, none⟩) (by simp)).trans (by rw [World.cell?_alloc_at _ _ _ _ rfl]; rfl)
      have hs := hb1.size
      simp only [World.size_alloc] at hs
      clear hb1
      go_wp2_with fail
      refine (hm.out _).mono ?_
      rintro e w2 ⟨rfl, rfl⟩
      go_wp2_with fail
      go_loopw [7, 22] (fun ov iv wr => ∃ (k : Nat), ov = .int .i64 (offF first moment F O k) ∧ iv = .int .i64 k ∧ k ≤ len ∧ Below w.heap.size w wr ∧ w.heap.size < wr.heap.size) (fun _ iv _ => len - (intOf iv).toNat)
      case atStart => exact ⟨0, rfl, rfl, by omega, HB1.out, by omega⟩
      case round =>
        obtain ⟨k, rfl, rfl, hk, hb, hs⟩ := hrel
        have HB := Lib.hid hb
        by_cases hlt : k < len
        · have t1 : decide ((k : Int) < (len : Int)) = true := by rw [decide_eq_true_eq]; omega
          have HR2 := HR.out.below hb (Nat.le_refl _)
          obtain ⟨b, off, rfl, hbl, hc⟩ := HR2.here (by omega)
          obtain ⟨c0, c1⟩ := hc k hlt
          clear hb hc HR2
          go_wp2
          · go_roundw
            case rel => exact ⟨k + 1, congrArg (Value.int .i64) (by rw [offF, if_pos (by assumption)]), by go_num, by omega, HB.out.alloc (by omega) _, by simp; omega⟩
            case measure => simp [intOf]; omega
          · go_roundw
            case rel => exact ⟨k + 1, congrArg (Value.int .i64) (by rw [offF, if_neg (by omega)]), by go_num, by omega, HB.out.alloc (by omega) _, by simp; omega⟩
            case measure => simp [intOf]; omega
        · have t1 : decide ((k : Int) < (len : Int)) = false := by rw [decide_eq_false_iff_not]; omega
          have he : k = len := by omega
          clear hlt
          go_wp2
          go_ret2
          exact ⟨by rw [he]; rfl, HB.out⟩
  · rw [if_neg h0]
    generalize chk first F O len = z at hc h0 hn ⊢
    have hz : (z == 0) = false := by simpa using h0
    have hz' : (z != 0) = true := by simpa using h0
    clear h0 hr
    go_enter Try.func26, Try.ntmps26
    go_wp2_with fail
    refine hc.out.mono ?_
    rintro e w1 ⟨rfl, hb1⟩
    have HB1 := Lib.hid (hw1.trans (hb1.mono (by simp)))
    clear hb1
    go_wp2_with fail
    go_ret2
    exact ⟨rfl, HB1.out⟩

def localR (first : Int) (F O : Nat → Int) (len : Nat) (moment : Int) : Int × Int × Int :=
  if (offsetR first F O len moment).2 = 0 then
    (if momB (moment + 60 * (offsetR first F O len moment).1) = true then ((moment + 60 * (offsetR first F O len moment).1) / 86400, (moment + 60 * (offsetR first F O len moment).1) % 86400, 0) else (0, 0, 9))
  else (0, 0, (offsetR first F O len moment).2)

set_option maxHeartbeats 1000000 in
set_option maxRecDepth 100000 in
theorem local_any (first moment : Int) (a : Option Addr) (len cap : Nat) (F O : Nat → Int) (w : World) (hr : Rows2 w a len F O) :
    Calls Try.prog 27 #[.agg #[.int .i64 first, .slice a len cap], .int .i64 moment] w fun e w' => e = tri (localR first F O len moment) ∧ Below w.heap.size w w' := by
  have hw1 : Below w.heap.size w (w.alloc (.cells #[.int .i64 first, .slice a len cap] 40)) := (Below.refl _ _).alloc (Nat.le_refl _) _
  have HR1 := hr.below hw1 (Nat.le_refl _)
  have hc := Lib.hid (zoffset_any first moment a len cap F O _ HR1)
  have hb := offsetR_bounds first F O len moment
  unfold localR
  generalize offsetR first F O len moment = p at hc hb ⊢
  obtain ⟨n, z⟩ := p
  unfold scRet at hc
  simp only at hc hb ⊢
  by_cases h0 : z = 0
  · subst h0
    obtain ⟨b1, b2, _⟩ := hb rfl
    obtain ⟨n0, n1⟩ := outB_false b2
    obtain ⟨m0, m1⟩ := momB_true b1
    rw [if_pos rfl]
    have hm := Lib.hid (isMoment_any (moment + 60 * n))
    clear hb b1 b2 hr
    cases h1 : momB (moment + 60 * n)
    · rw [if_neg (by simp)]
      rw [h1] at hm
      clear h1
      go_enter Try.func27, Try.ntmps27
      go_wp2_with fail
      refine hc.out.mono ?_
      rintro e w1 ⟨rfl, hb1⟩
      have HB1 := Lib.hid (hw1.trans (hb1.mono (by simp)))
      clear hb1
      go_wp2_with fail
      refine (hm.out _).mono ?_
      rintro e w2 ⟨rfl, rfl⟩
      go_wp2_with fail
      go_ret3
      exact ⟨rfl, HB1.out⟩
    · rw [if_pos rfl]
      rw [h1] at hm
      obtain ⟨q0, q1⟩ := momB_true h1
      clear h1
      go_enter Try.func27, Try.ntmps27
      go_wp2_with fail
      refine hc.out.mono ?_
      rintro e w1 ⟨rfl, hb1⟩
      have HB1 := Lib.hid (hw1.trans (hb1.mono (by simp)))
      clear hb1
      go_wp2_with fail
      refine (hm.out _).mono ?_
      rintro e w2 ⟨rfl, rfl⟩
      go_wp2_with fail
      go_ret3
      exact ⟨rfl, HB1.out⟩
  · rw [if_neg h0]
    have hz : (z == 0) = false := by simpa using h0
    have hz' : (z != 0) = true := by simpa using h0
    clear h0 hr hb
    go_enter Try.func27, Try.ntmps27
    go_wp2_with fail
    refine hc.out.mono ?_
    rintro e w1 ⟨rfl, hb1⟩
    have HB1 := Lib.hid (hw1.trans (hb1.mono (by simp)))
    clear hb1
    go_wp2_with fail
    go_ret3
    exact ⟨rfl, HB1.out⟩
set_option maxHeartbeats 1000000 in
set_option maxRecDepth 100000 in
theorem rlocal_any (first moment : Int) (a : Option Addr) (len cap : Nat) (F O : Nat → Int) (w : World) (hr : Rows2 w a len F O) :
    Calls Try.prog 28 #[.agg #[.int .i64 first, .slice a len cap], .int .i64 moment] w fun e w' => e = tri (localR first F O len moment) ∧ Below w.heap.size w w' := by
  have hw1 : Below w.heap.size w (w.alloc (.cells #[.int .i64 first, .slice a len cap] 40)) := (Below.refl _ _).alloc (Nat.le_refl _) _
  have HR1 := hr.below hw1 (Nat.le_refl _)
  have hc := Lib.hid (rzoffset_any first moment a len cap F O _ HR1)
  have hb := offsetR_bounds first F O len moment
  unfold localR
  generalize offsetR first F O len moment = p at hc hb ⊢
  obtain ⟨n, z⟩ := p
  unfold scRet at hc
  simp only at hc hb ⊢
  by_cases h0 : z = 0
  · subst h0
    obtain ⟨b1, b2, _⟩ := hb rfl
    obtain ⟨n0, n1⟩ := outB_false b2
    obtain ⟨m0, m1⟩ := momB_true b1
    rw [if_pos rfl]
    have hm := outside_any (moment + 60 * n) 0 86399999999
    rw [notMom] at hm
    replace hm := Lib.hid hm
    clear hb b1 b2 hr
    cases h1 : momB (moment + 60 * n)
    · rw [if_neg (by simp)]
      rw [h1] at hm
      clear h1
      go_enter Try.func28, Try.ntmps28
      go_wp2_with fail
      refine hc.out.mono ?_
      rintro e w1 ⟨rfl, hb1⟩
      have HB1 := Lib.hid (hw1.trans (hb1.mono (by simp)))
      clear hb1
      go_wp2_with fail
      refine (hm.out _).mono ?_
      rintro e w2 ⟨rfl, rfl⟩
      go_wp2_with fail
      go_ret3
      exact ⟨rfl, HB1.out⟩
    · rw [if_pos rfl]
      rw [h1] at hm
      obtain ⟨q0, q1⟩ := momB_true h1
      clear h1
      go_enter Try.func28, Try.ntmps28
      go_wp2_with fail
      refine hc.out.mono ?_
      rintro e w1 ⟨rfl, hb1⟩
      have HB1 := Lib.hid (hw1.trans (hb1.mono (by simp)))
      clear hb1
      go_wp2_with fail
      refine (hm.out _).mono ?_
      rintro e w2 ⟨rfl, rfl⟩
      go_wp2_with fail
      go_ret3
      exact ⟨rfl, HB1.out⟩
  · rw [if_neg h0]
    have hz : (z == 0) = false := by simpa using h0
    have hz' : (z != 0) = true := by simpa using h0
    clear h0 hr hb
    go_enter Try.func28, Try.ntmps28
    go_wp2_with fail
    refine hc.out.mono ?_
    rintro e w1 ⟨rfl, hb1⟩
    have HB1 := Lib.hid (hw1.trans (hb1.mono (by simp)))
    clear hb1
    go_wp2_with fail
    go_ret3
    exact ⟨rfl, HB1.out⟩
end Go.Proofs.Ythcddmjgehcgaaa
