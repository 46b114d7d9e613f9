/- Zones: CheckZone and Offset of the reference. -/
import Derived.Test.YthcddmjgehcgaaaJ2
namespace Go.Proofs.Ythcddmjgehcgaaa
open Go.RowKit Go.BigFrame

theorem notMom (n : Int) : (decide (n < 0) || decide (86399999999 < n)) = !momB n := by
  unfold momB
  rw [Bool.eq_iff_iff]
  simp only [Bool.or_eq_true, decide_eq_true_eq, Bool.not_eq_true', Bool.and_eq_false_iff, decide_eq_false_iff_not]
  omega

set_option maxHeartbeats 1000000 in
set_option maxRecDepth 100000 in
theorem rcheckZone_any (first : Int) (a : Option Addr) (len cap : Nat) (F O : Nat → Int) (w : World) (hr : Rows2 w a len F O) :
    Calls Try.prog 32 #[.agg #[.int .i64 first, .slice a len cap]] w fun e w' => e = .returned (.int .i64 (chk first F O len)) ∧ Below w.heap.size w w' := by
  have HR := Lib.hid hr
  clear hr
  by_cases h2 : 200 < len
  · have hz : chk first F O len = 3 := by unfold chk; rw [if_pos h2]
    rw [hz]
    have t1 : decide ((200 : Int) < (len : Int)) = true := by rw [decide_eq_true_eq]; omega
    clear h2 hz
    go_enter Try.func32, Try.ntmps32
    go_wp2
    go_ret
    exact ⟨rfl, (Below.refl _ _).alloc (Nat.le_refl _) _⟩
  · have t1 : decide ((200 : Int) < (len : Int)) = false := by rw [decide_eq_false_iff_not]; omega
    have hl : (len : Int) ≤ 200 := by omega
    have ho := outside_any first (-720) 840
    rw [show (decide (first < -720) || decide (840 < first)) = outB first from rfl] at ho
    replace ho := Lib.hid ho
    cases h3 : outB first
    · have hz : chk first F O len = chkLoop F O len 0 := by unfold chk; rw [if_neg h2, if_neg (by simp [h3])]
      rw [hz]
      rw [h3] at ho
      clear h2 hz h3
      obtain ⟨z, hz⟩ : ∃ z, chkLoop F O len 0 = z := ⟨_, rfl⟩
      rw [hz]
      have Hz := Lib.hid hz
      clear hz
      go_enter Try.func32, Try.ntmps32
      go_wp2_with fail
      refine (ho.out _).mono ?_
      rintro e w1 ⟨rfl, rfl⟩
      go_wp2_with fail
      go_loopw [3, 16] (fun lv iv wr => ∃ (k : Nat) (last : Int), lv = .int .i64 last ∧ iv = .int .i64 k ∧ k ≤ len ∧ Hid (last = if k = 0 then -1 else F (k - 1)) ∧ Below w.heap.size w wr ∧ w.heap.size < wr.heap.size ∧ chkLoop F O (len - k) k = z) (fun _ iv _ => len - (intOf iv).toNat)
      case atStart => exact ⟨0, -1, rfl, rfl, by omega, Lib.hid rfl, (Below.refl _ _).alloc (Nat.le_refl _) _, by simp, Hz.out⟩
      case round =>
        obtain ⟨k, last, rfl, rfl, hk, hlast, hb, hs, hrest⟩ := hrel
        have HB := Lib.hid hb
        have HZ := Lib.hid hrest
        clear hrest
        by_cases hlt : k < len
        · have t2 : decide ((k : Int) < (len : Int)) = true := by rw [decide_eq_true_eq]; omega
          have HR2 := HR.out.below hb (Nat.le_refl _)
          obtain ⟨b, off, rfl, hbl, hc⟩ := HR2.here (by omega)
          obtain ⟨c0, c1⟩ := hc k hlt
          have Hc := Lib.hid hc
          clear hb hc HR2
          have hzz := HZ.out
          rw [show len - k = (len - k - 1) + 1 by omega, chkLoop] at hzz
          have HZ2 := Lib.hid hzz
          clear hzz HZ
          have d1 := outside_any (F k) 0 86399999999
          rw [notMom] at d1
          replace d1 := Lib.hid d1
          have d2 := outside_any (O k) (-720) 840
          rw [show (decide (O k < -720) || decide (840 < O k)) = outB (O k) from rfl] at d2
          replace d2 := Lib.hid d2
          cases hm : momB (F k)
          · have hzz := HZ2.out
            rw [if_pos (by simp [hm])] at hzz
            rw [hm] at d1
            subst hzz
            clear hm HZ2 d2
            go_wp2_with fail
            refine (d1.out _).mono ?_
            rintro e w1 ⟨rfl, rfl⟩
            go_wp2_with fail
            go_ret
            exact ⟨rfl, HB.out.alloc (by omega) _⟩
          · have hF0 : 0 ≤ F k := by simp only [momB, Bool.and_eq_true, decide_eq_true_eq] at hm; exact hm.1
            rw [hm] at d1
            cases ho2 : outB (O k)
            · rw [ho2] at d2
              rw [if_neg (by simp [hm, ho2])] at HZ2
              clear hm ho2
              have hiff : F k ≤ last ↔ (0 < k ∧ F k ≤ F (k - 1)) := by
                rw [hlast.out]
                split
                · omega
                · constructor
                  · intro h; exact ⟨by omega, h⟩
                  · exact fun h => h.2
              by_cases hord : F k ≤ last
              · have hzz := HZ2.out
                rw [if_pos (hiff.1 hord)] at hzz
                have t4 : decide (F k ≤ last) = true := by simpa using hord
                subst hzz
                clear HZ2 hord hiff
                go_wp2_with fail
                refine (d1.out _).mono ?_
                rintro e w1 ⟨rfl, rfl⟩
                go_wp2_with fail
                refine (d2.out _).mono ?_
                rintro e w1 ⟨rfl, rfl⟩
                go_wp2_with fail
                go_ret
                exact ⟨rfl, HB.out.alloc (by omega) _⟩
              · rw [if_neg (fun h => hord (hiff.2 h))] at HZ2
                have t4 : decide (F k ≤ last) = false := by simpa using hord
                clear hord hiff
                go_wp2_with fail
                refine (d1.out _).mono ?_
                rintro e w1 ⟨rfl, rfl⟩
                go_wp2_with fail
                refine (d2.out _).mono ?_
                rintro e w1 ⟨rfl, rfl⟩
                go_wp2_with fail
                go_roundw
                case rel => exact ⟨k + 1, F k, rfl, by go_num, by omega, Lib.hid (by simp), HB.out.alloc (by omega) _, by simp; omega, HZ2.out⟩
                case measure => simp [intOf]; omega
            · have hzz := HZ2.out
              rw [if_pos (by simp [hm, ho2])] at hzz
              rw [ho2] at d2
              subst hzz
              clear hm ho2 HZ2
              go_wp2_with fail
              refine (d1.out _).mono ?_
              rintro e w1 ⟨rfl, rfl⟩
              go_wp2_with fail
              refine (d2.out _).mono ?_
              rintro e w1 ⟨rfl, rfl⟩
              go_wp2_with fail
              go_ret
              exact ⟨rfl, HB.out.alloc (by omega) _⟩
        · have t2 : decide ((k : Int) < (len : Int)) = false := by rw [decide_eq_false_iff_not]; omega
          have hzz := HZ.out
          rw [show len - k = 0 by omega, chkLoop] at hzz
          subst hzz
          have t2' : decide (k < len) = false := by simpa using hlt
          clear hlt HZ hb
          go_wp2_with fail
          go_ret
          exact ⟨rfl, HB.out⟩
    · have hz : chk first F O len = 9 := by unfold chk; rw [if_neg h2, if_pos h3]
      rw [hz]
      rw [h3] at ho
      clear h2 hz h3
      go_enter Try.func32, Try.ntmps32
      go_wp2_with fail
      refine (ho.out _).mono ?_
      rintro e w1 ⟨rfl, rfl⟩
      go_wp2_with fail
      go_ret
      exact ⟨rfl, (Below.refl _ _).alloc (Nat.le_refl _) _⟩
end Go.Proofs.Ythcddmjgehcgaaa
