/- Zones: CheckZone of the program. -/
import Derived.Test.YthcddmjgehcgaabJ
import Derived.Deep.QuietTactic
import Derived.BigQuiet
namespace Go.Proofs.Ythcddmjgehcgaab
open Go.RowKit Go.BigFrame

def momB (n : Int) : Bool := decide (0 ≤ n) && decide (n ≤ 86399999999)
theorem isMoment_any (n : Int) (w : World) : Calls Try.prog 10 #[.int .i64 n] w fun e w' => e = .returned (.bool (momB n)) ∧ w = w' := by
  cases h : decide (0 ≤ n)
  all_goals
    go_enter Try.func10, Try.ntmps10
    go_wp2
    go_ret
    exact ⟨ret_bool (by simp [momB, h]), rfl⟩
def outB (n : Int) : Bool := decide (n < -720) || decide (840 < n)
theorem zoneOut_any (n : Int) (w : World) : Calls Try.prog 32 #[.int .i64 n] w fun e w' => e = .returned (.bool (outB n)) ∧ w = w' := by
  cases h : decide (n < -720)
  all_goals
    go_enter Try.func32, Try.ntmps32
    go_wp2
    go_ret
    exact ⟨ret_bool (by simp [outB, h]), rfl⟩

/-- the look at the changes from the k-th on -/
def chkLoop (F O : Nat → Int) : Nat → Nat → Int
  | 0, _ => 0
  | n + 1, k => if (!momB (F k) || outB (O k)) = true then 9 else if 0 < k ∧ F k ≤ F (k - 1) then 10 else chkLoop F O n (k + 1)
def chk (first : Int) (F O : Nat → Int) (len : Nat) : Int := if 200 < len then 3 else if outB first = true then 9 else chkLoop F O len 0

set_option maxHeartbeats 1000000 in
set_option maxRecDepth 100000 in
theorem checkZone_any (first : Int) (a : Option Addr) (len cap : Nat) (F O : Nat → Int) (w : World) (hr : Rows2 w a len F O) :
    Calls Try.prog 13 #[.agg #[.int .i64 first, .slice a len cap]] w fun e w' => e = .returned (.int .i64 (chk first F O len)) ∧ Below w.heap.size w w' := by
  have HR := Lib.hid hr
  clear hr
  by_cases h2 : 200 < len
  · have hz : chk first F O len = 3 := by unfold chk; rw [if_pos h2]
    rw [hz]
    have t1 : decide ((200 : Int) < (len : Int)) = true := by rw [decide_eq_true_eq]; omega
    clear h2 hz
    go_enter Try.func13, Try.ntmps13
    go_wp2
    go_ret
    exact ⟨rfl, (Below.refl _ _).alloc (Nat.le_refl _) _⟩
  · have t1 : decide ((200 : Int) < (len : Int)) = false := by rw [decide_eq_false_iff_not]; omega
    have hl : (len : Int) ≤ 200 := by omega
    have ho := Lib.hid (zoneOut_any first)
    cases h3 : outB first
    · have hz : chk first F O len = chkLoop F O len 0 := by unfold chk; rw [if_neg h2, if_neg (by simp [h3])]
      rw [hz]
      rw [h3] at ho
      clear h2 hz h3
      obtain ⟨z, hz⟩ : ∃ z, chkLoop F O len 0 = z := ⟨_, rfl⟩
      rw [hz]
      have Hz := Lib.hid hz
      clear hz
      go_enter Try.func13, Try.ntmps13
      go_wp2_with fail
      refine (ho.out _).mono ?_
      rintro e w1 ⟨rfl, rfl⟩
      go_wp2_with fail
      go_loopw [19] (fun iv wr => ∃ (k : Nat), iv = .int .i64 k ∧ k ≤ len ∧ Below w.heap.size w wr ∧ w.heap.size < wr.heap.size ∧ wr.cell? ⟨w.heap.size, 1, none⟩ = some (.slice a len cap) ∧ chkLoop F O (len - k) k = z) (fun iv _ => len - (intOf iv).toNat)
      case atStart => exact ⟨0, rfl, by omega, (Below.refl _ _).alloc (Nat.le_refl _) _, by simp, by rw [World.cell?_alloc_at _ _ _ _ rfl]; rfl, Hz.out⟩
      case round =>
        obtain ⟨k, rfl, hk, hb, hs, hbox, hrest⟩ := hrel
        have HB := Lib.hid hb
        have HZ := Lib.hid hrest
        clear hrest
        by_cases hlt : k < len
        · have t2 : decide ((k : Int) < (len : Int)) = true := by rw [decide_eq_true_eq]; omega
          have HR2 := HR.out.below hb (Nat.le_refl _)
          obtain ⟨b, off, rfl, hbl, hc⟩ := HR2.here (by omega)
          obtain ⟨c0, c1⟩ := hc k hlt
          have Hc := Lib.hid hc
          clear hb hc HR2
          have hzz := HZ.out
          rw [show len - k = (len - k - 1) + 1 by omega, chkLoop] at hzz
          have HZ2 := Lib.hid hzz
          clear hzz HZ
          have d1 := Lib.hid (isMoment_any (F k))
          have d2 := Lib.hid (zoneOut_any (O k))
          cases hm : momB (F k)
          · have hzz := HZ2.out
            rw [if_pos (by simp [hm])] at hzz
            rw [hm] at d1
            subst hzz
            clear hm HZ2 d2
            go_wp2_with fail
            refine (d1.out _).mono ?_
            rintro e w1 ⟨rfl, rfl⟩
            go_wp2_with fail
            go_ret
            exact ⟨rfl, HB.out.alloc (by omega) _⟩
          · rw [hm] at d1
            cases ho2 : outB (O k)
            · rw [ho2] at d2
              rw [if_neg (by simp [hm, ho2])] at HZ2
              clear hm ho2
              by_cases hk0 : 0 < k
              · have t3 : decide ((0 : Int) < (k : Int)) = true := by rw [decide_eq_true_eq]; omega
                have t3' : decide (0 < k) = true := by simpa using hk0
                obtain ⟨c2, _⟩ := Hc.out (k - 1) (by omega)
                have hidx : ((k : Int) - 1).toNat = k - 1 := by omega
                by_cases hord : F k ≤ F (k - 1)
                · have hzz := HZ2.out
                  rw [if_pos ⟨hk0, hord⟩] at hzz
                  have t4 : decide (F k ≤ F (k - 1)) = true := by simpa using hord
                  subst hzz
                  clear HZ2 hord
                  go_wp2_with fail
                  refine (d1.out _).mono ?_
                  rintro e w1 ⟨rfl, rfl⟩
                  go_wp2_with fail
                  refine (d2.out _).mono ?_
                  rintro e w1 ⟨rfl, rfl⟩
                  go_wp2_with fail
                  go_quiet (fail)
                  go_wp2
                  go_ret
                  exact ⟨rfl, below_drewN (HB.out.alloc (by omega) _) _⟩
                · rw [if_neg (fun h => hord h.2)] at HZ2
                  have t4 : decide (F k ≤ F (k - 1)) = false := by simpa using hord
                  clear hord
                  go_wp2_with fail
                  refine (d1.out _).mono ?_
                  rintro e w1 ⟨rfl, rfl⟩
                  go_wp2_with fail
                  refine (d2.out _).mono ?_
                  rintro e w1 ⟨rfl, rfl⟩
                  go_wp2_with fail
                  go_quiet (fail)
                  go_wp2
                  go_roundw
                  case rel => exact ⟨k + 1, by go_num, by omega, below_drewN (HB.out.alloc (by omega) _) _, by simp; omega, (World.cell?_alloc_past _ _ _ hs).trans hbox, HZ2.out⟩
                  case measure => simp [intOf]; omega
              · have t3 : decide ((0 : Int) < (k : Int)) = false := by rw [decide_eq_false_iff_not]; omega
                have t3' : decide (0 < k) = false := by simpa using hk0
                rw [if_neg (fun h => hk0 h.1)] at HZ2
                clear hk0
                go_wp2_with fail
                refine (d1.out _).mono ?_
                rintro e w1 ⟨rfl, rfl⟩
                go_wp2_with fail
                refine (d2.out _).mono ?_
                rintro e w1 ⟨rfl, rfl⟩
                go_wp2_with fail
                go_quiet (fail)
                go_wp2
                go_roundw
                case rel => exact ⟨k + 1, by go_num, by omega, below_drewN (HB.out.alloc (by omega) _) _, by simp; omega, (World.cell?_alloc_past _ _ _ hs).trans hbox, HZ2.out⟩
                case measure => simp [intOf]; omega
            · have hzz := HZ2.out
              rw [if_pos (by simp [hm, ho2])] at hzz
              rw [ho2] at d2
              subst hzz
              clear hm ho2 HZ2
              go_wp2_with fail
              refine (d1.out _).mono ?_
              rintro e w1 ⟨rfl, rfl⟩
              go_wp2_with fail
              refine (d2.out _).mono ?_
              rintro e w1 ⟨rfl, rfl⟩
              go_wp2_with fail
              go_ret
              exact ⟨rfl, HB.out.alloc (by omega) _⟩
        · have t2 : decide ((k : Int) < (len : Int)) = false := by rw [decide_eq_false_iff_not]; omega
          have hzz := HZ.out
          rw [show len - k = 0 by omega, chkLoop] at hzz
          subst hzz
          have t2' : decide (k < len) = false := by simpa using hlt
          clear hlt HZ hb
          go_wp2_with fail
          go_ret
          exact ⟨rfl, HB.out⟩
    · have hz : chk first F O len = 9 := by unfold chk; rw [if_neg h2, if_pos h3]
      rw [hz]
      rw [h3] at ho
      clear h2 hz h3
      go_enter Try.func13, Try.ntmps13
      go_wp2_with fail
      refine (ho.out _).mono ?_
      rintro e w1 ⟨rfl, rfl⟩
      go_wp2_with fail
      go_ret
      exact ⟨rfl, (Below.refl _ _).alloc (Nat.le_refl _) _⟩
end Go.Proofs.Ythcddmjgehcgaab
