/- Gear: Check of the program (printed by wip/g/gen_gcheck.py). -/
import Derived.Test.YtbkpoepacjinlaaGv
import Derived.Test.YtbkpoepacjinlaaGu
namespace Go.Proofs.Ytbkpoepacjinlaa
open Go.RowKit Go.BigFrame
open Gar (momG endG chk chkP chkS chkM chkU chkUse anyOver befU)

theorem chk_eq2 (g : Gar) : (bigG g → chk g = 3) ∧ (¬ bigG g → chk g = if chkP g g.np 0 ≠ 0 then chkP g g.np 0 else if chkS g g.ns 0 ≠ 0 then chkS g g.ns 0 else if zM g ≠ 0 then zM g else chkU g g.nu 0) := by
  obtain ⟨h1, h2⟩ := chk_eq g
  refine ⟨h1, fun h => ?_⟩
  rw [h2 h]
  unfold zP
  by_cases e : chkP g g.np 0 = 0
  · simp [e]
  · simp [e]
set_option maxHeartbeats 8000000 in
set_option maxRecDepth 100000 in
theorem gCheck_any (g : Gar) (a0 a1 a2 a3 : Option Addr) (c0 c1 c2 c3 : Nat) (w : World) (h : GarIn w g a0 a1 a2 a3) :
    Calls Try.prog 15 #[garV g a0 a1 a2 a3 c0 c1 c2 c3] w fun e w' => e = .returned (.int .i64 (chk g)) ∧ Below w.heap.size w w' := by
  have HG := Lib.hid h
  have hl0 := h.l0
  have hl1 := h.l1
  have hl2 := h.l2
  have hl3 := h.l3
  clear h
  have HUS := Lib.hid (show Try.prog.underlying 9 = some .string by kernel_rfl)
  have HUB := Lib.hid (show Try.prog.underlying 97 = some (.map 9 4) by kernel_rfl)
  have HzB := Lib.hid (show ∀ u : World, (zeroValue 4).run Try.prog u = .ok (.bool false) u from fun u => by kernel_rfl)
  have hmm := @run_makeMap Try.prog
  have DM0 := Lib.hid (fun (W : World) (hb : Below w.heap.size w W) => checkMounts_any g a0 a1 a2 a3 c0 c1 c2 c3 W (HG.out.below hb))
  rw [show (if chkM g g.nm 0 ≠ 0 then chkM g g.nm 0 else if anyOver g = true then 11 else 0) = zM g from rfl] at DM0
  unfold garV at DM0 ⊢
  obtain ⟨hbig, hsmall⟩ := chk_eq2 g
  obtain ⟨z, hz⟩ : ∃ z, chk g = z := ⟨_, rfl⟩
  obtain ⟨zp, hzp⟩ : ∃ z, chkP g g.np 0 = z := ⟨_, rfl⟩
  obtain ⟨zs, hzs⟩ : ∃ z, chkS g g.ns 0 = z := ⟨_, rfl⟩
  obtain ⟨zu, hzu⟩ : ∃ z, chkU g g.nu 0 = z := ⟨_, rfl⟩
  rw [hz]
  rw [hz] at hbig hsmall
  rw [hzp, hzs, hzu] at hsmall
  generalize zM g = zm at DM0 hsmall
  have HBIG := Lib.hid hbig
  have HSMALL := Lib.hid hsmall
  have HZP := Lib.hid hzp
  have HZS := Lib.hid hzs
  have HZU := Lib.hid hzu
  clear hz hbig hsmall hzu hzp hzs
  obtain ⟨W0, hW0, hb0, hs0, hl0'⟩ := alloc_cells w #[.slice a0 g.np c0, .slice a1 g.ns c1, .slice a2 g.nm c2, .slice a3 g.nu c3] 27
  have G0 := Ext.ex (hl0' 0 _ rfl)
  have G1 := Ext.ex (hl0' 1 _ rfl)
  have G2 := Ext.ex (hl0' 2 _ rfl)
  have G3 := Ext.ex (hl0' 3 _ rfl)
  have HW0 := Lib.hid hW0
  have HB0 := Lib.hid hb0
  have hs0' : w.heap.size ≤ W0.heap.size := by omega
  have hs0'' : w.heap.size < W0.heap.size := by omega
  have DM := Lib.hid (fun (Y : Ext W0) => DM0.out Y.1 (Y.down HB0.out hs0'))
  clear hl0' hW0 hb0 hs0 DM0
  by_cases hb : bigG g
  · have HZ := Lib.hid (HBIG.out hb)
    unfold bigG at hb
    have hw : 500 < g.np ∨ (¬ 500 < g.np ∧ 100 < g.ns) ∨ (¬ 500 < g.np ∧ ¬ 100 < g.ns ∧ 2000 < g.nm) ∨ (¬ 500 < g.np ∧ ¬ 100 < g.ns ∧ ¬ 2000 < g.nm ∧ 5000 < g.nu) := by omega
    clear hb
    rcases hw with q0 | ⟨q0, q1⟩ | ⟨q0, q1, q2⟩ | ⟨q0, q1, q2, q3⟩
    · have d0 : decide ((500 : Int) < (g.np : Int)) = true := by rw [decide_eq_true_eq]; omega
      have d0' : decide (500 < g.np) = true := by simpa using q0
      clear q0
      go_enter Try.func15, Try.ntmps15
      go_upto_region 1 with (fail)
      rw [HW0.out]
      refine ext_wp fun X => ?_
      go_wp2_with fail
      go_ret
      exact ⟨ret_int HZ.out.symm, X.down HB0.out hs0'⟩
    · have d0 : decide ((500 : Int) < (g.np : Int)) = false := by rw [decide_eq_false_iff_not]; omega
      have d0' : decide (500 < g.np) = false := by simpa using q0
      have d1 : decide ((100 : Int) < (g.ns : Int)) = true := by rw [decide_eq_true_eq]; omega
      have d1' : decide (100 < g.ns) = true := by simpa using q1
      clear q0 q1
      go_enter Try.func15, Try.ntmps15
      go_upto_region 1 with (fail)
      rw [HW0.out]
      refine ext_wp fun X => ?_
      go_wp2_with fail
      go_ret
      exact ⟨ret_int HZ.out.symm, X.down HB0.out hs0'⟩
    · have d0 : decide ((500 : Int) < (g.np : Int)) = false := by rw [decide_eq_false_iff_not]; omega
      have d0' : decide (500 < g.np) = false := by simpa using q0
      have d1 : decide ((100 : Int) < (g.ns : Int)) = false := by rw [decide_eq_false_iff_not]; omega
      have d1' : decide (100 < g.ns) = false := by simpa using q1
      have d2 : decide ((2000 : Int) < (g.nm : Int)) = true := by rw [decide_eq_true_eq]; omega
      have d2' : decide (2000 < g.nm) = true := by simpa using q2
      clear q0 q1 q2
      go_enter Try.func15, Try.ntmps15
      go_upto_region 1 with (fail)
      rw [HW0.out]
      refine ext_wp fun X => ?_
      go_wp2_with fail
      go_ret
      exact ⟨ret_int HZ.out.symm, X.down HB0.out hs0'⟩
    · have d0 : decide ((500 : Int) < (g.np : Int)) = false := by rw [decide_eq_false_iff_not]; omega
      have d0' : decide (500 < g.np) = false := by simpa using q0
      have d1 : decide ((100 : Int) < (g.ns : Int)) = false := by rw [decide_eq_false_iff_not]; omega
      have d1' : decide (100 < g.ns) = false := by simpa using q1
      have d2 : decide ((2000 : Int) < (g.nm : Int)) = false := by rw [decide_eq_false_iff_not]; omega
      have d2' : decide (2000 < g.nm) = false := by simpa using q2
      have d3 : decide ((5000 : Int) < (g.nu : Int)) = true := by rw [decide_eq_true_eq]; omega
      have d3' : decide (5000 < g.nu) = true := by simpa using q3
      clear q0 q1 q2 q3
      go_enter Try.func15, Try.ntmps15
      go_upto_region 1 with (fail)
      rw [HW0.out]
      refine ext_wp fun X => ?_
      go_wp2_with fail
      go_ret
      exact ⟨ret_int HZ.out.symm, X.down HB0.out hs0'⟩
  · have HZ := Lib.hid (HSMALL.out hb)
    unfold bigG at hb
    have d0 : decide ((500 : Int) < (g.np : Int)) = false := by rw [decide_eq_false_iff_not]; omega
    have d1 : decide ((100 : Int) < (g.ns : Int)) = false := by rw [decide_eq_false_iff_not]; omega
    have d2 : decide ((2000 : Int) < (g.nm : Int)) = false := by rw [decide_eq_false_iff_not]; omega
    have d3 : decide ((5000 : Int) < (g.nu : Int)) = false := by rw [decide_eq_false_iff_not]; omega
    have d0' : decide (500 < g.np) = false := by rw [decide_eq_false_iff_not]; omega
    have d1' : decide (100 < g.ns) = false := by rw [decide_eq_false_iff_not]; omega
    have d2' : decide (2000 < g.nm) = false := by rw [decide_eq_false_iff_not]; omega
    have d3' : decide (5000 < g.nu) = false := by rw [decide_eq_false_iff_not]; omega
    clear hb HBIG HSMALL
    go_enter Try.func15, Try.ntmps15
    go_upto_region 1 with (fail)
    rw [HW0.out]
    refine ext_wp fun X => ?_
    go_wp2_with fail
    clear d0 d1 d2 d3 d0' d1' d2' d3'
    go_loopw [37] (fun iv wr => ∃ (k : Nat), iv = .int .i64 k ∧ k ≤ g.np ∧ Hid (∃ X : Ext W0, wr = X.1) ∧ Hid (chkP g (g.np - k) k = zp)) (fun iv _ => g.np - (intOf iv).toNat)
    case atStart => exact ⟨0, rfl, by omega, Lib.hid ⟨X, rfl⟩, HZP⟩
    case round =>
      obtain ⟨k, rfl, hk, HXE, HX⟩ := hrel
      obtain ⟨X, rfl⟩ := HXE.out
      by_cases hlt : k < g.np
      · have t1 : decide ((k : Int) < (g.np : Int)) = true := by rw [decide_eq_true_eq]; omega
        have t1' : decide (k < g.np) = true := by simpa using hlt
        obtain ⟨b, off, rfl, hbl, hc⟩ := (HG.out.r0.below (X.down HB0.out hs0') (Nat.le_refl _)).here (by omega)
        have e0 : X.1.cell? ⟨b, off + k * 2, none⟩ = some (.string (g.pn k)) := hc k hlt 0 (by omega)
        have e1 : X.1.cell? ⟨b, off + k * 2 + 1, none⟩ = some (.int .i64 (g.pc k)) := hc k hlt 1 (by omega)
        have hx := HX.out
        rw [show g.np - k = (g.np - k - 1) + 1 by omega, chkP] at hx
        have HX2 := Lib.hid hx
        obtain ⟨V1, hV1, hb1, hs1, hl1⟩ := alloc_cells X.1 #[.string (g.pn k), .int .i64 (g.pc k)] 94
        have L0 := Ext.ex (hl1 0 _ rfl)
        have L1 := Ext.ex (hl1 1 _ rfl)
        have hb01 := below_step X.2 hb1
        have M0 := Ext.re hb01 G0
        have M1 := Ext.re hb01 G1
        have HB01 := Lib.hid hb01
        have hbw := HB0.out.trans (hb01.mono hs0')
        have hsv : w.heap.size ≤ V1.heap.size := hbw.size
        have HBV := Lib.hid hbw
        have HB1 := Lib.hid hb1
        have HV1 := Lib.hid hV1
        have DN := Lib.hid (fun W => isName_any (g.pn k) W (HG.out.z0 k hlt))
        have D3 := Lib.hid (fun W => gin_any (g.pc k) 0 1000000000 W)
        have RET : ∀ (v : Int) (Y : Ext V1), v ≠ 0 → v = zp → Ending.returned (.int .i64 v) = .returned (.int .i64 z) ∧ Below w.heap.size w Y.1 := fun v Y hv hz => by
          refine ⟨ret_int ?_, Y.down HBV.out hsv⟩
          rw [HZ.out, ← hz, if_pos hv]
        have HRET := Lib.hid RET
        clear hx HX hl1 hV1 hb1 hs1 hb01 hbw RET HXE
        cases hnm : nameB (g.pn k)
        · rw [hnm] at DN HX2
          rw [if_pos rfl] at HX2
          clear hc hnm
          go_upto_region 6 with (fail)
          rw [HV1.out]
          refine ext_wp fun X1 => ?_
          go_wp2_with (refine (DN.out _).mono ?_; rintro e w2 ⟨rfl, rfl⟩)
          go_ret
          exact HRET.out 8 _ (by decide) HX2.out
        rw [hnm] at DN HX2
        rw [if_neg (by simp)] at HX2
        clear hnm
        by_cases hk0 : 0 < k
        · obtain ⟨q, rfl⟩ : ∃ q, k = q + 1 := ⟨k - 1, by omega⟩
          have g0 : decide ((0 : Int) < ((q + 1 : Nat) : Int)) = true := by rw [decide_eq_true_eq]; omega
          have g0' : decide (0 < q + 1) = true := by simp
          have p0 : X.1.cell? ⟨b, off + q * 2, none⟩ = some (.string (g.pn q)) := hc q (by omega) 0 (by omega)
          have P0 := Ext.ex (below_cell HB1.out p0)
          have hle := str_le (g.pn (q + 1)) (g.pn q)
          rw [show q + 1 - 1 = q from rfl] at HX2
          clear hc p0 hk0
          cases hlt2 : strLt (g.pn q) (g.pn (q + 1))
          · rw [hlt2] at hle HX2
            rw [if_pos ⟨by omega, rfl⟩] at HX2
            rw [Bool.not_false] at hle
            clear hlt2
            go_upto_region 6 with (fail)
            rw [HV1.out]
            refine ext_wp fun X1 => ?_
            go_wp2_with (refine (DN.out _).mono ?_; rintro e w2 ⟨rfl, rfl⟩)
            refine wp_region_ext (W := V1) _ (by kernel_rfl) (by kernel_rfl) ?_
            repeat go_big_quiet_step (fail)
            refine wpQuiet_nil ?_
            intro _ hw'
            obtain ⟨Y, rfl⟩ := hw'
            go_wp2_with fail
            go_ret
            exact HRET.out 10 _ (by decide) HX2.out
          rw [hlt2] at hle HX2
          rw [if_neg (by simp)] at HX2
          rw [Bool.not_true] at hle
          clear hlt2
          cases hb : inB (g.pc (q + 1)) 0 1000000000
          · rw [hb] at D3
            rw [if_pos (by unfold inB at hb; simp at hb; omega)] at HX2
            go_upto_region 6 with (fail)
            rw [HV1.out]
            refine ext_wp fun X1 => ?_
            go_wp2_with (refine (DN.out _).mono ?_; rintro e w2 ⟨rfl, rfl⟩)
            refine wp_region_ext (W := V1) _ (by kernel_rfl) (by kernel_rfl) ?_
            repeat go_big_quiet_step (fail)
            refine wpQuiet_nil ?_
            intro _ hw'
            obtain ⟨Y, rfl⟩ := hw'
            go_wp2_with (refine (D3.out _).mono ?_; rintro e w2 ⟨rfl, rfl⟩)
            go_ret
            exact HRET.out 9 _ (by decide) HX2.out
          · rw [hb] at D3
            rw [if_neg (by unfold inB at hb; simp at hb; omega)] at HX2
            go_upto_region 6 with (fail)
            rw [HV1.out]
            refine ext_wp fun X1 => ?_
            go_wp2_with (refine (DN.out _).mono ?_; rintro e w2 ⟨rfl, rfl⟩)
            refine wp_region_ext (W := V1) _ (by kernel_rfl) (by kernel_rfl) ?_
            repeat go_big_quiet_step (fail)
            refine wpQuiet_nil ?_
            intro _ hw'
            obtain ⟨Y, rfl⟩ := hw'
            go_wp2_with (refine (D3.out _).mono ?_; rintro e w2 ⟨rfl, rfl⟩)
            go_roundw
            case rel => exact ⟨q + 1 + 1, by go_num, by omega, Lib.hid ⟨⟨_, below_step HB01.out Y.2⟩, rfl⟩, HX2⟩
            case measure => simp [intOf]; omega
        · obtain rfl : k = 0 := by omega
          rw [if_neg (fun h => absurd h.1 (by omega))] at HX2
          have g0 : decide ((0 : Int) < ((0 : Nat) : Int)) = false := by simp
          have g0' : decide ((0 : Int) < (0 : Int)) = false := by simp
          simp only [Nat.zero_mul, Nat.add_zero] at e0 e1
          clear hc hk0
          cases hb : inB (g.pc 0) 0 1000000000
          · rw [hb] at D3
            rw [if_pos (by unfold inB at hb; simp at hb; omega)] at HX2
            go_upto_region 6 with (fail)
            rw [HV1.out]
            refine ext_wp fun X1 => ?_
            go_wp2_with (refine (DN.out _).mono ?_; rintro e w2 ⟨rfl, rfl⟩)
            refine wp_region_ext (W := V1) _ (by kernel_rfl) (by kernel_rfl) ?_
            repeat go_big_quiet_step (fail)
            refine wpQuiet_nil ?_
            intro _ hw'
            obtain ⟨Y, rfl⟩ := hw'
            go_wp2_with (refine (D3.out _).mono ?_; rintro e w2 ⟨rfl, rfl⟩)
            go_ret
            exact HRET.out 9 _ (by decide) HX2.out
          · rw [hb] at D3
            rw [if_neg (by unfold inB at hb; simp at hb; omega)] at HX2
            go_upto_region 6 with (fail)
            rw [HV1.out]
            refine ext_wp fun X1 => ?_
            go_wp2_with (refine (DN.out _).mono ?_; rintro e w2 ⟨rfl, rfl⟩)
            refine wp_region_ext (W := V1) _ (by kernel_rfl) (by kernel_rfl) ?_
            repeat go_big_quiet_step (fail)
            refine wpQuiet_nil ?_
            intro _ hw'
            obtain ⟨Y, rfl⟩ := hw'
            go_wp2_with (refine (D3.out _).mono ?_; rintro e w2 ⟨rfl, rfl⟩)
            go_roundw
            case rel => exact ⟨0 + 1, by go_num, by omega, Lib.hid ⟨⟨_, below_step HB01.out Y.2⟩, rfl⟩, HX2⟩
            case measure => simp [intOf]; omega
      · have t1 : decide ((k : Int) < (g.np : Int)) = false := by rw [decide_eq_false_iff_not]; omega
        have t1' : decide (k < g.np) = false := by simpa using hlt
        have hx := HX.out
        rw [show g.np - k = 0 by omega, chkP] at hx
        have HP0 : Hid (zp = 0) := Lib.hid hx.symm
        clear hx HX hlt HXE
        go_wp2_with fail
        go_loopw [71] (fun iv wr => ∃ (k : Nat), iv = .int .i64 k ∧ k ≤ g.ns ∧ Hid (∃ X : Ext W0, wr = X.1) ∧ Hid (chkS g (g.ns - k) k = zs)) (fun iv _ => g.ns - (intOf iv).toNat)
        case atStart => exact ⟨0, rfl, by omega, Lib.hid ⟨X, rfl⟩, HZS⟩
        case round =>
          obtain ⟨k, rfl, hk, HXE, HX⟩ := hrel
          obtain ⟨X, rfl⟩ := HXE.out
          by_cases hlt : k < g.ns
          · have t1 : decide ((k : Int) < (g.ns : Int)) = true := by rw [decide_eq_true_eq]; omega
            have t1' : decide (k < g.ns) = true := by simpa using hlt
            obtain ⟨b, off, rfl, hbl, hc⟩ := (HG.out.r1.below (X.down HB0.out hs0') (Nat.le_refl _)).here (by omega)
            have e0 : X.1.cell? ⟨b, off + k * 2, none⟩ = some (.string (g.sn k)) := hc k hlt 0 (by omega)
            have e1 : X.1.cell? ⟨b, off + k * 2 + 1, none⟩ = some (.string (g.sr k)) := hc k hlt 1 (by omega)
            have hx := HX.out
            rw [show g.ns - k = (g.ns - k - 1) + 1 by omega, chkS] at hx
            have HX2 := Lib.hid hx
            obtain ⟨V1, hV1, hb1, hs1, hl1⟩ := alloc_cells X.1 #[.string (g.sn k), .string (g.sr k)] 40
            have L0 := Ext.ex (hl1 0 _ rfl)
            have L1 := Ext.ex (hl1 1 _ rfl)
            have hb01 := below_step X.2 hb1
            have M0 := Ext.re hb01 G0
            have M1 := Ext.re hb01 G1
            have HB01 := Lib.hid hb01
            have hbw := HB0.out.trans (hb01.mono hs0')
            have hsv : w.heap.size ≤ V1.heap.size := hbw.size
            have HBV := Lib.hid hbw
            have HB1 := Lib.hid hb1
            have HV1 := Lib.hid hV1
            have DN := Lib.hid (fun W => isName_any (g.sn k) W ((HG.out.z1 k hlt).1))
            have D3 := Lib.hid (fun W => isName_any (g.sr k) W (HG.out.z1 k hlt).2)
            have RET : ∀ (v : Int) (Y : Ext V1), v ≠ 0 → v = zs → Ending.returned (.int .i64 v) = .returned (.int .i64 z) ∧ Below w.heap.size w Y.1 := fun v Y hv hz => by
              refine ⟨ret_int ?_, Y.down HBV.out hsv⟩
              rw [HZ.out, if_neg (fun h => h HP0.out), ← hz, if_pos hv]
            have HRET := Lib.hid RET
            clear hx HX hl1 hV1 hb1 hs1 hb01 hbw RET HXE
            cases hnm : nameB (g.sn k)
            · rw [hnm] at DN HX2
              rw [if_pos rfl] at HX2
              clear hc hnm
              go_upto_region 16 with (fail)
              rw [HV1.out]
              refine ext_wp fun X1 => ?_
              go_wp2_with (refine (DN.out _).mono ?_; rintro e w2 ⟨rfl, rfl⟩)
              go_ret
              exact HRET.out 8 _ (by decide) HX2.out
            rw [hnm] at DN HX2
            rw [if_neg (by simp)] at HX2
            clear hnm
            by_cases hk0 : 0 < k
            · obtain ⟨q, rfl⟩ : ∃ q, k = q + 1 := ⟨k - 1, by omega⟩
              have g0 : decide ((0 : Int) < ((q + 1 : Nat) : Int)) = true := by rw [decide_eq_true_eq]; omega
              have g0' : decide (0 < q + 1) = true := by simp
              have p0 : X.1.cell? ⟨b, off + q * 2, none⟩ = some (.string (g.sn q)) := hc q (by omega) 0 (by omega)
              have P0 := Ext.ex (below_cell HB1.out p0)
              have hle := str_le (g.sn (q + 1)) (g.sn q)
              rw [show q + 1 - 1 = q from rfl] at HX2
              clear hc p0 hk0
              cases hlt2 : strLt (g.sn q) (g.sn (q + 1))
              · rw [hlt2] at hle HX2
                rw [if_pos ⟨by omega, rfl⟩] at HX2
                rw [Bool.not_false] at hle
                clear hlt2
                go_upto_region 16 with (fail)
                rw [HV1.out]
                refine ext_wp fun X1 => ?_
                go_wp2_with (refine (DN.out _).mono ?_; rintro e w2 ⟨rfl, rfl⟩)
                refine wp_region_ext (W := V1) _ (by kernel_rfl) (by kernel_rfl) ?_
                repeat go_big_quiet_step (fail)
                refine wpQuiet_nil ?_
                intro _ hw'
                obtain ⟨Y, rfl⟩ := hw'
                go_wp2_with fail
                go_ret
                exact HRET.out 10 _ (by decide) HX2.out
              rw [hlt2] at hle HX2
              rw [if_neg (by simp)] at HX2
              rw [Bool.not_true] at hle
              clear hlt2
              cases hb : nameB (g.sr (q + 1))
              · rw [hb] at D3
                rw [if_pos (hb)] at HX2
                go_upto_region 16 with (fail)
                rw [HV1.out]
                refine ext_wp fun X1 => ?_
                go_wp2_with (refine (DN.out _).mono ?_; rintro e w2 ⟨rfl, rfl⟩)
                refine wp_region_ext (W := V1) _ (by kernel_rfl) (by kernel_rfl) ?_
                repeat go_big_quiet_step (fail)
                refine wpQuiet_nil ?_
                intro _ hw'
                obtain ⟨Y, rfl⟩ := hw'
                go_wp2_with (refine (D3.out _).mono ?_; rintro e w2 ⟨rfl, rfl⟩)
                go_ret
                exact HRET.out 8 _ (by decide) HX2.out
              · rw [hb] at D3
                rw [if_neg (by rw [hb]; simp)] at HX2
                go_upto_region 16 with (fail)
                rw [HV1.out]
                refine ext_wp fun X1 => ?_
                go_wp2_with (refine (DN.out _).mono ?_; rintro e w2 ⟨rfl, rfl⟩)
                refine wp_region_ext (W := V1) _ (by kernel_rfl) (by kernel_rfl) ?_
                repeat go_big_quiet_step (fail)
                refine wpQuiet_nil ?_
                intro _ hw'
                obtain ⟨Y, rfl⟩ := hw'
                go_wp2_with (refine (D3.out _).mono ?_; rintro e w2 ⟨rfl, rfl⟩)
                go_roundw
                case rel => exact ⟨q + 1 + 1, by go_num, by omega, Lib.hid ⟨⟨_, below_step HB01.out Y.2⟩, rfl⟩, HX2⟩
                case measure => simp [intOf]; omega
            · obtain rfl : k = 0 := by omega
              rw [if_neg (fun h => absurd h.1 (by omega))] at HX2
              have g0 : decide ((0 : Int) < ((0 : Nat) : Int)) = false := by simp
              have g0' : decide ((0 : Int) < (0 : Int)) = false := by simp
              simp only [Nat.zero_mul, Nat.add_zero] at e0 e1
              clear hc hk0
              cases hb : nameB (g.sr 0)
              · rw [hb] at D3
                rw [if_pos (hb)] at HX2
                go_upto_region 16 with (fail)
                rw [HV1.out]
                refine ext_wp fun X1 => ?_
                go_wp2_with (refine (DN.out _).mono ?_; rintro e w2 ⟨rfl, rfl⟩)
                refine wp_region_ext (W := V1) _ (by kernel_rfl) (by kernel_rfl) ?_
                repeat go_big_quiet_step (fail)
                refine wpQuiet_nil ?_
                intro _ hw'
                obtain ⟨Y, rfl⟩ := hw'
                go_wp2_with (refine (D3.out _).mono ?_; rintro e w2 ⟨rfl, rfl⟩)
                go_ret
                exact HRET.out 8 _ (by decide) HX2.out
              · rw [hb] at D3
                rw [if_neg (by rw [hb]; simp)] at HX2
                go_upto_region 16 with (fail)
                rw [HV1.out]
                refine ext_wp fun X1 => ?_
                go_wp2_with (refine (DN.out _).mono ?_; rintro e w2 ⟨rfl, rfl⟩)
                refine wp_region_ext (W := V1) _ (by kernel_rfl) (by kernel_rfl) ?_
                repeat go_big_quiet_step (fail)
                refine wpQuiet_nil ?_
                intro _ hw'
                obtain ⟨Y, rfl⟩ := hw'
                go_wp2_with (refine (D3.out _).mono ?_; rintro e w2 ⟨rfl, rfl⟩)
                go_roundw
                case rel => exact ⟨0 + 1, by go_num, by omega, Lib.hid ⟨⟨_, below_step HB01.out Y.2⟩, rfl⟩, HX2⟩
                case measure => simp [intOf]; omega
          · have t1 : decide ((k : Int) < (g.ns : Int)) = false := by rw [decide_eq_false_iff_not]; omega
            have t1' : decide (k < g.ns) = false := by simpa using hlt
            have hx := HX.out
            rw [show g.ns - k = 0 by omega, chkS] at hx
            have HS0 : Hid (zs = 0) := Lib.hid hx.symm
            clear hx HX hlt HXE
            by_cases hzm : zm = 0
            case neg =>
              have n1 : (zm != 0) = true := by rw [bne_iff_ne]; exact hzm
              have HZF : Hid (z = zm) := Lib.hid (by rw [HZ.out, if_neg (fun h => h HP0.out), if_neg (fun h => h HS0.out), if_pos hzm])
              clear HZ hzm
              go_wp2_with fail
              refine (Ext.calls _ (DM.out _)).mono ?_
              rintro e w2 ⟨rfl, Y, rfl⟩
              go_wp2_with fail
              go_ret
              exact ⟨ret_int HZF.out.symm, Y.down HB0.out hs0'⟩
            case pos =>
            subst hzm
            have HZF : Hid (zu = z) := Lib.hid (by rw [HZ.out, if_neg (fun h => h HP0.out), if_neg (fun h => h HS0.out), if_neg (by simp)])
            clear HZ
            go_wp2_with fail
            refine (Ext.calls _ (DM.out _)).mono ?_
            rintro e w2 ⟨rfl, Y, rfl⟩
            go_upto_region 27 with (fail)
            obtain ⟨n1, hn1⟩ : ∃ n1, Y.1.heap.size = n1 := ⟨_, rfl⟩
            obtain ⟨U, hU⟩ : ∃ U, Y.1.alloc (.map #[] 0) = U := ⟨_, rfl⟩
            have hbu : Below Y.1.heap.size Y.1 U := hU ▸ below_al Y.1 _
            have hsu : U.heap.size = n1 + 1 := by rw [← hU, World.size_alloc, hn1]
            have hmu : StrMap U Try.prog 9 boolR n1 0 (fun x : Bool => .lit (.bool x)) (.lit (.bool false)) (fun s => anyK (fun i => decide (g.un i = s)) 0) := by
              rw [← hU, ← hn1]
              exact StrMap.made Y.1 _ _ _ (fun s => rfl)
            have HMU := Lib.hid hmu
            have hny : w.heap.size < n1 := by rw [← hn1]; exact Nat.lt_of_lt_of_le hs0'' Y.2.size
            have hnu : n1 < U.heap.size := by omega
            have hswu : w.heap.size ≤ U.heap.size := by omega
            have HBU := Lib.hid ((Y.down HB0.out hs0').trans (hbu.mono (by omega)))
            have hbb : ∀ b off, a3 = some ⟨b, off, none⟩ → 0 < g.nu → b < n1 := fun b off ha hnn => by
              obtain ⟨b', off', h1, h2, _⟩ := (HG.out.r3.below (Y.down HB0.out hs0') (Nat.le_refl _)).here hnn
              rw [ha] at h1
              injection h1 with h1
              injection h1 with h1 _
              omega
            have HBB := Lib.hid hbb
            have hgo : ¬ (w.heap.size = n1) := by omega
            have G0' := ExtO.ex (O := fun b => b = n1) hgo (below_cell hbu (G0 Y))
            have G1' := ExtO.ex (O := fun b => b = n1) hgo (below_cell hbu (G1 Y))
            have G2' := ExtO.ex (O := fun b => b = n1) hgo (below_cell hbu (G2 Y))
            have G3' := ExtO.ex (O := fun b => b = n1) hgo (below_cell hbu (G3 Y))
            have gu := below_cell hbu (G3 Y)
            rw [hU, hn1]
            have HN1 := Lib.hid hn1
            clear hU hbu hsu hmu hgo hbb hn1 G0 G1 G2 G3
            have G0 := G0'
            have G1 := G1'
            have G2 := G2'
            have G3 := G3'
            clear G0' G1' G2' G3'
            go_wp2_with fail
            clear gu
            go_loopw [111] (fun iv wr => ∃ (k : Nat), iv = .int .i64 k ∧ k ≤ g.nu ∧ Hid (∃ X : ExtO (fun b => b = n1) U, wr = X.1) ∧ Hid (StrMap wr Try.prog 9 boolR n1 k (fun x : Bool => .lit (.bool x)) (.lit (.bool false)) (fun s => anyK (fun i => decide (g.un i = s)) k)) ∧ Hid (chkU g (g.nu - k) k = zu)) (fun iv _ => g.nu - (intOf iv).toNat)
            case atStart => exact ⟨0, rfl, by omega, Lib.hid ⟨⟨_, Kept.refl _ _⟩, rfl⟩, HMU, HZU⟩
            case round =>
              obtain ⟨k, rfl, hk, HXE, HM, HX⟩ := hrel
              obtain ⟨X, rfl⟩ := HXE.out
              by_cases hlt : k < g.nu
              · have t1 : decide ((k : Int) < (g.nu : Int)) = true := by rw [decide_eq_true_eq]; omega
                have t1' : decide (k < g.nu) = true := by simpa using hlt
                obtain ⟨b, off, rfl, hbl, hc⟩ := (HG.out.r3.below (X.down HBU.out hswu (fun k hk => by omega)) (Nat.le_refl _)).here (by omega)
                have hbn : ¬ b = n1 := by
                  have := HBB.out b off rfl (by omega)
                  omega
                have e0 : X.1.cell? ⟨b, off + k * 5, none⟩ = some (.string (g.un k)) := hc k hlt 0 (by omega)
                have e1 : X.1.cell? ⟨b, off + k * 5 + 1, none⟩ = some (.string (g.ur k)) := hc k hlt 1 (by omega)
                have e2 : X.1.cell? ⟨b, off + k * 5 + 2, none⟩ = some (.int .i64 (g.uf k)) := hc k hlt 2 (by omega)
                have e3 : X.1.cell? ⟨b, off + k * 5 + 3, none⟩ = some (.int .i64 (g.us k)) := hc k hlt 3 (by omega)
                have e4 : X.1.cell? ⟨b, off + k * 5 + 4, none⟩ = some (.int .i64 (g.uw k)) := hc k hlt 4 (by omega)
                have hz2 := HG.out.z3 k hlt
                have hx := HX.out
                rw [show g.nu - k = (g.nu - k - 1) + 1 by omega, chkU] at hx
                rw [show ((List.range k).any fun i => decide (g.un i = g.un k)) = anyK (fun i => decide (g.un i = g.un k)) k from rfl] at hx
                have HX2 := Lib.hid hx
                obtain ⟨V1, hV1, hb1, hs1, hl1⟩ := alloc_cells X.1 #[.string (g.un k), .string (g.ur k), .int .i64 (g.uf k), .int .i64 (g.us k), .int .i64 (g.uw k)] 38
                have hk1 : Kept (fun b => b = n1) U V1 := X.2.trans (Kept.of_below hb1)
                have hnx : n1 < X.1.heap.size := Nat.lt_of_lt_of_le hnu X.2.size
                have l0 := hl1 0 _ rfl
                have l1 := hl1 1 _ rfl
                have l2 := hl1 2 _ rfl
                have l3 := hl1 3 _ rfl
                have l4 := hl1 4 _ rfl
                have L0 := ExtO.ex (O := fun b => b = n1) (by simp <;> omega) l0
                have L1 := ExtO.ex (O := fun b => b = n1) (by simp <;> omega) l1
                have L2 := ExtO.ex (O := fun b => b = n1) (by simp <;> omega) l2
                have L3 := ExtO.ex (O := fun b => b = n1) (by simp <;> omega) l3
                have L4 := ExtO.ex (O := fun b => b = n1) (by simp <;> omega) l4
                have M0 := ExtO.re hk1 G0
                have M1 := ExtO.re hk1 G1
                have M2 := ExtO.re hk1 G2
                have M3 := ExtO.re hk1 G3
                have HK1 := Lib.hid hk1
                have HB1 := Lib.hid hb1
                have HV1 := Lib.hid hV1
                have HM1 := Lib.hid (HM.out.keptO (Kept.of_below (O := fun _ => False) hb1) (by simp))
                have kS : (Instr.lookup 97 (.map (some n1)) (.string (g.un k)) false).run Try.prog V1 = .ok (.bool (anyK (fun i => decide (g.un i = g.un k)) k)) V1 :=
                  StrMap.look (val := Value.bool) HM1.out HUS.out HUB.out (HzB.out _) (zp := []) rfl boolR_inv hz2.1
                have DU := Lib.hid (fun (W : World) => checkUse_any (g.un k) (g.ur k) (g.uf k) (g.us k) (g.uw k) (anyK (fun i => decide (g.un i = g.un k)) k) W hz2.1 hz2.2)
                unfold useV at DU
                have hbv := (X.down HBU.out hswu (fun k hk => by omega)).trans (hb1.mono (Nat.le_trans hswu X.2.size))
                have HBV := Lib.hid hbv
                have hsv : w.heap.size ≤ V1.heap.size := hbv.size
                have HZ2 := Lib.hid hz2
                generalize chkUse (g.un k) (g.ur k) (anyK (fun i => decide (g.un i = g.un k)) k) (g.uf k) (g.us k) (g.uw k) = zk at DU HX2
                generalize anyK (fun i => decide (g.un i = g.un k)) k = tw at kS DU
                clear hx HX hl1 hV1 hb1 hs1 hk1 hbv HXE HM hz2
                by_cases hzk : zk = 0
                case neg =>
                  have n1' : (zk != 0) = true := by rw [bne_iff_ne]; exact hzk
                  rw [if_pos hzk] at HX2
                  clear hc hzk
                  go_upto_region 30 with (fail)
                  rw [HV1.out]
                  go_wp2_with fail
                  refine (DU.out _).mono ?_
                  rintro e w2 ⟨rfl, hb2⟩
                  have HBF := Lib.hid (HBV.out.trans (hb2.mono hsv))
                  clear hb2
                  go_wp2_with fail
                  go_ret
                  exact ⟨ret_int (by rw [← HZF.out, ← HX2.out]), HBF.out⟩
                case pos =>
                subst hzk
                rw [if_neg (by simp)] at HX2
                by_cases hk0 : 0 < k
                · obtain ⟨q, rfl⟩ : ∃ q, k = q + 1 := ⟨k - 1, by omega⟩
                  have g0 : decide ((0 : Int) < ((q + 1 : Nat) : Int)) = true := by rw [decide_eq_true_eq]; omega
                  have g0' : decide (0 < q + 1) = true := by simp
                  have p0 : X.1.cell? ⟨b, off + q * 5, none⟩ = some (.string (g.un q)) := hc q (by omega) 0 (by omega)
                  have p1 : X.1.cell? ⟨b, off + q * 5 + 1, none⟩ = some (.string (g.ur q)) := hc q (by omega) 1 (by omega)
                  have p2 : X.1.cell? ⟨b, off + q * 5 + 2, none⟩ = some (.int .i64 (g.uf q)) := hc q (by omega) 2 (by omega)
                  have p3 : X.1.cell? ⟨b, off + q * 5 + 3, none⟩ = some (.int .i64 (g.us q)) := hc q (by omega) 3 (by omega)
                  have p4 : X.1.cell? ⟨b, off + q * 5 + 4, none⟩ = some (.int .i64 (g.uw q)) := hc q (by omega) 4 (by omega)
                  have P0 := ExtO.ex (O := fun b => b = n1) hbn (below_cell HB1.out p0)
                  have P1 := ExtO.ex (O := fun b => b = n1) hbn (below_cell HB1.out p1)
                  have P2 := ExtO.ex (O := fun b => b = n1) hbn (below_cell HB1.out p2)
                  have P3 := ExtO.ex (O := fun b => b = n1) hbn (below_cell HB1.out p3)
                  have P4 := ExtO.ex (O := fun b => b = n1) hbn (below_cell HB1.out p4)
                  have DC := Lib.hid (fun (W : World) => useOrder_any (g.un q) (g.ur q) (g.un (q + 1)) (g.ur (q + 1)) (g.uf q) (g.us q) (g.uw q) (g.uf (q + 1)) (g.us (q + 1)) (g.uw (q + 1)) W)
                  have ho := ord_neg (g.uf q) (g.uf (q + 1)) (g.un q) (g.un (q + 1))
                  unfold useV at DC
                  rw [show befU g (q + 1 - 1) (q + 1) = befB (g.uf q) (g.uf (q + 1)) (g.un q) (g.un (q + 1)) from rfl] at HX2
                  generalize befB (g.uf q) (g.uf (q + 1)) (g.un q) (g.un (q + 1)) = bb at ho HX2
                  generalize ordI (g.uf q) (g.uf (q + 1)) (g.un q) (g.un (q + 1)) = oi at DC ho
                  clear hc p0 p1 p2 p3 p4 hk0
                  go_upto_region 30 with (fail)
                  rw [HV1.out]
                  go_wp2_with fail
                  refine (DU.out _).mono ?_
                  rintro e w2 ⟨rfl, hb2⟩
                  have HMY := Lib.hid (HM1.out.keptO (Kept.of_below (O := fun _ => False) hb2) (by simp))
                  obtain ⟨Y2, rfl⟩ : ∃ Y : ExtO (fun b => b = n1) V1, w2 = Y.1 := ⟨⟨w2, Kept.of_below hb2⟩, rfl⟩
                  clear hb2 kS HM1 l0 l1 l2 l3 l4
                  go_wp2_with (at_mapUpdate; refine wpList_update_str _ rfl (.tmp 125) (.tmp 127) (.const (.bool true)) 97 rfl 9 4 HUS.out HUB.out boolR (fun x : Bool => .lit (.bool x)) (.lit (.bool false)) n1 (q + 1) _ rfl HMY.out ?c1 (g.un (q + 1)) rfl ?c2 (.bool true) true rfl [] rfl ?_)
                  case c1 => unfold maxLen; omega
                  case c2 => exact HZ2.out.1
                  intro V3 hm1 hg1
                  have HM3 := Lib.hid (strMap_ext hm1 (anyK_step (fun s i => decide (g.un i = s)) (q + 1) (g.un (q + 1)) g.un (fun _ _ => rfl) rfl))
                  obtain ⟨Y3, hY3⟩ : ∃ Y : ExtO (fun b => b = n1) V1, V3 = Y.1 := ⟨⟨V3, Y2.2.grown hg1 (fun g hg _ => by injection hg with hg; exact hg.symm)⟩, rfl⟩
                  have HK3 : Hid (Kept (fun b => b = n1) V1 V3) := Lib.hid (hY3 ▸ Y3.2)
                  clear hm1 hg1 HMY
                  have E0 := Ext.ex (W := V3) (hY3 ▸ L0 Y3)
                  have E1 := Ext.ex (W := V3) (hY3 ▸ L1 Y3)
                  have E2 := Ext.ex (W := V3) (hY3 ▸ L2 Y3)
                  have E3 := Ext.ex (W := V3) (hY3 ▸ L3 Y3)
                  have E4 := Ext.ex (W := V3) (hY3 ▸ L4 Y3)
                  have F0 := Ext.ex (W := V3) (hY3 ▸ M0 Y3)
                  have F1 := Ext.ex (W := V3) (hY3 ▸ M1 Y3)
                  have F2 := Ext.ex (W := V3) (hY3 ▸ M2 Y3)
                  have F3 := Ext.ex (W := V3) (hY3 ▸ M3 Y3)
                  have Q0 := Ext.ex (W := V3) (hY3 ▸ P0 Y3)
                  have Q1 := Ext.ex (W := V3) (hY3 ▸ P1 Y3)
                  have Q2 := Ext.ex (W := V3) (hY3 ▸ P2 Y3)
                  have Q3 := Ext.ex (W := V3) (hY3 ▸ P3 Y3)
                  have Q4 := Ext.ex (W := V3) (hY3 ▸ P4 Y3)
                  clear P0 P1 P2 P3 P4
                  clear hY3 Y3 L0 L1 L2 L3 L4 M0 M1 M2 M3 Y2
                  cases bb
                  · rw [if_pos ⟨by omega, rfl⟩] at HX2
                    rw [Bool.not_false] at ho
                    go_wp2_with fail
                    refine ext_wp fun X1 => ?_
                    refine wp_region_ext (W := V3) _ (by kernel_rfl) (by kernel_rfl) ?_
                    repeat go_big_quiet_step ((go_at_call 53; exact Ext.calls _ (DC.out _)))
                    refine wpQuiet_nil ?_
                    intro _ hw'
                    obtain ⟨Z, rfl⟩ := hw'
                    go_wp2_with fail
                    go_ret
                    exact ⟨ret_int (by rw [← HZF.out, ← HX2.out]), (Kept.below HBV.out HK3.out hsv (fun k hk => by omega)).trans (Z.2.mono (Nat.le_trans hsv HK3.out.size))⟩
                  · rw [if_neg (fun h => absurd h.2 (by simp))] at HX2
                    rw [Bool.not_true] at ho
                    go_wp2_with fail
                    refine ext_wp fun X1 => ?_
                    refine wp_region_ext (W := V3) _ (by kernel_rfl) (by kernel_rfl) ?_
                    repeat go_big_quiet_step ((go_at_call 53; exact Ext.calls _ (DC.out _)))
                    refine wpQuiet_nil ?_
                    intro _ hw'
                    obtain ⟨Z, rfl⟩ := hw'
                    go_wp2_with fail
                    go_roundw
                    case rel => exact ⟨q + 1 + 1, by go_num, by omega, Lib.hid ⟨⟨_, (HK1.out.trans HK3.out).trans (Kept.of_below Z.2)⟩, rfl⟩, Lib.hid (HM3.out.keptO (Kept.of_below (O := fun _ => False) Z.2) (by simp)), HX2⟩
                    case measure => simp [intOf]; omega
                · obtain rfl : k = 0 := by omega
                  rw [if_neg (fun h => absurd h.1 (by omega))] at HX2
                  have g0 : decide ((0 : Int) < ((0 : Nat) : Int)) = false := by simp
                  have g0' : decide ((0 : Int) < (0 : Int)) = false := by simp
                  simp only [Nat.zero_mul, Nat.add_zero] at e0 e1 e2 e3 e4
                  clear hc hk0
                  go_upto_region 30 with (fail)
                  rw [HV1.out]
                  go_wp2_with fail
                  refine (DU.out _).mono ?_
                  rintro e w2 ⟨rfl, hb2⟩
                  have HMY := Lib.hid (HM1.out.keptO (Kept.of_below (O := fun _ => False) hb2) (by simp))
                  obtain ⟨Y2, rfl⟩ : ∃ Y : ExtO (fun b => b = n1) V1, w2 = Y.1 := ⟨⟨w2, Kept.of_below hb2⟩, rfl⟩
                  clear hb2 kS HM1 l0 l1 l2 l3 l4
                  go_wp2_with (at_mapUpdate; refine wpList_update_str _ rfl (.tmp 125) (.tmp 127) (.const (.bool true)) 97 rfl 9 4 HUS.out HUB.out boolR (fun x : Bool => .lit (.bool x)) (.lit (.bool false)) n1 0 _ rfl HMY.out ?c1 (g.un 0) rfl ?c2 (.bool true) true rfl [] rfl ?_)
                  case c1 => unfold maxLen; omega
                  case c2 => exact HZ2.out.1
                  intro V3 hm1 hg1
                  have HM3 := Lib.hid (strMap_ext hm1 (anyK_step (fun s i => decide (g.un i = s)) 0 (g.un 0) g.un (fun _ _ => rfl) rfl))
                  obtain ⟨Y3, hY3⟩ : ∃ Y : ExtO (fun b => b = n1) V1, V3 = Y.1 := ⟨⟨V3, Y2.2.grown hg1 (fun g hg _ => by injection hg with hg; exact hg.symm)⟩, rfl⟩
                  have HK3 : Hid (Kept (fun b => b = n1) V1 V3) := Lib.hid (hY3 ▸ Y3.2)
                  clear hm1 hg1 HMY
                  have E0 := Ext.ex (W := V3) (hY3 ▸ L0 Y3)
                  have E1 := Ext.ex (W := V3) (hY3 ▸ L1 Y3)
                  have E2 := Ext.ex (W := V3) (hY3 ▸ L2 Y3)
                  have E3 := Ext.ex (W := V3) (hY3 ▸ L3 Y3)
                  have E4 := Ext.ex (W := V3) (hY3 ▸ L4 Y3)
                  have F0 := Ext.ex (W := V3) (hY3 ▸ M0 Y3)
                  have F1 := Ext.ex (W := V3) (hY3 ▸ M1 Y3)
                  have F2 := Ext.ex (W := V3) (hY3 ▸ M2 Y3)
                  have F3 := Ext.ex (W := V3) (hY3 ▸ M3 Y3)
                  clear hY3 Y3 L0 L1 L2 L3 L4 M0 M1 M2 M3 Y2
                  go_wp2_with fail
                  refine ext_wp fun X1 => ?_
                  refine wp_region_ext (W := V3) _ (by kernel_rfl) (by kernel_rfl) ?_
                  repeat go_big_quiet_step (fail)
                  refine wpQuiet_nil ?_
                  intro _ hw'
                  obtain ⟨Z, rfl⟩ := hw'
                  go_wp2_with fail
                  go_roundw
                  case rel => exact ⟨0 + 1, by go_num, by omega, Lib.hid ⟨⟨_, (HK1.out.trans HK3.out).trans (Kept.of_below Z.2)⟩, rfl⟩, Lib.hid (HM3.out.keptO (Kept.of_below (O := fun _ => False) Z.2) (by simp)), HX2⟩
                  case measure => simp [intOf]; omega
              · have t1 : decide ((k : Int) < (g.nu : Int)) = false := by rw [decide_eq_false_iff_not]; omega
                have t1' : decide (k < g.nu) = false := by simpa using hlt
                have hx := HX.out
                rw [show g.nu - k = 0 by omega, chkU] at hx
                have HX2 := Lib.hid hx
                clear hx HX hlt HXE HM
                go_wp2_with fail
                go_ret
                exact ⟨ret_int (by rw [← HZF.out, ← HX2.out]), X.down HBU.out hswu (fun k hk => by omega)⟩
end Go.Proofs.Ytbkpoepacjinlaa
