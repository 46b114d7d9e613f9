/- Gear: Check of the reference (printed by wip/g/gen_rcheck.py). -/
import Derived.Test.YtbkpoepacjinlaaGr
namespace Go.Proofs.Ytbkpoepacjinlaa
open Go.RowKit Go.BigFrame
open Gar (momG endG chk chkP chkS chkM chkU chkUse anyOver befU)

def zP (g : Gar) : Int := if chkP g g.np 0 ≠ 0 then chkP g g.np 0 else chkS g g.ns 0
def zM (g : Gar) : Int := if chkM g g.nm 0 ≠ 0 then chkM g g.nm 0 else if anyOver g = true then 11 else 0
def bigG (g : Gar) : Prop := 500 < g.np ∨ 100 < g.ns ∨ 2000 < g.nm ∨ 5000 < g.nu
theorem chk_eq (g : Gar) : (bigG g → chk g = 3) ∧ (¬ bigG g → chk g = if zP g ≠ 0 then zP g else if zM g ≠ 0 then zM g else chkU g g.nu 0) := by
  unfold chk bigG zP zM
  refine ⟨fun h => by rw [if_pos h], fun h => ?_⟩
  rw [if_neg h]
  by_cases h1 : chkP g g.np 0 = 0
  · rw [h1]
    by_cases h2 : chkS g g.ns 0 = 0
    · rw [h2]
      by_cases h3 : chkM g g.nm 0 = 0
      · rw [h3]
        by_cases h4 : anyOver g = true
        · simp [h4]
        · simp [h4]
      · simp [h3]
    · simp [h2]
  · simp [h1]
set_option maxHeartbeats 8000000 in
set_option maxRecDepth 100000 in
theorem rCheck_any (g : Gar) (a0 a1 a2 a3 : Option Addr) (c0 c1 c2 c3 : Nat) (w : World) (h : GarIn w g a0 a1 a2 a3) (hc2 : g.nm ≤ c2) (hc3 : g.nu ≤ c3) :
    Calls Try.prog 16 #[garV g a0 a1 a2 a3 c0 c1 c2 c3] w fun e w' => e = .returned (.int .i64 (chk g)) ∧ Below w.heap.size w w' := by
  have HG := Lib.hid h
  have hl0 := h.l0
  have hl1 := h.l1
  have hl2 := h.l2
  have hl3 := h.l3
  clear h
  have DP0 := Lib.hid (fun (W : World) (hb : Below w.heap.size w W) => rcheckParts_any g a0 a1 a2 a3 c0 c1 c2 c3 W (HG.out.below hb))
  have DM0 := Lib.hid (fun (W : World) (hb : Below w.heap.size w W) => rcheckMounts_any g a0 a1 a2 a3 c0 c1 c2 c3 W (HG.out.below hb) hc2)
  rw [show (if chkP g g.np 0 ≠ 0 then chkP g g.np 0 else chkS g g.ns 0) = zP g from rfl] at DP0
  rw [show (if chkM g g.nm 0 ≠ 0 then chkM g g.nm 0 else if anyOver g = true then 11 else 0) = zM g from rfl] at DM0
  unfold garV at DP0 DM0 ⊢
  obtain ⟨hbig, hsmall⟩ := chk_eq g
  obtain ⟨z, hz⟩ : ∃ z, chk g = z := ⟨_, rfl⟩
  obtain ⟨zu, hzu⟩ : ∃ z, chkU g g.nu 0 = z := ⟨_, rfl⟩
  rw [hz]
  rw [hz] at hbig hsmall
  rw [hzu] at hsmall
  generalize zP g = zp at DP0 hsmall
  generalize zM g = zm at DM0 hsmall
  have HBIG := Lib.hid hbig
  have HSMALL := Lib.hid hsmall
  have HZU := Lib.hid hzu
  clear hz hbig hsmall hzu
  obtain ⟨W0, hW0, hb0, hs0, hl0'⟩ := alloc_cells w #[.slice a0 g.np c0, .slice a1 g.ns c1, .slice a2 g.nm c2, .slice a3 g.nu c3] 27
  have G0 := Ext.ex (hl0' 0 _ rfl)
  have G1 := Ext.ex (hl0' 1 _ rfl)
  have G2 := Ext.ex (hl0' 2 _ rfl)
  have G3 := Ext.ex (hl0' 3 _ rfl)
  have HW0 := Lib.hid hW0
  have HB0 := Lib.hid hb0
  have hs0' : w.heap.size ≤ W0.heap.size := by omega
  have DP := Lib.hid (fun (Y : Ext W0) => DP0.out Y.1 (Y.down HB0.out hs0'))
  have DM := Lib.hid (fun (Y : Ext W0) => DM0.out Y.1 (Y.down HB0.out hs0'))
  clear hl0' hW0 hb0 hs0 DP0 DM0
  by_cases hb : bigG g
  · have HZ := Lib.hid (HBIG.out hb)
    unfold bigG at hb
    have hw : 500 < g.np ∨ (¬ 500 < g.np ∧ 100 < g.ns) ∨ (¬ 500 < g.np ∧ ¬ 100 < g.ns ∧ 2000 < g.nm) ∨ (¬ 500 < g.np ∧ ¬ 100 < g.ns ∧ ¬ 2000 < g.nm ∧ 5000 < g.nu) := by omega
    clear hb
    rcases hw with q0 | ⟨q0, q1⟩ | ⟨q0, q1, q2⟩ | ⟨q0, q1, q2, q3⟩
    · have d0 : decide ((500 : Int) < (g.np : Int)) = true := by rw [decide_eq_true_eq]; omega
      have d0' : decide (500 < g.np) = true := by simpa using q0
      clear q0
      go_enter Try.func16, Try.ntmps16
      go_upto_region 1 with (fail)
      rw [HW0.out]
      refine ext_wp fun X => ?_
      go_wp2_with fail
      go_ret
      exact ⟨ret_int HZ.out.symm, X.down HB0.out hs0'⟩
    · have d0 : decide ((500 : Int) < (g.np : Int)) = false := by rw [decide_eq_false_iff_not]; omega
      have d0' : decide (500 < g.np) = false := by simpa using q0
      have d1 : decide ((100 : Int) < (g.ns : Int)) = true := by rw [decide_eq_true_eq]; omega
      have d1' : decide (100 < g.ns) = true := by simpa using q1
      clear q0 q1
      go_enter Try.func16, Try.ntmps16
      go_upto_region 1 with (fail)
      rw [HW0.out]
      refine ext_wp fun X => ?_
      go_wp2_with fail
      go_ret
      exact ⟨ret_int HZ.out.symm, X.down HB0.out hs0'⟩
    · have d0 : decide ((500 : Int) < (g.np : Int)) = false := by rw [decide_eq_false_iff_not]; omega
      have d0' : decide (500 < g.np) = false := by simpa using q0
      have d1 : decide ((100 : Int) < (g.ns : Int)) = false := by rw [decide_eq_false_iff_not]; omega
      have d1' : decide (100 < g.ns) = false := by simpa using q1
      have d2 : decide ((2000 : Int) < (g.nm : Int)) = true := by rw [decide_eq_true_eq]; omega
      have d2' : decide (2000 < g.nm) = true := by simpa using q2
      clear q0 q1 q2
      go_enter Try.func16, Try.ntmps16
      go_upto_region 1 with (fail)
      rw [HW0.out]
      refine ext_wp fun X => ?_
      go_wp2_with fail
      go_ret
      exact ⟨ret_int HZ.out.symm, X.down HB0.out hs0'⟩
    · have d0 : decide ((500 : Int) < (g.np : Int)) = false := by rw [decide_eq_false_iff_not]; omega
      have d0' : decide (500 < g.np) = false := by simpa using q0
      have d1 : decide ((100 : Int) < (g.ns : Int)) = false := by rw [decide_eq_false_iff_not]; omega
      have d1' : decide (100 < g.ns) = false := by simpa using q1
      have d2 : decide ((2000 : Int) < (g.nm : Int)) = false := by rw [decide_eq_false_iff_not]; omega
      have d2' : decide (2000 < g.nm) = false := by simpa using q2
      have d3 : decide ((5000 : Int) < (g.nu : Int)) = true := by rw [decide_eq_true_eq]; omega
      have d3' : decide (5000 < g.nu) = true := by simpa using q3
      clear q0 q1 q2 q3
      go_enter Try.func16, Try.ntmps16
      go_upto_region 1 with (fail)
      rw [HW0.out]
      refine ext_wp fun X => ?_
      go_wp2_with fail
      go_ret
      exact ⟨ret_int HZ.out.symm, X.down HB0.out hs0'⟩
  · have HZ := Lib.hid (HSMALL.out hb)
    unfold bigG at hb
    have q0 : ¬ 500 < g.np := by omega
    have q1 : ¬ 100 < g.ns := by omega
    have q2 : ¬ 2000 < g.nm := by omega
    have q3 : ¬ 5000 < g.nu := by omega
    have d0 : decide ((500 : Int) < (g.np : Int)) = false := by rw [decide_eq_false_iff_not]; omega
    have d1 : decide ((100 : Int) < (g.ns : Int)) = false := by rw [decide_eq_false_iff_not]; omega
    have d2 : decide ((2000 : Int) < (g.nm : Int)) = false := by rw [decide_eq_false_iff_not]; omega
    have d3 : decide ((5000 : Int) < (g.nu : Int)) = false := by rw [decide_eq_false_iff_not]; omega
    have d0' : decide (500 < g.np) = false := by simpa using q0
    have d1' : decide (100 < g.ns) = false := by simpa using q1
    have d2' : decide (2000 < g.nm) = false := by simpa using q2
    have d3' : decide (5000 < g.nu) = false := by simpa using q3
    clear hb HBIG HSMALL q0 q1 q2 q3
    by_cases hzp : zp = 0
    case neg =>
      have n1 : (zp != 0) = true := by rw [bne_iff_ne]; exact hzp
      have HZ2 : Hid (z = zp) := Lib.hid (by rw [HZ.out, if_pos hzp])
      clear HZ hzp
      go_enter Try.func16, Try.ntmps16
      go_upto_region 1 with (fail)
      rw [HW0.out]
      refine ext_wp fun X => ?_
      go_wp2_with fail
      refine (Ext.calls _ (DP.out _)).mono ?_
      rintro e w2 ⟨rfl, Y, rfl⟩
      go_wp2_with fail
      go_ret
      exact ⟨ret_int HZ2.out.symm, Y.down HB0.out hs0'⟩
    case pos =>
    subst hzp
    by_cases hzm : zm = 0
    case neg =>
      have n1 : (zm != 0) = true := by rw [bne_iff_ne]; exact hzm
      have HZ2 : Hid (z = zm) := Lib.hid (by rw [HZ.out, if_neg (by simp), if_pos hzm])
      clear HZ hzm
      go_enter Try.func16, Try.ntmps16
      go_upto_region 1 with (fail)
      rw [HW0.out]
      refine ext_wp fun X => ?_
      go_wp2_with fail
      refine (Ext.calls _ (DP.out _)).mono ?_
      rintro e w2 ⟨rfl, Y, rfl⟩
      go_wp2_with fail
      refine (Ext.calls _ (DM.out _)).mono ?_
      rintro e w2 ⟨rfl, Y, rfl⟩
      go_wp2_with fail
      go_ret
      exact ⟨ret_int HZ2.out.symm, Y.down HB0.out hs0'⟩
    case pos =>
    subst hzm
    have HZ2 : Hid (zu = z) := Lib.hid (by rw [HZ.out, if_neg (by simp), if_neg (by simp)])
    clear HZ
    go_enter Try.func16, Try.ntmps16
    go_upto_region 1 with (fail)
    rw [HW0.out]
    refine ext_wp fun X => ?_
    go_wp2_with fail
    refine (Ext.calls _ (DP.out _)).mono ?_
    rintro e w2 ⟨rfl, Y, rfl⟩
    go_wp2_with fail
    refine (Ext.calls _ (DM.out _)).mono ?_
    rintro e w2 ⟨rfl, Y2, rfl⟩
    go_wp2_with fail
    go_loopw [43] (fun iv wr => ∃ (k : Nat), iv = .int .i64 k ∧ k ≤ g.nu ∧ (∃ X : Ext W0, wr = X.1) ∧ Hid (chkU g (g.nu - k) k = zu)) (fun iv _ => g.nu - (intOf iv).toNat)
    case atStart => exact ⟨0, rfl, by omega, ⟨Y2, rfl⟩, HZU⟩
    case round =>
      obtain ⟨k, rfl, hk, ⟨X, rfl⟩, HX⟩ := hrel
      by_cases hlt : k < g.nu
      · have t1 : decide ((k : Int) < (g.nu : Int)) = true := by rw [decide_eq_true_eq]; omega
        have t1' : decide (k < g.nu) = true := by simpa using hlt
        obtain ⟨b, off, rfl, hbl, hc⟩ := (HG.out.r3.below (X.down HB0.out hs0') (Nat.le_refl _)).here (by omega)
        have e0 : X.1.cell? ⟨b, off + k * 5, none⟩ = some (.string (g.un k)) := hc k hlt 0 (by omega)
        have e1 : X.1.cell? ⟨b, off + k * 5 + 1, none⟩ = some (.string (g.ur k)) := hc k hlt 1 (by omega)
        have e2 : X.1.cell? ⟨b, off + k * 5 + 2, none⟩ = some (.int .i64 (g.uf k)) := hc k hlt 2 (by omega)
        have e3 : X.1.cell? ⟨b, off + k * 5 + 3, none⟩ = some (.int .i64 (g.us k)) := hc k hlt 3 (by omega)
        have e4 : X.1.cell? ⟨b, off + k * 5 + 4, none⟩ = some (.int .i64 (g.uw k)) := hc k hlt 4 (by omega)
        have hx := HX.out
        rw [show g.nu - k = (g.nu - k - 1) + 1 by omega, chkU] at hx
        rw [show ((List.range k).any fun i => decide (g.un i = g.un k)) = anyK (fun i => decide (g.un i = g.un k)) k from rfl] at hx
        have HX2 := Lib.hid hx
        obtain ⟨W1, hW1, hb1, hs1, hl1⟩ := alloc_cells X.1 #[.string (g.un k), .string (g.ur k), .int .i64 (g.uf k), .int .i64 (g.us k), .int .i64 (g.uw k)] 38
        have L0 := Ext.ex (hl1 0 _ rfl)
        have L1 := Ext.ex (hl1 1 _ rfl)
        have L2 := Ext.ex (hl1 2 _ rfl)
        have L3 := Ext.ex (hl1 3 _ rfl)
        have L4 := Ext.ex (hl1 4 _ rfl)
        have hb01 := below_step X.2 hb1
        have M0 := Ext.re hb01 G0
        have M1 := Ext.re hb01 G1
        have M2 := Ext.re hb01 G2
        have M3 := Ext.re hb01 G3
        have HB01 := Lib.hid hb01
        have hbw := HB0.out.trans (hb01.mono hs0')
        have hsw : w.heap.size ≤ W1.heap.size := hbw.size
        have HBW := Lib.hid hbw
        have HB1 := Lib.hid hb1
        have HW1 := Lib.hid hW1
        have DU := Lib.hid (fun (Y : Ext W1) => rcheckUse_any g (some ⟨b, off, none⟩) k c3 (g.un k) (g.ur k) (g.uf k) (g.us k) (g.uw k) Y.1 (HG.out.z3 k hlt).1 (HG.out.z3 k hlt).2 hk hl3 (HG.out.r3.below (Y.down HBW.out hsw) (Nat.le_refl _)))
        have hkc : (k : Int) ≤ (c3 : Int) := by omega
        have hkc' : k ≤ c3 := by omega
        unfold useV at DU
        generalize chkUse (g.un k) (g.ur k) (anyK (fun i => decide (g.un i = g.un k)) k) (g.uf k) (g.us k) (g.uw k) = zk at DU HX2
        clear hx HX hl1 hW1 hb1 hs1 hb01 hbw
        by_cases hzk : zk = 0
        case neg =>
          have n1 : (zk != 0) = true := by rw [bne_iff_ne]; exact hzk
          rw [if_pos hzk] at HX2
          clear hc hzk
          go_upto_region 12 with (fail)
          rw [HW1.out]
          refine ext_wp fun X1 => ?_
          refine wp_region_ext (W := W1) _ (by kernel_rfl) (by kernel_rfl) ?_
          repeat go_big_quiet_step ((go_at_call 56; exact Ext.calls _ (DU.out _)))
          refine wpQuiet_nil ?_
          intro _ hw'
          obtain ⟨Y, rfl⟩ := hw'

          go_wp2_with fail
          go_ret
          exact ⟨ret_int (by rw [← HZ2.out, ← HX2.out]), Y.down HBW.out hsw⟩
        case pos =>
        subst hzk
        rw [if_neg (by simp)] at HX2
        by_cases hk0 : 0 < k
        · obtain ⟨q, rfl⟩ : ∃ q, k = q + 1 := ⟨k - 1, by omega⟩
          have g0 : decide ((0 : Int) < ((q + 1 : Nat) : Int)) = true := by rw [decide_eq_true_eq]; omega
          have g0' : decide (0 < q + 1) = true := by simp
          have p0 : X.1.cell? ⟨b, off + q * 5, none⟩ = some (.string (g.un q)) := hc q (by omega) 0 (by omega)
          have p1 : X.1.cell? ⟨b, off + q * 5 + 1, none⟩ = some (.string (g.ur q)) := hc q (by omega) 1 (by omega)
          have p2 : X.1.cell? ⟨b, off + q * 5 + 2, none⟩ = some (.int .i64 (g.uf q)) := hc q (by omega) 2 (by omega)
          have p3 : X.1.cell? ⟨b, off + q * 5 + 3, none⟩ = some (.int .i64 (g.us q)) := hc q (by omega) 3 (by omega)
          have p4 : X.1.cell? ⟨b, off + q * 5 + 4, none⟩ = some (.int .i64 (g.uw q)) := hc q (by omega) 4 (by omega)
          have P0 := Ext.ex (below_cell HB1.out p0)
          have P1 := Ext.ex (below_cell HB1.out p1)
          have P2 := Ext.ex (below_cell HB1.out p2)
          have P3 := Ext.ex (below_cell HB1.out p3)
          have P4 := Ext.ex (below_cell HB1.out p4)
          have DC := Lib.hid (fun (Y : Ext W1) => first_any (g.un q) (g.ur q) (g.un (q + 1)) (g.ur (q + 1)) (g.uf q) (g.us q) (g.uw q) (g.uf (q + 1)) (g.us (q + 1)) (g.uw (q + 1)) Y.1)
          unfold useV at DC
          rw [show befU g (q + 1 - 1) (q + 1) = befB (g.uf q) (g.uf (q + 1)) (g.un q) (g.un (q + 1)) from rfl] at HX2
          generalize befB (g.uf q) (g.uf (q + 1)) (g.un q) (g.un (q + 1)) = bb at DC HX2
          clear hc p0 p1 p2 p3 p4 hk0
          cases bb
          · rw [if_pos ⟨by omega, rfl⟩] at HX2
            go_upto_region 12 with (fail)
            rw [HW1.out]
            refine ext_wp fun X1 => ?_
            refine wp_region_ext (W := W1) _ (by kernel_rfl) (by kernel_rfl) ?_
            repeat go_big_quiet_step ((go_at_call 56; exact Ext.calls _ (DU.out _)))
            refine wpQuiet_nil ?_
            intro _ hw'
            obtain ⟨Y, rfl⟩ := hw'

            go_wp2_with fail
            refine wp_region_ext (W := W1) _ (by kernel_rfl) (by kernel_rfl) ?_
            repeat go_big_quiet_step ((go_at_call 57; exact Ext.calls _ (DC.out _)))
            refine wpQuiet_nil ?_
            intro _ hw'
            obtain ⟨Y2, rfl⟩ := hw'

            go_wp2_with fail
            go_ret
            exact ⟨ret_int (by rw [← HZ2.out, ← HX2.out]), Y2.down HBW.out hsw⟩
          · rw [if_neg (fun h => absurd h.2 (by simp))] at HX2
            go_upto_region 12 with (fail)
            rw [HW1.out]
            refine ext_wp fun X1 => ?_
            refine wp_region_ext (W := W1) _ (by kernel_rfl) (by kernel_rfl) ?_
            repeat go_big_quiet_step ((go_at_call 56; exact Ext.calls _ (DU.out _)))
            refine wpQuiet_nil ?_
            intro _ hw'
            obtain ⟨Y, rfl⟩ := hw'

            go_wp2_with fail
            refine wp_region_ext (W := W1) _ (by kernel_rfl) (by kernel_rfl) ?_
            repeat go_big_quiet_step ((go_at_call 57; exact Ext.calls _ (DC.out _)))
            refine wpQuiet_nil ?_
            intro _ hw'
            obtain ⟨Y2, rfl⟩ := hw'

            go_wp2_with fail
            go_roundw
            case rel => exact ⟨q + 1 + 1, by go_num, by omega, ⟨⟨_, below_step HB01.out Y2.2⟩, rfl⟩, HX2⟩
            case measure => simp [intOf]; omega
        · obtain rfl : k = 0 := by omega
          rw [if_neg (fun h => absurd h.1 (by omega))] at HX2
          have g0 : decide ((0 : Int) < ((0 : Nat) : Int)) = false := by simp
          have g0' : decide ((0 : Int) < (0 : Int)) = false := by simp
          simp only [Nat.zero_mul, Nat.add_zero] at e0 e1 e2 e3 e4
          clear hc hk0
          go_upto_region 12 with (fail)
          rw [HW1.out]
          refine ext_wp fun X1 => ?_
          refine wp_region_ext (W := W1) _ (by kernel_rfl) (by kernel_rfl) ?_
          repeat go_big_quiet_step ((go_at_call 56; exact Ext.calls _ (DU.out _)))
          refine wpQuiet_nil ?_
          intro _ hw'
          obtain ⟨Y, rfl⟩ := hw'

          go_wp2_with fail
          refine wp_region_ext (W := W1) _ (by kernel_rfl) (by kernel_rfl) ?_
          repeat go_big_quiet_step (fail)
          refine wpQuiet_nil ?_
          intro _ hw'
          obtain ⟨Y2, rfl⟩ := hw'

          go_wp2_with fail
          go_roundw
          case rel => exact ⟨0 + 1, by go_num, by omega, ⟨⟨_, below_step HB01.out Y2.2⟩, rfl⟩, HX2⟩
          case measure => simp [intOf]; omega
      · have t1 : decide ((k : Int) < (g.nu : Int)) = false := by rw [decide_eq_false_iff_not]; omega
        have t1' : decide (k < g.nu) = false := by simpa using hlt
        have hx := HX.out
        rw [show g.nu - k = 0 by omega, chkU] at hx
        have HX2 := Lib.hid hx
        clear hx HX hlt
        go_wp2_with fail
        go_ret
        exact ⟨ret_int (by rw [← HZ2.out, ← HX2.out]), X.down HB0.out hs0'⟩
end Go.Proofs.Ytbkpoepacjinlaa
