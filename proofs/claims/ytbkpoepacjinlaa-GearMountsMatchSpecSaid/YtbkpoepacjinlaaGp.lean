/- Gear: the reference's look at the parts and slots (printed by wip/g/gen_parts.py). -/
import Derived.Test.YtbkpoepacjinlaaGh
import Derived.Test.YtbkpoepacjinlaaGt
import Derived.Test.YtbkpoepacjinlaaHl
namespace Go.Proofs.Ytbkpoepacjinlaa
open Go.RowKit Go.BigFrame
open Gar (chkP chkS)

set_option maxHeartbeats 4000000 in
set_option maxRecDepth 100000 in
theorem rcheckParts_any (g : Gar) (a0 a1 a2 a3 : Option Addr) (c0 c1 c2 c3 : Nat) (w : World) (h : GarIn w g a0 a1 a2 a3) :
    Calls Try.prog 54 #[garV g a0 a1 a2 a3 c0 c1 c2 c3] w fun e w' => e = .returned (.int .i64 (if chkP g g.np 0 ≠ 0 then chkP g g.np 0 else chkS g g.ns 0)) ∧ Below w.heap.size w w' := by
  have HG := Lib.hid h
  have hl0 := h.l0
  have hl1 := h.l1
  clear h
  unfold garV
  obtain ⟨z0, hz0⟩ : ∃ z, chkP g g.np 0 = z := ⟨_, rfl⟩
  obtain ⟨z1, hz1⟩ : ∃ z, chkS g g.ns 0 = z := ⟨_, rfl⟩
  obtain ⟨zz, hzz⟩ : ∃ zz, (if z0 ≠ 0 then z0 else z1) = zz := ⟨_, rfl⟩
  rw [hz0, hz1, hzz]
  have HZ0 := Lib.hid hz0
  have HZ1 := Lib.hid hz1
  have HZZ := Lib.hid hzz
  clear hz0 hz1 hzz
  go_enter Try.func54, Try.ntmps54
  go_wp2_with fail
  go_loopw [10] (fun iv wr => ∃ (k : Nat), iv = .int .i64 k ∧ k ≤ g.np ∧ Hid (Below w.heap.size w wr) ∧ wr.cell? ⟨w.heap.size, 0, none⟩ = some (.slice a0 g.np c0) ∧ wr.cell? ⟨w.heap.size, 1, none⟩ = some (.slice a1 g.ns c1) ∧ Hid (w.heap.size < wr.heap.size) ∧ Hid (chkP g (g.np - k) k = z0)) (fun iv _ => g.np - (intOf iv).toNat)
  case atStart => exact ⟨0, rfl, by omega, Lib.hid ((Below.refl _ _).alloc (Nat.le_refl _) _), by rw [World.cell?_alloc_at _ _ _ _ rfl]; rfl, by rw [World.cell?_alloc_at _ _ _ _ rfl]; rfl, Lib.hid (by simp), HZ0⟩
  case round =>
    obtain ⟨k, rfl, hk, HB, b0, b1, HS, HX⟩ := hrel
    have hs := HS.out
    by_cases hlt : k < g.np
    · have t1 : decide ((k : Int) < (g.np : Int)) = true := by rw [decide_eq_true_eq]; omega
      obtain ⟨b, off, rfl, hbl, hc⟩ := (HG.out.r0.below HB.out (Nat.le_refl _)).here (by omega)
      have e0 : wr.cell? ⟨b, off + k * 2, none⟩ = some (.string (g.pn k)) := hc k hlt 0 (by omega)
      have e1 : wr.cell? ⟨b, off + k * 2 + 1, none⟩ = some (.int .i64 (g.pc k)) := hc k hlt 1 (by omega)
      have hx := HX.out
      rw [show g.np - k = (g.np - k - 1) + 1 by omega, chkP] at hx
      have HX2 := Lib.hid hx
      have hsz := HB.out.size
      have DN := Lib.hid (fun W => risName_any (g.pn k) W (HG.out.z0 k hlt))
      clear hx HX
      cases hnm : nameB (g.pn k)
      · rw [hnm] at DN HX2
        rw [if_pos rfl] at HX2
        generalize g.pn k = s at e0 DN
        clear hnm hc
        go_wp2_with fail
        refine (DN.out _).mono ?_
        rintro e w2 ⟨rfl, rfl⟩
        go_wp2_with fail
        go_ret
        exact ⟨ret_int (by rw [← HZZ.out, ← HX2.out] <;> simp), HB.out.alloc hsz _⟩
      · rw [hnm] at DN HX2
        rw [if_neg (by simp)] at HX2

        by_cases hk0 : 0 < k
        · obtain ⟨q, rfl⟩ : ∃ q, k = q + 1 := ⟨k - 1, by omega⟩
          have p0 : wr.cell? ⟨b, off + q * 2, none⟩ = some (.string (g.pn q)) := hc q (by omega) 0 (by omega)
          have hle := str_le (g.pn (q + 1)) (g.pn q)
          rw [show q + 1 - 1 = q from rfl] at HX2
          have g0 : decide ((0 : Int) < ((q + 1 : Nat) : Int)) = true := by rw [decide_eq_true_eq]; omega
          have g0' : decide (0 < q + 1) = true := by simp
          generalize g.pn (q + 1) = s at e0 DN hle HX2
          generalize g.pn q = s' at p0 hle HX2
          generalize g.pc (q + 1) = c at e1 HX2 
          clear hnm hc hk0
          cases hlt2 : strLt s' s
          · rw [hlt2] at hle HX2
            rw [if_pos ⟨by omega, rfl⟩] at HX2
            clear hlt2
            go_wp2_with fail
            refine (DN.out _).mono ?_
            rintro e w2 ⟨rfl, rfl⟩
            go_wp2_with fail
            go_quiet (fail)
            go_wp2_with fail
            go_ret
            exact ⟨ret_int (by rw [← HZZ.out, ← HX2.out] <;> simp), below_drewN (HB.out.alloc hsz _) _⟩
          · rw [hlt2] at hle HX2
            rw [if_neg (by simp)] at HX2
            clear hlt2
            have D := Lib.hid (fun W => rout_any c 0 1000000000 W)
            cases hb : inB c 0 1000000000
            · rw [hb] at D
              rw [if_pos (by unfold inB at hb; simp at hb; omega)] at HX2
              clear hb
              go_wp2_with fail
              refine (DN.out _).mono ?_
              rintro e w2 ⟨rfl, rfl⟩
              go_wp2_with fail
              go_quiet (fail)
              go_wp2_with fail
              refine (D.out _).mono ?_
              rintro e w2 ⟨rfl, rfl⟩
              go_wp2_with fail
              go_ret
              exact ⟨ret_int (by rw [← HZZ.out, ← HX2.out] <;> simp), below_drewN (HB.out.alloc hsz _) _⟩
            · rw [hb] at D
              rw [if_neg (by unfold inB at hb; simp at hb; omega)] at HX2
              clear hb
              go_wp2_with fail
              refine (DN.out _).mono ?_
              rintro e w2 ⟨rfl, rfl⟩
              go_wp2_with fail
              go_quiet (fail)
              go_wp2_with fail
              refine (D.out _).mono ?_
              rintro e w2 ⟨rfl, rfl⟩
              go_wp2_with fail
              go_roundw
              case rel => exact ⟨q + 1 + 1, by go_num, by omega, Lib.hid (below_drewN (HB.out.alloc hsz _) _), below_cell (below_ad _ _ _) b0, below_cell (below_ad _ _ _) b1, Lib.hid (by simp; omega), HX2⟩
              case measure => simp [intOf]; omega
        · obtain rfl : k = 0 := by omega
          rw [if_neg (by omega)] at HX2
          have g0 : decide ((0 : Int) < ((0 : Nat) : Int)) = false := by simp
          have g0' : decide ((0 : Int) < (0 : Int)) = false := by simp
          simp only [Nat.zero_mul, Nat.add_zero] at e0 e1
          generalize g.pn 0 = s at e0 DN
          generalize g.pc 0 = c at e1 HX2 
          clear hnm hc hk0
          have D := Lib.hid (fun W => rout_any c 0 1000000000 W)
          cases hb : inB c 0 1000000000
          · rw [hb] at D
            rw [if_pos (by unfold inB at hb; simp at hb; omega)] at HX2
            clear hb
            go_wp2_with fail
            refine (DN.out _).mono ?_
            rintro e w2 ⟨rfl, rfl⟩
            go_wp2_with fail
            go_quiet (fail)
            go_wp2_with fail
            refine (D.out _).mono ?_
            rintro e w2 ⟨rfl, rfl⟩
            go_wp2_with fail
            go_ret
            exact ⟨ret_int (by rw [← HZZ.out, ← HX2.out] <;> simp), below_drewN (HB.out.alloc hsz _) _⟩
          · rw [hb] at D
            rw [if_neg (by unfold inB at hb; simp at hb; omega)] at HX2
            clear hb
            go_wp2_with fail
            refine (DN.out _).mono ?_
            rintro e w2 ⟨rfl, rfl⟩
            go_wp2_with fail
            go_quiet (fail)
            go_wp2_with fail
            refine (D.out _).mono ?_
            rintro e w2 ⟨rfl, rfl⟩
            go_wp2_with fail
            go_roundw
            case rel => exact ⟨0 + 1, by go_num, by omega, Lib.hid (below_drewN (HB.out.alloc hsz _) _), below_cell (below_ad _ _ _) b0, below_cell (below_ad _ _ _) b1, Lib.hid (by simp; omega), HX2⟩
            case measure => simp [intOf]; omega
    · have t1 : decide ((k : Int) < (g.np : Int)) = false := by rw [decide_eq_false_iff_not]; omega
      have t1' : decide (k < g.np) = false := by simpa using hlt
      have hx := HX.out
      rw [show g.np - k = 0 by omega, chkP] at hx
      have HX2 := Lib.hid hx
      clear hx hlt HX
      have HZ : Hid (z0 = 0) := Lib.hid HX2.out.symm
      clear HX2 HZ0
      go_wp2_with fail
      obtain ⟨wo, rfl⟩ : ∃ wo : World, wo = wr := ⟨_, rfl⟩
      have HBo := HB
      have HSo := HS
      clear HB HS hs
      go_loopw [40] (fun iv wr => ∃ (k : Nat), iv = .int .i64 k ∧ k ≤ g.ns ∧ Hid (Below w.heap.size w wr) ∧ wr.cell? ⟨w.heap.size, 0, none⟩ = some (.slice a0 g.np c0) ∧ wr.cell? ⟨w.heap.size, 1, none⟩ = some (.slice a1 g.ns c1) ∧ Hid (w.heap.size < wr.heap.size) ∧ Hid (chkS g (g.ns - k) k = z1)) (fun iv _ => g.ns - (intOf iv).toNat)
      case atStart => exact ⟨0, rfl, by omega, HBo, by assumption, by assumption, HSo, HZ1⟩
      case round =>
        obtain ⟨k, rfl, hk, HB, b0, b1, HS, HX⟩ := hrel
        have hs := HS.out
        by_cases hlt : k < g.ns
        · have t1 : decide ((k : Int) < (g.ns : Int)) = true := by rw [decide_eq_true_eq]; omega
          obtain ⟨b, off, rfl, hbl, hc⟩ := (HG.out.r1.below HB.out (Nat.le_refl _)).here (by omega)
          have e0 : wr.cell? ⟨b, off + k * 2, none⟩ = some (.string (g.sn k)) := hc k hlt 0 (by omega)
          have e1 : wr.cell? ⟨b, off + k * 2 + 1, none⟩ = some (.string (g.sr k)) := hc k hlt 1 (by omega)
          have hx := HX.out
          rw [show g.ns - k = (g.ns - k - 1) + 1 by omega, chkS] at hx
          have HX2 := Lib.hid hx
          have hsz := HB.out.size
          have DN := Lib.hid (fun W => risName_any (g.sn k) W ((HG.out.z1 k hlt).1))
          clear hx HX
          cases hnm : nameB (g.sn k)
          · rw [hnm] at DN HX2
            rw [if_pos rfl] at HX2
            generalize g.sn k = s at e0 DN
            clear hnm hc
            go_wp2_with fail
            refine (DN.out _).mono ?_
            rintro e w2 ⟨rfl, rfl⟩
            go_wp2_with fail
            go_ret
            exact ⟨ret_int (by rw [← HZZ.out, if_neg (fun h => h HZ.out), ← HX2.out] <;> simp), HB.out.alloc hsz _⟩
          · rw [hnm] at DN HX2
            rw [if_neg (by simp)] at HX2
            have hrs := (HG.out.z1 k hlt).2
            by_cases hk0 : 0 < k
            · obtain ⟨q, rfl⟩ : ∃ q, k = q + 1 := ⟨k - 1, by omega⟩
              have p0 : wr.cell? ⟨b, off + q * 2, none⟩ = some (.string (g.sn q)) := hc q (by omega) 0 (by omega)
              have hle := str_le (g.sn (q + 1)) (g.sn q)
              rw [show q + 1 - 1 = q from rfl] at HX2
              have g0 : decide ((0 : Int) < ((q + 1 : Nat) : Int)) = true := by rw [decide_eq_true_eq]; omega
              have g0' : decide (0 < q + 1) = true := by simp
              generalize g.sn (q + 1) = s at e0 DN hle HX2
              generalize g.sn q = s' at p0 hle HX2
              generalize g.sr (q + 1) = c at e1 HX2 hrs
              clear hnm hc hk0
              cases hlt2 : strLt s' s
              · rw [hlt2] at hle HX2
                rw [if_pos ⟨by omega, rfl⟩] at HX2
                clear hlt2
                go_wp2_with fail
                refine (DN.out _).mono ?_
                rintro e w2 ⟨rfl, rfl⟩
                go_wp2_with fail
                go_quiet (fail)
                go_wp2_with fail
                go_ret
                exact ⟨ret_int (by rw [← HZZ.out, if_neg (fun h => h HZ.out), ← HX2.out] <;> simp), below_drewN (HB.out.alloc hsz _) _⟩
              · rw [hlt2] at hle HX2
                rw [if_neg (by simp)] at HX2
                clear hlt2
                have D := Lib.hid (fun W => risName_any c W hrs)
                cases hb : nameB c
                · rw [hb] at D
                  rw [if_pos (hb)] at HX2
                  clear hb
                  go_wp2_with fail
                  refine (DN.out _).mono ?_
                  rintro e w2 ⟨rfl, rfl⟩
                  go_wp2_with fail
                  go_quiet (fail)
                  go_wp2_with fail
                  refine (D.out _).mono ?_
                  rintro e w2 ⟨rfl, rfl⟩
                  go_wp2_with fail
                  go_ret
                  exact ⟨ret_int (by rw [← HZZ.out, if_neg (fun h => h HZ.out), ← HX2.out] <;> simp), below_drewN (HB.out.alloc hsz _) _⟩
                · rw [hb] at D
                  rw [if_neg (by rw [hb]; simp)] at HX2
                  clear hb
                  go_wp2_with fail
                  refine (DN.out _).mono ?_
                  rintro e w2 ⟨rfl, rfl⟩
                  go_wp2_with fail
                  go_quiet (fail)
                  go_wp2_with fail
                  refine (D.out _).mono ?_
                  rintro e w2 ⟨rfl, rfl⟩
                  go_wp2_with fail
                  go_roundw
                  case rel => exact ⟨q + 1 + 1, by go_num, by omega, Lib.hid (below_drewN (HB.out.alloc hsz _) _), below_cell (below_ad _ _ _) b0, below_cell (below_ad _ _ _) b1, Lib.hid (by simp; omega), HX2⟩
                  case measure => simp [intOf]; omega
            · obtain rfl : k = 0 := by omega
              rw [if_neg (by omega)] at HX2
              have g0 : decide ((0 : Int) < ((0 : Nat) : Int)) = false := by simp
              have g0' : decide ((0 : Int) < (0 : Int)) = false := by simp
              simp only [Nat.zero_mul, Nat.add_zero] at e0 e1
              generalize g.sn 0 = s at e0 DN
              generalize g.sr 0 = c at e1 HX2 hrs
              clear hnm hc hk0
              have D := Lib.hid (fun W => risName_any c W hrs)
              cases hb : nameB c
              · rw [hb] at D
                rw [if_pos (hb)] at HX2
                clear hb
                go_wp2_with fail
                refine (DN.out _).mono ?_
                rintro e w2 ⟨rfl, rfl⟩
                go_wp2_with fail
                go_quiet (fail)
                go_wp2_with fail
                refine (D.out _).mono ?_
                rintro e w2 ⟨rfl, rfl⟩
                go_wp2_with fail
                go_ret
                exact ⟨ret_int (by rw [← HZZ.out, if_neg (fun h => h HZ.out), ← HX2.out] <;> simp), below_drewN (HB.out.alloc hsz _) _⟩
              · rw [hb] at D
                rw [if_neg (by rw [hb]; simp)] at HX2
                clear hb
                go_wp2_with fail
                refine (DN.out _).mono ?_
                rintro e w2 ⟨rfl, rfl⟩
                go_wp2_with fail
                go_quiet (fail)
                go_wp2_with fail
                refine (D.out _).mono ?_
                rintro e w2 ⟨rfl, rfl⟩
                go_wp2_with fail
                go_roundw
                case rel => exact ⟨0 + 1, by go_num, by omega, Lib.hid (below_drewN (HB.out.alloc hsz _) _), below_cell (below_ad _ _ _) b0, below_cell (below_ad _ _ _) b1, Lib.hid (by simp; omega), HX2⟩
                case measure => simp [intOf]; omega
        · have t1 : decide ((k : Int) < (g.ns : Int)) = false := by rw [decide_eq_false_iff_not]; omega
          have t1' : decide (k < g.ns) = false := by simpa using hlt
          have hx := HX.out
          rw [show g.ns - k = 0 by omega, chkS] at hx
          have HX2 := Lib.hid hx
          clear hx hlt HX
          go_wp2_with fail
          go_ret
          exact ⟨ret_int (by rw [← HZZ.out, if_neg (fun h => h HZ.out), ← HX2.out]), HB.out⟩
end Go.Proofs.Ytbkpoepacjinlaa
