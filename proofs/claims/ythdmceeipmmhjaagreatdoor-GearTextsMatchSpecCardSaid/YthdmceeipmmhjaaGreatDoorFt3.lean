/- Several texts of this claim in one. -/
import Derived.Test.YthdmceeipmmhjaaGreatDoorFt2
import Derived.Test.YthdmceeipmmhjaaGreatDoorProg
import Derived.WalkKit
import Derived.Maps.OwnSet
import Derived.Maps.OwnOps
import Derived.StringKeys
import Derived.WideKeyEntry
import Derived.OneCell
import Derived.Deep.AppendLies
import Derived.Test.YthdmceeipmmhjaaGreatDoorFt1
import Derived.OwnWalk
import Derived.Maps.AppendAt
import Derived.BigRegion
import Derived.Deep.QuietTactic
import Derived.BigQuiet
import Derived.Lib.Small
/- Gear: a use is checked among others (reference; printed by wip/g/gen_ruse.py). -/
namespace Go.Proofs.YthdmceeipmmhjaaGreatDoor
open Go.RowKit Go.BigFrame
open Gar (momG endG chkUse)

/-- is there one among the first k? -/
def anyK (p : Nat → Bool) (k : Nat) : Bool := (List.range k).any p
theorem anyK_none {p : Nat → Bool} : ∀ {k : Nat}, (∀ i, i < k → p i = false) → anyK p k = false
  | k, h => by
    unfold anyK
    rw [List.any_eq_false]
    intro i hi
    rw [h i (List.mem_range.1 hi)]
    simp
theorem anyK_some {p : Nat → Bool} {k i : Nat} (hi : i < k) (h : p i = true) : anyK p k = true := by
  unfold anyK
  rw [List.any_eq_true]
  exact ⟨i, List.mem_range.2 hi, h⟩
theorem not_inB (n lo hi : Int) : (!inB n lo hi) = !inB n lo hi := rfl
set_option maxHeartbeats 4000000 in
set_option maxRecDepth 100000 in
theorem rcheckUse_any (g : Gar) (a3 : Option Addr) (k c : Nat) (n r : ByteArray) (f s x : Int) (w : World) (hn : n.size ≤ maxLen) (hr : r.size ≤ maxLen) (hk : k ≤ g.nu) (hl : (g.nu : Int) ≤ 9223372036854775807)
    (hrow : RowK w a3 g.nu 5 (fun i => [.string (g.un i), .string (g.ur i), .int .i64 (g.uf i), .int .i64 (g.us i), .int .i64 (g.uw i)])) :
    Calls Tryz.prog 39 #[useV n r f s x, .slice a3 k c] w fun e w' => e = .returned (.int .i64 (chkUse n r (anyK (fun i => decide (g.un i = n)) k) f s x)) ∧ Below w.heap.size w w' := by
  have D1 := Lib.hid (fun W => risName_any n W hn)
  have D2 := Lib.hid (fun W => risName_any r W hr)
  have D3 := Lib.hid (fun W => rmoment_any f W)
  have D4 := Lib.hid (fun W => rout_any s 1 1000000 W)
  have D5 := Lib.hid (fun W => rout_any x 0 1000000000 W)
  have HR := Lib.hid hrow
  have hv : chkUse n r (anyK (fun i => decide (g.un i = n)) k) f s x = if (nameB n && nameB r) = false then 8 else if anyK (fun i => decide (g.un i = n)) k = true then 5 else if (momG f && inB s 1 1000000 && inB x 0 1000000000) = false then 9 else 0 := by
    unfold chkUse inB
    simp only [Bool.and_assoc]
  obtain ⟨z, hz⟩ : ∃ z, chkUse n r (anyK (fun i => decide (g.un i = n)) k) f s x = z := ⟨_, rfl⟩
  rw [hz]
  rw [hv] at hz
  have HZ := Lib.hid hz
  clear hv hn hr hz hrow
  unfold useV
  generalize nameB n = b1 at D1 HZ
  generalize nameB r = b2 at D2 HZ
  generalize momG f = b3 at D3 HZ
  generalize inB s 1 1000000 = b4 at D4 HZ
  generalize inB x 0 1000000000 = b5 at D5 HZ
  obtain ⟨W0, hW0, hb0, hz0, hl0⟩ := alloc_cells w #[.string n, .string r, .int .i64 f, .int .i64 s, .int .i64 x] 54
  have l0 := Ext.ex (hl0 0 _ rfl)
  have l0a := Ext.exa l0
  have l1 := Ext.ex (hl0 1 _ rfl)
  have l2 := Ext.ex (hl0 2 _ rfl)
  have l3 := Ext.ex (hl0 3 _ rfl)
  have l4 := Ext.ex (hl0 4 _ rfl)
  have HW0 := Lib.hid hW0
  have HB0 := Lib.hid hb0
  have hz0' : w.heap.size ≤ W0.heap.size := by omega
  have HZ0 := Lib.hid hz0
  clear hl0 hW0 hb0 hz0
  cases b1
  · go_enter Tryz.func39, Tryz.ntmps39
    go_wp2_with fail
    rw [HW0.out]
    refine ext_calls fun X => ?_
    refine (D1.out _).mono ?_
    rintro e w1 ⟨rfl, rfl⟩
    go_wp2_with fail
    go_ret
    exact ⟨ret_int (by rw [← HZ.out]; rfl), X.down HB0.out hz0'⟩
  cases b2
  · go_enter Tryz.func39, Tryz.ntmps39
    go_wp2_with fail
    rw [HW0.out]
    refine ext_calls fun X => ?_
    refine (D1.out _).mono ?_
    rintro e w1 ⟨rfl, rfl⟩
    go_wp2_with fail
    refine (D2.out _).mono ?_
    rintro e w1 ⟨rfl, rfl⟩
    go_wp2_with fail
    go_ret
    exact ⟨ret_int (by rw [← HZ.out]; rfl), X.down HB0.out hz0'⟩
  go_enter Tryz.func39, Tryz.ntmps39
  go_wp2_with fail
  rw [HW0.out]
  refine ext_calls fun X => ?_
  refine (D1.out _).mono ?_
  rintro e w1 ⟨rfl, rfl⟩
  go_wp2_with fail
  refine (D2.out _).mono ?_
  rintro e w1 ⟨rfl, rfl⟩
  go_wp2_with fail
  go_loopw [19] (fun iv wr => ∃ (j : Nat), iv = .int .i64 j ∧ j ≤ k ∧ (∃ X : Ext W0, wr = X.1) ∧ Hid (∀ i, i < j → decide (g.un i = n) = false)) (fun iv _ => k - (intOf iv).toNat)
  case atStart => exact ⟨0, rfl, by omega, ⟨X, rfl⟩, Lib.hid (fun i hi => by omega)⟩
  case round =>
    obtain ⟨j, rfl, hj, ⟨X, rfl⟩, HN⟩ := hrel
    by_cases hlt : j < k
    · have t1 : decide ((j : Int) < (k : Int)) = true := by rw [decide_eq_true_eq]; omega
      have t1' : decide (j < k) = true := by simpa using hlt
      obtain ⟨b, off, rfl, hbl, hc⟩ := (HR.out.below (X.down HB0.out hz0') (Nat.le_refl _)).here (by omega)
      have e0 : X.1.cell? ⟨b, off + j * 5, none⟩ = some (.string (g.un j)) := hc j (by omega) 0 (by omega)
      have e1 : X.1.cell? ⟨b, off + j * 5 + 1, none⟩ = some (.string (g.ur j)) := hc j (by omega) 1 (by omega)
      have e2 : X.1.cell? ⟨b, off + j * 5 + 2, none⟩ = some (.int .i64 (g.uf j)) := hc j (by omega) 2 (by omega)
      have e3 : X.1.cell? ⟨b, off + j * 5 + 3, none⟩ = some (.int .i64 (g.us j)) := hc j (by omega) 3 (by omega)
      have e4 : X.1.cell? ⟨b, off + j * 5 + 4, none⟩ = some (.int .i64 (g.uw j)) := hc j (by omega) 4 (by omega)
      have hse := str_eq n (g.un j)
      cases he : decide (n = g.un j)
      · rw [he] at hse
        have HN2 : Hid (∀ i, i < j + 1 → decide (g.un i = n) = false) := Lib.hid (fun i hi => by
          by_cases e : i = j
          · subst e
            rw [decide_eq_false_iff_not] at he ⊢
            exact fun h => he h.symm
          · exact HN.out i (by omega))
        generalize g.un j = q0 at e0 hse
        generalize g.ur j = q1 at e1
        generalize g.uf j = q2 at e2
        generalize g.us j = q3 at e3
        generalize g.uw j = q4 at e4
        clear hc he HN
        go_wp2_with fail
        go_roundw
        case rel => exact ⟨j + 1, by go_num, by omega, ⟨⟨_, below_step X.2 (below_al _ _)⟩, rfl⟩, HN2⟩
        case measure => simp [intOf]; omega
      · rw [he] at hse
        have HA := Lib.hid (anyK_some (p := fun i => decide (g.un i = n)) hlt (by rw [decide_eq_true_eq] at he ⊢; exact he.symm))
        generalize g.un j = q0 at e0 hse
        generalize g.ur j = q1 at e1
        generalize g.uf j = q2 at e2
        generalize g.us j = q3 at e3
        generalize g.uw j = q4 at e4
        clear hc he HN
        go_wp2_with fail
        go_ret
        exact ⟨ret_int (by rw [← HZ.out, HA.out]; rfl), (X.down HB0.out hz0').trans ((below_al _ _).mono (Nat.le_trans hz0' X.2.size))⟩
    · have t1 : decide ((j : Int) < (k : Int)) = false := by rw [decide_eq_false_iff_not]; omega
      have t1' : decide (j < k) = false := by simpa using hlt
      have HA := Lib.hid (anyK_none (p := fun i => decide (g.un i = n)) (k := k) (fun i hi => HN.out i (by omega)))
      clear HN hlt
      generalize anyK (fun i => decide (g.un i = n)) k = tw at HA HZ
      obtain rfl : tw = false := HA.out
      cases b3
      · go_wp2_with fail
        refine (D3.out _).mono ?_
        rintro e w1 ⟨rfl, rfl⟩
        go_wp2_with fail
        go_ret
        exact ⟨ret_int (by rw [← HZ.out]; rfl), X.down HB0.out hz0'⟩
      cases b4
      · go_wp2_with fail
        refine (D3.out _).mono ?_
        rintro e w1 ⟨rfl, rfl⟩
        go_wp2_with fail
        refine (D4.out _).mono ?_
        rintro e w1 ⟨rfl, rfl⟩
        go_wp2_with fail
        go_ret
        exact ⟨ret_int (by rw [← HZ.out]; rfl), X.down HB0.out hz0'⟩
      cases b5
      all_goals
        go_wp2_with fail
        refine (D3.out _).mono ?_
        rintro e w1 ⟨rfl, rfl⟩
        go_wp2_with fail
        refine (D4.out _).mono ?_
        rintro e w1 ⟨rfl, rfl⟩
        go_wp2_with fail
        refine (D5.out _).mono ?_
        rintro e w1 ⟨rfl, rfl⟩
        go_wp2_with fail
        go_ret
        exact ⟨ret_int (by rw [← HZ.out]; rfl), X.down HB0.out hz0'⟩
end Go.Proofs.YthdmceeipmmhjaaGreatDoor

/- Gear: the mounts are checked (reference; printed by wip/g/gen_rmounts.py). -/
namespace Go.Proofs.YthdmceeipmmhjaaGreatDoor
open Go.RowKit Go.BigFrame
open Gar (momG endG chkM hasS hasP anyOver overB befM)

theorem idxF_neg (p : Nat → Bool) : ∀ (n k : Nat), decide (idxF p n k < 0) = !(List.range' k n).any p
  | 0, k => by simp [idxF]
  | n + 1, k => by
    rw [idxF, List.range'_succ, List.any_cons]
    cases h : p k
    · simpa using idxF_neg p n (k + 1)
    · simp
theorem hasS_idx (g : Gar) (s : ByteArray) : decide (idxF (fun i => decide (g.sn i = s)) g.ns 0 < 0) = !hasS g s := by
  rw [idxF_neg, hasS, List.range_eq_range']
theorem hasP_idx (g : Gar) (s : ByteArray) : decide (idxF (fun i => decide (g.pn i = s)) g.np 0 < 0) = !hasP g s := by
  rw [idxF_neg, hasP, List.range_eq_range']
/-- the third look of chkM, as the reference asks it -/
theorem ord_test {f t : Int} {b : Bool} (h : momG f = true) (h2 : (decide (t = -1) || momG t) = true) (h3 : decide (endG t ≤ f) = b) : (t ≠ -1 ∧ t ≤ f) ↔ b = true := by
  subst h3
  unfold momG at h h2
  simp at h h2
  unfold endG
  simp only [decide_eq_true_eq]
  split <;> omega
theorem over_sym (g : Gar) (i k : Nat) : overM (g.ms k) (g.mp k) (g.ms i) (g.mp i) (g.mf k) (g.mt k) (g.mf i) (g.mt i) = overB g i k := by
  unfold overM overB
  rw [Int.max_comm, Int.min_comm, show decide (g.ms k = g.ms i) = decide (g.ms i = g.ms k) from decide_eq_decide.2 eq_comm, show decide (g.mp k = g.mp i) = decide (g.mp i = g.mp k) from decide_eq_decide.2 eq_comm]
set_option maxHeartbeats 8000000 in
set_option maxRecDepth 100000 in
theorem rcheckMounts_any (g : Gar) (a0 a1 a2 a3 : Option Addr) (c0 c1 c2 c3 : Nat) (w : World) (h : GarIn w g a0 a1 a2 a3) (hc2 : g.nm ≤ c2) :
    Calls Tryz.prog 38 #[garV g a0 a1 a2 a3 c0 c1 c2 c3] w fun e w' => e = .returned (.int .i64 (if chkM g g.nm 0 ≠ 0 then chkM g g.nm 0 else if anyOver g = true then 11 else 0)) ∧ Below w.heap.size w w' := by
  have HG := Lib.hid h
  have hl2 := h.l2
  clear h
  have DS0 := Lib.hid (fun (W : World) (s : ByteArray) (hb : Below w.heap.size w W) => slotAt_any g a0 a1 a2 a3 c0 c1 c2 c3 s W (HG.out.below hb))
  have DP0 := Lib.hid (fun (W : World) (s : ByteArray) (hb : Below w.heap.size w W) => partAt_any g a0 a1 a2 a3 c0 c1 c2 c3 s W (HG.out.below hb))
  unfold garV at DS0 DP0 ⊢
  obtain ⟨z0, hz0⟩ : ∃ z, chkM g g.nm 0 = z := ⟨_, rfl⟩
  obtain ⟨zz, hzz⟩ : ∃ zz, (if z0 ≠ 0 then z0 else if anyOver g = true then 11 else 0) = zz := ⟨_, rfl⟩
  rw [hz0, hzz]
  have HZ0 := Lib.hid hz0
  have HZZ := Lib.hid hzz
  clear hz0 hzz
  obtain ⟨W0, hW0, hb0, hs0, hl0⟩ := alloc_cells w #[.slice a0 g.np c0, .slice a1 g.ns c1, .slice a2 g.nm c2, .slice a3 g.nu c3] 27
  have G0 := Ext.ex (hl0 0 _ rfl)
  have G1 := Ext.ex (hl0 1 _ rfl)
  have G2 := Ext.ex (hl0 2 _ rfl)
  have G3 := Ext.ex (hl0 3 _ rfl)
  have HW0 := Lib.hid hW0
  have HB0 := Lib.hid hb0
  have hs0' : w.heap.size ≤ W0.heap.size := by omega
  clear hl0 hW0 hb0 hs0
  go_enter Tryz.func38, Tryz.ntmps38
  go_upto_region 1 with (fail)
  rw [HW0.out]
  refine ext_wp fun X => ?_
  go_wp2_with fail
  go_loopw [12] (fun iv wr => ∃ (k : Nat), iv = .int .i64 k ∧ k ≤ g.nm ∧ (∃ X : Ext W0, wr = X.1) ∧ Hid (chkM g (g.nm - k) k = z0)) (fun iv _ => g.nm - (intOf iv).toNat)
  case atStart => exact ⟨0, rfl, by omega, ⟨X, rfl⟩, HZ0⟩
  case round =>
    obtain ⟨k, rfl, hk, ⟨X, rfl⟩, HX⟩ := hrel
    by_cases hlt : k < g.nm
    · have t1 : decide ((k : Int) < (g.nm : Int)) = true := by rw [decide_eq_true_eq]; omega
      obtain ⟨b, off, rfl, hbl, hc⟩ := (HG.out.r2.below (X.down HB0.out hs0') (Nat.le_refl _)).here (by omega)
      have e0 : X.1.cell? ⟨b, off + k * 4, none⟩ = some (.string (g.ms k)) := hc k hlt 0 (by omega)
      have e1 : X.1.cell? ⟨b, off + k * 4 + 1, none⟩ = some (.string (g.mp k)) := hc k hlt 1 (by omega)
      have e2 : X.1.cell? ⟨b, off + k * 4 + 2, none⟩ = some (.int .i64 (g.mf k)) := hc k hlt 2 (by omega)
      have e3 : X.1.cell? ⟨b, off + k * 4 + 3, none⟩ = some (.int .i64 (g.mt k)) := hc k hlt 3 (by omega)
      have hx := HX.out
      rw [show g.nm - k = (g.nm - k - 1) + 1 by omega, chkM] at hx
      have HX2 := Lib.hid hx
      obtain ⟨W1, hW1, hb1, hs1, hl1⟩ := alloc_cells X.1 #[.string (g.ms k), .string (g.mp k), .int .i64 (g.mf k), .int .i64 (g.mt k)] 52
      have L0 := Ext.ex (hl1 0 _ rfl)
      have L1 := Ext.ex (hl1 1 _ rfl)
      have L2 := Ext.ex (hl1 2 _ rfl)
      have L3 := Ext.ex (hl1 3 _ rfl)
      have hb01 := below_step X.2 hb1
      have M0 := Ext.re hb01 G0
      have M1 := Ext.re hb01 G1
      have M2 := Ext.re hb01 G2
      have M3 := Ext.re hb01 G3
      have HB01 := Lib.hid hb01
      have hbw := HB0.out.trans (hb01.mono hs0')
      have hsw : w.heap.size ≤ W1.heap.size := hbw.size
      have HBW := Lib.hid hbw
      have HB1 := Lib.hid hb1
      have HW1 := Lib.hid hW1
      have DS := Lib.hid (fun (Y : Ext W1) => DS0.out Y.1 (g.ms k) (Y.down HBW.out hsw))
      have DP := Lib.hid (fun (Y : Ext W1) => DP0.out Y.1 (g.mp k) (Y.down HBW.out hsw))
      have D3 := Lib.hid (fun W => rmoment_any (g.mf k) W)
      have D4 := Lib.hid (fun W => rmoment_any (g.mt k) W)
      have DE := Lib.hid (fun (Y : Ext W1) => rend_any (g.ms k) (g.mp k) (g.mf k) (g.mt k) Y.1)
      have is1 := hasS_idx g (g.ms k)
      have is2 := hasP_idx g (g.mp k)
      generalize idxF (fun i => decide (g.sn i = g.ms k)) g.ns 0 = i1 at DS is1
      generalize idxF (fun i => decide (g.pn i = g.mp k)) g.np 0 = i2 at DP is2
      unfold mountV at DE
      have RET : ∀ (v : Int) (Y : Ext W1), v ≠ 0 → v = z0 → Ending.returned (.int .i64 v) = .returned (.int .i64 zz) ∧ Below w.heap.size w Y.1 := fun v Y hv hz => by
        refine ⟨ret_int ?_, Y.down HBW.out hsw⟩
        rw [← HZZ.out, ← hz, if_pos hv]
      have HRET := Lib.hid RET
      clear hx HX hl1 hW1 hb1 hs1 hb01 hbw RET
      cases hS : hasS g (g.ms k)
      · rw [hS] at is1 HX2
        rw [Bool.false_and, if_pos rfl] at HX2
        clear hc hS
        go_upto_region 4 with (fail)
        rw [HW1.out]
        refine ext_wp fun X1 => ?_
        go_wp2_with (first  | (go_at_call 60; refine (Ext.calls _ (DS.out _)).mono ?_; rintro e w2 ⟨rfl, Y, rfl⟩)  | (go_at_call 61; refine (Ext.calls _ (DP.out _)).mono ?_; rintro e w2 ⟨rfl, Y, rfl⟩)  | (go_at_call 62; refine ((by with_reducible exact D3.out _ : Calls _ _ _ _ _)).mono ?_; rintro e w2 ⟨rfl, rfl⟩)  | (go_at_call 62; refine ((by with_reducible exact D4.out _ : Calls _ _ _ _ _)).mono ?_; rintro e w2 ⟨rfl, rfl⟩))
        go_ret
        exact HRET.out 4 _ (by decide) HX2.out
      cases hP : hasP g (g.mp k)
      · rw [hS] at is1 HX2
        rw [hP] at is2 HX2
        rw [Bool.and_false, if_pos rfl] at HX2
        clear hc hS hP
        go_upto_region 4 with (fail)
        rw [HW1.out]
        refine ext_wp fun X1 => ?_
        go_wp2_with (first  | (go_at_call 60; refine (Ext.calls _ (DS.out _)).mono ?_; rintro e w2 ⟨rfl, Y, rfl⟩)  | (go_at_call 61; refine (Ext.calls _ (DP.out _)).mono ?_; rintro e w2 ⟨rfl, Y, rfl⟩)  | (go_at_call 62; refine ((by with_reducible exact D3.out _ : Calls _ _ _ _ _)).mono ?_; rintro e w2 ⟨rfl, rfl⟩)  | (go_at_call 62; refine ((by with_reducible exact D4.out _ : Calls _ _ _ _ _)).mono ?_; rintro e w2 ⟨rfl, rfl⟩))
        go_ret
        exact HRET.out 4 _ (by decide) HX2.out
      rw [hS] at is1 HX2
      rw [hP] at is2 HX2
      rw [Bool.true_and, if_neg (by simp)] at HX2
      clear hS hP
      cases hF : momG (g.mf k)
      · rw [hF] at D3 HX2
        rw [Bool.false_and, if_pos rfl] at HX2
        clear hc hF
        go_upto_region 4 with (fail)
        rw [HW1.out]
        refine ext_wp fun X1 => ?_
        go_wp2_with (first  | (go_at_call 60; refine (Ext.calls _ (DS.out _)).mono ?_; rintro e w2 ⟨rfl, Y, rfl⟩)  | (go_at_call 61; refine (Ext.calls _ (DP.out _)).mono ?_; rintro e w2 ⟨rfl, Y, rfl⟩)  | (go_at_call 62; refine ((by with_reducible exact D3.out _ : Calls _ _ _ _ _)).mono ?_; rintro e w2 ⟨rfl, rfl⟩)  | (go_at_call 62; refine ((by with_reducible exact D4.out _ : Calls _ _ _ _ _)).mono ?_; rintro e w2 ⟨rfl, rfl⟩))
        go_ret
        exact HRET.out 9 _ (by decide) HX2.out
      cases hT : (decide (g.mt k = -1) || momG (g.mt k))
      · rw [hT] at HX2
        rw [hF, Bool.and_false, if_pos rfl] at HX2
        rw [Bool.or_eq_false_iff] at hT
        have n1 : (g.mt k != -1) = true := by rw [bne_iff_ne]; simpa using hT.1
        rw [hF] at D3
        rw [hT.2] at D4
        clear hc hF hT
        go_upto_region 4 with (fail)
        rw [HW1.out]
        refine ext_wp fun X1 => ?_
        go_wp2_with (first  | (go_at_call 60; refine (Ext.calls _ (DS.out _)).mono ?_; rintro e w2 ⟨rfl, Y, rfl⟩)  | (go_at_call 61; refine (Ext.calls _ (DP.out _)).mono ?_; rintro e w2 ⟨rfl, Y, rfl⟩)  | (go_at_call 62; refine ((by with_reducible exact D3.out _ : Calls _ _ _ _ _)).mono ?_; rintro e w2 ⟨rfl, rfl⟩)  | (go_at_call 62; refine ((by with_reducible exact D4.out _ : Calls _ _ _ _ _)).mono ?_; rintro e w2 ⟨rfl, rfl⟩))
        go_ret
        exact HRET.out 9 _ (by decide) HX2.out
      have H3 := Lib.hid (fun b => ord_test (b := b) hF hT)
      rw [hT] at HX2
      rw [hF] at HX2 D3
      rw [Bool.and_true, if_neg (by simp)] at HX2
      have hN : (g.mt k != -1) = true → momG (g.mt k) = true := fun hn => by
        rw [bne_iff_ne] at hn
        rw [Bool.or_eq_true, decide_eq_true_eq] at hT
        exact hT.resolve_left hn
      have HNN := Lib.hid hN
      clear hF hT hN
      cases hE : decide (endG (g.mt k) ≤ g.mf k)
      case true =>
        rw [if_pos (Or.inl ((H3.out true hE).2 rfl))] at HX2
        generalize endG (g.mt k) = en at hE DE
        clear hc
        cases hn : (g.mt k != -1)
        case true =>
          have D4' := D4
          rw [HNN.out hn] at D4'
          clear D4
          have D4 := D4'
          clear D4'
          go_upto_region 4 with (fail)
          rw [HW1.out]
          refine ext_wp fun X1 => ?_
          go_wp2_with (first  | (go_at_call 60; refine (Ext.calls _ (DS.out _)).mono ?_; rintro e w2 ⟨rfl, Y, rfl⟩)  | (go_at_call 61; refine (Ext.calls _ (DP.out _)).mono ?_; rintro e w2 ⟨rfl, Y, rfl⟩)  | (go_at_call 62; refine ((by with_reducible exact D3.out _ : Calls _ _ _ _ _)).mono ?_; rintro e w2 ⟨rfl, rfl⟩)  | (go_at_call 62; refine ((by with_reducible exact D4.out _ : Calls _ _ _ _ _)).mono ?_; rintro e w2 ⟨rfl, rfl⟩))
          refine wp_region_ext (W := W1) _ (by kernel_rfl) (by kernel_rfl) ?_
          repeat go_big_quiet_step ((first | (go_at_call 63; exact Ext.calls _ (DE.out _))))
          refine wpQuiet_nil ?_
          intro _ hw'
          obtain ⟨Y, rfl⟩ := hw'
          go_wp2_with fail
          go_ret
          exact HRET.out 10 _ (by decide) HX2.out
        case false =>
          go_upto_region 4 with (fail)
          rw [HW1.out]
          refine ext_wp fun X1 => ?_
          go_wp2_with (first  | (go_at_call 60; refine (Ext.calls _ (DS.out _)).mono ?_; rintro e w2 ⟨rfl, Y, rfl⟩)  | (go_at_call 61; refine (Ext.calls _ (DP.out _)).mono ?_; rintro e w2 ⟨rfl, Y, rfl⟩)  | (go_at_call 62; refine ((by with_reducible exact D3.out _ : Calls _ _ _ _ _)).mono ?_; rintro e w2 ⟨rfl, rfl⟩)  | (go_at_call 62; refine ((by with_reducible exact D4.out _ : Calls _ _ _ _ _)).mono ?_; rintro e w2 ⟨rfl, rfl⟩))
          refine wp_region_ext (W := W1) _ (by kernel_rfl) (by kernel_rfl) ?_
          repeat go_big_quiet_step ((first | (go_at_call 63; exact Ext.calls _ (DE.out _))))
          refine wpQuiet_nil ?_
          intro _ hw'
          obtain ⟨Y, rfl⟩ := hw'
          go_wp2_with fail
          go_ret
          exact HRET.out 10 _ (by decide) HX2.out
      case false =>
        have hE0 : ¬ (g.mt k ≠ -1 ∧ g.mt k ≤ g.mf k) := fun hh => absurd ((H3.out false hE).1 hh) (by simp)
        have HE0 := Lib.hid hE0
        clear hE0 H3
        generalize endG (g.mt k) = en at hE DE
        by_cases hk0 : 0 < k
        · obtain ⟨q, rfl⟩ : ∃ q, k = q + 1 := ⟨k - 1, by omega⟩
          have g0 : decide ((0 : Int) < ((q + 1 : Nat) : Int)) = true := by rw [decide_eq_true_eq]; omega
          have g0' : decide (0 < q + 1) = true := by simp
          have p0 : X.1.cell? ⟨b, off + q * 4, none⟩ = some (.string (g.ms q)) := hc q (by omega) 0 (by omega)
          have p1 : X.1.cell? ⟨b, off + q * 4 + 1, none⟩ = some (.string (g.mp q)) := hc q (by omega) 1 (by omega)
          have p2 : X.1.cell? ⟨b, off + q * 4 + 2, none⟩ = some (.int .i64 (g.mf q)) := hc q (by omega) 2 (by omega)
          have p3 : X.1.cell? ⟨b, off + q * 4 + 3, none⟩ = some (.int .i64 (g.mt q)) := hc q (by omega) 3 (by omega)
          have P0 := Ext.ex (below_cell HB1.out p0)
          have P1 := Ext.ex (below_cell HB1.out p1)
          have P2 := Ext.ex (below_cell HB1.out p2)
          have P3 := Ext.ex (below_cell HB1.out p3)
          have DC := Lib.hid (fun (Y : Ext W1) => comes_any (g.ms q) (g.mp q) (g.ms (q + 1)) (g.mp (q + 1)) (g.mf q) (g.mt q) (g.mf (q + 1)) (g.mt (q + 1)) Y.1)
          unfold mountV at DC
          rw [show befM g (q + 1 - 1) (q + 1) = befB (g.mf q) (g.mf (q + 1)) (g.ms q) (g.ms (q + 1)) from rfl] at HX2
          generalize befB (g.mf q) (g.mf (q + 1)) (g.ms q) (g.ms (q + 1)) = bb at DC HX2
          clear hc p0 p1 p2 p3 hk0
          cases hn : (g.mt (q + 1) != -1)
          · skip
            cases bb
            · rw [if_pos (Or.inr ⟨by omega, rfl⟩)] at HX2
              go_upto_region 4 with (fail)
              rw [HW1.out]
              refine ext_wp fun X1 => ?_
              go_wp2_with (first  | (go_at_call 60; refine (Ext.calls _ (DS.out _)).mono ?_; rintro e w2 ⟨rfl, Y, rfl⟩)  | (go_at_call 61; refine (Ext.calls _ (DP.out _)).mono ?_; rintro e w2 ⟨rfl, Y, rfl⟩)  | (go_at_call 62; refine ((by with_reducible exact D3.out _ : Calls _ _ _ _ _)).mono ?_; rintro e w2 ⟨rfl, rfl⟩)  | (go_at_call 62; refine ((by with_reducible exact D4.out _ : Calls _ _ _ _ _)).mono ?_; rintro e w2 ⟨rfl, rfl⟩))
              refine wp_region_ext (W := W1) _ (by kernel_rfl) (by kernel_rfl) ?_
              repeat go_big_quiet_step ((first | (go_at_call 63; exact Ext.calls _ (DE.out _)) | (go_at_call 64; exact Ext.calls _ (DC.out _))))
              refine wpQuiet_nil ?_
              intro _ hw'
              obtain ⟨Y, rfl⟩ := hw'
              go_wp2_with fail
              go_ret
              exact HRET.out 10 _ (by decide) HX2.out
            · rw [if_neg (fun hh => hh.elim HE0.out (fun h => absurd h.2 (by simp)))] at HX2
              go_upto_region 4 with (fail)
              rw [HW1.out]
              refine ext_wp fun X1 => ?_
              go_wp2_with (first  | (go_at_call 60; refine (Ext.calls _ (DS.out _)).mono ?_; rintro e w2 ⟨rfl, Y, rfl⟩)  | (go_at_call 61; refine (Ext.calls _ (DP.out _)).mono ?_; rintro e w2 ⟨rfl, Y, rfl⟩)  | (go_at_call 62; refine ((by with_reducible exact D3.out _ : Calls _ _ _ _ _)).mono ?_; rintro e w2 ⟨rfl, rfl⟩)  | (go_at_call 62; refine ((by with_reducible exact D4.out _ : Calls _ _ _ _ _)).mono ?_; rintro e w2 ⟨rfl, rfl⟩))
              refine wp_region_ext (W := W1) _ (by kernel_rfl) (by kernel_rfl) ?_
              repeat go_big_quiet_step ((first | (go_at_call 63; exact Ext.calls _ (DE.out _)) | (go_at_call 64; exact Ext.calls _ (DC.out _))))
              refine wpQuiet_nil ?_
              intro _ hw'
              obtain ⟨Y, rfl⟩ := hw'
              go_wp2_with fail
              go_roundw
              case rel => exact ⟨q + 1 + 1, by go_num, by omega, ⟨⟨_, below_step HB01.out Y.2⟩, rfl⟩, HX2⟩
              case measure => simp [intOf]; omega
          · have D4 : Hid (∀ W, Calls Tryz.prog 62 #[.int .i64 (g.mt (q + 1))] W fun e w' => e = .returned (.bool true) ∧ W = w') := Lib.hid (fun W => by rw [← HNN.out hn]; exact D4.out W)
            cases bb
            · rw [if_pos (Or.inr ⟨by omega, rfl⟩)] at HX2
              go_upto_region 4 with (fail)
              rw [HW1.out]
              refine ext_wp fun X1 => ?_
              go_wp2_with (first  | (go_at_call 60; refine (Ext.calls _ (DS.out _)).mono ?_; rintro e w2 ⟨rfl, Y, rfl⟩)  | (go_at_call 61; refine (Ext.calls _ (DP.out _)).mono ?_; rintro e w2 ⟨rfl, Y, rfl⟩)  | (go_at_call 62; refine ((by with_reducible exact D3.out _ : Calls _ _ _ _ _)).mono ?_; rintro e w2 ⟨rfl, rfl⟩)  | (go_at_call 62; refine ((by with_reducible exact D4.out _ : Calls _ _ _ _ _)).mono ?_; rintro e w2 ⟨rfl, rfl⟩))
              refine wp_region_ext (W := W1) _ (by kernel_rfl) (by kernel_rfl) ?_
              repeat go_big_quiet_step ((first | (go_at_call 63; exact Ext.calls _ (DE.out _)) | (go_at_call 64; exact Ext.calls _ (DC.out _))))
              refine wpQuiet_nil ?_
              intro _ hw'
              obtain ⟨Y, rfl⟩ := hw'
              go_wp2_with fail
              go_ret
              exact HRET.out 10 _ (by decide) HX2.out
            · rw [if_neg (fun hh => hh.elim HE0.out (fun h => absurd h.2 (by simp)))] at HX2
              go_upto_region 4 with (fail)
              rw [HW1.out]
              refine ext_wp fun X1 => ?_
              go_wp2_with (first  | (go_at_call 60; refine (Ext.calls _ (DS.out _)).mono ?_; rintro e w2 ⟨rfl, Y, rfl⟩)  | (go_at_call 61; refine (Ext.calls _ (DP.out _)).mono ?_; rintro e w2 ⟨rfl, Y, rfl⟩)  | (go_at_call 62; refine ((by with_reducible exact D3.out _ : Calls _ _ _ _ _)).mono ?_; rintro e w2 ⟨rfl, rfl⟩)  | (go_at_call 62; refine ((by with_reducible exact D4.out _ : Calls _ _ _ _ _)).mono ?_; rintro e w2 ⟨rfl, rfl⟩))
              refine wp_region_ext (W := W1) _ (by kernel_rfl) (by kernel_rfl) ?_
              repeat go_big_quiet_step ((first | (go_at_call 63; exact Ext.calls _ (DE.out _)) | (go_at_call 64; exact Ext.calls _ (DC.out _))))
              refine wpQuiet_nil ?_
              intro _ hw'
              obtain ⟨Y, rfl⟩ := hw'
              go_wp2_with fail
              go_roundw
              case rel => exact ⟨q + 1 + 1, by go_num, by omega, ⟨⟨_, below_step HB01.out Y.2⟩, rfl⟩, HX2⟩
              case measure => simp [intOf]; omega

        · obtain rfl : k = 0 := by omega
          rw [if_neg (fun hh => hh.elim HE0.out (fun h => absurd h.1 (by omega)))] at HX2
          have g0 : decide ((0 : Int) < ((0 : Nat) : Int)) = false := by simp
          have g0' : decide ((0 : Int) < (0 : Int)) = false := by simp
          simp only [Nat.zero_mul, Nat.add_zero] at e0 e1 e2 e3
          clear hc hk0
          cases hn : (g.mt 0 != -1)
          · skip
            go_upto_region 4 with (fail)
            rw [HW1.out]
            refine ext_wp fun X1 => ?_
            go_wp2_with (first  | (go_at_call 60; refine (Ext.calls _ (DS.out _)).mono ?_; rintro e w2 ⟨rfl, Y, rfl⟩)  | (go_at_call 61; refine (Ext.calls _ (DP.out _)).mono ?_; rintro e w2 ⟨rfl, Y, rfl⟩)  | (go_at_call 62; refine ((by with_reducible exact D3.out _ : Calls _ _ _ _ _)).mono ?_; rintro e w2 ⟨rfl, rfl⟩)  | (go_at_call 62; refine ((by with_reducible exact D4.out _ : Calls _ _ _ _ _)).mono ?_; rintro e w2 ⟨rfl, rfl⟩))
            refine wp_region_ext (W := W1) _ (by kernel_rfl) (by kernel_rfl) ?_
            repeat go_big_quiet_step ((first | (go_at_call 63; exact Ext.calls _ (DE.out _))))
            refine wpQuiet_nil ?_
            intro _ hw'
            obtain ⟨Y, rfl⟩ := hw'
            go_wp2_with fail
            go_roundw
            case rel => exact ⟨0 + 1, by go_num, by omega, ⟨⟨_, below_step HB01.out Y.2⟩, rfl⟩, HX2⟩
            case measure => simp [intOf]; omega
          · have D4 : Hid (∀ W, Calls Tryz.prog 62 #[.int .i64 (g.mt 0)] W fun e w' => e = .returned (.bool true) ∧ W = w') := Lib.hid (fun W => by rw [← HNN.out hn]; exact D4.out W)
            go_upto_region 4 with (fail)
            rw [HW1.out]
            refine ext_wp fun X1 => ?_
            go_wp2_with (first  | (go_at_call 60; refine (Ext.calls _ (DS.out _)).mono ?_; rintro e w2 ⟨rfl, Y, rfl⟩)  | (go_at_call 61; refine (Ext.calls _ (DP.out _)).mono ?_; rintro e w2 ⟨rfl, Y, rfl⟩)  | (go_at_call 62; refine ((by with_reducible exact D3.out _ : Calls _ _ _ _ _)).mono ?_; rintro e w2 ⟨rfl, rfl⟩)  | (go_at_call 62; refine ((by with_reducible exact D4.out _ : Calls _ _ _ _ _)).mono ?_; rintro e w2 ⟨rfl, rfl⟩))
            refine wp_region_ext (W := W1) _ (by kernel_rfl) (by kernel_rfl) ?_
            repeat go_big_quiet_step ((first | (go_at_call 63; exact Ext.calls _ (DE.out _))))
            refine wpQuiet_nil ?_
            intro _ hw'
            obtain ⟨Y, rfl⟩ := hw'
            go_wp2_with fail
            go_roundw
            case rel => exact ⟨0 + 1, by go_num, by omega, ⟨⟨_, below_step HB01.out Y.2⟩, rfl⟩, HX2⟩
            case measure => simp [intOf]; omega

    · have t1 : decide ((k : Int) < (g.nm : Int)) = false := by rw [decide_eq_false_iff_not]; omega
      have t1' : decide (k < g.nm) = false := by simpa using hlt
      have hx := HX.out
      rw [show g.nm - k = 0 by omega, chkM] at hx
      have HZ : Hid (z0 = 0) := Lib.hid hx.symm
      clear hx HX hlt
      go_wp2_with fail
      obtain ⟨Xo, rfl⟩ : ∃ Xo : Ext W0, Xo = X := ⟨_, rfl⟩
      go_loopw [68] (fun iv wr => ∃ (k : Nat), iv = .int .i64 k ∧ k ≤ g.nm ∧ (∃ X : Ext W0, wr = X.1) ∧ Hid (∀ k', k' < k → anyK (fun i => overB g i k') k' = false)) (fun iv _ => g.nm - (intOf iv).toNat)
      case atStart => exact ⟨0, rfl, by omega, ⟨Xo, rfl⟩, Lib.hid (fun k' hk' => by omega)⟩
      case round =>
        obtain ⟨k, rfl, hk, ⟨X, rfl⟩, HX⟩ := hrel
        by_cases hlt : k < g.nm
        · have t1 : decide ((k : Int) < (g.nm : Int)) = true := by rw [decide_eq_true_eq]; omega
          have t1' : decide (k < g.nm) = true := by simpa using hlt
          obtain ⟨b, off, rfl, hbl, hc⟩ := (HG.out.r2.below (X.down HB0.out hs0') (Nat.le_refl _)).here (by omega)
          have e0 : X.1.cell? ⟨b, off + k * 4, none⟩ = some (.string (g.ms k)) := hc k hlt 0 (by omega)
          have e1 : X.1.cell? ⟨b, off + k * 4 + 1, none⟩ = some (.string (g.mp k)) := hc k hlt 1 (by omega)
          have e2 : X.1.cell? ⟨b, off + k * 4 + 2, none⟩ = some (.int .i64 (g.mf k)) := hc k hlt 2 (by omega)
          have e3 : X.1.cell? ⟨b, off + k * 4 + 3, none⟩ = some (.int .i64 (g.mt k)) := hc k hlt 3 (by omega)
          obtain ⟨W1, hW1, hb1, hs1, hl1⟩ := alloc_cells X.1 #[.string (g.ms k), .string (g.mp k), .int .i64 (g.mf k), .int .i64 (g.mt k)] 52
          have L0 := Ext.ex (hl1 0 _ rfl)
          have L1 := Ext.ex (hl1 1 _ rfl)
          have L2 := Ext.ex (hl1 2 _ rfl)
          have L3 := Ext.ex (hl1 3 _ rfl)
          have L0a := Ext.exa L0
          have L1a := Ext.exa L1
          have L2a := Ext.exa L2
          have L3a := Ext.exa L3
          have hb01 := below_step X.2 hb1
          have M0 := Ext.re hb01 G0
          have M1 := Ext.re hb01 G1
          have M2 := Ext.re hb01 G2
          have M3 := Ext.re hb01 G3
          have HB01 := Lib.hid hb01
          have hbw := HB0.out.trans (hb01.mono hs0')
          have hsw : w.heap.size ≤ W1.heap.size := hbw.size
          have HBW := Lib.hid hbw
          have HB1 := Lib.hid hb1
          have HW1 := Lib.hid hW1
          clear hc hl1 hW1 hb1 hs1 hb01 hbw
          go_upto_region 14 with (fail)
          rw [HW1.out]
          refine ext_wp fun X1 => ?_
          go_wp2_with fail
          go_loopw [78] (fun iv wr => ∃ (j : Nat), iv = .int .i64 j ∧ j ≤ k ∧ (∃ Y : Ext W1, wr = Y.1) ∧ Hid (∀ i, i < j → overB g i k = false)) (fun iv _ => k - (intOf iv).toNat)
          case atStart => exact ⟨0, rfl, by omega, ⟨X1, rfl⟩, Lib.hid (fun i hi => by omega)⟩
          case round =>
            obtain ⟨j, rfl, hj, ⟨Y, rfl⟩, HN⟩ := hrel
            by_cases hjk : j < k
            · have t2 : decide ((j : Int) < (k : Int)) = true := by rw [decide_eq_true_eq]; omega
              have t2' : decide (j < k) = true := by simpa using hjk
              have hc := fun (i : Nat) (hi : i < g.nm) (q : Nat) (hq : q < 4) => (HG.out.r2.below (Y.down HBW.out hsw) (Nat.le_refl _)).at hi hq
              have hby : b < Y.1.heap.size := Nat.lt_of_lt_of_le hbl (Nat.le_trans HB1.out.size Y.2.size)
              have f0 : Y.1.cell? ⟨b, off + j * 4, none⟩ = some (.string (g.ms j)) := hc j (by omega) 0 (by omega)
              have f1 : Y.1.cell? ⟨b, off + j * 4 + 1, none⟩ = some (.string (g.mp j)) := hc j (by omega) 1 (by omega)
              have f2 : Y.1.cell? ⟨b, off + j * 4 + 2, none⟩ = some (.int .i64 (g.mf j)) := hc j (by omega) 2 (by omega)
              have f3 : Y.1.cell? ⟨b, off + j * 4 + 3, none⟩ = some (.int .i64 (g.mt j)) := hc j (by omega) 3 (by omega)
              have DO := Lib.hid (fun W => overlap_any (g.ms k) (g.mp k) (g.ms j) (g.mp j) (g.mf k) (g.mt k) (g.mf j) (g.mt j) W)
              unfold mountV at DO
              cases ho : overB g j k
              · have HN2 : Hid (∀ i, i < j + 1 → overB g i k = false) := Lib.hid (fun i hi => by
                  by_cases e : i = j
                  · subst e; exact ho
                  · exact HN.out i (by omega))
                rw [show overM (g.ms k) (g.mp k) (g.ms j) (g.mp j) (g.mf k) (g.mt k) (g.mf j) (g.mt j) = false from (over_sym g j k).trans ho] at DO
                clear hc ho HN
                go_wp2_with fail
                refine (DO.out _).mono ?_
                rintro e w2 ⟨rfl, hb2⟩
                obtain ⟨Z, rfl⟩ : ∃ Z : Ext W1, w2 = Z.1 := ⟨⟨w2, below_step (below_step Y.2 (below_al _ _)) hb2⟩, rfl⟩
                clear hb2
                go_wp2_with fail
                go_roundw
                case rel => exact ⟨j + 1, by go_num, by omega, ⟨Z, rfl⟩, HN2⟩
                case measure => simp [intOf]; omega
              · rw [show overM (g.ms k) (g.mp k) (g.ms j) (g.mp j) (g.mf k) (g.mt k) (g.mf j) (g.mt j) = true from (over_sym g j k).trans ho] at DO
                have HA : Hid (anyOver g = true) := Lib.hid (anyK_some (p := fun k => anyK (fun i => overB g i k) k) hlt (anyK_some (p := fun i => overB g i k) hjk ho))
                clear hc ho HN
                go_wp2_with fail
                refine (DO.out _).mono ?_
                rintro e w2 ⟨rfl, hb2⟩
                obtain ⟨Z, rfl⟩ : ∃ Z : Ext W1, w2 = Z.1 := ⟨⟨w2, below_step (below_step Y.2 (below_al _ _)) hb2⟩, rfl⟩
                clear hb2
                go_wp2_with fail
                go_ret
                exact ⟨ret_int (by rw [← HZZ.out, HZ.out, HA.out]; rfl), Z.down HBW.out hsw⟩
            · have t2 : decide ((j : Int) < (k : Int)) = false := by rw [decide_eq_false_iff_not]; omega
              have t2' : decide (j < k) = false := by simpa using hjk
              have HX2 : Hid (∀ k', k' < k + 1 → anyK (fun i => overB g i k') k' = false) := Lib.hid (fun k' hk' => by
                by_cases e : k' = k
                · subst e; exact anyK_none fun i hi => HN.out i (by omega)
                · exact HX.out k' (by omega))
              clear HN hjk
              go_wp2_with fail
              go_roundw
              case rel => exact ⟨k + 1, by go_num, by omega, ⟨⟨_, below_step HB01.out Y.2⟩, rfl⟩, HX2⟩
              case measure => simp [intOf]; omega
        · have t1 : decide ((k : Int) < (g.nm : Int)) = false := by rw [decide_eq_false_iff_not]; omega
          have t1' : decide (k < g.nm) = false := by simpa using hlt
          have HA : Hid (anyOver g = false) := Lib.hid (anyK_none (p := fun k => anyK (fun i => overB g i k) k) fun k' hk' => HX.out k' (by omega))
          clear hlt HX
          go_wp2_with fail
          go_ret
          exact ⟨ret_int (by rw [← HZZ.out, HZ.out, HA.out]; rfl), X.down HB0.out hs0'⟩
end Go.Proofs.YthdmceeipmmhjaaGreatDoor

/- Maps with strings for keys that the call itself made: what they hold is said as a function of the key. -/
namespace Go.Proofs.YthdmceeipmmhjaaGreatDoor
open Go.RowKit Go.ChangeMaps Go.WideMaps
open Go.Maps (Keyed)

/-- the function, turned at one key -/
def setF {α : Type} (f : ByteArray → α) (s : ByteArray) (y : α) : ByteArray → α := fun s' => if s' = s then y else f s'
/-- block b is a map of at most n entries: at each key s it gives 'val (f s)' -/
structure StrMap {α : Type} (w : World) (P : Program) (k : TypeId) (R : Value → Option (DataW Unit × List MemPlace)) (b n : Nat) (dat : α → DataW Unit) (zd : DataW Unit) (f : ByteArray → α) : Prop where
  ex : ∃ D, w.ownsMap P k R b n D ∧ ∀ s : ByteArray, s.size ≤ maxLen → D.atKey (.string s.data.toList) zd = dat (f s)
section
variable {α : Type} {w : World} {P : Program} {k e t : TypeId} {R : Value → Option (DataW Unit × List MemPlace)} {b n : Nat} {dat : α → DataW Unit} {zd : DataW Unit} {f : ByteArray → α}
theorem str_ne {s s' : ByteArray} (h : s ≠ s') : (Lit.string s.data.toList) ≠ .string s'.data.toList := by
  intro h1
  injection h1 with h1
  apply h
  cases s with | mk a => cases s' with | mk a' =>
  have : a = a' := by
    cases a; cases a'
    simpa using h1
  rw [this]
theorem StrMap.made (w : World) (P : Program) (k : TypeId) (R : Value → Option (DataW Unit × List MemPlace)) {f : ByteArray → α} (hf : ∀ s, dat (f s) = zd) : StrMap (w.alloc (.map #[] 0)) P k R w.heap.size 0 dat zd f :=
  ⟨.map [], World.ownsMap_made _ _ _ _, fun s _ => by rw [hf s]; rfl⟩
theorem StrMap.kept {w' : World} {row : Option Nat} (h : StrMap w P k R b n dat zd f) (hg : w.grownBy w' row) (hne : some b ≠ row) : StrMap w' P k R b n dat zd f := by
  obtain ⟨D, h1, h2⟩ := h.ex
  exact ⟨D, h1.kept hg hne, h2⟩
theorem StrMap.lt (h : StrMap w P k R b n dat zd f) : b < w.heap.size := by
  obtain ⟨D, h1, _⟩ := h.ex
  exact h1.lt
theorem StrMap.mono (h : StrMap w P k R b n dat zd f) {n' : Nat} (hn : n ≤ n') : StrMap w P k R b n' dat zd f := by
  obtain ⟨D, h1, h2⟩ := h.ex
  exact ⟨D, h1.mono hn, h2⟩
theorem StrMap.put {w' : World} {D : DataW Unit} {s : ByteArray} {x : α} (hk : P.underlying k = some .string) (hs : s.size ≤ maxLen) (h : w.ownsMap P k R b n D) (hD : ∀ s : ByteArray, s.size ≤ maxLen → D.atKey (.string s.data.toList) zd = dat (f s))
    (h' : w'.ownsMap P k R b (n + 1) (D.put (.string s.data.toList) (dat x))) : StrMap w' P k R b (n + 1) dat zd (setF f s x) := by
  refine ⟨_, h', fun s' hs' => ?_⟩
  unfold setF
  by_cases e : s' = s
  · subst e
    rw [if_pos rfl]
    exact Maps.atKey_put_same h.isMap ((Maps.string_keyed hk).key (keyOf_string_mk hk hs)) _ _
  · rw [if_neg e, Maps.atKey_put_other (str_ne e)]
    exact hD s' hs'
end
/-- a look-up -/
theorem wpList_lookup_str {α : Type} {P : Program} (w : World) {ops : Array Oper} {rest : List Oper} {o : Oper} {a : Act} {Q : Exit → Act → World → Prop}
    (hg : o.guard = none) (m x : Operand) (t : TypeId) (hop : o.op = Op.lookup t m x false)
    (k e : TypeId) (hk : P.underlying k = some .string) (ht : P.underlying t = some (.map k e)) {z : Value} (hz : (zeroValue e).run P w = .ok z w)
    (R : Value → Option (DataW Unit × List MemPlace)) (val : α → Value) (dat : α → DataW Unit) (zd : DataW Unit) (zp : List MemPlace) (hzd : R z = some (zd, zp)) (hR : ∀ v x ps, R v = some (dat x, ps) → v = val x)
    (b n : Nat) (f : ByteArray → α) (hm : a.eval m = .map (some b)) (hown : StrMap w P k R b n dat zd f) (s : ByteArray) (hx : a.eval x = .string s) (hs : s.size ≤ maxLen)
    (hK : wpList P ops Q rest (a.put o.dst (val (f s))) w) : wpList P ops Q (o :: rest) a w := by
  obtain ⟨D, h1, h2⟩ := hown.ex
  refine wpList_plain hg fun K' hK' => ?_
  obtain ⟨v, ps, hrun, hv⟩ := h1.lookup (Maps.string_keyed hk) ht hz hzd (keyOf_string_mk hk hs)
  rw [h2 s hs] at hv
  obtain rfl := hR _ _ _ hv
  unfold Oper.wp
  simp [execOp, hop, hm, hx, hrun, Result.andThen]
  exact hK' _ _ hK
/-- a store -/
theorem wpList_update_str {α : Type} {P : Program} (w : World) {ops : Array Oper} {rest : List Oper} {o : Oper} {a : Act} {Q : Exit → Act → World → Prop}
    (hg : o.guard = none) (m x v : Operand) (t : TypeId) (hop : o.op = Op.mapUpdate t m x v)
    (k e : TypeId) (hk : P.underlying k = some .string) (ht : P.underlying t = some (.map k e)) (R : Value → Option (DataW Unit × List MemPlace)) (dat : α → DataW Unit) (zd : DataW Unit)
    (b n : Nat) (f : ByteArray → α) (hm : a.eval m = .map (some b)) (hown : StrMap w P k R b n dat zd f) (hn : n < maxLen) (s : ByteArray) (hx : a.eval x = .string s) (hs : s.size ≤ maxLen) (u : Value) (y : α) (hv : a.eval v = u) (ps : List MemPlace) (hR : R u = some (dat y, ps))
    (hK : ∀ w', StrMap w' P k R b (n + 1) dat zd (setF f s y) → w.grownBy w' (some b) → wpList P ops Q rest (a.put o.dst undef) w') :
    wpList P ops Q (o :: rest) a w := by
  obtain ⟨D, h1, h2⟩ := hown.ex
  refine wpList_mapUpdate_own w hg m x v t hop k e (Maps.string_keyed hk) ht R b n D hm h1 hn (.string s) u (.string s.data.toList) hx hv (keyOf_string_mk hk hs) (dat y) ps hR fun w' h' hg' => ?_
  exact hK w' (StrMap.put hk hs h1 h2 h') hg'

/-- maps of bools -/
def boolR : Value → Option (DataW Unit × List MemPlace)
  | .bool x => some (.lit (.bool x), [])
  | _ => none
theorem boolR_inv : ∀ v x ps, boolR v = some (.lit (.bool x), ps) → v = .bool x := by
  intro v x ps h
  cases v <;> simp [boolR] at h
  rw [h.1]
/-- maps of integers -/
def intR : Value → Option (DataW Unit × List MemPlace)
  | .int .i64 x => some (.lit (.int .i64 x), [])
  | _ => none
theorem intR_inv : ∀ v x ps, intR v = some (.lit (.int .i64 x), ps) → v = .int .i64 x := by
  intro v x ps h
  unfold intR at h
  split at h
  · simp at h
    rw [h.1]
  · cases h
end Go.Proofs.YthdmceeipmmhjaaGreatDoor

/- Maps with strings for keys: an entry first, its value later (the order of 'm[k], .. = ..'); the laws at one operation. -/
namespace Go.Proofs.YthdmceeipmmhjaaGreatDoor
open Go.RowKit Go.ChangeMaps Go.WideMaps Go.WideElems
open Go.Maps (Keyed)

section
variable {α : Type} {P : Program} {k e t : TypeId} {R : Value → Option (DataW Unit × List MemPlace)} {b n : Nat} {dat : α → DataW Unit} {zd : DataW Unit} {f : ByteArray → α}
/-- an entry at this key waits for its value -/
def Pend (P : Program) (k t : TypeId) (R : Value → Option (DataW Unit × List MemPlace)) (b n : Nat) (dat : α → DataW Unit) (zd : DataW Unit) (f : ByteArray → α) (s : ByteArray) (st : Nat) (w : World) : Prop :=
  ∃ es clock, w.heap[b]? = some (.map es clock) ∧ ∀ (w2 : World) (y : α) (u : Value) (ps : List MemPlace), w2.heap[b]? = some (.map es clock) → R u = some (dat y, ps) →
    ∃ w3, (Instr.entryStore t (.map (some b)) (goInt st) u).run P w2 = .ok () w3 ∧ StrMap w3 P k R b (n + 1) dat zd (setF f s y) ∧ w2.grownBy w3 (some b)
theorem Pend.kept {s : ByteArray} {st : Nat} {w w' : World} {O : Nat → Prop} (h : Pend P k t R b n dat zd f s st w) (hk : Kept O w w') (hO : ¬ O b) : Pend P k t R b n dat zd f s st w' := by
  obtain ⟨es, clock, h1, h2⟩ := h
  exact ⟨es, clock, (hk.block b (Array.getElem?_eq_some_iff.1 h1).1 hO).trans h1, h2⟩
theorem StrMap.keptO {w w' : World} {O : Nat → Prop} (h : StrMap w P k R b n dat zd f) (hk : Kept O w w') (hO : ¬ O b) : StrMap w' P k R b n dat zd f := by
  obtain ⟨D, ⟨es, clock, h1, h2⟩, h3⟩ := h.ex
  exact ⟨D, ⟨es, clock, (hk.block b (Array.getElem?_eq_some_iff.1 h1).1 hO).trans h1, h2⟩, h3⟩
theorem StrMap.entry {w : World} (h : StrMap w P k R b n dat zd f) (hk : P.underlying k = some .string) (ht : P.underlying t = some (.map k e)) {z : Value} (hz : ∀ u : World, (zeroValue e).run P u = .ok z u) (hn : n < maxLen) {s : ByteArray} (hs : s.size ≤ maxLen) :
    ∃ (v0 : Value) (st : Nat) (w1 : World), (Instr.mapEntry t (.map (some b)) (.string s)).run P w = .ok (.tuple #[v0, goInt st]) w1 ∧ w.grownBy w1 (some b) ∧ Pend P k t R b n dat zd f s st w1 := by
  obtain ⟨D, hD, hf⟩ := h.ex
  obtain ⟨es, clock, hb, F, hsz, hDe⟩ := hD
  obtain ⟨v0, st, es1, clock1, hrun, _, hst⟩ := WideElems.entry_then_store (string_law hk) ht hz hb F (keyOf_string_mk hk hs)
  refine ⟨v0, st, _, hrun, ⟨rfl, rfl, rfl, by simp [setBlock], fun i _ hi => heap_setBlock_other hb _ (fun e => hi (by rw [e]))⟩, es1, clock1, heap_setBlock_same hb _, fun w2 y u ps hw2 hu => ?_⟩
  obtain ⟨es', clock', hr1, hr2⟩ := hst w2 u hw2
  obtain ⟨w', hr3, hown, _⟩ := World.ownsMap.update ⟨es, clock, hb, F, hsz, hDe⟩ (Maps.string_keyed hk) ht hn (keyOf_string_mk hk hs) hu
  rw [hr2] at hr3
  injection hr3 with _ hr3
  obtain ⟨es2, clock2, g1, g2, g3, g4⟩ := hown
  rw [← hr3, heap_setBlock_same hb] at g1
  injection g1 with g1
  injection g1 with g1 g5
  subst g1
  subst g5
  refine ⟨_, hr1, StrMap.put (w := w) hk hs ⟨es, clock, hb, F, hsz, hDe⟩ hf ⟨es', clock', heap_setBlock_same hw2 _, g2, g3, g4⟩, ⟨rfl, rfl, rfl, by simp [setBlock], fun i _ hi => heap_setBlock_other hw2 _ (fun e => hi (by rw [e]))⟩⟩

theorem wp_mapEntry_str {w : World} {o : Oper} {a : Act} {K : Act → World → Prop} {Q : Exit → Act → World → Prop} (m x : Operand) (hop : o.op = .mapEntry t m x) (hk : P.underlying k = some .string) (ht : P.underlying t = some (.map k e)) {z : Value} (hz : ∀ u : World, (zeroValue e).run P u = .ok z u)
    (hm : a.eval m = .map (some b)) (hown : StrMap w P k R b n dat zd f) (hn : n < maxLen) {s : ByteArray} (hx : a.eval x = .string s) (hs : s.size ≤ maxLen)
    (hK : ∀ v0 st w1, w.grownBy w1 (some b) → Pend P k t R b n dat zd f s st w1 → K (a.put o.dst (.tuple #[v0, goInt st])) w1) : o.wp P a w K Q := by
  obtain ⟨v0, st, w1, hrun, h1, h2⟩ := hown.entry hk ht hz hn hs
  unfold Oper.wp
  simp [execOp, hop, hm, hx, hrun, Result.andThen]
  exact hK _ _ _ h1 h2
theorem wp_entryStore_str {w : World} {o : Oper} {a : Act} {K : Act → World → Prop} {Q : Exit → Act → World → Prop} (m x v : Operand) (hop : o.op = .entryStore t m x v)
    (hm : a.eval m = .map (some b)) {s : ByteArray} {st : Nat} (hx : a.eval x = goInt st) (hp : Pend P k t R b n dat zd f s st w) {u : Value} (hv : a.eval v = u) {y : α} {ps : List MemPlace} (hR : R u = some (dat y, ps))
    (hK : ∀ w1, StrMap w1 P k R b (n + 1) dat zd (setF f s y) → w.grownBy w1 (some b) → K (a.put o.dst undef) w1) : o.wp P a w K Q := by
  obtain ⟨es, clock, h1, h2⟩ := hp
  obtain ⟨w3, hrun, h3, h4⟩ := h2 w y u ps h1 hR
  unfold Oper.wp
  simp [execOp, hop, hm, hx, hv, hrun, Result.andThen]
  exact hK _ h3 h4
theorem wp_update_str {w : World} {o : Oper} {a : Act} {K : Act → World → Prop} {Q : Exit → Act → World → Prop} (m x v : Operand) (hop : o.op = .mapUpdate t m x v) (hk : P.underlying k = some .string) (ht : P.underlying t = some (.map k e))
    (hm : a.eval m = .map (some b)) (hown : StrMap w P k R b n dat zd f) (hn : n < maxLen) {s : ByteArray} (hx : a.eval x = .string s) (hs : s.size ≤ maxLen) {u : Value} (hv : a.eval v = u) {y : α} {ps : List MemPlace} (hR : R u = some (dat y, ps))
    (hK : ∀ w1, StrMap w1 P k R b (n + 1) dat zd (setF f s y) → w.grownBy w1 (some b) → K (a.put o.dst undef) w1) : o.wp P a w K Q := by
  obtain ⟨D, h1, h2⟩ := hown.ex
  obtain ⟨w', hrun, r1, r2⟩ := h1.update (Maps.string_keyed hk) ht hn (keyOf_string_mk hk hs) hR
  unfold Oper.wp
  simp [execOp, hop, hm, hx, hv, hrun, Result.andThen]
  exact hK _ (StrMap.put hk hs h1 h2 r1) r2
/-- a look-up, in a quiet walk -/
theorem StrMap.look {w : World} (h : StrMap w P k R b n dat zd f) (hk : P.underlying k = some .string) (ht : P.underlying t = some (.map k e)) {z : Value} (hz : (zeroValue e).run P w = .ok z w) {zp : List MemPlace} (hzd : R z = some (zd, zp)) (val : α → Value) (hR : ∀ v x ps, R v = some (dat x, ps) → v = val x)
    {s : ByteArray} (hs : s.size ≤ maxLen) : (Instr.lookup t (.map (some b)) (.string s) false).run P w = .ok (val (f s)) w := by
  obtain ⟨D, h1, h2⟩ := h.ex
  obtain ⟨v, ps, hrun, hv⟩ := h1.lookup (Maps.string_keyed hk) ht hz hzd (keyOf_string_mk hk hs)
  rw [h2 s hs] at hv
  obtain rfl := hR _ _ _ hv
  exact hrun
end
end Go.Proofs.YthdmceeipmmhjaaGreatDoor

/- Gear: the mounts are checked (program; printed by wip/g/gen_gmounts.py). -/
namespace Go.Proofs.YthdmceeipmmhjaaGreatDoor
open Go.RowKit Go.BigFrame
open Gar (momG endG chkM hasS hasP anyOver overB befM)

theorem anyK_step (p : ByteArray → Nat → Bool) (k : Nat) (s : ByteArray) (q : Nat → ByteArray) (hp : ∀ s' i, p s' i = decide (q i = s')) (hs : q k = s) :
    setF (fun s' => anyK (p s') k) s true = fun s' => anyK (p s') (k + 1) := by
  funext s'
  unfold setF
  unfold anyK
  rw [List.range_succ, List.any_append]
  by_cases h : s' = s
  · rw [if_pos h]
    simp [hp, hs, h]
  · rw [if_neg h]
    have : decide (q k = s') = false := by rw [decide_eq_false_iff_not, hs]; exact fun e => h e.symm
    simp [hp, this]
theorem lastE_step (x : Nat → ByteArray) (e : Nat → Int) (k : Nat) : setF (fun s' => Gmt.lastE x e k s') (x k) (e k) = fun s' => Gmt.lastE x e (k + 1) s' := by
  funext s'
  unfold setF
  rw [Gmt.lastE]
  by_cases h : s' = x k
  · rw [if_pos h, if_pos h.symm]
  · rw [if_neg h, if_neg (fun e => h e.symm)]
/-- the ends of the last mounts tell whether mounts overlap -/
theorem over_bad {g : Gar} (h : chkM g g.nm 0 = 0) : anyOver g = true ↔ ∃ k, k < g.nm ∧ Gmt.bad1 g.ms g.mp g.mf (fun i => endG (g.mt i)) k := by
  rw [Gmt.bad_iff (fun i hi => ⟨(Gar.mt_cases h i hi).1, (Gar.mt_cases h i hi).2.2⟩) (fun i j hij hj => Gar.mf_mono h j i (by omega) hj)]
  unfold anyOver Gmt.bad2 overB
  simp only [List.any_eq_true, List.mem_range, Bool.and_eq_true, Bool.or_eq_true, decide_eq_true_eq]
theorem two_maps {α : Type} (W : World) (P : Program) (k : TypeId) (R : Value → Option (DataW Unit × List MemPlace)) (dat : α → DataW Unit) (zd : DataW Unit) (f : ByteArray → α) (hf : ∀ s, dat (f s) = zd) :
    ∃ V, (W.alloc (.map #[] 0)).alloc (.map #[] 0) = V ∧ Below W.heap.size W V ∧ V.heap.size = W.heap.size + 2 ∧ StrMap V P k R W.heap.size 0 dat zd f ∧ StrMap V P k R (W.heap.size + 1) 0 dat zd f := by
  refine ⟨_, rfl, below_tr (below_al W _) (by simp) (below_al _ _), by simp, ?_, ?_⟩
  · exact (StrMap.made W P k R hf).kept (World.grownBy_alloc _ _ none) (by simp)
  · have := StrMap.made (W.alloc (.map #[] 0)) P k R hf
    rwa [World.size_alloc] at this
theorem strMap_ext {α : Type} {w : World} {P : Program} {k : TypeId} {R : Value → Option (DataW Unit × List MemPlace)} {b n : Nat} {dat : α → DataW Unit} {zd : DataW Unit} {f f' : ByteArray → α} (h : StrMap w P k R b n dat zd f) (e : f = f') : StrMap w P k R b n dat zd f' := e ▸ h

set_option maxHeartbeats 8000000 in
set_option maxRecDepth 100000 in
theorem checkMounts_any (g : Gar) (a0 a1 a2 a3 : Option Addr) (c0 c1 c2 c3 : Nat) (w : World) (h : GarIn w g a0 a1 a2 a3) :
    Calls Tryz.prog 31 #[garV g a0 a1 a2 a3 c0 c1 c2 c3] w fun e w' => e = .returned (.int .i64 (if chkM g g.nm 0 ≠ 0 then chkM g g.nm 0 else if anyOver g = true then 11 else 0)) ∧ Below w.heap.size w w' := by
  have HG := Lib.hid h
  have hl0 := h.l0
  have hl1 := h.l1
  have hl2 := h.l2
  clear h
  have US : Tryz.prog.underlying 9 = some .string := by kernel_rfl
  have UB : Tryz.prog.underlying 78 = some (.map 9 4) := by kernel_rfl
  have UI : Tryz.prog.underlying 96 = some (.map 9 3) := by kernel_rfl
  have zB : ∀ u : World, (zeroValue 4).run Tryz.prog u = .ok (.bool false) u := fun u => by kernel_rfl
  have zI : ∀ u : World, (zeroValue 3).run Tryz.prog u = .ok (.int .i64 0) u := fun u => by kernel_rfl
  have HUS := Lib.hid US
  have HUB := Lib.hid UB
  have HUI := Lib.hid UI
  have HzB := Lib.hid zB
  have HzI := Lib.hid zI
  clear US UB UI zB zI
  unfold garV
  obtain ⟨z0, hz0⟩ : ∃ z, chkM g g.nm 0 = z := ⟨_, rfl⟩
  obtain ⟨zz, hzz⟩ : ∃ zz, (if z0 ≠ 0 then z0 else if anyOver g = true then 11 else 0) = zz := ⟨_, rfl⟩
  rw [hz0, hzz]
  have HZ0 := Lib.hid hz0
  have HZZ := Lib.hid hzz
  clear hz0 hzz
  have hmm := @run_makeMap Tryz.prog
  go_enter Tryz.func31, Tryz.ntmps31
  obtain ⟨W0, hW0, hb0, hs0, hl0'⟩ := alloc_cells w #[.slice a0 g.np c0, .slice a1 g.ns c1, .slice a2 g.nm c2, .slice a3 g.nu c3] 27
  obtain ⟨W1, hW1, hb1, hs1, m3, m4⟩ := two_maps W0 Tryz.prog 9 boolR (fun x : Bool => .lit (.bool x)) (.lit (.bool false)) (fun _ => false) (fun _ => rfl)
  have e0 := below_cell hb1 (hl0' 0 _ rfl)
  have e1 := below_cell hb1 (hl0' 1 _ rfl)
  have e2 := below_cell hb1 (hl0' 2 _ rfl)
  have e3 := below_cell hb1 (hl0' 3 _ rfl)
  rw [hs0] at m3 m4 hs1
  have hsw : w.heap.size ≤ W1.heap.size := by omega
  have hsw1 : w.heap.size + 3 ≤ W1.heap.size := by omega
  have HBW := Lib.hid (hb0.trans (hb1.mono (by omega)))
  have HM3S := Lib.hid (strMap_ext (f' := fun s => anyK (fun i => decide (g.pn i = s)) 0) m3 (by funext s; rfl))
  have HM4 := Lib.hid m4
  have HW : Hid (((w.alloc (.cells #[.slice a0 g.np c0, .slice a1 g.ns c1, .slice a2 g.nm c2, .slice a3 g.nu c3] 27)).alloc (.map #[] 0)).alloc (.map #[] 0) = W1) := Lib.hid (by rw [hW0, hW1])
  have G0 := ExtO.ex (O := fun b => b = w.heap.size + 1) (by simp <;> omega) e0
  have G1 := ExtO.ex (O := fun b => b = w.heap.size + 1) (by simp <;> omega) e1
  have G2 := ExtO.ex (O := fun b => b = w.heap.size + 1) (by simp <;> omega) e2
  have G3 := ExtO.ex (O := fun b => b = w.heap.size + 1) (by simp <;> omega) e3
  have G0a := ExtO.exa G0
  have G1a := ExtO.exa G1
  have G2a := ExtO.exa G2
  have G3a := ExtO.exa G3
  clear hW0 hW1 hl0' hb0 hb1 m3 m4 hs0 hs1
  go_upto_region 2 with (fail)
  rw [HW.out]
  go_wp2_with fail
  clear e0 e1 e2 e3
  go_loopw [20] (fun iv wr => ∃ (k : Nat), iv = .int .i64 k ∧ k ≤ g.np ∧ Hid (∃ X : ExtO (fun b => b = w.heap.size + 1) W1, wr = X.1) ∧ Hid (StrMap wr Tryz.prog 9 boolR (w.heap.size + 1) k (fun x : Bool => .lit (.bool x)) (.lit (.bool false)) (fun s => anyK (fun i => decide (g.pn i = s)) k))) (fun iv _ => g.np - (intOf iv).toNat)
  case atStart => exact ⟨0, rfl, by omega, Lib.hid ⟨⟨_, Kept.refl _ _⟩, rfl⟩, HM3S⟩
  case round =>
    obtain ⟨k, rfl, hk, HXE, HM⟩ := hrel
    obtain ⟨X, rfl⟩ := HXE.out
    by_cases hlt : k < g.np
    · have t1 : decide ((k : Int) < (g.np : Int)) = true := by rw [decide_eq_true_eq]; omega
      obtain ⟨b, off, rfl, hbl, hc⟩ := (HG.out.r0.below (X.down HBW.out hsw (fun k hk => by omega)) (Nat.le_refl _)).here (by omega)
      have e0 : X.1.cell? ⟨b, off + k * 2, none⟩ = some (.string (g.pn k)) := hc k hlt 0 (by omega)
      have e1 : X.1.cell? ⟨b, off + k * 2 + 1, none⟩ = some (.int .i64 (g.pc k)) := hc k hlt 1 (by omega)
      have hsz := HG.out.z0 k hlt
      have HM2 := Lib.hid (HM.out.kept (World.grownBy_alloc X.1 (.cells #[.string (g.pn k), .int .i64 (g.pc k)] 43) none) (by simp))
      clear hc
      go_wp2_with (at_mapUpdate; refine wpList_update_str _ rfl (.tmp 24) (.tmp 26) (.const (.bool true)) 78 rfl 9 4 HUS.out HUB.out boolR (fun x : Bool => .lit (.bool x)) (.lit (.bool false)) (w.heap.size + 1) k _ rfl HM2.out ?c1 (g.pn k) rfl ?c2 (.bool true) true rfl [] rfl ?_)
      case c1 => unfold maxLen; omega
      case c2 => exact hsz
      intro w1 hm1 hg1
      have HM3 := Lib.hid (strMap_ext hm1 (anyK_step (fun s i => decide (g.pn i = s)) k (g.pn k) g.pn (fun _ _ => rfl) rfl))
      have HXE2 : Hid (∃ Y : ExtO (fun b => b = w.heap.size + 1) W1, w1 = Y.1) := Lib.hid ⟨⟨w1, (X.2.trans (Kept.of_below (below_al _ _))).grown hg1 (fun g hg _ => by injection hg with hg; exact hg.symm)⟩, rfl⟩
      clear hm1 hg1 HM HM2 HXE
      go_wp2_with fail
      go_roundw
      case rel => exact ⟨k + 1, by go_num, by omega, HXE2, HM3⟩
      case measure => simp [intOf]; omega
    · have t1 : decide ((k : Int) < (g.np : Int)) = false := by rw [decide_eq_false_iff_not]; omega
      have t1' : decide (k < g.np) = false := by simpa using hlt
      obtain rfl : k = g.np := by omega
      clear hlt HXE
      have e0 := G0 X
      have e1 := G1 X
      have e2 := G2 X
      have e3 := G3 X
      have hk := X.2
      have hbw := X.down HBW.out hsw (fun k hk => by omega)
      obtain ⟨W2, hW2⟩ : ∃ W2, X.1 = W2 := ⟨_, rfl⟩
      rw [hW2] at e0 e1 e2 e3 hk HM hbw ⊢
      have HM3 := HM
      have hsw2 : w.heap.size + 3 ≤ W2.heap.size := Nat.le_trans hsw1 hk.size
      have hsw2' : w.heap.size ≤ W2.heap.size := by omega
      have HM4 := Lib.hid (HM4.out.keptO hk (by simp <;> omega))
      have HBW2 := Lib.hid hbw
      clear hk hbw hW2 HM X G0 G1 G2 G3 G0a G1a G2a G3a
      have G0 := ExtO.ex (O := fun b => b = w.heap.size + 1 + 1) (by simp <;> omega) e0
      have G1 := ExtO.ex (O := fun b => b = w.heap.size + 1 + 1) (by simp <;> omega) e1
      have G2 := ExtO.ex (O := fun b => b = w.heap.size + 1 + 1) (by simp <;> omega) e2
      have G3 := ExtO.ex (O := fun b => b = w.heap.size + 1 + 1) (by simp <;> omega) e3
      have G0a := ExtO.exa G0
      have G1a := ExtO.exa G1
      have G2a := ExtO.exa G2
      have G3a := ExtO.exa G3
      go_wp2_with fail
      have HM4S := Lib.hid (strMap_ext (f' := fun s => anyK (fun i => decide (g.sn i = s)) 0) HM4.out (by funext s; rfl))
      clear e0 e1 e2 e3 HM4
      go_loopw [31] (fun iv wr => ∃ (k : Nat), iv = .int .i64 k ∧ k ≤ g.ns ∧ Hid (∃ X : ExtO (fun b => b = w.heap.size + 1 + 1) W2, wr = X.1) ∧ Hid (StrMap wr Tryz.prog 9 boolR (w.heap.size + 1 + 1) k (fun x : Bool => .lit (.bool x)) (.lit (.bool false)) (fun s => anyK (fun i => decide (g.sn i = s)) k))) (fun iv _ => g.ns - (intOf iv).toNat)
      case atStart => exact ⟨0, rfl, by omega, Lib.hid ⟨⟨_, Kept.refl _ _⟩, rfl⟩, HM4S⟩
      case round =>
        obtain ⟨k, rfl, hk, HXE, HM⟩ := hrel
        obtain ⟨X, rfl⟩ := HXE.out
        by_cases hlt : k < g.ns
        · have t1 : decide ((k : Int) < (g.ns : Int)) = true := by rw [decide_eq_true_eq]; omega
          obtain ⟨b, off, rfl, hbl, hc⟩ := (HG.out.r1.below (X.down HBW2.out hsw2' (fun k hk => by omega)) (Nat.le_refl _)).here (by omega)
          have e0 : X.1.cell? ⟨b, off + k * 2, none⟩ = some (.string (g.sn k)) := hc k hlt 0 (by omega)
          have e1 : X.1.cell? ⟨b, off + k * 2 + 1, none⟩ = some (.string (g.sr k)) := hc k hlt 1 (by omega)
          have hsz := (HG.out.z1 k hlt).1
          have HM2 := Lib.hid (HM.out.kept (World.grownBy_alloc X.1 (.cells #[.string (g.sn k), .string (g.sr k)] 50) none) (by simp))
          clear hc
          go_wp2_with (at_mapUpdate; refine wpList_update_str _ rfl (.tmp 35) (.tmp 37) (.const (.bool true)) 78 rfl 9 4 HUS.out HUB.out boolR (fun x : Bool => .lit (.bool x)) (.lit (.bool false)) (w.heap.size + 1 + 1) k _ rfl HM2.out ?c1 (g.sn k) rfl ?c2 (.bool true) true rfl [] rfl ?_)
          case c1 => unfold maxLen; omega
          case c2 => exact hsz
          intro w1 hm1 hg1
          have HM3 := Lib.hid (strMap_ext hm1 (anyK_step (fun s i => decide (g.sn i = s)) k (g.sn k) g.sn (fun _ _ => rfl) rfl))
          have HXE2 : Hid (∃ Y : ExtO (fun b => b = w.heap.size + 1 + 1) W2, w1 = Y.1) := Lib.hid ⟨⟨w1, (X.2.trans (Kept.of_below (below_al _ _))).grown hg1 (fun g hg _ => by injection hg with hg; exact hg.symm)⟩, rfl⟩
          clear hm1 hg1 HM HM2 HXE
          go_wp2_with fail
          go_roundw
          case rel => exact ⟨k + 1, by go_num, by omega, HXE2, HM3⟩
          case measure => simp [intOf]; omega
        · have t1 : decide ((k : Int) < (g.ns : Int)) = false := by rw [decide_eq_false_iff_not]; omega
          have t1' : decide (k < g.ns) = false := by simpa using hlt
          obtain rfl : k = g.ns := by omega
          clear hlt HXE
          have e0 := G0 X
          have e1 := G1 X
          have e2 := G2 X
          have e3 := G3 X
          have hk := X.2
          have hbw := X.down HBW2.out hsw2' (fun k hk => by omega)
          obtain ⟨W3, hW2⟩ : ∃ W3, X.1 = W3 := ⟨_, rfl⟩
          rw [hW2] at e0 e1 e2 e3 hk HM hbw ⊢
          have HM4 := HM
          have hsw3 : w.heap.size + 3 ≤ W3.heap.size := Nat.le_trans hsw2 hk.size
          have hsw3' : w.heap.size ≤ W3.heap.size := by omega
          have HM3 := Lib.hid (HM3.out.keptO hk (by simp <;> omega))
          have HBW3 := Lib.hid hbw
          clear hk hbw hW2 HM X G0 G1 G2 G3 G0a G1a G2a G3a
          have G0 := Ext.ex e0
          have G1 := Ext.ex e1
          have G2 := Ext.ex e2
          have G3 := Ext.ex e3
          have G0a := Ext.exa G0
          have G1a := Ext.exa G1
          have G2a := Ext.exa G2
          have G3a := Ext.exa G3
          go_wp2_with fail
          clear e0 e1 e2 e3
          go_loopw [42] (fun iv wr => ∃ (k : Nat), iv = .int .i64 k ∧ k ≤ g.nm ∧ Hid (∃ X : Ext W3, wr = X.1) ∧ Hid (chkM g (g.nm - k) k = z0)) (fun iv _ => g.nm - (intOf iv).toNat)
          case atStart => exact ⟨0, rfl, by omega, Lib.hid ⟨⟨_, Below.refl _ _⟩, rfl⟩, HZ0⟩
          case round =>
            obtain ⟨k, rfl, hk, HXE, HX⟩ := hrel
            obtain ⟨X, rfl⟩ := HXE.out
            by_cases hlt : k < g.nm
            · have t1 : decide ((k : Int) < (g.nm : Int)) = true := by rw [decide_eq_true_eq]; omega
              obtain ⟨b, off, rfl, hbl, hc⟩ := (HG.out.r2.below (X.down HBW3.out hsw3') (Nat.le_refl _)).here (by omega)
              have e0 : X.1.cell? ⟨b, off + k * 4, none⟩ = some (.string (g.ms k)) := hc k hlt 0 (by omega)
              have e1 : X.1.cell? ⟨b, off + k * 4 + 1, none⟩ = some (.string (g.mp k)) := hc k hlt 1 (by omega)
              have e2 : X.1.cell? ⟨b, off + k * 4 + 2, none⟩ = some (.int .i64 (g.mf k)) := hc k hlt 2 (by omega)
              have e3 : X.1.cell? ⟨b, off + k * 4 + 3, none⟩ = some (.int .i64 (g.mt k)) := hc k hlt 3 (by omega)
              have hx := HX.out
              rw [show g.nm - k = (g.nm - k - 1) + 1 by omega, chkM] at hx
              have HX2 := Lib.hid hx
              obtain ⟨V1, hV1, hb1, hs1, hl1⟩ := alloc_cells X.1 #[.string (g.ms k), .string (g.mp k), .int .i64 (g.mf k), .int .i64 (g.mt k)] 52
              have L0 := Ext.ex (hl1 0 _ rfl)
              have L1 := Ext.ex (hl1 1 _ rfl)
              have L2 := Ext.ex (hl1 2 _ rfl)
              have L3 := Ext.ex (hl1 3 _ rfl)
              have hb01 := below_step X.2 hb1
              have M0 := Ext.re hb01 G0
              have M1 := Ext.re hb01 G1
              have M2 := Ext.re hb01 G2
              have M3 := Ext.re hb01 G3
              have HB01 := Lib.hid hb01
              have hbw := HBW3.out.trans (hb01.mono hsw3')
              have hsv : w.heap.size ≤ V1.heap.size := hbw.size
              have HBV := Lib.hid hbw
              have HB1 := Lib.hid hb1
              have HV1 := Lib.hid hV1
              have hz2 := HG.out.z2 k hlt
              have KS : ∀ Y : Ext V1, (Instr.lookup 78 (.map (some (w.heap.size + 1 + 1))) (.string (g.ms k)) false).run Tryz.prog Y.1 = .ok (.bool (hasS g (g.ms k))) Y.1 := fun Y =>
                StrMap.look (val := Value.bool) (HM4.out.keptO (Kept.of_below (O := fun _ => False) (below_step HB01.out Y.2)) (by simp)) HUS.out HUB.out (HzB.out _) (zp := []) rfl boolR_inv hz2.1
              have KP : ∀ Y : Ext V1, (Instr.lookup 78 (.map (some (w.heap.size + 1))) (.string (g.mp k)) false).run Tryz.prog Y.1 = .ok (.bool (hasP g (g.mp k))) Y.1 := fun Y =>
                StrMap.look (val := Value.bool) (HM3.out.keptO (Kept.of_below (O := fun _ => False) (below_step HB01.out Y.2)) (by simp)) HUS.out HUB.out (HzB.out _) (zp := []) rfl boolR_inv hz2.2
              have D3 := Lib.hid (fun W => gmoment_any (g.mf k) W)
              have D4 := Lib.hid (fun W => gmoment_any (g.mt k) W)
              have RET : ∀ (v : Int) (Y : Ext V1), v ≠ 0 → v = z0 → Ending.returned (.int .i64 v) = .returned (.int .i64 zz) ∧ Below w.heap.size w Y.1 := fun v Y hv hz => by
                refine ⟨ret_int ?_, Y.down HBV.out hsv⟩
                rw [← HZZ.out, ← hz, if_pos hv]
              have HRET := Lib.hid RET
              clear hx HX hl1 hV1 hb1 hs1 hb01 hbw RET hz2 HXE
              cases hS : hasS g (g.ms k)
              · rw [hS] at HX2 KS
                rw [Bool.false_and, if_pos rfl] at HX2
                clear hc hS KP
                go_upto_region 15 with (fail)
                rw [HV1.out]
                refine ext_wp fun X1 => ?_
                go_wp2_with (first  | (go_at_call 49; refine ((by with_reducible exact D3.out _ : Calls _ _ _ _ _)).mono ?_; rintro e w2 ⟨rfl, rfl⟩)  | (go_at_call 49; refine ((by with_reducible exact D4.out _ : Calls _ _ _ _ _)).mono ?_; rintro e w2 ⟨rfl, rfl⟩))
                go_ret
                exact HRET.out 4 _ (by decide) HX2.out
              cases hP : hasP g (g.mp k)
              · rw [hS] at HX2 KS
                rw [hP] at HX2 KP
                rw [Bool.and_false, if_pos rfl] at HX2
                clear hc hS hP
                go_upto_region 15 with (fail)
                rw [HV1.out]
                refine ext_wp fun X1 => ?_
                go_wp2_with (first  | (go_at_call 49; refine ((by with_reducible exact D3.out _ : Calls _ _ _ _ _)).mono ?_; rintro e w2 ⟨rfl, rfl⟩)  | (go_at_call 49; refine ((by with_reducible exact D4.out _ : Calls _ _ _ _ _)).mono ?_; rintro e w2 ⟨rfl, rfl⟩))
                go_ret
                exact HRET.out 4 _ (by decide) HX2.out
              rw [hS] at HX2 KS
              rw [hP] at HX2 KP
              rw [Bool.true_and, if_neg (by simp)] at HX2
              clear hS hP
              cases hF : momG (g.mf k)
              · rw [hF] at D3 HX2
                rw [Bool.false_and, if_pos rfl] at HX2
                clear hc hF
                go_upto_region 15 with (fail)
                rw [HV1.out]
                refine ext_wp fun X1 => ?_
                go_wp2_with (first  | (go_at_call 49; refine ((by with_reducible exact D3.out _ : Calls _ _ _ _ _)).mono ?_; rintro e w2 ⟨rfl, rfl⟩)  | (go_at_call 49; refine ((by with_reducible exact D4.out _ : Calls _ _ _ _ _)).mono ?_; rintro e w2 ⟨rfl, rfl⟩))
                go_ret
                exact HRET.out 9 _ (by decide) HX2.out
              cases hT : (decide (g.mt k = -1) || momG (g.mt k))
              · rw [hT] at HX2
                rw [hF, Bool.and_false, if_pos rfl] at HX2
                rw [Bool.or_eq_false_iff] at hT
                have n1 : (g.mt k != -1) = true := by rw [bne_iff_ne]; simpa using hT.1
                rw [hF] at D3
                rw [hT.2] at D4
                clear hc hF hT
                go_upto_region 15 with (fail)
                rw [HV1.out]
                refine ext_wp fun X1 => ?_
                go_wp2_with (first  | (go_at_call 49; refine ((by with_reducible exact D3.out _ : Calls _ _ _ _ _)).mono ?_; rintro e w2 ⟨rfl, rfl⟩)  | (go_at_call 49; refine ((by with_reducible exact D4.out _ : Calls _ _ _ _ _)).mono ?_; rintro e w2 ⟨rfl, rfl⟩))
                go_ret
                exact HRET.out 9 _ (by decide) HX2.out
              rw [hT] at HX2
              rw [hF] at HX2 D3
              rw [Bool.and_true, if_neg (by simp)] at HX2
              have hN : (g.mt k != -1) = true → momG (g.mt k) = true := fun hn => by
                rw [bne_iff_ne] at hn
                rw [Bool.or_eq_true, decide_eq_true_eq] at hT
                exact hT.resolve_left hn
              have HNN := Lib.hid hN
              clear hF hT hN
              by_cases hE : g.mt k ≠ -1 ∧ g.mt k ≤ g.mf k
              · rw [if_pos (Or.inl hE)] at HX2
                have hn : (g.mt k != -1) = true := by rw [bne_iff_ne]; exact hE.1
                have hE2 : decide (g.mt k ≤ g.mf k) = true := by rw [decide_eq_true_eq]; exact hE.2
                have D4 : Hid (∀ W, Calls Tryz.prog 49 #[.int .i64 (g.mt k)] W fun e w' => e = .returned (.bool true) ∧ W = w') := Lib.hid (fun W => by rw [← HNN.out hn]; exact D4.out W)
                clear hc hE
                go_upto_region 15 with (fail)
                rw [HV1.out]
                refine ext_wp fun X1 => ?_
                go_wp2_with (first  | (go_at_call 49; refine ((by with_reducible exact D3.out _ : Calls _ _ _ _ _)).mono ?_; rintro e w2 ⟨rfl, rfl⟩)  | (go_at_call 49; refine ((by with_reducible exact D4.out _ : Calls _ _ _ _ _)).mono ?_; rintro e w2 ⟨rfl, rfl⟩))
                go_ret
                exact HRET.out 10 _ (by decide) HX2.out
              have HE0 := Lib.hid hE
              have hways : (g.mt k != -1) = false ∨ ((g.mt k != -1) = true ∧ decide (g.mt k ≤ g.mf k) = false) := by
                by_cases e : g.mt k = -1
                · exact Or.inl (by rw [e]; rfl)
                · exact Or.inr ⟨by rw [bne_iff_ne]; exact e, by rw [decide_eq_false_iff_not]; exact fun h => hE ⟨e, h⟩⟩
              clear hE
              by_cases hk0 : 0 < k
              · obtain ⟨q, rfl⟩ : ∃ q, k = q + 1 := ⟨k - 1, by omega⟩
                have g0 : decide ((0 : Int) < ((q + 1 : Nat) : Int)) = true := by rw [decide_eq_true_eq]; omega
                have g0' : decide (0 < q + 1) = true := by simp
                have p0 : X.1.cell? ⟨b, off + q * 4, none⟩ = some (.string (g.ms q)) := hc q (by omega) 0 (by omega)
                have p1 : X.1.cell? ⟨b, off + q * 4 + 1, none⟩ = some (.string (g.mp q)) := hc q (by omega) 1 (by omega)
                have p2 : X.1.cell? ⟨b, off + q * 4 + 2, none⟩ = some (.int .i64 (g.mf q)) := hc q (by omega) 2 (by omega)
                have p3 : X.1.cell? ⟨b, off + q * 4 + 3, none⟩ = some (.int .i64 (g.mt q)) := hc q (by omega) 3 (by omega)
                have P0 := Ext.ex (below_cell HB1.out p0)
                have P1 := Ext.ex (below_cell HB1.out p1)
                have P2 := Ext.ex (below_cell HB1.out p2)
                have P3 := Ext.ex (below_cell HB1.out p3)
                have DC := Lib.hid (fun (Y : Ext V1) => mountOrder_any (g.ms q) (g.mp q) (g.ms (q + 1)) (g.mp (q + 1)) (g.mf q) (g.mt q) (g.mf (q + 1)) (g.mt (q + 1)) Y.1)
                have ho := ord_neg (g.mf q) (g.mf (q + 1)) (g.ms q) (g.ms (q + 1))
                unfold mountV at DC
                rw [show befM g (q + 1 - 1) (q + 1) = befB (g.mf q) (g.mf (q + 1)) (g.ms q) (g.ms (q + 1)) from rfl] at HX2
                generalize befB (g.mf q) (g.mf (q + 1)) (g.ms q) (g.ms (q + 1)) = bb at ho HX2
                generalize ordI (g.mf q) (g.mf (q + 1)) (g.ms q) (g.ms (q + 1)) = oi at DC ho
                clear hc p0 p1 p2 p3 hk0
                rcases hways with hn | ⟨hn, hE2⟩
                · skip
                  cases bb
                  · rw [if_pos (Or.inr ⟨by omega, rfl⟩)] at HX2
                    rw [Bool.not_false] at ho
                    go_upto_region 15 with (fail)
                    rw [HV1.out]
                    refine ext_wp fun X1 => ?_
                    go_wp2_with (first  | (go_at_call 49; refine ((by with_reducible exact D3.out _ : Calls _ _ _ _ _)).mono ?_; rintro e w2 ⟨rfl, rfl⟩)  | (go_at_call 49; refine ((by with_reducible exact D4.out _ : Calls _ _ _ _ _)).mono ?_; rintro e w2 ⟨rfl, rfl⟩))
                    refine wp_region_ext (W := V1) _ (by kernel_rfl) (by kernel_rfl) ?_
                    repeat go_big_quiet_step ((go_at_call 50; exact Ext.calls _ (DC.out _)))
                    refine wpQuiet_nil ?_
                    intro _ hw'
                    obtain ⟨Y, rfl⟩ := hw'

                    go_wp2_with fail
                    go_ret
                    exact HRET.out 10 _ (by decide) HX2.out
                  · rw [if_neg (fun hh => hh.elim HE0.out (fun h => absurd h.2 (by simp)))] at HX2
                    rw [Bool.not_true] at ho
                    go_upto_region 15 with (fail)
                    rw [HV1.out]
                    refine ext_wp fun X1 => ?_
                    go_wp2_with (first  | (go_at_call 49; refine ((by with_reducible exact D3.out _ : Calls _ _ _ _ _)).mono ?_; rintro e w2 ⟨rfl, rfl⟩)  | (go_at_call 49; refine ((by with_reducible exact D4.out _ : Calls _ _ _ _ _)).mono ?_; rintro e w2 ⟨rfl, rfl⟩))
                    refine wp_region_ext (W := V1) _ (by kernel_rfl) (by kernel_rfl) ?_
                    repeat go_big_quiet_step ((go_at_call 50; exact Ext.calls _ (DC.out _)))
                    refine wpQuiet_nil ?_
                    intro _ hw'
                    obtain ⟨Y, rfl⟩ := hw'

                    go_wp2_with fail
                    go_roundw
                    case rel => exact ⟨q + 1 + 1, by go_num, by omega, Lib.hid ⟨⟨_, below_step HB01.out Y.2⟩, rfl⟩, HX2⟩
                    case measure => simp [intOf]; omega
                · have D4 : Hid (∀ W, Calls Tryz.prog 49 #[.int .i64 (g.mt (q + 1))] W fun e w' => e = .returned (.bool true) ∧ W = w') := Lib.hid (fun W => by rw [← HNN.out hn]; exact D4.out W)
                  cases bb
                  · rw [if_pos (Or.inr ⟨by omega, rfl⟩)] at HX2
                    rw [Bool.not_false] at ho
                    go_upto_region 15 with (fail)
                    rw [HV1.out]
                    refine ext_wp fun X1 => ?_
                    go_wp2_with (first  | (go_at_call 49; refine ((by with_reducible exact D3.out _ : Calls _ _ _ _ _)).mono ?_; rintro e w2 ⟨rfl, rfl⟩)  | (go_at_call 49; refine ((by with_reducible exact D4.out _ : Calls _ _ _ _ _)).mono ?_; rintro e w2 ⟨rfl, rfl⟩))
                    refine wp_region_ext (W := V1) _ (by kernel_rfl) (by kernel_rfl) ?_
                    repeat go_big_quiet_step ((go_at_call 50; exact Ext.calls _ (DC.out _)))
                    refine wpQuiet_nil ?_
                    intro _ hw'
                    obtain ⟨Y, rfl⟩ := hw'

                    go_wp2_with fail
                    go_ret
                    exact HRET.out 10 _ (by decide) HX2.out
                  · rw [if_neg (fun hh => hh.elim HE0.out (fun h => absurd h.2 (by simp)))] at HX2
                    rw [Bool.not_true] at ho
                    go_upto_region 15 with (fail)
                    rw [HV1.out]
                    refine ext_wp fun X1 => ?_
                    go_wp2_with (first  | (go_at_call 49; refine ((by with_reducible exact D3.out _ : Calls _ _ _ _ _)).mono ?_; rintro e w2 ⟨rfl, rfl⟩)  | (go_at_call 49; refine ((by with_reducible exact D4.out _ : Calls _ _ _ _ _)).mono ?_; rintro e w2 ⟨rfl, rfl⟩))
                    refine wp_region_ext (W := V1) _ (by kernel_rfl) (by kernel_rfl) ?_
                    repeat go_big_quiet_step ((go_at_call 50; exact Ext.calls _ (DC.out _)))
                    refine wpQuiet_nil ?_
                    intro _ hw'
                    obtain ⟨Y, rfl⟩ := hw'

                    go_wp2_with fail
                    go_roundw
                    case rel => exact ⟨q + 1 + 1, by go_num, by omega, Lib.hid ⟨⟨_, below_step HB01.out Y.2⟩, rfl⟩, HX2⟩
                    case measure => simp [intOf]; omega

              · obtain rfl : k = 0 := by omega
                rw [if_neg (fun hh => hh.elim HE0.out (fun h => absurd h.1 (by omega)))] at HX2
                have g0 : decide ((0 : Int) < ((0 : Nat) : Int)) = false := by simp
                have g0' : decide ((0 : Int) < (0 : Int)) = false := by simp
                simp only [Nat.zero_mul, Nat.add_zero] at e0 e1 e2 e3
                clear hc hk0
                rcases hways with hn | ⟨hn, hE2⟩
                · skip
                  go_upto_region 15 with (fail)
                  rw [HV1.out]
                  refine ext_wp fun X1 => ?_
                  go_wp2_with (first  | (go_at_call 49; refine ((by with_reducible exact D3.out _ : Calls _ _ _ _ _)).mono ?_; rintro e w2 ⟨rfl, rfl⟩)  | (go_at_call 49; refine ((by with_reducible exact D4.out _ : Calls _ _ _ _ _)).mono ?_; rintro e w2 ⟨rfl, rfl⟩))
                  refine wp_region_ext (W := V1) _ (by kernel_rfl) (by kernel_rfl) ?_
                  repeat go_big_quiet_step (fail)
                  refine wpQuiet_nil ?_
                  intro _ hw'
                  obtain ⟨Y, rfl⟩ := hw'

                  go_wp2_with fail
                  go_roundw
                  case rel => exact ⟨0 + 1, by go_num, by omega, Lib.hid ⟨⟨_, below_step HB01.out Y.2⟩, rfl⟩, HX2⟩
                  case measure => simp [intOf]; omega
                · have D4 : Hid (∀ W, Calls Tryz.prog 49 #[.int .i64 (g.mt 0)] W fun e w' => e = .returned (.bool true) ∧ W = w') := Lib.hid (fun W => by rw [← HNN.out hn]; exact D4.out W)
                  go_upto_region 15 with (fail)
                  rw [HV1.out]
                  refine ext_wp fun X1 => ?_
                  go_wp2_with (first  | (go_at_call 49; refine ((by with_reducible exact D3.out _ : Calls _ _ _ _ _)).mono ?_; rintro e w2 ⟨rfl, rfl⟩)  | (go_at_call 49; refine ((by with_reducible exact D4.out _ : Calls _ _ _ _ _)).mono ?_; rintro e w2 ⟨rfl, rfl⟩))
                  refine wp_region_ext (W := V1) _ (by kernel_rfl) (by kernel_rfl) ?_
                  repeat go_big_quiet_step (fail)
                  refine wpQuiet_nil ?_
                  intro _ hw'
                  obtain ⟨Y, rfl⟩ := hw'

                  go_wp2_with fail
                  go_roundw
                  case rel => exact ⟨0 + 1, by go_num, by omega, Lib.hid ⟨⟨_, below_step HB01.out Y.2⟩, rfl⟩, HX2⟩
                  case measure => simp [intOf]; omega

            · have t1 : decide ((k : Int) < (g.nm : Int)) = false := by rw [decide_eq_false_iff_not]; omega
              have t1' : decide (k < g.nm) = false := by simpa using hlt
              have hx := HX.out
              rw [show g.nm - k = 0 by omega, chkM] at hx
              have HZ : Hid (z0 = 0) := Lib.hid hx.symm
              clear hx HX hlt
              have e0 := G0 X
              have e1 := G1 X
              have e2 := G2 X
              have e3 := G3 X
              have hbw := X.down HBW3.out hsw3'
              have hszx : w.heap.size + 3 ≤ X.1.heap.size := Nat.le_trans hsw3 X.2.size
              obtain ⟨U0, hU0⟩ : ∃ U0, X.1 = U0 := ⟨_, rfl⟩
              rw [hU0] at e0 e1 e2 e3 hbw hszx ⊢
              obtain ⟨n1, hn1⟩ : ∃ n1, U0.heap.size = n1 := ⟨_, rfl⟩
              obtain ⟨U, hU, hbu, hsu, ms, mp⟩ := two_maps U0 Tryz.prog 9 intR (fun x : Int => .lit (.int .i64 x)) (.lit (.int .i64 0)) (fun _ => 0) (fun _ => rfl)
              have HHU := Lib.hid hU
              have f0 := below_cell hbu e0
              have f1 := below_cell hbu e1
              have f2 := below_cell hbu e2
              have f3 := below_cell hbu e3
              rw [hn1] at ms mp hsu hszx
              have hnu : n1 + 1 < U.heap.size := by omega
              have hswu : w.heap.size ≤ U.heap.size := by omega
              have HN1 := Lib.hid hn1
              have HMS := Lib.hid (strMap_ext (f' := fun s => Gmt.lastE g.ms (fun i => endG (g.mt i)) 0 s) ms (by funext s; rfl))
              have HMP := Lib.hid (strMap_ext (f' := fun s => Gmt.lastE g.mp (fun i => endG (g.mt i)) 0 s) mp (by funext s; rfl))
              have HBU := Lib.hid (hbw.trans (hbu.mono (by omega)))
              have HZ0' : Hid (chkM g g.nm 0 = 0) := Lib.hid (HZ0.out.trans HZ.out)
              have hgo : ¬ (w.heap.size = n1 ∨ w.heap.size = n1 + 1) := by omega
              clear HXE X hU0 hU hbu ms mp hsu hbw e0 e1 e2 e3 G0 G1 G2 G3 G0a G1a G2a G3a HM3 HM4 hn1
              go_upto_region 24 with (fail)
              rw [HHU.out, HN1.out]
              go_wp2_with fail
              have G0 := ExtO.ex (O := fun b => b = n1 ∨ b = n1 + 1) hgo f0
              have G1 := ExtO.ex (O := fun b => b = n1 ∨ b = n1 + 1) hgo f1
              have G2 := ExtO.ex (O := fun b => b = n1 ∨ b = n1 + 1) hgo f2
              have G3 := ExtO.ex (O := fun b => b = n1 ∨ b = n1 + 1) hgo f3
              clear f0 f1 f2 f3 hgo
              go_loopw [106] (fun iv wr => ∃ (k : Nat), iv = .int .i64 k ∧ k ≤ g.nm ∧ Hid (∃ X : ExtO (fun b => b = n1 ∨ b = n1 + 1) U, wr = X.1)
                ∧ Hid (StrMap wr Tryz.prog 9 intR n1 k (fun x : Int => .lit (.int .i64 x)) (.lit (.int .i64 0)) (fun s => Gmt.lastE g.ms (fun i => endG (g.mt i)) k s))
                ∧ Hid (StrMap wr Tryz.prog 9 intR (n1 + 1) k (fun x : Int => .lit (.int .i64 x)) (.lit (.int .i64 0)) (fun s => Gmt.lastE g.mp (fun i => endG (g.mt i)) k s))
                ∧ Hid (∀ i, i < k → ¬ Gmt.bad1 g.ms g.mp g.mf (fun i => endG (g.mt i)) i)) (fun iv _ => g.nm - (intOf iv).toNat)
              case atStart => exact ⟨0, rfl, by omega, Lib.hid ⟨⟨_, Kept.refl _ _⟩, rfl⟩, HMS, HMP, Lib.hid (fun i hi => by omega)⟩
              case round =>
                obtain ⟨k, rfl, hk, HXE, HS, HP, HN⟩ := hrel
                obtain ⟨X, rfl⟩ := HXE.out
                by_cases hlt : k < g.nm
                · have t1 : decide ((k : Int) < (g.nm : Int)) = true := by rw [decide_eq_true_eq]; omega
                  have t1' : decide (k < g.nm) = true := by simpa using hlt
                  obtain ⟨b, off, rfl, hbl, hc⟩ := (HG.out.r2.below (X.down HBU.out hswu (fun k hk => by omega)) (Nat.le_refl _)).here (by omega)
                  have e0 : X.1.cell? ⟨b, off + k * 4, none⟩ = some (.string (g.ms k)) := hc k hlt 0 (by omega)
                  have e1 : X.1.cell? ⟨b, off + k * 4 + 1, none⟩ = some (.string (g.mp k)) := hc k hlt 1 (by omega)
                  have e2 : X.1.cell? ⟨b, off + k * 4 + 2, none⟩ = some (.int .i64 (g.mf k)) := hc k hlt 2 (by omega)
                  have e3 : X.1.cell? ⟨b, off + k * 4 + 3, none⟩ = some (.int .i64 (g.mt k)) := hc k hlt 3 (by omega)
                  have hz2 := HG.out.z2 k hlt
                  obtain ⟨V1, hV1, hb1, hs1, hl1⟩ := alloc_cells X.1 #[.string (g.ms k), .string (g.mp k), .int .i64 (g.mf k), .int .i64 (g.mt k)] 52
                  have hk1 : Kept (fun b => b = n1 ∨ b = n1 + 1) U V1 := X.2.trans (Kept.of_below hb1)
                  have hnx : n1 + 1 < X.1.heap.size := Nat.lt_of_lt_of_le hnu X.2.size
                  have l0 := hl1 0 _ rfl
                  have l1 := hl1 1 _ rfl
                  have l2 := hl1 2 _ rfl
                  have l3 := hl1 3 _ rfl
                  have L0 := ExtO.ex (O := fun b => b = n1 ∨ b = n1 + 1) (by simp <;> omega) l0
                  have L1 := ExtO.ex (O := fun b => b = n1 ∨ b = n1 + 1) (by simp <;> omega) l1
                  have L2 := ExtO.ex (O := fun b => b = n1 ∨ b = n1 + 1) (by simp <;> omega) l2
                  have L3 := ExtO.ex (O := fun b => b = n1 ∨ b = n1 + 1) (by simp <;> omega) l3
                  have HK1 := Lib.hid hk1
                  have HV1 := Lib.hid hV1
                  have HS1 := Lib.hid (HS.out.keptO (Kept.of_below (O := fun _ => False) hb1) (by simp))
                  have HP1 := Lib.hid (HP.out.keptO (Kept.of_below (O := fun _ => False) hb1) (by simp))
                  have kS : (Instr.lookup 96 (.map (some n1)) (.string (g.ms k)) false).run Tryz.prog V1 = .ok (.int .i64 (Gmt.lastE g.ms (fun i => endG (g.mt i)) k (g.ms k))) V1 :=
                    StrMap.look (val := Value.int .i64) HS1.out HUS.out HUI.out (HzI.out _) (zp := []) rfl intR_inv hz2.1
                  have kP : (Instr.lookup 96 (.map (some (n1 + 1))) (.string (g.mp k)) false).run Tryz.prog V1 = .ok (.int .i64 (Gmt.lastE g.mp (fun i => endG (g.mt i)) k (g.mp k))) V1 :=
                    StrMap.look (val := Value.int .i64) HP1.out HUS.out HUI.out (HzI.out _) (zp := []) rfl intR_inv hz2.2
                  have DE := Lib.hid (fun (W : World) => gend_any (g.ms k) (g.mp k) (g.mf k) (g.mt k) W)
                  unfold mountV at DE
                  have HBV := Lib.hid ((X.down HBU.out hswu (fun k hk => by omega)).trans (hb1.mono (Nat.le_trans hswu X.2.size)))
                  have HZ2 := Lib.hid hz2
                  have LS := Lib.hid (lastE_step g.ms (fun i => endG (g.mt i)) k)
                  have LP := Lib.hid (lastE_step g.mp (fun i => endG (g.mt i)) k)
                  by_cases hbad : Gmt.bad1 g.ms g.mp g.mf (fun i => endG (g.mt i)) k
                  · have HA : Hid (anyOver g = true) := Lib.hid ((over_bad (HZ0'.out)).2 ⟨k, hlt, hbad⟩)
                    unfold Gmt.bad1 at hbad
                    generalize Gmt.lastE g.ms (fun i => endG (g.mt i)) k (g.ms k) = xs at kS hbad
                    generalize Gmt.lastE g.mp (fun i => endG (g.mt i)) k (g.mp k) = xp at kP hbad
                    clear hc hl1 hV1 hb1 hk1 hz2 HXE HS HP HN
                    have hw : decide (g.mf k < xs) = true ∨ (decide (g.mf k < xs) = false ∧ decide (g.mf k < xp) = true) := by
                      by_cases e : g.mf k < xs
                      · exact Or.inl (by simpa using e)
                      · exact Or.inr ⟨by simpa using e, by simpa using hbad.resolve_left e⟩
                    clear hbad
                    rcases hw with d1 | ⟨d1, d2⟩
                    all_goals
                      go_upto_region 27 with (fail)
                      rw [HV1.out]
                      go_wp2_with fail
                      go_ret
                      exact ⟨ret_int (by rw [← HZZ.out, HZ.out, HA.out]; rfl), HBV.out⟩
                  · have HN2 : Hid (∀ i, i < k + 1 → ¬ Gmt.bad1 g.ms g.mp g.mf (fun i => endG (g.mt i)) i) := Lib.hid (fun i hi => by
                      by_cases e : i = k
                      · subst e; exact hbad
                      · exact HN.out i (by omega))
                    unfold Gmt.bad1 at hbad
                    have d1 : decide (g.mf k < Gmt.lastE g.ms (fun i => endG (g.mt i)) k (g.ms k)) = false := by rw [decide_eq_false_iff_not]; exact fun h => hbad (Or.inl h)
                    have d2 : decide (g.mf k < Gmt.lastE g.mp (fun i => endG (g.mt i)) k (g.mp k)) = false := by rw [decide_eq_false_iff_not]; exact fun h => hbad (Or.inr h)
                    generalize Gmt.lastE g.ms (fun i => endG (g.mt i)) k (g.ms k) = xs at kS d1
                    generalize Gmt.lastE g.mp (fun i => endG (g.mt i)) k (g.mp k) = xp at kP d2
                    clear hc hl1 hV1 hb1 hk1 hz2 HXE HS HP HN hbad
                    go_upto_region 27 with (fail)
                    rw [HV1.out]
                    go_wp2_with fail
                    clear kS kP d1 d2
                    refine held_start (C := fun w' => ∃ Y : ExtO (fun b => b = n1 ∨ b = n1 + 1) V1, w' = Y.1) (by kernel_rfl) ?_
                    obtain ⟨Y0, hY0⟩ : ∃ Y : ExtO (fun b => b = n1 ∨ b = n1 + 1) V1, ({ V1 with drawn := V1.drawn + 1 } : World) = Y.1 := ⟨⟨{ V1 with drawn := V1.drawn + 1 }, ⟨rfl, rfl, rfl, Nat.le_refl _, fun _ _ _ => rfl⟩⟩, rfl⟩
                    have hS0 : StrMap Y0.1 Tryz.prog 9 intR n1 k (fun x : Int => .lit (.int .i64 x)) (.lit (.int .i64 0)) (fun s => Gmt.lastE g.ms (fun i => endG (g.mt i)) k s) := by
                      rw [← hY0]
                      exact HS1.out.keptO (O := fun _ => False) ⟨rfl, rfl, rfl, Nat.le_refl _, fun _ _ _ => rfl⟩ (by simp)
                    have hP0 : StrMap Y0.1 Tryz.prog 9 intR (n1 + 1) k (fun x : Int => .lit (.int .i64 x)) (.lit (.int .i64 0)) (fun s => Gmt.lastE g.mp (fun i => endG (g.mt i)) k s) := by
                      rw [← hY0]
                      exact HP1.out.keptO (O := fun _ => False) ⟨rfl, rfl, rfl, Nat.le_refl _, fun _ _ _ => rfl⟩ (by simp)
                    rw [hY0]
                    have HS0 := Lib.hid hS0
                    have HP0 := Lib.hid hP0
                    clear hY0 hS0 hP0 HS1 HP1
                    refine held_quiet (by kernel_rfl) (fun _ _ d _ _ h => by cases d <;> exact h) ⟨Y0, rfl⟩ [0, 1, 2, 3, 4, 5, 6, 8] 6 _ _ (by kernel_rfl) ?_
                    change wpQuiet _ _ _ _ (_ :: _ :: _ :: _ :: _ :: _ :: _ :: _ :: []) _
                    repeat go_big_quiet_step (fail)
                    refine wpQuiet_nil ?_
                    refine held_do (i := 7) _ rfl (by kernel_rfl) rfl (fun K hK => ?_)
                    go_simp
                    refine (DE.out _).mono ?_
                    rintro e w2 ⟨rfl, hb⟩
                    have HS2 := Lib.hid (HS0.out.keptO (Kept.of_below (O := fun _ => False) hb) (by simp))
                    have HP2 := Lib.hid (HP0.out.keptO (Kept.of_below (O := fun _ => False) hb) (by simp))
                    obtain ⟨Z, rfl⟩ : ∃ Z : ExtO (fun b => b = n1 ∨ b = n1 + 1) V1, w2 = Z.1 := ⟨⟨w2, Y0.2.trans (Kept.of_below hb)⟩, rfl⟩
                    refine hK _ _ ⟨Z, rfl⟩ ?_
                    clear hb HS0 HP0 hK K
                    refine held_do (i := 9) _ rfl (by kernel_rfl) rfl (fun K hK => ?_)
                    go_simp
                    refine (DE.out _).mono ?_
                    rintro e w2 ⟨rfl, hb⟩
                    have HS3 := Lib.hid (HS2.out.keptO (Kept.of_below (O := fun _ => False) hb) (by simp))
                    have HP3 := Lib.hid (HP2.out.keptO (Kept.of_below (O := fun _ => False) hb) (by simp))
                    obtain ⟨Z2, rfl⟩ : ∃ Z : ExtO (fun b => b = n1 ∨ b = n1 + 1) V1, w2 = Z.1 := ⟨⟨w2, Z.2.trans (Kept.of_below hb)⟩, rfl⟩
                    refine hK _ _ ⟨Z2, rfl⟩ ?_
                    clear hb HS2 HP2 hK K
                    have hkm : k < maxLen := by unfold maxLen; omega
                    have HKM := Lib.hid hkm
                    clear hkm
                    refine held_do (i := 10) _ rfl (by kernel_rfl) rfl (fun K hK => ?_)
                    refine wp_mapEntry_str (.tmp 126) (.tmp 128) rfl HUS.out HUI.out HzI.out rfl HS3.out HKM.out rfl HZ2.out.1 (fun v0 st w3 hg hp => ?_)
                    have HP4 := Lib.hid (HP3.out.kept hg (by simp))
                    have HPE := Lib.hid hp
                    obtain ⟨Z3, rfl⟩ : ∃ Z : ExtO (fun b => b = n1 ∨ b = n1 + 1) V1, w3 = Z.1 := ⟨⟨w3, Z2.2.grown hg (fun g hg _ => by injection hg with hg; exact Or.inl hg.symm)⟩, rfl⟩
                    refine hK _ _ ⟨Z3, rfl⟩ ?_
                    clear hg hp HS3 HP3 hK K
                    simp only [Act.put, List.setIfInBounds_toArray, List.set_cons_zero, List.set_cons_succ]
                    refine held_quiet (by kernel_rfl) (fun _ _ d _ _ h => by cases d <;> exact h) ⟨Z3, rfl⟩ [11] 2 _ _ (by kernel_rfl) ?_
                    change wpQuiet _ _ _ _ (_ :: []) _
                    repeat go_big_quiet_step (fail)
                    refine wpQuiet_nil ?_
                    refine held_do (i := 12) _ rfl (by kernel_rfl) rfl (fun K hK => ?_)
                    refine wp_entryStore_str (.tmp 126) (.tmp 137) (.tmp 133) rfl rfl rfl HPE.out rfl (y := endG (g.mt k)) rfl (fun w4 hm hg => ?_)
                    have HP5 := Lib.hid (HP4.out.kept hg (by simp))
                    have HS5 := Lib.hid (strMap_ext hm LS.out)
                    obtain ⟨Z4, rfl⟩ : ∃ Z : ExtO (fun b => b = n1 ∨ b = n1 + 1) V1, w4 = Z.1 := ⟨⟨w4, Z3.2.grown hg (fun g hg _ => by injection hg with hg; exact Or.inl hg.symm)⟩, rfl⟩
                    refine hK _ _ ⟨Z4, rfl⟩ ?_
                    clear hg hm HP4 HPE hK K
                    simp only [Act.put]
                    refine held_do (i := 13) _ rfl (by kernel_rfl) rfl (fun K hK => ?_)
                    refine wp_update_str (.tmp 129) (.tmp 131) (.tmp 135) rfl HUS.out HUI.out rfl HP5.out HKM.out rfl HZ2.out.2 rfl (y := endG (g.mt k)) rfl (fun w5 hm hg => ?_)
                    have HS6 := Lib.hid (HS5.out.kept hg (by simp))
                    have HP6 := Lib.hid (strMap_ext hm LP.out)
                    obtain ⟨Z5, rfl⟩ : ∃ Z : ExtO (fun b => b = n1 ∨ b = n1 + 1) V1, w5 = Z.1 := ⟨⟨w5, Z4.2.grown hg (fun g hg _ => by injection hg with hg; exact Or.inr hg.symm)⟩, rfl⟩
                    refine hK _ _ ⟨Z5, rfl⟩ ?_
                    clear hg hm HS5 HP5 hK K
                    simp only [Act.put]
                    refine wpAnyH_done (by kernel_rfl) ?_ _
                    go_wp2_with fail
                    go_roundw
                    case rel => exact ⟨k + 1, by go_num, by omega, Lib.hid ⟨⟨_, HK1.out.trans Z5.2⟩, rfl⟩, HS6, HP6, HN2⟩
                    case measure => simp [intOf]; omega
                · have t1 : decide ((k : Int) < (g.nm : Int)) = false := by rw [decide_eq_false_iff_not]; omega
                  have t1' : decide (k < g.nm) = false := by simpa using hlt
                  have HA : Hid (anyOver g = false) := Lib.hid (by
                    cases ha : anyOver g
                    · rfl
                    · obtain ⟨i, hi, hb⟩ := (over_bad HZ0'.out).1 ha
                      exact absurd hb (HN.out i (by omega)))
                  clear hlt HN HXE HS HP
                  go_wp2_with fail
                  go_ret
                  exact ⟨ret_int (by rw [← HZZ.out, HZ.out, HA.out]; rfl), X.down HBU.out hswu (fun k hk => by omega)⟩

end Go.Proofs.YthdmceeipmmhjaaGreatDoor

/- Gear: Check of the reference (printed by wip/g/gen_rcheck.py). -/
namespace Go.Proofs.YthdmceeipmmhjaaGreatDoor
open Go.RowKit Go.BigFrame
open Gar (momG endG chk chkP chkS chkM chkU chkUse anyOver befU)

def zP (g : Gar) : Int := if chkP g g.np 0 ≠ 0 then chkP g g.np 0 else chkS g g.ns 0
def zM (g : Gar) : Int := if chkM g g.nm 0 ≠ 0 then chkM g g.nm 0 else if anyOver g = true then 11 else 0
def bigG (g : Gar) : Prop := 500 < g.np ∨ 100 < g.ns ∨ 2000 < g.nm ∨ 5000 < g.nu
theorem chk_eq (g : Gar) : (bigG g → chk g = 3) ∧ (¬ bigG g → chk g = if zP g ≠ 0 then zP g else if zM g ≠ 0 then zM g else chkU g g.nu 0) := by
  unfold chk bigG zP zM
  refine ⟨fun h => by rw [if_pos h], fun h => ?_⟩
  rw [if_neg h]
  by_cases h1 : chkP g g.np 0 = 0
  · rw [h1]
    by_cases h2 : chkS g g.ns 0 = 0
    · rw [h2]
      by_cases h3 : chkM g g.nm 0 = 0
      · rw [h3]
        by_cases h4 : anyOver g = true
        · simp [h4]
        · simp [h4]
      · simp [h3]
    · simp [h2]
  · simp [h1]
set_option maxHeartbeats 8000000 in
set_option maxRecDepth 100000 in
theorem rCheck_any (g : Gar) (a0 a1 a2 a3 : Option Addr) (c0 c1 c2 c3 : Nat) (w : World) (h : GarIn w g a0 a1 a2 a3) (hc2 : g.nm ≤ c2) (hc3 : g.nu ≤ c3) :
    Calls Tryz.prog 16 #[garV g a0 a1 a2 a3 c0 c1 c2 c3] w fun e w' => e = .returned (.int .i64 (chk g)) ∧ Below w.heap.size w w' := by
  have HG := Lib.hid h
  have hl0 := h.l0
  have hl1 := h.l1
  have hl2 := h.l2
  have hl3 := h.l3
  clear h
  have DP0 := Lib.hid (fun (W : World) (hb : Below w.heap.size w W) => rcheckParts_any g a0 a1 a2 a3 c0 c1 c2 c3 W (HG.out.below hb))
  have DM0 := Lib.hid (fun (W : World) (hb : Below w.heap.size w W) => rcheckMounts_any g a0 a1 a2 a3 c0 c1 c2 c3 W (HG.out.below hb) hc2)
  rw [show (if chkP g g.np 0 ≠ 0 then chkP g g.np 0 else chkS g g.ns 0) = zP g from rfl] at DP0
  rw [show (if chkM g g.nm 0 ≠ 0 then chkM g g.nm 0 else if anyOver g = true then 11 else 0) = zM g from rfl] at DM0
  unfold garV at DP0 DM0 ⊢
  obtain ⟨hbig, hsmall⟩ := chk_eq g
  obtain ⟨z, hz⟩ : ∃ z, chk g = z := ⟨_, rfl⟩
  obtain ⟨zu, hzu⟩ : ∃ z, chkU g g.nu 0 = z := ⟨_, rfl⟩
  rw [hz]
  rw [hz] at hbig hsmall
  rw [hzu] at hsmall
  generalize zP g = zp at DP0 hsmall
  generalize zM g = zm at DM0 hsmall
  have HBIG := Lib.hid hbig
  have HSMALL := Lib.hid hsmall
  have HZU := Lib.hid hzu
  clear hz hbig hsmall hzu
  obtain ⟨W0, hW0, hb0, hs0, hl0'⟩ := alloc_cells w #[.slice a0 g.np c0, .slice a1 g.ns c1, .slice a2 g.nm c2, .slice a3 g.nu c3] 27
  have G0 := Ext.ex (hl0' 0 _ rfl)
  have G1 := Ext.ex (hl0' 1 _ rfl)
  have G2 := Ext.ex (hl0' 2 _ rfl)
  have G3 := Ext.ex (hl0' 3 _ rfl)
  have HW0 := Lib.hid hW0
  have HB0 := Lib.hid hb0
  have hs0' : w.heap.size ≤ W0.heap.size := by omega
  have DP := Lib.hid (fun (Y : Ext W0) => DP0.out Y.1 (Y.down HB0.out hs0'))
  have DM := Lib.hid (fun (Y : Ext W0) => DM0.out Y.1 (Y.down HB0.out hs0'))
  clear hl0' hW0 hb0 hs0 DP0 DM0
  by_cases hb : bigG g
  · have HZ := Lib.hid (HBIG.out hb)
    unfold bigG at hb
    have hw : 500 < g.np ∨ (¬ 500 < g.np ∧ 100 < g.ns) ∨ (¬ 500 < g.np ∧ ¬ 100 < g.ns ∧ 2000 < g.nm) ∨ (¬ 500 < g.np ∧ ¬ 100 < g.ns ∧ ¬ 2000 < g.nm ∧ 5000 < g.nu) := by omega
    clear hb
    rcases hw with q0 | ⟨q0, q1⟩ | ⟨q0, q1, q2⟩ | ⟨q0, q1, q2, q3⟩
    · have d0 : decide ((500 : Int) < (g.np : Int)) = true := by rw [decide_eq_true_eq]; omega
      have d0' : decide (500 < g.np) = true := by simpa using q0
      clear q0
      go_enter Tryz.func16, Tryz.ntmps16
      go_upto_region 1 with (fail)
      rw [HW0.out]
      refine ext_wp fun X => ?_
      go_wp2_with fail
      go_ret
      exact ⟨ret_int HZ.out.symm, X.down HB0.out hs0'⟩
    · have d0 : decide ((500 : Int) < (g.np : Int)) = false := by rw [decide_eq_false_iff_not]; omega
      have d0' : decide (500 < g.np) = false := by simpa using q0
      have d1 : decide ((100 : Int) < (g.ns : Int)) = true := by rw [decide_eq_true_eq]; omega
      have d1' : decide (100 < g.ns) = true := by simpa using q1
      clear q0 q1
      go_enter Tryz.func16, Tryz.ntmps16
      go_upto_region 1 with (fail)
      rw [HW0.out]
      refine ext_wp fun X => ?_
      go_wp2_with fail
      go_ret
      exact ⟨ret_int HZ.out.symm, X.down HB0.out hs0'⟩
    · have d0 : decide ((500 : Int) < (g.np : Int)) = false := by rw [decide_eq_false_iff_not]; omega
      have d0' : decide (500 < g.np) = false := by simpa using q0
      have d1 : decide ((100 : Int) < (g.ns : Int)) = false := by rw [decide_eq_false_iff_not]; omega
      have d1' : decide (100 < g.ns) = false := by simpa using q1
      have d2 : decide ((2000 : Int) < (g.nm : Int)) = true := by rw [decide_eq_true_eq]; omega
      have d2' : decide (2000 < g.nm) = true := by simpa using q2
      clear q0 q1 q2
      go_enter Tryz.func16, Tryz.ntmps16
      go_upto_region 1 with (fail)
      rw [HW0.out]
      refine ext_wp fun X => ?_
      go_wp2_with fail
      go_ret
      exact ⟨ret_int HZ.out.symm, X.down HB0.out hs0'⟩
    · have d0 : decide ((500 : Int) < (g.np : Int)) = false := by rw [decide_eq_false_iff_not]; omega
      have d0' : decide (500 < g.np) = false := by simpa using q0
      have d1 : decide ((100 : Int) < (g.ns : Int)) = false := by rw [decide_eq_false_iff_not]; omega
      have d1' : decide (100 < g.ns) = false := by simpa using q1
      have d2 : decide ((2000 : Int) < (g.nm : Int)) = false := by rw [decide_eq_false_iff_not]; omega
      have d2' : decide (2000 < g.nm) = false := by simpa using q2
      have d3 : decide ((5000 : Int) < (g.nu : Int)) = true := by rw [decide_eq_true_eq]; omega
      have d3' : decide (5000 < g.nu) = true := by simpa using q3
      clear q0 q1 q2 q3
      go_enter Tryz.func16, Tryz.ntmps16
      go_upto_region 1 with (fail)
      rw [HW0.out]
      refine ext_wp fun X => ?_
      go_wp2_with fail
      go_ret
      exact ⟨ret_int HZ.out.symm, X.down HB0.out hs0'⟩
  · have HZ := Lib.hid (HSMALL.out hb)
    unfold bigG at hb
    have q0 : ¬ 500 < g.np := by omega
    have q1 : ¬ 100 < g.ns := by omega
    have q2 : ¬ 2000 < g.nm := by omega
    have q3 : ¬ 5000 < g.nu := by omega
    have d0 : decide ((500 : Int) < (g.np : Int)) = false := by rw [decide_eq_false_iff_not]; omega
    have d1 : decide ((100 : Int) < (g.ns : Int)) = false := by rw [decide_eq_false_iff_not]; omega
    have d2 : decide ((2000 : Int) < (g.nm : Int)) = false := by rw [decide_eq_false_iff_not]; omega
    have d3 : decide ((5000 : Int) < (g.nu : Int)) = false := by rw [decide_eq_false_iff_not]; omega
    have d0' : decide (500 < g.np) = false := by simpa using q0
    have d1' : decide (100 < g.ns) = false := by simpa using q1
    have d2' : decide (2000 < g.nm) = false := by simpa using q2
    have d3' : decide (5000 < g.nu) = false := by simpa using q3
    clear hb HBIG HSMALL q0 q1 q2 q3
    by_cases hzp : zp = 0
    case neg =>
      have n1 : (zp != 0) = true := by rw [bne_iff_ne]; exact hzp
      have HZ2 : Hid (z = zp) := Lib.hid (by rw [HZ.out, if_pos hzp])
      clear HZ hzp
      go_enter Tryz.func16, Tryz.ntmps16
      go_upto_region 1 with (fail)
      rw [HW0.out]
      refine ext_wp fun X => ?_
      go_wp2_with fail
      refine (Ext.calls _ (DP.out _)).mono ?_
      rintro e w2 ⟨rfl, Y, rfl⟩
      go_wp2_with fail
      go_ret
      exact ⟨ret_int HZ2.out.symm, Y.down HB0.out hs0'⟩
    case pos =>
    subst hzp
    by_cases hzm : zm = 0
    case neg =>
      have n1 : (zm != 0) = true := by rw [bne_iff_ne]; exact hzm
      have HZ2 : Hid (z = zm) := Lib.hid (by rw [HZ.out, if_neg (by simp), if_pos hzm])
      clear HZ hzm
      go_enter Tryz.func16, Tryz.ntmps16
      go_upto_region 1 with (fail)
      rw [HW0.out]
      refine ext_wp fun X => ?_
      go_wp2_with fail
      refine (Ext.calls _ (DP.out _)).mono ?_
      rintro e w2 ⟨rfl, Y, rfl⟩
      go_wp2_with fail
      refine (Ext.calls _ (DM.out _)).mono ?_
      rintro e w2 ⟨rfl, Y, rfl⟩
      go_wp2_with fail
      go_ret
      exact ⟨ret_int HZ2.out.symm, Y.down HB0.out hs0'⟩
    case pos =>
    subst hzm
    have HZ2 : Hid (zu = z) := Lib.hid (by rw [HZ.out, if_neg (by simp), if_neg (by simp)])
    clear HZ
    go_enter Tryz.func16, Tryz.ntmps16
    go_upto_region 1 with (fail)
    rw [HW0.out]
    refine ext_wp fun X => ?_
    go_wp2_with fail
    refine (Ext.calls _ (DP.out _)).mono ?_
    rintro e w2 ⟨rfl, Y, rfl⟩
    go_wp2_with fail
    refine (Ext.calls _ (DM.out _)).mono ?_
    rintro e w2 ⟨rfl, Y2, rfl⟩
    go_wp2_with fail
    go_loopw [43] (fun iv wr => ∃ (k : Nat), iv = .int .i64 k ∧ k ≤ g.nu ∧ (∃ X : Ext W0, wr = X.1) ∧ Hid (chkU g (g.nu - k) k = zu)) (fun iv _ => g.nu - (intOf iv).toNat)
    case atStart => exact ⟨0, rfl, by omega, ⟨Y2, rfl⟩, HZU⟩
    case round =>
      obtain ⟨k, rfl, hk, ⟨X, rfl⟩, HX⟩ := hrel
      by_cases hlt : k < g.nu
      · have t1 : decide ((k : Int) < (g.nu : Int)) = true := by rw [decide_eq_true_eq]; omega
        have t1' : decide (k < g.nu) = true := by simpa using hlt
        obtain ⟨b, off, rfl, hbl, hc⟩ := (HG.out.r3.below (X.down HB0.out hs0') (Nat.le_refl _)).here (by omega)
        have e0 : X.1.cell? ⟨b, off + k * 5, none⟩ = some (.string (g.un k)) := hc k hlt 0 (by omega)
        have e1 : X.1.cell? ⟨b, off + k * 5 + 1, none⟩ = some (.string (g.ur k)) := hc k hlt 1 (by omega)
        have e2 : X.1.cell? ⟨b, off + k * 5 + 2, none⟩ = some (.int .i64 (g.uf k)) := hc k hlt 2 (by omega)
        have e3 : X.1.cell? ⟨b, off + k * 5 + 3, none⟩ = some (.int .i64 (g.us k)) := hc k hlt 3 (by omega)
        have e4 : X.1.cell? ⟨b, off + k * 5 + 4, none⟩ = some (.int .i64 (g.uw k)) := hc k hlt 4 (by omega)
        have hx := HX.out
        rw [show g.nu - k = (g.nu - k - 1) + 1 by omega, chkU] at hx
        rw [show ((List.range k).any fun i => decide (g.un i = g.un k)) = anyK (fun i => decide (g.un i = g.un k)) k from rfl] at hx
        have HX2 := Lib.hid hx
        obtain ⟨W1, hW1, hb1, hs1, hl1⟩ := alloc_cells X.1 #[.string (g.un k), .string (g.ur k), .int .i64 (g.uf k), .int .i64 (g.us k), .int .i64 (g.uw k)] 54
        have L0 := Ext.ex (hl1 0 _ rfl)
        have L1 := Ext.ex (hl1 1 _ rfl)
        have L2 := Ext.ex (hl1 2 _ rfl)
        have L3 := Ext.ex (hl1 3 _ rfl)
        have L4 := Ext.ex (hl1 4 _ rfl)
        have hb01 := below_step X.2 hb1
        have M0 := Ext.re hb01 G0
        have M1 := Ext.re hb01 G1
        have M2 := Ext.re hb01 G2
        have M3 := Ext.re hb01 G3
        have HB01 := Lib.hid hb01
        have hbw := HB0.out.trans (hb01.mono hs0')
        have hsw : w.heap.size ≤ W1.heap.size := hbw.size
        have HBW := Lib.hid hbw
        have HB1 := Lib.hid hb1
        have HW1 := Lib.hid hW1
        have DU := Lib.hid (fun (Y : Ext W1) => rcheckUse_any g (some ⟨b, off, none⟩) k c3 (g.un k) (g.ur k) (g.uf k) (g.us k) (g.uw k) Y.1 (HG.out.z3 k hlt).1 (HG.out.z3 k hlt).2 hk hl3 (HG.out.r3.below (Y.down HBW.out hsw) (Nat.le_refl _)))
        have hkc : (k : Int) ≤ (c3 : Int) := by omega
        have hkc' : k ≤ c3 := by omega
        unfold useV at DU
        generalize chkUse (g.un k) (g.ur k) (anyK (fun i => decide (g.un i = g.un k)) k) (g.uf k) (g.us k) (g.uw k) = zk at DU HX2
        clear hx HX hl1 hW1 hb1 hs1 hb01 hbw
        by_cases hzk : zk = 0
        case neg =>
          have n1 : (zk != 0) = true := by rw [bne_iff_ne]; exact hzk
          rw [if_pos hzk] at HX2
          clear hc hzk
          go_upto_region 12 with (fail)
          rw [HW1.out]
          refine ext_wp fun X1 => ?_
          refine wp_region_ext (W := W1) _ (by kernel_rfl) (by kernel_rfl) ?_
          repeat go_big_quiet_step ((go_at_call 39; exact Ext.calls _ (DU.out _)))
          refine wpQuiet_nil ?_
          intro _ hw'
          obtain ⟨Y, rfl⟩ := hw'

          go_wp2_with fail
          go_ret
          exact ⟨ret_int (by rw [← HZ2.out, ← HX2.out]), Y.down HBW.out hsw⟩
        case pos =>
        subst hzk
        rw [if_neg (by simp)] at HX2
        by_cases hk0 : 0 < k
        · obtain ⟨q, rfl⟩ : ∃ q, k = q + 1 := ⟨k - 1, by omega⟩
          have g0 : decide ((0 : Int) < ((q + 1 : Nat) : Int)) = true := by rw [decide_eq_true_eq]; omega
          have g0' : decide (0 < q + 1) = true := by simp
          have p0 : X.1.cell? ⟨b, off + q * 5, none⟩ = some (.string (g.un q)) := hc q (by omega) 0 (by omega)
          have p1 : X.1.cell? ⟨b, off + q * 5 + 1, none⟩ = some (.string (g.ur q)) := hc q (by omega) 1 (by omega)
          have p2 : X.1.cell? ⟨b, off + q * 5 + 2, none⟩ = some (.int .i64 (g.uf q)) := hc q (by omega) 2 (by omega)
          have p3 : X.1.cell? ⟨b, off + q * 5 + 3, none⟩ = some (.int .i64 (g.us q)) := hc q (by omega) 3 (by omega)
          have p4 : X.1.cell? ⟨b, off + q * 5 + 4, none⟩ = some (.int .i64 (g.uw q)) := hc q (by omega) 4 (by omega)
          have P0 := Ext.ex (below_cell HB1.out p0)
          have P1 := Ext.ex (below_cell HB1.out p1)
          have P2 := Ext.ex (below_cell HB1.out p2)
          have P3 := Ext.ex (below_cell HB1.out p3)
          have P4 := Ext.ex (below_cell HB1.out p4)
          have DC := Lib.hid (fun (Y : Ext W1) => first_any (g.un q) (g.ur q) (g.un (q + 1)) (g.ur (q + 1)) (g.uf q) (g.us q) (g.uw q) (g.uf (q + 1)) (g.us (q + 1)) (g.uw (q + 1)) Y.1)
          unfold useV at DC
          rw [show befU g (q + 1 - 1) (q + 1) = befB (g.uf q) (g.uf (q + 1)) (g.un q) (g.un (q + 1)) from rfl] at HX2
          generalize befB (g.uf q) (g.uf (q + 1)) (g.un q) (g.un (q + 1)) = bb at DC HX2
          clear hc p0 p1 p2 p3 p4 hk0
          cases bb
          · rw [if_pos ⟨by omega, rfl⟩] at HX2
            go_upto_region 12 with (fail)
            rw [HW1.out]
            refine ext_wp fun X1 => ?_
            refine wp_region_ext (W := W1) _ (by kernel_rfl) (by kernel_rfl) ?_
            repeat go_big_quiet_step ((go_at_call 39; exact Ext.calls _ (DU.out _)))
            refine wpQuiet_nil ?_
            intro _ hw'
            obtain ⟨Y, rfl⟩ := hw'

            go_wp2_with fail
            refine wp_region_ext (W := W1) _ (by kernel_rfl) (by kernel_rfl) ?_
            repeat go_big_quiet_step ((go_at_call 40; exact Ext.calls _ (DC.out _)))
            refine wpQuiet_nil ?_
            intro _ hw'
            obtain ⟨Y2, rfl⟩ := hw'

            go_wp2_with fail
            go_ret
            exact ⟨ret_int (by rw [← HZ2.out, ← HX2.out]), Y2.down HBW.out hsw⟩
          · rw [if_neg (fun h => absurd h.2 (by simp))] at HX2
            go_upto_region 12 with (fail)
            rw [HW1.out]
            refine ext_wp fun X1 => ?_
            refine wp_region_ext (W := W1) _ (by kernel_rfl) (by kernel_rfl) ?_
            repeat go_big_quiet_step ((go_at_call 39; exact Ext.calls _ (DU.out _)))
            refine wpQuiet_nil ?_
            intro _ hw'
            obtain ⟨Y, rfl⟩ := hw'

            go_wp2_with fail
            refine wp_region_ext (W := W1) _ (by kernel_rfl) (by kernel_rfl) ?_
            repeat go_big_quiet_step ((go_at_call 40; exact Ext.calls _ (DC.out _)))
            refine wpQuiet_nil ?_
            intro _ hw'
            obtain ⟨Y2, rfl⟩ := hw'

            go_wp2_with fail
            go_roundw
            case rel => exact ⟨q + 1 + 1, by go_num, by omega, ⟨⟨_, below_step HB01.out Y2.2⟩, rfl⟩, HX2⟩
            case measure => simp [intOf]; omega
        · obtain rfl : k = 0 := by omega
          rw [if_neg (fun h => absurd h.1 (by omega))] at HX2
          have g0 : decide ((0 : Int) < ((0 : Nat) : Int)) = false := by simp
          have g0' : decide ((0 : Int) < (0 : Int)) = false := by simp
          simp only [Nat.zero_mul, Nat.add_zero] at e0 e1 e2 e3 e4
          clear hc hk0
          go_upto_region 12 with (fail)
          rw [HW1.out]
          refine ext_wp fun X1 => ?_
          refine wp_region_ext (W := W1) _ (by kernel_rfl) (by kernel_rfl) ?_
          repeat go_big_quiet_step ((go_at_call 39; exact Ext.calls _ (DU.out _)))
          refine wpQuiet_nil ?_
          intro _ hw'
          obtain ⟨Y, rfl⟩ := hw'

          go_wp2_with fail
          refine wp_region_ext (W := W1) _ (by kernel_rfl) (by kernel_rfl) ?_
          repeat go_big_quiet_step (fail)
          refine wpQuiet_nil ?_
          intro _ hw'
          obtain ⟨Y2, rfl⟩ := hw'

          go_wp2_with fail
          go_roundw
          case rel => exact ⟨0 + 1, by go_num, by omega, ⟨⟨_, below_step HB01.out Y2.2⟩, rfl⟩, HX2⟩
          case measure => simp [intOf]; omega
      · have t1 : decide ((k : Int) < (g.nu : Int)) = false := by rw [decide_eq_false_iff_not]; omega
        have t1' : decide (k < g.nu) = false := by simpa using hlt
        have hx := HX.out
        rw [show g.nu - k = 0 by omega, chkU] at hx
        have HX2 := Lib.hid hx
        clear hx HX hlt
        go_wp2_with fail
        go_ret
        exact ⟨ret_int (by rw [← HZ2.out, ← HX2.out]), X.down HB0.out hs0'⟩
end Go.Proofs.YthdmceeipmmhjaaGreatDoor

/- Gear: Check of the program (printed by wip/g/gen_gcheck.py). -/
namespace Go.Proofs.YthdmceeipmmhjaaGreatDoor
open Go.RowKit Go.BigFrame
open Gar (momG endG chk chkP chkS chkM chkU chkUse anyOver befU)

theorem chk_eq2 (g : Gar) : (bigG g → chk g = 3) ∧ (¬ bigG g → chk g = if chkP g g.np 0 ≠ 0 then chkP g g.np 0 else if chkS g g.ns 0 ≠ 0 then chkS g g.ns 0 else if zM g ≠ 0 then zM g else chkU g g.nu 0) := by
  obtain ⟨h1, h2⟩ := chk_eq g
  refine ⟨h1, fun h => ?_⟩
  rw [h2 h]
  unfold zP
  by_cases e : chkP g g.np 0 = 0
  · simp [e]
  · simp [e]
set_option maxHeartbeats 8000000 in
set_option maxRecDepth 100000 in
theorem gCheck_any (g : Gar) (a0 a1 a2 a3 : Option Addr) (c0 c1 c2 c3 : Nat) (w : World) (h : GarIn w g a0 a1 a2 a3) :
    Calls Tryz.prog 10 #[garV g a0 a1 a2 a3 c0 c1 c2 c3] w fun e w' => e = .returned (.int .i64 (chk g)) ∧ Below w.heap.size w w' := by
  have HG := Lib.hid h
  have hl0 := h.l0
  have hl1 := h.l1
  have hl2 := h.l2
  have hl3 := h.l3
  clear h
  have HUS := Lib.hid (show Tryz.prog.underlying 9 = some .string by kernel_rfl)
  have HUB := Lib.hid (show Tryz.prog.underlying 78 = some (.map 9 4) by kernel_rfl)
  have HzB := Lib.hid (show ∀ u : World, (zeroValue 4).run Tryz.prog u = .ok (.bool false) u from fun u => by kernel_rfl)
  have hmm := @run_makeMap Tryz.prog
  have DM0 := Lib.hid (fun (W : World) (hb : Below w.heap.size w W) => checkMounts_any g a0 a1 a2 a3 c0 c1 c2 c3 W (HG.out.below hb))
  rw [show (if chkM g g.nm 0 ≠ 0 then chkM g g.nm 0 else if anyOver g = true then 11 else 0) = zM g from rfl] at DM0
  unfold garV at DM0 ⊢
  obtain ⟨hbig, hsmall⟩ := chk_eq2 g
  obtain ⟨z, hz⟩ : ∃ z, chk g = z := ⟨_, rfl⟩
  obtain ⟨zp, hzp⟩ : ∃ z, chkP g g.np 0 = z := ⟨_, rfl⟩
  obtain ⟨zs, hzs⟩ : ∃ z, chkS g g.ns 0 = z := ⟨_, rfl⟩
  obtain ⟨zu, hzu⟩ : ∃ z, chkU g g.nu 0 = z := ⟨_, rfl⟩
  rw [hz]
  rw [hz] at hbig hsmall
  rw [hzp, hzs, hzu] at hsmall
  generalize zM g = zm at DM0 hsmall
  have HBIG := Lib.hid hbig
  have HSMALL := Lib.hid hsmall
  have HZP := Lib.hid hzp
  have HZS := Lib.hid hzs
  have HZU := Lib.hid hzu
  clear hz hbig hsmall hzu hzp hzs
  obtain ⟨W0, hW0, hb0, hs0, hl0'⟩ := alloc_cells w #[.slice a0 g.np c0, .slice a1 g.ns c1, .slice a2 g.nm c2, .slice a3 g.nu c3] 27
  have G0 := Ext.ex (hl0' 0 _ rfl)
  have G1 := Ext.ex (hl0' 1 _ rfl)
  have G2 := Ext.ex (hl0' 2 _ rfl)
  have G3 := Ext.ex (hl0' 3 _ rfl)
  have HW0 := Lib.hid hW0
  have HB0 := Lib.hid hb0
  have hs0' : w.heap.size ≤ W0.heap.size := by omega
  have hs0'' : w.heap.size < W0.heap.size := by omega
  have DM := Lib.hid (fun (Y : Ext W0) => DM0.out Y.1 (Y.down HB0.out hs0'))
  clear hl0' hW0 hb0 hs0 DM0
  by_cases hb : bigG g
  · have HZ := Lib.hid (HBIG.out hb)
    unfold bigG at hb
    have hw : 500 < g.np ∨ (¬ 500 < g.np ∧ 100 < g.ns) ∨ (¬ 500 < g.np ∧ ¬ 100 < g.ns ∧ 2000 < g.nm) ∨ (¬ 500 < g.np ∧ ¬ 100 < g.ns ∧ ¬ 2000 < g.nm ∧ 5000 < g.nu) := by omega
    clear hb
    rcases hw with q0 | ⟨q0, q1⟩ | ⟨q0, q1, q2⟩ | ⟨q0, q1, q2, q3⟩
    · have d0 : decide ((500 : Int) < (g.np : Int)) = true := by rw [decide_eq_true_eq]; omega
      have d0' : decide (500 < g.np) = true := by simpa using q0
      clear q0
      go_enter Tryz.func10, Tryz.ntmps10
      go_upto_region 1 with (fail)
      rw [HW0.out]
      refine ext_wp fun X => ?_
      go_wp2_with fail
      go_ret
      exact ⟨ret_int HZ.out.symm, X.down HB0.out hs0'⟩
    · have d0 : decide ((500 : Int) < (g.np : Int)) = false := by rw [decide_eq_false_iff_not]; omega
      have d0' : decide (500 < g.np) = false := by simpa using q0
      have d1 : decide ((100 : Int) < (g.ns : Int)) = true := by rw [decide_eq_true_eq]; omega
      have d1' : decide (100 < g.ns) = true := by simpa using q1
      clear q0 q1
      go_enter Tryz.func10, Tryz.ntmps10
      go_upto_region 1 with (fail)
      rw [HW0.out]
      refine ext_wp fun X => ?_
      go_wp2_with fail
      go_ret
      exact ⟨ret_int HZ.out.symm, X.down HB0.out hs0'⟩
    · have d0 : decide ((500 : Int) < (g.np : Int)) = false := by rw [decide_eq_false_iff_not]; omega
      have d0' : decide (500 < g.np) = false := by simpa using q0
      have d1 : decide ((100 : Int) < (g.ns : Int)) = false := by rw [decide_eq_false_iff_not]; omega
      have d1' : decide (100 < g.ns) = false := by simpa using q1
      have d2 : decide ((2000 : Int) < (g.nm : Int)) = true := by rw [decide_eq_true_eq]; omega
      have d2' : decide (2000 < g.nm) = true := by simpa using q2
      clear q0 q1 q2
      go_enter Tryz.func10, Tryz.ntmps10
      go_upto_region 1 with (fail)
      rw [HW0.out]
      refine ext_wp fun X => ?_
      go_wp2_with fail
      go_ret
      exact ⟨ret_int HZ.out.symm, X.down HB0.out hs0'⟩
    · have d0 : decide ((500 : Int) < (g.np : Int)) = false := by rw [decide_eq_false_iff_not]; omega
      have d0' : decide (500 < g.np) = false := by simpa using q0
      have d1 : decide ((100 : Int) < (g.ns : Int)) = false := by rw [decide_eq_false_iff_not]; omega
      have d1' : decide (100 < g.ns) = false := by simpa using q1
      have d2 : decide ((2000 : Int) < (g.nm : Int)) = false := by rw [decide_eq_false_iff_not]; omega
      have d2' : decide (2000 < g.nm) = false := by simpa using q2
      have d3 : decide ((5000 : Int) < (g.nu : Int)) = true := by rw [decide_eq_true_eq]; omega
      have d3' : decide (5000 < g.nu) = true := by simpa using q3
      clear q0 q1 q2 q3
      go_enter Tryz.func10, Tryz.ntmps10
      go_upto_region 1 with (fail)
      rw [HW0.out]
      refine ext_wp fun X => ?_
      go_wp2_with fail
      go_ret
      exact ⟨ret_int HZ.out.symm, X.down HB0.out hs0'⟩
  · have HZ := Lib.hid (HSMALL.out hb)
    unfold bigG at hb
    have d0 : decide ((500 : Int) < (g.np : Int)) = false := by rw [decide_eq_false_iff_not]; omega
    have d1 : decide ((100 : Int) < (g.ns : Int)) = false := by rw [decide_eq_false_iff_not]; omega
    have d2 : decide ((2000 : Int) < (g.nm : Int)) = false := by rw [decide_eq_false_iff_not]; omega
    have d3 : decide ((5000 : Int) < (g.nu : Int)) = false := by rw [decide_eq_false_iff_not]; omega
    have d0' : decide (500 < g.np) = false := by rw [decide_eq_false_iff_not]; omega
    have d1' : decide (100 < g.ns) = false := by rw [decide_eq_false_iff_not]; omega
    have d2' : decide (2000 < g.nm) = false := by rw [decide_eq_false_iff_not]; omega
    have d3' : decide (5000 < g.nu) = false := by rw [decide_eq_false_iff_not]; omega
    clear hb HBIG HSMALL
    go_enter Tryz.func10, Tryz.ntmps10
    go_upto_region 1 with (fail)
    rw [HW0.out]
    refine ext_wp fun X => ?_
    go_wp2_with fail
    clear d0 d1 d2 d3 d0' d1' d2' d3'
    go_loopw [37] (fun iv wr => ∃ (k : Nat), iv = .int .i64 k ∧ k ≤ g.np ∧ Hid (∃ X : Ext W0, wr = X.1) ∧ Hid (chkP g (g.np - k) k = zp)) (fun iv _ => g.np - (intOf iv).toNat)
    case atStart => exact ⟨0, rfl, by omega, Lib.hid ⟨X, rfl⟩, HZP⟩
    case round =>
      obtain ⟨k, rfl, hk, HXE, HX⟩ := hrel
      obtain ⟨X, rfl⟩ := HXE.out
      by_cases hlt : k < g.np
      · have t1 : decide ((k : Int) < (g.np : Int)) = true := by rw [decide_eq_true_eq]; omega
        have t1' : decide (k < g.np) = true := by simpa using hlt
        obtain ⟨b, off, rfl, hbl, hc⟩ := (HG.out.r0.below (X.down HB0.out hs0') (Nat.le_refl _)).here (by omega)
        have e0 : X.1.cell? ⟨b, off + k * 2, none⟩ = some (.string (g.pn k)) := hc k hlt 0 (by omega)
        have e1 : X.1.cell? ⟨b, off + k * 2 + 1, none⟩ = some (.int .i64 (g.pc k)) := hc k hlt 1 (by omega)
        have hx := HX.out
        rw [show g.np - k = (g.np - k - 1) + 1 by omega, chkP] at hx
        have HX2 := Lib.hid hx
        obtain ⟨V1, hV1, hb1, hs1, hl1⟩ := alloc_cells X.1 #[.string (g.pn k), .int .i64 (g.pc k)] 43
        have L0 := Ext.ex (hl1 0 _ rfl)
        have L1 := Ext.ex (hl1 1 _ rfl)
        have hb01 := below_step X.2 hb1
        have M0 := Ext.re hb01 G0
        have M1 := Ext.re hb01 G1
        have HB01 := Lib.hid hb01
        have hbw := HB0.out.trans (hb01.mono hs0')
        have hsv : w.heap.size ≤ V1.heap.size := hbw.size
        have HBV := Lib.hid hbw
        have HB1 := Lib.hid hb1
        have HV1 := Lib.hid hV1
        have DN := Lib.hid (fun W => isName_any (g.pn k) W (HG.out.z0 k hlt))
        have D3 := Lib.hid (fun W => gin_any (g.pc k) 0 1000000000 W)
        have RET : ∀ (v : Int) (Y : Ext V1), v ≠ 0 → v = zp → Ending.returned (.int .i64 v) = .returned (.int .i64 z) ∧ Below w.heap.size w Y.1 := fun v Y hv hz => by
          refine ⟨ret_int ?_, Y.down HBV.out hsv⟩
          rw [HZ.out, ← hz, if_pos hv]
        have HRET := Lib.hid RET
        clear hx HX hl1 hV1 hb1 hs1 hb01 hbw RET HXE
        cases hnm : nameB (g.pn k)
        · rw [hnm] at DN HX2
          rw [if_pos rfl] at HX2
          clear hc hnm
          go_upto_region 6 with (fail)
          rw [HV1.out]
          refine ext_wp fun X1 => ?_
          go_wp2_with (refine (DN.out _).mono ?_; rintro e w2 ⟨rfl, rfl⟩)
          go_ret
          exact HRET.out 8 _ (by decide) HX2.out
        rw [hnm] at DN HX2
        rw [if_neg (by simp)] at HX2
        clear hnm
        by_cases hk0 : 0 < k
        · obtain ⟨q, rfl⟩ : ∃ q, k = q + 1 := ⟨k - 1, by omega⟩
          have g0 : decide ((0 : Int) < ((q + 1 : Nat) : Int)) = true := by rw [decide_eq_true_eq]; omega
          have g0' : decide (0 < q + 1) = true := by simp
          have p0 : X.1.cell? ⟨b, off + q * 2, none⟩ = some (.string (g.pn q)) := hc q (by omega) 0 (by omega)
          have P0 := Ext.ex (below_cell HB1.out p0)
          have hle := str_le (g.pn (q + 1)) (g.pn q)
          rw [show q + 1 - 1 = q from rfl] at HX2
          clear hc p0 hk0
          cases hlt2 : strLt (g.pn q) (g.pn (q + 1))
          · rw [hlt2] at hle HX2
            rw [if_pos ⟨by omega, rfl⟩] at HX2
            rw [Bool.not_false] at hle
            clear hlt2
            go_upto_region 6 with (fail)
            rw [HV1.out]
            refine ext_wp fun X1 => ?_
            go_wp2_with (refine (DN.out _).mono ?_; rintro e w2 ⟨rfl, rfl⟩)
            refine wp_region_ext (W := V1) _ (by kernel_rfl) (by kernel_rfl) ?_
            repeat go_big_quiet_step (fail)
            refine wpQuiet_nil ?_
            intro _ hw'
            obtain ⟨Y, rfl⟩ := hw'
            go_wp2_with fail
            go_ret
            exact HRET.out 10 _ (by decide) HX2.out
          rw [hlt2] at hle HX2
          rw [if_neg (by simp)] at HX2
          rw [Bool.not_true] at hle
          clear hlt2
          cases hb : inB (g.pc (q + 1)) 0 1000000000
          · rw [hb] at D3
            rw [if_pos (by unfold inB at hb; simp at hb; omega)] at HX2
            go_upto_region 6 with (fail)
            rw [HV1.out]
            refine ext_wp fun X1 => ?_
            go_wp2_with (refine (DN.out _).mono ?_; rintro e w2 ⟨rfl, rfl⟩)
            refine wp_region_ext (W := V1) _ (by kernel_rfl) (by kernel_rfl) ?_
            repeat go_big_quiet_step (fail)
            refine wpQuiet_nil ?_
            intro _ hw'
            obtain ⟨Y, rfl⟩ := hw'
            go_wp2_with (refine (D3.out _).mono ?_; rintro e w2 ⟨rfl, rfl⟩)
            go_ret
            exact HRET.out 9 _ (by decide) HX2.out
          · rw [hb] at D3
            rw [if_neg (by unfold inB at hb; simp at hb; omega)] at HX2
            go_upto_region 6 with (fail)
            rw [HV1.out]
            refine ext_wp fun X1 => ?_
            go_wp2_with (refine (DN.out _).mono ?_; rintro e w2 ⟨rfl, rfl⟩)
            refine wp_region_ext (W := V1) _ (by kernel_rfl) (by kernel_rfl) ?_
            repeat go_big_quiet_step (fail)
            refine wpQuiet_nil ?_
            intro _ hw'
            obtain ⟨Y, rfl⟩ := hw'
            go_wp2_with (refine (D3.out _).mono ?_; rintro e w2 ⟨rfl, rfl⟩)
            go_roundw
            case rel => exact ⟨q + 1 + 1, by go_num, by omega, Lib.hid ⟨⟨_, below_step HB01.out Y.2⟩, rfl⟩, HX2⟩
            case measure => simp [intOf]; omega
        · obtain rfl : k = 0 := by omega
          rw [if_neg (fun h => absurd h.1 (by omega))] at HX2
          have g0 : decide ((0 : Int) < ((0 : Nat) : Int)) = false := by simp
          have g0' : decide ((0 : Int) < (0 : Int)) = false := by simp
          simp only [Nat.zero_mul, Nat.add_zero] at e0 e1
          clear hc hk0
          cases hb : inB (g.pc 0) 0 1000000000
          · rw [hb] at D3
            rw [if_pos (by unfold inB at hb; simp at hb; omega)] at HX2
            go_upto_region 6 with (fail)
            rw [HV1.out]
            refine ext_wp fun X1 => ?_
            go_wp2_with (refine (DN.out _).mono ?_; rintro e w2 ⟨rfl, rfl⟩)
            refine wp_region_ext (W := V1) _ (by kernel_rfl) (by kernel_rfl) ?_
            repeat go_big_quiet_step (fail)
            refine wpQuiet_nil ?_
            intro _ hw'
            obtain ⟨Y, rfl⟩ := hw'
            go_wp2_with (refine (D3.out _).mono ?_; rintro e w2 ⟨rfl, rfl⟩)
            go_ret
            exact HRET.out 9 _ (by decide) HX2.out
          · rw [hb] at D3
            rw [if_neg (by unfold inB at hb; simp at hb; omega)] at HX2
            go_upto_region 6 with (fail)
            rw [HV1.out]
            refine ext_wp fun X1 => ?_
            go_wp2_with (refine (DN.out _).mono ?_; rintro e w2 ⟨rfl, rfl⟩)
            refine wp_region_ext (W := V1) _ (by kernel_rfl) (by kernel_rfl) ?_
            repeat go_big_quiet_step (fail)
            refine wpQuiet_nil ?_
            intro _ hw'
            obtain ⟨Y, rfl⟩ := hw'
            go_wp2_with (refine (D3.out _).mono ?_; rintro e w2 ⟨rfl, rfl⟩)
            go_roundw
            case rel => exact ⟨0 + 1, by go_num, by omega, Lib.hid ⟨⟨_, below_step HB01.out Y.2⟩, rfl⟩, HX2⟩
            case measure => simp [intOf]; omega
      · have t1 : decide ((k : Int) < (g.np : Int)) = false := by rw [decide_eq_false_iff_not]; omega
        have t1' : decide (k < g.np) = false := by simpa using hlt
        have hx := HX.out
        rw [show g.np - k = 0 by omega, chkP] at hx
        have HP0 : Hid (zp = 0) := Lib.hid hx.symm
        clear hx HX hlt HXE
        go_wp2_with fail
        go_loopw [71] (fun iv wr => ∃ (k : Nat), iv = .int .i64 k ∧ k ≤ g.ns ∧ Hid (∃ X : Ext W0, wr = X.1) ∧ Hid (chkS g (g.ns - k) k = zs)) (fun iv _ => g.ns - (intOf iv).toNat)
        case atStart => exact ⟨0, rfl, by omega, Lib.hid ⟨X, rfl⟩, HZS⟩
        case round =>
          obtain ⟨k, rfl, hk, HXE, HX⟩ := hrel
          obtain ⟨X, rfl⟩ := HXE.out
          by_cases hlt : k < g.ns
          · have t1 : decide ((k : Int) < (g.ns : Int)) = true := by rw [decide_eq_true_eq]; omega
            have t1' : decide (k < g.ns) = true := by simpa using hlt
            obtain ⟨b, off, rfl, hbl, hc⟩ := (HG.out.r1.below (X.down HB0.out hs0') (Nat.le_refl _)).here (by omega)
            have e0 : X.1.cell? ⟨b, off + k * 2, none⟩ = some (.string (g.sn k)) := hc k hlt 0 (by omega)
            have e1 : X.1.cell? ⟨b, off + k * 2 + 1, none⟩ = some (.string (g.sr k)) := hc k hlt 1 (by omega)
            have hx := HX.out
            rw [show g.ns - k = (g.ns - k - 1) + 1 by omega, chkS] at hx
            have HX2 := Lib.hid hx
            obtain ⟨V1, hV1, hb1, hs1, hl1⟩ := alloc_cells X.1 #[.string (g.sn k), .string (g.sr k)] 50
            have L0 := Ext.ex (hl1 0 _ rfl)
            have L1 := Ext.ex (hl1 1 _ rfl)
            have hb01 := below_step X.2 hb1
            have M0 := Ext.re hb01 G0
            have M1 := Ext.re hb01 G1
            have HB01 := Lib.hid hb01
            have hbw := HB0.out.trans (hb01.mono hs0')
            have hsv : w.heap.size ≤ V1.heap.size := hbw.size
            have HBV := Lib.hid hbw
            have HB1 := Lib.hid hb1
            have HV1 := Lib.hid hV1
            have DN := Lib.hid (fun W => isName_any (g.sn k) W ((HG.out.z1 k hlt).1))
            have D3 := Lib.hid (fun W => isName_any (g.sr k) W (HG.out.z1 k hlt).2)
            have RET : ∀ (v : Int) (Y : Ext V1), v ≠ 0 → v = zs → Ending.returned (.int .i64 v) = .returned (.int .i64 z) ∧ Below w.heap.size w Y.1 := fun v Y hv hz => by
              refine ⟨ret_int ?_, Y.down HBV.out hsv⟩
              rw [HZ.out, if_neg (fun h => h HP0.out), ← hz, if_pos hv]
            have HRET := Lib.hid RET
            clear hx HX hl1 hV1 hb1 hs1 hb01 hbw RET HXE
            cases hnm : nameB (g.sn k)
            · rw [hnm] at DN HX2
              rw [if_pos rfl] at HX2
              clear hc hnm
              go_upto_region 16 with (fail)
              rw [HV1.out]
              refine ext_wp fun X1 => ?_
              go_wp2_with (refine (DN.out _).mono ?_; rintro e w2 ⟨rfl, rfl⟩)
              go_ret
              exact HRET.out 8 _ (by decide) HX2.out
            rw [hnm] at DN HX2
            rw [if_neg (by simp)] at HX2
            clear hnm
            by_cases hk0 : 0 < k
            · obtain ⟨q, rfl⟩ : ∃ q, k = q + 1 := ⟨k - 1, by omega⟩
              have g0 : decide ((0 : Int) < ((q + 1 : Nat) : Int)) = true := by rw [decide_eq_true_eq]; omega
              have g0' : decide (0 < q + 1) = true := by simp
              have p0 : X.1.cell? ⟨b, off + q * 2, none⟩ = some (.string (g.sn q)) := hc q (by omega) 0 (by omega)
              have P0 := Ext.ex (below_cell HB1.out p0)
              have hle := str_le (g.sn (q + 1)) (g.sn q)
              rw [show q + 1 - 1 = q from rfl] at HX2
              clear hc p0 hk0
              cases hlt2 : strLt (g.sn q) (g.sn (q + 1))
              · rw [hlt2] at hle HX2
                rw [if_pos ⟨by omega, rfl⟩] at HX2
                rw [Bool.not_false] at hle
                clear hlt2
                go_upto_region 16 with (fail)
                rw [HV1.out]
                refine ext_wp fun X1 => ?_
                go_wp2_with (refine (DN.out _).mono ?_; rintro e w2 ⟨rfl, rfl⟩)
                refine wp_region_ext (W := V1) _ (by kernel_rfl) (by kernel_rfl) ?_
                repeat go_big_quiet_step (fail)
                refine wpQuiet_nil ?_
                intro _ hw'
                obtain ⟨Y, rfl⟩ := hw'
                go_wp2_with fail
                go_ret
                exact HRET.out 10 _ (by decide) HX2.out
              rw [hlt2] at hle HX2
              rw [if_neg (by simp)] at HX2
              rw [Bool.not_true] at hle
              clear hlt2
              cases hb : nameB (g.sr (q + 1))
              · rw [hb] at D3
                rw [if_pos (hb)] at HX2
                go_upto_region 16 with (fail)
                rw [HV1.out]
                refine ext_wp fun X1 => ?_
                go_wp2_with (refine (DN.out _).mono ?_; rintro e w2 ⟨rfl, rfl⟩)
                refine wp_region_ext (W := V1) _ (by kernel_rfl) (by kernel_rfl) ?_
                repeat go_big_quiet_step (fail)
                refine wpQuiet_nil ?_
                intro _ hw'
                obtain ⟨Y, rfl⟩ := hw'
                go_wp2_with (refine (D3.out _).mono ?_; rintro e w2 ⟨rfl, rfl⟩)
                go_ret
                exact HRET.out 8 _ (by decide) HX2.out
              · rw [hb] at D3
                rw [if_neg (by rw [hb]; simp)] at HX2
                go_upto_region 16 with (fail)
                rw [HV1.out]
                refine ext_wp fun X1 => ?_
                go_wp2_with (refine (DN.out _).mono ?_; rintro e w2 ⟨rfl, rfl⟩)
                refine wp_region_ext (W := V1) _ (by kernel_rfl) (by kernel_rfl) ?_
                repeat go_big_quiet_step (fail)
                refine wpQuiet_nil ?_
                intro _ hw'
                obtain ⟨Y, rfl⟩ := hw'
                go_wp2_with (refine (D3.out _).mono ?_; rintro e w2 ⟨rfl, rfl⟩)
                go_roundw
                case rel => exact ⟨q + 1 + 1, by go_num, by omega, Lib.hid ⟨⟨_, below_step HB01.out Y.2⟩, rfl⟩, HX2⟩
                case measure => simp [intOf]; omega
            · obtain rfl : k = 0 := by omega
              rw [if_neg (fun h => absurd h.1 (by omega))] at HX2
              have g0 : decide ((0 : Int) < ((0 : Nat) : Int)) = false := by simp
              have g0' : decide ((0 : Int) < (0 : Int)) = false := by simp
              simp only [Nat.zero_mul, Nat.add_zero] at e0 e1
              clear hc hk0
              cases hb : nameB (g.sr 0)
              · rw [hb] at D3
                rw [if_pos (hb)] at HX2
                go_upto_region 16 with (fail)
                rw [HV1.out]
                refine ext_wp fun X1 => ?_
                go_wp2_with (refine (DN.out _).mono ?_; rintro e w2 ⟨rfl, rfl⟩)
                refine wp_region_ext (W := V1) _ (by kernel_rfl) (by kernel_rfl) ?_
                repeat go_big_quiet_step (fail)
                refine wpQuiet_nil ?_
                intro _ hw'
                obtain ⟨Y, rfl⟩ := hw'
                go_wp2_with (refine (D3.out _).mono ?_; rintro e w2 ⟨rfl, rfl⟩)
                go_ret
                exact HRET.out 8 _ (by decide) HX2.out
              · rw [hb] at D3
                rw [if_neg (by rw [hb]; simp)] at HX2
                go_upto_region 16 with (fail)
                rw [HV1.out]
                refine ext_wp fun X1 => ?_
                go_wp2_with (refine (DN.out _).mono ?_; rintro e w2 ⟨rfl, rfl⟩)
                refine wp_region_ext (W := V1) _ (by kernel_rfl) (by kernel_rfl) ?_
                repeat go_big_quiet_step (fail)
                refine wpQuiet_nil ?_
                intro _ hw'
                obtain ⟨Y, rfl⟩ := hw'
                go_wp2_with (refine (D3.out _).mono ?_; rintro e w2 ⟨rfl, rfl⟩)
                go_roundw
                case rel => exact ⟨0 + 1, by go_num, by omega, Lib.hid ⟨⟨_, below_step HB01.out Y.2⟩, rfl⟩, HX2⟩
                case measure => simp [intOf]; omega
          · have t1 : decide ((k : Int) < (g.ns : Int)) = false := by rw [decide_eq_false_iff_not]; omega
            have t1' : decide (k < g.ns) = false := by simpa using hlt
            have hx := HX.out
            rw [show g.ns - k = 0 by omega, chkS] at hx
            have HS0 : Hid (zs = 0) := Lib.hid hx.symm
            clear hx HX hlt HXE
            by_cases hzm : zm = 0
            case neg =>
              have n1 : (zm != 0) = true := by rw [bne_iff_ne]; exact hzm
              have HZF : Hid (z = zm) := Lib.hid (by rw [HZ.out, if_neg (fun h => h HP0.out), if_neg (fun h => h HS0.out), if_pos hzm])
              clear HZ hzm
              go_wp2_with fail
              refine (Ext.calls _ (DM.out _)).mono ?_
              rintro e w2 ⟨rfl, Y, rfl⟩
              go_wp2_with fail
              go_ret
              exact ⟨ret_int HZF.out.symm, Y.down HB0.out hs0'⟩
            case pos =>
            subst hzm
            have HZF : Hid (zu = z) := Lib.hid (by rw [HZ.out, if_neg (fun h => h HP0.out), if_neg (fun h => h HS0.out), if_neg (by simp)])
            clear HZ
            go_wp2_with fail
            refine (Ext.calls _ (DM.out _)).mono ?_
            rintro e w2 ⟨rfl, Y, rfl⟩
            go_upto_region 27 with (fail)
            obtain ⟨n1, hn1⟩ : ∃ n1, Y.1.heap.size = n1 := ⟨_, rfl⟩
            obtain ⟨U, hU⟩ : ∃ U, Y.1.alloc (.map #[] 0) = U := ⟨_, rfl⟩
            have hbu : Below Y.1.heap.size Y.1 U := hU ▸ below_al Y.1 _
            have hsu : U.heap.size = n1 + 1 := by rw [← hU, World.size_alloc, hn1]
            have hmu : StrMap U Tryz.prog 9 boolR n1 0 (fun x : Bool => .lit (.bool x)) (.lit (.bool false)) (fun s => anyK (fun i => decide (g.un i = s)) 0) := by
              rw [← hU, ← hn1]
              exact StrMap.made Y.1 _ _ _ (fun s => rfl)
            have HMU := Lib.hid hmu
            have hny : w.heap.size < n1 := by rw [← hn1]; exact Nat.lt_of_lt_of_le hs0'' Y.2.size
            have hnu : n1 < U.heap.size := by omega
            have hswu : w.heap.size ≤ U.heap.size := by omega
            have HBU := Lib.hid ((Y.down HB0.out hs0').trans (hbu.mono (by omega)))
            have hbb : ∀ b off, a3 = some ⟨b, off, none⟩ → 0 < g.nu → b < n1 := fun b off ha hnn => by
              obtain ⟨b', off', h1, h2, _⟩ := (HG.out.r3.below (Y.down HB0.out hs0') (Nat.le_refl _)).here hnn
              rw [ha] at h1
              injection h1 with h1
              injection h1 with h1 _
              omega
            have HBB := Lib.hid hbb
            have hgo : ¬ (w.heap.size = n1) := by omega
            have G0' := ExtO.ex (O := fun b => b = n1) hgo (below_cell hbu (G0 Y))
            have G1' := ExtO.ex (O := fun b => b = n1) hgo (below_cell hbu (G1 Y))
            have G2' := ExtO.ex (O := fun b => b = n1) hgo (below_cell hbu (G2 Y))
            have G3' := ExtO.ex (O := fun b => b = n1) hgo (below_cell hbu (G3 Y))
            have gu := below_cell hbu (G3 Y)
            rw [hU, hn1]
            have HN1 := Lib.hid hn1
            clear hU hbu hsu hmu hgo hbb hn1 G0 G1 G2 G3
            have G0 := G0'
            have G1 := G1'
            have G2 := G2'
            have G3 := G3'
            clear G0' G1' G2' G3'
            go_wp2_with fail
            clear gu
            go_loopw [111] (fun iv wr => ∃ (k : Nat), iv = .int .i64 k ∧ k ≤ g.nu ∧ Hid (∃ X : ExtO (fun b => b = n1) U, wr = X.1) ∧ Hid (StrMap wr Tryz.prog 9 boolR n1 k (fun x : Bool => .lit (.bool x)) (.lit (.bool false)) (fun s => anyK (fun i => decide (g.un i = s)) k)) ∧ Hid (chkU g (g.nu - k) k = zu)) (fun iv _ => g.nu - (intOf iv).toNat)
            case atStart => exact ⟨0, rfl, by omega, Lib.hid ⟨⟨_, Kept.refl _ _⟩, rfl⟩, HMU, HZU⟩
            case round =>
              obtain ⟨k, rfl, hk, HXE, HM, HX⟩ := hrel
              obtain ⟨X, rfl⟩ := HXE.out
              by_cases hlt : k < g.nu
              · have t1 : decide ((k : Int) < (g.nu : Int)) = true := by rw [decide_eq_true_eq]; omega
                have t1' : decide (k < g.nu) = true := by simpa using hlt
                obtain ⟨b, off, rfl, hbl, hc⟩ := (HG.out.r3.below (X.down HBU.out hswu (fun k hk => by omega)) (Nat.le_refl _)).here (by omega)
                have hbn : ¬ b = n1 := by
                  have := HBB.out b off rfl (by omega)
                  omega
                have e0 : X.1.cell? ⟨b, off + k * 5, none⟩ = some (.string (g.un k)) := hc k hlt 0 (by omega)
                have e1 : X.1.cell? ⟨b, off + k * 5 + 1, none⟩ = some (.string (g.ur k)) := hc k hlt 1 (by omega)
                have e2 : X.1.cell? ⟨b, off + k * 5 + 2, none⟩ = some (.int .i64 (g.uf k)) := hc k hlt 2 (by omega)
                have e3 : X.1.cell? ⟨b, off + k * 5 + 3, none⟩ = some (.int .i64 (g.us k)) := hc k hlt 3 (by omega)
                have e4 : X.1.cell? ⟨b, off + k * 5 + 4, none⟩ = some (.int .i64 (g.uw k)) := hc k hlt 4 (by omega)
                have hz2 := HG.out.z3 k hlt
                have hx := HX.out
                rw [show g.nu - k = (g.nu - k - 1) + 1 by omega, chkU] at hx
                rw [show ((List.range k).any fun i => decide (g.un i = g.un k)) = anyK (fun i => decide (g.un i = g.un k)) k from rfl] at hx
                have HX2 := Lib.hid hx
                obtain ⟨V1, hV1, hb1, hs1, hl1⟩ := alloc_cells X.1 #[.string (g.un k), .string (g.ur k), .int .i64 (g.uf k), .int .i64 (g.us k), .int .i64 (g.uw k)] 54
                have hk1 : Kept (fun b => b = n1) U V1 := X.2.trans (Kept.of_below hb1)
                have hnx : n1 < X.1.heap.size := Nat.lt_of_lt_of_le hnu X.2.size
                have l0 := hl1 0 _ rfl
                have l1 := hl1 1 _ rfl
                have l2 := hl1 2 _ rfl
                have l3 := hl1 3 _ rfl
                have l4 := hl1 4 _ rfl
                have L0 := ExtO.ex (O := fun b => b = n1) (by simp <;> omega) l0
                have L1 := ExtO.ex (O := fun b => b = n1) (by simp <;> omega) l1
                have L2 := ExtO.ex (O := fun b => b = n1) (by simp <;> omega) l2
                have L3 := ExtO.ex (O := fun b => b = n1) (by simp <;> omega) l3
                have L4 := ExtO.ex (O := fun b => b = n1) (by simp <;> omega) l4
                have M0 := ExtO.re hk1 G0
                have M1 := ExtO.re hk1 G1
                have M2 := ExtO.re hk1 G2
                have M3 := ExtO.re hk1 G3
                have HK1 := Lib.hid hk1
                have HB1 := Lib.hid hb1
                have HV1 := Lib.hid hV1
                have HM1 := Lib.hid (HM.out.keptO (Kept.of_below (O := fun _ => False) hb1) (by simp))
                have kS : (Instr.lookup 78 (.map (some n1)) (.string (g.un k)) false).run Tryz.prog V1 = .ok (.bool (anyK (fun i => decide (g.un i = g.un k)) k)) V1 :=
                  StrMap.look (val := Value.bool) HM1.out HUS.out HUB.out (HzB.out _) (zp := []) rfl boolR_inv hz2.1
                have DU := Lib.hid (fun (W : World) => checkUse_any (g.un k) (g.ur k) (g.uf k) (g.us k) (g.uw k) (anyK (fun i => decide (g.un i = g.un k)) k) W hz2.1 hz2.2)
                unfold useV at DU
                have hbv := (X.down HBU.out hswu (fun k hk => by omega)).trans (hb1.mono (Nat.le_trans hswu X.2.size))
                have HBV := Lib.hid hbv
                have hsv : w.heap.size ≤ V1.heap.size := hbv.size
                have HZ2 := Lib.hid hz2
                generalize chkUse (g.un k) (g.ur k) (anyK (fun i => decide (g.un i = g.un k)) k) (g.uf k) (g.us k) (g.uw k) = zk at DU HX2
                generalize anyK (fun i => decide (g.un i = g.un k)) k = tw at kS DU
                clear hx HX hl1 hV1 hb1 hs1 hk1 hbv HXE HM hz2
                by_cases hzk : zk = 0
                case neg =>
                  have n1' : (zk != 0) = true := by rw [bne_iff_ne]; exact hzk
                  rw [if_pos hzk] at HX2
                  clear hc hzk
                  go_upto_region 30 with (fail)
                  rw [HV1.out]
                  go_wp2_with fail
                  refine (DU.out _).mono ?_
                  rintro e w2 ⟨rfl, hb2⟩
                  have HBF := Lib.hid (HBV.out.trans (hb2.mono hsv))
                  clear hb2
                  go_wp2_with fail
                  go_ret
                  exact ⟨ret_int (by rw [← HZF.out, ← HX2.out]), HBF.out⟩
                case pos =>
                subst hzk
                rw [if_neg (by simp)] at HX2
                by_cases hk0 : 0 < k
                · obtain ⟨q, rfl⟩ : ∃ q, k = q + 1 := ⟨k - 1, by omega⟩
                  have g0 : decide ((0 : Int) < ((q + 1 : Nat) : Int)) = true := by rw [decide_eq_true_eq]; omega
                  have g0' : decide (0 < q + 1) = true := by simp
                  have p0 : X.1.cell? ⟨b, off + q * 5, none⟩ = some (.string (g.un q)) := hc q (by omega) 0 (by omega)
                  have p1 : X.1.cell? ⟨b, off + q * 5 + 1, none⟩ = some (.string (g.ur q)) := hc q (by omega) 1 (by omega)
                  have p2 : X.1.cell? ⟨b, off + q * 5 + 2, none⟩ = some (.int .i64 (g.uf q)) := hc q (by omega) 2 (by omega)
                  have p3 : X.1.cell? ⟨b, off + q * 5 + 3, none⟩ = some (.int .i64 (g.us q)) := hc q (by omega) 3 (by omega)
                  have p4 : X.1.cell? ⟨b, off + q * 5 + 4, none⟩ = some (.int .i64 (g.uw q)) := hc q (by omega) 4 (by omega)
                  have P0 := ExtO.ex (O := fun b => b = n1) hbn (below_cell HB1.out p0)
                  have P1 := ExtO.ex (O := fun b => b = n1) hbn (below_cell HB1.out p1)
                  have P2 := ExtO.ex (O := fun b => b = n1) hbn (below_cell HB1.out p2)
                  have P3 := ExtO.ex (O := fun b => b = n1) hbn (below_cell HB1.out p3)
                  have P4 := ExtO.ex (O := fun b => b = n1) hbn (below_cell HB1.out p4)
                  have DC := Lib.hid (fun (W : World) => useOrder_any (g.un q) (g.ur q) (g.un (q + 1)) (g.ur (q + 1)) (g.uf q) (g.us q) (g.uw q) (g.uf (q + 1)) (g.us (q + 1)) (g.uw (q + 1)) W)
                  have ho := ord_neg (g.uf q) (g.uf (q + 1)) (g.un q) (g.un (q + 1))
                  unfold useV at DC
                  rw [show befU g (q + 1 - 1) (q + 1) = befB (g.uf q) (g.uf (q + 1)) (g.un q) (g.un (q + 1)) from rfl] at HX2
                  generalize befB (g.uf q) (g.uf (q + 1)) (g.un q) (g.un (q + 1)) = bb at ho HX2
                  generalize ordI (g.uf q) (g.uf (q + 1)) (g.un q) (g.un (q + 1)) = oi at DC ho
                  clear hc p0 p1 p2 p3 p4 hk0
                  go_upto_region 30 with (fail)
                  rw [HV1.out]
                  go_wp2_with fail
                  refine (DU.out _).mono ?_
                  rintro e w2 ⟨rfl, hb2⟩
                  have HMY := Lib.hid (HM1.out.keptO (Kept.of_below (O := fun _ => False) hb2) (by simp))
                  obtain ⟨Y2, rfl⟩ : ∃ Y : ExtO (fun b => b = n1) V1, w2 = Y.1 := ⟨⟨w2, Kept.of_below hb2⟩, rfl⟩
                  clear hb2 kS HM1 l0 l1 l2 l3 l4
                  go_wp2_with (at_mapUpdate; refine wpList_update_str _ rfl (.tmp 125) (.tmp 127) (.const (.bool true)) 78 rfl 9 4 HUS.out HUB.out boolR (fun x : Bool => .lit (.bool x)) (.lit (.bool false)) n1 (q + 1) _ rfl HMY.out ?c1 (g.un (q + 1)) rfl ?c2 (.bool true) true rfl [] rfl ?_)
                  case c1 => unfold maxLen; omega
                  case c2 => exact HZ2.out.1
                  intro V3 hm1 hg1
                  have HM3 := Lib.hid (strMap_ext hm1 (anyK_step (fun s i => decide (g.un i = s)) (q + 1) (g.un (q + 1)) g.un (fun _ _ => rfl) rfl))
                  obtain ⟨Y3, hY3⟩ : ∃ Y : ExtO (fun b => b = n1) V1, V3 = Y.1 := ⟨⟨V3, Y2.2.grown hg1 (fun g hg _ => by injection hg with hg; exact hg.symm)⟩, rfl⟩
                  have HK3 : Hid (Kept (fun b => b = n1) V1 V3) := Lib.hid (hY3 ▸ Y3.2)
                  clear hm1 hg1 HMY
                  have E0 := Ext.ex (W := V3) (hY3 ▸ L0 Y3)
                  have E1 := Ext.ex (W := V3) (hY3 ▸ L1 Y3)
                  have E2 := Ext.ex (W := V3) (hY3 ▸ L2 Y3)
                  have E3 := Ext.ex (W := V3) (hY3 ▸ L3 Y3)
                  have E4 := Ext.ex (W := V3) (hY3 ▸ L4 Y3)
                  have F0 := Ext.ex (W := V3) (hY3 ▸ M0 Y3)
                  have F1 := Ext.ex (W := V3) (hY3 ▸ M1 Y3)
                  have F2 := Ext.ex (W := V3) (hY3 ▸ M2 Y3)
                  have F3 := Ext.ex (W := V3) (hY3 ▸ M3 Y3)
                  have Q0 := Ext.ex (W := V3) (hY3 ▸ P0 Y3)
                  have Q1 := Ext.ex (W := V3) (hY3 ▸ P1 Y3)
                  have Q2 := Ext.ex (W := V3) (hY3 ▸ P2 Y3)
                  have Q3 := Ext.ex (W := V3) (hY3 ▸ P3 Y3)
                  have Q4 := Ext.ex (W := V3) (hY3 ▸ P4 Y3)
                  clear P0 P1 P2 P3 P4
                  clear hY3 Y3 L0 L1 L2 L3 L4 M0 M1 M2 M3 Y2
                  cases bb
                  · rw [if_pos ⟨by omega, rfl⟩] at HX2
                    rw [Bool.not_false] at ho
                    go_wp2_with fail
                    refine ext_wp fun X1 => ?_
                    refine wp_region_ext (W := V3) _ (by kernel_rfl) (by kernel_rfl) ?_
                    repeat go_big_quiet_step ((go_at_call 33; exact Ext.calls _ (DC.out _)))
                    refine wpQuiet_nil ?_
                    intro _ hw'
                    obtain ⟨Z, rfl⟩ := hw'
                    go_wp2_with fail
                    go_ret
                    exact ⟨ret_int (by rw [← HZF.out, ← HX2.out]), (Kept.below HBV.out HK3.out hsv (fun k hk => by omega)).trans (Z.2.mono (Nat.le_trans hsv HK3.out.size))⟩
                  · rw [if_neg (fun h => absurd h.2 (by simp))] at HX2
                    rw [Bool.not_true] at ho
                    go_wp2_with fail
                    refine ext_wp fun X1 => ?_
                    refine wp_region_ext (W := V3) _ (by kernel_rfl) (by kernel_rfl) ?_
                    repeat go_big_quiet_step ((go_at_call 33; exact Ext.calls _ (DC.out _)))
                    refine wpQuiet_nil ?_
                    intro _ hw'
                    obtain ⟨Z, rfl⟩ := hw'
                    go_wp2_with fail
                    go_roundw
                    case rel => exact ⟨q + 1 + 1, by go_num, by omega, Lib.hid ⟨⟨_, (HK1.out.trans HK3.out).trans (Kept.of_below Z.2)⟩, rfl⟩, Lib.hid (HM3.out.keptO (Kept.of_below (O := fun _ => False) Z.2) (by simp)), HX2⟩
                    case measure => simp [intOf]; omega
                · obtain rfl : k = 0 := by omega
                  rw [if_neg (fun h => absurd h.1 (by omega))] at HX2
                  have g0 : decide ((0 : Int) < ((0 : Nat) : Int)) = false := by simp
                  have g0' : decide ((0 : Int) < (0 : Int)) = false := by simp
                  simp only [Nat.zero_mul, Nat.add_zero] at e0 e1 e2 e3 e4
                  clear hc hk0
                  go_upto_region 30 with (fail)
                  rw [HV1.out]
                  go_wp2_with fail
                  refine (DU.out _).mono ?_
                  rintro e w2 ⟨rfl, hb2⟩
                  have HMY := Lib.hid (HM1.out.keptO (Kept.of_below (O := fun _ => False) hb2) (by simp))
                  obtain ⟨Y2, rfl⟩ : ∃ Y : ExtO (fun b => b = n1) V1, w2 = Y.1 := ⟨⟨w2, Kept.of_below hb2⟩, rfl⟩
                  clear hb2 kS HM1 l0 l1 l2 l3 l4
                  go_wp2_with (at_mapUpdate; refine wpList_update_str _ rfl (.tmp 125) (.tmp 127) (.const (.bool true)) 78 rfl 9 4 HUS.out HUB.out boolR (fun x : Bool => .lit (.bool x)) (.lit (.bool false)) n1 0 _ rfl HMY.out ?c1 (g.un 0) rfl ?c2 (.bool true) true rfl [] rfl ?_)
                  case c1 => unfold maxLen; omega
                  case c2 => exact HZ2.out.1
                  intro V3 hm1 hg1
                  have HM3 := Lib.hid (strMap_ext hm1 (anyK_step (fun s i => decide (g.un i = s)) 0 (g.un 0) g.un (fun _ _ => rfl) rfl))
                  obtain ⟨Y3, hY3⟩ : ∃ Y : ExtO (fun b => b = n1) V1, V3 = Y.1 := ⟨⟨V3, Y2.2.grown hg1 (fun g hg _ => by injection hg with hg; exact hg.symm)⟩, rfl⟩
                  have HK3 : Hid (Kept (fun b => b = n1) V1 V3) := Lib.hid (hY3 ▸ Y3.2)
                  clear hm1 hg1 HMY
                  have E0 := Ext.ex (W := V3) (hY3 ▸ L0 Y3)
                  have E1 := Ext.ex (W := V3) (hY3 ▸ L1 Y3)
                  have E2 := Ext.ex (W := V3) (hY3 ▸ L2 Y3)
                  have E3 := Ext.ex (W := V3) (hY3 ▸ L3 Y3)
                  have E4 := Ext.ex (W := V3) (hY3 ▸ L4 Y3)
                  have F0 := Ext.ex (W := V3) (hY3 ▸ M0 Y3)
                  have F1 := Ext.ex (W := V3) (hY3 ▸ M1 Y3)
                  have F2 := Ext.ex (W := V3) (hY3 ▸ M2 Y3)
                  have F3 := Ext.ex (W := V3) (hY3 ▸ M3 Y3)
                  clear hY3 Y3 L0 L1 L2 L3 L4 M0 M1 M2 M3 Y2
                  go_wp2_with fail
                  refine ext_wp fun X1 => ?_
                  refine wp_region_ext (W := V3) _ (by kernel_rfl) (by kernel_rfl) ?_
                  repeat go_big_quiet_step (fail)
                  refine wpQuiet_nil ?_
                  intro _ hw'
                  obtain ⟨Z, rfl⟩ := hw'
                  go_wp2_with fail
                  go_roundw
                  case rel => exact ⟨0 + 1, by go_num, by omega, Lib.hid ⟨⟨_, (HK1.out.trans HK3.out).trans (Kept.of_below Z.2)⟩, rfl⟩, Lib.hid (HM3.out.keptO (Kept.of_below (O := fun _ => False) Z.2) (by simp)), HX2⟩
                  case measure => simp [intOf]; omega
              · have t1 : decide ((k : Int) < (g.nu : Int)) = false := by rw [decide_eq_false_iff_not]; omega
                have t1' : decide (k < g.nu) = false := by simpa using hlt
                have hx := HX.out
                rw [show g.nu - k = 0 by omega, chkU] at hx
                have HX2 := Lib.hid hx
                clear hx HX hlt HXE HM
                go_wp2_with fail
                go_ret
                exact ⟨ret_int (by rw [← HZF.out, ← HX2.out]), X.down HBU.out hswu (fun k hk => by omega)⟩
end Go.Proofs.YthdmceeipmmhjaaGreatDoor

/- Gear: In of the program and of the reference (printed by wip/g/gen_in2.py). -/
namespace Go.Proofs.YthdmceeipmmhjaaGreatDoor
open Go.RowKit Go.BigFrame
open Gar (momG endG chk chkP hasS hasP)

/-- what In returns -/
def InS (g : Gar) (slot : ByteArray) (m : Int) : ByteArray × Bool × Int :=
  if chk g ≠ 0 then (⟨#[]⟩, false, chk g) else if hasS g slot = false then (⟨#[]⟩, false, 4) else if momG m = false then (⟨#[]⟩, false, 9) else ((inR (inF g slot m g.nm 0)).1, (inR (inF g slot m g.nm 0)).2, 0)
def tri (x : ByteArray × Bool × Int) : Value := .tuple #[.string x.1, .bool x.2.1, .int .i64 x.2.2]
theorem ret_tri {a b : ByteArray × Bool × Int} (h : a = b) : Ending.returned (tri a) = .returned (tri b) := by rw [h]
theorem chkP_each {g : Gar} : ∀ (n k : Nat), chkP g n k = 0 → ∀ i, k ≤ i → i < k + n → nameB (g.pn i) = true
  | 0, k, _, i, h1, h2 => by omega
  | n + 1, k, h, i, h1, h2 => by
    rw [chkP] at h
    split at h
    · omega
    · split at h
      · omega
      · split at h
        · omega
        · rename_i a b c
          by_cases e : i = k
          · subst e; simpa using a
          · exact chkP_each n (k + 1) h i (by omega) (by omega)
theorem inF_some {g : Gar} {slot : ByteArray} {m : Int} {p : ByteArray} : ∀ (n k : Nat), inF g slot m n k = some p → ∃ i, k ≤ i ∧ i < k + n ∧ g.mp i = p
  | 0, k, h => by simp [inF] at h
  | n + 1, k, h => by
    rw [inF] at h
    split at h
    · injection h with h
      exact ⟨k, by omega, by omega, h⟩
    · obtain ⟨i, h1, h2, h3⟩ := inF_some n (k + 1) h
      exact ⟨i, by omega, by omega, h3⟩
/-- what is in a slot has a name -/
theorem in_name {g : Gar} (h : chk g = 0) {slot : ByteArray} {m : Int} : (!(inR (inF g slot m g.nm 0)).1.toList.isEmpty) = (inR (inF g slot m g.nm 0)).2 := by
  cases ho : inF g slot m g.nm 0 with
  | none =>
    show (!(ByteArray.toList ⟨#[]⟩).isEmpty) = false
    rw [ByteArray.toList_eq]
    rfl
  | some p =>
    obtain ⟨i, _, h2, rfl⟩ := inF_some _ _ ho
    obtain ⟨_, _, _, _, hp, _, hm, _, _⟩ := Gar.chk_parts h
    have h3 := (Gar.chkM_each g.nm 0 hm i (by omega) (by omega)).1.2
    unfold hasP at h3
    rw [List.any_eq_true] at h3
    obtain ⟨j, hj, hje⟩ := h3
    rw [decide_eq_true_eq] at hje
    have h4 := chkP_each g.np 0 hp j (by omega) (by have := List.mem_range.1 hj; omega)
    rw [hje] at h4
    unfold nameB at h4
    rw [Bool.and_eq_true, Bool.and_eq_true, decide_eq_true_eq] at h4
    have h5 := h4.1.1
    show (!(g.mp i).toList.isEmpty) = true
    rw [ByteArray.toList_eq]
    cases hl : (g.mp i).data.toList with
    | nil =>
      have : (g.mp i).size = 0 := by
        have := congrArg List.length hl
        simpa using this
      omega
    | cons a l => rfl

end Go.Proofs.YthdmceeipmmhjaaGreatDoor

/- Gear: the pieces of a use in a slot: the closure that adds one (program). -/
namespace Go.Proofs.YthdmceeipmmhjaaGreatDoor
open Go.RowKit Go.BigFrame

/-- the cells of a piece -/
def pcell (u s : ByteArray) (q : Pcs.Pc) : List Value := [.string u, .string s, .string q.1, .int .i64 q.2, .int .i64 0]
def pcells (u s : ByteArray) (l : List Pcs.Pc) : List Value := l.flatMap (pcell u s)
theorem pcells_snoc (u s : ByteArray) (l : List Pcs.Pc) (q : Pcs.Pc) : pcells u s (l ++ [q]) = pcells u s l ++ pcell u s q := by simp [pcells]
/-- what piecesOf's closure has captured -/
structure PSt (w : World) (v : Value) (base co ca cl cu cs : Nat) (a last : Int) (l : List Pcs.Pc) (un ur : ByteArray) (uf us uw : Int) (slot : ByteArray) : Prop where
  hco : w.heap[co]? = some (.cells #[v] 69 (0, 0))
  own : w.ownsRow base 75 5 v l.length (pcells un slot l)
  hca : w.heap[ca]? = some (.cells #[.int .i64 a] 3 (0, 0))
  hcl : w.heap[cl]? = some (.cells #[.int .i64 last] 3 (0, 0))
  hcu : w.heap[cu]? = some (.cells #[.string un, .string ur, .int .i64 uf, .int .i64 us, .int .i64 uw] 54 (0, 0))
  hcs : w.heap[cs]? = some (.cells #[.string slot] 9 (0, 0))
theorem PSt.kept {w w' : World} {v : Value} {O : Nat → Prop} {base co ca cl cu cs : Nat} {a last : Int} {l : List Pcs.Pc} {un ur : ByteArray} {uf us uw : Int} {slot : ByteArray} (h : PSt w v base co ca cl cu cs a last l un ur uf us uw slot) (hk : Kept O w w')
    (h1 : ¬ O co) (h2 : ¬ O ca) (h3 : ¬ O cl) (h4 : ¬ O cu) (h5 : ¬ O cs) (h6 : ∀ b, v.ownBlock = some b → ¬ O b) : PSt w' v base co ca cl cu cs a last l un ur uf us uw slot := by
  have hv := h.hco
  have ho := h.own
  refine ⟨(hk.block co (lt_of_block hv) h1).trans hv, ⟨ho.1, ?_⟩, (hk.block ca (lt_of_block h.hca) h2).trans h.hca, (hk.block cl (lt_of_block h.hcl) h3).trans h.hcl, (hk.block cu (lt_of_block h.hcu) h4).trans h.hcu, (hk.block cs (lt_of_block h.hcs) h5).trans h.hcs⟩
  rcases ho.2 with h7 | ⟨g, cap, cur, e1, e2, e3, e4⟩
  · exact Or.inl h7
  · exact Or.inr ⟨g, cap, cur, e1, e2, (hk.block g (lt_of_block e3) (h6 g (by rw [e1]; rfl))).trans e3, e4⟩
theorem block_cell {w : World} {b i : Nat} {cs : Array Value} {T : TypeId} {v : Value} (h : w.heap[b]? = some (.cells cs T (0, 0))) (hv : cs[i]? = some v) : w.cell? ⟨b, i, none⟩ = some v := by simp [World.cell?, h, hv]
theorem grown_trans {w a b : World} {r : Option Nat} (h : w.grownBy a r) (k : Kept (fun _ => False) a b) : w.grownBy b r :=
  ⟨k.os.trans h.os, k.tape.trans h.tape, k.output.trans h.output, Nat.le_trans h.size k.size, fun i hi hr => (k.block i (Nat.lt_of_lt_of_le hi h.size) (by simp)).trans (h.block i hi hr)⟩
theorem kept_set {O : Nat → Prop} {a w : World} (h : Kept O a w) {b i : Nat} (hb : O b) (u : Value) : Kept O a (w.setCell ⟨b, i, none⟩ u) :=
  ⟨h.os, h.tape, h.output, by simp [World.setCell]; exact h.size, fun k hk ho => (Below.heap_setCell w ⟨b, i, none⟩ u k (fun e => ho (by rw [e]; exact hb))).trans (h.block k hk ho)⟩

theorem addr_add0 (b j : Nat) : (⟨b, 0, none⟩ : Addr).add j = ⟨b, j, none⟩ := by
  unfold Addr.add
  split <;> simp_all
set_option maxHeartbeats 2000000 in
set_option maxRecDepth 100000 in
theorem addPc_any (part : ByteArray) (tz : Int) (base co ca cl cu cs : Nat) (a last : Int) (l : List Pcs.Pc) (un ur : ByteArray) (uf us uw : Int) (slot : ByteArray) (w : World)
    (v : Value) (h : PSt w v base co ca cl cu cs a last l un ur uf us uw slot) (ha0 : 0 ≤ a) (ha1 : last ≤ 1000000000000) (hn : (l.length : Int) ≤ 1000000) (hd : co ≠ ca) (hb1 : co < base) (hb2 : ca < base) (hb3 : cl < base) (hb4 : cu < base) (hb5 : cs < base) (hd2 : cl ≠ co ∧ cl ≠ ca ∧ cu ≠ co ∧ cu ≠ ca ∧ cs ≠ co ∧ cs ≠ ca) (hbw : base ≤ w.heap.size) :
    Calls Tryz.prog 91 #[.string part, .int .i64 tz, .pointer (some ⟨cl, 0, none⟩), .pointer (some ⟨ca, 0, none⟩), .pointer (some ⟨co, 0, none⟩), .pointer (some ⟨cu, 0, none⟩), .pointer (some ⟨cs, 0, none⟩)] w fun e w' => e = .returned (.tuple #[]) ∧
      (∃ v', PSt w' v' base co ca cl cu cs (Pcs.add last (a, l) part tz).1 last (Pcs.add last (a, l) part tz).2 un ur uf us uw slot) ∧ Kept (fun b => b = co ∨ b = ca ∨ v.ownBlock = some b) w w' := by
  have hv := h.hco
  have ho := h.own
  have HH := Lib.hid h
  have k0 := cell_of_one hv
  have k1 := cell_of_one h.hca
  have k2 := cell_of_one h.hcl
  have k3 : w.cell? ⟨cu, 0, none⟩ = some (.string un) := block_cell h.hcu rfl
  have k4 := cell_of_one h.hcs
  have HV := Lib.hid hv
  have HO := Lib.hid ho
  clear h hv ho
  by_cases hlt : a < min tz last
  · have hadd : Pcs.add last (a, l) part tz = (min tz last, l ++ [(part, min tz last - a)]) := by unfold Pcs.add; rw [if_pos hlt]
    rw [hadd]
    have t1 : decide (a < min tz last) = true := by rw [decide_eq_true_eq]; exact hlt
    have hm0 : 0 ≤ min tz last - a := by omega
    have hm1 : min tz last - a ≤ 1000000000000 := by omega
    have hm2 : 0 ≤ min tz last := by omega
    have hm3 : min tz last ≤ 1000000000000 := by omega
    obtain ⟨i0, hi0, hz0, hz1, hz2⟩ := info_parts (show (Tryz.prog.info? 75).map (fun i => (i.zero, i.size, i.bytes)) = some (some (.agg #[.string ⟨#[]⟩, .string ⟨#[]⟩, .string ⟨#[]⟩, .int .i64 0, .int .i64 0]), 5, 64) by kernel_rfl)
    have HI0 := Lib.hid hi0
    have HZ0 := Lib.hid hz0
    have HZ1 := Lib.hid hz1
    have HZ2 := Lib.hid hz2
    clear hlt hadd hi0 hz0 hz1 hz2
    have HU := Lib.hid (show Tryz.prog.underlying 69 = some (.slice 75) by kernel_rfl)
    have kk := HH.out
    go_enter Tryz.func91, Tryz.ntmps91
    go_wp2_with (at_builtin; refine wpList_append_own _ rfl (.tmp 15) (.tmp 24) 69 rfl base 75 i0 (.agg #[.string ⟨#[]⟩, .string ⟨#[]⟩, .string ⟨#[]⟩, .int .i64 0, .int .i64 0]) 5 64 HU.out HI0.out HZ0.out HZ1.out HZ2.out rfl (by decide) v l.length (pcells un slot l) rfl (HO.out.alloc _) ⟨w.heap.size, 0, none⟩ 1 1 (pcell un slot (part, min tz last - a)) rfl rfl ?c1 ?c2 ?c3 ?c4 ?c5 ?_)
    case c1 =>
      intro j u hu
      rw [addr_add0, World.cell?_alloc_at _ _ _ _ rfl]
      simpa [pcell] using hu
    case c2 =>
      intro u hu
      simp only [pcell, List.mem_cons, List.not_mem_nil, or_false] at hu
      rcases hu with rfl | rfl | rfl | rfl | rfl <;> rfl
    case c3 => unfold maxLen; omega
    case c4 => omega
    case c5 => simp; omega
    intro v' w1 hown1 hg1 _
    obtain ⟨g', cap', rfl, _, _⟩ := hown1.form (by omega)
    have hvb : ∀ b, v.ownBlock = some b → base ≤ b := fun b hb => (HO.out.lt b hb).1
    have HVB := Lib.hid hvb
    clear hvb
    have nov : ∀ b, b < base → ¬ v.ownBlock = some b := fun b hb e => absurd (HVB.out b e) (by omega)
    have hk1 : Kept (fun b => v.ownBlock = some b) w w1 := (Kept.of_below (below_al w _)).grown hg1 (fun g hg _ => hg)
    have b0 := (hk1.block co (lt_of_block HV.out) (nov _ (by omega))).trans HV.out
    have b1 := (hk1.block ca (lt_of_block HH.out.hca) (nov _ (by omega))).trans HH.out.hca
    have b2 := (hk1.block cl (lt_of_block HH.out.hcl) (nov _ (by omega))).trans HH.out.hcl
    have b3 := (hk1.block cu (lt_of_block HH.out.hcu) (nov _ (by omega))).trans HH.out.hcu
    have b4 := (hk1.block cs (lt_of_block HH.out.hcs) (nov _ (by omega))).trans HH.out.hcs
    have k0' := cell_of_one b0
    have f0 := free_of_one b0
    have k1' := cell_of_one b1
    have f1 := free_of_one b1
    have HOWN := Lib.hid hown1
    have HK1 := Lib.hid hk1
    have HB0 := Lib.hid b0
    have HB1 := Lib.hid b1
    have HB2 := Lib.hid b2
    have HB3 := Lib.hid b3
    have HB4 := Lib.hid b4
    clear nov hown1 hg1 hk1 b0 b1 b2 b3 b4 k0 k1 k2 k3 k4 kk
    go_wp2_with fail
    go_end0
    refine ⟨rfl, ⟨.slice (some ⟨g', 0, none⟩) (l.length + 1) cap', ?_, ?_, ?_, ?_, ?_, ?_⟩, ?_⟩
    · rw [Below.heap_setCell _ _ _ _ (by show co ≠ ca; exact hd)]
      exact one_setCell HB0.out
    · rw [pcells_snoc, List.length_append]
      exact ownsRow_setCell_other (ownsRow_setCell_other HOWN.out (by simp [Value.ownBlock]; omega) _) (by simp [Value.ownBlock]; omega) _
    · refine one_setCell ?_ (v := .int .i64 a)
      rw [Below.heap_setCell _ _ _ _ (by show ca ≠ co; omega)]
      exact HB1.out
    · rw [Below.heap_setCell _ _ _ _ (by show cl ≠ ca; omega), Below.heap_setCell _ _ _ _ (by show cl ≠ co; omega)]
      exact HB2.out
    · rw [Below.heap_setCell _ _ _ _ (by show cu ≠ ca; omega), Below.heap_setCell _ _ _ _ (by show cu ≠ co; omega)]
      exact HB3.out
    · rw [Below.heap_setCell _ _ _ _ (by show cs ≠ ca; omega), Below.heap_setCell _ _ _ _ (by show cs ≠ co; omega)]
      exact HB4.out
    · refine kept_set (kept_set ?_ (Or.inl rfl) _) (Or.inr (Or.inl rfl)) _
      exact ⟨HK1.out.os, HK1.out.tape, HK1.out.output, HK1.out.size, fun k hk ho => HK1.out.block k hk (fun h => ho (Or.inr (Or.inr h)))⟩
  · have hadd : Pcs.add last (a, l) part tz = (a, l) := by unfold Pcs.add; rw [if_neg hlt]
    rw [hadd]
    have t1 : decide (a < min tz last) = false := by rw [decide_eq_false_iff_not]; exact hlt
    clear hlt hadd
    go_enter Tryz.func91, Tryz.ntmps91
    go_wp2_with fail
    go_end0
    exact ⟨rfl, ⟨v, HH.out⟩, Kept.refl _ _⟩
end Go.Proofs.YthdmceeipmmhjaaGreatDoor

/- The stable sort of the library: the row that it rewrites; two ranges exchanged, a rotation. -/
namespace Go.Proofs.YthdmceeipmmhjaaGreatDoor
open Go.RowKit Go.BigFrame
open Stb (at' sw2)

/-- w is w0, but for the row of block g, which holds M, and new blocks -/
structure SW (w0 w : World) (base g cap n : Nat) (M : List Int) : Prop where
  len : M.length = n
  row : w.ownsRow base 3 1 (.slice (some ⟨g, 0, none⟩) n cap) n (M.map (.int .i64))
  grown : w0.grownBy w (some g)
theorem SW.cell {w0 w : World} {base g cap n : Nat} {M : List Int} (h : SW w0 w base g cap n M) {j : Nat} (hj : j < n) : w.cell? ⟨g, j, none⟩ = some (.int .i64 (at' M j)) := by
  rw [h.row.cellAt j (by omega), List.getElem?_map, Stb.at', List.getD_eq_getElem?_getD, List.getElem?_eq_getElem (by rw [h.len]; exact hj)]
  rfl
theorem SW.frozen {w0 w : World} {base g cap n : Nat} {M : List Int} (h : SW w0 w base g cap n M) (j : Nat) : w.frozen? ⟨g, j, none⟩ = false := h.row.frozenAt j
theorem SW.drewN {w0 w : World} {base g cap n : Nat} {M : List Int} (h : SW w0 w base g cap n M) (q : Nat) : SW w0 (w.drewN q) base g cap n M :=
  ⟨h.len, h.row, h.grown.trans ⟨rfl, rfl, rfl, Nat.le_refl _, fun _ _ _ => rfl⟩⟩
theorem SW.drew {w0 w : World} {base g cap n : Nat} {M : List Int} (h : SW w0 w base g cap n M) : SW w0 w.drew base g cap n M :=
  ⟨h.len, h.row, h.grown.trans ⟨rfl, rfl, rfl, Nat.le_refl _, fun _ _ _ => rfl⟩⟩
theorem SW.swap {w0 w : World} {base g cap n : Nat} {M : List Int} (h : SW w0 w base g cap n M) {i j : Nat} {x y : Int} (hx : at' M i = x) (hy : at' M j = y) :
    SW w0 ((w.setCell ⟨g, i, none⟩ (.int .i64 y)).setCell ⟨g, j, none⟩ (.int .i64 x)) base g cap n (sw2 M i j) := by
  obtain ⟨h1, g1⟩ := h.row.stored i (.int .i64 y)
  obtain ⟨h2, g2⟩ := h1.stored j (.int .i64 x)
  refine ⟨by rw [Stb.sw2_length]; exact h.len, ?_, h.grown.trans (g1.trans g2)⟩
  unfold Stb.sw2
  rw [show M.getD i 0 = x from hx, show M.getD j 0 = y from hy, List.map_set, List.map_set]
  exact h2

set_option maxHeartbeats 1000000 in
set_option maxRecDepth 100000 in
theorem swapRange_any (w0 w : World) (base g cap n x y k : Nat) (M : List Int) (fv : Value) (h : SW w0 w base g cap n M) (hxy : x + k ≤ y) (hy : y + k ≤ n) (hn : (n : Int) ≤ 1000000) :
    Calls Tryz.prog 121 #[.slice (some ⟨g, 0, none⟩) n cap, .int .i64 x, .int .i64 y, .int .i64 k, fv] w fun e w' =>
      e = .returned (.tuple #[]) ∧ ∃ M', SW w0 w' base g cap n M' ∧ M'.Perm M ∧ ∀ p, at' M' p = Stb.exF (at' M) x y k p := by
  have H := Lib.hid h
  clear h
  go_enter Tryz.func121, Tryz.ntmps121
  go_wp2_with fail
  go_loopw [10] (fun iv wr => ∃ (i : Nat) (M' : List Int), iv = .int .i64 i ∧ i ≤ k ∧ Hid (SW w0 wr base g cap n M') ∧ Hid (M'.Perm M) ∧ Hid (∀ p, at' M' p = Stb.exF (at' M) x y i p)) (fun iv _ => k - (intOf iv).toNat)
  case atStart => exact ⟨0, M, rfl, by omega, H, Lib.hid (List.Perm.refl _), Lib.hid (fun p => (Stb.exF_start _ _ _ _).symm)⟩
  case round =>
    obtain ⟨i, M', rfl, hi, HS, HP, HE⟩ := hrel
    by_cases hlt : i < k
    · have t1 : decide ((i : Int) < (k : Int)) = true := by rw [decide_eq_true_eq]; omega
      have c1 := HS.out.cell (j := x + i) (by omega)
      have c2 := HS.out.cell (j := y + i) (by omega)
      have f1 := HS.out.frozen (x + i)
      have f2 := HS.out.frozen (y + i)
      have e1 : ((x : Int) + (i : Int)).toNat = x + i := by omega
      have e2 : ((y : Int) + (i : Int)).toNat = y + i := by omega
      have b1 : IntKind.i64.wrap ((x : Int) + (i : Int)) = (x : Int) + (i : Int) := IntWalk.i64_in _ (by omega)
      have b2 : IntKind.i64.wrap ((y : Int) + (i : Int)) = (y : Int) + (i : Int) := IntWalk.i64_in _ (by omega)
      obtain ⟨u, hu⟩ : ∃ u, at' M' (x + i) = u := ⟨_, rfl⟩
      obtain ⟨v, hv⟩ : ∃ v, at' M' (y + i) = v := ⟨_, rfl⟩
      rw [hu] at c1
      rw [hv] at c2
      have HU := Lib.hid hu
      have HV := Lib.hid hv
      obtain ⟨p1, hp1⟩ : ∃ p1, x + i = p1 := ⟨_, rfl⟩
      obtain ⟨p2, hp2⟩ : ∃ p2, y + i = p2 := ⟨_, rfl⟩
      rw [hp1] at c1 f1 e1
      rw [hp2] at c2 f2 e2
      have HP1 := Lib.hid hp1
      have HP2 := Lib.hid hp2
      have hne : p1 ≠ p2 := by omega
      have l1 : p1 < n := by omega
      have l2 : p2 < n := by omega
      clear hu hv hp1 hp2
      go_wp2_with fail
      go_region
      go_wp2
      go_roundw
      case rel => exact ⟨i + 1, sw2 M' p1 p2, by go_num, by omega, Lib.hid ((HS.out.swap (by rw [← HP1.out]; exact HU.out) (by rw [← HP2.out]; exact HV.out)).drew), Lib.hid ((Stb.sw2_perm (by rw [HS.out.len]; exact l1) (by rw [HS.out.len]; exact l2)).trans HP.out), Lib.hid (by
        rw [← HP1.out, ← HP2.out]
        exact Stb.exF_step hxy hlt (by rw [HS.out.len]; exact hy) HE.out)⟩
      case measure => simp [intOf]; omega
    · have t1 : decide ((i : Int) < (k : Int)) = false := by rw [decide_eq_false_iff_not]; omega
      obtain rfl : i = k := by omega
      clear hlt
      go_wp2_with fail
      go_end0
      exact ⟨rfl, M', HS.out, HP.out, HE.out⟩

set_option maxHeartbeats 1000000 in
set_option maxRecDepth 100000 in
theorem rotate_any (w0 w : World) (base g cap n a m b : Nat) (M : List Int) (fv : Value) (h : SW w0 w base g cap n M) (ham : a < m) (hmb : m < b) (hb : b ≤ n) (hn : (n : Int) ≤ 1000000) :
    Calls Tryz.prog 120 #[.slice (some ⟨g, 0, none⟩) n cap, .int .i64 a, .int .i64 m, .int .i64 b, fv] w fun e w' =>
      e = .returned (.tuple #[]) ∧ ∃ M', SW w0 w' base g cap n M' ∧ M'.Perm M ∧ ∀ p, at' M' p = Stb.rotF (at' M) a m b p := by
  have H := Lib.hid h
  clear h
  go_enter Tryz.func120, Tryz.ntmps120
  go_wp2_with fail
  go_loopw [10, 11] (fun iv jv wr => ∃ (i j : Nat) (M' : List Int), iv = .int .i64 i ∧ jv = .int .i64 j ∧ 0 < i ∧ 0 < j ∧ i ≤ m ∧ m + j ≤ n ∧ Hid (SW w0 wr base g cap n M') ∧ Hid (M'.Perm M) ∧ Hid (∀ p, Stb.rotF (at' M') (m - i) m (m + j) p = Stb.rotF (at' M) a m b p)) (fun iv jv _ => (intOf iv).toNat + (intOf jv).toNat)
  case atStart => exact ⟨m - a, b - m, M, by congr 1; omega, by congr 1; omega, by omega, by omega, by omega, by omega, H, Lib.hid (List.Perm.refl _), Lib.hid (fun p => by rw [show m - (m - a) = a by omega, show m + (b - m) = b by omega])⟩
  case round =>
    obtain ⟨i, j, M', rfl, rfl, hi0, hj0, him, hjn, HS, HP, HE⟩ := hrel
    have e0 : (m : Int) - (i : Int) = ((m - i : Nat) : Int) := by omega
    by_cases hij : i = j
    · subst hij
      have t1 : ((i : Int) != (i : Int)) = false := by simp
      have hc := Lib.hid (swapRange_any w0 wr base g cap n (m - i) m i M' fv HS.out (by omega) hjn hn)
      go_wp2_with fail
      refine hc.out.mono ?_
      rintro e w1 ⟨rfl, M1, hS1, hP1, hE1⟩
      have HS1 := Lib.hid hS1
      have HP1 := Lib.hid (hP1.trans HP.out)
      have HE1 := Lib.hid (fun p => (hE1 p).trans ((Stb.rot_eq him p).trans (HE.out p)))
      clear hS1 hP1 hE1
      go_wp2_with fail
      go_end0
      exact ⟨rfl, M1, HS1.out, HP1.out, HE1.out⟩
    · have t1 : ((i : Int) != (j : Int)) = true := by simp; omega
      by_cases hlt : j < i
      · have t2 : decide ((j : Int) < (i : Int)) = true := by rw [decide_eq_true_eq]; omega
        have t2' : decide (j < i) = true := by simpa using hlt
        have hc := Lib.hid (swapRange_any w0 wr base g cap n (m - i) m j M' fv HS.out (by omega) hjn hn)
        go_wp2_with fail
        refine hc.out.mono ?_
        rintro e w1 ⟨rfl, M1, hS1, hP1, hE1⟩
        have HS1 := Lib.hid hS1
        have HP1 := Lib.hid (hP1.trans HP.out)
        have HE1 := Lib.hid (fun p => (Stb.rot_more him hlt hE1 p).trans (HE.out p))
        clear hS1 hP1 hE1
        go_wp2_with fail
        go_roundw
        case rel => exact ⟨i - j, j, M1, by congr 1; omega, rfl, by omega, hj0, by omega, hjn, HS1, HP1, HE1⟩
        case measure => simp [intOf]; omega
      · have t2 : decide ((j : Int) < (i : Int)) = false := by rw [decide_eq_false_iff_not]; omega
        have t2' : decide (j < i) = false := by simpa using hlt
        have hlt' : i < j := by omega
        have e1 : (m : Int) + (j : Int) - (i : Int) = ((m + j - i : Nat) : Int) := by omega
        have hc := Lib.hid (swapRange_any w0 wr base g cap n (m - i) (m + j - i) i M' fv HS.out (by omega) (by omega) hn)
        go_wp2_with fail
        refine hc.out.mono ?_
        rintro e w1 ⟨rfl, M1, hS1, hP1, hE1⟩
        have HS1 := Lib.hid hS1
        have HP1 := Lib.hid (hP1.trans HP.out)
        have HE1 := Lib.hid (fun p => (Stb.rot_less him hlt' hE1 p).trans (HE.out p))
        clear hS1 hP1 hE1
        go_wp2_with fail
        go_roundw
        case rel => exact ⟨i, j - i, M1, rfl, by congr 1; omega, hi0, by omega, him, by omega, HS1, HP1, HE1⟩
        case measure => simp [intOf]; omega
end Go.Proofs.YthdmceeipmmhjaaGreatDoor

/- The stable sort of the library: insertion. -/
namespace Go.Proofs.YthdmceeipmmhjaaGreatDoor
open Go.RowKit Go.BigFrame
open Stb (at' sw2 Srt Res InsI)

/-- the function value that compares only reads, whatever the row holds -/
def CmpOk (R : Int → Int) (w0 : World) (base g cap n c : Nat) (M0 : List Int) : Prop :=
  ∀ w M, SW w0 w base g cap n M → ∀ x y, x ∈ M0 → y ∈ M0 →
    Calls Tryz.prog 109 #[.int .i64 x, .int .i64 y, .pointer (some ⟨c, 0, none⟩)] w fun e w' => e = .returned (.int .i64 (Lib.compareInt (R y) (R x))) ∧ ∃ q, w' = w.drewN q
def cmpV (c : Nat) : Value := .func (.func 109) #[] #[.pointer (some ⟨c, 0, none⟩)]
theorem cmp_neg (x y : Int) : Lib.compareInt x y < 0 ↔ x < y := by
  unfold Lib.compareInt
  split
  · constructor
    · intro _; assumption
    · intro _; decide
  · split
    · constructor
      · intro h; exact absurd h (by decide)
      · intro h; omega
    · constructor
      · intro h; exact absurd h (by decide)
      · intro h; omega
theorem at_mem {M M0 : List Int} {p n : Nat} (hl : M.length = n) (hp : p < n) (h : M.Perm M0) : at' M p ∈ M0 := by
  refine h.mem_iff.1 ?_
  rw [Stb.at', List.getD_eq_getElem?_getD, List.getElem?_eq_getElem (by rw [hl]; exact hp)]
  exact List.getElem_mem _

set_option maxHeartbeats 1000000 in
set_option maxRecDepth 100000 in
theorem insertion_any (R : Int → Int) (w0 w : World) (base g cap n c a b : Nat) (M0 M : List Int) (h : SW w0 w base g cap n M) (hM0 : M.Perm M0) (hcmp : CmpOk R w0 base g cap n c M0)
    (hb : b ≤ n) (hn : (n : Int) ≤ 1000000) (ha : a ≤ n) (hinc : ∀ p q, a ≤ p → p < q → q < b → at' M p < at' M q) :
    Calls Tryz.prog 118 #[.slice (some ⟨g, 0, none⟩) n cap, .int .i64 a, .int .i64 b, .func (.func 109) #[] #[.pointer (some ⟨c, 0, none⟩)]] w fun e w' =>
      e = .returned (.tuple #[]) ∧ ∃ M', SW w0 w' base g cap n M' ∧ Res M M' a b ∧ Srt R M' a b := by
  have H := Lib.hid h
  have HM0 := Lib.hid hM0
  have HC := Lib.hid hcmp
  have HI := Lib.hid hinc
  clear h hM0 hcmp hinc
  go_enter Tryz.func118, Tryz.ntmps118
  go_wp2_with fail
  go_loopw [8] (fun iv wr => ∃ (i : Nat) (M' : List Int), iv = .int .i64 i ∧ a < i ∧ (i ≤ b ∨ i = a + 1) ∧ Hid (SW w0 wr base g cap n M') ∧ Hid (Res M M' a i) ∧ Hid (Srt R M' a i)) (fun iv _ => b - (intOf iv).toNat)
  case atStart => exact ⟨a + 1, M, by go_num, by omega, Or.inr rfl, H, Lib.hid (Res.refl _ _ _), Lib.hid (fun p q h1 h2 h3 => by omega)⟩
  case round =>
    obtain ⟨i, M', rfl, hai, hib, HS, HR, HO⟩ := hrel
    by_cases hlt : i < b
    · have t1 : decide ((i : Int) < (b : Int)) = true := by rw [decide_eq_true_eq]; omega
      have hstart : InsI R M' a i i := Stb.ins_start HO.out (fun p h1 h2 => by
        obtain ⟨q, q1, q2, e⟩ := HR.out.img p h1 h2
        rw [e, HR.out.out i (Or.inr (Nat.le_refl _))]
        exact HI.out q i q1 q2 hlt)
      have HST := Lib.hid hstart
      clear hstart hib
      go_wp2_with fail
      obtain ⟨wo, rfl⟩ : ∃ wo : World, wo = wr := ⟨_, rfl⟩
      go_loopw [9] (fun jv w2 => ∃ (j : Nat) (M2 : List Int), jv = .int .i64 j ∧ a ≤ j ∧ j ≤ i ∧ Hid (SW w0 w2 base g cap n M2) ∧ Hid (Res M M2 a (i + 1)) ∧ Hid (InsI R M2 a i j)) (fun jv _ => (intOf jv).toNat)
      case atStart => exact ⟨i, M', rfl, by omega, Nat.le_refl _, HS, Lib.hid (HR.out.mono (Nat.le_refl _) (Nat.le_succ _)), HST⟩
      case round =>
        obtain ⟨j, M2, rfl, haj, hji, HS2, HR2, HI2⟩ := hrel
        by_cases hja : a < j
        · obtain ⟨jp, rfl⟩ : ∃ jp, j = jp + 1 := ⟨j - 1, by omega⟩
          have t2 : decide ((a : Int) < (jp : Int) + 1) = true := by rw [decide_eq_true_eq]; omega
          have t2' : decide (a < jp + 1) = true := by simpa using hja
          have c1 := HS2.out.cell (j := jp + 1) (by omega)
          have c2 := HS2.out.cell (j := jp) (by omega)
          have f1 := HS2.out.frozen (jp + 1)
          have f2 := HS2.out.frozen jp
          have hp2 : M2.Perm M0 := HR2.out.perm.trans HM0.out
          have m1 := at_mem HS2.out.len (show jp + 1 < n by omega) hp2
          have m2 := at_mem HS2.out.len (show jp < n by omega) hp2
          obtain ⟨x, hx⟩ : ∃ x, at' M2 (jp + 1) = x := ⟨_, rfl⟩
          obtain ⟨y, hy⟩ : ∃ y, at' M2 jp = y := ⟨_, rfl⟩
          rw [hx] at c1 m1
          rw [hy] at c2 m2
          have HX := Lib.hid hx
          have HY := Lib.hid hy
          have HQ := Lib.hid (fun q => HC.out (wr.drewN q) M2 (HS2.out.drewN q) x y m1 m2)
          have hidx : ((jp : Int) + 1).toNat = jp + 1 := by omega
          have hl1 : jp + 1 < n := by omega
          clear hx hy hp2 m1 m2
          by_cases hc : R y < R x
          · have t3 : decide (Lib.compareInt (R y) (R x) < 0) = true := by rw [decide_eq_true_eq, cmp_neg]; exact hc
            generalize Lib.compareInt (R y) (R x) = cv at t3 HQ
            go_wp2_with fail
            go_quiet ((go_at_call 109; exact Calls.quiet_of (HQ.out _)))
            go_wp2_with fail
            have HS5 := Lib.hid (HS2.out.drewN nq)
            have c1' : (wr.drewN nq).cell? ⟨g, jp + 1, none⟩ = some (.int .i64 x) := c1
            have c2' : (wr.drewN nq).cell? ⟨g, jp, none⟩ = some (.int .i64 y) := c2
            have f1' : (wr.drewN nq).frozen? ⟨g, jp + 1, none⟩ = false := f1
            have f2' : (wr.drewN nq).frozen? ⟨g, jp, none⟩ = false := f2
            clear c1 c2 f1 f2 HQ
            generalize wr.drewN nq = w5 at HS5 c1' c2' f1' f2' ⊢
            go_region
            go_wp2
            go_roundw
            case rel => exact ⟨jp, sw2 M2 (jp + 1) jp, by first | rfl | go_num, by omega, by omega, Lib.hid ((HS5.out.swap HX.out HY.out).drew), Lib.hid (HR2.out.trans (Res.sw2 (by omega) (by omega) (by omega) (by omega) (by omega) (by rw [HS2.out.len]; omega))), Lib.hid (Stb.ins_step HI2.out (by omega) hji (by rw [HS2.out.len]; omega) (by show R (at' M2 jp) < R (at' M2 (jp + 1)); rw [HX.out, HY.out]; exact hc))⟩
            case measure => simp [intOf]
          · have t3 : decide (Lib.compareInt (R y) (R x) < 0) = false := by rw [decide_eq_false_iff_not, cmp_neg]; exact hc
            generalize Lib.compareInt (R y) (R x) = cv at t3 HQ
            have HE := Lib.hid (Stb.ins_end HI2.out haj hji (Or.inr (by show ¬ R (at' M2 jp) < R (at' M2 (jp + 1)); rw [HX.out, HY.out]; exact hc)))
            go_wp2_with fail
            go_quiet ((go_at_call 109; exact Calls.quiet_of (HQ.out _)))
            go_wp2_with fail
            go_roundw
            case rel => exact ⟨i + 1, M2, by go_num, by omega, by omega, Lib.hid (HS2.out.drewN _), HR2, HE⟩
            case measure => simp [intOf]; omega
        · obtain rfl : j = a := by omega
          have t2 : decide ((j : Int) < (j : Int)) = false := by simp
          have HE := Lib.hid (Stb.ins_end HI2.out haj hji (Or.inl rfl))
          go_wp2_with fail
          go_quiet (fail)
          go_wp2_with fail
          go_roundw
          case rel => exact ⟨i + 1, M2, by go_num, by omega, by omega, Lib.hid (HS2.out.drewN _), HR2, HE⟩
          case measure => simp [intOf]; omega
    · have t1 : decide ((i : Int) < (b : Int)) = false := by rw [decide_eq_false_iff_not]; omega
      have t1' : decide (i < b) = false := by simpa using hlt
      have HE := Lib.hid (show Res M M' a b ∧ Srt R M' a b from by
        rcases hib with h | h
        · obtain rfl : i = b := by omega
          exact ⟨HR.out, HO.out⟩
        · subst h
          by_cases hab : a < b
          · obtain rfl : b = a + 1 := by omega
            exact ⟨HR.out, HO.out⟩
          · refine ⟨?_, fun p q h1 h2 h3 => by omega⟩
            have : ∀ p, at' M' p = at' M p := fun p => by
              by_cases hp : p = a
              · subst hp
                obtain ⟨q, q1, q2, e⟩ := HR.out.img p (Nat.le_refl _) (by omega)
                obtain rfl : q = p := by omega
                exact e
              · exact HR.out.out p (by omega)
            exact ⟨HR.out.perm, fun p _ => this p, fun p h1 h2 => ⟨p, h1, h2, this p⟩⟩)
      clear hib hlt
      go_wp2_with fail
      go_end0
      exact ⟨rfl, M', HS.out, HE.out.1, HE.out.2⟩
end Go.Proofs.YthdmceeipmmhjaaGreatDoor
