/- Gear: the mounts are checked (reference; printed by wip/g/gen_rmounts.py). -/
import Derived.Test.YtbkpoepacjinlaaGq
import Derived.Test.YtbkpoepacjinlaaGx
namespace Go.Proofs.Ytbkpoepacjinlaa
open Go.RowKit Go.BigFrame
open Gar (momG endG chkM hasS hasP anyOver overB befM)

theorem idxF_neg (p : Nat → Bool) : ∀ (n k : Nat), decide (idxF p n k < 0) = !(List.range' k n).any p
  | 0, k => by simp [idxF]
  | n + 1, k => by
    rw [idxF, List.range'_succ, List.any_cons]
    cases h : p k
    · simpa using idxF_neg p n (k + 1)
    · simp
theorem hasS_idx (g : Gar) (s : ByteArray) : decide (idxF (fun i => decide (g.sn i = s)) g.ns 0 < 0) = !hasS g s := by
  rw [idxF_neg, hasS, List.range_eq_range']
theorem hasP_idx (g : Gar) (s : ByteArray) : decide (idxF (fun i => decide (g.pn i = s)) g.np 0 < 0) = !hasP g s := by
  rw [idxF_neg, hasP, List.range_eq_range']
/-- the third look of chkM, as the reference asks it -/
theorem ord_test {f t : Int} {b : Bool} (h : momG f = true) (h2 : (decide (t = -1) || momG t) = true) (h3 : decide (endG t ≤ f) = b) : (t ≠ -1 ∧ t ≤ f) ↔ b = true := by
  subst h3
  unfold momG at h h2
  simp at h h2
  unfold endG
  simp only [decide_eq_true_eq]
  split <;> omega
theorem over_sym (g : Gar) (i k : Nat) : overM (g.ms k) (g.mp k) (g.ms i) (g.mp i) (g.mf k) (g.mt k) (g.mf i) (g.mt i) = overB g i k := by
  unfold overM overB
  rw [Int.max_comm, Int.min_comm, show decide (g.ms k = g.ms i) = decide (g.ms i = g.ms k) from decide_eq_decide.2 eq_comm, show decide (g.mp k = g.mp i) = decide (g.mp i = g.mp k) from decide_eq_decide.2 eq_comm]
set_option maxHeartbeats 8000000 in
set_option maxRecDepth 100000 in
theorem rcheckMounts_any (g : Gar) (a0 a1 a2 a3 : Option Addr) (c0 c1 c2 c3 : Nat) (w : World) (h : GarIn w g a0 a1 a2 a3) (hc2 : g.nm ≤ c2) :
    Calls Try.prog 55 #[garV g a0 a1 a2 a3 c0 c1 c2 c3] w fun e w' => e = .returned (.int .i64 (if chkM g g.nm 0 ≠ 0 then chkM g g.nm 0 else if anyOver g = true then 11 else 0)) ∧ Below w.heap.size w w' := by
  have HG := Lib.hid h
  have hl2 := h.l2
  clear h
  have DS0 := Lib.hid (fun (W : World) (s : ByteArray) (hb : Below w.heap.size w W) => slotAt_any g a0 a1 a2 a3 c0 c1 c2 c3 s W (HG.out.below hb))
  have DP0 := Lib.hid (fun (W : World) (s : ByteArray) (hb : Below w.heap.size w W) => partAt_any g a0 a1 a2 a3 c0 c1 c2 c3 s W (HG.out.below hb))
  unfold garV at DS0 DP0 ⊢
  obtain ⟨z0, hz0⟩ : ∃ z, chkM g g.nm 0 = z := ⟨_, rfl⟩
  obtain ⟨zz, hzz⟩ : ∃ zz, (if z0 ≠ 0 then z0 else if anyOver g = true then 11 else 0) = zz := ⟨_, rfl⟩
  rw [hz0, hzz]
  have HZ0 := Lib.hid hz0
  have HZZ := Lib.hid hzz
  clear hz0 hzz
  obtain ⟨W0, hW0, hb0, hs0, hl0⟩ := alloc_cells w #[.slice a0 g.np c0, .slice a1 g.ns c1, .slice a2 g.nm c2, .slice a3 g.nu c3] 27
  have G0 := Ext.ex (hl0 0 _ rfl)
  have G1 := Ext.ex (hl0 1 _ rfl)
  have G2 := Ext.ex (hl0 2 _ rfl)
  have G3 := Ext.ex (hl0 3 _ rfl)
  have HW0 := Lib.hid hW0
  have HB0 := Lib.hid hb0
  have hs0' : w.heap.size ≤ W0.heap.size := by omega
  clear hl0 hW0 hb0 hs0
  go_enter Try.func55, Try.ntmps55
  go_upto_region 1 with (fail)
  rw [HW0.out]
  refine ext_wp fun X => ?_
  go_wp2_with fail
  go_loopw [12] (fun iv wr => ∃ (k : Nat), iv = .int .i64 k ∧ k ≤ g.nm ∧ (∃ X : Ext W0, wr = X.1) ∧ Hid (chkM g (g.nm - k) k = z0)) (fun iv _ => g.nm - (intOf iv).toNat)
  case atStart => exact ⟨0, rfl, by omega, ⟨X, rfl⟩, HZ0⟩
  case round =>
    obtain ⟨k, rfl, hk, ⟨X, rfl⟩, HX⟩ := hrel
    by_cases hlt : k < g.nm
    · have t1 : decide ((k : Int) < (g.nm : Int)) = true := by rw [decide_eq_true_eq]; omega
      obtain ⟨b, off, rfl, hbl, hc⟩ := (HG.out.r2.below (X.down HB0.out hs0') (Nat.le_refl _)).here (by omega)
      have e0 : X.1.cell? ⟨b, off + k * 4, none⟩ = some (.string (g.ms k)) := hc k hlt 0 (by omega)
      have e1 : X.1.cell? ⟨b, off + k * 4 + 1, none⟩ = some (.string (g.mp k)) := hc k hlt 1 (by omega)
      have e2 : X.1.cell? ⟨b, off + k * 4 + 2, none⟩ = some (.int .i64 (g.mf k)) := hc k hlt 2 (by omega)
      have e3 : X.1.cell? ⟨b, off + k * 4 + 3, none⟩ = some (.int .i64 (g.mt k)) := hc k hlt 3 (by omega)
      have hx := HX.out
      rw [show g.nm - k = (g.nm - k - 1) + 1 by omega, chkM] at hx
      have HX2 := Lib.hid hx
      obtain ⟨W1, hW1, hb1, hs1, hl1⟩ := alloc_cells X.1 #[.string (g.ms k), .string (g.mp k), .int .i64 (g.mf k), .int .i64 (g.mt k)] 54
      have L0 := Ext.ex (hl1 0 _ rfl)
      have L1 := Ext.ex (hl1 1 _ rfl)
      have L2 := Ext.ex (hl1 2 _ rfl)
      have L3 := Ext.ex (hl1 3 _ rfl)
      have hb01 := below_step X.2 hb1
      have M0 := Ext.re hb01 G0
      have M1 := Ext.re hb01 G1
      have M2 := Ext.re hb01 G2
      have M3 := Ext.re hb01 G3
      have HB01 := Lib.hid hb01
      have hbw := HB0.out.trans (hb01.mono hs0')
      have hsw : w.heap.size ≤ W1.heap.size := hbw.size
      have HBW := Lib.hid hbw
      have HB1 := Lib.hid hb1
      have HW1 := Lib.hid hW1
      have DS := Lib.hid (fun (Y : Ext W1) => DS0.out Y.1 (g.ms k) (Y.down HBW.out hsw))
      have DP := Lib.hid (fun (Y : Ext W1) => DP0.out Y.1 (g.mp k) (Y.down HBW.out hsw))
      have D3 := Lib.hid (fun W => rmoment_any (g.mf k) W)
      have D4 := Lib.hid (fun W => rmoment_any (g.mt k) W)
      have DE := Lib.hid (fun (Y : Ext W1) => rend_any (g.ms k) (g.mp k) (g.mf k) (g.mt k) Y.1)
      have is1 := hasS_idx g (g.ms k)
      have is2 := hasP_idx g (g.mp k)
      generalize idxF (fun i => decide (g.sn i = g.ms k)) g.ns 0 = i1 at DS is1
      generalize idxF (fun i => decide (g.pn i = g.mp k)) g.np 0 = i2 at DP is2
      unfold mountV at DE
      have RET : ∀ (v : Int) (Y : Ext W1), v ≠ 0 → v = z0 → Ending.returned (.int .i64 v) = .returned (.int .i64 zz) ∧ Below w.heap.size w Y.1 := fun v Y hv hz => by
        refine ⟨ret_int ?_, Y.down HBW.out hsw⟩
        rw [← HZZ.out, ← hz, if_pos hv]
      have HRET := Lib.hid RET
      clear hx HX hl1 hW1 hb1 hs1 hb01 hbw RET
      cases hS : hasS g (g.ms k)
      · rw [hS] at is1 HX2
        rw [Bool.false_and, if_pos rfl] at HX2
        clear hc hS
        go_upto_region 4 with (fail)
        rw [HW1.out]
        refine ext_wp fun X1 => ?_
        go_wp2_with (first  | (go_at_call 46; refine (Ext.calls _ (DS.out _)).mono ?_; rintro e w2 ⟨rfl, Y, rfl⟩)  | (go_at_call 67; refine (Ext.calls _ (DP.out _)).mono ?_; rintro e w2 ⟨rfl, Y, rfl⟩)  | (go_at_call 47; refine ((by with_reducible exact D3.out _ : Calls _ _ _ _ _)).mono ?_; rintro e w2 ⟨rfl, rfl⟩)  | (go_at_call 47; refine ((by with_reducible exact D4.out _ : Calls _ _ _ _ _)).mono ?_; rintro e w2 ⟨rfl, rfl⟩))
        go_ret
        exact HRET.out 4 _ (by decide) HX2.out
      cases hP : hasP g (g.mp k)
      · rw [hS] at is1 HX2
        rw [hP] at is2 HX2
        rw [Bool.and_false, if_pos rfl] at HX2
        clear hc hS hP
        go_upto_region 4 with (fail)
        rw [HW1.out]
        refine ext_wp fun X1 => ?_
        go_wp2_with (first  | (go_at_call 46; refine (Ext.calls _ (DS.out _)).mono ?_; rintro e w2 ⟨rfl, Y, rfl⟩)  | (go_at_call 67; refine (Ext.calls _ (DP.out _)).mono ?_; rintro e w2 ⟨rfl, Y, rfl⟩)  | (go_at_call 47; refine ((by with_reducible exact D3.out _ : Calls _ _ _ _ _)).mono ?_; rintro e w2 ⟨rfl, rfl⟩)  | (go_at_call 47; refine ((by with_reducible exact D4.out _ : Calls _ _ _ _ _)).mono ?_; rintro e w2 ⟨rfl, rfl⟩))
        go_ret
        exact HRET.out 4 _ (by decide) HX2.out
      rw [hS] at is1 HX2
      rw [hP] at is2 HX2
      rw [Bool.true_and, if_neg (by simp)] at HX2
      clear hS hP
      cases hF : momG (g.mf k)
      · rw [hF] at D3 HX2
        rw [Bool.false_and, if_pos rfl] at HX2
        clear hc hF
        go_upto_region 4 with (fail)
        rw [HW1.out]
        refine ext_wp fun X1 => ?_
        go_wp2_with (first  | (go_at_call 46; refine (Ext.calls _ (DS.out _)).mono ?_; rintro e w2 ⟨rfl, Y, rfl⟩)  | (go_at_call 67; refine (Ext.calls _ (DP.out _)).mono ?_; rintro e w2 ⟨rfl, Y, rfl⟩)  | (go_at_call 47; refine ((by with_reducible exact D3.out _ : Calls _ _ _ _ _)).mono ?_; rintro e w2 ⟨rfl, rfl⟩)  | (go_at_call 47; refine ((by with_reducible exact D4.out _ : Calls _ _ _ _ _)).mono ?_; rintro e w2 ⟨rfl, rfl⟩))
        go_ret
        exact HRET.out 9 _ (by decide) HX2.out
      cases hT : (decide (g.mt k = -1) || momG (g.mt k))
      · rw [hT] at HX2
        rw [hF, Bool.and_false, if_pos rfl] at HX2
        rw [Bool.or_eq_false_iff] at hT
        have n1 : (g.mt k != -1) = true := by rw [bne_iff_ne]; simpa using hT.1
        rw [hF] at D3
        rw [hT.2] at D4
        clear hc hF hT
        go_upto_region 4 with (fail)
        rw [HW1.out]
        refine ext_wp fun X1 => ?_
        go_wp2_with (first  | (go_at_call 46; refine (Ext.calls _ (DS.out _)).mono ?_; rintro e w2 ⟨rfl, Y, rfl⟩)  | (go_at_call 67; refine (Ext.calls _ (DP.out _)).mono ?_; rintro e w2 ⟨rfl, Y, rfl⟩)  | (go_at_call 47; refine ((by with_reducible exact D3.out _ : Calls _ _ _ _ _)).mono ?_; rintro e w2 ⟨rfl, rfl⟩)  | (go_at_call 47; refine ((by with_reducible exact D4.out _ : Calls _ _ _ _ _)).mono ?_; rintro e w2 ⟨rfl, rfl⟩))
        go_ret
        exact HRET.out 9 _ (by decide) HX2.out
      have H3 := Lib.hid (fun b => ord_test (b := b) hF hT)
      rw [hT] at HX2
      rw [hF] at HX2 D3
      rw [Bool.and_true, if_neg (by simp)] at HX2
      have hN : (g.mt k != -1) = true → momG (g.mt k) = true := fun hn => by
        rw [bne_iff_ne] at hn
        rw [Bool.or_eq_true, decide_eq_true_eq] at hT
        exact hT.resolve_left hn
      have HNN := Lib.hid hN
      clear hF hT hN
      cases hE : decide (endG (g.mt k) ≤ g.mf k)
      case true =>
        rw [if_pos (Or.inl ((H3.out true hE).2 rfl))] at HX2
        generalize endG (g.mt k) = en at hE DE
        clear hc
        cases hn : (g.mt k != -1)
        case true =>
          have D4' := D4
          rw [HNN.out hn] at D4'
          clear D4
          have D4 := D4'
          clear D4'
          go_upto_region 4 with (fail)
          rw [HW1.out]
          refine ext_wp fun X1 => ?_
          go_wp2_with (first  | (go_at_call 46; refine (Ext.calls _ (DS.out _)).mono ?_; rintro e w2 ⟨rfl, Y, rfl⟩)  | (go_at_call 67; refine (Ext.calls _ (DP.out _)).mono ?_; rintro e w2 ⟨rfl, Y, rfl⟩)  | (go_at_call 47; refine ((by with_reducible exact D3.out _ : Calls _ _ _ _ _)).mono ?_; rintro e w2 ⟨rfl, rfl⟩)  | (go_at_call 47; refine ((by with_reducible exact D4.out _ : Calls _ _ _ _ _)).mono ?_; rintro e w2 ⟨rfl, rfl⟩))
          refine wp_region_ext (W := W1) _ (by kernel_rfl) (by kernel_rfl) ?_
          repeat go_big_quiet_step ((first | (go_at_call 107; exact Ext.calls _ (DE.out _))))
          refine wpQuiet_nil ?_
          intro _ hw'
          obtain ⟨Y, rfl⟩ := hw'
          go_wp2_with fail
          go_ret
          exact HRET.out 10 _ (by decide) HX2.out
        case false =>
          go_upto_region 4 with (fail)
          rw [HW1.out]
          refine ext_wp fun X1 => ?_
          go_wp2_with (first  | (go_at_call 46; refine (Ext.calls _ (DS.out _)).mono ?_; rintro e w2 ⟨rfl, Y, rfl⟩)  | (go_at_call 67; refine (Ext.calls _ (DP.out _)).mono ?_; rintro e w2 ⟨rfl, Y, rfl⟩)  | (go_at_call 47; refine ((by with_reducible exact D3.out _ : Calls _ _ _ _ _)).mono ?_; rintro e w2 ⟨rfl, rfl⟩)  | (go_at_call 47; refine ((by with_reducible exact D4.out _ : Calls _ _ _ _ _)).mono ?_; rintro e w2 ⟨rfl, rfl⟩))
          refine wp_region_ext (W := W1) _ (by kernel_rfl) (by kernel_rfl) ?_
          repeat go_big_quiet_step ((first | (go_at_call 107; exact Ext.calls _ (DE.out _))))
          refine wpQuiet_nil ?_
          intro _ hw'
          obtain ⟨Y, rfl⟩ := hw'
          go_wp2_with fail
          go_ret
          exact HRET.out 10 _ (by decide) HX2.out
      case false =>
        have hE0 : ¬ (g.mt k ≠ -1 ∧ g.mt k ≤ g.mf k) := fun hh => absurd ((H3.out false hE).1 hh) (by simp)
        have HE0 := Lib.hid hE0
        clear hE0 H3
        generalize endG (g.mt k) = en at hE DE
        by_cases hk0 : 0 < k
        · obtain ⟨q, rfl⟩ : ∃ q, k = q + 1 := ⟨k - 1, by omega⟩
          have g0 : decide ((0 : Int) < ((q + 1 : Nat) : Int)) = true := by rw [decide_eq_true_eq]; omega
          have g0' : decide (0 < q + 1) = true := by simp
          have p0 : X.1.cell? ⟨b, off + q * 4, none⟩ = some (.string (g.ms q)) := hc q (by omega) 0 (by omega)
          have p1 : X.1.cell? ⟨b, off + q * 4 + 1, none⟩ = some (.string (g.mp q)) := hc q (by omega) 1 (by omega)
          have p2 : X.1.cell? ⟨b, off + q * 4 + 2, none⟩ = some (.int .i64 (g.mf q)) := hc q (by omega) 2 (by omega)
          have p3 : X.1.cell? ⟨b, off + q * 4 + 3, none⟩ = some (.int .i64 (g.mt q)) := hc q (by omega) 3 (by omega)
          have P0 := Ext.ex (below_cell HB1.out p0)
          have P1 := Ext.ex (below_cell HB1.out p1)
          have P2 := Ext.ex (below_cell HB1.out p2)
          have P3 := Ext.ex (below_cell HB1.out p3)
          have DC := Lib.hid (fun (Y : Ext W1) => comes_any (g.ms q) (g.mp q) (g.ms (q + 1)) (g.mp (q + 1)) (g.mf q) (g.mt q) (g.mf (q + 1)) (g.mt (q + 1)) Y.1)
          unfold mountV at DC
          rw [show befM g (q + 1 - 1) (q + 1) = befB (g.mf q) (g.mf (q + 1)) (g.ms q) (g.ms (q + 1)) from rfl] at HX2
          generalize befB (g.mf q) (g.mf (q + 1)) (g.ms q) (g.ms (q + 1)) = bb at DC HX2
          clear hc p0 p1 p2 p3 hk0
          cases hn : (g.mt (q + 1) != -1)
          · skip
            cases bb
            · rw [if_pos (Or.inr ⟨by omega, rfl⟩)] at HX2
              go_upto_region 4 with (fail)
              rw [HW1.out]
              refine ext_wp fun X1 => ?_
              go_wp2_with (first  | (go_at_call 46; refine (Ext.calls _ (DS.out _)).mono ?_; rintro e w2 ⟨rfl, Y, rfl⟩)  | (go_at_call 67; refine (Ext.calls _ (DP.out _)).mono ?_; rintro e w2 ⟨rfl, Y, rfl⟩)  | (go_at_call 47; refine ((by with_reducible exact D3.out _ : Calls _ _ _ _ _)).mono ?_; rintro e w2 ⟨rfl, rfl⟩)  | (go_at_call 47; refine ((by with_reducible exact D4.out _ : Calls _ _ _ _ _)).mono ?_; rintro e w2 ⟨rfl, rfl⟩))
              refine wp_region_ext (W := W1) _ (by kernel_rfl) (by kernel_rfl) ?_
              repeat go_big_quiet_step ((first | (go_at_call 107; exact Ext.calls _ (DE.out _)) | (go_at_call 92; exact Ext.calls _ (DC.out _))))
              refine wpQuiet_nil ?_
              intro _ hw'
              obtain ⟨Y, rfl⟩ := hw'
              go_wp2_with fail
              go_ret
              exact HRET.out 10 _ (by decide) HX2.out
            · rw [if_neg (fun hh => hh.elim HE0.out (fun h => absurd h.2 (by simp)))] at HX2
              go_upto_region 4 with (fail)
              rw [HW1.out]
              refine ext_wp fun X1 => ?_
              go_wp2_with (first  | (go_at_call 46; refine (Ext.calls _ (DS.out _)).mono ?_; rintro e w2 ⟨rfl, Y, rfl⟩)  | (go_at_call 67; refine (Ext.calls _ (DP.out _)).mono ?_; rintro e w2 ⟨rfl, Y, rfl⟩)  | (go_at_call 47; refine ((by with_reducible exact D3.out _ : Calls _ _ _ _ _)).mono ?_; rintro e w2 ⟨rfl, rfl⟩)  | (go_at_call 47; refine ((by with_reducible exact D4.out _ : Calls _ _ _ _ _)).mono ?_; rintro e w2 ⟨rfl, rfl⟩))
              refine wp_region_ext (W := W1) _ (by kernel_rfl) (by kernel_rfl) ?_
              repeat go_big_quiet_step ((first | (go_at_call 107; exact Ext.calls _ (DE.out _)) | (go_at_call 92; exact Ext.calls _ (DC.out _))))
              refine wpQuiet_nil ?_
              intro _ hw'
              obtain ⟨Y, rfl⟩ := hw'
              go_wp2_with fail
              go_roundw
              case rel => exact ⟨q + 1 + 1, by go_num, by omega, ⟨⟨_, below_step HB01.out Y.2⟩, rfl⟩, HX2⟩
              case measure => simp [intOf]; omega
          · have D4 : Hid (∀ W, Calls Try.prog 47 #[.int .i64 (g.mt (q + 1))] W fun e w' => e = .returned (.bool true) ∧ W = w') := Lib.hid (fun W => by rw [← HNN.out hn]; exact D4.out W)
            cases bb
            · rw [if_pos (Or.inr ⟨by omega, rfl⟩)] at HX2
              go_upto_region 4 with (fail)
              rw [HW1.out]
              refine ext_wp fun X1 => ?_
              go_wp2_with (first  | (go_at_call 46; refine (Ext.calls _ (DS.out _)).mono ?_; rintro e w2 ⟨rfl, Y, rfl⟩)  | (go_at_call 67; refine (Ext.calls _ (DP.out _)).mono ?_; rintro e w2 ⟨rfl, Y, rfl⟩)  | (go_at_call 47; refine ((by with_reducible exact D3.out _ : Calls _ _ _ _ _)).mono ?_; rintro e w2 ⟨rfl, rfl⟩)  | (go_at_call 47; refine ((by with_reducible exact D4.out _ : Calls _ _ _ _ _)).mono ?_; rintro e w2 ⟨rfl, rfl⟩))
              refine wp_region_ext (W := W1) _ (by kernel_rfl) (by kernel_rfl) ?_
              repeat go_big_quiet_step ((first | (go_at_call 107; exact Ext.calls _ (DE.out _)) | (go_at_call 92; exact Ext.calls _ (DC.out _))))
              refine wpQuiet_nil ?_
              intro _ hw'
              obtain ⟨Y, rfl⟩ := hw'
              go_wp2_with fail
              go_ret
              exact HRET.out 10 _ (by decide) HX2.out
            · rw [if_neg (fun hh => hh.elim HE0.out (fun h => absurd h.2 (by simp)))] at HX2
              go_upto_region 4 with (fail)
              rw [HW1.out]
              refine ext_wp fun X1 => ?_
              go_wp2_with (first  | (go_at_call 46; refine (Ext.calls _ (DS.out _)).mono ?_; rintro e w2 ⟨rfl, Y, rfl⟩)  | (go_at_call 67; refine (Ext.calls _ (DP.out _)).mono ?_; rintro e w2 ⟨rfl, Y, rfl⟩)  | (go_at_call 47; refine ((by with_reducible exact D3.out _ : Calls _ _ _ _ _)).mono ?_; rintro e w2 ⟨rfl, rfl⟩)  | (go_at_call 47; refine ((by with_reducible exact D4.out _ : Calls _ _ _ _ _)).mono ?_; rintro e w2 ⟨rfl, rfl⟩))
              refine wp_region_ext (W := W1) _ (by kernel_rfl) (by kernel_rfl) ?_
              repeat go_big_quiet_step ((first | (go_at_call 107; exact Ext.calls _ (DE.out _)) | (go_at_call 92; exact Ext.calls _ (DC.out _))))
              refine wpQuiet_nil ?_
              intro _ hw'
              obtain ⟨Y, rfl⟩ := hw'
              go_wp2_with fail
              go_roundw
              case rel => exact ⟨q + 1 + 1, by go_num, by omega, ⟨⟨_, below_step HB01.out Y.2⟩, rfl⟩, HX2⟩
              case measure => simp [intOf]; omega

        · obtain rfl : k = 0 := by omega
          rw [if_neg (fun hh => hh.elim HE0.out (fun h => absurd h.1 (by omega)))] at HX2
          have g0 : decide ((0 : Int) < ((0 : Nat) : Int)) = false := by simp
          have g0' : decide ((0 : Int) < (0 : Int)) = false := by simp
          simp only [Nat.zero_mul, Nat.add_zero] at e0 e1 e2 e3
          clear hc hk0
          cases hn : (g.mt 0 != -1)
          · skip
            go_upto_region 4 with (fail)
            rw [HW1.out]
            refine ext_wp fun X1 => ?_
            go_wp2_with (first  | (go_at_call 46; refine (Ext.calls _ (DS.out _)).mono ?_; rintro e w2 ⟨rfl, Y, rfl⟩)  | (go_at_call 67; refine (Ext.calls _ (DP.out _)).mono ?_; rintro e w2 ⟨rfl, Y, rfl⟩)  | (go_at_call 47; refine ((by with_reducible exact D3.out _ : Calls _ _ _ _ _)).mono ?_; rintro e w2 ⟨rfl, rfl⟩)  | (go_at_call 47; refine ((by with_reducible exact D4.out _ : Calls _ _ _ _ _)).mono ?_; rintro e w2 ⟨rfl, rfl⟩))
            refine wp_region_ext (W := W1) _ (by kernel_rfl) (by kernel_rfl) ?_
            repeat go_big_quiet_step ((first | (go_at_call 107; exact Ext.calls _ (DE.out _))))
            refine wpQuiet_nil ?_
            intro _ hw'
            obtain ⟨Y, rfl⟩ := hw'
            go_wp2_with fail
            go_roundw
            case rel => exact ⟨0 + 1, by go_num, by omega, ⟨⟨_, below_step HB01.out Y.2⟩, rfl⟩, HX2⟩
            case measure => simp [intOf]; omega
          · have D4 : Hid (∀ W, Calls Try.prog 47 #[.int .i64 (g.mt 0)] W fun e w' => e = .returned (.bool true) ∧ W = w') := Lib.hid (fun W => by rw [← HNN.out hn]; exact D4.out W)
            go_upto_region 4 with (fail)
            rw [HW1.out]
            refine ext_wp fun X1 => ?_
            go_wp2_with (first  | (go_at_call 46; refine (Ext.calls _ (DS.out _)).mono ?_; rintro e w2 ⟨rfl, Y, rfl⟩)  | (go_at_call 67; refine (Ext.calls _ (DP.out _)).mono ?_; rintro e w2 ⟨rfl, Y, rfl⟩)  | (go_at_call 47; refine ((by with_reducible exact D3.out _ : Calls _ _ _ _ _)).mono ?_; rintro e w2 ⟨rfl, rfl⟩)  | (go_at_call 47; refine ((by with_reducible exact D4.out _ : Calls _ _ _ _ _)).mono ?_; rintro e w2 ⟨rfl, rfl⟩))
            refine wp_region_ext (W := W1) _ (by kernel_rfl) (by kernel_rfl) ?_
            repeat go_big_quiet_step ((first | (go_at_call 107; exact Ext.calls _ (DE.out _))))
            refine wpQuiet_nil ?_
            intro _ hw'
            obtain ⟨Y, rfl⟩ := hw'
            go_wp2_with fail
            go_roundw
            case rel => exact ⟨0 + 1, by go_num, by omega, ⟨⟨_, below_step HB01.out Y.2⟩, rfl⟩, HX2⟩
            case measure => simp [intOf]; omega

    · have t1 : decide ((k : Int) < (g.nm : Int)) = false := by rw [decide_eq_false_iff_not]; omega
      have t1' : decide (k < g.nm) = false := by simpa using hlt
      have hx := HX.out
      rw [show g.nm - k = 0 by omega, chkM] at hx
      have HZ : Hid (z0 = 0) := Lib.hid hx.symm
      clear hx HX hlt
      go_wp2_with fail
      obtain ⟨Xo, rfl⟩ : ∃ Xo : Ext W0, Xo = X := ⟨_, rfl⟩
      go_loopw [68] (fun iv wr => ∃ (k : Nat), iv = .int .i64 k ∧ k ≤ g.nm ∧ (∃ X : Ext W0, wr = X.1) ∧ Hid (∀ k', k' < k → anyK (fun i => overB g i k') k' = false)) (fun iv _ => g.nm - (intOf iv).toNat)
      case atStart => exact ⟨0, rfl, by omega, ⟨Xo, rfl⟩, Lib.hid (fun k' hk' => by omega)⟩
      case round =>
        obtain ⟨k, rfl, hk, ⟨X, rfl⟩, HX⟩ := hrel
        by_cases hlt : k < g.nm
        · have t1 : decide ((k : Int) < (g.nm : Int)) = true := by rw [decide_eq_true_eq]; omega
          have t1' : decide (k < g.nm) = true := by simpa using hlt
          obtain ⟨b, off, rfl, hbl, hc⟩ := (HG.out.r2.below (X.down HB0.out hs0') (Nat.le_refl _)).here (by omega)
          have e0 : X.1.cell? ⟨b, off + k * 4, none⟩ = some (.string (g.ms k)) := hc k hlt 0 (by omega)
          have e1 : X.1.cell? ⟨b, off + k * 4 + 1, none⟩ = some (.string (g.mp k)) := hc k hlt 1 (by omega)
          have e2 : X.1.cell? ⟨b, off + k * 4 + 2, none⟩ = some (.int .i64 (g.mf k)) := hc k hlt 2 (by omega)
          have e3 : X.1.cell? ⟨b, off + k * 4 + 3, none⟩ = some (.int .i64 (g.mt k)) := hc k hlt 3 (by omega)
          obtain ⟨W1, hW1, hb1, hs1, hl1⟩ := alloc_cells X.1 #[.string (g.ms k), .string (g.mp k), .int .i64 (g.mf k), .int .i64 (g.mt k)] 54
          have L0 := Ext.ex (hl1 0 _ rfl)
          have L1 := Ext.ex (hl1 1 _ rfl)
          have L2 := Ext.ex (hl1 2 _ rfl)
          have L3 := Ext.ex (hl1 3 _ rfl)
          have L0a := Ext.exa L0
          have L1a := Ext.exa L1
          have L2a := Ext.exa L2
          have L3a := Ext.exa L3
          have hb01 := below_step X.2 hb1
          have M0 := Ext.re hb01 G0
          have M1 := Ext.re hb01 G1
          have M2 := Ext.re hb01 G2
          have M3 := Ext.re hb01 G3
          have HB01 := Lib.hid hb01
          have hbw := HB0.out.trans (hb01.mono hs0')
          have hsw : w.heap.size ≤ W1.heap.size := hbw.size
          have HBW := Lib.hid hbw
          have HB1 := Lib.hid hb1
          have HW1 := Lib.hid hW1
          clear hc hl1 hW1 hb1 hs1 hb01 hbw
          go_upto_region 14 with (fail)
          rw [HW1.out]
          refine ext_wp fun X1 => ?_
          go_wp2_with fail
          go_loopw [78] (fun iv wr => ∃ (j : Nat), iv = .int .i64 j ∧ j ≤ k ∧ (∃ Y : Ext W1, wr = Y.1) ∧ Hid (∀ i, i < j → overB g i k = false)) (fun iv _ => k - (intOf iv).toNat)
          case atStart => exact ⟨0, rfl, by omega, ⟨X1, rfl⟩, Lib.hid (fun i hi => by omega)⟩
          case round =>
            obtain ⟨j, rfl, hj, ⟨Y, rfl⟩, HN⟩ := hrel
            by_cases hjk : j < k
            · have t2 : decide ((j : Int) < (k : Int)) = true := by rw [decide_eq_true_eq]; omega
              have t2' : decide (j < k) = true := by simpa using hjk
              have hc := fun (i : Nat) (hi : i < g.nm) (q : Nat) (hq : q < 4) => (HG.out.r2.below (Y.down HBW.out hsw) (Nat.le_refl _)).at hi hq
              have hby : b < Y.1.heap.size := Nat.lt_of_lt_of_le hbl (Nat.le_trans HB1.out.size Y.2.size)
              have f0 : Y.1.cell? ⟨b, off + j * 4, none⟩ = some (.string (g.ms j)) := hc j (by omega) 0 (by omega)
              have f1 : Y.1.cell? ⟨b, off + j * 4 + 1, none⟩ = some (.string (g.mp j)) := hc j (by omega) 1 (by omega)
              have f2 : Y.1.cell? ⟨b, off + j * 4 + 2, none⟩ = some (.int .i64 (g.mf j)) := hc j (by omega) 2 (by omega)
              have f3 : Y.1.cell? ⟨b, off + j * 4 + 3, none⟩ = some (.int .i64 (g.mt j)) := hc j (by omega) 3 (by omega)
              have DO := Lib.hid (fun W => overlap_any (g.ms k) (g.mp k) (g.ms j) (g.mp j) (g.mf k) (g.mt k) (g.mf j) (g.mt j) W)
              unfold mountV at DO
              cases ho : overB g j k
              · have HN2 : Hid (∀ i, i < j + 1 → overB g i k = false) := Lib.hid (fun i hi => by
                  by_cases e : i = j
                  · subst e; exact ho
                  · exact HN.out i (by omega))
                rw [show overM (g.ms k) (g.mp k) (g.ms j) (g.mp j) (g.mf k) (g.mt k) (g.mf j) (g.mt j) = false from (over_sym g j k).trans ho] at DO
                clear hc ho HN
                go_wp2_with fail
                refine (DO.out _).mono ?_
                rintro e w2 ⟨rfl, hb2⟩
                obtain ⟨Z, rfl⟩ : ∃ Z : Ext W1, w2 = Z.1 := ⟨⟨w2, below_step (below_step Y.2 (below_al _ _)) hb2⟩, rfl⟩
                clear hb2
                go_wp2_with fail
                go_roundw
                case rel => exact ⟨j + 1, by go_num, by omega, ⟨Z, rfl⟩, HN2⟩
                case measure => simp [intOf]; omega
              · rw [show overM (g.ms k) (g.mp k) (g.ms j) (g.mp j) (g.mf k) (g.mt k) (g.mf j) (g.mt j) = true from (over_sym g j k).trans ho] at DO
                have HA : Hid (anyOver g = true) := Lib.hid (anyK_some (p := fun k => anyK (fun i => overB g i k) k) hlt (anyK_some (p := fun i => overB g i k) hjk ho))
                clear hc ho HN
                go_wp2_with fail
                refine (DO.out _).mono ?_
                rintro e w2 ⟨rfl, hb2⟩
                obtain ⟨Z, rfl⟩ : ∃ Z : Ext W1, w2 = Z.1 := ⟨⟨w2, below_step (below_step Y.2 (below_al _ _)) hb2⟩, rfl⟩
                clear hb2
                go_wp2_with fail
                go_ret
                exact ⟨ret_int (by rw [← HZZ.out, HZ.out, HA.out]; rfl), Z.down HBW.out hsw⟩
            · have t2 : decide ((j : Int) < (k : Int)) = false := by rw [decide_eq_false_iff_not]; omega
              have t2' : decide (j < k) = false := by simpa using hjk
              have HX2 : Hid (∀ k', k' < k + 1 → anyK (fun i => overB g i k') k' = false) := Lib.hid (fun k' hk' => by
                by_cases e : k' = k
                · subst e; exact anyK_none fun i hi => HN.out i (by omega)
                · exact HX.out k' (by omega))
              clear HN hjk
              go_wp2_with fail
              go_roundw
              case rel => exact ⟨k + 1, by go_num, by omega, ⟨⟨_, below_step HB01.out Y.2⟩, rfl⟩, HX2⟩
              case measure => simp [intOf]; omega
        · have t1 : decide ((k : Int) < (g.nm : Int)) = false := by rw [decide_eq_false_iff_not]; omega
          have t1' : decide (k < g.nm) = false := by simpa using hlt
          have HA : Hid (anyOver g = false) := Lib.hid (anyK_none (p := fun k => anyK (fun i => overB g i k) k) fun k' hk' => HX.out k' (by omega))
          clear hlt HX
          go_wp2_with fail
          go_ret
          exact ⟨ret_int (by rw [← HZZ.out, HZ.out, HA.out]; rfl), X.down HB0.out hs0'⟩
end Go.Proofs.Ytbkpoepacjinlaa
