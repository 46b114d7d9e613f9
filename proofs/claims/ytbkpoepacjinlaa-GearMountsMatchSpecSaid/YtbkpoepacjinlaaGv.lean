/- Gear: the mounts are checked (program; printed by wip/g/gen_gmounts.py). -/
import Derived.Test.YtbkpoepacjinlaaGr
import Derived.Test.YtbkpoepacjinlaaMq
namespace Go.Proofs.Ytbkpoepacjinlaa
open Go.RowKit Go.BigFrame
open Gar (momG endG chkM hasS hasP anyOver overB befM)

theorem anyK_step (p : ByteArray → Nat → Bool) (k : Nat) (s : ByteArray) (q : Nat → ByteArray) (hp : ∀ s' i, p s' i = decide (q i = s')) (hs : q k = s) :
    setF (fun s' => anyK (p s') k) s true = fun s' => anyK (p s') (k + 1) := by
  funext s'
  unfold setF
  unfold anyK
  rw [List.range_succ, List.any_append]
  by_cases h : s' = s
  · rw [if_pos h]
    simp [hp, hs, h]
  · rw [if_neg h]
    have : decide (q k = s') = false := by rw [decide_eq_false_iff_not, hs]; exact fun e => h e.symm
    simp [hp, this]
theorem lastE_step (x : Nat → ByteArray) (e : Nat → Int) (k : Nat) : setF (fun s' => Gmt.lastE x e k s') (x k) (e k) = fun s' => Gmt.lastE x e (k + 1) s' := by
  funext s'
  unfold setF
  rw [Gmt.lastE]
  by_cases h : s' = x k
  · rw [if_pos h, if_pos h.symm]
  · rw [if_neg h, if_neg (fun e => h e.symm)]
/-- the ends of the last mounts tell whether mounts overlap -/
theorem over_bad {g : Gar} (h : chkM g g.nm 0 = 0) : anyOver g = true ↔ ∃ k, k < g.nm ∧ Gmt.bad1 g.ms g.mp g.mf (fun i => endG (g.mt i)) k := by
  rw [Gmt.bad_iff (fun i hi => ⟨(Gar.mt_cases h i hi).1, (Gar.mt_cases h i hi).2.2⟩) (fun i j hij hj => Gar.mf_mono h j i (by omega) hj)]
  unfold anyOver Gmt.bad2 overB
  simp only [List.any_eq_true, List.mem_range, Bool.and_eq_true, Bool.or_eq_true, decide_eq_true_eq]
theorem two_maps {α : Type} (W : World) (P : Program) (k : TypeId) (R : Value → Option (DataW Unit × List MemPlace)) (dat : α → DataW Unit) (zd : DataW Unit) (f : ByteArray → α) (hf : ∀ s, dat (f s) = zd) :
    ∃ V, (W.alloc (.map #[] 0)).alloc (.map #[] 0) = V ∧ Below W.heap.size W V ∧ V.heap.size = W.heap.size + 2 ∧ StrMap V P k R W.heap.size 0 dat zd f ∧ StrMap V P k R (W.heap.size + 1) 0 dat zd f := by
  refine ⟨_, rfl, below_tr (below_al W _) (by simp) (below_al _ _), by simp, ?_, ?_⟩
  · exact (StrMap.made W P k R hf).kept (World.grownBy_alloc _ _ none) (by simp)
  · have := StrMap.made (W.alloc (.map #[] 0)) P k R hf
    rwa [World.size_alloc] at this
theorem strMap_ext {α : Type} {w : World} {P : Program} {k : TypeId} {R : Value → Option (DataW Unit × List MemPlace)} {b n : Nat} {dat : α → DataW Unit} {zd : DataW Unit} {f f' : ByteArray → α} (h : StrMap w P k R b n dat zd f) (e : f = f') : StrMap w P k R b n dat zd f' := e ▸ h

set_option maxHeartbeats 8000000 in
set_option maxRecDepth 100000 in
theorem checkMounts_any (g : Gar) (a0 a1 a2 a3 : Option Addr) (c0 c1 c2 c3 : Nat) (w : World) (h : GarIn w g a0 a1 a2 a3) :
    Calls Try.prog 51 #[garV g a0 a1 a2 a3 c0 c1 c2 c3] w fun e w' => e = .returned (.int .i64 (if chkM g g.nm 0 ≠ 0 then chkM g g.nm 0 else if anyOver g = true then 11 else 0)) ∧ Below w.heap.size w w' := by
  have HG := Lib.hid h
  have hl0 := h.l0
  have hl1 := h.l1
  have hl2 := h.l2
  clear h
  have US : Try.prog.underlying 9 = some .string := by kernel_rfl
  have UB : Try.prog.underlying 97 = some (.map 9 4) := by kernel_rfl
  have UI : Try.prog.underlying 83 = some (.map 9 3) := by kernel_rfl
  have zB : ∀ u : World, (zeroValue 4).run Try.prog u = .ok (.bool false) u := fun u => by kernel_rfl
  have zI : ∀ u : World, (zeroValue 3).run Try.prog u = .ok (.int .i64 0) u := fun u => by kernel_rfl
  have HUS := Lib.hid US
  have HUB := Lib.hid UB
  have HUI := Lib.hid UI
  have HzB := Lib.hid zB
  have HzI := Lib.hid zI
  clear US UB UI zB zI
  unfold garV
  obtain ⟨z0, hz0⟩ : ∃ z, chkM g g.nm 0 = z := ⟨_, rfl⟩
  obtain ⟨zz, hzz⟩ : ∃ zz, (if z0 ≠ 0 then z0 else if anyOver g = true then 11 else 0) = zz := ⟨_, rfl⟩
  rw [hz0, hzz]
  have HZ0 := Lib.hid hz0
  have HZZ := Lib.hid hzz
  clear hz0 hzz
  have hmm := @run_makeMap Try.prog
  go_enter Try.func51, Try.ntmps51
  obtain ⟨W0, hW0, hb0, hs0, hl0'⟩ := alloc_cells w #[.slice a0 g.np c0, .slice a1 g.ns c1, .slice a2 g.nm c2, .slice a3 g.nu c3] 27
  obtain ⟨W1, hW1, hb1, hs1, m3, m4⟩ := two_maps W0 Try.prog 9 boolR (fun x : Bool => .lit (.bool x)) (.lit (.bool false)) (fun _ => false) (fun _ => rfl)
  have e0 := below_cell hb1 (hl0' 0 _ rfl)
  have e1 := below_cell hb1 (hl0' 1 _ rfl)
  have e2 := below_cell hb1 (hl0' 2 _ rfl)
  have e3 := below_cell hb1 (hl0' 3 _ rfl)
  rw [hs0] at m3 m4 hs1
  have hsw : w.heap.size ≤ W1.heap.size := by omega
  have hsw1 : w.heap.size + 3 ≤ W1.heap.size := by omega
  have HBW := Lib.hid (hb0.trans (hb1.mono (by omega)))
  have HM3S := Lib.hid (strMap_ext (f' := fun s => anyK (fun i => decide (g.pn i = s)) 0) m3 (by funext s; rfl))
  have HM4 := Lib.hid m4
  have HW : Hid (((w.alloc (.cells #[.slice a0 g.np c0, .slice a1 g.ns c1, .slice a2 g.nm c2, .slice a3 g.nu c3] 27)).alloc (.map #[] 0)).alloc (.map #[] 0) = W1) := Lib.hid (by rw [hW0, hW1])
  have G0 := ExtO.ex (O := fun b => b = w.heap.size + 1) (by simp <;> omega) e0
  have G1 := ExtO.ex (O := fun b => b = w.heap.size + 1) (by simp <;> omega) e1
  have G2 := ExtO.ex (O := fun b => b = w.heap.size + 1) (by simp <;> omega) e2
  have G3 := ExtO.ex (O := fun b => b = w.heap.size + 1) (by simp <;> omega) e3
  have G0a := ExtO.exa G0
  have G1a := ExtO.exa G1
  have G2a := ExtO.exa G2
  have G3a := ExtO.exa G3
  clear hW0 hW1 hl0' hb0 hb1 m3 m4 hs0 hs1
  go_upto_region 2 with (fail)
  rw [HW.out]
  go_wp2_with fail
  clear e0 e1 e2 e3
  go_loopw [20] (fun iv wr => ∃ (k : Nat), iv = .int .i64 k ∧ k ≤ g.np ∧ Hid (∃ X : ExtO (fun b => b = w.heap.size + 1) W1, wr = X.1) ∧ Hid (StrMap wr Try.prog 9 boolR (w.heap.size + 1) k (fun x : Bool => .lit (.bool x)) (.lit (.bool false)) (fun s => anyK (fun i => decide (g.pn i = s)) k))) (fun iv _ => g.np - (intOf iv).toNat)
  case atStart => exact ⟨0, rfl, by omega, Lib.hid ⟨⟨_, Kept.refl _ _⟩, rfl⟩, HM3S⟩
  case round =>
    obtain ⟨k, rfl, hk, HXE, HM⟩ := hrel
    obtain ⟨X, rfl⟩ := HXE.out
    by_cases hlt : k < g.np
    · have t1 : decide ((k : Int) < (g.np : Int)) = true := by rw [decide_eq_true_eq]; omega
      obtain ⟨b, off, rfl, hbl, hc⟩ := (HG.out.r0.below (X.down HBW.out hsw (fun k hk => by omega)) (Nat.le_refl _)).here (by omega)
      have e0 : X.1.cell? ⟨b, off + k * 2, none⟩ = some (.string (g.pn k)) := hc k hlt 0 (by omega)
      have e1 : X.1.cell? ⟨b, off + k * 2 + 1, none⟩ = some (.int .i64 (g.pc k)) := hc k hlt 1 (by omega)
      have hsz := HG.out.z0 k hlt
      have HM2 := Lib.hid (HM.out.kept (World.grownBy_alloc X.1 (.cells #[.string (g.pn k), .int .i64 (g.pc k)] 94) none) (by simp))
      clear hc
      go_wp2_with (at_mapUpdate; refine wpList_update_str _ rfl (.tmp 24) (.tmp 26) (.const (.bool true)) 97 rfl 9 4 HUS.out HUB.out boolR (fun x : Bool => .lit (.bool x)) (.lit (.bool false)) (w.heap.size + 1) k _ rfl HM2.out ?c1 (g.pn k) rfl ?c2 (.bool true) true rfl [] rfl ?_)
      case c1 => unfold maxLen; omega
      case c2 => exact hsz
      intro w1 hm1 hg1
      have HM3 := Lib.hid (strMap_ext hm1 (anyK_step (fun s i => decide (g.pn i = s)) k (g.pn k) g.pn (fun _ _ => rfl) rfl))
      have HXE2 : Hid (∃ Y : ExtO (fun b => b = w.heap.size + 1) W1, w1 = Y.1) := Lib.hid ⟨⟨w1, (X.2.trans (Kept.of_below (below_al _ _))).grown hg1 (fun g hg _ => by injection hg with hg; exact hg.symm)⟩, rfl⟩
      clear hm1 hg1 HM HM2 HXE
      go_wp2_with fail
      go_roundw
      case rel => exact ⟨k + 1, by go_num, by omega, HXE2, HM3⟩
      case measure => simp [intOf]; omega
    · have t1 : decide ((k : Int) < (g.np : Int)) = false := by rw [decide_eq_false_iff_not]; omega
      have t1' : decide (k < g.np) = false := by simpa using hlt
      obtain rfl : k = g.np := by omega
      clear hlt HXE
      have e0 := G0 X
      have e1 := G1 X
      have e2 := G2 X
      have e3 := G3 X
      have hk := X.2
      have hbw := X.down HBW.out hsw (fun k hk => by omega)
      obtain ⟨W2, hW2⟩ : ∃ W2, X.1 = W2 := ⟨_, rfl⟩
      rw [hW2] at e0 e1 e2 e3 hk HM hbw ⊢
      have HM3 := HM
      have hsw2 : w.heap.size + 3 ≤ W2.heap.size := Nat.le_trans hsw1 hk.size
      have hsw2' : w.heap.size ≤ W2.heap.size := by omega
      have HM4 := Lib.hid (HM4.out.keptO hk (by simp <;> omega))
      have HBW2 := Lib.hid hbw
      clear hk hbw hW2 HM X G0 G1 G2 G3 G0a G1a G2a G3a
      have G0 := ExtO.ex (O := fun b => b = w.heap.size + 1 + 1) (by simp <;> omega) e0
      have G1 := ExtO.ex (O := fun b => b = w.heap.size + 1 + 1) (by simp <;> omega) e1
      have G2 := ExtO.ex (O := fun b => b = w.heap.size + 1 + 1) (by simp <;> omega) e2
      have G3 := ExtO.ex (O := fun b => b = w.heap.size + 1 + 1) (by simp <;> omega) e3
      have G0a := ExtO.exa G0
      have G1a := ExtO.exa G1
      have G2a := ExtO.exa G2
      have G3a := ExtO.exa G3
      go_wp2_with fail
      have HM4S := Lib.hid (strMap_ext (f' := fun s => anyK (fun i => decide (g.sn i = s)) 0) HM4.out (by funext s; rfl))
      clear e0 e1 e2 e3 HM4
      go_loopw [31] (fun iv wr => ∃ (k : Nat), iv = .int .i64 k ∧ k ≤ g.ns ∧ Hid (∃ X : ExtO (fun b => b = w.heap.size + 1 + 1) W2, wr = X.1) ∧ Hid (StrMap wr Try.prog 9 boolR (w.heap.size + 1 + 1) k (fun x : Bool => .lit (.bool x)) (.lit (.bool false)) (fun s => anyK (fun i => decide (g.sn i = s)) k))) (fun iv _ => g.ns - (intOf iv).toNat)
      case atStart => exact ⟨0, rfl, by omega, Lib.hid ⟨⟨_, Kept.refl _ _⟩, rfl⟩, HM4S⟩
      case round =>
        obtain ⟨k, rfl, hk, HXE, HM⟩ := hrel
        obtain ⟨X, rfl⟩ := HXE.out
        by_cases hlt : k < g.ns
        · have t1 : decide ((k : Int) < (g.ns : Int)) = true := by rw [decide_eq_true_eq]; omega
          obtain ⟨b, off, rfl, hbl, hc⟩ := (HG.out.r1.below (X.down HBW2.out hsw2' (fun k hk => by omega)) (Nat.le_refl _)).here (by omega)
          have e0 : X.1.cell? ⟨b, off + k * 2, none⟩ = some (.string (g.sn k)) := hc k hlt 0 (by omega)
          have e1 : X.1.cell? ⟨b, off + k * 2 + 1, none⟩ = some (.string (g.sr k)) := hc k hlt 1 (by omega)
          have hsz := (HG.out.z1 k hlt).1
          have HM2 := Lib.hid (HM.out.kept (World.grownBy_alloc X.1 (.cells #[.string (g.sn k), .string (g.sr k)] 40) none) (by simp))
          clear hc
          go_wp2_with (at_mapUpdate; refine wpList_update_str _ rfl (.tmp 35) (.tmp 37) (.const (.bool true)) 97 rfl 9 4 HUS.out HUB.out boolR (fun x : Bool => .lit (.bool x)) (.lit (.bool false)) (w.heap.size + 1 + 1) k _ rfl HM2.out ?c1 (g.sn k) rfl ?c2 (.bool true) true rfl [] rfl ?_)
          case c1 => unfold maxLen; omega
          case c2 => exact hsz
          intro w1 hm1 hg1
          have HM3 := Lib.hid (strMap_ext hm1 (anyK_step (fun s i => decide (g.sn i = s)) k (g.sn k) g.sn (fun _ _ => rfl) rfl))
          have HXE2 : Hid (∃ Y : ExtO (fun b => b = w.heap.size + 1 + 1) W2, w1 = Y.1) := Lib.hid ⟨⟨w1, (X.2.trans (Kept.of_below (below_al _ _))).grown hg1 (fun g hg _ => by injection hg with hg; exact hg.symm)⟩, rfl⟩
          clear hm1 hg1 HM HM2 HXE
          go_wp2_with fail
          go_roundw
          case rel => exact ⟨k + 1, by go_num, by omega, HXE2, HM3⟩
          case measure => simp [intOf]; omega
        · have t1 : decide ((k : Int) < (g.ns : Int)) = false := by rw [decide_eq_false_iff_not]; omega
          have t1' : decide (k < g.ns) = false := by simpa using hlt
          obtain rfl : k = g.ns := by omega
          clear hlt HXE
          have e0 := G0 X
          have e1 := G1 X
          have e2 := G2 X
          have e3 := G3 X
          have hk := X.2
          have hbw := X.down HBW2.out hsw2' (fun k hk => by omega)
          obtain ⟨W3, hW2⟩ : ∃ W3, X.1 = W3 := ⟨_, rfl⟩
          rw [hW2] at e0 e1 e2 e3 hk HM hbw ⊢
          have HM4 := HM
          have hsw3 : w.heap.size + 3 ≤ W3.heap.size := Nat.le_trans hsw2 hk.size
          have hsw3' : w.heap.size ≤ W3.heap.size := by omega
          have HM3 := Lib.hid (HM3.out.keptO hk (by simp <;> omega))
          have HBW3 := Lib.hid hbw
          clear hk hbw hW2 HM X G0 G1 G2 G3 G0a G1a G2a G3a
          have G0 := Ext.ex e0
          have G1 := Ext.ex e1
          have G2 := Ext.ex e2
          have G3 := Ext.ex e3
          have G0a := Ext.exa G0
          have G1a := Ext.exa G1
          have G2a := Ext.exa G2
          have G3a := Ext.exa G3
          go_wp2_with fail
          clear e0 e1 e2 e3
          go_loopw [42] (fun iv wr => ∃ (k : Nat), iv = .int .i64 k ∧ k ≤ g.nm ∧ Hid (∃ X : Ext W3, wr = X.1) ∧ Hid (chkM g (g.nm - k) k = z0)) (fun iv _ => g.nm - (intOf iv).toNat)
          case atStart => exact ⟨0, rfl, by omega, Lib.hid ⟨⟨_, Below.refl _ _⟩, rfl⟩, HZ0⟩
          case round =>
            obtain ⟨k, rfl, hk, HXE, HX⟩ := hrel
            obtain ⟨X, rfl⟩ := HXE.out
            by_cases hlt : k < g.nm
            · have t1 : decide ((k : Int) < (g.nm : Int)) = true := by rw [decide_eq_true_eq]; omega
              obtain ⟨b, off, rfl, hbl, hc⟩ := (HG.out.r2.below (X.down HBW3.out hsw3') (Nat.le_refl _)).here (by omega)
              have e0 : X.1.cell? ⟨b, off + k * 4, none⟩ = some (.string (g.ms k)) := hc k hlt 0 (by omega)
              have e1 : X.1.cell? ⟨b, off + k * 4 + 1, none⟩ = some (.string (g.mp k)) := hc k hlt 1 (by omega)
              have e2 : X.1.cell? ⟨b, off + k * 4 + 2, none⟩ = some (.int .i64 (g.mf k)) := hc k hlt 2 (by omega)
              have e3 : X.1.cell? ⟨b, off + k * 4 + 3, none⟩ = some (.int .i64 (g.mt k)) := hc k hlt 3 (by omega)
              have hx := HX.out
              rw [show g.nm - k = (g.nm - k - 1) + 1 by omega, chkM] at hx
              have HX2 := Lib.hid hx
              obtain ⟨V1, hV1, hb1, hs1, hl1⟩ := alloc_cells X.1 #[.string (g.ms k), .string (g.mp k), .int .i64 (g.mf k), .int .i64 (g.mt k)] 54
              have L0 := Ext.ex (hl1 0 _ rfl)
              have L1 := Ext.ex (hl1 1 _ rfl)
              have L2 := Ext.ex (hl1 2 _ rfl)
              have L3 := Ext.ex (hl1 3 _ rfl)
              have hb01 := below_step X.2 hb1
              have M0 := Ext.re hb01 G0
              have M1 := Ext.re hb01 G1
              have M2 := Ext.re hb01 G2
              have M3 := Ext.re hb01 G3
              have HB01 := Lib.hid hb01
              have hbw := HBW3.out.trans (hb01.mono hsw3')
              have hsv : w.heap.size ≤ V1.heap.size := hbw.size
              have HBV := Lib.hid hbw
              have HB1 := Lib.hid hb1
              have HV1 := Lib.hid hV1
              have hz2 := HG.out.z2 k hlt
              have KS : ∀ Y : Ext V1, (Instr.lookup 97 (.map (some (w.heap.size + 1 + 1))) (.string (g.ms k)) false).run Try.prog Y.1 = .ok (.bool (hasS g (g.ms k))) Y.1 := fun Y =>
                StrMap.look (val := Value.bool) (HM4.out.keptO (Kept.of_below (O := fun _ => False) (below_step HB01.out Y.2)) (by simp)) HUS.out HUB.out (HzB.out _) (zp := []) rfl boolR_inv hz2.1
              have KP : ∀ Y : Ext V1, (Instr.lookup 97 (.map (some (w.heap.size + 1))) (.string (g.mp k)) false).run Try.prog Y.1 = .ok (.bool (hasP g (g.mp k))) Y.1 := fun Y =>
                StrMap.look (val := Value.bool) (HM3.out.keptO (Kept.of_below (O := fun _ => False) (below_step HB01.out Y.2)) (by simp)) HUS.out HUB.out (HzB.out _) (zp := []) rfl boolR_inv hz2.2
              have D3 := Lib.hid (fun W => gmoment_any (g.mf k) W)
              have D4 := Lib.hid (fun W => gmoment_any (g.mt k) W)
              have RET : ∀ (v : Int) (Y : Ext V1), v ≠ 0 → v = z0 → Ending.returned (.int .i64 v) = .returned (.int .i64 zz) ∧ Below w.heap.size w Y.1 := fun v Y hv hz => by
                refine ⟨ret_int ?_, Y.down HBV.out hsv⟩
                rw [← HZZ.out, ← hz, if_pos hv]
              have HRET := Lib.hid RET
              clear hx HX hl1 hV1 hb1 hs1 hb01 hbw RET hz2 HXE
              cases hS : hasS g (g.ms k)
              · rw [hS] at HX2 KS
                rw [Bool.false_and, if_pos rfl] at HX2
                clear hc hS KP
                go_upto_region 15 with (fail)
                rw [HV1.out]
                refine ext_wp fun X1 => ?_
                go_wp2_with (first  | (go_at_call 44; refine ((by with_reducible exact D3.out _ : Calls _ _ _ _ _)).mono ?_; rintro e w2 ⟨rfl, rfl⟩)  | (go_at_call 44; refine ((by with_reducible exact D4.out _ : Calls _ _ _ _ _)).mono ?_; rintro e w2 ⟨rfl, rfl⟩))
                go_ret
                exact HRET.out 4 _ (by decide) HX2.out
              cases hP : hasP g (g.mp k)
              · rw [hS] at HX2 KS
                rw [hP] at HX2 KP
                rw [Bool.and_false, if_pos rfl] at HX2
                clear hc hS hP
                go_upto_region 15 with (fail)
                rw [HV1.out]
                refine ext_wp fun X1 => ?_
                go_wp2_with (first  | (go_at_call 44; refine ((by with_reducible exact D3.out _ : Calls _ _ _ _ _)).mono ?_; rintro e w2 ⟨rfl, rfl⟩)  | (go_at_call 44; refine ((by with_reducible exact D4.out _ : Calls _ _ _ _ _)).mono ?_; rintro e w2 ⟨rfl, rfl⟩))
                go_ret
                exact HRET.out 4 _ (by decide) HX2.out
              rw [hS] at HX2 KS
              rw [hP] at HX2 KP
              rw [Bool.true_and, if_neg (by simp)] at HX2
              clear hS hP
              cases hF : momG (g.mf k)
              · rw [hF] at D3 HX2
                rw [Bool.false_and, if_pos rfl] at HX2
                clear hc hF
                go_upto_region 15 with (fail)
                rw [HV1.out]
                refine ext_wp fun X1 => ?_
                go_wp2_with (first  | (go_at_call 44; refine ((by with_reducible exact D3.out _ : Calls _ _ _ _ _)).mono ?_; rintro e w2 ⟨rfl, rfl⟩)  | (go_at_call 44; refine ((by with_reducible exact D4.out _ : Calls _ _ _ _ _)).mono ?_; rintro e w2 ⟨rfl, rfl⟩))
                go_ret
                exact HRET.out 9 _ (by decide) HX2.out
              cases hT : (decide (g.mt k = -1) || momG (g.mt k))
              · rw [hT] at HX2
                rw [hF, Bool.and_false, if_pos rfl] at HX2
                rw [Bool.or_eq_false_iff] at hT
                have n1 : (g.mt k != -1) = true := by rw [bne_iff_ne]; simpa using hT.1
                rw [hF] at D3
                rw [hT.2] at D4
                clear hc hF hT
                go_upto_region 15 with (fail)
                rw [HV1.out]
                refine ext_wp fun X1 => ?_
                go_wp2_with (first  | (go_at_call 44; refine ((by with_reducible exact D3.out _ : Calls _ _ _ _ _)).mono ?_; rintro e w2 ⟨rfl, rfl⟩)  | (go_at_call 44; refine ((by with_reducible exact D4.out _ : Calls _ _ _ _ _)).mono ?_; rintro e w2 ⟨rfl, rfl⟩))
                go_ret
                exact HRET.out 9 _ (by decide) HX2.out
              rw [hT] at HX2
              rw [hF] at HX2 D3
              rw [Bool.and_true, if_neg (by simp)] at HX2
              have hN : (g.mt k != -1) = true → momG (g.mt k) = true := fun hn => by
                rw [bne_iff_ne] at hn
                rw [Bool.or_eq_true, decide_eq_true_eq] at hT
                exact hT.resolve_left hn
              have HNN := Lib.hid hN
              clear hF hT hN
              by_cases hE : g.mt k ≠ -1 ∧ g.mt k ≤ g.mf k
              · rw [if_pos (Or.inl hE)] at HX2
                have hn : (g.mt k != -1) = true := by rw [bne_iff_ne]; exact hE.1
                have hE2 : decide (g.mt k ≤ g.mf k) = true := by rw [decide_eq_true_eq]; exact hE.2
                have D4 : Hid (∀ W, Calls Try.prog 44 #[.int .i64 (g.mt k)] W fun e w' => e = .returned (.bool true) ∧ W = w') := Lib.hid (fun W => by rw [← HNN.out hn]; exact D4.out W)
                clear hc hE
                go_upto_region 15 with (fail)
                rw [HV1.out]
                refine ext_wp fun X1 => ?_
                go_wp2_with (first  | (go_at_call 44; refine ((by with_reducible exact D3.out _ : Calls _ _ _ _ _)).mono ?_; rintro e w2 ⟨rfl, rfl⟩)  | (go_at_call 44; refine ((by with_reducible exact D4.out _ : Calls _ _ _ _ _)).mono ?_; rintro e w2 ⟨rfl, rfl⟩))
                go_ret
                exact HRET.out 10 _ (by decide) HX2.out
              have HE0 := Lib.hid hE
              have hways : (g.mt k != -1) = false ∨ ((g.mt k != -1) = true ∧ decide (g.mt k ≤ g.mf k) = false) := by
                by_cases e : g.mt k = -1
                · exact Or.inl (by rw [e]; rfl)
                · exact Or.inr ⟨by rw [bne_iff_ne]; exact e, by rw [decide_eq_false_iff_not]; exact fun h => hE ⟨e, h⟩⟩
              clear hE
              by_cases hk0 : 0 < k
              · obtain ⟨q, rfl⟩ : ∃ q, k = q + 1 := ⟨k - 1, by omega⟩
                have g0 : decide ((0 : Int) < ((q + 1 : Nat) : Int)) = true := by rw [decide_eq_true_eq]; omega
                have g0' : decide (0 < q + 1) = true := by simp
                have p0 : X.1.cell? ⟨b, off + q * 4, none⟩ = some (.string (g.ms q)) := hc q (by omega) 0 (by omega)
                have p1 : X.1.cell? ⟨b, off + q * 4 + 1, none⟩ = some (.string (g.mp q)) := hc q (by omega) 1 (by omega)
                have p2 : X.1.cell? ⟨b, off + q * 4 + 2, none⟩ = some (.int .i64 (g.mf q)) := hc q (by omega) 2 (by omega)
                have p3 : X.1.cell? ⟨b, off + q * 4 + 3, none⟩ = some (.int .i64 (g.mt q)) := hc q (by omega) 3 (by omega)
                have P0 := Ext.ex (below_cell HB1.out p0)
                have P1 := Ext.ex (below_cell HB1.out p1)
                have P2 := Ext.ex (below_cell HB1.out p2)
                have P3 := Ext.ex (below_cell HB1.out p3)
                have DC := Lib.hid (fun (Y : Ext V1) => mountOrder_any (g.ms q) (g.mp q) (g.ms (q + 1)) (g.mp (q + 1)) (g.mf q) (g.mt q) (g.mf (q + 1)) (g.mt (q + 1)) Y.1)
                have ho := ord_neg (g.mf q) (g.mf (q + 1)) (g.ms q) (g.ms (q + 1))
                unfold mountV at DC
                rw [show befM g (q + 1 - 1) (q + 1) = befB (g.mf q) (g.mf (q + 1)) (g.ms q) (g.ms (q + 1)) from rfl] at HX2
                generalize befB (g.mf q) (g.mf (q + 1)) (g.ms q) (g.ms (q + 1)) = bb at ho HX2
                generalize ordI (g.mf q) (g.mf (q + 1)) (g.ms q) (g.ms (q + 1)) = oi at DC ho
                clear hc p0 p1 p2 p3 hk0
                rcases hways with hn | ⟨hn, hE2⟩
                · skip
                  cases bb
                  · rw [if_pos (Or.inr ⟨by omega, rfl⟩)] at HX2
                    rw [Bool.not_false] at ho
                    go_upto_region 15 with (fail)
                    rw [HV1.out]
                    refine ext_wp fun X1 => ?_
                    go_wp2_with (first  | (go_at_call 44; refine ((by with_reducible exact D3.out _ : Calls _ _ _ _ _)).mono ?_; rintro e w2 ⟨rfl, rfl⟩)  | (go_at_call 44; refine ((by with_reducible exact D4.out _ : Calls _ _ _ _ _)).mono ?_; rintro e w2 ⟨rfl, rfl⟩))
                    refine wp_region_ext (W := V1) _ (by kernel_rfl) (by kernel_rfl) ?_
                    repeat go_big_quiet_step ((go_at_call 90; exact Ext.calls _ (DC.out _)))
                    refine wpQuiet_nil ?_
                    intro _ hw'
                    obtain ⟨Y, rfl⟩ := hw'

                    go_wp2_with fail
                    go_ret
                    exact HRET.out 10 _ (by decide) HX2.out
                  · rw [if_neg (fun hh => hh.elim HE0.out (fun h => absurd h.2 (by simp)))] at HX2
                    rw [Bool.not_true] at ho
                    go_upto_region 15 with (fail)
                    rw [HV1.out]
                    refine ext_wp fun X1 => ?_
                    go_wp2_with (first  | (go_at_call 44; refine ((by with_reducible exact D3.out _ : Calls _ _ _ _ _)).mono ?_; rintro e w2 ⟨rfl, rfl⟩)  | (go_at_call 44; refine ((by with_reducible exact D4.out _ : Calls _ _ _ _ _)).mono ?_; rintro e w2 ⟨rfl, rfl⟩))
                    refine wp_region_ext (W := V1) _ (by kernel_rfl) (by kernel_rfl) ?_
                    repeat go_big_quiet_step ((go_at_call 90; exact Ext.calls _ (DC.out _)))
                    refine wpQuiet_nil ?_
                    intro _ hw'
                    obtain ⟨Y, rfl⟩ := hw'

                    go_wp2_with fail
                    go_roundw
                    case rel => exact ⟨q + 1 + 1, by go_num, by omega, Lib.hid ⟨⟨_, below_step HB01.out Y.2⟩, rfl⟩, HX2⟩
                    case measure => simp [intOf]; omega
                · have D4 : Hid (∀ W, Calls Try.prog 44 #[.int .i64 (g.mt (q + 1))] W fun e w' => e = .returned (.bool true) ∧ W = w') := Lib.hid (fun W => by rw [← HNN.out hn]; exact D4.out W)
                  cases bb
                  · rw [if_pos (Or.inr ⟨by omega, rfl⟩)] at HX2
                    rw [Bool.not_false] at ho
                    go_upto_region 15 with (fail)
                    rw [HV1.out]
                    refine ext_wp fun X1 => ?_
                    go_wp2_with (first  | (go_at_call 44; refine ((by with_reducible exact D3.out _ : Calls _ _ _ _ _)).mono ?_; rintro e w2 ⟨rfl, rfl⟩)  | (go_at_call 44; refine ((by with_reducible exact D4.out _ : Calls _ _ _ _ _)).mono ?_; rintro e w2 ⟨rfl, rfl⟩))
                    refine wp_region_ext (W := V1) _ (by kernel_rfl) (by kernel_rfl) ?_
                    repeat go_big_quiet_step ((go_at_call 90; exact Ext.calls _ (DC.out _)))
                    refine wpQuiet_nil ?_
                    intro _ hw'
                    obtain ⟨Y, rfl⟩ := hw'

                    go_wp2_with fail
                    go_ret
                    exact HRET.out 10 _ (by decide) HX2.out
                  · rw [if_neg (fun hh => hh.elim HE0.out (fun h => absurd h.2 (by simp)))] at HX2
                    rw [Bool.not_true] at ho
                    go_upto_region 15 with (fail)
                    rw [HV1.out]
                    refine ext_wp fun X1 => ?_
                    go_wp2_with (first  | (go_at_call 44; refine ((by with_reducible exact D3.out _ : Calls _ _ _ _ _)).mono ?_; rintro e w2 ⟨rfl, rfl⟩)  | (go_at_call 44; refine ((by with_reducible exact D4.out _ : Calls _ _ _ _ _)).mono ?_; rintro e w2 ⟨rfl, rfl⟩))
                    refine wp_region_ext (W := V1) _ (by kernel_rfl) (by kernel_rfl) ?_
                    repeat go_big_quiet_step ((go_at_call 90; exact Ext.calls _ (DC.out _)))
                    refine wpQuiet_nil ?_
                    intro _ hw'
                    obtain ⟨Y, rfl⟩ := hw'

                    go_wp2_with fail
                    go_roundw
                    case rel => exact ⟨q + 1 + 1, by go_num, by omega, Lib.hid ⟨⟨_, below_step HB01.out Y.2⟩, rfl⟩, HX2⟩
                    case measure => simp [intOf]; omega

              · obtain rfl : k = 0 := by omega
                rw [if_neg (fun hh => hh.elim HE0.out (fun h => absurd h.1 (by omega)))] at HX2
                have g0 : decide ((0 : Int) < ((0 : Nat) : Int)) = false := by simp
                have g0' : decide ((0 : Int) < (0 : Int)) = false := by simp
                simp only [Nat.zero_mul, Nat.add_zero] at e0 e1 e2 e3
                clear hc hk0
                rcases hways with hn | ⟨hn, hE2⟩
                · skip
                  go_upto_region 15 with (fail)
                  rw [HV1.out]
                  refine ext_wp fun X1 => ?_
                  go_wp2_with (first  | (go_at_call 44; refine ((by with_reducible exact D3.out _ : Calls _ _ _ _ _)).mono ?_; rintro e w2 ⟨rfl, rfl⟩)  | (go_at_call 44; refine ((by with_reducible exact D4.out _ : Calls _ _ _ _ _)).mono ?_; rintro e w2 ⟨rfl, rfl⟩))
                  refine wp_region_ext (W := V1) _ (by kernel_rfl) (by kernel_rfl) ?_
                  repeat go_big_quiet_step (fail)
                  refine wpQuiet_nil ?_
                  intro _ hw'
                  obtain ⟨Y, rfl⟩ := hw'

                  go_wp2_with fail
                  go_roundw
                  case rel => exact ⟨0 + 1, by go_num, by omega, Lib.hid ⟨⟨_, below_step HB01.out Y.2⟩, rfl⟩, HX2⟩
                  case measure => simp [intOf]; omega
                · have D4 : Hid (∀ W, Calls Try.prog 44 #[.int .i64 (g.mt 0)] W fun e w' => e = .returned (.bool true) ∧ W = w') := Lib.hid (fun W => by rw [← HNN.out hn]; exact D4.out W)
                  go_upto_region 15 with (fail)
                  rw [HV1.out]
                  refine ext_wp fun X1 => ?_
                  go_wp2_with (first  | (go_at_call 44; refine ((by with_reducible exact D3.out _ : Calls _ _ _ _ _)).mono ?_; rintro e w2 ⟨rfl, rfl⟩)  | (go_at_call 44; refine ((by with_reducible exact D4.out _ : Calls _ _ _ _ _)).mono ?_; rintro e w2 ⟨rfl, rfl⟩))
                  refine wp_region_ext (W := V1) _ (by kernel_rfl) (by kernel_rfl) ?_
                  repeat go_big_quiet_step (fail)
                  refine wpQuiet_nil ?_
                  intro _ hw'
                  obtain ⟨Y, rfl⟩ := hw'

                  go_wp2_with fail
                  go_roundw
                  case rel => exact ⟨0 + 1, by go_num, by omega, Lib.hid ⟨⟨_, below_step HB01.out Y.2⟩, rfl⟩, HX2⟩
                  case measure => simp [intOf]; omega

            · have t1 : decide ((k : Int) < (g.nm : Int)) = false := by rw [decide_eq_false_iff_not]; omega
              have t1' : decide (k < g.nm) = false := by simpa using hlt
              have hx := HX.out
              rw [show g.nm - k = 0 by omega, chkM] at hx
              have HZ : Hid (z0 = 0) := Lib.hid hx.symm
              clear hx HX hlt
              have e0 := G0 X
              have e1 := G1 X
              have e2 := G2 X
              have e3 := G3 X
              have hbw := X.down HBW3.out hsw3'
              have hszx : w.heap.size + 3 ≤ X.1.heap.size := Nat.le_trans hsw3 X.2.size
              obtain ⟨U0, hU0⟩ : ∃ U0, X.1 = U0 := ⟨_, rfl⟩
              rw [hU0] at e0 e1 e2 e3 hbw hszx ⊢
              obtain ⟨n1, hn1⟩ : ∃ n1, U0.heap.size = n1 := ⟨_, rfl⟩
              obtain ⟨U, hU, hbu, hsu, ms, mp⟩ := two_maps U0 Try.prog 9 intR (fun x : Int => .lit (.int .i64 x)) (.lit (.int .i64 0)) (fun _ => 0) (fun _ => rfl)
              have HHU := Lib.hid hU
              have f0 := below_cell hbu e0
              have f1 := below_cell hbu e1
              have f2 := below_cell hbu e2
              have f3 := below_cell hbu e3
              rw [hn1] at ms mp hsu hszx
              have hnu : n1 + 1 < U.heap.size := by omega
              have hswu : w.heap.size ≤ U.heap.size := by omega
              have HN1 := Lib.hid hn1
              have HMS := Lib.hid (strMap_ext (f' := fun s => Gmt.lastE g.ms (fun i => endG (g.mt i)) 0 s) ms (by funext s; rfl))
              have HMP := Lib.hid (strMap_ext (f' := fun s => Gmt.lastE g.mp (fun i => endG (g.mt i)) 0 s) mp (by funext s; rfl))
              have HBU := Lib.hid (hbw.trans (hbu.mono (by omega)))
              have HZ0' : Hid (chkM g g.nm 0 = 0) := Lib.hid (HZ0.out.trans HZ.out)
              have hgo : ¬ (w.heap.size = n1 ∨ w.heap.size = n1 + 1) := by omega
              clear HXE X hU0 hU hbu ms mp hsu hbw e0 e1 e2 e3 G0 G1 G2 G3 G0a G1a G2a G3a HM3 HM4 hn1
              go_upto_region 24 with (fail)
              rw [HHU.out, HN1.out]
              go_wp2_with fail
              have G0 := ExtO.ex (O := fun b => b = n1 ∨ b = n1 + 1) hgo f0
              have G1 := ExtO.ex (O := fun b => b = n1 ∨ b = n1 + 1) hgo f1
              have G2 := ExtO.ex (O := fun b => b = n1 ∨ b = n1 + 1) hgo f2
              have G3 := ExtO.ex (O := fun b => b = n1 ∨ b = n1 + 1) hgo f3
              clear f0 f1 f2 f3 hgo
              go_loopw [106] (fun iv wr => ∃ (k : Nat), iv = .int .i64 k ∧ k ≤ g.nm ∧ Hid (∃ X : ExtO (fun b => b = n1 ∨ b = n1 + 1) U, wr = X.1)
                ∧ Hid (StrMap wr Try.prog 9 intR n1 k (fun x : Int => .lit (.int .i64 x)) (.lit (.int .i64 0)) (fun s => Gmt.lastE g.ms (fun i => endG (g.mt i)) k s))
                ∧ Hid (StrMap wr Try.prog 9 intR (n1 + 1) k (fun x : Int => .lit (.int .i64 x)) (.lit (.int .i64 0)) (fun s => Gmt.lastE g.mp (fun i => endG (g.mt i)) k s))
                ∧ Hid (∀ i, i < k → ¬ Gmt.bad1 g.ms g.mp g.mf (fun i => endG (g.mt i)) i)) (fun iv _ => g.nm - (intOf iv).toNat)
              case atStart => exact ⟨0, rfl, by omega, Lib.hid ⟨⟨_, Kept.refl _ _⟩, rfl⟩, HMS, HMP, Lib.hid (fun i hi => by omega)⟩
              case round =>
                obtain ⟨k, rfl, hk, HXE, HS, HP, HN⟩ := hrel
                obtain ⟨X, rfl⟩ := HXE.out
                by_cases hlt : k < g.nm
                · have t1 : decide ((k : Int) < (g.nm : Int)) = true := by rw [decide_eq_true_eq]; omega
                  have t1' : decide (k < g.nm) = true := by simpa using hlt
                  obtain ⟨b, off, rfl, hbl, hc⟩ := (HG.out.r2.below (X.down HBU.out hswu (fun k hk => by omega)) (Nat.le_refl _)).here (by omega)
                  have e0 : X.1.cell? ⟨b, off + k * 4, none⟩ = some (.string (g.ms k)) := hc k hlt 0 (by omega)
                  have e1 : X.1.cell? ⟨b, off + k * 4 + 1, none⟩ = some (.string (g.mp k)) := hc k hlt 1 (by omega)
                  have e2 : X.1.cell? ⟨b, off + k * 4 + 2, none⟩ = some (.int .i64 (g.mf k)) := hc k hlt 2 (by omega)
                  have e3 : X.1.cell? ⟨b, off + k * 4 + 3, none⟩ = some (.int .i64 (g.mt k)) := hc k hlt 3 (by omega)
                  have hz2 := HG.out.z2 k hlt
                  obtain ⟨V1, hV1, hb1, hs1, hl1⟩ := alloc_cells X.1 #[.string (g.ms k), .string (g.mp k), .int .i64 (g.mf k), .int .i64 (g.mt k)] 54
                  have hk1 : Kept (fun b => b = n1 ∨ b = n1 + 1) U V1 := X.2.trans (Kept.of_below hb1)
                  have hnx : n1 + 1 < X.1.heap.size := Nat.lt_of_lt_of_le hnu X.2.size
                  have l0 := hl1 0 _ rfl
                  have l1 := hl1 1 _ rfl
                  have l2 := hl1 2 _ rfl
                  have l3 := hl1 3 _ rfl
                  have L0 := ExtO.ex (O := fun b => b = n1 ∨ b = n1 + 1) (by simp <;> omega) l0
                  have L1 := ExtO.ex (O := fun b => b = n1 ∨ b = n1 + 1) (by simp <;> omega) l1
                  have L2 := ExtO.ex (O := fun b => b = n1 ∨ b = n1 + 1) (by simp <;> omega) l2
                  have L3 := ExtO.ex (O := fun b => b = n1 ∨ b = n1 + 1) (by simp <;> omega) l3
                  have HK1 := Lib.hid hk1
                  have HV1 := Lib.hid hV1
                  have HS1 := Lib.hid (HS.out.keptO (Kept.of_below (O := fun _ => False) hb1) (by simp))
                  have HP1 := Lib.hid (HP.out.keptO (Kept.of_below (O := fun _ => False) hb1) (by simp))
                  have kS : (Instr.lookup 83 (.map (some n1)) (.string (g.ms k)) false).run Try.prog V1 = .ok (.int .i64 (Gmt.lastE g.ms (fun i => endG (g.mt i)) k (g.ms k))) V1 :=
                    StrMap.look (val := Value.int .i64) HS1.out HUS.out HUI.out (HzI.out _) (zp := []) rfl intR_inv hz2.1
                  have kP : (Instr.lookup 83 (.map (some (n1 + 1))) (.string (g.mp k)) false).run Try.prog V1 = .ok (.int .i64 (Gmt.lastE g.mp (fun i => endG (g.mt i)) k (g.mp k))) V1 :=
                    StrMap.look (val := Value.int .i64) HP1.out HUS.out HUI.out (HzI.out _) (zp := []) rfl intR_inv hz2.2
                  have DE := Lib.hid (fun (W : World) => gend_any (g.ms k) (g.mp k) (g.mf k) (g.mt k) W)
                  unfold mountV at DE
                  have HBV := Lib.hid ((X.down HBU.out hswu (fun k hk => by omega)).trans (hb1.mono (Nat.le_trans hswu X.2.size)))
                  have HZ2 := Lib.hid hz2
                  have LS := Lib.hid (lastE_step g.ms (fun i => endG (g.mt i)) k)
                  have LP := Lib.hid (lastE_step g.mp (fun i => endG (g.mt i)) k)
                  by_cases hbad : Gmt.bad1 g.ms g.mp g.mf (fun i => endG (g.mt i)) k
                  · have HA : Hid (anyOver g = true) := Lib.hid ((over_bad (HZ0'.out)).2 ⟨k, hlt, hbad⟩)
                    unfold Gmt.bad1 at hbad
                    generalize Gmt.lastE g.ms (fun i => endG (g.mt i)) k (g.ms k) = xs at kS hbad
                    generalize Gmt.lastE g.mp (fun i => endG (g.mt i)) k (g.mp k) = xp at kP hbad
                    clear hc hl1 hV1 hb1 hk1 hz2 HXE HS HP HN
                    have hw : decide (g.mf k < xs) = true ∨ (decide (g.mf k < xs) = false ∧ decide (g.mf k < xp) = true) := by
                      by_cases e : g.mf k < xs
                      · exact Or.inl (by simpa using e)
                      · exact Or.inr ⟨by simpa using e, by simpa using hbad.resolve_left e⟩
                    clear hbad
                    rcases hw with d1 | ⟨d1, d2⟩
                    all_goals
                      go_upto_region 27 with (fail)
                      rw [HV1.out]
                      go_wp2_with fail
                      go_ret
                      exact ⟨ret_int (by rw [← HZZ.out, HZ.out, HA.out]; rfl), HBV.out⟩
                  · have HN2 : Hid (∀ i, i < k + 1 → ¬ Gmt.bad1 g.ms g.mp g.mf (fun i => endG (g.mt i)) i) := Lib.hid (fun i hi => by
                      by_cases e : i = k
                      · subst e; exact hbad
                      · exact HN.out i (by omega))
                    unfold Gmt.bad1 at hbad
                    have d1 : decide (g.mf k < Gmt.lastE g.ms (fun i => endG (g.mt i)) k (g.ms k)) = false := by rw [decide_eq_false_iff_not]; exact fun h => hbad (Or.inl h)
                    have d2 : decide (g.mf k < Gmt.lastE g.mp (fun i => endG (g.mt i)) k (g.mp k)) = false := by rw [decide_eq_false_iff_not]; exact fun h => hbad (Or.inr h)
                    generalize Gmt.lastE g.ms (fun i => endG (g.mt i)) k (g.ms k) = xs at kS d1
                    generalize Gmt.lastE g.mp (fun i => endG (g.mt i)) k (g.mp k) = xp at kP d2
                    clear hc hl1 hV1 hb1 hk1 hz2 HXE HS HP HN hbad
                    go_upto_region 27 with (fail)
                    rw [HV1.out]
                    go_wp2_with fail
                    clear kS kP d1 d2
                    refine held_start (C := fun w' => ∃ Y : ExtO (fun b => b = n1 ∨ b = n1 + 1) V1, w' = Y.1) (by kernel_rfl) ?_
                    obtain ⟨Y0, hY0⟩ : ∃ Y : ExtO (fun b => b = n1 ∨ b = n1 + 1) V1, ({ V1 with drawn := V1.drawn + 1 } : World) = Y.1 := ⟨⟨{ V1 with drawn := V1.drawn + 1 }, ⟨rfl, rfl, rfl, Nat.le_refl _, fun _ _ _ => rfl⟩⟩, rfl⟩
                    have hS0 : StrMap Y0.1 Try.prog 9 intR n1 k (fun x : Int => .lit (.int .i64 x)) (.lit (.int .i64 0)) (fun s => Gmt.lastE g.ms (fun i => endG (g.mt i)) k s) := by
                      rw [← hY0]
                      exact HS1.out.keptO (O := fun _ => False) ⟨rfl, rfl, rfl, Nat.le_refl _, fun _ _ _ => rfl⟩ (by simp)
                    have hP0 : StrMap Y0.1 Try.prog 9 intR (n1 + 1) k (fun x : Int => .lit (.int .i64 x)) (.lit (.int .i64 0)) (fun s => Gmt.lastE g.mp (fun i => endG (g.mt i)) k s) := by
                      rw [← hY0]
                      exact HP1.out.keptO (O := fun _ => False) ⟨rfl, rfl, rfl, Nat.le_refl _, fun _ _ _ => rfl⟩ (by simp)
                    rw [hY0]
                    have HS0 := Lib.hid hS0
                    have HP0 := Lib.hid hP0
                    clear hY0 hS0 hP0 HS1 HP1
                    refine held_quiet (by kernel_rfl) (fun _ _ d _ _ h => by cases d <;> exact h) ⟨Y0, rfl⟩ [0, 1, 2, 3, 4, 5, 6, 8] 6 _ _ (by kernel_rfl) ?_
                    change wpQuiet _ _ _ _ (_ :: _ :: _ :: _ :: _ :: _ :: _ :: _ :: []) _
                    repeat go_big_quiet_step (fail)
                    refine wpQuiet_nil ?_
                    refine held_do (i := 7) _ rfl (by kernel_rfl) rfl (fun K hK => ?_)
                    go_simp
                    refine (DE.out _).mono ?_
                    rintro e w2 ⟨rfl, hb⟩
                    have HS2 := Lib.hid (HS0.out.keptO (Kept.of_below (O := fun _ => False) hb) (by simp))
                    have HP2 := Lib.hid (HP0.out.keptO (Kept.of_below (O := fun _ => False) hb) (by simp))
                    obtain ⟨Z, rfl⟩ : ∃ Z : ExtO (fun b => b = n1 ∨ b = n1 + 1) V1, w2 = Z.1 := ⟨⟨w2, Y0.2.trans (Kept.of_below hb)⟩, rfl⟩
                    refine hK _ _ ⟨Z, rfl⟩ ?_
                    clear hb HS0 HP0 hK K
                    refine held_do (i := 9) _ rfl (by kernel_rfl) rfl (fun K hK => ?_)
                    go_simp
                    refine (DE.out _).mono ?_
                    rintro e w2 ⟨rfl, hb⟩
                    have HS3 := Lib.hid (HS2.out.keptO (Kept.of_below (O := fun _ => False) hb) (by simp))
                    have HP3 := Lib.hid (HP2.out.keptO (Kept.of_below (O := fun _ => False) hb) (by simp))
                    obtain ⟨Z2, rfl⟩ : ∃ Z : ExtO (fun b => b = n1 ∨ b = n1 + 1) V1, w2 = Z.1 := ⟨⟨w2, Z.2.trans (Kept.of_below hb)⟩, rfl⟩
                    refine hK _ _ ⟨Z2, rfl⟩ ?_
                    clear hb HS2 HP2 hK K
                    have hkm : k < maxLen := by unfold maxLen; omega
                    have HKM := Lib.hid hkm
                    clear hkm
                    refine held_do (i := 10) _ rfl (by kernel_rfl) rfl (fun K hK => ?_)
                    refine wp_mapEntry_str (.tmp 126) (.tmp 128) rfl HUS.out HUI.out HzI.out rfl HS3.out HKM.out rfl HZ2.out.1 (fun v0 st w3 hg hp => ?_)
                    have HP4 := Lib.hid (HP3.out.kept hg (by simp))
                    have HPE := Lib.hid hp
                    obtain ⟨Z3, rfl⟩ : ∃ Z : ExtO (fun b => b = n1 ∨ b = n1 + 1) V1, w3 = Z.1 := ⟨⟨w3, Z2.2.grown hg (fun g hg _ => by injection hg with hg; exact Or.inl hg.symm)⟩, rfl⟩
                    refine hK _ _ ⟨Z3, rfl⟩ ?_
                    clear hg hp HS3 HP3 hK K
                    simp only [Act.put, List.setIfInBounds_toArray, List.set_cons_zero, List.set_cons_succ]
                    refine held_quiet (by kernel_rfl) (fun _ _ d _ _ h => by cases d <;> exact h) ⟨Z3, rfl⟩ [11] 2 _ _ (by kernel_rfl) ?_
                    change wpQuiet _ _ _ _ (_ :: []) _
                    repeat go_big_quiet_step (fail)
                    refine wpQuiet_nil ?_
                    refine held_do (i := 12) _ rfl (by kernel_rfl) rfl (fun K hK => ?_)
                    refine wp_entryStore_str (.tmp 126) (.tmp 137) (.tmp 133) rfl rfl rfl HPE.out rfl (y := endG (g.mt k)) rfl (fun w4 hm hg => ?_)
                    have HP5 := Lib.hid (HP4.out.kept hg (by simp))
                    have HS5 := Lib.hid (strMap_ext hm LS.out)
                    obtain ⟨Z4, rfl⟩ : ∃ Z : ExtO (fun b => b = n1 ∨ b = n1 + 1) V1, w4 = Z.1 := ⟨⟨w4, Z3.2.grown hg (fun g hg _ => by injection hg with hg; exact Or.inl hg.symm)⟩, rfl⟩
                    refine hK _ _ ⟨Z4, rfl⟩ ?_
                    clear hg hm HP4 HPE hK K
                    simp only [Act.put]
                    refine held_do (i := 13) _ rfl (by kernel_rfl) rfl (fun K hK => ?_)
                    refine wp_update_str (.tmp 129) (.tmp 131) (.tmp 135) rfl HUS.out HUI.out rfl HP5.out HKM.out rfl HZ2.out.2 rfl (y := endG (g.mt k)) rfl (fun w5 hm hg => ?_)
                    have HS6 := Lib.hid (HS5.out.kept hg (by simp))
                    have HP6 := Lib.hid (strMap_ext hm LP.out)
                    obtain ⟨Z5, rfl⟩ : ∃ Z : ExtO (fun b => b = n1 ∨ b = n1 + 1) V1, w5 = Z.1 := ⟨⟨w5, Z4.2.grown hg (fun g hg _ => by injection hg with hg; exact Or.inr hg.symm)⟩, rfl⟩
                    refine hK _ _ ⟨Z5, rfl⟩ ?_
                    clear hg hm HS5 HP5 hK K
                    simp only [Act.put]
                    refine wpAnyH_done (by kernel_rfl) ?_ _
                    go_wp2_with fail
                    go_roundw
                    case rel => exact ⟨k + 1, by go_num, by omega, Lib.hid ⟨⟨_, HK1.out.trans Z5.2⟩, rfl⟩, HS6, HP6, HN2⟩
                    case measure => simp [intOf]; omega
                · have t1 : decide ((k : Int) < (g.nm : Int)) = false := by rw [decide_eq_false_iff_not]; omega
                  have t1' : decide (k < g.nm) = false := by simpa using hlt
                  have HA : Hid (anyOver g = false) := Lib.hid (by
                    cases ha : anyOver g
                    · rfl
                    · obtain ⟨i, hi, hb⟩ := (over_bad HZ0'.out).1 ha
                      exact absurd hb (HN.out i (by omega)))
                  clear hlt HN HXE HS HP
                  go_wp2_with fail
                  go_ret
                  exact ⟨ret_int (by rw [← HZZ.out, HZ.out, HA.out]; rfl), X.down HBU.out hswu (fun k hk => by omega)⟩

end Go.Proofs.Ytbkpoepacjinlaa
