/- Several texts of this claim in one. -/
import Derived.Test.YtckjdpnmalkpnaaFm3
import Derived.Test.YtckjdpnmalkpnaaTt3
import Derived.Test.YtckjdpnmalkpnaaFm2
import Derived.Test.YtckjdpnmalkpnaaTt2
import Derived.Test.YtckjdpnmalkpnaaRows
import Derived.ProofKit
import Derived.OpenShut
import Derived.Lib.SmallJoins
import Derived.Carry
import Derived.ChangeMaps5
/- Fit of both. (printed by wip/t/gen_tfn.py) -/
namespace Go.Proofs.Ytckjdpnmalkpnaa
open Go.RowKit Go.BigFrame
open Tr (inR)
open Ft (Mt)

/-- the error of Fit's arguments -/
def fitE (A B : Acv) (most least : Int) : Int :=
  if chkA A ≠ 0 then chkA A else if chkA B ≠ 0 then chkA B else if 400 < A.sm.length ∨ 400 < B.sm.length then 3 else bndE most least
/-- Fit's match; none -/
def fitO (A B : Acv) (most least : Int) : Option Mt := if fitE A B most least = 0 then Ft.fitM (shiftedF A B) most least else none
theorem orL_two (a b : Int) : orL [a, b] = if a ≠ 0 then a else b := by
  by_cases h : a = 0
  · by_cases h2 : b = 0
    · simp [orL, h, h2]
    · simp [orL, h, h2]
  · simp [orL, h]
theorem bad_two {a b x : Int} (h : (if a ≠ 0 then a else b) ≠ 0) : (if a ≠ 0 then a else if b ≠ 0 then b else x) = if a ≠ 0 then a else b := by
  by_cases h1 : a = 0
  · by_cases h2 : b = 0
    · simp [h1, h2] at h
    · simp [h1, h2]
  · simp [h1]
theorem zero_two {a b : Int} (h : (if a ≠ 0 then a else b) = 0) : a = 0 ∧ b = 0 := by
  by_cases h1 : a = 0
  · simpa [h1] using h
  · simp [h1] at h
theorem chkA_start {A : Acv} (h : chkA A = 0) : 0 ≤ A.start ∧ A.start ≤ 86399999999 := by
  unfold chkA at h
  split at h
  · cases h
  · split at h
    · cases h
    · split at h
      · cases h
      · rename_i hs
        have : inR A.start 0 86399999999 = true := by simpa using hs
        exact inR_iff.1 this
theorem chkA_sm {A : Acv} (h : chkA A = 0) : SmOk A.start A.sm := by
  unfold chkA at h
  split at h
  · cases h
  · split at h
    · cases h
    · split at h
      · cases h
      · split at h
        · cases h
        · unfold chkR at h
          split at h
          · rename_i h0
            exact smOk_of h0
          · rename_i h0
            exact absurd h h0
theorem fitOk_of {A : Acv} (h : chkA A = 0) (hn : A.sm.length ≤ 400) : FitOk A := ⟨chkA_sm h, hn, (chkA_start h).1, (chkA_start h).2⟩
theorem bndE_zero {most least : Int} (h : bndE most least = 0) : (0 ≤ most ∧ most ≤ 3600) ∧ 1 ≤ least ∧ least ≤ 400 := by
  unfold bndE at h
  split at h
  · rename_i hh
    exact ⟨inR_iff.1 hh.1, inR_iff.1 hh.2⟩
  · cases h
theorem bndE_ne {most least : Int} (h : bndE most least ≠ 0) : bndE most least = 9 := by
  unfold bndE at h ⊢
  split
  · rename_i hh
    rw [if_pos hh] at h
    exact absurd rfl h
  · rfl
def FitRet (A B : Acv) (most least : Int) (w : World) (e : Ending) (w' : World) : Prop :=
  e = .returned (.tuple #[mtV ((fitO A B most least).getD mt0), .bool (fitO A B most least).isSome, .int .i64 (fitE A B most least)]) ∧ Below w.heap.size w w'
theorem FitRet.bad {A B : Acv} {most least er : Int} {w w' : World} (he : fitE A B most least = er) (h0 : er ≠ 0) (hb : Below w.heap.size w w') : FitRet A B most least w (.returned (.tuple #[.agg #[.int .i64 0, .int .i64 0, .int .i64 0], .bool false, .int .i64 er])) w' := by
  unfold FitRet
  have : fitO A B most least = none := by unfold fitO; rw [if_neg (by rw [he]; exact h0)]
  rw [this, he]
  exact ⟨rfl, hb⟩
set_option maxHeartbeats 16000000 in
set_option maxRecDepth 100000 in
theorem Fit_any (A B : Acv) (a b c a' b' c' : Option Addr) (ca cb cc ca' cb' cc' : Nat) (most least : Int) (w : World) (hA : ActIn w A a b c) (hB : ActIn w B a' b' c') :
    Calls Try.prog 12 #[actV A a b c ca cb cc, actV B a' b' c' ca' cb' cc', .int .i64 most, .int .i64 least] w fun e w' => FitRet A B most least w e w' := by
  have HI := mtSize
  have DA := fun (W : World) (hb : Below w.heap.size w W) => check_any A a b c ca cb cc W (hA.below hb)
  have DB := fun (W : World) (hb : Below w.heap.size w W) => check_any B a' b' c' ca' cb' cc' W (hB.below hb)
  have DF := fun (W : World) (hb : Below w.heap.size w W) (h1 : chkA A = 0) (h2 : chkA B = 0) (h3 : A.sm.length ≤ 400) (h4 : B.sm.length ≤ 400) (h5 : bndE most least = 0) => fit_any A B a b c a' b' c' ca cb cc ca' cb' cc' most least W (hA.sm.below hb) (hB.sm.below hb) (fitOk_of h1 h3) (fitOk_of h2 h4) (bndE_zero h5).1.1 (bndE_zero h5).1.2 (bndE_zero h5).2.1 (bndE_zero h5).2.2
  have DBN := Lib.hid (fun W => checkFit_any most least W)
  have HV : Hid (fitE A B most least = if chkA A ≠ 0 then chkA A else if chkA B ≠ 0 then chkA B else if 400 < A.sm.length ∨ 400 < B.sm.length then 3 else bndE most least) := Lib.hid rfl
  have HO : Hid (fitO A B most least = if fitE A B most least = 0 then Ft.fitM (shiftedF A B) most least else none) := Lib.hid rfl
  have HBAD := Lib.hid (fun (er : Int) (w' : World) (he : fitE A B most least = er) (h0 : er ≠ 0) (hb : Below w.heap.size w w') => FitRet.bad he h0 hb)
  have HGOOD : Hid (∀ (m : Mt) (bl : Bool) (w' : World), fitE A B most least = 0 → (Ft.fitM (shiftedF A B) most least).getD mt0 = m → (Ft.fitM (shiftedF A B) most least).isSome = bl → Below w.heap.size w w' → FitRet A B most least w (.returned (.tuple #[.agg #[.int .i64 m.shift, .int .i64 m.many, .int .i64 m.sum], .bool bl, .int .i64 0])) w') := Lib.hid (fun m bl w' h0 h1 h2 hb => by
    unfold FitRet
    rw [HO.out, if_pos h0, h1, h2, h0]
    exact ⟨rfl, hb⟩)
  unfold ChkG at DA DB
  generalize Ft.fitM (shiftedF A B) most least = E at *
  generalize fitE A B most least = fe at *
  have HBN := Lib.hid (fun h : bndE most least ≠ 0 => bndE_ne h)
  generalize bndE most least = be at *
  generalize chkA A = eA at *
  generalize chkA B = eB at *
  have hna := hA.nsm
  have hnb := hB.nsm
  unfold actV at *
  generalize A.sm.length = na at *
  generalize A.lp.length = m2 at *
  generalize A.tg.length = m3 at *
  generalize B.sm.length = nb at *
  generalize B.lp.length = m2' at *
  generalize B.tg.length = m3' at *
  obtain ⟨V0, hV0, hb0, hs0, hl0⟩ := alloc_cells w #[.string A.name, .int .i64 A.sport, .int .i64 A.start, .slice a na ca, .slice b m2 cb, .slice c m3 cc] 35
  obtain ⟨V1, hV1, hb1, hs1, hl1⟩ := alloc_cells V0 #[.string B.name, .int .i64 B.sport, .int .i64 B.start, .slice a' nb ca', .slice b' m2' cb', .slice c' m3' cc'] 35
  obtain ⟨V2, hV2, hb2, hs2, hl2⟩ := alloc_mt V1 mt0
  rw [hs0] at hl1
  rw [hs1, hs0] at hl2
  unfold mt0 at hV2
  have A0 := Ext.ex (below_cell hb2 (below_cell hb1 (hl0 0 _ rfl)))
  have A1 := Ext.ex (below_cell hb2 (below_cell hb1 (hl0 1 _ rfl)))
  have A2 := Ext.ex (below_cell hb2 (below_cell hb1 (hl0 2 _ rfl)))
  have A3 := Ext.ex (below_cell hb2 (below_cell hb1 (hl0 3 _ rfl)))
  have A4 := Ext.ex (below_cell hb2 (below_cell hb1 (hl0 4 _ rfl)))
  have A5 := Ext.ex (below_cell hb2 (below_cell hb1 (hl0 5 _ rfl)))
  have B0 := Ext.ex (below_cell hb2 (hl1 0 _ rfl))
  have B1 := Ext.ex (below_cell hb2 (hl1 1 _ rfl))
  have B2 := Ext.ex (below_cell hb2 (hl1 2 _ rfl))
  have B3 := Ext.ex (below_cell hb2 (hl1 3 _ rfl))
  have B4 := Ext.ex (below_cell hb2 (hl1 4 _ rfl))
  have B5 := Ext.ex (below_cell hb2 (hl1 5 _ rfl))
  have HB := Lib.hid (below_step (below_step hb0 hb1) hb2)
  have HR : Hid (MtB V2 (w.heap.size + 2) mt0) := Lib.hid hl2
  have DA := Lib.hid (fun (X : Ext V2) => X.calls (DA X.1 (below_step (below_step (below_step hb0 hb1) hb2) X.2)))
  have DB := Lib.hid (fun (X : Ext V2) => X.calls (DB X.1 (below_step (below_step (below_step hb0 hb1) hb2) X.2)))
  have DF := Lib.hid (fun (X : Ext V2) => DF X.1 (below_step (below_step (below_step hb0 hb1) hb2) X.2))
  have HEND := Lib.hid (fun (X : Ext V2) (m : Mt) => show ∃ WE, ((X.1.setCell ⟨w.heap.size + 2, 0, none⟩ (.int .i64 m.shift)).setCell ⟨w.heap.size + 2, 1, none⟩ (.int .i64 m.many)).setCell ⟨w.heap.size + 2, 2, none⟩ (.int .i64 m.sum) = WE ∧ MtB WE (w.heap.size + 2) m ∧ Below w.heap.size w WE from by
    obtain ⟨WE, h1, h2, h3⟩ := (HR.out.below X.2).store m
    exact ⟨WE, h1, h2, Kept.below (below_step HB.out X.2) (h3 (fun b => b = w.heap.size + 2) rfl) (below_step HB.out X.2).size (fun k hk e => by omega)⟩)
  have HV0 := Lib.hid hV0
  have HV1 := Lib.hid hV1
  have HV2 := Lib.hid hV2
  clear hV0 hb0 hs0 hl0 hV1 hb1 hs1 hl1 hV2 hb2 hs2 hl2 hA hB HO
  simp only at HV2
  unfold mtV at DF
  have HOR : Hid (orL [eA, eB] = if eA ≠ 0 then eA else eB) := Lib.hid (orL_two eA eB)
  obtain ⟨er, her⟩ : ∃ er, orL [eA, eB] = er := ⟨_, rfl⟩
  have HER := Lib.hid her
  clear her
  by_cases h0 : er = 0
  case neg =>
    have b0 := bneT h0
    have HF := Lib.hid (show fe = er from by
      have e := HER.out.symm.trans HOR.out
      rw [e] at h0 ⊢
      exact HV.out.trans (bad_two h0))
    have H0 := Lib.hid h0
    clear h0 HV HOR
    go_enter Try.func12, Try.ntmps12
    go_upto_region 1 with (fail)
    rw [HV0.out, HV1.out, HV2.out]
    refine ext_wp fun X => ?_
    refine held_start (C := fun w' => ∃ Z : Ext V2, w' = Z.1) (by kernel_rfl) ?_
    obtain ⟨Z0, hZ0⟩ : ∃ Z : Ext V2, ({ X.1 with drawn := X.1.drawn + 1 } : World) = Z.1 := ⟨⟨{ X.1 with drawn := X.1.drawn + 1 }, below_step X.2 ⟨rfl, rfl, rfl, Nat.le_refl _, fun _ _ => rfl⟩⟩, rfl⟩
    rw [hZ0]
    clear hZ0
    refine held_quiet (by kernel_rfl) (fun _ _ d _ _ h => by cases d <;> exact h) ⟨Z0, rfl⟩ [0, 2] 5 _ _ (by kernel_rfl) ?_
    change wpQuiet _ _ _ _ (_ :: _ :: []) _
    repeat go_big_quiet_step (fail)
    refine wpQuiet_nil ?_
    refine held_do (i := 1) _ rfl (by kernel_rfl) rfl (fun K hK => ?_)
    go_simp
    refine (DA.out Z0).mono ?_
    rintro e w1 ⟨rfl, Z1, rfl⟩
    refine hK _ _ ⟨Z1, rfl⟩ ?_
    clear hK K
    try simp only [Act.put, List.setIfInBounds_toArray, List.set_cons_zero, List.set_cons_succ]
    refine held_do (i := 3) _ rfl (by kernel_rfl) rfl (fun K hK => ?_)
    go_simp
    refine (DB.out Z1).mono ?_
    rintro e w1 ⟨rfl, Z2, rfl⟩
    refine hK _ _ ⟨Z2, rfl⟩ ?_
    clear hK K
    try simp only [Act.put, List.setIfInBounds_toArray, List.set_cons_zero, List.set_cons_succ]
    refine held_do (i := 4) _ rfl (by kernel_rfl) rfl (fun K hK => ?_)
    go_simp
    obtain ⟨Wb, hWb, hwb1, hwb2, hwq⟩ := alloc_cells Z2.1 #[.int .i64 eA, .int .i64 eB] 23
    rw [hWb]
    obtain ⟨Z3, rfl⟩ : ∃ Z : Ext V2, Wb = Z.1 := ⟨⟨Wb, below_step Z2.2 hwb1⟩, rfl⟩
    have DO := Lib.hid (orE_any [eA, eB] Z2.1.heap.size 2 Z3.1 (by simp) (fun i v hv => hwq i _ (by
      match i, hv with
      | 0, h => injection h with h; subst h; rfl
      | 1, h => injection h with h; subst h; rfl
      | n + 2, h => simp at h)))
    rw [HER.out] at DO
    refine hK _ _ ⟨Z3, rfl⟩ ?_
    clear hK K hWb hwb1 hwb2 hwq
    try simp only [Act.put, List.setIfInBounds_toArray, List.set_cons_zero, List.set_cons_succ]
    refine held_do (i := 5) _ rfl (by kernel_rfl) rfl (fun K hK => ?_)
    go_simp
    refine DO.out.mono ?_
    rintro e w1 ⟨rfl, rfl⟩
    refine hK _ _ ⟨Z3, rfl⟩ ?_
    clear hK K DO
    try simp only [Act.put, List.setIfInBounds_toArray, List.set_cons_zero, List.set_cons_succ]
    refine held_quiet (by kernel_rfl) (fun _ _ d _ _ h => by cases d <;> exact h) ⟨Z3, rfl⟩ [6] 0 _ _ (by kernel_rfl) ?_
    change wpQuiet _ _ _ _ (_ :: []) _
    repeat go_big_quiet_step (fail)
    refine wpQuiet_nil ?_
    refine wpAnyH_done (by kernel_rfl) ?_ _
    obtain ⟨r0, r1, r2⟩ := (HR.out.below Z3.2).cell
    have f0 := (HR.out.below Z3.2).free 0
    have f1 := (HR.out.below Z3.2).free 1
    have f2 := (HR.out.below Z3.2).free 2
    obtain ⟨WE, hWE, hWB, hWL⟩ := HEND.out Z3 mt0
    obtain ⟨q0, q1, q2⟩ := hWB.cell
    have HWE := Lib.hid hWE
    have HWL := Lib.hid hWL
    unfold mt0 at r0 r1 r2 HWE q0 q1 q2
    try simp only at r0 r1 r2 HWE q0 q1 q2
    clear hWE hWB hWL
    go_wp2_with fail
    rw [HWE.out]
    exact bodyPost_ret (v := .tuple #[.agg #[.int .i64 0, .int .i64 0, .int .i64 0], .bool false, .int .i64 er]) (by simp [results, Try.results12, go_sem, q0, q1, q2]) rfl (HBAD.out er WE HF.out H0.out HWL.out)
  subst h0
  have HZ := Lib.hid (show eA = 0 ∧ eB = 0 from zero_two (HOR.out.symm.trans HER.out))
  have HV := Lib.hid (HV.out.trans ((if_neg (fun z => z HZ.out.1)).trans (if_neg (fun z => z HZ.out.2))))
  by_cases g0 : 400 < na
  case pos =>
    have q0 : decide ((400 : Int) < (na : Int)) = true := by rw [decide_eq_true_eq]; omega
    have q0' : decide (400 < na) = true := by rw [decide_eq_true_eq]; omega
    have HF := Lib.hid (HV.out.trans (if_pos (by omega)))
    clear g0 HV
    go_enter Try.func12, Try.ntmps12
    go_upto_region 1 with (fail)
    rw [HV0.out, HV1.out, HV2.out]
    refine ext_wp fun X => ?_
    refine held_start (C := fun w' => ∃ Z : Ext V2, w' = Z.1) (by kernel_rfl) ?_
    obtain ⟨Z0, hZ0⟩ : ∃ Z : Ext V2, ({ X.1 with drawn := X.1.drawn + 1 } : World) = Z.1 := ⟨⟨{ X.1 with drawn := X.1.drawn + 1 }, below_step X.2 ⟨rfl, rfl, rfl, Nat.le_refl _, fun _ _ => rfl⟩⟩, rfl⟩
    rw [hZ0]
    clear hZ0
    refine held_quiet (by kernel_rfl) (fun _ _ d _ _ h => by cases d <;> exact h) ⟨Z0, rfl⟩ [0, 2] 5 _ _ (by kernel_rfl) ?_
    change wpQuiet _ _ _ _ (_ :: _ :: []) _
    repeat go_big_quiet_step (fail)
    refine wpQuiet_nil ?_
    refine held_do (i := 1) _ rfl (by kernel_rfl) rfl (fun K hK => ?_)
    go_simp
    refine (DA.out Z0).mono ?_
    rintro e w1 ⟨rfl, Z1, rfl⟩
    refine hK _ _ ⟨Z1, rfl⟩ ?_
    clear hK K
    try simp only [Act.put, List.setIfInBounds_toArray, List.set_cons_zero, List.set_cons_succ]
    refine held_do (i := 3) _ rfl (by kernel_rfl) rfl (fun K hK => ?_)
    go_simp
    refine (DB.out Z1).mono ?_
    rintro e w1 ⟨rfl, Z2, rfl⟩
    refine hK _ _ ⟨Z2, rfl⟩ ?_
    clear hK K
    try simp only [Act.put, List.setIfInBounds_toArray, List.set_cons_zero, List.set_cons_succ]
    refine held_do (i := 4) _ rfl (by kernel_rfl) rfl (fun K hK => ?_)
    go_simp
    obtain ⟨Wb, hWb, hwb1, hwb2, hwq⟩ := alloc_cells Z2.1 #[.int .i64 eA, .int .i64 eB] 23
    rw [hWb]
    obtain ⟨Z3, rfl⟩ : ∃ Z : Ext V2, Wb = Z.1 := ⟨⟨Wb, below_step Z2.2 hwb1⟩, rfl⟩
    have DO := Lib.hid (orE_any [eA, eB] Z2.1.heap.size 2 Z3.1 (by simp) (fun i v hv => hwq i _ (by
      match i, hv with
      | 0, h => injection h with h; subst h; rfl
      | 1, h => injection h with h; subst h; rfl
      | n + 2, h => simp at h)))
    rw [HER.out] at DO
    refine hK _ _ ⟨Z3, rfl⟩ ?_
    clear hK K hWb hwb1 hwb2 hwq
    try simp only [Act.put, List.setIfInBounds_toArray, List.set_cons_zero, List.set_cons_succ]
    refine held_do (i := 5) _ rfl (by kernel_rfl) rfl (fun K hK => ?_)
    go_simp
    refine DO.out.mono ?_
    rintro e w1 ⟨rfl, rfl⟩
    refine hK _ _ ⟨Z3, rfl⟩ ?_
    clear hK K DO
    try simp only [Act.put, List.setIfInBounds_toArray, List.set_cons_zero, List.set_cons_succ]
    refine held_quiet (by kernel_rfl) (fun _ _ d _ _ h => by cases d <;> exact h) ⟨Z3, rfl⟩ [6] 0 _ _ (by kernel_rfl) ?_
    change wpQuiet _ _ _ _ (_ :: []) _
    repeat go_big_quiet_step (fail)
    refine wpQuiet_nil ?_
    refine wpAnyH_done (by kernel_rfl) ?_ _
    obtain ⟨r0, r1, r2⟩ := (HR.out.below Z3.2).cell
    have f0 := (HR.out.below Z3.2).free 0
    have f1 := (HR.out.below Z3.2).free 1
    have f2 := (HR.out.below Z3.2).free 2
    obtain ⟨WE, hWE, hWB, hWL⟩ := HEND.out Z3 mt0
    obtain ⟨q0, q1, q2⟩ := hWB.cell
    have HWE := Lib.hid hWE
    have HWL := Lib.hid hWL
    unfold mt0 at r0 r1 r2 HWE q0 q1 q2
    try simp only at r0 r1 r2 HWE q0 q1 q2
    clear hWE hWB hWL
    go_wp2_with fail
    rw [HWE.out]
    exact bodyPost_ret (v := .tuple #[.agg #[.int .i64 0, .int .i64 0, .int .i64 0], .bool false, .int .i64 3]) (by simp [results, Try.results12, go_sem, q0, q1, q2]) rfl (HBAD.out 3 WE HF.out (by decide) HWL.out)
  have q0 : decide ((400 : Int) < (na : Int)) = false := by rw [decide_eq_false_iff_not]; omega
  have q0' : decide (400 < na) = false := by rw [decide_eq_false_iff_not]; omega
  by_cases g1 : 400 < nb
  case pos =>
    have q1 : decide ((400 : Int) < (nb : Int)) = true := by rw [decide_eq_true_eq]; omega
    have q1' : decide (400 < nb) = true := by rw [decide_eq_true_eq]; omega
    have HF := Lib.hid (HV.out.trans (if_pos (by omega)))
    clear g0 g1 HV
    go_enter Try.func12, Try.ntmps12
    go_upto_region 1 with (fail)
    rw [HV0.out, HV1.out, HV2.out]
    refine ext_wp fun X => ?_
    refine held_start (C := fun w' => ∃ Z : Ext V2, w' = Z.1) (by kernel_rfl) ?_
    obtain ⟨Z0, hZ0⟩ : ∃ Z : Ext V2, ({ X.1 with drawn := X.1.drawn + 1 } : World) = Z.1 := ⟨⟨{ X.1 with drawn := X.1.drawn + 1 }, below_step X.2 ⟨rfl, rfl, rfl, Nat.le_refl _, fun _ _ => rfl⟩⟩, rfl⟩
    rw [hZ0]
    clear hZ0
    refine held_quiet (by kernel_rfl) (fun _ _ d _ _ h => by cases d <;> exact h) ⟨Z0, rfl⟩ [0, 2] 5 _ _ (by kernel_rfl) ?_
    change wpQuiet _ _ _ _ (_ :: _ :: []) _
    repeat go_big_quiet_step (fail)
    refine wpQuiet_nil ?_
    refine held_do (i := 1) _ rfl (by kernel_rfl) rfl (fun K hK => ?_)
    go_simp
    refine (DA.out Z0).mono ?_
    rintro e w1 ⟨rfl, Z1, rfl⟩
    refine hK _ _ ⟨Z1, rfl⟩ ?_
    clear hK K
    try simp only [Act.put, List.setIfInBounds_toArray, List.set_cons_zero, List.set_cons_succ]
    refine held_do (i := 3) _ rfl (by kernel_rfl) rfl (fun K hK => ?_)
    go_simp
    refine (DB.out Z1).mono ?_
    rintro e w1 ⟨rfl, Z2, rfl⟩
    refine hK _ _ ⟨Z2, rfl⟩ ?_
    clear hK K
    try simp only [Act.put, List.setIfInBounds_toArray, List.set_cons_zero, List.set_cons_succ]
    refine held_do (i := 4) _ rfl (by kernel_rfl) rfl (fun K hK => ?_)
    go_simp
    obtain ⟨Wb, hWb, hwb1, hwb2, hwq⟩ := alloc_cells Z2.1 #[.int .i64 eA, .int .i64 eB] 23
    rw [hWb]
    obtain ⟨Z3, rfl⟩ : ∃ Z : Ext V2, Wb = Z.1 := ⟨⟨Wb, below_step Z2.2 hwb1⟩, rfl⟩
    have DO := Lib.hid (orE_any [eA, eB] Z2.1.heap.size 2 Z3.1 (by simp) (fun i v hv => hwq i _ (by
      match i, hv with
      | 0, h => injection h with h; subst h; rfl
      | 1, h => injection h with h; subst h; rfl
      | n + 2, h => simp at h)))
    rw [HER.out] at DO
    refine hK _ _ ⟨Z3, rfl⟩ ?_
    clear hK K hWb hwb1 hwb2 hwq
    try simp only [Act.put, List.setIfInBounds_toArray, List.set_cons_zero, List.set_cons_succ]
    refine held_do (i := 5) _ rfl (by kernel_rfl) rfl (fun K hK => ?_)
    go_simp
    refine DO.out.mono ?_
    rintro e w1 ⟨rfl, rfl⟩
    refine hK _ _ ⟨Z3, rfl⟩ ?_
    clear hK K DO
    try simp only [Act.put, List.setIfInBounds_toArray, List.set_cons_zero, List.set_cons_succ]
    refine held_quiet (by kernel_rfl) (fun _ _ d _ _ h => by cases d <;> exact h) ⟨Z3, rfl⟩ [6] 0 _ _ (by kernel_rfl) ?_
    change wpQuiet _ _ _ _ (_ :: []) _
    repeat go_big_quiet_step (fail)
    refine wpQuiet_nil ?_
    refine wpAnyH_done (by kernel_rfl) ?_ _
    obtain ⟨r0, r1, r2⟩ := (HR.out.below Z3.2).cell
    have f0 := (HR.out.below Z3.2).free 0
    have f1 := (HR.out.below Z3.2).free 1
    have f2 := (HR.out.below Z3.2).free 2
    obtain ⟨WE, hWE, hWB, hWL⟩ := HEND.out Z3 mt0
    obtain ⟨q0, q1, q2⟩ := hWB.cell
    have HWE := Lib.hid hWE
    have HWL := Lib.hid hWL
    unfold mt0 at r0 r1 r2 HWE q0 q1 q2
    try simp only at r0 r1 r2 HWE q0 q1 q2
    clear hWE hWB hWL
    go_wp2_with fail
    rw [HWE.out]
    exact bodyPost_ret (v := .tuple #[.agg #[.int .i64 0, .int .i64 0, .int .i64 0], .bool false, .int .i64 3]) (by simp [results, Try.results12, go_sem, q0, q1, q2]) rfl (HBAD.out 3 WE HF.out (by decide) HWL.out)
  have q1 : decide ((400 : Int) < (nb : Int)) = false := by rw [decide_eq_false_iff_not]; omega
  have q1' : decide (400 < nb) = false := by rw [decide_eq_false_iff_not]; omega
  have HV := Lib.hid (HV.out.trans (if_neg (by omega)))
  by_cases h5 : be = 0
  case neg =>
    have b5 := bneT h5
    have HF := Lib.hid (HV.out.trans (HBN.out h5))
    have H0 := Lib.hid h5
    have HNB := Lib.hid (HBN.out h5)
    clear h5 HV g0 g1
    go_enter Try.func12, Try.ntmps12
    go_upto_region 1 with (fail)
    rw [HV0.out, HV1.out, HV2.out]
    refine ext_wp fun X => ?_
    refine held_start (C := fun w' => ∃ Z : Ext V2, w' = Z.1) (by kernel_rfl) ?_
    obtain ⟨Z0, hZ0⟩ : ∃ Z : Ext V2, ({ X.1 with drawn := X.1.drawn + 1 } : World) = Z.1 := ⟨⟨{ X.1 with drawn := X.1.drawn + 1 }, below_step X.2 ⟨rfl, rfl, rfl, Nat.le_refl _, fun _ _ => rfl⟩⟩, rfl⟩
    rw [hZ0]
    clear hZ0
    refine held_quiet (by kernel_rfl) (fun _ _ d _ _ h => by cases d <;> exact h) ⟨Z0, rfl⟩ [0, 2] 5 _ _ (by kernel_rfl) ?_
    change wpQuiet _ _ _ _ (_ :: _ :: []) _
    repeat go_big_quiet_step (fail)
    refine wpQuiet_nil ?_
    refine held_do (i := 1) _ rfl (by kernel_rfl) rfl (fun K hK => ?_)
    go_simp
    refine (DA.out Z0).mono ?_
    rintro e w1 ⟨rfl, Z1, rfl⟩
    refine hK _ _ ⟨Z1, rfl⟩ ?_
    clear hK K
    try simp only [Act.put, List.setIfInBounds_toArray, List.set_cons_zero, List.set_cons_succ]
    refine held_do (i := 3) _ rfl (by kernel_rfl) rfl (fun K hK => ?_)
    go_simp
    refine (DB.out Z1).mono ?_
    rintro e w1 ⟨rfl, Z2, rfl⟩
    refine hK _ _ ⟨Z2, rfl⟩ ?_
    clear hK K
    try simp only [Act.put, List.setIfInBounds_toArray, List.set_cons_zero, List.set_cons_succ]
    refine held_do (i := 4) _ rfl (by kernel_rfl) rfl (fun K hK => ?_)
    go_simp
    obtain ⟨Wb, hWb, hwb1, hwb2, hwq⟩ := alloc_cells Z2.1 #[.int .i64 eA, .int .i64 eB] 23
    rw [hWb]
    obtain ⟨Z3, rfl⟩ : ∃ Z : Ext V2, Wb = Z.1 := ⟨⟨Wb, below_step Z2.2 hwb1⟩, rfl⟩
    have DO := Lib.hid (orE_any [eA, eB] Z2.1.heap.size 2 Z3.1 (by simp) (fun i v hv => hwq i _ (by
      match i, hv with
      | 0, h => injection h with h; subst h; rfl
      | 1, h => injection h with h; subst h; rfl
      | n + 2, h => simp at h)))
    rw [HER.out] at DO
    refine hK _ _ ⟨Z3, rfl⟩ ?_
    clear hK K hWb hwb1 hwb2 hwq
    try simp only [Act.put, List.setIfInBounds_toArray, List.set_cons_zero, List.set_cons_succ]
    refine held_do (i := 5) _ rfl (by kernel_rfl) rfl (fun K hK => ?_)
    go_simp
    refine DO.out.mono ?_
    rintro e w1 ⟨rfl, rfl⟩
    refine hK _ _ ⟨Z3, rfl⟩ ?_
    clear hK K DO
    try simp only [Act.put, List.setIfInBounds_toArray, List.set_cons_zero, List.set_cons_succ]
    refine held_quiet (by kernel_rfl) (fun _ _ d _ _ h => by cases d <;> exact h) ⟨Z3, rfl⟩ [6] 0 _ _ (by kernel_rfl) ?_
    change wpQuiet _ _ _ _ (_ :: []) _
    repeat go_big_quiet_step (fail)
    refine wpQuiet_nil ?_
    refine wpAnyH_done (by kernel_rfl) ?_ _
    go_wp2_with fail
    refine (DBN.out _).mono ?_
    rintro e w1 ⟨rfl, hb⟩
    obtain ⟨Z4, rfl⟩ : ∃ Z : Ext V2, w1 = Z.1 := ⟨⟨w1, below_step Z3.2 hb⟩, rfl⟩
    clear hb
    obtain ⟨r0, r1, r2⟩ := (HR.out.below Z4.2).cell
    have f0 := (HR.out.below Z4.2).free 0
    have f1 := (HR.out.below Z4.2).free 1
    have f2 := (HR.out.below Z4.2).free 2
    obtain ⟨WE, hWE, hWB, hWL⟩ := HEND.out Z4 mt0
    obtain ⟨q0, q1, q2⟩ := hWB.cell
    have HWE := Lib.hid hWE
    have HWL := Lib.hid hWL
    unfold mt0 at r0 r1 r2 HWE q0 q1 q2
    try simp only at r0 r1 r2 HWE q0 q1 q2
    clear hWE hWB hWL
    go_wp2_with fail
    rw [HWE.out]
    exact bodyPost_ret (v := .tuple #[.agg #[.int .i64 0, .int .i64 0, .int .i64 0], .bool false, .int .i64 be]) (by simp [results, Try.results12, go_sem, q0, q1, q2]) rfl (HBAD.out be WE (HF.out.trans HNB.out.symm) H0.out HWL.out)
  have HF := Lib.hid (HV.out.trans h5)
  have DFX := Lib.hid (fun X => DF.out X HZ.out.1 HZ.out.2 (by omega) (by omega) h5)
  obtain ⟨m, hm⟩ : ∃ m, E.getD mt0 = m := ⟨_, rfl⟩
  obtain ⟨bl, hbl⟩ : ∃ b, E.isSome = b := ⟨_, rfl⟩
  rw [hm, hbl] at DFX
  have HM := Lib.hid hm
  have HBL := Lib.hid hbl
  subst h5
  clear HV g0 g1 hm hbl DF
  go_enter Try.func12, Try.ntmps12
  go_upto_region 1 with (fail)
  rw [HV0.out, HV1.out, HV2.out]
  refine ext_wp fun X => ?_
  refine held_start (C := fun w' => ∃ Z : Ext V2, w' = Z.1) (by kernel_rfl) ?_
  obtain ⟨Z0, hZ0⟩ : ∃ Z : Ext V2, ({ X.1 with drawn := X.1.drawn + 1 } : World) = Z.1 := ⟨⟨{ X.1 with drawn := X.1.drawn + 1 }, below_step X.2 ⟨rfl, rfl, rfl, Nat.le_refl _, fun _ _ => rfl⟩⟩, rfl⟩
  rw [hZ0]
  clear hZ0
  refine held_quiet (by kernel_rfl) (fun _ _ d _ _ h => by cases d <;> exact h) ⟨Z0, rfl⟩ [0, 2] 5 _ _ (by kernel_rfl) ?_
  change wpQuiet _ _ _ _ (_ :: _ :: []) _
  repeat go_big_quiet_step (fail)
  refine wpQuiet_nil ?_
  refine held_do (i := 1) _ rfl (by kernel_rfl) rfl (fun K hK => ?_)
  go_simp
  refine (DA.out Z0).mono ?_
  rintro e w1 ⟨rfl, Z1, rfl⟩
  refine hK _ _ ⟨Z1, rfl⟩ ?_
  clear hK K
  try simp only [Act.put, List.setIfInBounds_toArray, List.set_cons_zero, List.set_cons_succ]
  refine held_do (i := 3) _ rfl (by kernel_rfl) rfl (fun K hK => ?_)
  go_simp
  refine (DB.out Z1).mono ?_
  rintro e w1 ⟨rfl, Z2, rfl⟩
  refine hK _ _ ⟨Z2, rfl⟩ ?_
  clear hK K
  try simp only [Act.put, List.setIfInBounds_toArray, List.set_cons_zero, List.set_cons_succ]
  refine held_do (i := 4) _ rfl (by kernel_rfl) rfl (fun K hK => ?_)
  go_simp
  obtain ⟨Wb, hWb, hwb1, hwb2, hwq⟩ := alloc_cells Z2.1 #[.int .i64 eA, .int .i64 eB] 23
  rw [hWb]
  obtain ⟨Z3, rfl⟩ : ∃ Z : Ext V2, Wb = Z.1 := ⟨⟨Wb, below_step Z2.2 hwb1⟩, rfl⟩
  have DO := Lib.hid (orE_any [eA, eB] Z2.1.heap.size 2 Z3.1 (by simp) (fun i v hv => hwq i _ (by
    match i, hv with
    | 0, h => injection h with h; subst h; rfl
    | 1, h => injection h with h; subst h; rfl
    | n + 2, h => simp at h)))
  rw [HER.out] at DO
  refine hK _ _ ⟨Z3, rfl⟩ ?_
  clear hK K hWb hwb1 hwb2 hwq
  try simp only [Act.put, List.setIfInBounds_toArray, List.set_cons_zero, List.set_cons_succ]
  refine held_do (i := 5) _ rfl (by kernel_rfl) rfl (fun K hK => ?_)
  go_simp
  refine DO.out.mono ?_
  rintro e w1 ⟨rfl, rfl⟩
  refine hK _ _ ⟨Z3, rfl⟩ ?_
  clear hK K DO
  try simp only [Act.put, List.setIfInBounds_toArray, List.set_cons_zero, List.set_cons_succ]
  refine held_quiet (by kernel_rfl) (fun _ _ d _ _ h => by cases d <;> exact h) ⟨Z3, rfl⟩ [6] 0 _ _ (by kernel_rfl) ?_
  change wpQuiet _ _ _ _ (_ :: []) _
  repeat go_big_quiet_step (fail)
  refine wpQuiet_nil ?_
  refine wpAnyH_done (by kernel_rfl) ?_ _
  go_wp2_with fail
  refine (DBN.out _).mono ?_
  rintro e w1 ⟨rfl, hb⟩
  obtain ⟨Z4, rfl⟩ : ∃ Z : Ext V2, w1 = Z.1 := ⟨⟨w1, below_step Z3.2 hb⟩, rfl⟩
  clear hb
  go_wp2_with fail
  refine (DFX.out Z4).mono ?_
  rintro e w1 ⟨rfl, hb⟩
  obtain ⟨Z5, rfl⟩ : ∃ Z : Ext V2, w1 = Z.1 := ⟨⟨w1, below_step Z4.2 hb⟩, rfl⟩
  clear hb
  obtain ⟨W6, hW6, hwb6, hws6, hwl6⟩ := alloc_mt Z5.1 m
  have HW6 := Lib.hid hW6
  obtain ⟨Z6, hZ6⟩ : ∃ Z : Ext V2, W6 = Z.1 := ⟨⟨W6, below_step Z5.2 hwb6⟩, rfl⟩
  rw [hZ6] at hwl6
  obtain ⟨t0, t1', t2⟩ := hwl6.cell
  clear hW6 hwb6 hws6 hwl6
  go_upto_region 10 with (fail)
  rw [HW6.out, hZ6]
  clear hZ6
  obtain ⟨r0, r1, r2⟩ := (HR.out.below Z6.2).cell
  have f0 := (HR.out.below Z6.2).free 0
  have f1 := (HR.out.below Z6.2).free 1
  have f2 := (HR.out.below Z6.2).free 2
  obtain ⟨WE, hWE, hWB, hWL⟩ := HEND.out Z6 m
  obtain ⟨q0, q1, q2⟩ := hWB.cell
  have HWE := Lib.hid hWE
  have HWL := Lib.hid hWL
  unfold mt0 at r0 r1 r2
  try simp only at r0 r1 r2
  clear hWE hWB hWL
  go_wp2_with fail
  rw [HWE.out]
  exact bodyPost_ret (v := .tuple #[.agg #[.int .i64 m.shift, .int .i64 m.many, .int .i64 m.sum], .bool bl, .int .i64 0]) (by simp [results, Try.results12, go_sem, q0, q1, q2]) rfl (HGOOD.out m bl WE HF.out HM.out HBL.out HWL.out)
set_option maxHeartbeats 16000000 in
set_option maxRecDepth 100000 in
theorem rFit_any (A B : Acv) (a b c a' b' c' : Option Addr) (ca cb cc ca' cb' cc' : Nat) (most least : Int) (w : World) (hA : ActIn w A a b c) (hB : ActIn w B a' b' c') :
    Calls Try.prog 13 #[actV A a b c ca cb cc, actV B a' b' c' ca' cb' cc', .int .i64 most, .int .i64 least] w fun e w' => FitRet A B most least w e w' := by
  have HI := mtSize
  have DA := fun (W : World) (hb : Below w.heap.size w W) => rcheck2_any A a b c ca cb cc W (hA.below hb)
  have DB := fun (W : World) (hb : Below w.heap.size w W) => rcheck2_any B a' b' c' ca' cb' cc' W (hB.below hb)
  have DF := fun (W : World) (hb : Below w.heap.size w W) (h1 : chkA A = 0) (h2 : chkA B = 0) (h3 : A.sm.length ≤ 400) (h4 : B.sm.length ≤ 400) (h5 : bndE most least = 0) => rfit_any A B a b c a' b' c' ca cb cc ca' cb' cc' most least W (hA.sm.below hb) (hB.sm.below hb) (fitOk_of h1 h3) (fitOk_of h2 h4) (bndE_zero h5).1.1 (bndE_zero h5).1.2 (bndE_zero h5).2.1 (bndE_zero h5).2.2
  have DBN := Lib.hid (fun W => rcheckBounds_any most least W)
  have HV : Hid (fitE A B most least = if chkA A ≠ 0 then chkA A else if chkA B ≠ 0 then chkA B else if 400 < A.sm.length ∨ 400 < B.sm.length then 3 else bndE most least) := Lib.hid rfl
  have HO : Hid (fitO A B most least = if fitE A B most least = 0 then Ft.fitM (shiftedF A B) most least else none) := Lib.hid rfl
  have HBAD := Lib.hid (fun (er : Int) (w' : World) (he : fitE A B most least = er) (h0 : er ≠ 0) (hb : Below w.heap.size w w') => FitRet.bad he h0 hb)
  have HGOOD : Hid (∀ (m : Mt) (bl : Bool) (w' : World), fitE A B most least = 0 → (Ft.fitM (shiftedF A B) most least).getD mt0 = m → (Ft.fitM (shiftedF A B) most least).isSome = bl → Below w.heap.size w w' → FitRet A B most least w (.returned (.tuple #[.agg #[.int .i64 m.shift, .int .i64 m.many, .int .i64 m.sum], .bool bl, .int .i64 0])) w') := Lib.hid (fun m bl w' h0 h1 h2 hb => by
    unfold FitRet
    rw [HO.out, if_pos h0, h1, h2, h0]
    exact ⟨rfl, hb⟩)
  skip
  generalize Ft.fitM (shiftedF A B) most least = E at *
  generalize fitE A B most least = fe at *
  have HBN := Lib.hid (fun h : bndE most least ≠ 0 => bndE_ne h)
  generalize bndE most least = be at *
  generalize chkA A = eA at *
  generalize chkA B = eB at *
  have hna := hA.nsm
  have hnb := hB.nsm
  unfold actV at *
  generalize A.sm.length = na at *
  generalize A.lp.length = m2 at *
  generalize A.tg.length = m3 at *
  generalize B.sm.length = nb at *
  generalize B.lp.length = m2' at *
  generalize B.tg.length = m3' at *
  obtain ⟨V0, hV0, hb0, hs0, hl0⟩ := alloc_cells w #[.string A.name, .int .i64 A.sport, .int .i64 A.start, .slice a na ca, .slice b m2 cb, .slice c m3 cc] 35
  obtain ⟨V1, hV1, hb1, hs1, hl1⟩ := alloc_cells V0 #[.string B.name, .int .i64 B.sport, .int .i64 B.start, .slice a' nb ca', .slice b' m2' cb', .slice c' m3' cc'] 35
  obtain ⟨V2, hV2, hb2, hs2, hl2⟩ := alloc_mt V1 mt0
  rw [hs0] at hl1
  rw [hs1, hs0] at hl2
  unfold mt0 at hV2
  have A0 := Ext.ex (below_cell hb2 (below_cell hb1 (hl0 0 _ rfl)))
  have A1 := Ext.ex (below_cell hb2 (below_cell hb1 (hl0 1 _ rfl)))
  have A2 := Ext.ex (below_cell hb2 (below_cell hb1 (hl0 2 _ rfl)))
  have A3 := Ext.ex (below_cell hb2 (below_cell hb1 (hl0 3 _ rfl)))
  have A4 := Ext.ex (below_cell hb2 (below_cell hb1 (hl0 4 _ rfl)))
  have A5 := Ext.ex (below_cell hb2 (below_cell hb1 (hl0 5 _ rfl)))
  have B0 := Ext.ex (below_cell hb2 (hl1 0 _ rfl))
  have B1 := Ext.ex (below_cell hb2 (hl1 1 _ rfl))
  have B2 := Ext.ex (below_cell hb2 (hl1 2 _ rfl))
  have B3 := Ext.ex (below_cell hb2 (hl1 3 _ rfl))
  have B4 := Ext.ex (below_cell hb2 (hl1 4 _ rfl))
  have B5 := Ext.ex (below_cell hb2 (hl1 5 _ rfl))
  have HB := Lib.hid (below_step (below_step hb0 hb1) hb2)
  have HR : Hid (MtB V2 (w.heap.size + 2) mt0) := Lib.hid hl2
  have DA := Lib.hid (fun (X : Ext V2) => X.calls (DA X.1 (below_step (below_step (below_step hb0 hb1) hb2) X.2)))
  have DB := Lib.hid (fun (X : Ext V2) => X.calls (DB X.1 (below_step (below_step (below_step hb0 hb1) hb2) X.2)))
  have DF := Lib.hid (fun (X : Ext V2) => DF X.1 (below_step (below_step (below_step hb0 hb1) hb2) X.2))
  have HEND := Lib.hid (fun (X : Ext V2) (m : Mt) => show ∃ WE, ((X.1.setCell ⟨w.heap.size + 2, 0, none⟩ (.int .i64 m.shift)).setCell ⟨w.heap.size + 2, 1, none⟩ (.int .i64 m.many)).setCell ⟨w.heap.size + 2, 2, none⟩ (.int .i64 m.sum) = WE ∧ MtB WE (w.heap.size + 2) m ∧ Below w.heap.size w WE from by
    obtain ⟨WE, h1, h2, h3⟩ := (HR.out.below X.2).store m
    exact ⟨WE, h1, h2, Kept.below (below_step HB.out X.2) (h3 (fun b => b = w.heap.size + 2) rfl) (below_step HB.out X.2).size (fun k hk e => by omega)⟩)
  have HV0 := Lib.hid hV0
  have HV1 := Lib.hid hV1
  have HV2 := Lib.hid hV2
  clear hV0 hb0 hs0 hl0 hV1 hb1 hs1 hl1 hV2 hb2 hs2 hl2 hA hB HO
  simp only at HV2
  unfold mtV at DF
  by_cases h0 : eA = 0
  case neg =>
    have b0 := bneT h0
    have HF := Lib.hid (HV.out.trans (if_pos h0))
    have H0 := Lib.hid h0
    clear h0 HV
    go_enter Try.func13, Try.ntmps13
    go_upto_region 1 with (fail)
    rw [HV0.out, HV1.out, HV2.out]
    refine ext_wp fun X => ?_
    go_wp2_with fail
    refine (DA.out _).mono ?_
    rintro e w1 ⟨rfl, Z1, rfl⟩
    obtain ⟨r0, r1, r2⟩ := (HR.out.below Z1.2).cell
    have f0 := (HR.out.below Z1.2).free 0
    have f1 := (HR.out.below Z1.2).free 1
    have f2 := (HR.out.below Z1.2).free 2
    obtain ⟨WE, hWE, hWB, hWL⟩ := HEND.out Z1 mt0
    obtain ⟨q0, q1, q2⟩ := hWB.cell
    have HWE := Lib.hid hWE
    have HWL := Lib.hid hWL
    unfold mt0 at r0 r1 r2 HWE q0 q1 q2
    try simp only at r0 r1 r2 HWE q0 q1 q2
    clear hWE hWB hWL
    go_wp2_with fail
    rw [HWE.out]
    exact bodyPost_ret (v := .tuple #[.agg #[.int .i64 0, .int .i64 0, .int .i64 0], .bool false, .int .i64 eA]) (by simp [results, Try.results13, go_sem, q0, q1, q2]) rfl (HBAD.out eA WE HF.out H0.out HWL.out)
  have b0 := bneF h0
  have HV := Lib.hid (HV.out.trans (if_neg (fun z => z h0)))
  by_cases h02 : eB = 0
  case neg =>
    have b02 := bneT h02
    have HF := Lib.hid (HV.out.trans (if_pos h02))
    have H0 := Lib.hid h02
    clear h02 h0 HV
    go_enter Try.func13, Try.ntmps13
    go_upto_region 1 with (fail)
    rw [HV0.out, HV1.out, HV2.out]
    refine ext_wp fun X => ?_
    go_wp2_with fail
    refine (DA.out _).mono ?_
    rintro e w1 ⟨rfl, Z1, rfl⟩
    go_wp2_with fail
    refine (DB.out _).mono ?_
    rintro e w1 ⟨rfl, Z3, rfl⟩
    obtain ⟨r0, r1, r2⟩ := (HR.out.below Z3.2).cell
    have f0 := (HR.out.below Z3.2).free 0
    have f1 := (HR.out.below Z3.2).free 1
    have f2 := (HR.out.below Z3.2).free 2
    obtain ⟨WE, hWE, hWB, hWL⟩ := HEND.out Z3 mt0
    obtain ⟨q0, q1, q2⟩ := hWB.cell
    have HWE := Lib.hid hWE
    have HWL := Lib.hid hWL
    unfold mt0 at r0 r1 r2 HWE q0 q1 q2
    try simp only at r0 r1 r2 HWE q0 q1 q2
    clear hWE hWB hWL
    go_wp2_with fail
    rw [HWE.out]
    exact bodyPost_ret (v := .tuple #[.agg #[.int .i64 0, .int .i64 0, .int .i64 0], .bool false, .int .i64 eB]) (by simp [results, Try.results13, go_sem, q0, q1, q2]) rfl (HBAD.out eB WE HF.out H0.out HWL.out)
  have b02 := bneF h02
  have HV := Lib.hid (HV.out.trans (if_neg (fun z => z h02)))
  have HZ := Lib.hid (And.intro h0 h02)
  clear h0 h02
  by_cases g0 : 400 < na
  case pos =>
    have q0 : decide ((400 : Int) < (na : Int)) = true := by rw [decide_eq_true_eq]; omega
    have q0' : decide (400 < na) = true := by rw [decide_eq_true_eq]; omega
    have HF := Lib.hid (HV.out.trans (if_pos (by omega)))
    clear g0 HV
    go_enter Try.func13, Try.ntmps13
    go_upto_region 1 with (fail)
    rw [HV0.out, HV1.out, HV2.out]
    refine ext_wp fun X => ?_
    go_wp2_with fail
    refine (DA.out _).mono ?_
    rintro e w1 ⟨rfl, Z1, rfl⟩
    go_wp2_with fail
    refine (DB.out _).mono ?_
    rintro e w1 ⟨rfl, Z3, rfl⟩
    obtain ⟨r0, r1, r2⟩ := (HR.out.below Z3.2).cell
    have f0 := (HR.out.below Z3.2).free 0
    have f1 := (HR.out.below Z3.2).free 1
    have f2 := (HR.out.below Z3.2).free 2
    obtain ⟨WE, hWE, hWB, hWL⟩ := HEND.out Z3 mt0
    obtain ⟨q0, q1, q2⟩ := hWB.cell
    have HWE := Lib.hid hWE
    have HWL := Lib.hid hWL
    unfold mt0 at r0 r1 r2 HWE q0 q1 q2
    try simp only at r0 r1 r2 HWE q0 q1 q2
    clear hWE hWB hWL
    go_wp2_with fail
    rw [HWE.out]
    exact bodyPost_ret (v := .tuple #[.agg #[.int .i64 0, .int .i64 0, .int .i64 0], .bool false, .int .i64 3]) (by simp [results, Try.results13, go_sem, q0, q1, q2]) rfl (HBAD.out 3 WE HF.out (by decide) HWL.out)
  have q0 : decide ((400 : Int) < (na : Int)) = false := by rw [decide_eq_false_iff_not]; omega
  have q0' : decide (400 < na) = false := by rw [decide_eq_false_iff_not]; omega
  by_cases g1 : 400 < nb
  case pos =>
    have q1 : decide ((400 : Int) < (nb : Int)) = true := by rw [decide_eq_true_eq]; omega
    have q1' : decide (400 < nb) = true := by rw [decide_eq_true_eq]; omega
    have HF := Lib.hid (HV.out.trans (if_pos (by omega)))
    clear g0 g1 HV
    go_enter Try.func13, Try.ntmps13
    go_upto_region 1 with (fail)
    rw [HV0.out, HV1.out, HV2.out]
    refine ext_wp fun X => ?_
    go_wp2_with fail
    refine (DA.out _).mono ?_
    rintro e w1 ⟨rfl, Z1, rfl⟩
    go_wp2_with fail
    refine (DB.out _).mono ?_
    rintro e w1 ⟨rfl, Z3, rfl⟩
    obtain ⟨r0, r1, r2⟩ := (HR.out.below Z3.2).cell
    have f0 := (HR.out.below Z3.2).free 0
    have f1 := (HR.out.below Z3.2).free 1
    have f2 := (HR.out.below Z3.2).free 2
    obtain ⟨WE, hWE, hWB, hWL⟩ := HEND.out Z3 mt0
    obtain ⟨q0, q1, q2⟩ := hWB.cell
    have HWE := Lib.hid hWE
    have HWL := Lib.hid hWL
    unfold mt0 at r0 r1 r2 HWE q0 q1 q2
    try simp only at r0 r1 r2 HWE q0 q1 q2
    clear hWE hWB hWL
    go_wp2_with fail
    rw [HWE.out]
    exact bodyPost_ret (v := .tuple #[.agg #[.int .i64 0, .int .i64 0, .int .i64 0], .bool false, .int .i64 3]) (by simp [results, Try.results13, go_sem, q0, q1, q2]) rfl (HBAD.out 3 WE HF.out (by decide) HWL.out)
  have q1 : decide ((400 : Int) < (nb : Int)) = false := by rw [decide_eq_false_iff_not]; omega
  have q1' : decide (400 < nb) = false := by rw [decide_eq_false_iff_not]; omega
  have HV := Lib.hid (HV.out.trans (if_neg (by omega)))
  by_cases h5 : be = 0
  case neg =>
    have b5 := bneT h5
    have HF := Lib.hid (HV.out.trans (HBN.out h5))
    have H0 := Lib.hid h5
    have HNB := Lib.hid (HBN.out h5)
    clear h5 HV g0 g1
    go_enter Try.func13, Try.ntmps13
    go_upto_region 1 with (fail)
    rw [HV0.out, HV1.out, HV2.out]
    refine ext_wp fun X => ?_
    go_wp2_with fail
    refine (DA.out _).mono ?_
    rintro e w1 ⟨rfl, Z1, rfl⟩
    go_wp2_with fail
    refine (DB.out _).mono ?_
    rintro e w1 ⟨rfl, Z3, rfl⟩
    go_wp2_with fail
    refine (DBN.out _).mono ?_
    rintro e w1 ⟨rfl, rfl⟩
    obtain ⟨r0, r1, r2⟩ := (HR.out.below Z3.2).cell
    have f0 := (HR.out.below Z3.2).free 0
    have f1 := (HR.out.below Z3.2).free 1
    have f2 := (HR.out.below Z3.2).free 2
    obtain ⟨WE, hWE, hWB, hWL⟩ := HEND.out Z3 mt0
    obtain ⟨q0, q1, q2⟩ := hWB.cell
    have HWE := Lib.hid hWE
    have HWL := Lib.hid hWL
    unfold mt0 at r0 r1 r2 HWE q0 q1 q2
    try simp only at r0 r1 r2 HWE q0 q1 q2
    clear hWE hWB hWL
    go_wp2_with fail
    rw [HWE.out]
    exact bodyPost_ret (v := .tuple #[.agg #[.int .i64 0, .int .i64 0, .int .i64 0], .bool false, .int .i64 be]) (by simp [results, Try.results13, go_sem, q0, q1, q2]) rfl (HBAD.out be WE (HF.out.trans HNB.out.symm) H0.out HWL.out)
  have HF := Lib.hid (HV.out.trans h5)
  have DFX := Lib.hid (fun X => DF.out X HZ.out.1 HZ.out.2 (by omega) (by omega) h5)
  obtain ⟨m, hm⟩ : ∃ m, E.getD mt0 = m := ⟨_, rfl⟩
  obtain ⟨bl, hbl⟩ : ∃ b, E.isSome = b := ⟨_, rfl⟩
  rw [hm, hbl] at DFX
  have HM := Lib.hid hm
  have HBL := Lib.hid hbl
  subst h5
  clear HV g0 g1 hm hbl DF
  go_enter Try.func13, Try.ntmps13
  go_upto_region 1 with (fail)
  rw [HV0.out, HV1.out, HV2.out]
  refine ext_wp fun X => ?_
  go_wp2_with fail
  refine (DA.out _).mono ?_
  rintro e w1 ⟨rfl, Z1, rfl⟩
  go_wp2_with fail
  refine (DB.out _).mono ?_
  rintro e w1 ⟨rfl, Z3, rfl⟩
  go_wp2_with fail
  refine (DBN.out _).mono ?_
  rintro e w1 ⟨rfl, rfl⟩
  go_wp2_with fail
  refine (DFX.out Z3).mono ?_
  rintro e w1 ⟨rfl, hb⟩
  obtain ⟨Z5, rfl⟩ : ∃ Z : Ext V2, w1 = Z.1 := ⟨⟨w1, below_step Z3.2 hb⟩, rfl⟩
  clear hb
  obtain ⟨W6, hW6, hwb6, hws6, hwl6⟩ := alloc_mt Z5.1 m
  have HW6 := Lib.hid hW6
  obtain ⟨Z6, hZ6⟩ : ∃ Z : Ext V2, W6 = Z.1 := ⟨⟨W6, below_step Z5.2 hwb6⟩, rfl⟩
  rw [hZ6] at hwl6
  obtain ⟨t0, t1', t2⟩ := hwl6.cell
  clear hW6 hwb6 hws6 hwl6
  go_upto_region 13 with (fail)
  rw [HW6.out, hZ6]
  clear hZ6
  obtain ⟨r0, r1, r2⟩ := (HR.out.below Z6.2).cell
  have f0 := (HR.out.below Z6.2).free 0
  have f1 := (HR.out.below Z6.2).free 1
  have f2 := (HR.out.below Z6.2).free 2
  obtain ⟨WE, hWE, hWB, hWL⟩ := HEND.out Z6 m
  obtain ⟨q0, q1, q2⟩ := hWB.cell
  have HWE := Lib.hid hWE
  have HWL := Lib.hid hWL
  unfold mt0 at r0 r1 r2
  try simp only at r0 r1 r2
  clear hWE hWB hWL
  go_wp2_with fail
  rw [HWE.out]
  exact bodyPost_ret (v := .tuple #[.agg #[.int .i64 m.shift, .int .i64 m.many, .int .i64 m.sum], .bool bl, .int .i64 0]) (by simp [results, Try.results13, go_sem, q0, q1, q2]) rfl (HGOOD.out m bl WE HF.out HM.out HBL.out HWL.out)
end Go.Proofs.Ytckjdpnmalkpnaa

/- told: some edits tidied as the document tells (Tsh's lines, for laws that need no more of Tidy). -/
namespace Go.Proofs.Ytckjdpnmalkpnaa
open Go.RowKit Go.BigFrame
open Tr (Ed)

theorem ERow.mk2 {W : World} {g : Nat} {l : List Ed} (hg : g < W.heap.size) (hc : ∀ i v, (l.flatMap edC)[i]? = some v → W.cell? ⟨g, i, none⟩ = some v) : ERow W (some ⟨g, 0, none⟩) l := by
  refine ⟨fun _ => ⟨g, 0, rfl, hg, fun i x hx j v hv => ?_⟩⟩
  rw [Nat.zero_add]
  exact hc _ v (flatEd_get l i x hx j v hv)
def sy1 : ByteArray := ⟨#[120]⟩
def toldM : List Ed := [⟨6, 5, 0, 0, noB⟩, ⟨3, 0, 0, 0, sy1⟩, ⟨5, 10, 0, 0, noB⟩, ⟨6, -5, 0, 0, noB⟩, ⟨4, 0, 0, 0, sy1⟩, ⟨5, 20, 0, 0, noB⟩]
theorem toldM_chk : chkEL toldM = 0 := by kernel_rfl
theorem toldM_tidy : tidyR toldM = [⟨5, 30, 0, 0, noB⟩] := by kernel_rfl
theorem toldM_text : ∀ x, x ∈ toldM → x.s.size ≤ maxLen := by
  intro x hx
  unfold toldM at hx
  simp only [List.mem_cons, List.not_mem_nil, or_false] at hx
  unfold maxLen
  rcases hx with rfl | rfl | rfl | rfl | rfl | rfl
  · show (0 : Nat) ≤ _; omega
  · show (1 : Nat) ≤ _; omega
  · show (0 : Nat) ≤ _; omega
  · show (0 : Nat) ≤ _; omega
  · show (1 : Nat) ≤ _; omega
  · show (0 : Nat) ≤ _; omega
set_option maxHeartbeats 1000000 in
set_option maxRecDepth 100000 in
theorem told2_any (w : World) : Calls Try.prog 11 #[] w fun e w' => e = .returned (.bool true) ∧ Below w.heap.size w w' := by
  obtain ⟨V1, hV1, hb1, hs1, hl1⟩ := alloc_cells w #[.int .i64 6, .int .i64 5, .int .i64 0, .int .i64 0, .string noB, .int .i64 3, .int .i64 0, .int .i64 0, .int .i64 0, .string sy1, .int .i64 5, .int .i64 10, .int .i64 0, .int .i64 0, .string noB, .int .i64 6, .int .i64 (-5), .int .i64 0, .int .i64 0, .string noB, .int .i64 4, .int .i64 0, .int .i64 0, .int .i64 0, .string sy1, .int .i64 5, .int .i64 20, .int .i64 0, .int .i64 0, .string noB] 28
  have hrow : ERow V1 (some ⟨w.heap.size, 0, none⟩) toldM := .mk2 (by omega) (fun i v hv => hl1 i v (by
    rw [← hv]
    show _ = (toldM.flatMap edC)[i]?
    rw [show toldM.flatMap edC = (#[.int .i64 6, .int .i64 5, .int .i64 0, .int .i64 0, .string noB, .int .i64 3, .int .i64 0, .int .i64 0, .int .i64 0, .string sy1, .int .i64 5, .int .i64 10, .int .i64 0, .int .i64 0, .string noB, .int .i64 6, .int .i64 (-5), .int .i64 0, .int .i64 0, .string noB, .int .i64 4, .int .i64 0, .int .i64 0, .int .i64 0, .string sy1, .int .i64 5, .int .i64 20, .int .i64 0, .int .i64 0, .string noB] : Array Value).toList from rfl, Array.getElem?_toList]))
  have DT := Lib.hid (tidy_any (some ⟨w.heap.size, 0, none⟩) toldM 6 V1 hrow toldM_text)
  rw [toldM_tidy, toldM_chk, show toldM.length = 6 from rfl] at DT
  have HV1 := Lib.hid hV1
  have HB1 := Lib.hid hb1
  clear hV1 hb1 hs1 hl1 hrow
  unfold noB sy1 at *
  go_enter Try.func11, Try.ntmps11
  go_wp2_with fail
  rw [HV1.out]
  refine DT.out.mono ?_
  rintro e w1 ⟨⟨v, rfl, ho⟩, hb⟩
  obtain ⟨a1, c1, rfl, _, hr1, _⟩ := ho.row
  obtain ⟨V2, hV2, hb2, hs2, hl2⟩ := alloc_cells w1 #[.int .i64 5, .int .i64 30, .int .i64 0, .int .i64 0, .string ⟨#[]⟩] 28
  have hrow2 : ERow V2 (some ⟨w1.heap.size, 0, none⟩) [⟨5, 30, 0, 0, ⟨#[]⟩⟩] := .mk2 (by omega) (fun i v hv => hl2 i v (by
    rw [← hv]
    show _ = ([⟨5, 30, 0, 0, ⟨#[]⟩⟩].flatMap edC)[i]?
    rw [show [⟨5, 30, 0, 0, ⟨#[]⟩⟩].flatMap edC = (#[.int .i64 5, .int .i64 30, .int .i64 0, .int .i64 0, .string ⟨#[]⟩] : Array Value).toList from rfl, Array.getElem?_toList]))
  have DQ := Lib.hid (equalE_any [⟨5, 30, 0, 0, ⟨#[]⟩⟩] [⟨5, 30, 0, 0, ⟨#[]⟩⟩] a1 (some ⟨w1.heap.size, 0, none⟩) c1 1 V2 (hr1.below hb2) hrow2 (by simp))
  rw [eqEs_self] at DQ
  simp only [List.length_singleton] at DQ
  have HB2 := Lib.hid (below_step (below_step HB1.out hb) hb2)
  have HV2 := Lib.hid hV2
  clear ho hb hr1 hV2 hb2 hs2 hl2 hrow2 DT
  simp only [List.length_singleton]
  go_wp2_with fail
  rw [HV2.out]
  refine DQ.out.mono ?_
  rintro e w3 ⟨rfl, q, rfl⟩
  go_wp2_with fail
  go_ret
  exact ⟨rfl, below_drewN HB2.out q⟩
end Go.Proofs.Ytckjdpnmalkpnaa

/- TrailFitMatchesSpec, TrailFitFollowsClocks: the walks. (printed by wip/t/gen_tfo.py) -/
namespace Go.Proofs.Ytckjdpnmalkpnaa
open Go.RowKit Go.BigFrame
open Tr (inR)
open Ft (Mt)

set_option maxHeartbeats 1000000 in
theorem eqMt_self (x : Mt) (w : World) : (Op.equalIn 10000 37 (mtV x) (mtV x)).run Try.prog w = .ok true w := by
  have u3 := Try.underlying3
  have a3 := Try.isAgg3
  have z3 := Try.sizeOf3
  have hS : Try.prog.underlying 37 = some (.struct (Try.prog.fieldsOf 37)) := by kernel_rfl
  have hp : Try.prog.stoodInHeld 37 = false := by kernel_rfl
  obtain ⟨a, b, c⟩ := x
  unfold mtV
  simp only
  rw [show (10000 : Nat) = 9999 + 1 from rfl, run_equalIn_agg w 9999 37 _ _ hS hp]
  simp only [Program.fieldsOf, Try.underlying37]
  have h1 : (a == a) = true := by simp
  have h2 : (b == b) = true := by simp
  have h3 : (c == c) = true := by simp
  go_simp
/-- two recordings, boxed -/
theorem box_two (A B : Acv) (a b c a' b' c' : Option Addr) (ca cb cc ca' cb' cc' na m2 m3 nb m2' m3' : Nat) (w : World) : ∃ V1,
    (w.alloc (.cells #[.string A.name, .int .i64 A.sport, .int .i64 A.start, .slice a na ca, .slice b m2 cb, .slice c m3 cc] 35)).alloc (.cells #[.string B.name, .int .i64 B.sport, .int .i64 B.start, .slice a' nb ca', .slice b' m2' cb', .slice c' m3' cc'] 35) = V1 ∧ Below w.heap.size w V1 ∧ w.heap.size + 2 = V1.heap.size ∧
    (∀ i v, (#[.string A.name, .int .i64 A.sport, .int .i64 A.start, .slice a na ca, .slice b m2 cb, .slice c m3 cc] : Array Value)[i]? = some v → V1.cell? ⟨w.heap.size, i, none⟩ = some v) ∧
    (∀ i v, (#[.string B.name, .int .i64 B.sport, .int .i64 B.start, .slice a' nb ca', .slice b' m2' cb', .slice c' m3' cc'] : Array Value)[i]? = some v → V1.cell? ⟨w.heap.size + 1, i, none⟩ = some v) := by
  obtain ⟨V0, hV0, hb0, hs0, hl0⟩ := alloc_cells w #[.string A.name, .int .i64 A.sport, .int .i64 A.start, .slice a na ca, .slice b m2 cb, .slice c m3 cc] 35
  obtain ⟨V1, hV1, hb1, hs1, hl1⟩ := alloc_cells V0 #[.string B.name, .int .i64 B.sport, .int .i64 B.start, .slice a' nb ca', .slice b' m2' cb', .slice c' m3' cc'] 35
  rw [hs0] at hl1
  exact ⟨V1, by rw [hV0, hV1], below_step hb0 hb1, by omega, fun i v h => below_cell hb1 (hl0 i v h), hl1⟩
set_option maxHeartbeats 4000000 in
set_option maxRecDepth 100000 in
theorem fit_law (A B : Acv) (a b c a' b' c' : Option Addr) (ca cb cc ca' cb' cc' : Nat) (most least : Int) (w : World) (hA : ActIn w A a b c) (hB : ActIn w B a' b' c') :
    Calls Try.prog 4 #[actV A a b c ca cb cc, actV B a' b' c' ca' cb' cc', .int .i64 most, .int .i64 least] w fun e w' => e = .returned (.bool true) ∧ Below w.heap.size w w' := by
  have D1 := fun (W : World) (hb : Below w.heap.size w W) => Fit_any A B a b c a' b' c' ca cb cc ca' cb' cc' most least W (hA.below hb) (hB.below hb)
  have D2 := fun (W : World) (hb : Below w.heap.size w W) => rFit_any A B a b c a' b' c' ca cb cc ca' cb' cc' most least W (hA.below hb) (hB.below hb)
  unfold FitRet at D1 D2
  generalize (fitO A B most least).getD mt0 = m at *
  generalize (fitO A B most least).isSome = bl at *
  generalize fitE A B most least = er at *
  clear hA hB
  unfold actV at *
  generalize A.sm.length = na at *
  generalize A.lp.length = m2 at *
  generalize A.tg.length = m3 at *
  generalize B.sm.length = nb at *
  generalize B.lp.length = m2' at *
  generalize B.tg.length = m3' at *
  obtain ⟨V1, hV1, hb1, hs1, hl0, hl1⟩ := box_two A B a b c a' b' c' ca cb cc ca' cb' cc' na m2 m3 nb m2' m3' w
  have A0 := Ext.ex (hl0 0 _ rfl)
  have A1 := Ext.ex (hl0 1 _ rfl)
  have A2 := Ext.ex (hl0 2 _ rfl)
  have A3 := Ext.ex (hl0 3 _ rfl)
  have A4 := Ext.ex (hl0 4 _ rfl)
  have A5 := Ext.ex (hl0 5 _ rfl)
  have B0 := Ext.ex (hl1 0 _ rfl)
  have B1 := Ext.ex (hl1 1 _ rfl)
  have B2 := Ext.ex (hl1 2 _ rfl)
  have B3 := Ext.ex (hl1 3 _ rfl)
  have B4 := Ext.ex (hl1 4 _ rfl)
  have B5 := Ext.ex (hl1 5 _ rfl)
  have D1 := Lib.hid (fun (X : Ext V1) => D1 X.1 (below_step hb1 X.2))
  have D2 := Lib.hid (fun (X : Ext V1) => D2 X.1 (below_step hb1 X.2))
  have HB := Lib.hid hb1
  have HS := Lib.hid (show w.heap.size ≤ V1.heap.size by omega)
  have HV1 := Lib.hid hV1
  have hq : ∀ W, (Op.equalIn 10000 37 (mtV m) (mtV m)).run Try.prog W = .ok true W := fun W => eqMt_self m W
  have hgd : Try.prog.eqGuardType Try.prog.depth 37 = false := by kernel_rfl
  have be : (er == er) = true := by simp
  have bb : (bl == bl) = true := by simp
  clear hV1 hb1 hs1 hl0 hl1
  unfold mtV at *
  go_enter Try.func4, Try.ntmps4
  go_upto_region 1 with (fail)
  rw [HV1.out]
  refine ext_wp fun X => ?_
  go_wp2_with fail
  refine (D1.out X).mono ?_
  rintro e w1 ⟨rfl, hb⟩
  obtain ⟨Y1, rfl⟩ : ∃ Y : Ext V1, w1 = Y.1 := ⟨⟨w1, below_step X.2 hb⟩, rfl⟩
  clear hb
  obtain ⟨W1, hW, hwb, hws, hwl⟩ := alloc_mt Y1.1 m
  obtain ⟨T1, hT⟩ : ∃ T, Y1.1.heap.size = T := ⟨_, rfl⟩
  rw [hT] at hwl
  have HM1 := Lib.hid hwl
  obtain ⟨X1, hX⟩ : ∃ Z : Ext V1, W1 = Z.1 := ⟨⟨W1, below_step Y1.2 hwb⟩, rfl⟩
  have HW1 := Lib.hid (hW.trans hX)
  have HT1 := Lib.hid hT
  rw [hX] at  HM1
  clear hW hwb hws hwl hX hT
  go_upto_region 2 with (fail)
  rw [HW1.out, HT1.out]
  go_wp2_with fail
  refine (D2.out X1).mono ?_
  rintro e w1 ⟨rfl, hb⟩
  have HM1b : Hid (MtB w1 T1 m) := Lib.hid (HM1.out.below hb)
  obtain ⟨Y2, rfl⟩ : ∃ Y : Ext V1, w1 = Y.1 := ⟨⟨w1, below_step X1.2 hb⟩, rfl⟩
  clear hb
  obtain ⟨W2, hW, hwb, hws, hwl⟩ := alloc_mt Y2.1 m
  obtain ⟨T2, hT⟩ : ∃ T, Y2.1.heap.size = T := ⟨_, rfl⟩
  rw [hT] at hwl
  have HM1 := Lib.hid (HM1b.out.below hwb)
  have HM2 := Lib.hid hwl
  obtain ⟨X2, hX⟩ : ∃ Z : Ext V1, W2 = Z.1 := ⟨⟨W2, below_step Y2.2 hwb⟩, rfl⟩
  have HW2 := Lib.hid (hW.trans hX)
  have HT2 := Lib.hid hT
  rw [hX] at HM1 HM2
  clear hW hwb hws hwl hX hT
  go_upto_region 3 with (fail)
  rw [HW2.out, HT2.out]
  obtain ⟨p0, p1, p2⟩ := HM1.out.cell
  obtain ⟨q0, q1, q2⟩ := HM2.out.cell
  clear D1 D2
  go_wp2_with fail
  refine (told2_any _).mono ?_
  rintro e w6 ⟨rfl, hb6⟩
  have HB6 := Lib.hid (below_step (below_step HB.out X2.2) hb6)
  clear hb6
  go_wp2_with fail
  go_ret
  exact ⟨rfl, HB6.out⟩
theorem fitE_zero {A B : Acv} {most least : Int} (h : fitE A B most least = 0) : chkA A = 0 ∧ chkA B = 0 ∧ A.sm.length ≤ 400 ∧ B.sm.length ≤ 400 ∧ bndE most least = 0 := by
  unfold fitE at h
  by_cases h1 : chkA A = 0
  · rw [if_neg (fun g => g h1)] at h
    by_cases h2 : chkA B = 0
    · rw [if_neg (fun g => g h2)] at h
      split at h
      · cases h
      · exact ⟨h1, h2, by omega, by omega, h⟩
    · rw [if_pos h2] at h
      exact absurd h h2
  · rw [if_pos h1] at h
    exact absurd h h1
theorem fold_later (A : Acv) (bs s d : Int) (l : List Sm) : ∀ m m' : Mt, m.many = m'.many → m.sum = m'.sum → (l.foldl (mtStep A (bs + d) (s + d)) m).many = (l.foldl (mtStep A bs s) m').many ∧ (l.foldl (mtStep A (bs + d) (s + d)) m).sum = (l.foldl (mtStep A bs s) m').sum := by
  induction l with
  | nil => exact fun m m' h1 h2 => ⟨h1, h2⟩
  | cons x l ih =>
    intro m m' h1 h2
    rw [List.foldl_cons, List.foldl_cons]
    have e : secOf A (bs + d) (s + d) x = secOf A bs s x := by unfold secOf; omega
    apply ih
    · unfold mtStep
      rw [e]
      split
      · exact h1
      · split
        · simp only; omega
        · exact h1
    · unfold mtStep
      rw [e]
      split
      · exact h2
      · split
        · simp only; omega
        · exact h2
theorem follows_facts {A B : Acv} {most least d cs : Int} (hcs : IntKind.i64.wrap (B.start + d) = cs) (hd0 : 0 ≤ d) (hd1 : d ≤ 1000) (hm1 : most ≤ 1000) (h1 : fitE A B most least = 0) (h3 : (fitO A B most least).isSome = true) (h2 : fitE A { B with start := cs } (most + d) least = 0) :
    (fitO A { B with start := cs } (most + d) least).isSome = true ∧ MtOk ((fitO A B most least).getD mt0) ∧ MtOk ((fitO A { B with start := cs } (most + d) least).getD mt0) ∧
    ((fitO A { B with start := cs } (most + d) least).getD mt0).sum * ((fitO A B most least).getD mt0).many ≤ ((fitO A B most least).getD mt0).sum * ((fitO A { B with start := cs } (most + d) least).getD mt0).many ∧
    -most - d ≤ ((fitO A { B with start := cs } (most + d) least).getD mt0).shift ∧ ((fitO A { B with start := cs } (most + d) least).getD mt0).shift ≤ most + d ∧ least ≤ ((fitO A { B with start := cs } (most + d) least).getD mt0).many := by
  obtain ⟨a1, a2, a3, a4, a5⟩ := fitE_zero h1
  obtain ⟨⟨b1, b2⟩, b3, b4⟩ := bndE_zero a5
  obtain ⟨s1, s2⟩ := chkA_start a2
  have hc : cs = B.start + d := by
    rw [← hcs, IntKind.wrap_i64]
    omega
  subst hc
  clear hcs
  have e1 : fitO A B most least = Ft.fitM (shiftedF A B) most least := if_pos h1
  have e2 : fitO A { B with start := B.start + d } (most + d) least = Ft.fitM (shiftedF A { B with start := B.start + d }) (most + d) least := if_pos h2
  rw [e1] at h3 ⊢
  rw [e2]
  cases hm : Ft.fitM (shiftedF A B) most least with
  | none => rw [hm] at h3; cases h3
  | some m =>
    obtain ⟨n, hn, c1, c2, s, c3, c4, c5⟩ := Ft.follows (D := shiftedF A B) (D' := shiftedF A { B with start := B.start + d }) b3 b1 hd0 (fun s => fold_later A B.start s d B.sm ⟨s + d, 0, 0⟩ ⟨s, 0, 0⟩ rfl rfl) hm
    obtain ⟨⟨s', d1, d2, d3⟩, _, _⟩ := (Ft.fitM_best b3 b1).some_ m hm
    rw [hn]
    simp only [Option.getD_some, Option.isSome_some]
    have hs := (shiftedF_at A { B with start := B.start + d } s).s
    refine ⟨trivial, ?_, ?_, c1, ?_, ?_, c2⟩
    · rw [d3]
      exact (shiftedF_at A B s').ok a4 (by omega) (by omega)
    · rw [c5]
      exact (shiftedF_at A { B with start := B.start + d } s).ok a4 (by omega) (by omega)
    · rw [c5, hs]; exact c3
    · rw [c5, hs]; exact c4
set_option maxHeartbeats 16000000 in
set_option maxRecDepth 100000 in
theorem follows_law (A B : Acv) (a b c a' b' c' : Option Addr) (ca cb cc ca' cb' cc' : Nat) (most least d : Int) (w : World) (hA : ActIn w A a b c) (hB : ActIn w B a' b' c') :
    Calls Try.prog 5 #[actV A a b c ca cb cc, actV B a' b' c' ca' cb' cc', .int .i64 most, .int .i64 least, .int .i64 d] w fun e w' => e = .returned (.bool true) ∧ Below w.heap.size w w' := by
  obtain ⟨cs, hcs⟩ : ∃ c, IntKind.i64.wrap (B.start + d) = c := ⟨_, rfl⟩
  have D1 := fun (W : World) (hb : Below w.heap.size w W) => Fit_any A B a b c a' b' c' ca cb cc ca' cb' cc' most least W (hA.below hb) (hB.below hb)
  have D2 := fun (W : World) (hb : Below w.heap.size w W) => Fit_any A { B with start := cs } a b c a' b' c' ca cb cc ca' cb' cc' (most + d) least W (hA.below hb) ⟨(hB.below hb).sm, (hB.below hb).lp, (hB.below hb).tg, hB.name, hB.titles, hB.tags, hB.nsm, hB.nlp, hB.ntg⟩
  unfold FitRet at D1 D2
  have HFF := Lib.hid (fun (hd0 : 0 ≤ d) (hd1 : d ≤ 1000) (hm1 : most ≤ 1000) => follows_facts (A := A) (B := B) (most := most) (least := least) hcs hd0 hd1 hm1)
  generalize (fitO A B most least).getD mt0 = m at *
  generalize (fitO A B most least).isSome = bl at *
  generalize fitE A B most least = er at *
  generalize (fitO A { B with start := cs } (most + d) least).getD mt0 = n at *
  generalize (fitO A { B with start := cs } (most + d) least).isSome = bl2 at *
  generalize fitE A { B with start := cs } (most + d) least = er2 at *
  clear hA hB
  unfold actV at *
  generalize A.sm.length = na at *
  generalize A.lp.length = m2 at *
  generalize A.tg.length = m3 at *
  generalize B.sm.length = nb at *
  generalize B.lp.length = m2' at *
  generalize B.tg.length = m3' at *
  obtain ⟨V1, hV1, hb1, hs1, hl0, hl1⟩ := box_two A B a b c a' b' c' ca cb cc ca' cb' cc' na m2 m3 nb m2' m3' w
  have A0 := Ext.ex (hl0 0 _ rfl)
  have A1 := Ext.ex (hl0 1 _ rfl)
  have A2 := Ext.ex (hl0 2 _ rfl)
  have A3 := Ext.ex (hl0 3 _ rfl)
  have A4 := Ext.ex (hl0 4 _ rfl)
  have A5 := Ext.ex (hl0 5 _ rfl)
  have B0 := Ext.ex (hl1 0 _ rfl)
  have B1 := Ext.ex (hl1 1 _ rfl)
  have B2 := Ext.ex (hl1 2 _ rfl)
  have B3 := Ext.ex (hl1 3 _ rfl)
  have B4 := Ext.ex (hl1 4 _ rfl)
  have B5 := Ext.ex (hl1 5 _ rfl)
  have D1 := Lib.hid (fun (X : Ext V1) => D1 X.1 (below_step hb1 X.2))
  have D2 := Lib.hid (fun (X : Ext V1) => D2 X.1 (below_step hb1 X.2))
  have HB := Lib.hid hb1
  have HS := Lib.hid (show w.heap.size ≤ V1.heap.size by omega)
  have HV1 := Lib.hid hV1
  clear hV1 hb1 hs1 hl0 hl1
  unfold mtV at *
  simp only at D2
  by_cases g0 : d < 0
  case pos =>
    have x0 : decide (d < 0) = true := decide_eq_true g0
    clear D1 D2 HFF
    go_enter Try.func5, Try.ntmps5
    go_upto_region 1 with (fail)
    rw [HV1.out]
    refine ext_wp fun X => ?_
    go_wp2_with fail
    refine (told2_any _).mono ?_
    rintro e w6 ⟨rfl, hb6⟩
    have HB6 := Lib.hid (below_step (below_step HB.out X.2) hb6)
    clear hb6
    go_wp2_with fail
    go_ret
    exact ⟨rfl, HB6.out⟩
  have x0 : decide (d < 0) = false := decide_eq_false g0
  by_cases g1 : 1000 < d
  case pos =>
    have x1 : decide ((1000 : Int) < d) = true := decide_eq_true g1
    clear D1 D2 HFF
    go_enter Try.func5, Try.ntmps5
    go_upto_region 1 with (fail)
    rw [HV1.out]
    refine ext_wp fun X => ?_
    go_wp2_with fail
    refine (told2_any _).mono ?_
    rintro e w6 ⟨rfl, hb6⟩
    have HB6 := Lib.hid (below_step (below_step HB.out X.2) hb6)
    clear hb6
    go_wp2_with fail
    go_ret
    exact ⟨rfl, HB6.out⟩
  have x1 : decide ((1000 : Int) < d) = false := decide_eq_false g1
  by_cases g2 : most < 0
  case pos =>
    have x2 : decide (most < 0) = true := decide_eq_true g2
    clear D1 D2 HFF
    go_enter Try.func5, Try.ntmps5
    go_upto_region 1 with (fail)
    rw [HV1.out]
    refine ext_wp fun X => ?_
    go_wp2_with fail
    refine (told2_any _).mono ?_
    rintro e w6 ⟨rfl, hb6⟩
    have HB6 := Lib.hid (below_step (below_step HB.out X.2) hb6)
    clear hb6
    go_wp2_with fail
    go_ret
    exact ⟨rfl, HB6.out⟩
  have x2 : decide (most < 0) = false := decide_eq_false g2
  by_cases g3 : 1000 < most
  case pos =>
    have x3 : decide ((1000 : Int) < most) = true := decide_eq_true g3
    clear D1 D2 HFF
    go_enter Try.func5, Try.ntmps5
    go_upto_region 1 with (fail)
    rw [HV1.out]
    refine ext_wp fun X => ?_
    go_wp2_with fail
    refine (told2_any _).mono ?_
    rintro e w6 ⟨rfl, hb6⟩
    have HB6 := Lib.hid (below_step (below_step HB.out X.2) hb6)
    clear hb6
    go_wp2_with fail
    go_ret
    exact ⟨rfl, HB6.out⟩
  have x3 : decide ((1000 : Int) < most) = false := decide_eq_false g3
  have HFF := Lib.hid (HFF.out (by omega) (by omega) (by omega))
  by_cases k1 : er = 0
  case neg =>
    have y1 := bneT k1
    clear k1 HFF
    go_enter Try.func5, Try.ntmps5
    go_upto_region 1 with (fail)
    rw [HV1.out]
    refine ext_wp fun X => ?_
    go_wp2_with fail
    refine (D1.out X).mono ?_
    rintro e w1 ⟨rfl, hb⟩
    obtain ⟨Y1, rfl⟩ : ∃ Y : Ext V1, w1 = Y.1 := ⟨⟨w1, below_step X.2 hb⟩, rfl⟩
    clear hb
    obtain ⟨W1, hW, hwb, hws, hwl⟩ := alloc_mt Y1.1 m
    obtain ⟨T1, hT⟩ : ∃ T, Y1.1.heap.size = T := ⟨_, rfl⟩
    rw [hT] at hwl
    have HM1 := Lib.hid hwl
    obtain ⟨X1, hX⟩ : ∃ Z : Ext V1, W1 = Z.1 := ⟨⟨W1, below_step Y1.2 hwb⟩, rfl⟩
    have HW1 := Lib.hid (hW.trans hX)
    have HT1 := Lib.hid hT
    rw [hX] at  HM1
    clear hW hwb hws hwl hX hT
    go_upto_region 4 with (fail)
    rw [HW1.out, HT1.out]
    obtain ⟨W3, hW, hwb, hws, hwl⟩ := alloc_cells X1.1 #[.string B.name, .int .i64 B.sport, .int .i64 B.start, .slice a' nb ca', .slice b' m2' cb', .slice c' m3' cc'] 35
    have hblk : W3.heap[X1.1.heap.size]? = some (.cells #[.string B.name, .int .i64 B.sport, .int .i64 B.start, .slice a' nb ca', .slice b' m2' cb', .slice c' m3' cc'] 35 (0, 0)) := hW ▸ heap_alloc_new X1.1 _
    obtain ⟨T3, hT⟩ : ∃ T, X1.1.heap.size = T := ⟨_, rfl⟩
    rw [hT] at hblk hwl
    have hT1T : ¬ T1 = T3 := by have := HM1.out.lt; omega
    have HM1 := Lib.hid (HM1.out.below hwb)
    have HW3 := Lib.hid hW
    have HT3 := Lib.hid hT
    have HL3 := Lib.hid (show V1.heap.size ≤ T3 from by have := X1.2.size; omega)
    have B3_ := Lib.hid (below_step X1.2 hwb)
    clear hW
    go_upto_region 5 with (fail)
    rw [HW3.out]
    have u2 := hwl 2 _ rfl
    have f2 : W3.frozen? ⟨T3, 2, none⟩ = false := by simp [World.frozen?, hblk]
    obtain ⟨W4, hW4⟩ : ∃ W, W3.setCell ⟨T3, 2, none⟩ (.int .i64 cs) = W := ⟨_, rfl⟩
    have hk4 : Kept (fun b => b = T3) W3 W4 := hW4 ▸ keep_set rfl
    have hcell : W4.heap[T3]? = some (.cells #[.string B.name, .int .i64 B.sport, .int .i64 cs, .slice a' nb ca', .slice b' m2' cb', .slice c' m3' cc'] 35 (0, 0)) := hW4 ▸ set_cells hblk
    have HM1 := Lib.hid (HM1.out.kept hk4 hT1T)
    have HW4 := Lib.hid hW4
    have HK4 := Lib.hid (show Below V1.heap.size V1 W4 from Kept.below B3_.out hk4 B3_.out.size (fun k hk e => by have := HL3.out; omega))
    obtain ⟨X4, hX4⟩ : ∃ Z : Ext V1, W4 = Z.1 := ⟨⟨W4, HK4.out⟩, rfl⟩
    clear hW4 hwb hws hwl hT hT1T
    go_upto_region 6 with (fail)
    rw [HW4.out, hX4]
    rw [hX4] at HM1 hcell
    have C0 : X4.1.cell? ⟨T3, 0, none⟩ = some (.string B.name) := by simp [World.cell?, hcell]
    have C1 : X4.1.cell? ⟨T3, 1, none⟩ = some (.int .i64 B.sport) := by simp [World.cell?, hcell]
    have C2 : X4.1.cell? ⟨T3, 2, none⟩ = some (.int .i64 cs) := by simp [World.cell?, hcell]
    have C3 : X4.1.cell? ⟨T3, 3, none⟩ = some (.slice a' nb ca') := by simp [World.cell?, hcell]
    have C4 : X4.1.cell? ⟨T3, 4, none⟩ = some (.slice b' m2' cb') := by simp [World.cell?, hcell]
    have C5 : X4.1.cell? ⟨T3, 5, none⟩ = some (.slice c' m3' cc') := by simp [World.cell?, hcell]
    clear hcell hX4 hk4 hblk u2 f2
    go_wp2_with fail
    refine (D2.out X4).mono ?_
    rintro e w1 ⟨rfl, hb⟩
    have HM1b : Hid (MtB w1 T1 m) := Lib.hid (HM1.out.below hb)
    obtain ⟨Y5, rfl⟩ : ∃ Y : Ext V1, w1 = Y.1 := ⟨⟨w1, below_step X4.2 hb⟩, rfl⟩
    clear hb
    obtain ⟨W5, hW, hwb, hws, hwl⟩ := alloc_mt Y5.1 n
    obtain ⟨T5, hT⟩ : ∃ T, Y5.1.heap.size = T := ⟨_, rfl⟩
    rw [hT] at hwl
    have HM1 := Lib.hid (HM1b.out.below hwb)
    have HM5 := Lib.hid hwl
    obtain ⟨X5, hX⟩ : ∃ Z : Ext V1, W5 = Z.1 := ⟨⟨W5, below_step Y5.2 hwb⟩, rfl⟩
    have HW5 := Lib.hid (hW.trans hX)
    have HT5 := Lib.hid hT
    rw [hX] at HM1 HM5
    clear hW hwb hws hwl hX hT
    go_upto_region 7 with (fail)
    rw [HW5.out, HT5.out]
    obtain ⟨p0, p1, p2⟩ := HM1.out.cell
    obtain ⟨q0, q1, q2⟩ := HM5.out.cell
    clear D1 D2 C0 C1 C2 C3 C4 C5
    go_wp2_with fail
    refine (told2_any _).mono ?_
    rintro e w6 ⟨rfl, hb6⟩
    have HB6 := Lib.hid (below_step (below_step HB.out X5.2) hb6)
    clear hb6
    go_wp2_with fail
    go_ret
    exact ⟨rfl, HB6.out⟩
  have y1 := bneF k1
  by_cases k2 : er2 = 0
  case neg =>
    have y2 := bneT k2
    clear k1 k2 HFF
    go_enter Try.func5, Try.ntmps5
    go_upto_region 1 with (fail)
    rw [HV1.out]
    refine ext_wp fun X => ?_
    go_wp2_with fail
    refine (D1.out X).mono ?_
    rintro e w1 ⟨rfl, hb⟩
    obtain ⟨Y1, rfl⟩ : ∃ Y : Ext V1, w1 = Y.1 := ⟨⟨w1, below_step X.2 hb⟩, rfl⟩
    clear hb
    obtain ⟨W1, hW, hwb, hws, hwl⟩ := alloc_mt Y1.1 m
    obtain ⟨T1, hT⟩ : ∃ T, Y1.1.heap.size = T := ⟨_, rfl⟩
    rw [hT] at hwl
    have HM1 := Lib.hid hwl
    obtain ⟨X1, hX⟩ : ∃ Z : Ext V1, W1 = Z.1 := ⟨⟨W1, below_step Y1.2 hwb⟩, rfl⟩
    have HW1 := Lib.hid (hW.trans hX)
    have HT1 := Lib.hid hT
    rw [hX] at  HM1
    clear hW hwb hws hwl hX hT
    go_upto_region 4 with (fail)
    rw [HW1.out, HT1.out]
    obtain ⟨W3, hW, hwb, hws, hwl⟩ := alloc_cells X1.1 #[.string B.name, .int .i64 B.sport, .int .i64 B.start, .slice a' nb ca', .slice b' m2' cb', .slice c' m3' cc'] 35
    have hblk : W3.heap[X1.1.heap.size]? = some (.cells #[.string B.name, .int .i64 B.sport, .int .i64 B.start, .slice a' nb ca', .slice b' m2' cb', .slice c' m3' cc'] 35 (0, 0)) := hW ▸ heap_alloc_new X1.1 _
    obtain ⟨T3, hT⟩ : ∃ T, X1.1.heap.size = T := ⟨_, rfl⟩
    rw [hT] at hblk hwl
    have hT1T : ¬ T1 = T3 := by have := HM1.out.lt; omega
    have HM1 := Lib.hid (HM1.out.below hwb)
    have HW3 := Lib.hid hW
    have HT3 := Lib.hid hT
    have HL3 := Lib.hid (show V1.heap.size ≤ T3 from by have := X1.2.size; omega)
    have B3_ := Lib.hid (below_step X1.2 hwb)
    clear hW
    go_upto_region 5 with (fail)
    rw [HW3.out]
    have u2 := hwl 2 _ rfl
    have f2 : W3.frozen? ⟨T3, 2, none⟩ = false := by simp [World.frozen?, hblk]
    obtain ⟨W4, hW4⟩ : ∃ W, W3.setCell ⟨T3, 2, none⟩ (.int .i64 cs) = W := ⟨_, rfl⟩
    have hk4 : Kept (fun b => b = T3) W3 W4 := hW4 ▸ keep_set rfl
    have hcell : W4.heap[T3]? = some (.cells #[.string B.name, .int .i64 B.sport, .int .i64 cs, .slice a' nb ca', .slice b' m2' cb', .slice c' m3' cc'] 35 (0, 0)) := hW4 ▸ set_cells hblk
    have HM1 := Lib.hid (HM1.out.kept hk4 hT1T)
    have HW4 := Lib.hid hW4
    have HK4 := Lib.hid (show Below V1.heap.size V1 W4 from Kept.below B3_.out hk4 B3_.out.size (fun k hk e => by have := HL3.out; omega))
    obtain ⟨X4, hX4⟩ : ∃ Z : Ext V1, W4 = Z.1 := ⟨⟨W4, HK4.out⟩, rfl⟩
    clear hW4 hwb hws hwl hT hT1T
    go_upto_region 6 with (fail)
    rw [HW4.out, hX4]
    rw [hX4] at HM1 hcell
    have C0 : X4.1.cell? ⟨T3, 0, none⟩ = some (.string B.name) := by simp [World.cell?, hcell]
    have C1 : X4.1.cell? ⟨T3, 1, none⟩ = some (.int .i64 B.sport) := by simp [World.cell?, hcell]
    have C2 : X4.1.cell? ⟨T3, 2, none⟩ = some (.int .i64 cs) := by simp [World.cell?, hcell]
    have C3 : X4.1.cell? ⟨T3, 3, none⟩ = some (.slice a' nb ca') := by simp [World.cell?, hcell]
    have C4 : X4.1.cell? ⟨T3, 4, none⟩ = some (.slice b' m2' cb') := by simp [World.cell?, hcell]
    have C5 : X4.1.cell? ⟨T3, 5, none⟩ = some (.slice c' m3' cc') := by simp [World.cell?, hcell]
    clear hcell hX4 hk4 hblk u2 f2
    go_wp2_with fail
    refine (D2.out X4).mono ?_
    rintro e w1 ⟨rfl, hb⟩
    have HM1b : Hid (MtB w1 T1 m) := Lib.hid (HM1.out.below hb)
    obtain ⟨Y5, rfl⟩ : ∃ Y : Ext V1, w1 = Y.1 := ⟨⟨w1, below_step X4.2 hb⟩, rfl⟩
    clear hb
    obtain ⟨W5, hW, hwb, hws, hwl⟩ := alloc_mt Y5.1 n
    obtain ⟨T5, hT⟩ : ∃ T, Y5.1.heap.size = T := ⟨_, rfl⟩
    rw [hT] at hwl
    have HM1 := Lib.hid (HM1b.out.below hwb)
    have HM5 := Lib.hid hwl
    obtain ⟨X5, hX⟩ : ∃ Z : Ext V1, W5 = Z.1 := ⟨⟨W5, below_step Y5.2 hwb⟩, rfl⟩
    have HW5 := Lib.hid (hW.trans hX)
    have HT5 := Lib.hid hT
    rw [hX] at HM1 HM5
    clear hW hwb hws hwl hX hT
    go_upto_region 7 with (fail)
    rw [HW5.out, HT5.out]
    obtain ⟨p0, p1, p2⟩ := HM1.out.cell
    obtain ⟨q0, q1, q2⟩ := HM5.out.cell
    clear D1 D2 C0 C1 C2 C3 C4 C5
    go_wp2_with fail
    refine (told2_any _).mono ?_
    rintro e w6 ⟨rfl, hb6⟩
    have HB6 := Lib.hid (below_step (below_step HB.out X5.2) hb6)
    clear hb6
    go_wp2_with fail
    go_ret
    exact ⟨rfl, HB6.out⟩
  have y2 := bneF k2
  cases bl
  · clear k1 k2 HFF
    go_enter Try.func5, Try.ntmps5
    go_upto_region 1 with (fail)
    rw [HV1.out]
    refine ext_wp fun X => ?_
    go_wp2_with fail
    refine (D1.out X).mono ?_
    rintro e w1 ⟨rfl, hb⟩
    obtain ⟨Y1, rfl⟩ : ∃ Y : Ext V1, w1 = Y.1 := ⟨⟨w1, below_step X.2 hb⟩, rfl⟩
    clear hb
    obtain ⟨W1, hW, hwb, hws, hwl⟩ := alloc_mt Y1.1 m
    obtain ⟨T1, hT⟩ : ∃ T, Y1.1.heap.size = T := ⟨_, rfl⟩
    rw [hT] at hwl
    have HM1 := Lib.hid hwl
    obtain ⟨X1, hX⟩ : ∃ Z : Ext V1, W1 = Z.1 := ⟨⟨W1, below_step Y1.2 hwb⟩, rfl⟩
    have HW1 := Lib.hid (hW.trans hX)
    have HT1 := Lib.hid hT
    rw [hX] at  HM1
    clear hW hwb hws hwl hX hT
    go_upto_region 4 with (fail)
    rw [HW1.out, HT1.out]
    obtain ⟨W3, hW, hwb, hws, hwl⟩ := alloc_cells X1.1 #[.string B.name, .int .i64 B.sport, .int .i64 B.start, .slice a' nb ca', .slice b' m2' cb', .slice c' m3' cc'] 35
    have hblk : W3.heap[X1.1.heap.size]? = some (.cells #[.string B.name, .int .i64 B.sport, .int .i64 B.start, .slice a' nb ca', .slice b' m2' cb', .slice c' m3' cc'] 35 (0, 0)) := hW ▸ heap_alloc_new X1.1 _
    obtain ⟨T3, hT⟩ : ∃ T, X1.1.heap.size = T := ⟨_, rfl⟩
    rw [hT] at hblk hwl
    have hT1T : ¬ T1 = T3 := by have := HM1.out.lt; omega
    have HM1 := Lib.hid (HM1.out.below hwb)
    have HW3 := Lib.hid hW
    have HT3 := Lib.hid hT
    have HL3 := Lib.hid (show V1.heap.size ≤ T3 from by have := X1.2.size; omega)
    have B3_ := Lib.hid (below_step X1.2 hwb)
    clear hW
    go_upto_region 5 with (fail)
    rw [HW3.out]
    have u2 := hwl 2 _ rfl
    have f2 : W3.frozen? ⟨T3, 2, none⟩ = false := by simp [World.frozen?, hblk]
    obtain ⟨W4, hW4⟩ : ∃ W, W3.setCell ⟨T3, 2, none⟩ (.int .i64 cs) = W := ⟨_, rfl⟩
    have hk4 : Kept (fun b => b = T3) W3 W4 := hW4 ▸ keep_set rfl
    have hcell : W4.heap[T3]? = some (.cells #[.string B.name, .int .i64 B.sport, .int .i64 cs, .slice a' nb ca', .slice b' m2' cb', .slice c' m3' cc'] 35 (0, 0)) := hW4 ▸ set_cells hblk
    have HM1 := Lib.hid (HM1.out.kept hk4 hT1T)
    have HW4 := Lib.hid hW4
    have HK4 := Lib.hid (show Below V1.heap.size V1 W4 from Kept.below B3_.out hk4 B3_.out.size (fun k hk e => by have := HL3.out; omega))
    obtain ⟨X4, hX4⟩ : ∃ Z : Ext V1, W4 = Z.1 := ⟨⟨W4, HK4.out⟩, rfl⟩
    clear hW4 hwb hws hwl hT hT1T
    go_upto_region 6 with (fail)
    rw [HW4.out, hX4]
    rw [hX4] at HM1 hcell
    have C0 : X4.1.cell? ⟨T3, 0, none⟩ = some (.string B.name) := by simp [World.cell?, hcell]
    have C1 : X4.1.cell? ⟨T3, 1, none⟩ = some (.int .i64 B.sport) := by simp [World.cell?, hcell]
    have C2 : X4.1.cell? ⟨T3, 2, none⟩ = some (.int .i64 cs) := by simp [World.cell?, hcell]
    have C3 : X4.1.cell? ⟨T3, 3, none⟩ = some (.slice a' nb ca') := by simp [World.cell?, hcell]
    have C4 : X4.1.cell? ⟨T3, 4, none⟩ = some (.slice b' m2' cb') := by simp [World.cell?, hcell]
    have C5 : X4.1.cell? ⟨T3, 5, none⟩ = some (.slice c' m3' cc') := by simp [World.cell?, hcell]
    clear hcell hX4 hk4 hblk u2 f2
    go_wp2_with fail
    refine (D2.out X4).mono ?_
    rintro e w1 ⟨rfl, hb⟩
    have HM1b : Hid (MtB w1 T1 m) := Lib.hid (HM1.out.below hb)
    obtain ⟨Y5, rfl⟩ : ∃ Y : Ext V1, w1 = Y.1 := ⟨⟨w1, below_step X4.2 hb⟩, rfl⟩
    clear hb
    obtain ⟨W5, hW, hwb, hws, hwl⟩ := alloc_mt Y5.1 n
    obtain ⟨T5, hT⟩ : ∃ T, Y5.1.heap.size = T := ⟨_, rfl⟩
    rw [hT] at hwl
    have HM1 := Lib.hid (HM1b.out.below hwb)
    have HM5 := Lib.hid hwl
    obtain ⟨X5, hX⟩ : ∃ Z : Ext V1, W5 = Z.1 := ⟨⟨W5, below_step Y5.2 hwb⟩, rfl⟩
    have HW5 := Lib.hid (hW.trans hX)
    have HT5 := Lib.hid hT
    rw [hX] at HM1 HM5
    clear hW hwb hws hwl hX hT
    go_upto_region 7 with (fail)
    rw [HW5.out, HT5.out]
    obtain ⟨p0, p1, p2⟩ := HM1.out.cell
    obtain ⟨q0, q1, q2⟩ := HM5.out.cell
    clear D1 D2 C0 C1 C2 C3 C4 C5
    go_wp2_with fail
    refine (told2_any _).mono ?_
    rintro e w6 ⟨rfl, hb6⟩
    have HB6 := Lib.hid (below_step (below_step HB.out X5.2) hb6)
    clear hb6
    go_wp2_with fail
    go_ret
    exact ⟨rfl, HB6.out⟩
  · obtain ⟨rfl, hmo, hno, hle, hs1, hs2, hmn⟩ := HFF.out k1 rfl k2
    obtain ⟨e1, e2⟩ := hno.mul hmo
    obtain ⟨e3, e4⟩ := hmo.mul hno
    have v1 : decide (n.sum * m.many ≤ m.sum * n.many) = true := decide_eq_true hle
    have v2 : decide (-most - d ≤ n.shift) = true := decide_eq_true hs1
    have v3 : decide (n.shift ≤ most + d) = true := decide_eq_true hs2
    have v4 : decide (least ≤ n.many) = true := decide_eq_true hmn
    clear k1 k2 HFF hmo hno hle hs1 hs2 hmn
    go_enter Try.func5, Try.ntmps5
    go_upto_region 1 with (fail)
    rw [HV1.out]
    refine ext_wp fun X => ?_
    go_wp2_with fail
    refine (D1.out X).mono ?_
    rintro e w1 ⟨rfl, hb⟩
    obtain ⟨Y1, rfl⟩ : ∃ Y : Ext V1, w1 = Y.1 := ⟨⟨w1, below_step X.2 hb⟩, rfl⟩
    clear hb
    obtain ⟨W1, hW, hwb, hws, hwl⟩ := alloc_mt Y1.1 m
    obtain ⟨T1, hT⟩ : ∃ T, Y1.1.heap.size = T := ⟨_, rfl⟩
    rw [hT] at hwl
    have HM1 := Lib.hid hwl
    obtain ⟨X1, hX⟩ : ∃ Z : Ext V1, W1 = Z.1 := ⟨⟨W1, below_step Y1.2 hwb⟩, rfl⟩
    have HW1 := Lib.hid (hW.trans hX)
    have HT1 := Lib.hid hT
    rw [hX] at  HM1
    clear hW hwb hws hwl hX hT
    go_upto_region 4 with (fail)
    rw [HW1.out, HT1.out]
    obtain ⟨W3, hW, hwb, hws, hwl⟩ := alloc_cells X1.1 #[.string B.name, .int .i64 B.sport, .int .i64 B.start, .slice a' nb ca', .slice b' m2' cb', .slice c' m3' cc'] 35
    have hblk : W3.heap[X1.1.heap.size]? = some (.cells #[.string B.name, .int .i64 B.sport, .int .i64 B.start, .slice a' nb ca', .slice b' m2' cb', .slice c' m3' cc'] 35 (0, 0)) := hW ▸ heap_alloc_new X1.1 _
    obtain ⟨T3, hT⟩ : ∃ T, X1.1.heap.size = T := ⟨_, rfl⟩
    rw [hT] at hblk hwl
    have hT1T : ¬ T1 = T3 := by have := HM1.out.lt; omega
    have HM1 := Lib.hid (HM1.out.below hwb)
    have HW3 := Lib.hid hW
    have HT3 := Lib.hid hT
    have HL3 := Lib.hid (show V1.heap.size ≤ T3 from by have := X1.2.size; omega)
    have B3_ := Lib.hid (below_step X1.2 hwb)
    clear hW
    go_upto_region 5 with (fail)
    rw [HW3.out]
    have u2 := hwl 2 _ rfl
    have f2 : W3.frozen? ⟨T3, 2, none⟩ = false := by simp [World.frozen?, hblk]
    obtain ⟨W4, hW4⟩ : ∃ W, W3.setCell ⟨T3, 2, none⟩ (.int .i64 cs) = W := ⟨_, rfl⟩
    have hk4 : Kept (fun b => b = T3) W3 W4 := hW4 ▸ keep_set rfl
    have hcell : W4.heap[T3]? = some (.cells #[.string B.name, .int .i64 B.sport, .int .i64 cs, .slice a' nb ca', .slice b' m2' cb', .slice c' m3' cc'] 35 (0, 0)) := hW4 ▸ set_cells hblk
    have HM1 := Lib.hid (HM1.out.kept hk4 hT1T)
    have HW4 := Lib.hid hW4
    have HK4 := Lib.hid (show Below V1.heap.size V1 W4 from Kept.below B3_.out hk4 B3_.out.size (fun k hk e => by have := HL3.out; omega))
    obtain ⟨X4, hX4⟩ : ∃ Z : Ext V1, W4 = Z.1 := ⟨⟨W4, HK4.out⟩, rfl⟩
    clear hW4 hwb hws hwl hT hT1T
    go_upto_region 6 with (fail)
    rw [HW4.out, hX4]
    rw [hX4] at HM1 hcell
    have C0 : X4.1.cell? ⟨T3, 0, none⟩ = some (.string B.name) := by simp [World.cell?, hcell]
    have C1 : X4.1.cell? ⟨T3, 1, none⟩ = some (.int .i64 B.sport) := by simp [World.cell?, hcell]
    have C2 : X4.1.cell? ⟨T3, 2, none⟩ = some (.int .i64 cs) := by simp [World.cell?, hcell]
    have C3 : X4.1.cell? ⟨T3, 3, none⟩ = some (.slice a' nb ca') := by simp [World.cell?, hcell]
    have C4 : X4.1.cell? ⟨T3, 4, none⟩ = some (.slice b' m2' cb') := by simp [World.cell?, hcell]
    have C5 : X4.1.cell? ⟨T3, 5, none⟩ = some (.slice c' m3' cc') := by simp [World.cell?, hcell]
    clear hcell hX4 hk4 hblk u2 f2
    go_wp2_with fail
    refine (D2.out X4).mono ?_
    rintro e w1 ⟨rfl, hb⟩
    have HM1b : Hid (MtB w1 T1 m) := Lib.hid (HM1.out.below hb)
    obtain ⟨Y5, rfl⟩ : ∃ Y : Ext V1, w1 = Y.1 := ⟨⟨w1, below_step X4.2 hb⟩, rfl⟩
    clear hb
    obtain ⟨W5, hW, hwb, hws, hwl⟩ := alloc_mt Y5.1 n
    obtain ⟨T5, hT⟩ : ∃ T, Y5.1.heap.size = T := ⟨_, rfl⟩
    rw [hT] at hwl
    have HM1 := Lib.hid (HM1b.out.below hwb)
    have HM5 := Lib.hid hwl
    obtain ⟨X5, hX⟩ : ∃ Z : Ext V1, W5 = Z.1 := ⟨⟨W5, below_step Y5.2 hwb⟩, rfl⟩
    have HW5 := Lib.hid (hW.trans hX)
    have HT5 := Lib.hid hT
    rw [hX] at HM1 HM5
    clear hW hwb hws hwl hX hT
    go_upto_region 7 with (fail)
    rw [HW5.out, HT5.out]
    obtain ⟨p0, p1, p2⟩ := HM1.out.cell
    obtain ⟨q0, q1, q2⟩ := HM5.out.cell
    clear D1 D2 C0 C1 C2 C3 C4 C5
    go_wp2_with fail
    refine (told2_any _).mono ?_
    rintro e w6 ⟨rfl, hb6⟩
    have HB6 := Lib.hid (below_step (below_step HB.out X5.2) hb6)
    clear hb6
    go_wp2_with fail
    go_ret
    exact ⟨rfl, HB6.out⟩
end Go.Proofs.Ytckjdpnmalkpnaa

/- An activity that came in: how it reads. (printed by wip/t/gen_tfp.py) -/
namespace Go.Proofs.Ytckjdpnmalkpnaa
open Go.ChangeShapes Go.WideShapes Go.ChangeAt Go.RowKit Go.Deep

theorem laidOut : laidOutB Try.prog = true := by kernel_rfl
theorem readAct : Try.prog.readableRec 35 = true := by kernel_rfl
theorem rowAct : 35 < Try.prog.types.size := of_decide_eq_true (by kernel_rfl)
def intV : Value → Int
  | .int _ n => n
  | _ => 0
def strV : Value → ByteArray
  | .string s => s
  | _ => ByteArray.empty
theorem RowK.congr {w : World} {a : Option Addr} {len k : Nat} {V V' : Nat → List Value} (h : RowK w a len k V) (he : ∀ i, i < len → V i = V' i) : RowK w a len k V' :=
  ⟨fun h0 => by
    obtain ⟨b, off, e, hb, hc⟩ := h.here h0
    exact ⟨b, off, e, hb, fun i hi j hj => by rw [hc i hi j hj, he i hi]⟩⟩
section
variable {H : Type} {enc : TypeId × Value → H} {P : Program} {w : World} {base : Nat}
theorem field_str {V : List Value} {j : Nat} {t : TypeId} (ht : P.underlying t = some .string) (h : ∃ u n y, V[j]? = some u ∧ DataW.trod enc P w base (fun _ => true) true n t [u] = some y) :
    V[j]? = some (.string (strV (V.getD j (.bool false)))) ∧ (strV (V.getD j (.bool false))).size ≤ maxLen := by
  obtain ⟨u, n, y, hu, hd⟩ := h
  obtain ⟨s, e, _, hs⟩ := DataW.trod_string ht hd
  simp only [List.cons.injEq, and_true] at e
  subst e
  rw [List.getD_eq_getElem?_getD, hu]
  exact ⟨rfl, hs⟩
theorem field_int {V : List Value} {j : Nat} {t : TypeId} (ht : P.underlying t = some (.int .i64)) (h : ∃ u n y, V[j]? = some u ∧ DataW.trod enc P w base (fun _ => true) true n t [u] = some y) :
    V[j]? = some (.int .i64 (intV (V.getD j (.bool false)))) := by
  obtain ⟨u, n, y, hu, hd⟩ := h
  obtain ⟨s, e, _, hs⟩ := DataW.trod_int ht hd
  simp only [List.cons.injEq, and_true] at e
  subst e
  rw [List.getD_eq_getElem?_getD, hu]
  rfl
end
theorem list3 {V : List Value} {a b c : Value} (hl : V.length = 3) (h0 : V[0]? = some a) (h1 : V[1]? = some b) (h2 : V[2]? = some c) : V = [a, b, c] := by
  match V, hl with
  | [x, y, z], _ => simp at h0 h1 h2; rw [h0, h1, h2]
theorem list7 {V : List Value} {a b c d e f g : Value} (hl : V.length = 7) (h0 : V[0]? = some a) (h1 : V[1]? = some b) (h2 : V[2]? = some c) (h3 : V[3]? = some d) (h4 : V[4]? = some e) (h5 : V[5]? = some f) (h6 : V[6]? = some g) : V = [a, b, c, d, e, f, g] := by
  match V, hl with
  | [x0, x1, x2, x3, x4, x5, x6], _ => simp at h0 h1 h2 h3 h4 h5 h6; rw [h0, h1, h2, h3, h4, h5, h6]
theorem list6 {V : List Value} {a b c d e f : Value} (hl : V.length = 6) (h0 : V[0]? = some a) (h1 : V[1]? = some b) (h2 : V[2]? = some c) (h3 : V[3]? = some d) (h4 : V[4]? = some e) (h5 : V[5]? = some f) : V = [a, b, c, d, e, f] := by
  match V, hl with
  | [x0, x1, x2, x3, x4, x5], _ => simp at h0 h1 h2 h3 h4 h5; rw [h0, h1, h2, h3, h4, h5]
def smOf (V : List Value) : Sm := ⟨intV (V.getD 0 (.bool false)), intV (V.getD 1 (.bool false)), intV (V.getD 2 (.bool false)), intV (V.getD 3 (.bool false)), intV (V.getD 4 (.bool false)), intV (V.getD 5 (.bool false)), intV (V.getD 6 (.bool false))⟩
def lpOf (V : List Value) : Lp := ⟨intV (V.getD 0 (.bool false)), intV (V.getD 1 (.bool false)), strV (V.getD 2 (.bool false))⟩
theorem range_get {α : Type} (f : Nat → α) {n i : Nat} {x : α} (h : ((List.range n).map f)[i]? = some x) : i < n ∧ x = f i := by
  rw [List.getElem?_map] at h
  cases hr : (List.range n)[i]? with
  | none => rw [hr] at h; cases h
  | some y =>
    rw [hr] at h
    obtain ⟨h1, h2⟩ := List.getElem?_eq_some_iff.1 hr
    simp only [List.length_range] at h1
    simp only [List.getElem_range] at h2
    subst h2
    simp only [Option.map_some, Option.some.injEq] at h
    exact ⟨h1, h.symm⟩
theorem rw_of {α : Type} {C : α → List Value} {k : Nat} {w : World} {a : Option Addr} {n : Nat} {V : Nat → List Value} {f : Nat → α} (hC : ∀ x, (C x).length = k) (h : RowK w a n k V) (he : ∀ i, i < n → V i = C (f i)) : Rw C k w a ((List.range n).map f) := by
  refine ⟨fun hl => ?_⟩
  rw [List.length_map, List.length_range] at hl
  obtain ⟨b, off, e, hb, hc⟩ := h.here hl
  refine ⟨b, off, e, hb, fun i x hx j u hu => ?_⟩
  obtain ⟨hi, rfl⟩ := range_get f hx
  have hj : j < k := by have := (List.getElem?_eq_some_iff.1 hu).1; rwa [hC] at this
  rw [← hu, ← he i hi]
  exact hc i hi j hj
section
variable {H : Type} {enc : TypeId × Value → H} {P : Program} {w : World} {base : Nat}
theorem open_sms {t e : TypeId} (I : P.underlying t = some (.slice e)) {fs : Array Field} (hs : P.underlying e = some (.struct fs)) (hC : P.cellsOf e = fs.size) (h7 : fs.size = 7) (hone : ∀ (i : Nat) (f : Field), fs[i]? = some f → f.offset = i ∧ P.cellsOf f.type = 1)
    (hi : ∀ (j : Nat) (f : Field), fs[j]? = some f → P.underlying f.type = some (.int .i64)) {n : Nat} {v : Value} {y : DataW H × List MemPlace} (h : DataW.trod enc P w base (fun _ => true) true n t [v] = some y) :
    ∃ (l : List Sm) (a : Option Addr) (c : Nat), v = .slice a l.length c ∧ l.length ≤ c ∧ c ≤ maxLen ∧ Rw smC 7 w a l := by
  obtain ⟨a0, n0, c0, V0, rfl, l0, m0, R0, F0⟩ := open_rowK I hs hC (by omega) hone h
  rw [h7] at R0 F0
  refine ⟨(List.range n0).map fun i => smOf (V0 i), a0, c0, by rw [List.length_map, List.length_range], by rw [List.length_map, List.length_range]; exact l0, m0, rw_of (fun _ => rfl) R0 fun i hi' => ?_⟩
  have F := F0 i hi'
  have g : ∀ (j : Nat) (_ : j < 7), (V0 i)[j]? = some (.int .i64 (intV ((V0 i).getD j (.bool false)))) := fun j hj => by
    obtain ⟨f, hf⟩ : ∃ f, fs[j]? = some f := ⟨_, Array.getElem?_eq_getElem (by omega)⟩
    exact field_int (hi j f hf) (F.2 j f hf)
  exact list7 F.1 (g 0 (by omega)) (g 1 (by omega)) (g 2 (by omega)) (g 3 (by omega)) (g 4 (by omega)) (g 5 (by omega)) (g 6 (by omega))
theorem open_tags {t e : TypeId} (I : P.underlying t = some (.slice e)) (hs : P.underlying e = some .string) (hC : P.cellsOf e = 1) {n : Nat} {v : Value} {y : DataW H × List MemPlace} (h : DataW.trod enc P w base (fun _ => true) true n t [v] = some y) :
    ∃ (l : List ByteArray) (a : Option Addr) (c : Nat), v = .slice a l.length c ∧ l.length ≤ c ∧ c ≤ maxLen ∧ Rw tgC 1 w a l ∧ ∀ s, s ∈ l → s.size ≤ maxLen := by
  rcases open_slice I h with ⟨hc, _⟩ | ⟨a, len, cap, m, n', D, Pl, hc, _, hl, hm, hmm, _, hx⟩
  · simp only [List.cons.injEq, and_true] at hc
    exact ⟨[], none, 0, hc, Nat.le_refl _, Nat.zero_le _, ⟨fun h => absurd h (by simp)⟩, fun s hs => by cases hs⟩
  · simp only [List.cons.injEq, and_true] at hc
    simp only [if_true] at hmm
    subst hmm
    have each : ∀ i, i < m → ∃ s : ByteArray, w.cell? (a.add i) = some (.string s) ∧ s.size ≤ maxLen := by
      intro i hi
      obtain ⟨cs, h1, h2⟩ := hx i hi
      rw [hC] at h1
      obtain ⟨_, hlen, hcell⟩ := World.cells?_some h1
      obtain ⟨s, e1, _, hs1⟩ := DataW.trod_string hs h2
      have h3 := hcell 0 (by omega)
      rw [e1, add_add] at h3
      refine ⟨s, ?_, hs1⟩
      simpa using h3
    obtain ⟨V, hV⟩ := choose_lt each
    refine ⟨(List.range len).map V, some a, m, by rw [List.length_map, List.length_range]; exact hc, by rw [List.length_map, List.length_range]; exact hl, hm, ⟨fun hl0 => ?_⟩, fun s hs => ?_⟩
    · rw [List.length_map, List.length_range] at hl0
      obtain ⟨b, o, sp⟩ := a
      have h0 := (hV 0 (by omega)).1
      have hspot : sp = none := by simpa [Addr.add] using World.cell?_spot h0
      subst hspot
      refine ⟨b, o, rfl, by simpa [Addr.add] using World.block_lt_of_cell? w _ h0, fun i x hx' j u hu => ?_⟩
      obtain ⟨hi, rfl⟩ := range_get V hx'
      have hj : j < 1 := (List.getElem?_eq_some_iff.1 hu).1
      obtain rfl : j = 0 := by omega
      injection hu with hu
      subst hu
      have := (hV i (by omega)).1
      rw [add_plain] at this
      rw [Nat.mul_one, Nat.add_zero]
      exact this
    · obtain ⟨i, hi, rfl⟩ := List.mem_map.1 hs
      exact (hV i (by have := List.mem_range.1 hi; omega)).2
theorem open_lps {t e : TypeId} {f0 f1 f2 : Field} (I : P.underlying t = some (.slice e)) (hs : P.underlying e = some (.struct #[f0, f1, f2])) (hC : P.cellsOf e = 3) (hone : ∀ (i : Nat) (f : Field), (#[f0, f1, f2] : Array Field)[i]? = some f → f.offset = i ∧ P.cellsOf f.type = 1)
    (i0 : P.underlying f0.type = some (.int .i64)) (i1 : P.underlying f1.type = some (.int .i64)) (i2 : P.underlying f2.type = some .string) {n : Nat} {v : Value} {y : DataW H × List MemPlace} (h : DataW.trod enc P w base (fun _ => true) true n t [v] = some y) :
    ∃ (l : List Lp) (a : Option Addr) (c : Nat), v = .slice a l.length c ∧ l.length ≤ c ∧ c ≤ maxLen ∧ Rw lpC 3 w a l ∧ ∀ p, p ∈ l → p.s.size ≤ maxLen := by
  obtain ⟨a0, n0, c0, V0, rfl, l0, m0, R0, F0⟩ := open_rowK I hs hC (show 0 < 3 by decide) hone h
  have F : ∀ i, i < n0 → V0 i = lpC (lpOf (V0 i)) ∧ (lpOf (V0 i)).s.size ≤ maxLen := fun i hi =>
    ⟨list3 (F0 i hi).1 (field_int i0 ((F0 i hi).2 0 _ rfl)) (field_int i1 ((F0 i hi).2 1 _ rfl)) (field_str i2 ((F0 i hi).2 2 _ rfl)).1, (field_str i2 ((F0 i hi).2 2 _ rfl)).2⟩
  refine ⟨(List.range n0).map fun i => lpOf (V0 i), a0, c0, by rw [List.length_map, List.length_range], by rw [List.length_map, List.length_range]; exact l0, m0, rw_of (fun _ => rfl) R0 fun i hi => (F i hi).1, fun p hp => ?_⟩
  obtain ⟨i, hi, rfl⟩ := List.mem_map.1 hp
  exact (F i (List.mem_range.1 hi)).2
end
set_option maxRecDepth 100000 in
/-- six cells that read as an activity -/
theorem act_cells {H : Type} {enc : TypeId × Value → H} {W : World} {base : Nat} {V : List Value} (hl : V.length = 6) (F : ∀ (j : Nat) (f : Field), (Try.prog.fieldsOf 35)[j]? = some f → ∃ u n y, V[j]? = some u ∧ DataW.trod enc Try.prog W base (fun _ => true) true n f.type [u] = some y) :
    ∃ (A : Acv) (a b c : Option Addr) (ca cb cc : Nat), V = [.string A.name, .int .i64 A.sport, .int .i64 A.start, .slice a A.sm.length ca, .slice b A.lp.length cb, .slice c A.tg.length cc] ∧ ActIn W A a b c ∧ A.sm.length ≤ ca ∧ A.lp.length ≤ cb ∧ A.tg.length ≤ cc := by
  have S := Try.underlying9
  have I := Try.underlying3
  have hm : maxLen = 9223372036854775807 := rfl
  simp only [Program.fieldsOf, Try.underlying35] at F
  obtain ⟨e0, z0⟩ := field_str S (F 0 _ rfl)
  have e1 := field_int I (F 1 _ rfl)
  have e2 := field_int I (F 2 _ rfl)
  obtain ⟨u3, n3, y3, e3, t3⟩ := F 3 _ rfl
  obtain ⟨u4, n4, y4, e4, t4⟩ := F 4 _ rfl
  obtain ⟨u5, n5, y5, e5, t5⟩ := F 5 _ rfl
  obtain ⟨l, a, ca, rfl, la, ma, ra⟩ := open_sms (P := Try.prog) Try.underlying31 Try.underlying74 (by kernel_rfl) rfl (hone_of (by kernel_rfl)) (fun j f hf => by
    match j, hf with
    | 0, h => injection h with h; subst h; exact I
    | 1, h => injection h with h; subst h; exact I
    | 2, h => injection h with h; subst h; exact I
    | 3, h => injection h with h; subst h; exact I
    | 4, h => injection h with h; subst h; exact I
    | 5, h => injection h with h; subst h; exact I
    | 6, h => injection h with h; subst h; exact I
    | n + 7, h => cases h) t3
  obtain ⟨p, b, cb, rfl, lb, mb, rb, hb⟩ := open_lps (P := Try.prog) Try.underlying32 Try.underlying78 (by kernel_rfl) (hone_of (by kernel_rfl)) I I S t4
  obtain ⟨g, c, cc, rfl, lc, mc, rc, hc⟩ := open_tags (P := Try.prog) Try.underlying33 S (by kernel_rfl) t5
  refine ⟨⟨strV (V.getD 0 (.bool false)), intV (V.getD 1 (.bool false)), intV (V.getD 2 (.bool false)), l, p, g⟩, a, b, c, ca, cb, cc, list6 hl e0 e1 e2 e3 e4 e5, ⟨ra, rb, rc, z0, hb, hc, by show ((l.length : Nat) : Int) ≤ _; omega, by show ((p.length : Nat) : Int) ≤ _; omega, by show ((g.length : Nat) : Int) ≤ _; omega⟩, la, lb, lc⟩
set_option maxRecDepth 100000 in
theorem open_act {H : Type} {enc : TypeId × Value → H} {W : World} {r : Reach} {b0 base : Nat} {v : Value} {d : DataW H} {p : List MemPlace}
    (hv : Value.okWide Try.prog W r b0 35 v) (h : DataW.Trod enc Try.prog W base (fun _ => true) true 35 v d p) :
    ∃ (A : Acv) (a b c : Option Addr) (ca cb cc : Nat), v = actV A a b c ca cb cc ∧ ActIn W A a b c ∧ A.sm.length ≤ ca ∧ A.lp.length ≤ cb ∧ A.tg.length ≤ cc := by
  have hs := Try.underlying35
  obtain ⟨cs, rfl, hsz⟩ := okWide_struct hs hv
  have h6 : cs.size = 6 := hsz.trans (by kernel_rfl)
  obtain ⟨fuel, hf⟩ := h
  obtain ⟨xs, n, _, _, _, hlen, hg⟩ := DataW.trod_struct hs hf
  have hlen6 : xs.length = 6 := hlen
  have e : cs.toList.length = 6 := by simpa using h6
  have fld : ∀ (j : Nat) (f : Field), (Try.prog.fieldsOf 35)[j]? = some f → ∃ u n y, cs.toList[j]? = some u ∧ DataW.trod enc Try.prog W base (fun _ => true) true n f.type [u] = some y := fun j f hj => by
    simp only [Program.fieldsOf, Try.underlying35] at hj
    obtain ⟨o, k⟩ := hone_of (P := Try.prog) (by kernel_rfl) j f hj
    have h1 := hg j f hj
    rw [o, k] at h1
    have hlt : j < 6 := (Array.getElem?_eq_some_iff.1 hj).1
    have hjl : j < cs.toList.length := by omega
    have e1 : (cs.toList.drop j).take 1 = [cs.toList[j]] := by rw [List.drop_eq_getElem_cons hjl]; rfl
    rw [show (Value.agg cs).cells.toList = cs.toList from rfl, e1, List.getElem?_eq_getElem (by omega)] at h1
    exact ⟨_, _, _, List.getElem?_eq_getElem hjl, h1⟩
  obtain ⟨A, a, b, c, ca, cb, cc, he, ha, l1, l2, l3⟩ := act_cells e fld
  refine ⟨A, a, b, c, ca, cb, cc, ?_, ha, l1, l2, l3⟩
  unfold actV
  congr 1
  rw [← Array.toList_inj, he]
end Go.Proofs.Ytckjdpnmalkpnaa
