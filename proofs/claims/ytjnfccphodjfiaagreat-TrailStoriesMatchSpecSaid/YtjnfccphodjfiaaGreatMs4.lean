/- Several texts of this claim in one. -/
import Derived.Test.YtjnfccphodjfiaaGreatMs3
import Derived.Test.YtjnfccphodjfiaaGreatMs2
import Derived.Laws.OwnMore
import Derived.Laws.StructEq
import Derived.Deep.AppendLies
import Derived.Lib.AppendZeros
import Derived.Lib.SliceRun
import Derived.Test.YtjnfccphodjfiaaGreatShelf
import Derived.Lib.Bytealg
import Derived.Test.YtjnfccphodjfiaaGreatMs1
import Derived.Laws.IdiomCopy
import Derived.Deep.RegionLaw
import Derived.Laws.CopyOwn
import Derived.BigQuiet
namespace Go.Proofs.YtjnfccphodjfiaaGreat
set_option maxHeartbeats 8000000
set_option maxRecDepth 100000
open Go.RowKit Go.BigFrame
open Tr (inR)
def SmB (w : World) (g : Nat) (s : Sm) : Prop := w.heap[g]? = some (.cells #[.int .i64 s.tm, .int .i64 s.x, .int .i64 s.y, .int .i64 s.z, .int .i64 s.pu, .int .i64 s.po, .int .i64 s.st] 72 (0, 0))
theorem SmB.cell {w : World} {g : Nat} {s : Sm} (h : SmB w g s) : w.cell? ⟨g, 0, none⟩ = some (.int .i64 s.tm) ∧ w.cell? ⟨g, 1, none⟩ = some (.int .i64 s.x) ∧ w.cell? ⟨g, 2, none⟩ = some (.int .i64 s.y) ∧ w.cell? ⟨g, 3, none⟩ = some (.int .i64 s.z) ∧ w.cell? ⟨g, 4, none⟩ = some (.int .i64 s.pu) ∧ w.cell? ⟨g, 5, none⟩ = some (.int .i64 s.po) ∧ w.cell? ⟨g, 6, none⟩ = some (.int .i64 s.st) := by
 unfold SmB at h; simp [World.cell?, h]
theorem SmB.free {w : World} {g : Nat} {s : Sm} (h : SmB w g s) (i : Nat) : w.frozen? ⟨g, i, none⟩ = false := by
 unfold SmB at h; simp [World.frozen?, h]
theorem SmB.lt {w : World} {g : Nat} {s : Sm} (h : SmB w g s) : g < w.heap.size := lt_of_block h
theorem SmB.below {w w' : World} {g : Nat} {s : Sm} (h : SmB w g s) (hb : Below w.heap.size w w') : SmB w' g s := (hb.block g h.lt).trans h
theorem SmB.kept {O : Nat → Prop} {w w' : World} {g : Nat} {s : Sm} (h : SmB w g s) (hk : Kept O w w') (ho : ¬ O g) : SmB w' g s := (hk.block g h.lt ho).trans h
theorem set_cells {w : World} {b i : Nat} {cs : Array Value} {T : TypeId} {fz : Nat × Nat} {v : Value} (h : w.heap[b]? = some (.cells cs T fz)) : (w.setCell ⟨b, i, none⟩ v).heap[b]? = some (.cells (cs.setIfInBounds i v) T fz) := by
 simp [World.setCell, Array.getElem?_modify, h]
theorem keep_set {O : Nat → Prop} {a : World} {b i : Nat} {v : Value} (ho : O b) : Kept O a (a.setCell ⟨b, i, none⟩ v) := by
 refine ⟨rfl, rfl, rfl, Nat.le_of_eq (by simp [World.setCell]), fun k _ hn => Below.heap_setCell a ⟨b, i, none⟩ v k (fun e => hn (e ▸ ho))⟩
theorem SmB.set0 {w : World} {g : Nat} {s : Sm} (h : SmB w g s) (v : Int) : SmB (w.setCell ⟨g, 0, none⟩ (.int .i64 v)) g { s with tm := v } := set_cells h
theorem SmB.set1 {w : World} {g : Nat} {s : Sm} (h : SmB w g s) (v : Int) : SmB (w.setCell ⟨g, 1, none⟩ (.int .i64 v)) g { s with x := v } := set_cells h
theorem SmB.set2 {w : World} {g : Nat} {s : Sm} (h : SmB w g s) (v : Int) : SmB (w.setCell ⟨g, 2, none⟩ (.int .i64 v)) g { s with y := v } := set_cells h
theorem SmB.set3 {w : World} {g : Nat} {s : Sm} (h : SmB w g s) (v : Int) : SmB (w.setCell ⟨g, 3, none⟩ (.int .i64 v)) g { s with z := v } := set_cells h
theorem SmB.set4 {w : World} {g : Nat} {s : Sm} (h : SmB w g s) (v : Int) : SmB (w.setCell ⟨g, 4, none⟩ (.int .i64 v)) g { s with pu := v } := set_cells h
theorem SmB.set5 {w : World} {g : Nat} {s : Sm} (h : SmB w g s) (v : Int) : SmB (w.setCell ⟨g, 5, none⟩ (.int .i64 v)) g { s with po := v } := set_cells h
theorem SmB.set6 {w : World} {g : Nat} {s : Sm} (h : SmB w g s) (v : Int) : SmB (w.setCell ⟨g, 6, none⟩ (.int .i64 v)) g { s with st := v } := set_cells h
theorem SmB.store {w : World} {g : Nat} {s : Sm} (h : SmB w g s) (u : Sm) : ∃ W, (((((((w.setCell ⟨g, 0, none⟩ (.int .i64 u.tm)).setCell ⟨g, 1, none⟩ (.int .i64 u.x)).setCell ⟨g, 2, none⟩ (.int .i64 u.y)).setCell ⟨g, 3, none⟩ (.int .i64 u.z)).setCell ⟨g, 4, none⟩ (.int .i64 u.pu)).setCell ⟨g, 5, none⟩ (.int .i64 u.po)).setCell ⟨g, 6, none⟩ (.int .i64 u.st)) = W ∧ SmB W g u ∧ ∀ O : Nat → Prop, O g → Kept O w W :=
 ⟨_, rfl, (((((((h.set0 u.tm).set1 u.x).set2 u.y).set3 u.z).set4 u.pu).set5 u.po).set6 u.st), fun _ ho => ((((((keep_set ho).trans (keep_set ho)).trans (keep_set ho)).trans (keep_set ho)).trans (keep_set ho)).trans (keep_set ho)).trans (keep_set ho)⟩
theorem alloc_sm (w : World) (s : Sm) : ∃ W, w.alloc (.cells #[.int .i64 s.tm, .int .i64 s.x, .int .i64 s.y, .int .i64 s.z, .int .i64 s.pu, .int .i64 s.po, .int .i64 s.st] 72) = W ∧ Below w.heap.size w W ∧ W.heap.size = w.heap.size + 1 ∧ SmB W w.heap.size s :=
 ⟨_, rfl, below_al _ _, by simp, heap_alloc_new w _⟩
theorem smSize : Hid ((Tryz.prog.info? 72).map (·.size) = some 7) := qH (by kernel_rfl)
structure Btw (p q : Sm) (n : Int) : Prop where
 rp : rangeS p = true
 rq : rangeS q = true
 h0 : p.tm ≤ n
 h1 : n ≤ q.tm
 h2 : p.tm < q.tm
 h3 : 0 ≤ p.tm
 h4 : q.tm ≤ 1000000
theorem range_xyz {s : Sm} (h : rangeS s = true) : (-100000000 ≤ s.x ∧ s.x ≤ 100000000) ∧ (-100000000 ≤ s.y ∧ s.y ≤ 100000000) ∧ (-100000000 ≤ s.z ∧ s.z ≤ 100000000) := by
 unfold rangeS at h; simp only [Bool.and_eq_true, inR_iff] at h; omega
theorem amid_any (p q : Sm) (n : Int) (w : World) (h : Btw p q n) : Calls Tryz.prog 233 #[smV p, smV q, .int .i64 n] w fun e w' => e = .returned (smV (amidS p q n)) ∧ Below w.heap.size w w' := by
 obtain ⟨px, py, pz⟩ := range_xyz h.rp; obtain ⟨qx, qy, qz⟩ := range_xyz h.rq; have hb := h.h0; have hc := h.h1; have hd := h.h2; have he := h.h3; have hf := h.h4; have DX := qH (fun W => between_any p.x q.x (n - p.tm) (q.tm - p.tm) W px qx (by omega) (by omega) (by omega) (by omega)); have DY := qH (fun W => between_any p.y q.y (n - p.tm) (q.tm - p.tm) W py qy (by omega) (by omega) (by omega) (by omega)); have DZ := qH (fun W => between_any p.z q.z (n - p.tm) (q.tm - p.tm) W pz qz (by omega) (by omega) (by omega) (by omega)); obtain ⟨tx, htx⟩ : ∃ t, betw p.x q.x (n - p.tm) (q.tm - p.tm) = t := ⟨_, rfl⟩; obtain ⟨ty, hty⟩ : ∃ t, betw p.y q.y (n - p.tm) (q.tm - p.tm) = t := ⟨_, rfl⟩; obtain ⟨tz, htz⟩ : ∃ t, betw p.z q.z (n - p.tm) (q.tm - p.tm) = t := ⟨_, rfl⟩; have HV : Hid (amidS p q n = ⟨n, tx, ty, tz, p.pu, p.po, p.st⟩) := qH (by unfold amidS; rw [htx, hty, htz]); rw [HV.out]; rw [htx] at DX; rw [hty] at DY; rw [htz] at DZ; have HI := smSize; obtain ⟨V0, hV0, hb0, hs0, hl0⟩ := alloc_sm w p; obtain ⟨V1, hV1, hb1, hs1, hl1⟩ := alloc_sm V0 q; obtain ⟨V2, hV2, hb2, hs2, hl2⟩ := alloc_sm V1 sm0; rw [hs0] at hl1; rw [hs1, hs0] at hl2; unfold sm0 at hV2; have HP := qH ((hl0.below hb1).below hb2); have HQ := qH (hl1.below hb2); have HR := qH hl2; have HV0 := qH hV0; have HV1 := qH hV1; have HV2 := qH hV2; have HB := qH (bStp (bStp hb0 hb1) hb2); have HS := qH (show w.heap.size + 3 = V2.heap.size by omega); obtain ⟨p0, p1, p2, p3, p4, p5, p6⟩ := HP.out.cell; obtain ⟨q0, q1, q2, q3, q4, q5, q6⟩ := HQ.out.cell; have P0 := Ext.ex p0; have P1 := Ext.ex p1; have P2 := Ext.ex p2; have P3 := Ext.ex p3; have P4 := Ext.ex p4; have P5 := Ext.ex p5; have P6 := Ext.ex p6; have Q0 := Ext.ex q0; have Q1 := Ext.ex q1; have Q2 := Ext.ex q2; have Q3 := Ext.ex q3; have Q4 := Ext.ex q4; have Q5 := Ext.ex q5; have Q6 := Ext.ex q6; clear hV0 hb0 hs0 hl0 hV1 hb1 hs1 hl1 hV2 hb2 hs2 hl2 htx hty htz px py pz qx qy qz h p0 p1 p2 p3 p4 p5 p6 q0 q1 q2 q3 q4 q5 q6 HV; unfold smV; go_enter Tryz.func233, Tryz.ntmps233; go_upto_region 1 with (fail); simp only at HV2; rw [HV0.out, HV1.out, HV2.out]; refine ext_wp fun X => ?_
 refine wp_region_ext (W := V2) _ (by kernel_rfl) (by kernel_rfl) ?_
 repeat go_big_quiet_step (fail)
 refine wpQuiet_nil ?_; rintro _ ⟨Y, rfl⟩; obtain ⟨V3, hV3, hb3, hs3, hl3⟩ := alloc_sm Y.1 p; have HV3 := qH hV3; have HY := qH (And.intro HS.out Y.2.size); obtain ⟨G, hG⟩ : ∃ G, Y.1.heap.size = G := ⟨_, rfl⟩; clear hV3; go_upto_region 3 with (fail); rw [HV3.out]; rw [hG] at hl3; have HGR := qH hG; have HRP := qH (And.intro (HP.out.below (bStp Y.2 hb3)) (And.intro (HQ.out.below (bStp Y.2 hb3)) (And.intro (HR.out.below (bStp Y.2 hb3)) hl3))); have HNE := qH (show ¬ (w.heap.size = G ∨ w.heap.size = w.heap.size + 2) ∧ ¬ (w.heap.size + 1 = G ∨ w.heap.size + 1 = w.heap.size + 2) ∧ ¬ G = w.heap.size + 2 ∧ w.heap.size ≤ G from by have := HY.out; omega); have HB3 := qH (bStp (bStp HB.out Y.2) hb3); clear hb3 hs3 hl3 hG HV3 HP HQ HR HY; clear P0 P1 P2 P3 P4 P5 P6; clear Q0 Q1 Q2 Q3 Q4 Q5 Q6; obtain ⟨p0, p1, p2, p3, p4, p5, p6⟩ := HRP.out.1.cell; obtain ⟨q0, q1, q2, q3, q4, q5, q6⟩ := HRP.out.2.1.cell; have P1 := ExtO.ex (O := fun b => b = G ∨ b = w.heap.size + 2) HNE.out.1 p1; have P2 := ExtO.ex (O := fun b => b = G ∨ b = w.heap.size + 2) HNE.out.1 p2; have P3 := ExtO.ex (O := fun b => b = G ∨ b = w.heap.size + 2) HNE.out.1 p3; have Q1 := ExtO.ex (O := fun b => b = G ∨ b = w.heap.size + 2) HNE.out.2.1 q1; have Q2 := ExtO.ex (O := fun b => b = G ∨ b = w.heap.size + 2) HNE.out.2.1 q2; have Q3 := ExtO.ex (O := fun b => b = G ∨ b = w.heap.size + 2) HNE.out.2.1 q3; clear p0 p1 p2 p3 p4 p5 p6 q0 q1 q2 q3 q4 q5 q6; refine held_start (C := fun w' => ∃ Z : ExtO (fun b => b = G ∨ b = w.heap.size + 2) V3, w' = Z.1) (by kernel_rfl) ?_; obtain ⟨Z0, hZ0⟩ : ∃ Z : ExtO (fun b => b = G ∨ b = w.heap.size + 2) V3, ({ V3 with drawn := V3.drawn + 1 } : World) = Z.1 := ⟨⟨{ V3 with drawn := V3.drawn + 1 }, ⟨rfl, rfl, rfl, Nat.le_refl _, fun _ _ _ => rfl⟩⟩, rfl⟩; have HBX : Hid (SmB Z0.1 G p ∧ SmB Z0.1 (w.heap.size + 2) sm0) := qH (hZ0 ▸ ⟨HRP.out.2.2.2.below ⟨rfl, rfl, rfl, Nat.le_refl _, fun _ _ => rfl⟩, HRP.out.2.2.1.below ⟨rfl, rfl, rfl, Nat.le_refl _, fun _ _ => rfl⟩⟩); rw [hZ0]; clear hZ0 HRP; refine held_quiet (by kernel_rfl) (fun _ _ d _ _ h => by cases d <;> exact h) ⟨Z0, rfl⟩ [0, 1, 2, 3, 4, 5, 6, 8, 9, 10, 11, 12, 13, 15, 16, 17, 18, 19, 20, 22] 10 _ _ (by kernel_rfl) ?_; change wpQuiet _ _ _ _ (_ :: _ :: _ :: _ :: _ :: _ :: _ :: _ :: _ :: _ :: _ :: _ :: _ :: _ :: _ :: _ :: _ :: _ :: _ :: _ :: []) _
 repeat go_big_quiet_step (fail)
 refine wpQuiet_nil ?_; refine held_do (i := 7) _ rfl (by kernel_rfl) rfl (fun K hK => ?_); go_simp; refine (DX.out _).mono ?_; rintro e w1 ⟨rfl, hb⟩; obtain ⟨Z1, rfl⟩ : ∃ Z : ExtO (fun b => b = G ∨ b = w.heap.size + 2) V3, w1 = Z.1 := ⟨⟨w1, Z0.2.trans (Kept.of_below hb)⟩, rfl⟩; have HBX : Hid (SmB Z1.1 G p ∧ SmB Z1.1 (w.heap.size + 2) sm0) := qH (⟨HBX.out.1.below hb, HBX.out.2.below hb⟩); refine hK _ _ ⟨Z1, rfl⟩ ?_; clear hK K hb
 try simp only [pS]
 refine held_do (i := 14) _ rfl (by kernel_rfl) rfl (fun K hK => ?_); go_simp; refine (DY.out _).mono ?_; rintro e w2 ⟨rfl, hb⟩; obtain ⟨Z2, rfl⟩ : ∃ Z : ExtO (fun b => b = G ∨ b = w.heap.size + 2) V3, w2 = Z.1 := ⟨⟨w2, Z1.2.trans (Kept.of_below hb)⟩, rfl⟩; have HBX : Hid (SmB Z2.1 G p ∧ SmB Z2.1 (w.heap.size + 2) sm0) := qH (⟨HBX.out.1.below hb, HBX.out.2.below hb⟩); refine hK _ _ ⟨Z2, rfl⟩ ?_; clear hK K hb
 try simp only [pS]
 refine held_do (i := 21) _ rfl (by kernel_rfl) rfl (fun K hK => ?_); go_simp; refine (DZ.out _).mono ?_; rintro e w3 ⟨rfl, hb⟩; obtain ⟨Z3, rfl⟩ : ∃ Z : ExtO (fun b => b = G ∨ b = w.heap.size + 2) V3, w3 = Z.1 := ⟨⟨w3, Z2.2.trans (Kept.of_below hb)⟩, rfl⟩; have HBX : Hid (SmB Z3.1 G p ∧ SmB Z3.1 (w.heap.size + 2) sm0) := qH (⟨HBX.out.1.below hb, HBX.out.2.below hb⟩); refine hK _ _ ⟨Z3, rfl⟩ ?_; clear hK K hb
 try simp only [pS]
 obtain ⟨g0, g1, g2, g3, g4, g5, g6⟩ := HBX.out.1.cell; have f0 := HBX.out.1.free 0; refine held_do (i := 23) _ rfl (by kernel_rfl) rfl (fun K hK => ?_); go_simp; obtain ⟨Z4, hZ⟩ : ∃ Z : ExtO (fun b => b = G ∨ b = w.heap.size + 2) V3, Z3.1.setCell ⟨G, 0, none⟩ (.int .i64 n) = Z.1 := ⟨⟨_, Z3.2.trans (keep_set (Or.inl rfl))⟩, rfl⟩; have HBX : Hid (SmB Z4.1 G { p with tm := n } ∧ SmB Z4.1 (w.heap.size + 2) sm0) := qH (hZ ▸ ⟨HBX.out.1.set0 n, HBX.out.2.kept (O := fun b => b = G) (keep_set rfl) (fun e => HNE.out.2.2.1 e.symm)⟩); rw [hZ]; refine hK _ _ ⟨Z4, rfl⟩ ?_; clear hK K hZ g0 g1 g2 g3 g4 g5 g6 f0
 try simp only [pS]
 refine held_quiet (by kernel_rfl) (fun _ _ d _ _ h => by cases d <;> exact h) ⟨Z4, rfl⟩ [24] 5 _ _ (by kernel_rfl) ?_; change wpQuiet _ _ _ _ (_ :: []) _
 repeat go_big_quiet_step (fail)
 refine wpQuiet_nil ?_; obtain ⟨g0, g1, g2, g3, g4, g5, g6⟩ := HBX.out.1.cell; have f1 := HBX.out.1.free 1; refine held_do (i := 25) _ rfl (by kernel_rfl) rfl (fun K hK => ?_); go_simp; obtain ⟨Z5, hZ⟩ : ∃ Z : ExtO (fun b => b = G ∨ b = w.heap.size + 2) V3, Z4.1.setCell ⟨G, 1, none⟩ (.int .i64 tx) = Z.1 := ⟨⟨_, Z4.2.trans (keep_set (Or.inl rfl))⟩, rfl⟩; have HBX : Hid (SmB Z5.1 G { { p with tm := n } with x := tx } ∧ SmB Z5.1 (w.heap.size + 2) sm0) := qH (hZ ▸ ⟨HBX.out.1.set1 tx, HBX.out.2.kept (O := fun b => b = G) (keep_set rfl) (fun e => HNE.out.2.2.1 e.symm)⟩); rw [hZ]; refine hK _ _ ⟨Z5, rfl⟩ ?_; clear hK K hZ g0 g1 g2 g3 g4 g5 g6 f1
 try simp only [pS]
 refine held_quiet (by kernel_rfl) (fun _ _ d _ _ h => by cases d <;> exact h) ⟨Z5, rfl⟩ [26] 3 _ _ (by kernel_rfl) ?_; change wpQuiet _ _ _ _ (_ :: []) _
 repeat go_big_quiet_step (fail)
 refine wpQuiet_nil ?_; obtain ⟨g0, g1, g2, g3, g4, g5, g6⟩ := HBX.out.1.cell; have f2 := HBX.out.1.free 2; refine held_do (i := 27) _ rfl (by kernel_rfl) rfl (fun K hK => ?_); go_simp; obtain ⟨Z6, hZ⟩ : ∃ Z : ExtO (fun b => b = G ∨ b = w.heap.size + 2) V3, Z5.1.setCell ⟨G, 2, none⟩ (.int .i64 ty) = Z.1 := ⟨⟨_, Z5.2.trans (keep_set (Or.inl rfl))⟩, rfl⟩; have HBX : Hid (SmB Z6.1 G { { { p with tm := n } with x := tx } with y := ty } ∧ SmB Z6.1 (w.heap.size + 2) sm0) := qH (hZ ▸ ⟨HBX.out.1.set2 ty, HBX.out.2.kept (O := fun b => b = G) (keep_set rfl) (fun e => HNE.out.2.2.1 e.symm)⟩); rw [hZ]; refine hK _ _ ⟨Z6, rfl⟩ ?_; clear hK K hZ g0 g1 g2 g3 g4 g5 g6 f2
 try simp only [pS]
 refine held_quiet (by kernel_rfl) (fun _ _ d _ _ h => by cases d <;> exact h) ⟨Z6, rfl⟩ [28] 1 _ _ (by kernel_rfl) ?_; change wpQuiet _ _ _ _ (_ :: []) _
 repeat go_big_quiet_step (fail)
 refine wpQuiet_nil ?_; obtain ⟨g0, g1, g2, g3, g4, g5, g6⟩ := HBX.out.1.cell; have f3 := HBX.out.1.free 3; refine held_do (i := 29) _ rfl (by kernel_rfl) rfl (fun K hK => ?_); go_simp; obtain ⟨Z7, hZ⟩ : ∃ Z : ExtO (fun b => b = G ∨ b = w.heap.size + 2) V3, Z6.1.setCell ⟨G, 3, none⟩ (.int .i64 tz) = Z.1 := ⟨⟨_, Z6.2.trans (keep_set (Or.inl rfl))⟩, rfl⟩; have HBX : Hid (SmB Z7.1 G { { { { p with tm := n } with x := tx } with y := ty } with z := tz } ∧ SmB Z7.1 (w.heap.size + 2) sm0) := qH (hZ ▸ ⟨HBX.out.1.set3 tz, HBX.out.2.kept (O := fun b => b = G) (keep_set rfl) (fun e => HNE.out.2.2.1 e.symm)⟩); rw [hZ]; refine hK _ _ ⟨Z7, rfl⟩ ?_; clear hK K hZ g0 g1 g2 g3 g4 g5 g6 f3
 try simp only [pS]
 refine wpAnyH_done (by kernel_rfl) ?_ _; obtain ⟨g0, g1, g2, g3, g4, g5, g6⟩ := HBX.out.1.cell; obtain ⟨r0, r1, r2, r3, r4, r5, r6⟩ := HBX.out.2.cell; have fr := HBX.out.2.free; have f0 := fr 0; have f1 := fr 1; have f2 := fr 2; have f3 := fr 3; have f4 := fr 4; have f5 := fr 5; have f6 := fr 6
 try simp only at g0 g1 g2 g3 g4 g5 g6
 unfold sm0 at r0 r1 r2 r3 r4 r5 r6
 try simp only at r0 r1 r2 r3 r4 r5 r6
 clear fr; obtain ⟨WE, hWE, hWB, hWK⟩ := HBX.out.2.store ⟨n, tx, ty, tz, p.pu, p.po, p.st⟩; have HWE := qH hWE; have HWB := qH (And.intro hWB (show Below w.heap.size w WE from Kept.below HB3.out (Z7.2.trans (hWK (fun b => b = G ∨ b = w.heap.size + 2) (Or.inr rfl))) HB3.out.size (fun k hk e => by have := HNE.out; omega))); clear hWE hWB hWK; go_wp2_with fail
 try simp only at HWE
 rw [HWE.out]; exact bodyPost_ret (v := _) (results_cell_row Tryz.results233 _ _ (w.heap.size + 2) _ _ _ _ rfl HWB.out.1 Tryz.underlying72 rfl HI.out) rfl ⟨rfl, HWB.out.2⟩
theorem rat_any (p q : Sm) (n : Int) (w : World) (h : Btw p q n) : Calls Tryz.prog 121 #[smV p, smV q, .int .i64 n] w fun e w' => e = .returned (smV (amidS p q n)) ∧ Below w.heap.size w w' := by
 obtain ⟨px, py, pz⟩ := range_xyz h.rp; obtain ⟨qx, qy, qz⟩ := range_xyz h.rq; have hb := h.h0; have hc := h.h1; have hd := h.h2; have he := h.h3; have hf := h.h4; have DX := qH (fun W => rbetween_any p.x q.x (n - p.tm) (q.tm - p.tm) W px qx (by omega) (by omega) (by omega) (by omega)); have DY := qH (fun W => rbetween_any p.y q.y (n - p.tm) (q.tm - p.tm) W py qy (by omega) (by omega) (by omega) (by omega)); have DZ := qH (fun W => rbetween_any p.z q.z (n - p.tm) (q.tm - p.tm) W pz qz (by omega) (by omega) (by omega) (by omega)); obtain ⟨tx, htx⟩ : ∃ t, betw p.x q.x (n - p.tm) (q.tm - p.tm) = t := ⟨_, rfl⟩; obtain ⟨ty, hty⟩ : ∃ t, betw p.y q.y (n - p.tm) (q.tm - p.tm) = t := ⟨_, rfl⟩; obtain ⟨tz, htz⟩ : ∃ t, betw p.z q.z (n - p.tm) (q.tm - p.tm) = t := ⟨_, rfl⟩; have HV : Hid (amidS p q n = ⟨n, tx, ty, tz, p.pu, p.po, p.st⟩) := qH (by unfold amidS; rw [htx, hty, htz]); rw [HV.out]; rw [htx] at DX; rw [hty] at DY; rw [htz] at DZ; have HI := smSize; obtain ⟨V0, hV0, hb0, hs0, hl0⟩ := alloc_sm w p; obtain ⟨V1, hV1, hb1, hs1, hl1⟩ := alloc_sm V0 q; obtain ⟨V2, hV2, hb2, hs2, hl2⟩ := alloc_sm V1 sm0; rw [hs0] at hl1; rw [hs1, hs0] at hl2; unfold sm0 at hV2; have HP := qH ((hl0.below hb1).below hb2); have HQ := qH (hl1.below hb2); have HR := qH hl2; have HV0 := qH hV0; have HV1 := qH hV1; have HV2 := qH hV2; have HB := qH (bStp (bStp hb0 hb1) hb2); have HS := qH (show w.heap.size + 3 = V2.heap.size by omega); obtain ⟨p0, p1, p2, p3, p4, p5, p6⟩ := HP.out.cell; obtain ⟨q0, q1, q2, q3, q4, q5, q6⟩ := HQ.out.cell; have P0 := Ext.ex p0; have P1 := Ext.ex p1; have P2 := Ext.ex p2; have P3 := Ext.ex p3; have P4 := Ext.ex p4; have P5 := Ext.ex p5; have P6 := Ext.ex p6; have Q0 := Ext.ex q0; have Q1 := Ext.ex q1; have Q2 := Ext.ex q2; have Q3 := Ext.ex q3; have Q4 := Ext.ex q4; have Q5 := Ext.ex q5; have Q6 := Ext.ex q6; clear hV0 hb0 hs0 hl0 hV1 hb1 hs1 hl1 hV2 hb2 hs2 hl2 htx hty htz px py pz qx qy qz h p0 p1 p2 p3 p4 p5 p6 q0 q1 q2 q3 q4 q5 q6 HV; unfold smV; go_enter Tryz.func121, Tryz.ntmps121; go_upto_region 1 with (fail); simp only at HV2; rw [HV0.out, HV1.out, HV2.out]; refine ext_wp fun X => ?_
 refine wp_region_ext (W := V2) _ (by kernel_rfl) (by kernel_rfl) ?_
 repeat go_big_quiet_step (fail)
 refine wpQuiet_nil ?_; rintro _ ⟨Y, rfl⟩; have HNE := qH (show ¬ (w.heap.size = w.heap.size + 2) ∧ ¬ (w.heap.size + 1 = w.heap.size + 2) from by omega); have HRP := qH (And.intro (HP.out.below Y.2) (And.intro (HQ.out.below Y.2) (HR.out.below Y.2))); have HB3 := qH (bStp HB.out Y.2); obtain ⟨V3, hV3⟩ : ∃ V, Y.1 = V := ⟨_, rfl⟩; rw [hV3] at HRP HB3; go_wp2_with fail; rw [hV3]; clear hV3 HP HQ HR; clear P0 P1 P2 P3 P4 P5 P6; clear Q0 Q1 Q2 Q3 Q4 Q5 Q6; obtain ⟨p0, p1, p2, p3, p4, p5, p6⟩ := HRP.out.1.cell; obtain ⟨q0, q1, q2, q3, q4, q5, q6⟩ := HRP.out.2.1.cell; have P1 := ExtO.ex (O := fun b => b = w.heap.size + 2) HNE.out.1 p1; have P2 := ExtO.ex (O := fun b => b = w.heap.size + 2) HNE.out.1 p2; have P3 := ExtO.ex (O := fun b => b = w.heap.size + 2) HNE.out.1 p3; have P4 := ExtO.ex (O := fun b => b = w.heap.size + 2) HNE.out.1 p4; have P5 := ExtO.ex (O := fun b => b = w.heap.size + 2) HNE.out.1 p5; have P6 := ExtO.ex (O := fun b => b = w.heap.size + 2) HNE.out.1 p6; have Q1 := ExtO.ex (O := fun b => b = w.heap.size + 2) HNE.out.2 q1; have Q2 := ExtO.ex (O := fun b => b = w.heap.size + 2) HNE.out.2 q2; have Q3 := ExtO.ex (O := fun b => b = w.heap.size + 2) HNE.out.2 q3; clear p0 p1 p2 p3 p4 p5 p6 q0 q1 q2 q3 q4 q5 q6; refine held_start (C := fun w' => ∃ Z : ExtO (fun b => b = w.heap.size + 2) V3, w' = Z.1) (by kernel_rfl) ?_; obtain ⟨Z0, hZ0⟩ : ∃ Z : ExtO (fun b => b = w.heap.size + 2) V3, ({ V3 with drawn := V3.drawn + 1 } : World) = Z.1 := ⟨⟨{ V3 with drawn := V3.drawn + 1 }, ⟨rfl, rfl, rfl, Nat.le_refl _, fun _ _ _ => rfl⟩⟩, rfl⟩; have HBX : Hid (SmB Z0.1 (w.heap.size + 2) sm0) := qH (hZ0 ▸ HRP.out.2.2.below ⟨rfl, rfl, rfl, Nat.le_refl _, fun _ _ => rfl⟩); rw [hZ0]; clear hZ0 HRP; refine held_quiet (by kernel_rfl) (fun _ _ d _ _ h => by cases d <;> exact h) ⟨Z0, rfl⟩ [0, 1, 2, 3, 4, 5, 6, 8, 9, 10, 11, 12, 13, 15, 16, 17, 18, 19, 20, 22, 23, 24, 25, 26, 27] 5 _ _ (by kernel_rfl) ?_; change wpQuiet _ _ _ _ (_ :: _ :: _ :: _ :: _ :: _ :: _ :: _ :: _ :: _ :: _ :: _ :: _ :: _ :: _ :: _ :: _ :: _ :: _ :: _ :: _ :: _ :: _ :: _ :: _ :: []) _
 repeat go_big_quiet_step (fail)
 refine wpQuiet_nil ?_; refine held_do (i := 7) _ rfl (by kernel_rfl) rfl (fun K hK => ?_); go_simp; refine (DX.out _).mono ?_; rintro e w1 ⟨rfl, hb⟩; obtain ⟨Z1, rfl⟩ : ∃ Z : ExtO (fun b => b = w.heap.size + 2) V3, w1 = Z.1 := ⟨⟨w1, Z0.2.trans (Kept.of_below hb)⟩, rfl⟩; have HBX : Hid (SmB Z1.1 (w.heap.size + 2) sm0) := qH (HBX.out.below hb); refine hK _ _ ⟨Z1, rfl⟩ ?_; clear hK K hb
 try simp only [pS]
 refine held_do (i := 14) _ rfl (by kernel_rfl) rfl (fun K hK => ?_); go_simp; refine (DY.out _).mono ?_; rintro e w2 ⟨rfl, hb⟩; obtain ⟨Z2, rfl⟩ : ∃ Z : ExtO (fun b => b = w.heap.size + 2) V3, w2 = Z.1 := ⟨⟨w2, Z1.2.trans (Kept.of_below hb)⟩, rfl⟩; have HBX : Hid (SmB Z2.1 (w.heap.size + 2) sm0) := qH (HBX.out.below hb); refine hK _ _ ⟨Z2, rfl⟩ ?_; clear hK K hb
 try simp only [pS]
 refine held_do (i := 21) _ rfl (by kernel_rfl) rfl (fun K hK => ?_); go_simp; refine (DZ.out _).mono ?_; rintro e w3 ⟨rfl, hb⟩; obtain ⟨Z3, rfl⟩ : ∃ Z : ExtO (fun b => b = w.heap.size + 2) V3, w3 = Z.1 := ⟨⟨w3, Z2.2.trans (Kept.of_below hb)⟩, rfl⟩; have HBX : Hid (SmB Z3.1 (w.heap.size + 2) sm0) := qH (HBX.out.below hb); refine hK _ _ ⟨Z3, rfl⟩ ?_; clear hK K hb
 try simp only [pS]
 refine held_quiet (by kernel_rfl) (fun _ _ d _ _ h => by cases d <;> exact h) ⟨Z3, rfl⟩ [28] 1 _ _ (by kernel_rfl) ?_; change wpQuiet _ _ _ _ (_ :: []) _
 repeat go_big_quiet_step (fail)
 refine wpQuiet_nil ?_; obtain ⟨r0, r1, r2, r3, r4, r5, r6⟩ := HBX.out.cell; have fr := HBX.out.free; have f0 := fr 0; have f1 := fr 1; have f2 := fr 2; have f3 := fr 3; have f4 := fr 4; have f5 := fr 5; have f6 := fr 6; unfold sm0 at r0 r1 r2 r3 r4 r5 r6
 try simp only at r0 r1 r2 r3 r4 r5 r6
 clear fr; obtain ⟨WE, hWE, hWB, hWK⟩ := HBX.out.store ⟨n, tx, ty, tz, p.pu, p.po, p.st⟩; have HWE := qH hWE; have HWB := qH (And.intro hWB (show Below w.heap.size w WE from Kept.below HB3.out (Z3.2.trans (hWK (fun b => b = w.heap.size + 2) rfl)) HB3.out.size (fun k hk e => by omega))); have HKE := qH (Z3.2.trans (hWK (fun b => b = w.heap.size + 2) rfl)); clear hWE hWB hWK; refine held_do (i := 29) _ rfl (by kernel_rfl) rfl (fun K hK => ?_); go_simp; simp only at HWE; rw [HWE.out]; refine hK _ _ ⟨⟨WE, HKE.out⟩, rfl⟩ ?_; clear hK K
 try simp only [pS]
 refine wpAnyH_done (by kernel_rfl) ?_ _; go_wp2_with fail; exact bodyPost_ret (v := _) (results_cell_row Tryz.results121 _ _ (w.heap.size + 2) _ _ _ _ rfl HWB.out.1 Tryz.underlying72 rfl HI.out) rfl ⟨rfl, HWB.out.2⟩
structure El {α : Type} (C : α → List Value) (k : Nat) : Prop where
 len : ∀ x, (C x).length = k
 pos : 0 < k
 one : ∀ x, ∀ v ∈ C x, v.oneCell' = true
theorem smEl : El smC 7 := ⟨fun _ => rfl, by decide, fun x v hv => by
 simp only [smC, List.mem_cons, List.not_mem_nil, or_false] at hv; rcases hv with rfl | rfl | rfl | rfl | rfl | rfl | rfl <;> rfl⟩
theorem lpEl : El lpC 3 := ⟨fun _ => rfl, by decide, fun x v hv => by
 simp only [lpC, List.mem_cons, List.not_mem_nil, or_false] at hv; rcases hv with rfl | rfl | rfl <;> rfl⟩
theorem tgEl : El tgC 1 := ⟨fun _ => rfl, by decide, fun x v hv => by
 simp only [tgC, List.mem_cons, List.not_mem_nil, or_false] at hv; rcases hv with rfl <;> rfl⟩
section
variable {α : Type} {C : α → List Value} {k : Nat}
theorem El.flat (E : El C k) : ∀ l : List α, (l.flatMap C).length = l.length * k
 | [] => by simp
 | x :: l => by rw [List.flatMap_cons, List.length_append, E.len, E.flat l, List.length_cons, Nat.succ_mul]; omega
theorem El.get (E : El C k) : ∀ (l : List α) (i : Nat) (x : α), l[i]? = some x → ∀ j v, (C x)[j]? = some v → (l.flatMap C)[i * k + j]? = some v
 | [], i, x, h, _, _, _ => by simp at h
 | y :: l, 0, x, h, j, v, hv => by
  injection h with h; subst h; rw [List.flatMap_cons, Nat.zero_mul, Nat.zero_add, List.getElem?_append_left (by have := (List.getElem?_eq_some_iff.1 hv).1; exact this)]; exact hv
 | y :: l, i + 1, x, h, j, v, hv => by
  have ih := E.get l i x (by simpa using h) j v hv; rw [List.flatMap_cons, List.getElem?_append_right (by rw [E.len, Nat.succ_mul]; omega), E.len, show (i + 1) * k + j - k = i * k + j by rw [Nat.succ_mul]; omega]; exact ih
theorem El.ones (E : El C k) (l : List α) : ∀ u ∈ l.flatMap C, u.oneCell' = true := fun u hu => by
 obtain ⟨y, _, hy⟩ := List.mem_flatMap.1 hu; exact E.one y u hy
theorem El.at (E : El C k) : ∀ (l : List α) (j : Nat) (u : Value), (l.flatMap C)[j]? = some u → ∃ x, l[j / k]? = some x ∧ (C x)[j % k]? = some u
 | [], j, u, h => by simp at h
 | x :: l, j, u, h => by
  have k0 := E.pos; rw [List.flatMap_cons] at h; by_cases hj : j < k
  · rw [List.getElem?_append_left (by rw [E.len]; exact hj)] at h
    exact ⟨x, by rw [Nat.div_eq_of_lt hj]; rfl, by rw [Nat.mod_eq_of_lt hj]; exact h⟩
  · rw [List.getElem?_append_right (by rw [E.len]; omega), E.len] at h
    obtain ⟨y, h1, h2⟩ := E.at l (j - k) u h; have e1 : j / k = (j - k) / k + 1 := by
     rw [Nat.div_eq_sub_div k0 (by omega)]
    have e2 : j % k = (j - k) % k := Nat.mod_eq_sub_mod (by omega); exact ⟨y, by rw [e1]; exact h1, by rw [e2]; exact h2⟩
theorem Rw.flat (E : El C k) {w : World} {a : Addr} {l : List α} (h : Rw C k w (some a) l) : ∀ j u, (l.flatMap C)[j]? = some u → w.cell? (a.add j) = some u := by
 intro j u hj; obtain ⟨x, hx, hu⟩ := E.at l j u hj; obtain ⟨b, off, e, _, hc⟩ := h.here (Nat.lt_of_le_of_lt (Nat.zero_le _) (List.getElem?_eq_some_iff.1 hx).1); injection e with e; subst e; have := hc _ x hx _ u hu; rw [addr_plus, show off + j = off + j / k * k + j % k by rw [Nat.add_assoc, Nat.div_add_mod']]; exact this
theorem Rw.nil_of {w : World} {l : List α} (h : Rw C k w none l) : l = [] := by
 cases l with
 | nil => rfl
 | cons x l =>
  obtain ⟨b, off, e, _⟩ := h.here (by simp)
  cases e
theorem Rw.kept {O : Nat → Prop} {w w' : World} {a : Option Addr} {l : List α} (h : Rw C k w a l) (hk : Kept O w w') (ho : ∀ b off, a = some ⟨b, off, none⟩ → ¬ O b) : Rw C k w' a l :=
 ⟨fun hl => by
  obtain ⟨b, off, e, hb, hc⟩ := h.here hl; exact ⟨b, off, e, by have := hk.size; omega, fun i x hx j v hv => hk.cell (p := ⟨b, off + i * k + j, none⟩) (ho b off e) (hc i x hx j v hv)⟩⟩
def Own (C : α → List Value) (k : Nat) (e : TypeId) (w : World) (base : Nat) (v : Value) (l : List α) : Prop := w.ownsRow base e k v l.length (l.flatMap C)
variable {e : TypeId} {w w' : World} {base : Nat} {v : Value} {l : List α}
theorem Own.nil (C : α → List Value) (k : Nat) (e : TypeId) (w : World) (base : Nat) : Own C k e w base (.slice none 0 0) [] := World.ownsRow_nil _ _ _ _
theorem Own.below (h : Own C k e w base v l) (hb : Below w.heap.size w w') : Own C k e w' base v l := ownsRow_below h hb
theorem Own.keepO {O : Nat → Prop} (h : Own C k e w base v l) (hk : Kept O w w') (hO : ∀ b, v.ownBlock = some b → ¬ O b) : Own C k e w' base v l := by
 refine ⟨h.1, ?_⟩; rcases h.2 with h0 | ⟨g, cap, cur, hv, hb, hg, h3⟩
 · exact Or.inl h0
 · exact Or.inr ⟨g, cap, cur, hv, hb, (hk.block g (lt_of_block hg) (hO g (by rw [hv]; rfl))).trans hg, h3⟩
theorem Own.lt (h : Own C k e w base v l) : ∀ b, v.ownBlock = some b → base ≤ b ∧ b < w.heap.size := fun b e => World.ownsRow.lt h b e
theorem Own.weaken {base' : Nat} (h : Own C k e w base v l) (hb : base' ≤ base) : Own C k e w base' v l := by
 refine ⟨h.1, ?_⟩; rcases h.2 with e | ⟨g, cap, cur, h1, h2, h3⟩
 · exact Or.inl e
 · exact Or.inr ⟨g, cap, cur, h1, Nat.le_trans hb h2, h3⟩
theorem Own.row (E : El C k) (h : Own C k e w base v l) : ∃ a c, v = .slice a l.length c ∧ l.length ≤ c ∧ Rw C k w a l ∧ ∀ b, a = some b → base ≤ b.block ∧ v.ownBlock = some b.block ∧ b.off = 0 ∧ b.spot = none := by
 have hh := h; rcases h.2 with ⟨e, h0⟩ | ⟨g, cap, cur, e, hb, hg, hn, hm, hs, ht⟩
 · refine ⟨none, 0, ?_, by omega, ⟨fun hl => by omega⟩, fun b hb => by cases hb⟩
   rw [e, h0]
 · refine ⟨_, cap, e, hn, ⟨fun _ => ⟨g, 0, rfl, lt_of_block hg, fun i x hx j v hv => ?_⟩⟩, fun b hb' => by injection hb' with hb'; subst hb'; exact ⟨hb, by rw [e]; rfl, rfl, rfl⟩⟩
   have hc := World.ownsRow.cells hh (g := g) (by rw [e]; rfl) (i * k + j) _ (E.get l i x hx j v hv); rw [addr_plus, ← Nat.add_assoc] at hc; exact hc
theorem Own.rw_ (E : El C k) {a : Option Addr} {n c : Nat} (h : Own C k e w base (.slice a n c) l) : Rw C k w a l ∧ n = l.length ∧ ∀ b, a = some b → base ≤ b.block ∧ b.block < w.heap.size := by
 obtain ⟨a', c', he, _, hr, hb⟩ := h.row E; injection he with e1 e2 e3; subst e1 e2 e3; exact ⟨hr, rfl, fun b hb' => ⟨(hb b hb').1, (h.lt b.block (hb b hb').2.1).2⟩⟩
theorem Own.open (h : Own C k e w base v l) (h0 : 0 < l.length) : ∃ q c, v = .slice (some ⟨q, 0, none⟩) l.length c ∧ base ≤ q ∧ q < w.heap.size := by
 rcases h.2 with ⟨_, h1⟩ | ⟨g, cap, cur, hv, hb, hg, _⟩
 · omega
 · exact ⟨g, cap, hv, hb, lt_of_block hg⟩
theorem set_flat (E : El C k) : ∀ (l : List α) (i j : Nat) (x y : α) (u : Value), l[i]? = some x → C y = (C x).set j u → j < k → (l.flatMap C).set (i * k + j) u = (l.set i y).flatMap C
 | [], i, j, x, y, u, h, _, _ => by simp at h
 | z :: l, 0, j, x, y, u, h, hy, hj => by
  injection h with h; subst h; rw [List.set_cons_zero, List.flatMap_cons, List.flatMap_cons, hy, Nat.zero_mul, Nat.zero_add, List.set_append_left _ _ (by rw [E.len]; exact hj)]
 | z :: l, i + 1, j, x, y, u, h, hy, hj => by
  have ih := set_flat E l i j x y u (by simpa using h) hy hj; rw [List.set_cons_succ, List.flatMap_cons, List.flatMap_cons, ← ih, List.set_append_right _ _ (by rw [E.len, Nat.succ_mul]; omega), E.len, show (i + 1) * k + j - k = i * k + j by rw [Nat.succ_mul]; omega]
theorem Own.set (E : El C k) {q n c : Nat} (h : Own C k e w base (.slice (some ⟨q, 0, none⟩) n c) l) {i j : Nat} {x y : α} {u : Value} (hx : l[i]? = some x) (hj : j < k) (hy : C y = (C x).set j u) :
 Own C k e (w.setCell ⟨q, i * k + j, none⟩ u) base (.slice (some ⟨q, 0, none⟩) n c) (l.set i y) ∧ Kept (fun b => b = q) w (w.setCell ⟨q, i * k + j, none⟩ u) := by
 have hn : n = l.length := by
  rcases h.2 with ⟨h0, _⟩ | ⟨g, cap, cur, hv, _⟩
  · cases h0
  · injection hv
 subst hn; have h1 := (World.ownsRow.stored h (i * k + j) u).1; refine ⟨?_, keep_set rfl⟩; unfold Own; rw [List.length_set, ← set_flat E l i j x y u hx hy hj]; exact h1
theorem Own.free {q n c : Nat} (h : Own C k e w base (.slice (some ⟨q, 0, none⟩) n c) l) (j : Nat) : w.frozen? ⟨q, j, none⟩ = false := by
 have hn : n = l.length := by
  rcases h.2 with ⟨h0, _⟩ | ⟨g, cap, cur, hv, _⟩
  · cases h0
  · injection hv
 subst hn; have := World.ownsRow.frozenAt h j; exact this
end
theorem infoSm : Hid ((Tryz.prog.info? 72).map (fun i => (i.zero, i.size, i.bytes)) = some (some (.agg #[.int .i64 0, .int .i64 0, .int .i64 0, .int .i64 0, .int .i64 0, .int .i64 0, .int .i64 0]), 7, 56)) := qH (by kernel_rfl)
theorem underSm : Hid (Tryz.prog.underlying 22 = some (.slice 72)) := qH (by kernel_rfl)
theorem cloneSm_any (a : Option Addr) (l : List Sm) (cap : Nat) (w : World) (hr : Rw smC 7 w a l) (hl : l.length ≤ 1000000) :
 Calls Tryz.prog 64 #[.slice a l.length cap] w fun e w' => (∃ v, e = .returned v ∧ Own smC 7 72 w' w.heap.size v l) ∧ Below w.heap.size w w' := by
 have HU := underSm; have hq : ∀ (w : World) (a : Option Addr) (n c n' c' : Nat), (binOp .eql 22 (.slice a n c) (.slice none n' c')).run Tryz.prog w = .ok (.bool a.isNone) w := fun w a n c n' c' => Lib.run_eql_slice_nil w _ _ a n c n' c' HU.out
 have u22 : ∀ w, Sem.run Tryz.prog (underlying 22) w = .ok (TypeDesc.slice 72) w := run_underlying HU.out
 cases a with
 | none =>
  have h0 := hr.nil_of; subst h0; clear hr; go_enter Tryz.func64, Tryz.ntmps64; go_wp2_with fail; go_ret; exact ⟨⟨_, rfl, Own.nil _ _ _ _ _⟩, Below.refl _ _⟩
 | some a =>
  obtain ⟨i0, hi0, hz0, hz1, hz2⟩ := info_parts infoSm.out; have HI0 := qH hi0; have HZ0 := qH hz0; have HZ1 := qH hz1; have HZ2 := qH hz2; have HC := qH (hr.flat smEl); have HL := qH (smEl.flat l); have H1 := qH (smEl.ones l); clear hi0 hz0 hz1 hz2 hr; go_enter Tryz.func64, Tryz.ntmps64; go_wp2_with (at_builtin; refine wpList_append_own _ rfl _ _ 22 rfl w.heap.size 72 i0 (.agg #[.int .i64 0, .int .i64 0, .int .i64 0, .int .i64 0, .int .i64 0, .int .i64 0, .int .i64 0]) 7 56 HU.out HI0.out HZ0.out HZ1.out HZ2.out rfl (by decide) _ _ _ rfl (World.ownsRow_made w #[] 0 (Nat.le_refl _) (Nat.zero_le _) (by simp)) a l.length cap (l.flatMap smC) rfl ?qc1 ?qc2 ?qc3 ?qc4 ?qc5 ?qc6 ?_)
  case qc1 => exact HL.out
  case qc2 =>
   intro j u hj; exact Lib.cell?_alloc_some _ (HC.out j u hj)
  case qc3 => exact H1.out
  case qc4 => rw [Nat.zero_add]; unfold maxLen; omega
  case qc5 => rw [Nat.zero_add]; omega
  case qc6 => simp
  intro v' w1 hown hgrow hnil; go_wp2_with fail; go_ret; exact ⟨⟨v', rfl, by unfold Own; simpa using hown⟩, ((Below.refl _ w).alloc (Nat.le_refl _) _).grown hgrow (by simp) (by intro k hk; simp [Value.ownBlock] at hk; omega)⟩
theorem infoLp : Hid ((Tryz.prog.info? 75).map (fun i => (i.zero, i.size, i.bytes)) = some (some (.agg #[.int .i64 0, .int .i64 0, .string ⟨#[]⟩]), 3, 32)) := qH (by kernel_rfl)
theorem underLp : Hid (Tryz.prog.underlying 23 = some (.slice 75)) := qH (by kernel_rfl)
theorem cloneLp_any (a : Option Addr) (l : List Lp) (cap : Nat) (w : World) (hr : Rw lpC 3 w a l) (hl : l.length ≤ 1000000) :
 Calls Tryz.prog 65 #[.slice a l.length cap] w fun e w' => (∃ v, e = .returned v ∧ Own lpC 3 75 w' w.heap.size v l) ∧ Below w.heap.size w w' := by
 have HU := underLp; have hq : ∀ (w : World) (a : Option Addr) (n c n' c' : Nat), (binOp .eql 23 (.slice a n c) (.slice none n' c')).run Tryz.prog w = .ok (.bool a.isNone) w := fun w a n c n' c' => Lib.run_eql_slice_nil w _ _ a n c n' c' HU.out
 have u22 : ∀ w, Sem.run Tryz.prog (underlying 23) w = .ok (TypeDesc.slice 75) w := run_underlying HU.out
 cases a with
 | none =>
  have h0 := hr.nil_of; subst h0; clear hr; go_enter Tryz.func65, Tryz.ntmps65; go_wp2_with fail; go_ret; exact ⟨⟨_, rfl, Own.nil _ _ _ _ _⟩, Below.refl _ _⟩
 | some a =>
  obtain ⟨i0, hi0, hz0, hz1, hz2⟩ := info_parts infoLp.out; have HI0 := qH hi0; have HZ0 := qH hz0; have HZ1 := qH hz1; have HZ2 := qH hz2; have HC := qH (hr.flat lpEl); have HL := qH (lpEl.flat l); have H1 := qH (lpEl.ones l); clear hi0 hz0 hz1 hz2 hr; go_enter Tryz.func65, Tryz.ntmps65; go_wp2_with (at_builtin; refine wpList_append_own _ rfl _ _ 23 rfl w.heap.size 75 i0 (.agg #[.int .i64 0, .int .i64 0, .string ⟨#[]⟩]) 3 32 HU.out HI0.out HZ0.out HZ1.out HZ2.out rfl (by decide) _ _ _ rfl (World.ownsRow_made w #[] 0 (Nat.le_refl _) (Nat.zero_le _) (by simp)) a l.length cap (l.flatMap lpC) rfl ?qc1 ?qc2 ?qc3 ?qc4 ?qc5 ?qc6 ?_)
  case qc1 => exact HL.out
  case qc2 =>
   intro j u hj; exact Lib.cell?_alloc_some _ (HC.out j u hj)
  case qc3 => exact H1.out
  case qc4 => rw [Nat.zero_add]; unfold maxLen; omega
  case qc5 => rw [Nat.zero_add]; omega
  case qc6 => simp
  intro v' w1 hown hgrow hnil; go_wp2_with fail; go_ret; exact ⟨⟨v', rfl, by unfold Own; simpa using hown⟩, ((Below.refl _ w).alloc (Nat.le_refl _) _).grown hgrow (by simp) (by intro k hk; simp [Value.ownBlock] at hk; omega)⟩
theorem infoTg : Hid ((Tryz.prog.info? 9).map (fun i => (i.zero, i.size, i.bytes)) = some (some (.string ⟨#[]⟩), 1, 16)) := qH (by kernel_rfl)
theorem underTg : Hid (Tryz.prog.underlying 24 = some (.slice 9)) := qH (by kernel_rfl)
theorem cloneTg_any (a : Option Addr) (l : List ByteArray) (cap : Nat) (w : World) (hr : Rw tgC 1 w a l) (hl : l.length ≤ 1000000) :
 Calls Tryz.prog 66 #[.slice a l.length cap] w fun e w' => (∃ v, e = .returned v ∧ Own tgC 1 9 w' w.heap.size v l) ∧ Below w.heap.size w w' := by
 have HU := underTg; have hq : ∀ (w : World) (a : Option Addr) (n c n' c' : Nat), (binOp .eql 24 (.slice a n c) (.slice none n' c')).run Tryz.prog w = .ok (.bool a.isNone) w := fun w a n c n' c' => Lib.run_eql_slice_nil w _ _ a n c n' c' HU.out
 have u22 : ∀ w, Sem.run Tryz.prog (underlying 24) w = .ok (TypeDesc.slice 9) w := run_underlying HU.out
 cases a with
 | none =>
  have h0 := hr.nil_of; subst h0; clear hr; go_enter Tryz.func66, Tryz.ntmps66; go_wp2_with fail; go_ret; exact ⟨⟨_, rfl, Own.nil _ _ _ _ _⟩, Below.refl _ _⟩
 | some a =>
  obtain ⟨i0, hi0, hz0, hz1, hz2⟩ := info_parts infoTg.out; have HI0 := qH hi0; have HZ0 := qH hz0; have HZ1 := qH hz1; have HZ2 := qH hz2; have HC := qH (hr.flat tgEl); have HL := qH (tgEl.flat l); have H1 := qH (tgEl.ones l); clear hi0 hz0 hz1 hz2 hr; go_enter Tryz.func66, Tryz.ntmps66; go_wp2_with (at_builtin; refine wpList_append_own _ rfl _ _ 24 rfl w.heap.size 9 i0 (.string ⟨#[]⟩) 1 16 HU.out HI0.out HZ0.out HZ1.out HZ2.out rfl (by decide) _ _ _ rfl (World.ownsRow_made w #[] 0 (Nat.le_refl _) (Nat.zero_le _) (by simp)) a l.length cap (l.flatMap tgC) rfl ?qc1 ?qc2 ?qc3 ?qc4 ?qc5 ?qc6 ?_)
  case qc1 => exact HL.out
  case qc2 =>
   intro j u hj; exact Lib.cell?_alloc_some _ (HC.out j u hj)
  case qc3 => exact H1.out
  case qc4 => rw [Nat.zero_add]; unfold maxLen; omega
  case qc5 => rw [Nat.zero_add]; omega
  case qc6 => simp
  intro v' w1 hown hgrow hnil; go_wp2_with fail; go_ret; exact ⟨⟨v', rfl, by unfold Own; simpa using hown⟩, ((Below.refl _ w).alloc (Nat.le_refl _) _).grown hgrow (by simp) (by intro k hk; simp [Value.ownBlock] at hk; omega)⟩
theorem spanS_last {l : List Sm} {s : Sm} (h : l[l.length - 1]? = some s) : spanS l = s.tm := by
 unfold spanS; rw [h]
theorem where_cases {start n : Int} {l : List Sm} (ho : SmOk start l) (hne : 0 < l.length) (h0 : 0 ≤ n) (h1 : n ≤ spanS l) :
 ∃ q, l[lbS l n]? = some q ∧ ((q.tm = n ∧ whereS l n = q ∧ foundS l n = true) ∨ (q.tm ≠ n ∧ foundS l n = false ∧ ∃ j p, lbS l n = j + 1 ∧ l[j]? = some p ∧ Btw p q n ∧ whereS l n = amidS p q n)) := by
 obtain ⟨z, hz⟩ : ∃ z, l[l.length - 1]? = some z := ⟨_, List.getElem?_eq_getElem (by omega)⟩; have hsp := spanS_last hz; have hlt : lbS l n < l.length := by
  have := lbS_le l n; by_cases e : lbS l n = l.length
  · have := lbS_before l n (l.length - 1) z (by omega) hz
    omega
  · omega
 obtain ⟨q, hq⟩ : ∃ q, l[lbS l n]? = some q := ⟨_, List.getElem?_eq_getElem hlt⟩; refine ⟨q, hq, ?_⟩; have hge := lbS_at l n q hq; by_cases e : q.tm = n
 · refine Or.inl ⟨e, ?_, ?_⟩
   · unfold whereS
     rw [hq]; simp only; rw [if_pos e]
   · unfold foundS
     rw [hq]; simp [e]
 · refine Or.inr ⟨e, by unfold foundS; rw [hq]; simp [e], ?_⟩
   cases hk : lbS l n with
   | zero =>
    rw [hk] at hq; have := ho.first q hq; omega
   | succ j =>
    obtain ⟨p, hp⟩ : ∃ p, l[j]? = some p := ⟨_, List.getElem?_eq_getElem (by omega)⟩; have hb := lbS_before l n j p (by omega) hp; rw [hk] at hq; refine ⟨j, p, rfl, hp, ⟨(ho.upto j p hp).2.2, (ho.upto _ q hq).2.2, by omega, hge, ho.next j p q hp hq, ho.nonneg hp, (ho.upto _ q hq).1⟩, ?_⟩; unfold whereS; rw [hk, hq]; simp only; rw [if_neg e, Nat.add_sub_cancel, hp]
theorem where_any (A : Acv) (a b c : Option Addr) (ca cb cc : Nat) (n : Int) (w : World) (h : Rw smC 7 w a A.sm) (ho : SmOk A.start A.sm) (hl : A.sm.length ≤ 20000) (hne : 0 < A.sm.length) (h0 : 0 ≤ n) (h1 : n ≤ spanS A.sm) :
 Calls Tryz.prog 227 #[actV A a b c ca cb cc, .int .i64 n] w fun e w' => e = .returned (smV (whereS A.sm n)) ∧ Below w.heap.size w w' := by
 obtain ⟨q, hq, hw⟩ := where_cases ho hne h0 h1; have HI := smSize; have DS := fun (W : World) (hb : Below w.heap.size w W) => searchS_any a A.sm ca n A.start W (h.below hb) ho hl
 unfold actV at *; have hki := (List.getElem?_eq_some_iff.1 hq).1; have HLI : Hid (∀ i : Nat, i ≤ A.sm.length → (∀ s : Sm, 0 < i → A.sm[i - 1]? = some s → s.tm < n) → (∀ s : Sm, A.sm[i]? = some s → n ≤ s.tm) → lbS A.sm n = i) := qH (fun i hi h1 h2 => lbS_halved ho hi h1 h2); have HLAST := qH (show ∀ s : Sm, A.sm[A.sm.length - 1]? = some s → n ≤ s.tm from fun s hs => by rw [spanS_last hs] at h1; exact h1); obtain ⟨k, hk⟩ : ∃ k, lbS A.sm n = k := ⟨_, rfl⟩; obtain ⟨m, hm⟩ : ∃ m, A.sm.length = m := ⟨_, rfl⟩; have HN := qH hm; have HK := qH hk; rw [hm] at hl hki HLI HLAST ⊢; rw [hk] at hq hw hki HLI DS; rw [hm] at DS; obtain ⟨ba, oa, rfl, hba, hc⟩ := h.at hq; have HROW := qH h; have q0 : w.cell? ⟨ba, oa + k * 7, none⟩ = some (.int .i64 q.tm) := hc 0 _ rfl; have q1 := hc 1 _ rfl; have q2 := hc 2 _ rfl; have q3 := hc 3 _ rfl; have q4 := hc 4 _ rfl; have q5 := hc 5 _ rfl; have q6 := hc 6 _ rfl; generalize A.lp.length = m2 at *; generalize A.tg.length = m3 at *; obtain ⟨V0, hV0, hb0, hs0, hl0⟩ := alloc_cells w #[.string A.name, .int .i64 A.sport, .int .i64 A.start, .slice (some ⟨ba, oa, none⟩) m ca, .slice b m2 cb, .slice c m3 cc] 26; obtain ⟨V1, hV1, hb1, hs1, hl1⟩ := alloc_sm V0 sm0; rw [hs0] at hl1; unfold sm0 at hV1; have B3 := ExtO.ex (O := fun b => b = w.heap.size + 1) (show ¬ w.heap.size = w.heap.size + 1 by omega) (bCel hb1 (hl0 3 _ rfl)); have hbq : ¬ ba = w.heap.size + 1 := by omega
 have Q0 := ExtO.ex (O := fun b => b = w.heap.size + 1) hbq (bCel hb1 (bCel hb0 q0)); have Q1 := ExtO.ex (O := fun b => b = w.heap.size + 1) hbq (bCel hb1 (bCel hb0 q1)); have Q2 := ExtO.ex (O := fun b => b = w.heap.size + 1) hbq (bCel hb1 (bCel hb0 q2)); have Q3 := ExtO.ex (O := fun b => b = w.heap.size + 1) hbq (bCel hb1 (bCel hb0 q3)); have Q4 := ExtO.ex (O := fun b => b = w.heap.size + 1) hbq (bCel hb1 (bCel hb0 q4)); have Q5 := ExtO.ex (O := fun b => b = w.heap.size + 1) hbq (bCel hb1 (bCel hb0 q5)); have Q6 := ExtO.ex (O := fun b => b = w.heap.size + 1) hbq (bCel hb1 (bCel hb0 q6)); have HBQ := qH hbq; have HR := qH hl1; have HB := qH (bStp hb0 hb1); have HB0 := qH hb0; have HB1 := qH hb1; have HV0 := qH hV0; have HV1 := qH hV1; have hkb : (k : Int) ≤ 20000 := by omega
 have hmb : (m : Int) ≤ 20000 := by omega
 have DS := qH (fun (W : World) (hb : Below V1.heap.size V1 W) => DS W (bStp (bStp hb0 hb1) hb)); clear hq hc q0 q1 q2 q3 q4 q5 q6 h hV0 hb0 hs0 hl0 hV1 hb1 hs1 hl1 hk hm hbq; rcases hw with ⟨he, hv, hf⟩ | ⟨he, hf, j, p, rfl, hp, hbt, hv⟩
 · rw [hv]
   rw [hf] at DS; clear hv hf he; unfold smV; go_enter Tryz.func227, Tryz.ntmps227; go_upto_region 1 with (fail); rw [HV0.out, HV1.out]; refine ext_wp fun X => ?_
   have B3x := B3 ⟨X.1, Kept.of_below X.2⟩; go_wp2_with fail; refine (DS.out X.1 X.2).mono ?_; rintro e w1 ⟨rfl, hb⟩; obtain ⟨Y, rfl⟩ : ∃ Y : Ext V1, w1 = Y.1 := ⟨⟨w1, bStp X.2 hb⟩, rfl⟩; clear hb B3x; have HRZ : Hid (SmB Y.1 (w.heap.size + 1) sm0) := qH (HR.out.below Y.2); obtain ⟨r0, r1, r2, r3, r4, r5, r6⟩ := HRZ.out.cell; have fr := HRZ.out.free; have f0 := fr 0; have f1 := fr 1; have f2 := fr 2; have f3 := fr 3; have f4 := fr 4; have f5 := fr 5; have f6 := fr 6; unfold sm0 at r0 r1 r2 r3 r4 r5 r6
   try simp only at r0 r1 r2 r3 r4 r5 r6
   clear fr; obtain ⟨WE, hWE, hWB, hWK⟩ := HRZ.out.store q; have HWE := qH hWE; have HWB := qH (And.intro hWB (show Below w.heap.size w WE from Kept.below (bStp HB.out Y.2) (hWK (fun b => b = w.heap.size + 1) rfl) (bStp HB.out Y.2).size (fun k hk e => by omega))); have B3z := B3 ⟨Y.1, Kept.of_below Y.2⟩; have Q0z := Q0 ⟨Y.1, Kept.of_below Y.2⟩; have Q1z := Q1 ⟨Y.1, Kept.of_below Y.2⟩; have Q2z := Q2 ⟨Y.1, Kept.of_below Y.2⟩; have Q3z := Q3 ⟨Y.1, Kept.of_below Y.2⟩; have Q4z := Q4 ⟨Y.1, Kept.of_below Y.2⟩; have Q5z := Q5 ⟨Y.1, Kept.of_below Y.2⟩; have Q6z := Q6 ⟨Y.1, Kept.of_below Y.2⟩; clear hWE hWB hWK B3 Q0 Q1 Q2 Q3 Q4 Q5 Q6; go_wp2_with fail; rw [HWE.out]; exact bodyPost_ret (v := _) (results_cell_row Tryz.results227 _ _ (w.heap.size + 1) _ _ _ _ rfl HWB.out.1 Tryz.underlying72 rfl HI.out) rfl ⟨rfl, HWB.out.2⟩
 · rw [hv]
   rw [hf] at DS; have hcp := HROW.out.on hp; have p0 : w.cell? ⟨ba, oa + j * 7, none⟩ = some (.int .i64 p.tm) := hcp 0 _ rfl; have p1 := hcp 1 _ rfl; have p2 := hcp 2 _ rfl; have p3 := hcp 3 _ rfl; have p4 := hcp 4 _ rfl; have p5 := hcp 5 _ rfl; have p6 := hcp 6 _ rfl; have P0 := ExtO.ex (O := fun b => b = w.heap.size + 1) HBQ.out (bCel HB1.out (bCel HB0.out p0)); have P1 := ExtO.ex (O := fun b => b = w.heap.size + 1) HBQ.out (bCel HB1.out (bCel HB0.out p1)); have P2 := ExtO.ex (O := fun b => b = w.heap.size + 1) HBQ.out (bCel HB1.out (bCel HB0.out p2)); have P3 := ExtO.ex (O := fun b => b = w.heap.size + 1) HBQ.out (bCel HB1.out (bCel HB0.out p3)); have P4 := ExtO.ex (O := fun b => b = w.heap.size + 1) HBQ.out (bCel HB1.out (bCel HB0.out p4)); have P5 := ExtO.ex (O := fun b => b = w.heap.size + 1) HBQ.out (bCel HB1.out (bCel HB0.out p5)); have P6 := ExtO.ex (O := fun b => b = w.heap.size + 1) HBQ.out (bCel HB1.out (bCel HB0.out p6)); have DA := qH (fun W => amid_any p q n W hbt); have hwr : IntKind.i64.wrap ((j : Int) + 1 - 1) = (j : Int) := by rw [IntKind.wrap_i64]; omega
   have hsub : (j : Int) + 1 - 1 = (j : Int) := by omega
   have hjm : j < m := by omega
   generalize amidS p q n = am at *; obtain ⟨am1, am2, am3, am4, am5, am6, am7⟩ := am; clear hv hf he hp hbt hcp p0 p1 p2 p3 p4 p5 p6; unfold smV at *; simp only at *; go_enter Tryz.func227, Tryz.ntmps227; go_upto_region 1 with (fail); rw [HV0.out, HV1.out]; refine ext_wp fun X => ?_
   have B3x := B3 ⟨X.1, Kept.of_below X.2⟩; go_wp2_with fail; refine (DS.out X.1 X.2).mono ?_; rintro e w1 ⟨rfl, hb⟩; obtain ⟨Y, rfl⟩ : ∃ Y : Ext V1, w1 = Y.1 := ⟨⟨w1, bStp X.2 hb⟩, rfl⟩; clear hb B3x; go_wp2_with fail; have HRZ0 : Hid (SmB Y.1 (w.heap.size + 1) sm0) := qH (HR.out.below Y.2); have HBZ := qH (bStp HB.out Y.2); obtain ⟨V3, hV3⟩ : ∃ V, Y.1 = V := ⟨_, rfl⟩; have HV31 := qH (show Kept (fun b => b = w.heap.size + 1) V1 V3 from hV3 ▸ Kept.of_below Y.2); have B3z := ExtO.re HV31.out B3; have P0z := ExtO.re HV31.out P0; have P1z := ExtO.re HV31.out P1; have P2z := ExtO.re HV31.out P2; have P3z := ExtO.re HV31.out P3; have P4z := ExtO.re HV31.out P4; have P5z := ExtO.re HV31.out P5; have P6z := ExtO.re HV31.out P6; have Q0z := ExtO.re HV31.out Q0; have Q1z := ExtO.re HV31.out Q1; have Q2z := ExtO.re HV31.out Q2; have Q3z := ExtO.re HV31.out Q3; have Q4z := ExtO.re HV31.out Q4; have Q5z := ExtO.re HV31.out Q5; have Q6z := ExtO.re HV31.out Q6; rw [hV3] at HRZ0 HBZ; rw [hV3]; clear hV3 B3 P0 P1 P2 P3 P4 P5 P6 Q0 Q1 Q2 Q3 Q4 Q5 Q6; refine held_start (C := fun w' => ∃ Z : ExtO (fun b => b = w.heap.size + 1) V3, w' = Z.1) (by kernel_rfl) ?_; obtain ⟨Z0, hZ0⟩ : ∃ Z : ExtO (fun b => b = w.heap.size + 1) V3, ({ V3 with drawn := V3.drawn + 1 } : World) = Z.1 := ⟨⟨{ V3 with drawn := V3.drawn + 1 }, ⟨rfl, rfl, rfl, Nat.le_refl _, fun _ _ _ => rfl⟩⟩, rfl⟩; have HRZ1 : Hid (SmB Z0.1 (w.heap.size + 1) sm0) := qH (hZ0 ▸ HRZ0.out.below ⟨rfl, rfl, rfl, Nat.le_refl _, fun _ _ => rfl⟩); rw [hZ0]; clear hZ0; refine held_quiet (by kernel_rfl) (fun _ _ d _ _ h => by cases d <;> exact h) ⟨Z0, rfl⟩ [0, 1, 2, 3, 4, 5, 6, 7, 8, 9, 10, 11] 2 _ _ (by kernel_rfl) ?_; change wpQuiet _ _ _ _ (_ :: _ :: _ :: _ :: _ :: _ :: _ :: _ :: _ :: _ :: _ :: _ :: []) _
   repeat go_big_quiet_step (fail)
   refine wpQuiet_nil ?_; refine held_do (i := 12) _ rfl (by kernel_rfl) rfl (fun K hK => ?_); go_simp; refine (DA.out _).mono ?_; rintro e w3 ⟨rfl, hb⟩; obtain ⟨Z3, rfl⟩ : ∃ Z : ExtO (fun b => b = w.heap.size + 1) V3, w3 = Z.1 := ⟨⟨w3, Z0.2.trans (Kept.of_below hb)⟩, rfl⟩; have HRZ : Hid (SmB Z3.1 (w.heap.size + 1) sm0) := qH (HRZ1.out.below hb); refine hK _ _ ⟨Z3, rfl⟩ ?_; clear hK K hb
   try simp only [pS]
   obtain ⟨r0, r1, r2, r3, r4, r5, r6⟩ := HRZ.out.cell; have fr := HRZ.out.free; have f0 := fr 0; have f1 := fr 1; have f2 := fr 2; have f3 := fr 3; have f4 := fr 4; have f5 := fr 5; have f6 := fr 6; unfold sm0 at r0 r1 r2 r3 r4 r5 r6
   try simp only at r0 r1 r2 r3 r4 r5 r6
   clear fr; obtain ⟨WE, hWE, hWB, hWK⟩ := HRZ.out.store ⟨am1, am2, am3, am4, am5, am6, am7⟩; have HWE := qH hWE; have HKE := qH (Z3.2.trans (hWK (fun b => b = w.heap.size + 1) rfl)); have HWB := qH (And.intro hWB (show Below w.heap.size w WE from Kept.below HBZ.out HKE.out HBZ.out.size (fun k hk e => by omega))); clear hWE hWB hWK; refine held_do (i := 13) _ rfl (by kernel_rfl) rfl (fun K hK => ?_); go_simp; rw [HWE.out]; refine hK _ _ ⟨⟨WE, HKE.out⟩, rfl⟩ ?_; clear hK K
   try simp only [pS]
   refine wpAnyH_done (by kernel_rfl) ?_ _; go_wp2_with fail; exact bodyPost_ret (v := _) (results_cell_row Tryz.results227 _ _ (w.heap.size + 1) _ _ _ _ rfl HWB.out.1 Tryz.underlying72 rfl HI.out) rfl ⟨rfl, HWB.out.2⟩
theorem rwhere_any (A : Acv) (a b c : Option Addr) (ca cb cc : Nat) (n : Int) (w : World) (h : Rw smC 7 w a A.sm) (ho : SmOk A.start A.sm) (hl : A.sm.length ≤ 20000) (hne : 0 < A.sm.length) (h0 : 0 ≤ n) (h1 : n ≤ spanS A.sm) :
 Calls Tryz.prog 84 #[actV A a b c ca cb cc, .int .i64 n] w fun e w' => e = .returned (smV (whereS A.sm n)) ∧ Below w.heap.size w w' := by
 obtain ⟨q, hq, hw⟩ := where_cases ho hne h0 h1; have HI := smSize; unfold actV at *; have hki := (List.getElem?_eq_some_iff.1 hq).1; have HLI : Hid (∀ i : Nat, i ≤ A.sm.length → (∀ s : Sm, 0 < i → A.sm[i - 1]? = some s → s.tm < n) → (∀ s : Sm, A.sm[i]? = some s → n ≤ s.tm) → lbS A.sm n = i) := qH (fun i hi h1 h2 => lbS_halved ho hi h1 h2); have HLAST := qH (show ∀ s : Sm, A.sm[A.sm.length - 1]? = some s → n ≤ s.tm from fun s hs => by rw [spanS_last hs] at h1; exact h1); obtain ⟨k, hk⟩ : ∃ k, lbS A.sm n = k := ⟨_, rfl⟩; obtain ⟨m, hm⟩ : ∃ m, A.sm.length = m := ⟨_, rfl⟩; have HN := qH hm; have HK := qH hk; rw [hm] at hl hki HLI HLAST ⊢; rw [hk] at hq hw hki HLI; obtain ⟨ba, oa, rfl, hba, hc⟩ := h.at hq; have HROW := qH h; have q0 : w.cell? ⟨ba, oa + k * 7, none⟩ = some (.int .i64 q.tm) := hc 0 _ rfl; have q1 := hc 1 _ rfl; have q2 := hc 2 _ rfl; have q3 := hc 3 _ rfl; have q4 := hc 4 _ rfl; have q5 := hc 5 _ rfl; have q6 := hc 6 _ rfl; generalize A.lp.length = m2 at *; generalize A.tg.length = m3 at *; obtain ⟨V0, hV0, hb0, hs0, hl0⟩ := alloc_cells w #[.string A.name, .int .i64 A.sport, .int .i64 A.start, .slice (some ⟨ba, oa, none⟩) m ca, .slice b m2 cb, .slice c m3 cc] 26; obtain ⟨V1, hV1, hb1, hs1, hl1⟩ := alloc_sm V0 sm0; rw [hs0] at hl1; unfold sm0 at hV1; have B3 := ExtO.ex (O := fun b => b = w.heap.size + 1) (show ¬ w.heap.size = w.heap.size + 1 by omega) (bCel hb1 (hl0 3 _ rfl)); have hbq : ¬ ba = w.heap.size + 1 := by omega
 have Q0 := ExtO.ex (O := fun b => b = w.heap.size + 1) hbq (bCel hb1 (bCel hb0 q0)); have Q1 := ExtO.ex (O := fun b => b = w.heap.size + 1) hbq (bCel hb1 (bCel hb0 q1)); have Q2 := ExtO.ex (O := fun b => b = w.heap.size + 1) hbq (bCel hb1 (bCel hb0 q2)); have Q3 := ExtO.ex (O := fun b => b = w.heap.size + 1) hbq (bCel hb1 (bCel hb0 q3)); have Q4 := ExtO.ex (O := fun b => b = w.heap.size + 1) hbq (bCel hb1 (bCel hb0 q4)); have Q5 := ExtO.ex (O := fun b => b = w.heap.size + 1) hbq (bCel hb1 (bCel hb0 q5)); have Q6 := ExtO.ex (O := fun b => b = w.heap.size + 1) hbq (bCel hb1 (bCel hb0 q6)); have HBQ := qH hbq; have HR := qH hl1; have HB := qH (bStp hb0 hb1); have HB0 := qH hb0; have HB1 := qH hb1; have HV0 := qH hV0; have HV1 := qH hV1; have hkb : (k : Int) ≤ 20000 := by omega
 have hmb : (m : Int) ≤ 20000 := by omega
 clear hq hc q0 q1 q2 q3 q4 q5 q6 h hV0 hb0 hs0 hl0 hV1 hb1 hs1 hl1 hk hm hbq; have hm0 : 0 < m := by omega
 have hm1 : (m : Int) - 1 = ((m - 1 : Nat) : Int) := by omega
 have hwm : IntKind.i64.wrap ((m : Int) - 1) = ((m - 1 : Nat) : Int) := by rw [IntKind.wrap_i64]; omega
 have HROWX := qH (fun (X : Ext V1) (i : Nat) (s : Sm) (hs : A.sm[i]? = some s) => show X.1.cell? ⟨ba, oa + i * 7, none⟩ = some (.int .i64 s.tm) from bCel X.2 (bCel HB.out (HROW.out.on hs 0 _ rfl))); have B3x : ∀ X : Ext V1, X.1.cell? ⟨w.heap.size, 3, none⟩ = _ := fun X => B3 ⟨X.1, Kept.of_below X.2⟩
 go_enter Tryz.func84, Tryz.ntmps84; go_upto_region 1 with (fail); rw [HV0.out, HV1.out]; refine ext_wp fun X => ?_
 refine wp_region_ext (W := V1) _ (by kernel_rfl) (by kernel_rfl) ?_
 repeat go_big_quiet_step (fail)
 refine wpQuiet_nil ?_; rintro _ ⟨Y, rfl⟩; go_wp2_with fail
 go_loopw [5, 6] (fun iv jv wr => ∃ (i j : Nat), iv = .int .i64 i ∧ jv = .int .i64 j ∧ i ≤ j ∧ j < m ∧ Hid ((∀ s : Sm, 0 < i → A.sm[i - 1]? = some s → s.tm < n) ∧ (∀ s : Sm, A.sm[j]? = some s → n ≤ s.tm)) ∧ ∃ X : Ext V1, wr = X.1) (fun iv jv _ => (intOf jv).toNat - (intOf iv).toNat)
 case atStart => exact ⟨0, m - 1, rfl, rfl, by omega, by omega, qH ⟨fun s h => by omega, HLAST.out⟩, Y, rfl⟩
 case round =>
  obtain ⟨i, j, rfl, rfl, hij, hj, HE, X, rfl⟩ := hrel; have hb1 : (i : Int) ≤ 20000 := by omega
  have hb2 : (j : Int) ≤ 20000 := by omega
  by_cases hlt : i < j
  · have t1 : decide ((i : Int) < (j : Int)) = true := dTt (by omega)
    have t1' : decide (i < j) = true := by simpa using hlt
    obtain ⟨r, hr⟩ : ∃ r : Nat, (i + j) / 2 = r := ⟨_, rfl⟩; have ek : ((i : Int) + (j : Int)) / 2 = (r : Int) := by omega
    have hri : i ≤ r := by omega
    have hrj : r < j := by omega
    have hrm : r < m := by omega
    have hb3 : (r : Int) ≤ 20000 := by omega
    obtain ⟨s, hx⟩ : ∃ s, A.sm[r]? = some s := ⟨_, List.getElem?_eq_getElem (by rw [HN.out]; exact hrm)⟩; have c0 := HROWX.out X r s hx; have HHX := qH hx; clear hr hx; by_cases hs : s.tm < n
    · have t3 : decide (s.tm < n) = true := decide_eq_true hs
      have HH := qH (show (∀ z : Sm, 0 < r + 1 → A.sm[r + 1 - 1]? = some z → z.tm < n) ∧ (∀ z : Sm, A.sm[j]? = some z → n ≤ z.tm) from ⟨fun z _ hz => by
       rw [Nat.add_sub_cancel, HHX.out] at hz; injection hz with hz; subst hz; exact hs, HE.out.2⟩)
      clear hs HE; go_wp2_with fail
      go_roundw
      case rel => exact ⟨r + 1, j, by go_num, rfl, by omega, hj, HH, X, rfl⟩
      case measure => simp [intOf]; omega
    · have t3 : decide (s.tm < n) = false := decide_eq_false hs
      have HH := qH (show (∀ z : Sm, 0 < i → A.sm[i - 1]? = some z → z.tm < n) ∧ (∀ z : Sm, A.sm[r]? = some z → n ≤ z.tm) from ⟨HE.out.1, fun z hz => by
       rw [HHX.out] at hz; injection hz with hz; subst hz; omega⟩)
      clear hs HE; go_wp2_with fail
      go_roundw
      case rel => exact ⟨i, r, rfl, by rw [ek], hri, by omega, HH, X, rfl⟩
      case measure => simp [intOf]; omega
  · have t1 : decide ((i : Int) < (j : Int)) = false := dFf (by omega)
    have t1' : decide (i < j) = false := by simpa using hlt
    obtain rfl : i = j := by omega
    obtain rfl := HLI.out i (by omega) HE.out.1 HE.out.2; clear HE hlt hij; rcases hw with ⟨he, hv, hf⟩ | ⟨he, hf, j, p, rfl, hp, hbt, hv⟩
    · have e0 := beqT he
      have HV := qH hv; clear hf he B3x hv; have HRZ : Hid (SmB X.1 (w.heap.size + 1) sm0) := qH (HR.out.below X.2); obtain ⟨r0, r1, r2, r3, r4, r5, r6⟩ := HRZ.out.cell; have fr := HRZ.out.free; have f0 := fr 0; have f1 := fr 1; have f2 := fr 2; have f3 := fr 3; have f4 := fr 4; have f5 := fr 5; have f6 := fr 6; unfold sm0 at r0 r1 r2 r3 r4 r5 r6
      try simp only at r0 r1 r2 r3 r4 r5 r6
      clear fr; obtain ⟨WE, hWE, hWB, hWK⟩ := HRZ.out.store q; have HWE := qH hWE; have HWB := qH (And.intro hWB (show Below w.heap.size w WE from Kept.below (bStp HB.out X.2) (hWK (fun b => b = w.heap.size + 1) rfl) (bStp HB.out X.2).size (fun k hk e => by omega))); have B3z := B3 ⟨X.1, Kept.of_below X.2⟩; have Q0z := Q0 ⟨X.1, Kept.of_below X.2⟩; have Q1z := Q1 ⟨X.1, Kept.of_below X.2⟩; have Q2z := Q2 ⟨X.1, Kept.of_below X.2⟩; have Q3z := Q3 ⟨X.1, Kept.of_below X.2⟩; have Q4z := Q4 ⟨X.1, Kept.of_below X.2⟩; have Q5z := Q5 ⟨X.1, Kept.of_below X.2⟩; have Q6z := Q6 ⟨X.1, Kept.of_below X.2⟩; clear hWE hWB hWK B3 Q0 Q1 Q2 Q3 Q4 Q5 Q6; go_wp2_with fail; rw [HWE.out]; exact bodyPost_ret (v := _) (results_cell_row Tryz.results84 _ _ (w.heap.size + 1) _ _ _ _ rfl HWB.out.1 Tryz.underlying72 rfl HI.out) rfl ⟨by rw [HV.out]; rfl, HWB.out.2⟩
    · have e0 := beqF he
      have e0' : (q.tm == n) = false := e0; have hcp := HROW.out.on hp; have p0 : w.cell? ⟨ba, oa + j * 7, none⟩ = some (.int .i64 p.tm) := hcp 0 _ rfl; have p1 := hcp 1 _ rfl; have p2 := hcp 2 _ rfl; have p3 := hcp 3 _ rfl; have p4 := hcp 4 _ rfl; have p5 := hcp 5 _ rfl; have p6 := hcp 6 _ rfl; have P0 := ExtO.ex (O := fun b => b = w.heap.size + 1) HBQ.out (bCel HB1.out (bCel HB0.out p0)); have P1 := ExtO.ex (O := fun b => b = w.heap.size + 1) HBQ.out (bCel HB1.out (bCel HB0.out p1)); have P2 := ExtO.ex (O := fun b => b = w.heap.size + 1) HBQ.out (bCel HB1.out (bCel HB0.out p2)); have P3 := ExtO.ex (O := fun b => b = w.heap.size + 1) HBQ.out (bCel HB1.out (bCel HB0.out p3)); have P4 := ExtO.ex (O := fun b => b = w.heap.size + 1) HBQ.out (bCel HB1.out (bCel HB0.out p4)); have P5 := ExtO.ex (O := fun b => b = w.heap.size + 1) HBQ.out (bCel HB1.out (bCel HB0.out p5)); have P6 := ExtO.ex (O := fun b => b = w.heap.size + 1) HBQ.out (bCel HB1.out (bCel HB0.out p6)); have DA := qH (fun W => rat_any p q n W hbt); have hwr : IntKind.i64.wrap ((j : Int) + 1 - 1) = (j : Int) := by rw [IntKind.wrap_i64]; omega
      have hsub : (j : Int) + 1 - 1 = (j : Int) := by omega
      have hjm : j < m := by omega
      have Q0x : X.1.cell? ⟨ba, oa + (j + 1) * 7, none⟩ = _ := Q0 ⟨X.1, Kept.of_below X.2⟩; obtain ⟨am, ham⟩ : ∃ am, amidS p q n = am := ⟨_, rfl⟩; rw [ham] at hv DA; obtain ⟨am1, am2, am3, am4, am5, am6, am7⟩ := am; have HV := qH hv; clear hv ham hf he hp hbt hcp p0 p1 p2 p3 p4 p5 p6; unfold smV at DA; go_wp2_with fail; clear B3x Q0x; have HRZ0 : Hid (SmB X.1 (w.heap.size + 1) sm0) := qH (HR.out.below X.2); have HBZ := qH (bStp HB.out X.2); obtain ⟨V3, hV3⟩ : ∃ V, X.1 = V := ⟨_, rfl⟩; have HV31 := qH (show Kept (fun b => b = w.heap.size + 1) V1 V3 from hV3 ▸ Kept.of_below X.2); have B3z := ExtO.re HV31.out B3; have P0z := ExtO.re HV31.out P0; have P1z := ExtO.re HV31.out P1; have P2z := ExtO.re HV31.out P2; have P3z := ExtO.re HV31.out P3; have P4z := ExtO.re HV31.out P4; have P5z := ExtO.re HV31.out P5; have P6z := ExtO.re HV31.out P6; have Q0z := ExtO.re HV31.out Q0; have Q1z := ExtO.re HV31.out Q1; have Q2z := ExtO.re HV31.out Q2; have Q3z := ExtO.re HV31.out Q3; have Q4z := ExtO.re HV31.out Q4; have Q5z := ExtO.re HV31.out Q5; have Q6z := ExtO.re HV31.out Q6; rw [hV3] at HRZ0 HBZ; rw [hV3]; clear hV3 B3 P0 P1 P2 P3 P4 P5 P6 Q0 Q1 Q2 Q3 Q4 Q5 Q6; refine held_start (C := fun w' => ∃ Z : ExtO (fun b => b = w.heap.size + 1) V3, w' = Z.1) (by kernel_rfl) ?_; obtain ⟨Z0, hZ0⟩ : ∃ Z : ExtO (fun b => b = w.heap.size + 1) V3, ({ V3 with drawn := V3.drawn + 1 } : World) = Z.1 := ⟨⟨{ V3 with drawn := V3.drawn + 1 }, ⟨rfl, rfl, rfl, Nat.le_refl _, fun _ _ _ => rfl⟩⟩, rfl⟩; have HRZ1 : Hid (SmB Z0.1 (w.heap.size + 1) sm0) := qH (hZ0 ▸ HRZ0.out.below ⟨rfl, rfl, rfl, Nat.le_refl _, fun _ _ => rfl⟩); rw [hZ0]; clear hZ0; refine held_quiet (by kernel_rfl) (fun _ _ d _ _ h => by cases d <;> exact h) ⟨Z0, rfl⟩ [0, 1, 2, 3, 4, 5, 6, 7, 8, 9, 10, 11] 2 _ _ (by kernel_rfl) ?_; change wpQuiet _ _ _ _ (_ :: _ :: _ :: _ :: _ :: _ :: _ :: _ :: _ :: _ :: _ :: _ :: []) _
      repeat go_big_quiet_step (fail)
      refine wpQuiet_nil ?_; refine held_do (i := 12) _ rfl (by kernel_rfl) rfl (fun K hK => ?_); go_simp; refine (DA.out _).mono ?_; rintro e w3 ⟨rfl, hb⟩; obtain ⟨Z3, rfl⟩ : ∃ Z : ExtO (fun b => b = w.heap.size + 1) V3, w3 = Z.1 := ⟨⟨w3, Z0.2.trans (Kept.of_below hb)⟩, rfl⟩; have HRZ : Hid (SmB Z3.1 (w.heap.size + 1) sm0) := qH (HRZ1.out.below hb); refine hK _ _ ⟨Z3, rfl⟩ ?_; clear hK K hb
      try simp only [pS]
      obtain ⟨r0, r1, r2, r3, r4, r5, r6⟩ := HRZ.out.cell; have fr := HRZ.out.free; have f0 := fr 0; have f1 := fr 1; have f2 := fr 2; have f3 := fr 3; have f4 := fr 4; have f5 := fr 5; have f6 := fr 6; unfold sm0 at r0 r1 r2 r3 r4 r5 r6
      try simp only at r0 r1 r2 r3 r4 r5 r6
      clear fr; obtain ⟨WE, hWE, hWB, hWK⟩ := HRZ.out.store ⟨am1, am2, am3, am4, am5, am6, am7⟩; have HWE := qH hWE; have HKE := qH (Z3.2.trans (hWK (fun b => b = w.heap.size + 1) rfl)); have HWB := qH (And.intro hWB (show Below w.heap.size w WE from Kept.below HBZ.out HKE.out HBZ.out.size (fun k hk e => by omega))); clear hWE hWB hWK; refine held_do (i := 13) _ rfl (by kernel_rfl) rfl (fun K hK => ?_); go_simp; rw [HWE.out]; refine hK _ _ ⟨⟨WE, HKE.out⟩, rfl⟩ ?_; clear hK K
      try simp only [pS]
      refine wpAnyH_done (by kernel_rfl) ?_ _; go_wp2_with fail; exact bodyPost_ret (v := _) (results_cell_row Tryz.results84 _ _ (w.heap.size + 1) _ _ _ _ rfl HWB.out.1 Tryz.underlying72 rfl HI.out) rfl ⟨by rw [HV.out]; rfl, HWB.out.2⟩
def isCalm3 : Op → Bool
 | .call c => match c.callee with
  | .builtin .max => true
  | .builtin .min => true
  | _ => false
 | op => isCalm op
theorem calm_value3 {P : Program} {o : Oper} {ρ : Operand → Value} {w w' : World} {n : Next} (hc : isCalm3 o.op = true) (h : (execOp ρ o).run P w = .ok n w') : ∃ x, n = .value x := by
 obtain ⟨dst, op, type, pos, after, guard⟩ := o
 cases op
 case call c =>
  obtain ⟨callee, args, ats⟩ := c
  cases callee with
  | builtin b =>
   cases b <;> first | (simp [isCalm3] at hc; done) | (simp only [execOp, resolve, invoke, builtin, Sem.run_bind, Sem.run_pure, Result.andThen_ok] at h; exact run_val (fun x => x) (by simpa using h))
  | _ => simp [isCalm3] at hc
 all_goals exact calm_value (by exact hc) h
open Tr (Ed inR isZero united rank numOf)
theorem chkE_kind {x : Ed} (h : chkE x = 0) : 1 ≤ x.k ∧ x.k ≤ 12 := by
 unfold chkE at h
 split at h
 · cases h
 · omega
theorem rngE_zero {n lo hi : Int} (h : rngE n lo hi = 0) : lo ≤ n ∧ n ≤ hi := by
 unfold rngE at h
 split at h
 · rename_i hi
   unfold inR at hi
   simpa using hi
 · cases h
theorem chkE_num {x : Ed} (h : chkE x = 0) (hk : x.k = 5 ∨ x.k = 6) : -1000000000000 ≤ x.n ∧ x.n ≤ 1000000000000 := by
 unfold chkE at h; rw [if_neg (by omega)] at h
 split at h
 · cases h
 · unfold fieldE at h
   rcases hk with hk | hk
   · rw [if_neg (by omega), if_neg (by omega), if_pos hk] at h
     have := rngE_zero h; omega
   · rw [if_neg (by omega), if_neg (by omega), if_neg (by omega), if_pos hk] at h
     have := rngE_zero h; omega
theorem united_any (x y : Ed) (w : World) (hx : chkE x = 0) (hy : chkE y = 0) : Calls Tryz.prog 99 #[edV x, edV y] w fun e w' => UniR x y w e w' := by
 have kx := chkE_kind hx; have ky := chkE_kind hy; by_cases ht : x.k = 3 ∧ y.k = 4 ∨ x.k = 4 ∧ y.k = 3
 · exact united_tags x y w ht
 · by_cases hne : x.k = y.k
   · have nx := chkE_num hx
     have ny := chkE_num hy; obtain ⟨k, n, f, t, s⟩ := x; obtain ⟨k', n', f', t', s'⟩ := y; simp only at hne kx ky nx ny; subst hne; clear ht hx hy; rcases kinds k with rfl | rfl | rfl | rfl | rfl | rfl | rfl | rfl | rfl | rfl | rfl | rfl | h | h
     · exact united_1 n f t n' f' t' s s' w
     · exact united_2 n f t n' f' t' s s' w
     · exact united_3 n f t n' f' t' s s' w
     · exact united_4 n f t n' f' t' s s' w
     · exact united_5 n f t n' f' t' s s' w (nx (by omega)) (ny (by omega))
     · exact united_6 n f t n' f' t' s s' w (nx (by omega)) (ny (by omega))
     · exact united_7 n f t n' f' t' s s' w
     · exact united_8 n f t n' f' t' s s' w
     · exact united_9 n f t n' f' t' s s' w
     · exact united_10 n f t n' f' t' s s' w
     · exact united_11 n f t n' f' t' s s' w
     · exact united_12 n f t n' f' t' s s' w
     · omega
     · omega
   · exact united_diff x y w kx ky hne ht
theorem ta_texted_texted (v : Value) (W : World) : (Instr.typeAssert (.iface 98 v) 59 98 true).run Tryz.prog W = .ok (.tuple #[v, .bool true]) W := by kernel_rfl
theorem ta_texted_counted (v : Value) (W : World) : (Instr.typeAssert (.iface 98 v) 59 99 true).run Tryz.prog W = .ok (.tuple #[.agg #[.int .i64 0, .int .i64 0, .int .i64 0, .int .i64 0, .string ⟨#[]⟩], .bool false]) W := by kernel_rfl
theorem ta_counted_texted (v : Value) (W : World) : (Instr.typeAssert (.iface 99 v) 59 98 true).run Tryz.prog W = .ok (.tuple #[.agg #[.int .i64 0, .int .i64 0, .int .i64 0, .int .i64 0, .string ⟨#[]⟩], .bool false]) W := by kernel_rfl
theorem ta_counted_counted (v : Value) (W : World) : (Instr.typeAssert (.iface 99 v) 59 99 true).run Tryz.prog W = .ok (.tuple #[v, .bool true]) W := by kernel_rfl
theorem ta_tracked_texted (v : Value) (W : World) : (Instr.typeAssert (.iface 100 v) 59 98 true).run Tryz.prog W = .ok (.tuple #[.agg #[.int .i64 0, .int .i64 0, .int .i64 0, .int .i64 0, .string ⟨#[]⟩], .bool false]) W := by kernel_rfl
theorem ta_tracked_counted (v : Value) (W : World) : (Instr.typeAssert (.iface 100 v) 59 99 true).run Tryz.prog W = .ok (.tuple #[.agg #[.int .i64 0, .int .i64 0, .int .i64 0, .int .i64 0, .string ⟨#[]⟩], .bool false]) W := by kernel_rfl
theorem ta_parted_texted (v : Value) (W : World) : (Instr.typeAssert (.iface 101 v) 59 98 true).run Tryz.prog W = .ok (.tuple #[.agg #[.int .i64 0, .int .i64 0, .int .i64 0, .int .i64 0, .string ⟨#[]⟩], .bool false]) W := by kernel_rfl
theorem ta_parted_counted (v : Value) (W : World) : (Instr.typeAssert (.iface 101 v) 59 99 true).run Tryz.prog W = .ok (.tuple #[.agg #[.int .i64 0, .int .i64 0, .int .i64 0, .int .i64 0, .string ⟨#[]⟩], .bool false]) W := by kernel_rfl
def txtB (x : Ed) : ByteArray := if x.k = 3 ∨ x.k = 4 then x.s else noB
theorem txtB_list (x : Ed) : (txtB x).data.toList = Tr.txtOf x := by
 unfold txtB Tr.txtOf
 split
 · rfl
 · rfl
theorem place_any (x : Ed) (w : World) (hk : 1 ≤ x.k ∧ x.k ≤ 12) : Calls Tryz.prog 127 #[edV x] w fun e w' => e = .returned (.tuple #[.int .i64 (rank x.k), .int .i64 (numOf x), .string (txtB x)]) ∧ Below w.heap.size w w' := by
 have DE := qH (fun W => editOf_any x W); obtain ⟨k, n, f, t, s⟩ := x; obtain ⟨hk1, hk2⟩ := hk; rcases kinds k with rfl | rfl | rfl | rfl | rfl | rfl | rfl | rfl | rfl | rfl | rfl | rfl | h | h
 · have HE : Hid (edI ⟨1, n, f, t, s⟩ = .iface 98 (edV ⟨1, n, f, t, s⟩)) := qH rfl
   rw [HE.out] at DE; have ta1 := fun v W => ta_texted_texted v W
   have ta2 := fun v W => ta_texted_counted v W
   unfold edV at *; simp only at *; clear HE hk1 hk2; go_enter Tryz.func127, Tryz.ntmps127; go_wp2_with fail; refine (DE.out _).mono ?_; rintro e w1 ⟨rfl, hb⟩; obtain ⟨Y, rfl⟩ : ∃ Y : Ext w, w1 = Y.1 := ⟨⟨w1, (below_al w _).trans (hb.mono (by simp))⟩, rfl⟩; clear hb DE; go_wp2_with fail; exact bodyPost_ret (v := .tuple #[.int .i64 1, .int .i64 0, .string noB]) (by simp [results, Tryz.results127, go_sem]) rfl ⟨rfl, by first | exact Y.2 | exact Y.2.alloc Y.2.size _ | exact below_drewN (Y.2.alloc Y.2.size _) _⟩
 · have HE : Hid (edI ⟨2, n, f, t, s⟩ = .iface 99 (edV ⟨2, n, f, t, s⟩)) := qH rfl
   rw [HE.out] at DE; have ta1 := fun v W => ta_counted_texted v W
   have ta2 := fun v W => ta_counted_counted v W
   unfold edV at *; simp only at *; clear HE hk1 hk2; go_enter Tryz.func127, Tryz.ntmps127; go_wp2_with fail; refine (DE.out _).mono ?_; rintro e w1 ⟨rfl, hb⟩; obtain ⟨Y, rfl⟩ : ∃ Y : Ext w, w1 = Y.1 := ⟨⟨w1, (below_al w _).trans (hb.mono (by simp))⟩, rfl⟩; clear hb DE; go_wp2_with fail; exact bodyPost_ret (v := .tuple #[.int .i64 2, .int .i64 0, .string noB]) (by simp [results, Tryz.results127, go_sem]) rfl ⟨rfl, by first | exact Y.2 | exact Y.2.alloc Y.2.size _ | exact below_drewN (Y.2.alloc Y.2.size _) _⟩
 · have HE : Hid (edI ⟨3, n, f, t, s⟩ = .iface 98 (edV ⟨3, n, f, t, s⟩)) := qH rfl
   rw [HE.out] at DE; have ta1 := fun v W => ta_texted_texted v W
   have ta2 := fun v W => ta_texted_counted v W
   unfold edV at *; simp only at *; clear HE hk1 hk2; go_enter Tryz.func127, Tryz.ntmps127; go_wp2_with fail; refine (DE.out _).mono ?_; rintro e w1 ⟨rfl, hb⟩; obtain ⟨Y, rfl⟩ : ∃ Y : Ext w, w1 = Y.1 := ⟨⟨w1, (below_al w _).trans (hb.mono (by simp))⟩, rfl⟩; clear hb DE; go_wp2_with fail
   go_quiet (fail)
   go_wp2_with fail; exact bodyPost_ret (v := .tuple #[.int .i64 3, .int .i64 0, .string s]) (by simp [results, Tryz.results127, go_sem]) rfl ⟨rfl, by first | exact Y.2 | exact Y.2.alloc Y.2.size _ | exact below_drewN (Y.2.alloc Y.2.size _) _⟩
 · have HE : Hid (edI ⟨4, n, f, t, s⟩ = .iface 98 (edV ⟨4, n, f, t, s⟩)) := qH rfl
   rw [HE.out] at DE; have ta1 := fun v W => ta_texted_texted v W
   have ta2 := fun v W => ta_texted_counted v W
   unfold edV at *; simp only at *; clear HE hk1 hk2; go_enter Tryz.func127, Tryz.ntmps127; go_wp2_with fail; refine (DE.out _).mono ?_; rintro e w1 ⟨rfl, hb⟩; obtain ⟨Y, rfl⟩ : ∃ Y : Ext w, w1 = Y.1 := ⟨⟨w1, (below_al w _).trans (hb.mono (by simp))⟩, rfl⟩; clear hb DE; go_wp2_with fail
   go_quiet (fail)
   go_wp2_with fail; exact bodyPost_ret (v := .tuple #[.int .i64 3, .int .i64 0, .string s]) (by simp [results, Tryz.results127, go_sem]) rfl ⟨rfl, by first | exact Y.2 | exact Y.2.alloc Y.2.size _ | exact below_drewN (Y.2.alloc Y.2.size _) _⟩
 · have HE : Hid (edI ⟨5, n, f, t, s⟩ = .iface 99 (edV ⟨5, n, f, t, s⟩)) := qH rfl
   rw [HE.out] at DE; have ta1 := fun v W => ta_counted_texted v W
   have ta2 := fun v W => ta_counted_counted v W
   unfold edV at *; simp only at *; clear HE hk1 hk2; go_enter Tryz.func127, Tryz.ntmps127; go_wp2_with fail; refine (DE.out _).mono ?_; rintro e w1 ⟨rfl, hb⟩; obtain ⟨Y, rfl⟩ : ∃ Y : Ext w, w1 = Y.1 := ⟨⟨w1, (below_al w _).trans (hb.mono (by simp))⟩, rfl⟩; clear hb DE; go_wp2_with fail; exact bodyPost_ret (v := .tuple #[.int .i64 4, .int .i64 0, .string noB]) (by simp [results, Tryz.results127, go_sem]) rfl ⟨rfl, by first | exact Y.2 | exact Y.2.alloc Y.2.size _ | exact below_drewN (Y.2.alloc Y.2.size _) _⟩
 · have HE : Hid (edI ⟨6, n, f, t, s⟩ = .iface 99 (edV ⟨6, n, f, t, s⟩)) := qH rfl
   rw [HE.out] at DE; have ta1 := fun v W => ta_counted_texted v W
   have ta2 := fun v W => ta_counted_counted v W
   unfold edV at *; simp only at *; clear HE hk1 hk2; go_enter Tryz.func127, Tryz.ntmps127; go_wp2_with fail; refine (DE.out _).mono ?_; rintro e w1 ⟨rfl, hb⟩; obtain ⟨Y, rfl⟩ : ∃ Y : Ext w, w1 = Y.1 := ⟨⟨w1, (below_al w _).trans (hb.mono (by simp))⟩, rfl⟩; clear hb DE; go_wp2_with fail; exact bodyPost_ret (v := .tuple #[.int .i64 5, .int .i64 0, .string noB]) (by simp [results, Tryz.results127, go_sem]) rfl ⟨rfl, by first | exact Y.2 | exact Y.2.alloc Y.2.size _ | exact below_drewN (Y.2.alloc Y.2.size _) _⟩
 · have HE : Hid (edI ⟨7, n, f, t, s⟩ = .iface 99 (edV ⟨7, n, f, t, s⟩)) := qH rfl
   rw [HE.out] at DE; have ta1 := fun v W => ta_counted_texted v W
   have ta2 := fun v W => ta_counted_counted v W
   unfold edV at *; simp only at *; clear HE hk1 hk2; go_enter Tryz.func127, Tryz.ntmps127; go_wp2_with fail; refine (DE.out _).mono ?_; rintro e w1 ⟨rfl, hb⟩; obtain ⟨Y, rfl⟩ : ∃ Y : Ext w, w1 = Y.1 := ⟨⟨w1, (below_al w _).trans (hb.mono (by simp))⟩, rfl⟩; clear hb DE; go_wp2_with fail
   go_quiet (fail)
   go_wp2_with fail; exact bodyPost_ret (v := .tuple #[.int .i64 6, .int .i64 n, .string noB]) (by simp [results, Tryz.results127, go_sem]) rfl ⟨rfl, by first | exact Y.2 | exact Y.2.alloc Y.2.size _ | exact below_drewN (Y.2.alloc Y.2.size _) _⟩
 · have HE : Hid (edI ⟨8, n, f, t, s⟩ = .iface 101 (edV ⟨8, n, f, t, s⟩)) := qH rfl
   rw [HE.out] at DE; have ta1 := fun v W => ta_parted_texted v W
   have ta2 := fun v W => ta_parted_counted v W
   unfold edV at *; simp only at *; clear HE hk1 hk2; go_enter Tryz.func127, Tryz.ntmps127; go_wp2_with fail; refine (DE.out _).mono ?_; rintro e w1 ⟨rfl, hb⟩; obtain ⟨Y, rfl⟩ : ∃ Y : Ext w, w1 = Y.1 := ⟨⟨w1, (below_al w _).trans (hb.mono (by simp))⟩, rfl⟩; clear hb DE; go_wp2_with fail; exact bodyPost_ret (v := .tuple #[.int .i64 7, .int .i64 0, .string noB]) (by simp [results, Tryz.results127, go_sem]) rfl ⟨rfl, by first | exact Y.2 | exact Y.2.alloc Y.2.size _ | exact below_drewN (Y.2.alloc Y.2.size _) _⟩
 · have HE : Hid (edI ⟨9, n, f, t, s⟩ = .iface 100 (edV ⟨9, n, f, t, s⟩)) := qH rfl
   rw [HE.out] at DE; have ta1 := fun v W => ta_tracked_texted v W
   have ta2 := fun v W => ta_tracked_counted v W
   unfold edV at *; simp only at *; clear HE hk1 hk2; go_enter Tryz.func127, Tryz.ntmps127; go_wp2_with fail; refine (DE.out _).mono ?_; rintro e w1 ⟨rfl, hb⟩; obtain ⟨Y, rfl⟩ : ∃ Y : Ext w, w1 = Y.1 := ⟨⟨w1, (below_al w _).trans (hb.mono (by simp))⟩, rfl⟩; clear hb DE; go_wp2_with fail; exact bodyPost_ret (v := .tuple #[.int .i64 7, .int .i64 0, .string noB]) (by simp [results, Tryz.results127, go_sem]) rfl ⟨rfl, by first | exact Y.2 | exact Y.2.alloc Y.2.size _ | exact below_drewN (Y.2.alloc Y.2.size _) _⟩
 · have HE : Hid (edI ⟨10, n, f, t, s⟩ = .iface 100 (edV ⟨10, n, f, t, s⟩)) := qH rfl
   rw [HE.out] at DE; have ta1 := fun v W => ta_tracked_texted v W
   have ta2 := fun v W => ta_tracked_counted v W
   unfold edV at *; simp only at *; clear HE hk1 hk2; go_enter Tryz.func127, Tryz.ntmps127; go_wp2_with fail; refine (DE.out _).mono ?_; rintro e w1 ⟨rfl, hb⟩; obtain ⟨Y, rfl⟩ : ∃ Y : Ext w, w1 = Y.1 := ⟨⟨w1, (below_al w _).trans (hb.mono (by simp))⟩, rfl⟩; clear hb DE; go_wp2_with fail; exact bodyPost_ret (v := .tuple #[.int .i64 7, .int .i64 0, .string noB]) (by simp [results, Tryz.results127, go_sem]) rfl ⟨rfl, by first | exact Y.2 | exact Y.2.alloc Y.2.size _ | exact below_drewN (Y.2.alloc Y.2.size _) _⟩
 · have HE : Hid (edI ⟨11, n, f, t, s⟩ = .iface 101 (edV ⟨11, n, f, t, s⟩)) := qH rfl
   rw [HE.out] at DE; have ta1 := fun v W => ta_parted_texted v W
   have ta2 := fun v W => ta_parted_counted v W
   unfold edV at *; simp only at *; clear HE hk1 hk2; go_enter Tryz.func127, Tryz.ntmps127; go_wp2_with fail; refine (DE.out _).mono ?_; rintro e w1 ⟨rfl, hb⟩; obtain ⟨Y, rfl⟩ : ∃ Y : Ext w, w1 = Y.1 := ⟨⟨w1, (below_al w _).trans (hb.mono (by simp))⟩, rfl⟩; clear hb DE; go_wp2_with fail; exact bodyPost_ret (v := .tuple #[.int .i64 7, .int .i64 0, .string noB]) (by simp [results, Tryz.results127, go_sem]) rfl ⟨rfl, by first | exact Y.2 | exact Y.2.alloc Y.2.size _ | exact below_drewN (Y.2.alloc Y.2.size _) _⟩
 · have HE : Hid (edI ⟨12, n, f, t, s⟩ = .iface 101 (edV ⟨12, n, f, t, s⟩)) := qH rfl
   rw [HE.out] at DE; have ta1 := fun v W => ta_parted_texted v W
   have ta2 := fun v W => ta_parted_counted v W
   unfold edV at *; simp only at *; clear HE hk1 hk2; go_enter Tryz.func127, Tryz.ntmps127; go_wp2_with fail; refine (DE.out _).mono ?_; rintro e w1 ⟨rfl, hb⟩; obtain ⟨Y, rfl⟩ : ∃ Y : Ext w, w1 = Y.1 := ⟨⟨w1, (below_al w _).trans (hb.mono (by simp))⟩, rfl⟩; clear hb DE; go_wp2_with fail; exact bodyPost_ret (v := .tuple #[.int .i64 7, .int .i64 0, .string noB]) (by simp [results, Tryz.results127, go_sem]) rfl ⟨rfl, by first | exact Y.2 | exact Y.2.alloc Y.2.size _ | exact below_drewN (Y.2.alloc Y.2.size _) _⟩
 · simp only at hk1
   omega
 · simp only at hk2
   omega
end Go.Proofs.YtjnfccphodjfiaaGreat
namespace Go.Proofs.YtjnfccphodjfiaaGreat
set_option maxHeartbeats 8000000
set_option maxRecDepth 100000
open Go.RowKit Go.BigFrame
open Tr (Ed inR isZero united rank numOf bef)
def orL : List Int → Int
 | [] => 0
 | x :: l => if x = 0 then orL l else x
theorem orL_drop {l : List Int} {k : Nat} {x : Int} (hx : l[k]? = some x) (h : orL l = orL (l.drop k)) : (x ≠ 0 → orL l = x) ∧ (x = 0 → orL l = orL (l.drop (k + 1))) := by
 obtain ⟨h1, e1⟩ := List.getElem?_eq_some_iff.1 hx; rw [List.drop_eq_getElem_cons h1, e1, orL] at h; exact ⟨fun h0 => by rw [h, if_neg h0], fun h0 => by rw [h, if_pos h0]⟩
theorem orInt_any (l : List Int) (g c : Nat) (w : World) (hl : l.length ≤ 1000) (hc : ∀ i v, l[i]? = some v → w.cell? ⟨g, i, none⟩ = some (.int .i64 v)) :
 Calls Tryz.prog 128 #[.slice (some ⟨g, 0, none⟩) l.length c] w fun e w' => e = .returned (.int .i64 (orL l)) ∧ w = w' := by
 obtain ⟨n, hn⟩ : ∃ n, l.length = n := ⟨_, rfl⟩; have HN := qH hn; have HC := qH hc; rw [hn] at hl ⊢; clear hn hc; go_enter Tryz.func128, Tryz.ntmps128; go_wp2_with fail
 go_loop [8] (fun iv => ∃ (k : Nat), iv = .int .i64 k ∧ k ≤ n ∧ Hid (orL l = orL (l.drop k))) (fun iv => n - (intOf iv).toNat)
 case atStart => exact ⟨0, rfl, by omega, qH rfl⟩
 case round =>
  obtain ⟨k, rfl, hk, HE⟩ := hrel; by_cases hlt : k < n
  · have t1 : decide ((k : Int) < (n : Int)) = true := dTt (by omega)
    have t1' : decide (k < n) = true := by simpa using hlt
    obtain ⟨x, hx⟩ : ∃ x, l[k]? = some x := ⟨_, List.getElem?_eq_getElem (by rw [HN.out]; exact hlt)⟩; have hcx := HC.out k x hx; obtain ⟨h1, h2⟩ := orL_drop hx HE.out; clear hx HE; by_cases h0 : x = 0
    · subst h0
      have HE := qH (h2 rfl); clear h1 h2; go_wp2_with fail
      go_round
      case rel => exact ⟨k + 1, by go_num, by omega, HE⟩
      case measure => simp [intOf]; omega
    · have HE := qH (h1 h0)
      have hb : (x != 0) = true := bTt h0; clear h1 h2 h0; go_wp2_with fail; go_ret; exact ⟨by rw [HE.out]; rfl, rfl⟩
  · have t1 : decide ((k : Int) < (n : Int)) = false := dFf (by omega)
    have t1' : decide (k < n) = false := by simpa using hlt
    have HF := qH (show orL l = 0 by rw [HE.out, List.drop_eq_nil_of_le (by rw [HN.out]; omega)]; rfl); clear hlt HE; go_wp2_with fail; go_ret; exact ⟨by rw [HF.out]; rfl, rfl⟩
theorem cmpB_neg : ∀ a b : List UInt8, decide (Lib.compareBytes a b < 0) = Tr.ltB a b
 | [], [] => rfl
 | [], _ :: _ => rfl
 | _ :: _, [] => rfl
 | x :: a, y :: b => by
  rw [Lib.compareBytes, Tr.ltB]
  split
  · rfl
  · split
    · rfl
    · exact cmpB_neg a b
theorem cmpI_neg (a b : Int) : decide (Lib.compareInt a b < 0) = decide (a < b) := by
 unfold Lib.compareInt
 split
 · rename_i h
   rw [decide_eq_true h]
   rfl
 · rename_i h
   rw [decide_eq_false h]
   split <;> rfl
theorem cmpI_zero (a b : Int) : Lib.compareInt a b = 0 ↔ a = b := by
 unfold Lib.compareInt
 split
 · constructor
   · intro h; cases h
   · omega
 · split
   · constructor
     · intro h; cases h
     · omega
   · constructor
     · omega
     · intro; rfl
def ordV (x y : Ed) : Int := orL [Lib.compareInt (rank x.k) (rank y.k), Lib.compareInt (numOf x) (numOf y), Lib.compareBytes (txtB x).data.toList (txtB y).data.toList]
theorem ordV_neg (x y : Ed) : decide (ordV x y < 0) = bef x y := by
 unfold ordV bef; rw [orL, orL, orL, orL]; by_cases h1 : rank x.k = rank y.k
 · rw [if_pos ((cmpI_zero _ _).2 h1), if_pos h1]
   by_cases h2 : numOf x = numOf y
   · rw [if_pos ((cmpI_zero _ _).2 h2), if_pos h2, txtB_list, txtB_list, ← cmpB_neg]
     split
     · rename_i h
       rw [h]
     · rfl
   · rw [if_neg (fun h => h2 ((cmpI_zero _ _).1 h)), if_neg h2, cmpI_neg]
 · rw [if_neg (fun h => h1 ((cmpI_zero _ _).1 h)), if_neg h1, cmpI_neg]
theorem order_any (x y : Ed) (w : World) (hx : 1 ≤ x.k ∧ x.k ≤ 12) (hy : 1 ≤ y.k ∧ y.k ≤ 12) : Calls Tryz.prog 101 #[edV x, edV y] w fun e w' => e = .returned (.int .i64 (ordV x y)) ∧ Below w.heap.size w w' := by
 obtain ⟨W0, hW0, hb0, hs0, hl0⟩ := alloc_cells w #[.int .i64 x.k, .int .i64 x.n, .int .i64 x.f, .int .i64 x.t, .string x.s] 28; obtain ⟨W1, hW1, hb1, hs1, hl1⟩ := alloc_cells W0 #[.int .i64 y.k, .int .i64 y.n, .int .i64 y.f, .int .i64 y.t, .string y.s] 28; rw [hs0] at hl1; have G0 := Ext.ex (bCel hb1 (hl0 0 _ rfl)); have G1 := Ext.ex (bCel hb1 (hl0 1 _ rfl)); have G2 := Ext.ex (bCel hb1 (hl0 2 _ rfl)); have G3 := Ext.ex (bCel hb1 (hl0 3 _ rfl)); have G4 := Ext.ex (bCel hb1 (hl0 4 _ rfl)); have K0 := Ext.ex (hl1 0 _ rfl); have K1 := Ext.ex (hl1 1 _ rfl); have K2 := Ext.ex (hl1 2 _ rfl); have K3 := Ext.ex (hl1 3 _ rfl); have K4 := Ext.ex (hl1 4 _ rfl); have HW0 := qH hW0; have HW1 := qH hW1; have HB := qH (show Below w.heap.size w W1 from hb0.trans (hb1.mono (by omega))); have hsz : w.heap.size ≤ W1.heap.size := by omega
 have DX := qH (fun Y : Ext W1 => Y.calls (place_any x Y.1 hx)); have DY := qH (fun Y : Ext W1 => Y.calls (place_any y Y.1 hy)); have HV : Hid (ordV x y = orL [Lib.compareInt (rank x.k) (rank y.k), Lib.compareInt (numOf x) (numOf y), Lib.compareBytes (txtB x).data.toList (txtB y).data.toList]) := qH rfl; have C1 := qH (fun W => Tryz.cmp_Compare_int (rank x.k) (rank y.k) W); have C2 := qH (fun W => Tryz.cmp_Compare_int (numOf x) (numOf y) W); have C3 := qH (fun W => Tryz.strings_Compare (txtB x) (txtB y) W); generalize Lib.compareInt (rank x.k) (rank y.k) = c1 at *; generalize Lib.compareInt (numOf x) (numOf y) = c2 at *; generalize Lib.compareBytes (txtB x).data.toList (txtB y).data.toList = c3 at *; generalize rank x.k = r1 at *; generalize rank y.k = r2 at *; generalize numOf x = n1 at *; generalize numOf y = n2 at *; generalize txtB x = z1 at *; generalize txtB y = z2 at *; unfold edV at *; clear hW0 hb0 hs0 hl0 hW1 hb1 hs1 hl1 hx hy; go_enter Tryz.func101, Tryz.ntmps101; go_upto_region 1 with (fail); rw [HW0.out, HW1.out]; refine ext_wp fun X => ?_
 go_wp2_with fail; refine (DX.out _).mono ?_; rintro e w1 ⟨rfl, Y, rfl⟩; clear DX; go_wp2_with fail; refine (DY.out _).mono ?_; rintro e w1 ⟨rfl, Z, rfl⟩; clear DY; go_wp2_with fail; refine (C1.out _).mono ?_; rintro e w1 ⟨rfl, rfl⟩; go_wp2_with fail; refine (C2.out _).mono ?_; rintro e w1 ⟨rfl, rfl⟩; go_wp2_with fail; refine (C3.out _).mono ?_; rintro e w1 ⟨rfl, rfl⟩; go_wp2_with fail; refine (orInt_any [c1, c2, c3] _ _ _ (by simp) ?_).mono ?_
 · intro i v h
   rw [World.cell?_alloc_at _ _ _ _ rfl]
   match i, h with
   | 0, h => injection h with h; subst h; rfl
   | 1, h => injection h with h; subst h; rfl
   | 2, h => injection h with h; subst h; rfl
   | n + 3, h => simp at h
 rintro e w1 ⟨rfl, rfl⟩; go_wp2_with fail; go_ret; exact ⟨by rw [HV.out]; rfl, (Z.down HB.out hsz).alloc (Z.down HB.out hsz).size _⟩
end Go.Proofs.YtjnfccphodjfiaaGreat
namespace Go.Proofs.YtjnfccphodjfiaaGreat
open Go.RowKit Go.BigFrame
open Tr (inR)
open Ft (Mt)
end Go.Proofs.YtjnfccphodjfiaaGreat
namespace Go.Proofs.YtjnfccphodjfiaaGreat
set_option maxHeartbeats 8000000
set_option maxRecDepth 100000
open Go.RowKit Go.BigFrame
open Tr (Ed inR isZero united rank numOf bef fstIdx)
theorem fstIdx_drop {l : List Ed} {k : Nat} {x : Ed} (hx : l[k]? = some x) (h : fstIdx isZero l 0 = fstIdx isZero (l.drop k) k) : (isZero x = true → fstIdx isZero l 0 = k) ∧ (isZero x = false → fstIdx isZero l 0 = fstIdx isZero (l.drop (k + 1)) (k + 1)) := by
 obtain ⟨h1, e1⟩ := List.getElem?_eq_some_iff.1 hx; rw [List.drop_eq_getElem_cons h1, e1, fstIdx] at h; exact ⟨fun h0 => by rw [h, if_pos h0], fun h0 => by rw [h, if_neg (by rw [h0]; simp)]⟩
theorem indexE_any (a : Option Addr) (l : List Ed) (c : Nat) (w : World) (hr : ERow w a l) (hl : l.length ≤ 1000000) :
 Calls Tryz.prog 96 #[.slice a l.length c, .func (.func 97) #[] #[]] w fun e w' => e = .returned (.int .i64 (fstIdx isZero l 0)) ∧ Below w.heap.size w w' := by
 have HR := qH hr; have DZ := qH (fun (x : Ed) (W : World) => isZero_any x W); obtain ⟨nl, hnl⟩ : ∃ n, l.length = n := ⟨_, rfl⟩; have HN := qH hnl; rw [hnl] at hl ⊢; clear hr hnl; go_enter Tryz.func96, Tryz.ntmps96; go_wp2_with fail
 go_loopw [8] (fun iv wr => ∃ (k : Nat), iv = .int .i64 k ∧ k ≤ nl ∧ Hid (fstIdx isZero l 0 = fstIdx isZero (l.drop k) k) ∧ ∃ X : Ext w, wr = X.1) (fun iv _ => nl - (intOf iv).toNat)
 case atStart => exact ⟨0, rfl, by omega, qH rfl, ⟨w, Below.refl _ _⟩, rfl⟩
 case round =>
  obtain ⟨k, rfl, hk, HE, X, rfl⟩ := hrel; by_cases hlt : k < nl
  · have t1 : decide ((k : Int) < (nl : Int)) = true := dTt (by omega)
    have t1' : decide (k < nl) = true := by simpa using hlt
    obtain ⟨x, hx⟩ : ∃ x, l[k]? = some x := ⟨_, List.getElem?_eq_getElem (by rw [HN.out]; exact hlt)⟩; obtain ⟨b, off, rfl, hb, e0, e1, e2, e3, e4⟩ := (HR.out.below X.2).at hx; have D := qH (DZ.out x X.1); obtain ⟨h1, h2⟩ := fstIdx_drop hx HE.out; unfold edV at D; clear hx HE
    cases hz : isZero x
    · rw [hz] at D
      have HE := qH (h2 hz); clear h1 h2 hz; go_wp2_with fail; refine D.out.mono ?_; rintro e w1 ⟨rfl, hb2⟩; obtain ⟨Z, rfl⟩ : ∃ Z : Ext w, w1 = Z.1 := ⟨⟨w1, X.2.trans (hb2.mono X.2.size)⟩, rfl⟩; clear hb2; go_wp2_with fail
      go_roundw
      case rel => exact ⟨k + 1, by go_num, by omega, HE, Z, rfl⟩
      case measure => simp [intOf]; omega
    · rw [hz] at D
      have HE := qH (h1 hz); clear h1 h2 hz; go_wp2_with fail; refine D.out.mono ?_; rintro e w1 ⟨rfl, hb2⟩; have HB := qH (X.2.trans (hb2.mono X.2.size)); clear hb2; go_wp2_with fail; go_ret; exact ⟨ret_int HE.out.symm, HB.out⟩
  · have t1 : decide ((k : Int) < (nl : Int)) = false := dFf (by omega)
    have t1' : decide (k < nl) = false := by simpa using hlt
    have HF := qH (show fstIdx isZero l 0 = -1 by rw [HE.out, List.drop_eq_nil_of_le (by rw [HN.out]; omega)]; rfl); have HX := qH X.2; clear hlt HE; go_wp2_with fail; go_ret; exact ⟨ret_int HF.out.symm, HX.out⟩
theorem own_lay {base e k n cap q : Nat} : ∀ (vs : List Value) (o : Nat) {w : World} {xs : List Value}, w.ownsRow base e k (.slice (some ⟨q, 0, none⟩) n cap) n xs → o + vs.length ≤ xs.length →
 (w.setCells q o vs).ownsRow base e k (.slice (some ⟨q, 0, none⟩) n cap) n (xs.take o ++ vs ++ xs.drop (o + vs.length))
 | [], o, w, xs, h, _ => by simpa [World.setCells] using h
 | v :: vs, o, w, xs, h, hl => by
  have h1 := own_lay vs (o + 1) (h.stored o v).1 (by simp at hl ⊢; omega); have e : (xs.set o v).take (o + 1) ++ vs ++ (xs.set o v).drop (o + 1 + vs.length) = xs.take o ++ (v :: vs) ++ xs.drop (o + (v :: vs).length) := by
   have ho : o < xs.length := by simp at hl; omega
   rw [List.take_succ_eq_append_getElem (by simpa using ho), List.take_set_of_le (Nat.le_refl _), List.drop_set_of_lt (by omega)]; simp [Nat.add_assoc, Nat.add_comm 1]
  rw [e] at h1; exact h1
theorem flatEd_take (l : List Ed) (i : Nat) : (l.flatMap edC).take (i * 5) = (l.take i).flatMap edC := by
 induction i generalizing l with
 | zero => simp
 | succ i ih =>
  cases l with
  | nil => simp
  | cons a l =>
   rw [List.take_succ_cons, List.flatMap_cons, List.flatMap_cons, ← ih, show (i + 1) * 5 = i * 5 + 1 + 1 + 1 + 1 + 1 by omega]; simp [edC]
theorem flatEd_drop (l : List Ed) (i : Nat) : (l.flatMap edC).drop (i * 5) = (l.drop i).flatMap edC := by
 induction i generalizing l with
 | zero => simp
 | succ i ih =>
  cases l with
  | nil => simp
  | cons a l =>
   rw [List.drop_succ_cons, List.flatMap_cons, ← ih, show (i + 1) * 5 = i * 5 + 1 + 1 + 1 + 1 + 1 by omega]; simp [edC]
theorem EdOwn.lay {w : World} {base q n cap : Nat} {l : List Ed} (h : EdOwn w base (.slice (some ⟨q, 0, none⟩) n cap) l) (m : List Ed) (o : Nat) (ho : o + m.length ≤ l.length) :
 EdOwn (w.setCells q (o * 5) (m.flatMap edC)) base (.slice (some ⟨q, 0, none⟩) n cap) (l.take o ++ m ++ l.drop (o + m.length)) := by
 obtain ⟨a, c, e, _, _, _⟩ := h.row; injection e with _ e2 _; subst e2; unfold EdOwn at h ⊢; have hlen : (l.take o ++ m ++ l.drop (o + m.length)).length = l.length := by simp; omega
 rw [hlen]; have h1 := own_lay (m.flatMap edC) (o * 5) h (by rw [flatEd_len, flatEd_len]; omega); rw [flatEd_len, ← Nat.add_mul, flatEd_take, flatEd_drop, ← List.flatMap_append, ← List.flatMap_append] at h1; exact h1
theorem EdOwn.less {w : World} {base q n cap : Nat} {l : List Ed} (h : EdOwn w base (.slice (some ⟨q, 0, none⟩) n cap) l) (i : Nat) (hi : i ≤ l.length) : EdOwn w base (.slice (some ⟨q, 0, none⟩) i cap) (l.take i) := by
 obtain ⟨a, c, e, _, _, _⟩ := h.row; injection e with _ e2 _; subst e2; have hl : (l.take i).length = i := by simp; omega
 unfold EdOwn at h ⊢; rw [hl, ← flatEd_take]; have hm : i * 5 ≤ l.length * 5 := Nat.mul_le_mul_right _ hi; refine ⟨by rw [List.length_take, h.1]; omega, ?_⟩; rcases h.2 with ⟨h0, _⟩ | ⟨g', cap', cur, hv, hg, hb, h1, h2, h3, h4⟩
 · cases h0
 · injection hv with e1 e2 e3
   injection e1 with e1; injection e1 with e1; subst e1; subst e3; exact Or.inr ⟨q, cap, cur, rfl, hg, hb, Nat.le_trans hi h1, h2, h3, by rw [← h4, List.take_take, Nat.min_eq_left hm]⟩
theorem EdOwn.cleared {w : World} {base q n cap : Nat} {l : List Ed} (h : EdOwn w base (.slice (some ⟨q, 0, none⟩) n cap) l) (vs : List Value) (o : Nat) (ho : l.length * 5 ≤ o) : EdOwn (w.setCells q o vs) base (.slice (some ⟨q, 0, none⟩) n cap) l := by
 obtain ⟨a, c, e, _, _, _⟩ := h.row; injection e with _ e2 _; subst e2; unfold EdOwn at h ⊢; have go : ∀ (vs : List Value) (o : Nat) (w : World) (xs : List Value), w.ownsRow base 28 5 (.slice (some ⟨q, 0, none⟩) l.length cap) l.length xs → xs.length ≤ o → (w.setCells q o vs).ownsRow base 28 5 (.slice (some ⟨q, 0, none⟩) l.length cap) l.length xs := fun vs => by
  induction vs with
  | nil => intro o w xs h _; exact h
  | cons v vs ih =>
   intro o w xs h ho; have h1 := (h.stored o v).1; rw [List.set_eq_of_length_le ho] at h1; exact ih (o + 1) _ _ h1 (by omega)
 exact go vs o w _ h (by rw [flatEd_len]; exact ho)
end Go.Proofs.YtjnfccphodjfiaaGreat
namespace Go.Proofs.YtjnfccphodjfiaaGreat
set_option maxHeartbeats 8000000
set_option maxRecDepth 100000
open Go.RowKit Go.BigFrame
open Tr (Ed)
theorem kept_setE {a b : World} {q : Nat} {p : Addr} {v : Value} (h : Kept (fun k => k = q) a b) (hp : p.block = q) : Kept (fun k => k = q) a (b.setCell p v) := by
 refine h.trans ⟨rfl, rfl, rfl, by simp [World.setCell], fun k hk hne => ?_⟩; simp only [World.setCell]; rw [Array.getElem?_modify, if_neg (fun e => hne (by rw [← hp, e]))]
theorem kept_lay (q : Nat) : ∀ (vs : List Value) (o : Nat) (w : World), Kept (fun k => k = q) w (w.setCells q o vs)
 | [], _, _ => Kept.refl _ _
 | v :: vs, o, w => (kept_setE (p := ⟨q, o, none⟩) (v := v) (Kept.refl _ w) rfl).trans (kept_lay q vs (o + 1) _)
section
variable {w : World} {base q n cap : Nat} {l : List Ed}
theorem EdOwn.cellE (h : EdOwn w base (.slice (some ⟨q, 0, none⟩) n cap) l) {i : Nat} (hi : i < cap * 5) : (w.cell? ⟨q, i, none⟩).isSome = true ∧ w.frozen? ⟨q, i, none⟩ = false := by
 rcases h.2 with ⟨h0, _⟩ | ⟨g', cap', cur, hv, hg, hb, h1, h2, h3, h4⟩
 · cases h0
 · injection hv with e1 e2 e3
   injection e1 with e1; injection e1 with e1; subst e1; subst e3; have : i < cur.size := by rw [h3]; exact hi
   constructor
   · simp [World.cell?, hb, this]
   · simp [World.frozen?, hb]
theorem EdOwn.facts (h : EdOwn w base (.slice (some ⟨q, 0, none⟩) n cap) l) : n = l.length ∧ n ≤ cap ∧ cap ≤ maxLen ∧ base ≤ q := by
 rcases h.2 with ⟨h0, _⟩ | ⟨g', cap', cur, hv, hg, hb, h1, h2, h3, h4⟩
 · cases h0
 · injection hv with e1 e2 e3
   injection e1 with e1; injection e1 with e1; subst e1; subst e3; exact ⟨e2, by omega, h2, hg⟩
theorem EdOwn.at (h : EdOwn w base (.slice (some ⟨q, 0, none⟩) n cap) l) {i : Nat} {v : Value} (hv : (l.flatMap edC)[i]? = some v) : w.cell? ⟨q, i, none⟩ = some v := by
 obtain ⟨e, _⟩ := h.facts; subst e; rw [h.cellAt i (by have := (List.getElem?_eq_some_iff.1 hv).1; rw [flatEd_len] at this; exact this)]; exact hv
end
theorem step_append_roomE {P : Program} {ops : Array Oper} {o : Oper} {a : Act} {w : World} {K : Act → World → Prop} {Q : Exit → Act → World → Prop} {E : Prop}
 (hg : o.guard = none) (s x : Operand) (t : TypeId) (hop : o.op = Op.call { callee := Callee.builtin Builtin.append, args := #[s, x], argTypes := #[t, t] })
 (e : TypeId) (i : TypeInfo) (h1 : P.underlying t = some (.slice e)) (h2 : P.info? e = some i) (h4 : i.size = 5)
 (b n cap : Nat) (hs : a.eval s = .slice (some ⟨b, 0, none⟩) n cap)
 (ad : Addr) (m c : Nat) (hx : a.eval x = .slice (some ad) m c) (news : List Value) (hn : news.length = m * 5) (hc : ∀ j u, news[j]? = some u → w.cell? (ad.add j) = some u) (h1c : ∀ u ∈ news, u.oneCell' = true)
 (r : Nat) (hr : n + m = r) (hroom : r ≤ cap) (hspare : ∀ j, j < cap * 5 → (w.cell? ⟨b, j, none⟩).isSome = true ∧ w.frozen? ⟨b, j, none⟩ = false)
 (hK : K (a.put o.dst (.slice (some ⟨b, 0, none⟩) r cap)) (w.setCells b (n * 5) news)) :
 if Region.wanted o (yielded ops a.tmps) = true then Oper.wp P o a w K Q else E := by
 subst hr; refine step_append_room hg s x t hop e i 5 h1 h2 h4 b 0 n cap hs ad m c news hx hn hc h1c hroom (fun j hj => ?_) ?_
 · rw [Nat.zero_add]
   exact hspare _ (by omega)
 · rw [Nat.zero_add]
   exact hK
theorem run_clear_rowE {P : Program} (w : World) (t e ty : TypeId) (z : Value) (ht : P.underlying t = some (.slice e)) (hv : ∀ w, (zeroValue e).run P w = .ok z w) (h1 : ∀ v ∈ z.cells.toList, v.oneCell' = true) (b o n c : Nat) (hn : 0 < n)
 (hc : ∀ j, j < n * z.cells.size → (w.cell? ⟨b, o + j, none⟩).isSome = true) (hf : ∀ j, j < n * z.cells.size → w.frozen? ⟨b, o + j, none⟩ = false) :
 ∃ vs : List Value, (Builtin.clear_ #[t] ty #[.slice (some ⟨b, o, none⟩) n c]).run P w = .ok (.tuple #[]) (w.setCells b o vs) := by
 have hlen : (Builtin.zeroCells z.cells n).toList.length = n * z.cells.size := by simp [Builtin.zeroCells]
 have hone : ∀ v ∈ (Builtin.zeroCells z.cells n).toList, v.oneCell' = true := by
  intro v hv; simp [Builtin.zeroCells] at hv; obtain ⟨i, hi, rfl⟩ := hv; have : 0 < z.cells.size := by
   rcases Nat.eq_zero_or_pos z.cells.size with h | h
   · rw [h] at hi; simp at hi
   · exact h
  have hm := Nat.mod_lt i this; refine h1 _ ?_; simp [hm]
 have hst := run_storeCells_cells (P := P) b o (Builtin.zeroCells z.cells n).toList 0 w (by rw [hlen]; simpa using hc) (by rw [hlen]; simpa using hf) hone; simp only [Nat.add_zero] at hst; obtain ⟨m, rfl⟩ : ∃ m, n = m + 1 := ⟨n - 1, by omega⟩; exact ⟨(Builtin.zeroCells z.cells (m + 1)).toList, by simp [Builtin.clear_, run_underlying ht, hv, hst]⟩
theorem deleteE_any (l : List Ed) (base q cap j p n n1 : Nat) (w : World) (hown : EdOwn w base (.slice (some ⟨q, 0, none⟩) n cap) l) (hn : l.length ≤ 200) (hj : j < n) (hp : p = j + 1) (h1 : n = n1 + 1) :
 Calls Tryz.prog 98 #[.slice (some ⟨q, 0, none⟩) n cap, .int .i64 j, .int .i64 p] w fun e w' =>
  e = .returned (.slice (some ⟨q, 0, none⟩) n1 cap) ∧ EdOwn w' base (.slice (some ⟨q, 0, none⟩) n1 cap) (l.take j ++ l.drop (j + 1)) ∧ Kept (fun b => b = q) w w' := by
 obtain ⟨hln, hnc, hcm, hbq⟩ := hown.facts; unfold maxLen at hcm; obtain ⟨m, hm⟩ : ∃ m, n = p + m := ⟨n - p, by omega⟩; have hel : Tryz.prog.elem 36 = 28 := by kernel_rfl
 have hso := Tryz.sizeOf28; have U := Tryz.underlying36; have hne : ((j : Int) == (p : Int)) = false := bFf (by omega); obtain ⟨ad, had⟩ : ∃ ad : Addr, ad = if cap = p then ⟨q, 0, none⟩ else ⟨q, p * 5, none⟩ := ⟨_, rfl⟩; have s1 : ∀ W : World, (Instr.slice 36 (.slice (some ⟨q, 0, none⟩) n cap) (some (.int .i64 (j : Int))) (some (.int .i64 (p : Int))) (some (.int .i64 (n : Int)))).run Tryz.prog W = .ok (.slice (some ⟨q, j * 5, none⟩) 1 (n - j)) W := fun W => by
  rw [run_slice_lhm (w := W) 36 _ n cap U .i64 .i64 .i64 (j : Int) (p : Int) (n : Int) (by omega) (by omega) (by omega) (by omega), hel, hso]; have : ¬ n = j := by omega
  have h2 : p - j = 1 := by omega
  simp [sliced, Result.andThen, this, addr_plus, h2]
 have s2 : ∀ W : World, (Instr.slice 36 (.slice (some ⟨q, 0, none⟩) n cap) none (some (.int .i64 (j : Int))) none).run Tryz.prog W = .ok (.slice (some ⟨q, 0, none⟩) j cap) W := fun W => by
  rw [run_slice_h (w := W) 36 _ n cap U .i64 (j : Int) (by omega) (by omega), hel, hso]; have : ¬ cap = 0 := by omega
  simp [sliced, Result.andThen, this, addr_plus]
 have s3 : ∀ W : World, (Instr.slice 36 (.slice (some ⟨q, 0, none⟩) n cap) (some (.int .i64 (p : Int))) none none).run Tryz.prog W = .ok (.slice (some ad) m (cap - p)) W := fun W => by
  rw [run_slice_l (w := W) 36 _ n cap U .i64 (p : Int) (by omega) (by omega), hel, hso, had]; have h2 : n - p = m := by omega
  by_cases h : cap = p
  · simp [sliced, Result.andThen, h, h2]
  · simp [sliced, Result.andThen, h, addr_plus, h2]
 have s4 : ∀ W : World, (Instr.slice 36 (.slice (some ⟨q, 0, none⟩) n1 cap) (some (.int .i64 (n1 : Int))) (some (.int .i64 (n : Int))) none).run Tryz.prog W = .ok (.slice (some ⟨q, n1 * 5, none⟩) 1 (cap - n1)) W := fun W => by
  rw [run_slice_lh (w := W) 36 _ n1 cap U .i64 .i64 (n1 : Int) (n : Int) (by omega) (by omega) (by omega), hel, hso]; have : ¬ cap = n1 := by omega
  have h2 : n - n1 = 1 := by omega
  simp [sliced, Result.andThen, this, addr_plus, h2]
 obtain ⟨news, hnews⟩ : ∃ news, news = (l.drop p).flatMap edC := ⟨_, rfl⟩; have hnl : news.length = m * 5 := by rw [hnews, flatEd_len, List.length_drop]; omega
 have hone : ∀ u ∈ news, u.oneCell' = true := by rw [hnews]; exact flatEd_one _
 have hcc : ∀ i u, news[i]? = some u → w.cell? (ad.add i) = some u := fun i u hi => by
  have hi2 := (List.getElem?_eq_some_iff.1 hi).1; rw [hnl] at hi2; rw [had, if_neg (by omega), addr_plus]; refine hown.at ?_; rw [hnews, ← flatEd_drop, List.getElem?_drop] at hi; exact hi
 have hsp := fun (i : Nat) (hi : i < cap * 5) => hown.cellE hi
 obtain ⟨W1, hW1⟩ : ∃ W, w.drew.setCells q (j * 5) news = W := ⟨_, rfl⟩; have hro : EdOwn W1 base (.slice (some ⟨q, 0, none⟩) n cap) (l.take j ++ l.drop p ++ l.drop (j + (l.drop p).length)) := by
  rw [← hW1, hnews]; exact (hown.below (Below.refl _ w).drew).lay (l.drop p) j (by rw [List.length_drop]; omega)
 have hk1 : Kept (fun b => b = q) w W1 := by
  rw [← hW1]; exact (Kept.of_below (Below.refl _ w).drew).trans (kept_lay q news (j * 5) _)
 have hz : ∀ w, (zeroValue 28).run Tryz.prog w = .ok (.agg #[.int .i64 0, .int .i64 0, .int .i64 0, .int .i64 0, .string ⟨#[]⟩]) w := fun w => by kernel_rfl
 obtain ⟨vs, hvs⟩ := run_clear_rowE (P := Tryz.prog) W1 36 28 0 (.agg #[.int .i64 0, .int .i64 0, .int .i64 0, .int .i64 0, .string ⟨#[]⟩]) U hz (by decide) q (n1 * 5) 1 (cap - n1) (by omega)
  (fun i (hi : i < 1 * 5) => (hro.cellE (i := n1 * 5 + i) (by omega)).1) (fun i (hi : i < 1 * 5) => (hro.cellE (i := n1 * 5 + i) (by omega)).2)
 obtain ⟨W2, hW2⟩ : ∃ W, W1.setCells q (n1 * 5) vs = W := ⟨_, rfl⟩; have hr2 : EdOwn W2 base (.slice (some ⟨q, 0, none⟩) n1 cap) (l.take j ++ l.drop (j + 1)) := by
  have h3 := hro.less n1 (by simp; omega); have e : (l.take j ++ l.drop p ++ l.drop (j + (l.drop p).length)).take n1 = l.take j ++ l.drop (j + 1) := by
   rw [List.take_append_of_le_length (by simp; omega), List.take_of_length_le (by simp; omega), hp]
  rw [e] at h3; rw [← hW2]; exact h3.cleared vs (n1 * 5) (by simp; omega)
 have hk2 : Kept (fun b => b = q) w W2 := by
  rw [← hW2]; exact hk1.trans (kept_lay q vs (n1 * 5) _)
 rw [hW2] at hvs; obtain ⟨i0, hi0, hz0, hz1, hz2⟩ := info_parts (show (Tryz.prog.info? 28).map (fun i => (i.zero, i.size, i.bytes)) = some (some (.agg #[.int .i64 0, .int .i64 0, .int .i64 0, .int .i64 0, .string ⟨#[]⟩]), 5, 48) by kernel_rfl); have hjm : j + m = n1 := by omega
 have HI := qH (And.intro hi0 hz1); have HN := qH (And.intro hnl (And.intro hcc hone)); have HS := qH hsp; have HW1 := qH hW1; have HR := qH (And.intro hr2 hk2); have HJ := qH hjm; have hn1c : n1 ≤ cap := by omega
 clear hown hnl hcc hone hsp hW1 hro hk1 hz hr2 hk2 hi0 hz0 hz1 hz2 hnews hjm hW2 had hn hln hbq hp h1 hm; go_enter Tryz.func98, Tryz.ntmps98; go_wp2_with fail
 go_region_law (refine step_append_roomE rfl (.tmp 22) (.tmp 25) 36 rfl 28 i0 U HI.out.1 HI.out.2 q j cap rfl ad m (cap - p) rfl news HN.out.1 HN.out.2.1 HN.out.2.2 n1 HJ.out hn1c HS.out ?_)
 all_goals
  rw [HW1.out]; go_wp2_with fail; go_ret; exact ⟨rfl, HR.out.1, HR.out.2⟩
theorem run_copyE {P : Program} (w : World) (dT sT ty elem : TypeId) (i : TypeInfo) (b o dLen dCap : Nat) (a : Option Addr) (sLen sCap k : Nat) (cs : List Value)
 (hu : P.underlying dT = some (.slice elem)) (hi : P.info? elem = some i) (hk : k = Nat.min sLen dLen) (hn : cs.length = k * i.size)
 (hsrc : 0 < k → ∃ ad, a = some ad ∧ ∀ j v, cs[j]? = some v → w.cell? (ad.add j) = some v) (h1 : ∀ v ∈ cs, v.oneCell' = true)
 (hc : ∀ j, j < cs.length → (w.cell? ⟨b, o + j, none⟩).isSome = true) (hf : ∀ j, j < cs.length → w.frozen? ⟨b, o + j, none⟩ = false) :
 (Builtin.copy_ #[dT, sT] ty #[.slice (some ⟨b, o, none⟩) dLen dCap, .slice a sLen sCap]).run P w = .ok (goInt k) (w.setCells b o cs) := by
 have hst := run_storeCells_cells (P := P) b o cs 0 w (by simpa using hc) (by simpa using hf) h1; simp only [Nat.add_zero] at hst; rcases Nat.eq_zero_or_pos k with h0 | h0
 · subst h0
   have : cs = [] := List.length_eq_zero_iff.1 (by rw [hn, Nat.zero_mul]); subst this
   cases a <;> simp [Builtin.copy_, run_underlying hu, Builtin.lenOf, Builtin.firstCells, sizeOf, typeInfo, hi, ← hk, hst, loadCells, loadCellsFrom]
 · obtain ⟨ad, rfl, hs⟩ := hsrc h0
   have hl := run_loadCells_list (P := P) w ad cs hs; rw [hn] at hl; simp [Builtin.copy_, run_underlying hu, Builtin.lenOf, Builtin.firstCells, sizeOf, typeInfo, hi, ← hk, hl, hst]
theorem wp_copyE {P : Program} {o : Oper} {a : Act} {w : World} {K : Act → World → Prop} {Q : Exit → Act → World → Prop} (d s : Operand) (dT sT : TypeId)
 (ho : o.op = .call { callee := .builtin .copy, args := #[d, s], argTypes := #[dT, sT] }) (elem : TypeId) (i : TypeInfo) (hu : P.underlying dT = some (.slice elem)) (hi : P.info? elem = some i)
 (b off dLen dCap : Nat) (sa : Option Addr) (sLen sCap k : Nat) (hd : a.eval d = .slice (some ⟨b, off, none⟩) dLen dCap) (hs : a.eval s = .slice sa sLen sCap) (cs : List Value) (hk : k = Nat.min sLen dLen) (hn : cs.length = k * i.size)
 (hsrc : 0 < k → ∃ ad, sa = some ad ∧ ∀ j v, cs[j]? = some v → w.cell? (ad.add j) = some v) (h1 : ∀ v ∈ cs, v.oneCell' = true)
 (hc : ∀ j, j < cs.length → (w.cell? ⟨b, off + j, none⟩).isSome = true) (hf : ∀ j, j < cs.length → w.frozen? ⟨b, off + j, none⟩ = false)
 (hK : K (a.put o.dst (goInt k)) (w.setCells b off cs)) : Oper.wp P o a w K Q := by
 have hrun := run_copyE (P := P) w dT sT o.type elem i b off dLen dCap sa sLen sCap k cs hu hi hk hn hsrc h1 hc hf; unfold Oper.wp; simp [execOp, ho, resolve, invoke, builtin, hd, hs, hrun, Result.andThen]; exact hK
theorem wpList_append_roomE {P : Program} {w : World} {ops : Array Oper} {rest : List Oper} {o : Oper} {a : Act} {Q : Exit → Act → World → Prop} (hgd : o.guard = none) (s x : Operand) (t : TypeId)
 (ho : o.op = .call { callee := .builtin .append, args := #[s, x], argTypes := #[t, t] }) (e : TypeId) (i : TypeInfo) (ht : P.underlying t = some (.slice e)) (hi : P.info? e = some i) (hi5 : i.size = 5)
 (b n cap : Nat) (hs : a.eval s = .slice (some ⟨b, 0, none⟩) n cap) (sa : Option Addr) (m c : Nat) (hx : a.eval x = .slice sa m c) (hnc : n ≤ cap) (news : List Value) (hn : news.length = m * 5)
 (hsrc : 0 < m → ∃ ad, sa = some ad ∧ ∀ j v, news[j]? = some v → w.cell? (ad.add j) = some v) (h1 : ∀ u ∈ news, u.oneCell' = true)
 (r : Nat) (hr : n + m = r) (hroom : r ≤ cap) (hspare : ∀ j, j < cap * 5 → (w.cell? ⟨b, j, none⟩).isSome = true ∧ w.frozen? ⟨b, j, none⟩ = false)
 (h : wpList P ops Q rest (a.put o.dst (.slice (some ⟨b, 0, none⟩) r cap)) (w.setCells b (n * 5) news)) : wpList P ops Q (o :: rest) a w := by
 subst hr; refine wpList_plain hgd fun K hK => ?_
 have hrun : (Builtin.append_ #[t, t] o.type #[.slice (some ⟨b, 0, none⟩) n cap, .slice sa m c]).run P w = .ok (.slice (some ⟨b, 0, none⟩) (n + m) cap) (w.setCells b (n * 5) news) := by
  rcases Nat.eq_zero_or_pos m with h0 | h0
  · subst h0
    have : news = [] := List.length_eq_zero_iff.1 (by rw [hn, Nat.zero_mul]); subst this; exact append_noneE ht hi o.type (some ⟨b, 0, none⟩) n cap hnc sa c w
  · obtain ⟨ad, rfl, hc⟩ := hsrc h0
    have hrun := run_append_room_cells (P := P) w t o.type e i ht hi b 0 n cap ad m c news (by rw [hi5]; exact hn) hc h1 hroom (fun j hj => by rw [Nat.zero_add]; exact (hspare _ (by rw [hi5]; omega)).1) (fun j hj => by rw [Nat.zero_add]; exact (hspare _ (by rw [hi5]; omega)).2); rw [Nat.zero_add, hi5] at hrun; exact hrun
 unfold Oper.wp; simp [execOp, ho, resolve, invoke, builtin, hs, hx, hrun, Result.andThen]; exact hK _ _ h
theorem slice_l_any {P : Program} {t e : TypeId} (U : P.underlying t = some (.slice e)) (hel : P.elem t = e) (hso : ∀ w, (sizeOf e).run P w = .ok 5 w) (q n cap i : Nat) (x : Int) (hx : x = i) (h1 : i ≤ n) (h3 : i < cap) (W : World) :
 (Instr.slice t (.slice (some ⟨q, 0, none⟩) n cap) (some (.int .i64 x)) none none).run P W = .ok (.slice (some ⟨q, i * 5, none⟩) (n - i) (cap - i)) W := by
 subst hx; rw [run_slice_l (w := W) t _ n cap (by rw [hel]; exact U) .i64 (i : Int) (by omega) (by omega), hel, hso]; have : ¬ cap = i := by omega
 simp [sliced, Result.andThen, this, addr_plus]
theorem slice_h_any {P : Program} {t e : TypeId} (U : P.underlying t = some (.slice e)) (hel : P.elem t = e) (hso : ∀ w, (sizeOf e).run P w = .ok 5 w) (q n cap i : Nat) (x : Int) (hx : x = i) (h2 : i ≤ cap) (h3 : 0 < cap) (W : World) :
 (Instr.slice t (.slice (some ⟨q, 0, none⟩) n cap) none (some (.int .i64 x)) none).run P W = .ok (.slice (some ⟨q, 0, none⟩) i cap) W := by
 subst hx; rw [run_slice_h (w := W) t _ n cap (by rw [hel]; exact U) .i64 (i : Int) (by omega) (by omega), hel, hso]; have : ¬ cap = 0 := by omega
 simp [sliced, Result.andThen, this, addr_plus]
theorem slice_lh_any {P : Program} {t e : TypeId} (U : P.underlying t = some (.slice e)) (hel : P.elem t = e) (hso : ∀ w, (sizeOf e).run P w = .ok 5 w) (q n cap i j : Nat) (x y : Int) (hx : x = i) (hy : y = j) (h1 : i ≤ j) (h2 : j ≤ cap) (h3 : i < cap) (W : World) :
 (Instr.slice t (.slice (some ⟨q, 0, none⟩) n cap) (some (.int .i64 x)) (some (.int .i64 y)) none).run P W = .ok (.slice (some ⟨q, i * 5, none⟩) (j - i) (cap - i)) W := by
 subst hx; subst hy; rw [run_slice_lh (w := W) t _ n cap (by rw [hel]; exact U) .i64 .i64 (i : Int) (j : Int) (by omega) (by omega) (by omega), hel, hso]; have : ¬ cap = i := by omega
 simp [sliced, Result.andThen, this, addr_plus]
theorem edZero : ∀ w, (zeroValue 28).run Tryz.prog w = .ok (.agg #[.int .i64 0, .int .i64 0, .int .i64 0, .int .i64 0, .string ⟨#[]⟩]) w := fun w => by kernel_rfl
theorem clear_end {W : World} {base q n cap tot : Nat} {L l : List Ed} (hro : EdOwn W base (.slice (some ⟨q, 0, none⟩) n cap) L) (ht : tot < n) (hL : L.take tot = l) :
 ∃ W2, (Builtin.clear_ #[36] 0 #[.slice (some ⟨q, tot * 5, none⟩) (n - tot) (cap - tot)]).run Tryz.prog W = .ok (.tuple #[]) W2 ∧ EdOwn W2 base (.slice (some ⟨q, 0, none⟩) tot cap) l ∧ Kept (fun b => b = q) W W2 := by
 obtain ⟨e1, e2, _, _⟩ := hro.facts; obtain ⟨vs, hvs⟩ := run_clear_rowE (P := Tryz.prog) W 36 28 0 (.agg #[.int .i64 0, .int .i64 0, .int .i64 0, .int .i64 0, .string ⟨#[]⟩]) Tryz.underlying36 edZero (by decide) q (tot * 5) (n - tot) (cap - tot) (by omega)
  (fun i (hi : i < (n - tot) * 5) => (hro.cellE (i := tot * 5 + i) (by omega)).1) (fun i (hi : i < (n - tot) * 5) => (hro.cellE (i := tot * 5 + i) (by omega)).2)
 refine ⟨_, hvs, ?_, kept_lay q vs (tot * 5) _⟩; have h3 := hro.less tot (by omega); rw [hL] at h3; exact h3.cleared vs (tot * 5) (by rw [← hL, List.length_take]; omega)
theorem ERow.src {w : World} {a : Option Addr} {m : List Ed} (h : ERow w a m) : 0 < m.length → ∃ ad, a = some ad ∧ ∀ j v, (m.flatMap edC)[j]? = some v → w.cell? (ad.add j) = some v := fun h0 => by
 obtain ⟨b, off, e, _, _⟩ := h.here h0; subst e; exact ⟨_, rfl, h.flat⟩
theorem replaceA_any (l m : List Ed) (base q cap i n k cm : Nat) (am : Option Addr) (w : World) (hown : EdOwn w base (.slice (some ⟨q, 0, none⟩) n cap) l) (hm : ERow w am m) (hk : m.length = k) (hk1 : k ≤ 1) (hi : n = i + 2) :
 Calls Tryz.prog 100 #[.slice (some ⟨q, 0, none⟩) n cap, .int .i64 i, .int .i64 n, .slice am k cm] w fun e w' =>
  ∃ r, r = i + k ∧ e = .returned (.slice (some ⟨q, 0, none⟩) r cap) ∧ EdOwn w' base (.slice (some ⟨q, 0, none⟩) r cap) (l.take i ++ (m ++ l.drop (i + 2))) ∧ Kept (fun b => b = q) w w' := by
 obtain ⟨hln, hnc, hcm, hbq⟩ := hown.facts; unfold maxLen at hcm; have hel : Tryz.prog.elem 36 = 28 := by kernel_rfl
 have hso := Tryz.sizeOf28; have U := Tryz.underlying36; obtain ⟨tot, htot⟩ : ∃ tot, i + k = tot := ⟨_, rfl⟩; have hne : ((i : Int) == (n : Int)) = false := bFf (by omega); have s1 := slice_lh_any U hel hso q n cap i n (i : Int) (n : Int) rfl rfl (by omega) (by omega) (by omega); have s2 := slice_h_any U hel hso q n cap i (i : Int) rfl (by omega) (by omega); have s3 := slice_l_any U hel hso q n cap tot (tot : Int) rfl (by omega) (by omega); obtain ⟨W1, hW1⟩ : ∃ W, w.setCells q (i * 5) (m.flatMap edC) = W := ⟨_, rfl⟩; have hro : EdOwn W1 base (.slice (some ⟨q, 0, none⟩) n cap) (l.take i ++ m ++ l.drop (i + m.length)) := by rw [← hW1]; exact hown.lay m i (by omega)
 have hk1' : Kept (fun b => b = q) w W1 := by rw [← hW1]; exact kept_lay q _ _ _
 obtain ⟨W2, hcl, hr2, hk2⟩ := clear_end (tot := tot) (l := l.take i ++ (m ++ l.drop (i + 2))) hro (by omega) (by
  rw [List.take_append_of_le_length (by simp; omega), List.take_of_length_le (by simp; omega), List.drop_eq_nil_of_le (by omega), List.append_nil])
 have tlt : decide ((tot : Int) < (n : Int)) = true := dTt (by omega); have tlt' : decide (tot < n) = true := dTt (by omega); obtain ⟨i0, hi0, hz0, hz1, hz2⟩ := info_parts (show (Tryz.prog.info? 28).map (fun i => (i.zero, i.size, i.bytes)) = some (some (.agg #[.int .i64 0, .int .i64 0, .int .i64 0, .int .i64 0, .string ⟨#[]⟩]), 5, 48) by kernel_rfl); have HI := qH (And.intro hi0 hz1); have HM := qH (show 0 < k → _ from hk ▸ hm.src); have HL := qH (show (m.flatMap edC).length = k * 5 by rw [flatEd_len, hk]); have H1 := qH (flatEd_one m); have HS := qH (fun (i : Nat) (hi : i < cap * 5) => hown.cellE hi); have HW1 := qH hW1; have HR := qH (And.intro hr2 (hk1'.trans hk2)); have HT := qH htot; have HB := qH (And.intro (show tot ≤ cap by omega) (show i ≤ cap by omega)); clear hown hm hk hk1 hi hln hW1 hro hk1' hr2 hk2 hi0 hz0 hz1 hz2 htot hbq; generalize m.flatMap edC = news at *; go_enter Tryz.func100, Tryz.ntmps100; go_wp2_with (at_builtin; refine wpList_append_roomE rfl (.tmp 32) (.tmp 33) 36 rfl 28 i0 U HI.out.1 HI.out.2 q i cap rfl am k cm rfl HB.out.2 news HL.out HM.out H1.out tot HT.out HB.out.1 HS.out ?_); rw [HW1.out]; go_wp2_with fail; rw [hcl]; go_wp2_with fail; go_ret; exact ⟨tot, HT.out.symm, rfl, HR.out.1, HR.out.2⟩
theorem rep_stage {w : World} {base q cap i j n k r tot : Nat} {l m : List Ed} (hown : EdOwn w base (.slice (some ⟨q, 0, none⟩) n cap) l) (hk : m.length = k) (hk1 : k ≤ 1) (hj : j = i + 2) (hn : n = j + r) (htot : tot = i + k + r) :
 ∃ W2 W3 W4, w.setCells q (i * 5) (m.flatMap edC) = W2 ∧ W2.drew.setCells q ((i + k) * 5) ((l.drop j).flatMap edC) = W3 ∧
  (Builtin.clear_ #[36] 0 #[.slice (some ⟨q, tot * 5, none⟩) (n - tot) (cap - tot)]).run Tryz.prog W3 = .ok (.tuple #[]) W4 ∧
  EdOwn W4 base (.slice (some ⟨q, 0, none⟩) tot cap) (l.take i ++ (m ++ l.drop j)) ∧ Kept (fun b => b = q) w W4 ∧
  (∀ t v, ((l.drop j).flatMap edC)[t]? = some v → W2.drew.cell? ((⟨q, j * 5, none⟩ : Addr).add t) = some v) ∧
  (∀ t, t < cap * 5 → (w.cell? ⟨q, t, none⟩).isSome = true ∧ w.frozen? ⟨q, t, none⟩ = false) ∧
  (∀ t, t < cap * 5 → (W2.drew.cell? ⟨q, t, none⟩).isSome = true ∧ W2.drew.frozen? ⟨q, t, none⟩ = false) := by
 obtain ⟨hln, hnc, _, _⟩ := hown.facts; obtain ⟨W2, hW2⟩ : ∃ W, w.setCells q (i * 5) (m.flatMap edC) = W := ⟨_, rfl⟩; have h2 : EdOwn W2 base (.slice (some ⟨q, 0, none⟩) n cap) (l.take i ++ m ++ l.drop (i + m.length)) := by rw [← hW2]; exact hown.lay m i (by omega)
 have h2d : EdOwn W2.drew base (.slice (some ⟨q, 0, none⟩) n cap) (l.take i ++ m ++ l.drop (i + m.length)) := h2.below (Below.refl _ _).drew; have hlen : (l.take i ++ m).length = i + k := by simp; omega
 have hL : (l.take i ++ m ++ l.drop (i + m.length)).length = n := by simp; omega
 have hdr : (l.take i ++ m ++ l.drop (i + m.length)).drop j = l.drop j := by
  rw [List.drop_append, List.drop_eq_nil_of_le (by omega), List.nil_append, List.drop_drop, hlen, hk]
  congr 1
  omega
 obtain ⟨W3, hW3⟩ : ∃ W, W2.drew.setCells q ((i + k) * 5) ((l.drop j).flatMap edC) = W := ⟨_, rfl⟩; have hld : (l.drop j).length = r := by rw [List.length_drop]; omega
 have h3 := h2d.lay (l.drop j) (i + k) (by rw [hL, hld]; omega); rw [hW3] at h3; obtain ⟨W4, hcl, h4, hk4⟩ := clear_end (tot := tot) (l := l.take i ++ (m ++ l.drop j)) h3 (by omega) (by
  have hA : ((l.take i ++ m ++ l.drop (i + m.length)).take (i + k)).length = i + k := by rw [List.length_take, hL]; omega
  rw [List.take_append_of_le_length (by rw [List.length_append, hA, hld]; omega), List.take_of_length_le (by rw [List.length_append, hA, hld]; omega)]; rw [List.take_append_of_le_length (by omega), List.take_of_length_le (by omega), List.append_assoc])
 refine ⟨W2, W3, W4, hW2, hW3, hcl, h4, ?_, ?_, fun t ht => hown.cellE ht, fun t ht => h2d.cellE ht⟩
 · have a : Kept (fun b => b = q) w W2 := by rw [← hW2]; exact kept_lay q _ _ _
   have b : Kept (fun b => b = q) W2 W3 := by rw [← hW3]; exact (Kept.of_below (Below.refl _ W2).drew).trans (kept_lay q _ _ _)
   exact (a.trans b).trans hk4
 · intro t v hv
   rw [addr_plus]; refine h2d.at ?_; rw [← hdr, ← flatEd_drop, List.getElem?_drop] at hv; exact hv
theorem replaceB_any (l m : List Ed) (base q cap i j r n k cm : Nat) (am : Option Addr) (w : World) (hown : EdOwn w base (.slice (some ⟨q, 0, none⟩) n cap) l) (hm : ERow w am m) (hk : m.length = k) (hk1 : k ≤ 1) (hj : j = i + 2) (hn : n = j + r) (hr : 0 < r) (hl : l.length ≤ 200) :
 Calls Tryz.prog 100 #[.slice (some ⟨q, 0, none⟩) n cap, .int .i64 i, .int .i64 j, .slice am k cm] w fun e w' =>
  ∃ r, r = i + k + (l.length - j) ∧ e = .returned (.slice (some ⟨q, 0, none⟩) r cap) ∧ EdOwn w' base (.slice (some ⟨q, 0, none⟩) r cap) (l.take i ++ (m ++ l.drop j)) ∧ Kept (fun b => b = q) w w' := by
 obtain ⟨hln, hnc, hcm, hbq⟩ := hown.facts; unfold maxLen at hcm; have hel : Tryz.prog.elem 36 = 28 := by kernel_rfl
 have hso := Tryz.sizeOf28; have U := Tryz.underlying36; obtain ⟨tot, htot⟩ : ∃ tot, tot = i + k + r := ⟨_, rfl⟩; have hne : ((i : Int) == (j : Int)) = false := bFf (by omega); have hne2 : ((j : Int) == (n : Int)) = false := bFf (by omega); have s1 := slice_lh_any U hel hso q n cap i j (i : Int) (j : Int) rfl rfl (by omega) (by omega) (by omega); have s2 := slice_h_any U hel hso q n cap i (i : Int) rfl (by omega) (by omega); have s3 := slice_l_any U hel hso q n cap j (j : Int) rfl (by omega) (by omega); rw [show n - j = r by omega] at s3; have s4 := slice_h_any U hel hso q n cap tot ((i : Int) + (k : Int) + (r : Int)) (by omega) (by omega) (by omega); have s5 := slice_l_any U hel hso q tot cap i (i : Int) rfl (by omega) (by omega); have s6 := slice_l_any U hel hso q tot cap (i + k) ((i : Int) + (k : Int)) (by omega) (by omega) (by omega); have s7 := slice_l_any U hel hso q n cap tot ((i : Int) + (k : Int) + (r : Int)) (by omega) (by omega) (by omega); have t1 : decide ((cap : Int) < (i : Int) + (k : Int) + (r : Int)) = false := dFf (by omega); have t2 : decide ((i : Int) + (k : Int) ≤ (j : Int)) = true := dTt (by omega); have hwr : IntKind.i64.wrap ((i : Int) + (k : Int)) = (i : Int) + (k : Int) := by rw [IntKind.wrap_i64]; omega
 have hb1 : (i : Int) ≤ 200 := by omega
 have hb2 : (k : Int) ≤ 1 := by omega
 have hb3 : (r : Int) ≤ 200 := by omega
 have HST := qH (fun (W : World) (hb : Below w.heap.size w W) => rep_stage (hown.below hb) hk hk1 hj hn htot); have HM := qH (fun (W : World) (hb : Below w.heap.size w W) => show 0 < k → _ from hk ▸ (hm.below hb).src); obtain ⟨i0, hi0, hz0, hz1, hz2⟩ := info_parts (show (Tryz.prog.info? 28).map (fun i => (i.zero, i.size, i.bytes)) = some (some (.agg #[.int .i64 0, .int .i64 0, .int .i64 0, .int .i64 0, .string ⟨#[]⟩]), 5, 48) by kernel_rfl); have HI := qH (And.intro hi0 hz1); have HL := qH (show (m.flatMap edC).length = k * i0.size by rw [flatEd_len, hk, hz1]); have HL2 := qH (show ((l.drop j).flatMap edC).length = r * i0.size by rw [flatEd_len, List.length_drop, hz1]; congr 1; omega); have H1 := qH (flatEd_one m); have H2 := qH (flatEd_one (l.drop j)); have HT := qH (show tot = i + k + (l.length - j) by omega); have HN1 := qH (show k = Nat.min k (tot - i) from (Nat.min_eq_left (show k ≤ tot - i by omega)).symm); have HN2 := qH (show r = Nat.min r (tot - (i + k)) from (Nat.min_eq_left (show r ≤ tot - (i + k) by omega)).symm); have HB1 := qH (fun (t : Nat) (ht : t < (m.flatMap edC).length) => show i * 5 + t < cap * 5 by rw [flatEd_len] at ht; omega); have HB2 := qH (fun (t : Nat) (ht : t < ((l.drop j).flatMap edC).length) => show (i + k) * 5 + t < cap * 5 by rw [flatEd_len, List.length_drop] at ht; omega); clear hown hm hk hk1 hj hn hr hl hln hnc htot hi0 hz0 hz1 hz2 hbq; go_enter Tryz.func100, Tryz.ntmps100; go_wp2_with fail
 go_quiet (fail)
 have HBQ := qH (below_drewN (Below.refl w.heap.size w) nq); obtain ⟨w1, hw1⟩ : ∃ W, w.drewN nq = W := ⟨_, rfl⟩; rw [hw1]; rw [hw1] at HBQ; obtain ⟨W2, W3, W4, hW2, hW3, hcl, hr4, hk4, hsrc, hsp1, hsp2⟩ := HST.out w1 HBQ.out; have HM1 := qH (HM.out w1 HBQ.out); have HW2 := qH hW2; have HW3 := qH hW3; have HCL := qH hcl; have HR4 := qH (And.intro hr4 ((Kept.of_below HBQ.out).trans hk4)); have HSRC := qH hsrc; have HSP1 := qH hsp1; have HSP2 := qH hsp2; clear hw1 hW2 hW3 hcl hr4 hk4 hsrc hsp1 hsp2 HST HM; generalize m.flatMap edC = newsM at *; generalize (l.drop j).flatMap edC = newsL at *; go_wp2_with fail; rw [run_copyE w1 _ _ _ 28 i0 q (i * 5) (tot - i) (cap - i) am k cm k newsM U HI.out.1 HN1.out HL.out HM1.out H1.out (fun t ht => (HSP1.out _ (HB1.out t ht)).1) (fun t ht => (HSP1.out _ (HB1.out t ht)).2)]; rw [HW2.out]; go_wp2_with fail; refine held_start (C := fun _ => True) (by kernel_rfl) ?_; obtain ⟨Wd, hWd⟩ : ∃ W, ({ W2 with drawn := W2.drawn + 1 } : World) = W := ⟨_, rfl⟩; have HWD := qH (show W2.drew = Wd from hWd); rw [hWd]; rw [HWD.out] at HSRC HSP2 HW3; clear hWd; refine held_quiet (by kernel_rfl) (fun _ _ d _ _ h => by cases d <;> exact h) trivial [0, 1, 2, 6, 7, 8] 4 _ _ (by kernel_rfl) ?_; change wpQuiet _ _ _ _ (_ :: _ :: _ :: _ :: _ :: _ :: []) _
 repeat go_big_quiet_step (fail)
 refine wpQuiet_nil ?_; refine held_do (i := 3) _ rfl (by kernel_rfl) rfl (fun K hK => ?_); go_simp; refine hK _ _ trivial ?_; clear hK K
 try simp only [pS]
 refine held_quiet (by kernel_rfl) (fun _ _ d _ _ h => by cases d <;> exact h) trivial [4, 5] 1 _ _ (by kernel_rfl) ?_; change wpQuiet _ _ _ _ (_ :: _ :: []) _
 repeat go_big_quiet_step (fail)
 refine wpQuiet_nil ?_; refine held_do (i := 9) _ rfl (by kernel_rfl) rfl (fun K hK => ?_); refine wp_copyE (.tmp 103) (.tmp 106) 36 36 rfl 28 i0 U HI.out.1 q ((i + k) * 5) (tot - (i + k)) (cap - (i + k)) (some ⟨q, j * 5, none⟩) r (cap - j) r rfl rfl newsL HN2.out HL2.out (fun _ => ⟨_, rfl, HSRC.out⟩) H2.out (fun t ht => (HSP2.out _ (HB2.out t ht)).1) (fun t ht => (HSP2.out _ (HB2.out t ht)).2) ?_; refine hK _ _ trivial ?_; clear hK K; refine wpAnyH_done (by kernel_rfl) ?_ _
 all_goals
  rw [HW3.out]; go_wp2_with fail; rw [HCL.out]; go_wp2_with fail; go_ret; exact ⟨tot, HT.out, rfl, HR4.out.1, HR4.out.2⟩
theorem replaceE_any (l m : List Ed) (base q cap i j n k cm : Nat) (am : Option Addr) (w : World) (hown : EdOwn w base (.slice (some ⟨q, 0, none⟩) n cap) l) (hm : ERow w am m) (hk : m.length = k) (hk1 : k ≤ 1) (hj : j = i + 2) (hn : j ≤ n) (hl : l.length ≤ 200) :
 Calls Tryz.prog 100 #[.slice (some ⟨q, 0, none⟩) n cap, .int .i64 i, .int .i64 j, .slice am k cm] w fun e w' =>
  ∃ r, e = .returned (.slice (some ⟨q, 0, none⟩) r cap) ∧ EdOwn w' base (.slice (some ⟨q, 0, none⟩) r cap) (l.take i ++ (m ++ l.drop j)) ∧ Kept (fun b => b = q) w w' := by
 subst hj; by_cases h : i + 2 = n
 · subst h
   exact (replaceA_any l m base q cap i (i + 2) k cm am w hown hm hk hk1 rfl).mono fun e w' ⟨r, _, h1, h2, h3⟩ => ⟨r, h1, h2, h3⟩
 · exact (replaceB_any l m base q cap i (i + 2) (n - (i + 2)) n k cm am w hown hm hk hk1 rfl (by omega) (by omega) hl).mono fun e w' ⟨r, _, h1, h2, h3⟩ => ⟨r, h1, h2, h3⟩
theorem flatEd_set : ∀ (l : List Ed) (i : Nat) (u : Ed), i < l.length →
 ((((((l.flatMap edC).set (i * 5) (.int .i64 u.k)).set (i * 5 + 1) (.int .i64 u.n)).set (i * 5 + 2) (.int .i64 u.f)).set (i * 5 + 3) (.int .i64 u.t)).set (i * 5 + 4) (.string u.s)) = (l.set i u).flatMap edC
 | [], _, _, h => absurd h (by simp)
 | a :: l, 0, u, _ => by simp [edC]
 | a :: l, i + 1, u, h => by
  have ih := flatEd_set l i u (by simpa using h); rw [List.set_cons_succ, List.flatMap_cons, List.flatMap_cons, ← ih, show (i + 1) * 5 = i * 5 + 1 + 1 + 1 + 1 + 1 by omega]; simp [edC, List.set_cons_succ]
theorem EdOwn.set {w : World} {base q n cap : Nat} {l : List Ed} (h : EdOwn w base (.slice (some ⟨q, 0, none⟩) n cap) l) (i : Nat) (hi : i < l.length) (u : Ed) :
 ∃ W, (((((w.setCell ⟨q, i * 5, none⟩ (.int .i64 u.k)).setCell ⟨q, i * 5 + 1, none⟩ (.int .i64 u.n)).setCell ⟨q, i * 5 + 2, none⟩ (.int .i64 u.f)).setCell ⟨q, i * 5 + 3, none⟩ (.int .i64 u.t)).setCell ⟨q, i * 5 + 4, none⟩ (.string u.s)) = W ∧
  EdOwn W base (.slice (some ⟨q, 0, none⟩) n cap) (l.set i u) ∧ Kept (fun b => b = q) w W := by
 obtain ⟨e, _⟩ := h.facts; subst e; unfold EdOwn at h ⊢; have h1 := (h.stored (i * 5) (.int .i64 u.k)).1; have h2 := (h1.stored (i * 5 + 1) (.int .i64 u.n)).1; have h3 := (h2.stored (i * 5 + 2) (.int .i64 u.f)).1; have h4 := (h3.stored (i * 5 + 3) (.int .i64 u.t)).1; have h5 := (h4.stored (i * 5 + 4) (.string u.s)).1; rw [flatEd_set l i u hi] at h5; refine ⟨_, rfl, by rw [List.length_set]; exact h5, kept_setE (kept_setE (kept_setE (kept_setE (kept_setE (Kept.refl _ _) rfl) rfl) rfl) rfl) rfl⟩
open Tr (Ed isZero united bef rule1 rule2 rule3 fstIdx)
def TidR (base : Nat) (w : World) (l : List Ed) (e : Ending) (w' : World) : Prop :=
 ∃ v b l', e = .returned (.tuple #[v, .bool b]) ∧ EdOwn w' base v l' ∧ Kept (fun k => base ≤ k) w w' ∧ (Tr.step l = if b = true then Option.some l' else Option.none) ∧ (b = false → l' = l)
theorem Kept.wide {O O' : Nat → Prop} {w w' : World} (h : Kept O w w') (hO : ∀ k, O k → O' k) : Kept O' w w' := ⟨h.os, h.tape, h.output, h.size, fun k hk hn => h.block k hk (fun e => hn (hO k e))⟩
theorem step1 {l m : List Ed} (h : rule1 l = some m) : Tr.step l = some m := by unfold Tr.step; rw [h]; rfl
theorem step2 {l m : List Ed} (h1 : rule1 l = none) (h : rule2 l = some m) : Tr.step l = some m := by unfold Tr.step; rw [h1, h]; rfl
theorem step3 {l : List Ed} (h1 : rule1 l = none) (h2 : rule2 l = none) : Tr.step l = rule3 l := by unfold Tr.step; rw [h1, h2]; rfl
theorem EdOwn.cells {w : World} {base q n cap : Nat} {l : List Ed} (h : EdOwn w base (.slice (some ⟨q, 0, none⟩) n cap) l) {i : Nat} {x : Ed} (hx : l[i]? = some x) :
 w.cell? ⟨q, i * 5, none⟩ = some (.int .i64 x.k) ∧ w.cell? ⟨q, i * 5 + 1, none⟩ = some (.int .i64 x.n) ∧ w.cell? ⟨q, i * 5 + 2, none⟩ = some (.int .i64 x.f) ∧ w.cell? ⟨q, i * 5 + 3, none⟩ = some (.int .i64 x.t) ∧ w.cell? ⟨q, i * 5 + 4, none⟩ = some (.string x.s) :=
 ⟨h.at (flatEd_get l i x hx 0 _ rfl), h.at (flatEd_get l i x hx 1 _ rfl), h.at (flatEd_get l i x hx 2 _ rfl), h.at (flatEd_get l i x hx 3 _ rfl), h.at (flatEd_get l i x hx 4 _ rfl)⟩
theorem swap_list : ∀ {l : List Ed} (k : Nat) {x y : Ed}, l[k]? = some x → l[k + 1]? = some y → (l.set k y).set (k + 1) x = l.take k ++ (y :: x :: l.drop (k + 2))
 | [], _, _, _, h, _ => by simp at h
 | [_], 0, _, _, _, h => by simp at h
 | a :: b :: l, 0, x, y, h1, h2 => by
  simp only [List.getElem?_cons_zero, Option.some.injEq] at h1; simp only [Nat.zero_add, List.getElem?_cons_succ, List.getElem?_cons_zero, Option.some.injEq] at h2; subst h1 h2
  rfl
 | a :: l, k + 1, x, y, h1, h2 => by
  have ih := swap_list (l := l) k (by simpa using h1) (by simpa using h2); rw [List.set_cons_succ, List.set_cons_succ, ih]
  rfl
theorem tidied_any (l : List Ed) (base q cap n : Nat) (w : World) (hown : EdOwn w base (.slice (some ⟨q, 0, none⟩) n cap) l) (hl : l.length ≤ 200) (hn0 : 0 < n) (hc : ∀ x, x ∈ l → chkE x = 0) :
 Calls Tryz.prog 77 #[.slice (some ⟨q, 0, none⟩) n cap] w fun e w' => TidR base w l e w' := by
 obtain ⟨hln, hnc, hcm, hbq⟩ := hown.facts; unfold maxLen at hcm; obtain ⟨a0, c0, e0, hlc, hrow, _⟩ := hown.row; injection e0 with e1 e2 e3; subst e1 e3; have DI := indexE_any (some ⟨q, 0, none⟩) l cap w hrow (by omega); rw [← hln] at DI; have HO := qH hown; have HC := qH hc; have hq : ∀ b, b = q → base ≤ b := fun b e => by omega
 have HQ := qH hq; rcases Tr.rule1_idx l 0 with ⟨i1, r1⟩ | ⟨j, hj, i1, r1⟩
 case inr =>
  rw [i1, Nat.zero_add] at DI; have HDI := qH DI; have hst := qH (step1 r1); obtain ⟨n1, hn1⟩ : ∃ n1, n = n1 + 1 := ⟨n - 1, by omega⟩; have DD := fun (W : World) (hb : Below w.heap.size w W) => deleteE_any l base q cap j (j + 1) n n1 W (hown.below hb) hl (by omega) rfl hn1
  simp only [Int.natCast_add, Int.natCast_one] at DD; have HDD := qH DD; have t0 : decide ((0 : Int) ≤ (j : Int)) = true := dTt (by omega); have hj2 : (j : Int) ≤ 200 := by omega
  clear hown hc DI DD i1 r1 hn1 hj hl hln hrow hlc e2 hq; go_enter Tryz.func77, Tryz.ntmps77; go_wp2_with fail; refine HDI.out.mono ?_; rintro e w1 ⟨rfl, hb1⟩; have HB1 := qH hb1; clear hb1; go_wp2_with fail; refine (HDD.out w1 HB1.out).mono ?_; rintro e w2 ⟨rfl, ho2, hk2⟩; have HO2 := qH (And.intro ho2 hk2); clear ho2 hk2; go_wp2_with fail; go_ret2; exact ⟨_, true, _, rfl, HO2.out.1, (Kept.of_below HB1.out).trans (HO2.out.2.wide HQ.out), hst.out, fun h => by cases h⟩
 case inl =>
  rw [i1] at DI; have HDI := qH DI; have HR1 := qH r1; have HLN := qH (And.intro hln hl); clear DI i1 r1 hown hc hq hln hrow hlc e2 hl; go_enter Tryz.func77, Tryz.ntmps77; go_wp2_with fail; refine HDI.out.mono ?_; rintro e w1 ⟨rfl, hb1⟩; obtain ⟨X0, rfl⟩ : ∃ X : Ext w, w1 = X.1 := ⟨⟨w1, hb1⟩, rfl⟩; clear hb1; go_wp2_with fail
  go_loopw [5] (fun iv wr => ∃ (k : Nat), iv = .int .i64 ((k : Int) + 1) ∧ k + 1 ≤ n ∧ Hid (rule2 l = (rule2 (l.drop k)).map (l.take k ++ ·)) ∧ ∃ X : Ext w, wr = X.1) (fun iv _ => n - (intOf iv).toNat)
  case atStart => exact ⟨0, rfl, by omega, qH (Tr.rule2_start l), X0, rfl⟩
  case round =>
   obtain ⟨k, rfl, hk, HE, X, rfl⟩ := hrel; by_cases hlt : k + 1 < n
   · have t1 : decide ((k : Int) + 1 < (n : Int)) = true := dTt (by omega)
     obtain ⟨x, hx⟩ : ∃ x, l[k]? = some x := ⟨_, List.getElem?_eq_getElem (by have := HLN.out.1; omega)⟩; obtain ⟨y, hy⟩ : ∃ y, l[k + 1]? = some y := ⟨_, List.getElem?_eq_getElem (by have := HLN.out.1; omega)⟩; obtain ⟨hg1, hg2⟩ := Tr.rule2_go hx hy HE.out; obtain ⟨x0, x1, x2, x3, x4⟩ := (HO.out.below X.2).cells hx; obtain ⟨y0, y1, y2, y3, y4⟩ := (HO.out.below X.2).cells hy; have X0 := Ext.ex x0; have X1 := Ext.ex x1; have X2 := Ext.ex x2; have X3 := Ext.ex x3; have X4 := Ext.ex x4; have Y0 := Ext.ex y0; have Y1 := Ext.ex y1; have Y2 := Ext.ex y2; have Y3 := Ext.ex y3; have Y4 := Ext.ex y4; have DU := qH (fun W => united_any x y W (HC.out x (List.mem_of_getElem? hx)) (HC.out y (List.mem_of_getElem? hy))); have hn200 : n ≤ 200 := by have := HLN.out; omega
     have hwr : IntKind.i64.wrap ((k : Int) + 1 - 1) = (k : Int) := by rw [IntKind.wrap_i64]; omega
     have hsub : (k : Int) + 1 - 1 = (k : Int) := by omega
     have HG := qH (And.intro hg1 hg2); clear x0 x1 x2 x3 x4 y0 y1 y2 y3 y4 hx hy hg1 hg2 HE; unfold edV at DU; go_wp2_with fail; refine held_start (C := fun w' => ∃ Z : Ext X.1, w' = Z.1) (by kernel_rfl) ?_; obtain ⟨Z0, hZ0⟩ : ∃ Z : Ext X.1, ({ X.1 with drawn := X.1.drawn + 1 } : World) = Z.1 := ⟨⟨{ X.1 with drawn := X.1.drawn + 1 }, ⟨rfl, rfl, rfl, Nat.le_refl _, fun _ _ => rfl⟩⟩, rfl⟩; rw [hZ0]; clear hZ0; refine held_quiet (by kernel_rfl) (fun _ _ d _ _ h => by cases d <;> exact h) ⟨Z0, rfl⟩ [0, 1, 2, 3, 4, 5, 6, 7, 8] 6 _ _ (by kernel_rfl) ?_; change wpQuiet _ _ _ _ (_ :: _ :: _ :: _ :: _ :: _ :: _ :: _ :: _ :: []) _
     repeat go_big_quiet_step (fail)
     refine wpQuiet_nil ?_; refine held_do (i := 9) _ rfl (by kernel_rfl) rfl (fun K hK => ?_); go_simp; refine (DU.out _).mono ?_; rintro e w2 ⟨⟨v, rfl, hv⟩, hb2⟩; have HB2 := qH (bStp (bStp X.2 Z0.2) hb2); have HV := qH hv; obtain ⟨Z2, rfl⟩ : ∃ Z : Ext X.1, w2 = Z.1 := ⟨⟨w2, bStp Z0.2 hb2⟩, rfl⟩; refine hK _ _ ⟨Z2, rfl⟩ ?_; clear hK K hb2 hv
     try simp only [pS]
     refine held_quiet (by kernel_rfl) (fun _ _ d _ _ h => by cases d <;> exact h) ⟨Z2, rfl⟩ [10, 11, 12, 13, 14] 0 _ _ (by kernel_rfl) ?_; change wpQuiet _ _ _ _ (_ :: _ :: _ :: _ :: _ :: []) _
     repeat go_big_quiet_step (fail)
     refine wpQuiet_nil ?_; refine wpAnyH_done (by kernel_rfl) ?_ _
     cases hu : united x y with
     | none =>
      have HN := qH (HG.out.2 hu); clear hu; simp only [Option.isSome]; go_wp2_with fail
      go_roundw
      case rel => exact ⟨k + 1, by go_num, by omega, HN, ⟨Z2.1, HB2.out⟩, rfl⟩
      case measure => simp [intOf]; omega
     | some m =>
      have HS := qH (step2 HR1.out (HG.out.1 m hu)); obtain ⟨am, cm, rfl, _, hrm, _⟩ := (HV.out m hu).row; have hml := Tr.united_len hu; have DR := replaceE_any l m base q cap k (k + 2) n m.length cm am Z2.1 (HO.out.below HB2.out) hrm rfl hml rfl (by omega) HLN.out.2; simp only [Int.natCast_add, Int.cast_ofNat_Int] at DR; have HDR := qH DR; have hwr2 : IntKind.i64.wrap ((k : Int) + 1 + 1) = (k : Int) + 2 := by rw [IntKind.wrap_i64]; omega
      clear hu hrm DR; simp only [Option.isSome]; go_wp2_with fail; refine HDR.out.mono ?_; rintro e w3 ⟨r, rfl, ho3, hk3⟩; have HO3 := qH (And.intro ho3 hk3); clear ho3 hk3; go_wp2_with fail; go_ret2; exact ⟨_, true, _, rfl, HO3.out.1, (Kept.of_below HB2.out).trans (HO3.out.2.wide HQ.out), HS.out, fun h => by cases h⟩
   · have t1 : decide ((k : Int) + 1 < (n : Int)) = false := dFf (by omega)
     have HR2 := qH (Tr.rule2_end (by have := HLN.out.1; omega) HE.out); clear HE hlt; go_wp2_with fail
     go_loopw [8] (fun iv wr => ∃ (k : Nat), iv = .int .i64 ((k : Int) + 1) ∧ k + 1 ≤ n ∧ Hid (rule3 l = (rule3 (l.drop k)).map (l.take k ++ ·)) ∧ ∃ X : Ext w, wr = X.1) (fun iv _ => n - (intOf iv).toNat)
     case atStart => exact ⟨0, rfl, by omega, qH (Tr.rule3_start l), X, rfl⟩
     case round =>
      obtain ⟨k, rfl, hk, HE, X, rfl⟩ := hrel; by_cases hlt : k + 1 < n
      · have t2 : decide ((k : Int) + 1 < (n : Int)) = true := dTt (by omega)
        obtain ⟨x, hx⟩ : ∃ x, l[k]? = some x := ⟨_, List.getElem?_eq_getElem (by have := HLN.out.1; omega)⟩; obtain ⟨y, hy⟩ : ∃ y, l[k + 1]? = some y := ⟨_, List.getElem?_eq_getElem (by have := HLN.out.1; omega)⟩; obtain ⟨hg1, hg2⟩ := Tr.rule3_go hx hy HE.out; obtain ⟨x0, x1, x2, x3, x4⟩ := (HO.out.below X.2).cells hx; obtain ⟨y0, y1, y2, y3, y4⟩ := (HO.out.below X.2).cells hy; have X0 := Ext.ex x0; have X1 := Ext.ex x1; have X2 := Ext.ex x2; have X3 := Ext.ex x3; have X4 := Ext.ex x4; have Y0 := Ext.ex y0; have Y1 := Ext.ex y1; have Y2 := Ext.ex y2; have Y3 := Ext.ex y3; have Y4 := Ext.ex y4; have DO := qH (fun (Z : Ext X.1) => Z.calls (order_any y x Z.1 (chkE_kind (HC.out y (List.mem_of_getElem? hy))) (chkE_kind (HC.out x (List.mem_of_getElem? hx))))); have hn200 : n ≤ 200 := by have := HLN.out; omega
        have hwr : IntKind.i64.wrap ((k : Int) + 1 - 1) = (k : Int) := by rw [IntKind.wrap_i64]; omega
        have hsub : (k : Int) + 1 - 1 = (k : Int) := by omega
        have HG := qH (And.intro hg1 hg2); have hov := ordV_neg y x; have HXY := qH (And.intro hx hy); generalize ordV y x = ov at *; clear x0 x1 x2 x3 x4 y0 y1 y2 y3 y4 hx hy hg1 hg2 HE; unfold edV at DO
        cases hb : bef y x
        · rw [hb] at hov
          have HN := qH (HG.out.2 hb); clear hb; go_wp2_with fail; refine wp_region_ext (W := X.1) ⟨X.1, Below.refl _ _⟩ (by kernel_rfl) (by kernel_rfl) ?_
          repeat go_big_quiet_step (exact DO.out _)
          refine wpQuiet_nil ?_; intro _ hw'; obtain ⟨Z2, rfl⟩ := hw'; have HB2 := qH (bStp X.2 Z2.2); go_wp2_with fail
          go_roundw
          case rel => exact ⟨k + 1, by go_num, by omega, HN, ⟨Z2.1, HB2.out⟩, rfl⟩
          case measure => simp [intOf]; omega
        · rw [hb] at hov
          have HS := qH (HG.out.1 hb); have fz : ∀ (Z : Ext X.1) (t : Nat), t < cap * 5 → (Z.1.frozen? ⟨q, t, none⟩ = false) := fun Z t ht => ((HO.out.below (bStp X.2 Z.2)).cellE ht).2
          have HFZ := qH fz; clear hb fz; go_wp2_with fail; refine wp_region_ext (W := X.1) ⟨X.1, Below.refl _ _⟩ (by kernel_rfl) (by kernel_rfl) ?_
          repeat go_big_quiet_step (exact DO.out _)
          refine wpQuiet_nil ?_; intro _ hw'; obtain ⟨Z2, rfl⟩ := hw'; have HB2 := qH (bStp X.2 Z2.2); have f0 := HFZ.out Z2 (k * 5) (by omega); have f1 := HFZ.out Z2 (k * 5 + 1) (by omega); have f2 := HFZ.out Z2 (k * 5 + 2) (by omega); have f3 := HFZ.out Z2 (k * 5 + 3) (by omega); have f4 := HFZ.out Z2 (k * 5 + 4) (by omega); have g0 := HFZ.out Z2 ((k + 1) * 5) (by omega); have g1 := HFZ.out Z2 ((k + 1) * 5 + 1) (by omega); have g2 := HFZ.out Z2 ((k + 1) * 5 + 2) (by omega); have g3 := HFZ.out Z2 ((k + 1) * 5 + 3) (by omega); have g4 := HFZ.out Z2 ((k + 1) * 5 + 4) (by omega); go_wp2_with fail
          go_region
          obtain ⟨V1, hV1, ho1, hk1⟩ := (HO.out.below HB2.out).set k (by have := HLN.out.1; omega) y; obtain ⟨V2, hV2, ho2, hk2⟩ := ho1.set (k + 1) (by rw [List.length_set]; have := HLN.out.1; omega) x; rw [hV1, hV2]; rw [swap_list k HXY.out.1 HXY.out.2] at ho2; have HO2 := qH (And.intro ho2 (hk1.trans hk2)); clear hV1 ho1 hk1 hV2 ho2 hk2; go_wp2_with fail; go_ret2; exact ⟨_, true, _, rfl, HO2.out.1.below (Below.refl _ _).drew, ((Kept.of_below HB2.out).trans (HO2.out.2.wide HQ.out)).trans (Kept.of_below (Below.refl _ _).drew), by rw [step3 HR1.out HR2.out, HS.out]; rfl, fun h => by cases h⟩
      · have t2 : decide ((k : Int) + 1 < (n : Int)) = false := dFf (by omega)
        have HR3 := qH (Tr.rule3_end (by have := HLN.out.1; omega) HE.out); have HX := qH X.2; clear HE hlt; go_wp2_with fail; go_ret2; exact ⟨_, false, l, rfl, HO.out.below HX.out, Kept.of_below HX.out, by rw [step3 HR1.out HR2.out, HR3.out]; rfl, fun _ => rfl⟩
end Go.Proofs.YtjnfccphodjfiaaGreat
namespace Go.Proofs.YtjnfccphodjfiaaGreat
set_option maxHeartbeats 8000000
set_option maxRecDepth 100000
open Go.RowKit Go.BigFrame
open Tr (Ed isZero united bef rule1 rule2 rule3 fstIdx)
theorem edC_inj {x y : Ed} (h : edC x = edC y) : x = y := by
 unfold edC at h; simp only [List.cons.injEq, Value.int.injEq, Value.string.injEq, true_and, and_true] at h; exact Tr.Ed.ext' h.1 h.2.1 h.2.2.1 h.2.2.2.1 h.2.2.2.2
theorem flatEd_inj : ∀ {l m : List Ed}, l.flatMap edC = m.flatMap edC → l = m
 | [], [], _ => rfl
 | [], y :: m, h => by simp [edC] at h
 | x :: l, [], h => by simp [edC] at h
 | x :: l, y :: m, h => by
  rw [List.flatMap_cons, List.flatMap_cons] at h; obtain ⟨h1, h2⟩ := List.append_inj h rfl; rw [edC_inj h1, flatEd_inj h2]
theorem EdOwn.uniq {w : World} {base base' : Nat} {v : Value} {l m : List Ed} (h : EdOwn w base v l) (k : EdOwn w base' v m) : l = m := by
 rcases h.2 with ⟨e, h0⟩ | ⟨g, cap, cur, e, _, hg, _, _, _, ht⟩
 · subst e
   rcases k.2 with ⟨_, k0⟩ | ⟨g', cap', cur', e', _⟩
   · rw [List.length_eq_zero_iff.1 h0, List.length_eq_zero_iff.1 k0]
   · cases e'
 · subst e
   rcases k.2 with ⟨e', _⟩ | ⟨g', cap', cur', e', _, kg, _, _, _, kt⟩
   · cases e'
   · injection e' with e1 e2 e3
     injection e1 with e1; injection e1 with e1; subst e1; rw [hg] at kg; injection kg with kg; injection kg with kg; subst kg; rw [← e2, ht] at kt; exact flatEd_inj kt
theorem tidied_nil (a : Option Addr) (c base : Nat) (w : World) (hown : EdOwn w base (.slice a 0 c) []) :
 Calls Tryz.prog 77 #[.slice a 0 c] w fun e w' => TidR base w [] e w' := by
 have DI := indexE_any a [] c w ⟨fun h => by simp at h⟩ (by simp); change Calls _ _ _ _ (fun e w' => e = .returned (.int .i64 (-1)) ∧ _) at DI; have HDI := qH DI; have HO := qH hown; clear DI hown; simp only [List.length_nil] at HDI; go_enter Tryz.func77, Tryz.ntmps77; go_wp2_with fail; refine HDI.out.mono ?_; rintro e w1 ⟨rfl, hb1⟩; have HB := qH hb1; clear hb1; go_wp2_with fail
 go_loopw [5] (fun iv wr => iv = .int .i64 1 ∧ w1 = wr) (fun _ _ => 0)
 case atStart => exact ⟨rfl, rfl⟩
 case round =>
  obtain ⟨rfl, rfl⟩ := hrel; go_wp2_with fail
  go_loopw [8] (fun iv wr => iv = .int .i64 1 ∧ w1 = wr) (fun _ _ => 0)
  case atStart => exact ⟨rfl, rfl⟩
  case round =>
   obtain ⟨rfl, rfl⟩ := hrel; go_wp2_with fail; go_ret2; exact ⟨_, false, [], rfl, HO.out.below HB.out, Kept.of_below HB.out, rfl, fun _ => rfl⟩
end Go.Proofs.YtjnfccphodjfiaaGreat
namespace Go.Proofs.YtjnfccphodjfiaaGreat
set_option maxHeartbeats 8000000
set_option maxRecDepth 100000
open Go.RowKit Go.BigFrame
open Tr (Ed)
def tidyR (l : List Ed) : List Ed := if chkEL l = 0 then Tr.tidyL l else []
theorem eps_own {w : World} {b : Nat} {v : Value} {l : List Ed} (h : EdOwn w b v l) : Classical.epsilon (fun l => ∃ b, EdOwn w b v l) = l := by
 obtain ⟨b', h'⟩ := Classical.epsilon_spec (p := fun l => ∃ b, EdOwn w b v l) ⟨l, b, h⟩; exact h'.uniq h
theorem tidied_own (l : List Ed) (base : Nat) (v : Value) (w : World) (hown : EdOwn w base v l) (hl : l.length ≤ 200) (hc : ∀ x, x ∈ l → chkE x = 0) : Calls Tryz.prog 77 #[v] w fun e w' => TidR base w l e w' := by
 rcases hown.2 with ⟨rfl, h0⟩ | ⟨q, cap, cur, rfl, _⟩
 · obtain rfl := List.length_eq_zero_iff.1 h0
   exact tidied_nil none 0 base w hown
 · cases l with
   | nil => exact tidied_nil _ cap base w hown
   | cons x l => exact tidied_any (x :: l) base q cap _ w hown hl (by simp) hc
theorem kept_from {base : Nat} {w w1 w2 : World} (h : Below w.heap.size w w1) (hb : w.heap.size ≤ base) (hk : Kept (fun k => base ≤ k) w1 w2) : Below w.heap.size w w2 :=
 Kept.below h hk h.size (fun k hk e => by omega)
theorem tidy_next {l m m' : List Ed} {w wr w3 : World} {v v3 : Value} {b3 : Bool}
 (h : EdOwn wr w.heap.size v m ∧ Below w.heap.size w wr ∧ m.length ≤ 200 ∧ (∀ x, x ∈ m → chkE x = 0) ∧ Tr.tidyL l = Tr.tidyL m ∧ (true = false → Tr.step m = none))
 (k : EdOwn w3 w.heap.size v3 m' ∧ Kept (fun k => w.heap.size ≤ k) wr w3 ∧ (Tr.step m = if b3 = true then some m' else none) ∧ (b3 = false → m' = m)) :
 EdOwn w3 w.heap.size v3 m' ∧ Below w.heap.size w w3 ∧ m'.length ≤ 200 ∧ (∀ x, x ∈ m' → chkE x = 0) ∧ Tr.tidyL l = Tr.tidyL m' ∧ (b3 = false → Tr.step m' = none) := by
 obtain ⟨_, h2, h3, h4, h5, _⟩ := h; obtain ⟨k1, k2, k3, k4⟩ := k; refine ⟨k1, kept_from h2 (Nat.le_refl _) k2, ?_⟩
 cases b3
 · obtain rfl := k4 rfl
   exact ⟨h3, h4, h5, fun _ => k3⟩
 · exact ⟨Nat.le_trans (Tr.step_mu h3 k3).2 h3, Tr.step_all united_ok k3 h4, by rw [h5, Tr.tidyL_step h3 k3], fun h => by cases h⟩
theorem tidy_any (a : Option Addr) (l : List Ed) (c : Nat) (w : World) (hr : ERow w a l) (hs : ∀ x, x ∈ l → x.s.size ≤ maxLen) :
 Calls Tryz.prog 47 #[.slice a l.length c] w fun e w' => (∃ v, e = .returned (.tuple #[v, .int .i64 (chkEL l)]) ∧ EdOwn w' w.heap.size v (tidyR l)) ∧ Below w.heap.size w w' := by
 have DC := qH (checkEdits_any a l c w hr hs); have DK := qH (fun (hn : l.length ≤ 1000000) (X : Ext w) => cloneE_any a l c X.1 (hr.below X.2) hn); have HT : Hid (tidyR l = if chkEL l = 0 then Tr.tidyL l else []) := qH rfl; have HCK := qH (fun (h : chkEL l = 0) => show l.length ≤ 200 ∧ ∀ x, x ∈ l → chkE x = 0 from by
  unfold chkEL at h
  split at h
  · cases h
  · exact ⟨by omega, chkEs_zero.1 h⟩)
 obtain ⟨n, hnn⟩ : ∃ n, l.length = n := ⟨_, rfl⟩; rw [hnn] at DC DK ⊢; have HNN := qH hnn; generalize chkEL l = r at *; clear hr hs hnn; by_cases h0 : r = 0
 · subst h0
   have HT2 := qH (HT.out.trans (if_pos rfl)); have HC := qH (HCK.out rfl); clear HT HCK; go_enter Tryz.func47, Tryz.ntmps47; go_wp2_with fail; refine DC.out.mono ?_; rintro e w1 ⟨rfl, hb1⟩; obtain ⟨X, rfl⟩ : ∃ X : Ext w, w1 = X.1 := ⟨⟨w1, hb1⟩, rfl⟩; clear hb1; go_wp2_with fail; refine (DK.out (by have := HC.out.1; have := HNN.out; omega) X).mono ?_; rintro e w2 ⟨⟨v, rfl, ho⟩, hb2⟩; have HO := qH (ho.weaken X.2.size); have HB := qH (X.2.trans (hb2.mono X.2.size)); clear ho hb2 DC DK; go_wp2_with fail
   go_loopw [5, 6] (fun vv bv wr => ∃ (b : Bool) (m : List Ed), bv = .bool b ∧ Hid (EdOwn wr w.heap.size vv m ∧ Below w.heap.size w wr ∧ m.length ≤ 200 ∧ (∀ x, x ∈ m → chkE x = 0) ∧ Tr.tidyL l = Tr.tidyL m ∧ (b = false → Tr.step m = none)))
    (fun vv bv wr => 2 * Tr.mu (Classical.epsilon (fun l => ∃ b, EdOwn wr b vv l)) + (match bv with | .bool true => 1 | _ => 0))
   case atStart => exact ⟨true, l, rfl, qH ⟨HO.out, HB.out, HC.out.1, HC.out.2, rfl, fun h => by cases h⟩⟩
   case round =>
    obtain ⟨b, m, rfl, HH⟩ := hrel
    cases b
    · have HF := qH (show tidyR l = m by
       obtain ⟨_, _, _, _, h5, h6⟩ := HH.out; rw [HT2.out, h5, Tr.tidyL_none (h6 rfl)])
      go_wp2_with fail; go_ret2; exact ⟨⟨_, rfl, by rw [HF.out]; exact HH.out.1⟩, HH.out.2.1⟩
    · have DT := qH (tidied_own m w.heap.size _ wr HH.out.1 HH.out.2.2.1 HH.out.2.2.2.1)
      go_wp2_with fail; refine DT.out.mono ?_; rintro e w3 ⟨v3, b3, m3, rfl, ho3, hk3, hst3, hsm3⟩; have HR3 := qH (And.intro ho3 (And.intro hk3 (And.intro hst3 hsm3))); clear ho3 hk3 hst3 hsm3; go_wp2_with fail
      go_roundw
      case rel => exact ⟨b3, m3, rfl, qH (tidy_next HH.out HR3.out)⟩
      case measure =>
       obtain ⟨ho3, _, hst3, hsm3⟩ := HR3.out; rw [eps_own HH.out.1, eps_own ho3]
       cases b3
       · rw [hsm3 rfl]
         simp
       · have := (Tr.step_mu HH.out.2.2.1 hst3).1
         simp only; omega
 · have hne : (r != 0) = true := bTt h0
   have HT2 := qH (HT.out.trans (if_neg h0)); clear HT HCK DK h0; go_enter Tryz.func47, Tryz.ntmps47; go_wp2_with fail; refine DC.out.mono ?_; rintro e w1 ⟨rfl, hb1⟩; have HB := qH hb1; clear hb1; go_wp2_with fail; go_ret2; exact ⟨⟨_, rfl, by rw [HT2.out]; exact EdOwn.nil _ _⟩, HB.out⟩
open Tr (Ed inR)
theorem rout_any (n lo hi : Int) (w : World) : Calls Tryz.prog 37 #[.int .i64 n, .int .i64 lo, .int .i64 hi] w fun e w' => e = .returned (.bool (!inR n lo hi)) ∧ w = w' := by
 by_cases h1 : n < lo
 · have t1 : decide (n < lo) = true := by simpa using h1
   have HV := qH (show (!inR n lo hi) = true by simp [inR]; omega); clear h1; go_enter Tryz.func37, Tryz.ntmps37; go_wp2_with fail; go_ret; exact ⟨ret_bool HV.out.symm, rfl⟩
 · have t1 : decide (n < lo) = false := by simpa using h1
   have HV := qH (show (!inR n lo hi) = decide (hi < n) by
    unfold inR; rw [decide_eq_true (show lo ≤ n by omega), Bool.true_and]; by_cases h : hi < n
    · rw [decide_eq_true h, decide_eq_false (by omega)]; rfl
    · rw [decide_eq_false h, decide_eq_true (by omega)]; rfl)
   clear h1; go_enter Tryz.func37, Tryz.ntmps37; go_wp2_with fail; go_ret; exact ⟨ret_bool HV.out.symm, rfl⟩
def usesT (k : Int) : Bool := decide (k = 1) || decide (k = 3) || decide (k = 4) || decide (k = 11)
def usesS (k : Int) : Bool := decide (k = 8) || decide (k = 11)
theorem rspan_any (k : Int) (w : World) : Calls Tryz.prog 40 #[.int .i64 k] w fun e w' => e = .returned (.bool (usesS k)) ∧ w = w' := by
 by_cases h1 : k = 8
 · subst h1
   go_enter Tryz.func40, Tryz.ntmps40; go_wp2_with fail; go_ret; exact ⟨rfl, rfl⟩
 · have b1 := beqF h1
   have HV := qH (show usesS k = decide (k = 11) by unfold usesS; rw [decide_eq_false h1, Bool.false_or]); clear h1; go_enter Tryz.func40, Tryz.ntmps40; go_wp2_with fail; go_ret; exact ⟨ret_bool HV.out.symm, rfl⟩
theorem rtext_any (k : Int) (w : World) : Calls Tryz.prog 38 #[.int .i64 k] w fun e w' => e = .returned (.bool (usesT k)) ∧ w = w' := by
 by_cases h : k = 1 ∨ k = 3 ∨ k = 4
 · rcases h with rfl | rfl | rfl
   all_goals
    go_enter Tryz.func38, Tryz.ntmps38; go_wp2_with fail; go_ret; exact ⟨rfl, rfl⟩
 · have b1 : (k == 1) = false := beqF (by omega)
   have b3 : (k == 3) = false := beqF (by omega); have b4 : (k == 4) = false := beqF (by omega); have HV := qH (show usesT k = decide (k = 11) by unfold usesT; rw [decide_eq_false (by omega), decide_eq_false (by omega), decide_eq_false (by omega)]; rfl); clear h; go_enter Tryz.func38, Tryz.ntmps38; go_wp2_with fail; go_ret; exact ⟨ret_bool HV.out.symm, rfl⟩
open Tr (inR)
open Ft (Mt)
theorem held_two {P : Program} {Q : Exit → Act → World → Prop} {C : World → Prop} {l : List Oper} {i j fuel : Nat} {listed : Array Bool} {a : Act} {w : World} (oi oj : Oper) (hi : nth l i = some oi) (hj : nth l j = some oj) (hr : Region.ready .any l.toArray listed = [i, j])
 (hwi : Region.wanted oi (yielded l.toArray a.tmps) = true) (hwj : Region.wanted oj (yielded l.toArray a.tmps) = true)
 (h1 : ∀ K : Act → World → Prop, (∀ a' w', C w' → wpAnyH P .any l.toArray Q C fuel (listed.setIfInBounds i true) a' w' → K a' w') → oi.wp P a w K Q)
 (h2 : ∀ K : Act → World → Prop, (∀ a' w', C w' → wpAnyH P .any l.toArray Q C fuel (listed.setIfInBounds j true) a' w' → K a' w') → oj.wp P a w K Q) : wpAnyH P .any l.toArray Q C (fuel + 1) listed a w := by
 rw [nth_eq] at hi hj; refine wpAnyH_all hr (by simp) fun q hq => ?_
 simp only [List.mem_cons, List.not_mem_nil, or_false] at hq; rcases hq with rfl | rfl
 · unfold wpOp
   simp only [hi, hwi, if_true]; exact Or.inl (h1 _ fun a' w' h3 h4 => ⟨h3, h4⟩)
 · unfold wpOp
   simp only [hj, hwj, if_true]; exact Or.inl (h2 _ fun a' w' h3 h4 => ⟨h3, h4⟩)
end Go.Proofs.YtjnfccphodjfiaaGreat
namespace Go.Proofs.YtjnfccphodjfiaaGreat
open Go.RowKit Go.BigFrame
def isCalm4 : Op → Bool
 | .nilCheck _ => true
 | op => isCalm3 op
theorem calm_value4 {P : Program} {o : Oper} {ρ : Operand → Value} {w w' : World} {n : Next} (hc : isCalm4 o.op = true) (h : (execOp ρ o).run P w = .ok n w') : n ≠ .skip ∧ ∀ f args, n ≠ .enter f args := by
 obtain ⟨dst, op, type, pos, after, guard⟩ := o
 cases op
 case nilCheck x =>
  simp only [execOp] at h
  split at h
  · simp [go_sem, goPanic] at h
  · simp [go_sem, goPanic] at h
  · simp [go_sem, goPanic] at h
  · split at h
    · simp [go_sem, goPanic] at h
    · simp only [Sem.run_bind] at h
      rename_i name first captured _ _ t v hf; simp only [go_sem] at h; rw [show Sem.run P program w = .ok P w from rfl] at h; simp only [Result.andThen_ok] at h
      cases hr : (nilAhead (P.types.size + 100) t v name).run P w with
      | ok b w1 =>
       rw [hr] at h; simp only [Result.andThen_ok] at h
       split at h
       · simp [go_sem, unsupported] at h
       · simp at h
         exact ⟨by rw [← h.1]; simp, by rw [← h.1]; simp⟩
      | halt e w1 =>
       rw [hr] at h; simp at h
    · simp at h
      exact ⟨by rw [← h.1]; simp, by rw [← h.1]; simp⟩
  · simp at h
    exact ⟨by rw [← h.1]; simp, by rw [← h.1]; simp⟩
 all_goals
  obtain ⟨x, rfl⟩ := calm_value3 (by exact hc) h; exact ⟨by simp, by simp⟩
section
variable {P : Program} {ops : Array Oper} {Q : Exit → Act → World → Prop} {C : World → Prop}
theorem yieldsIf_of_quiet4 {o : Oper} {a : Act} {v : Value} (hc : isCalm4 o.op = true) (hw : Region.wanted o (yielded ops a.tmps) = true) (h : ∀ w, C w → o.quietAt P a C w v) : YieldsIf P ops C o v a := by
 refine Or.inl ⟨hw, fun w hC => ?_⟩; have h1 := h w hC; unfold Oper.quietAt at h1
 cases hr : (execOp a.eval o).run P w with
 | ok n w' =>
  rw [hr] at h1; obtain ⟨n1, n2⟩ := calm_value4 hc hr
  cases n with
  | value x =>
   simp only [Oper.quietUpon] at h1; rw [h1.1, h1.2]
  | skip => exact absurd rfl n1
  | enter f args => exact absurd rfl (n2 f args)
  | _ => simp [Oper.quietUpon] at h1
 | halt e w' => rw [hr] at h1; simp [Oper.quietUpon] at h1
end
section
variable {P : Program} {ops : Array Oper} {Q : Exit → Act → World → Prop} {C : World → Prop} {s : Nat}
def wpAnyS (P : Program) (ops : Array Oper) (Q : Exit → Act → World → Prop) (s : Nat) (C : World → Prop) : Nat → Array Bool → Act → World → Prop
 | 0, listed, a, w => Region.ready .any ops listed = [] ∧ Q .normal a w
 | fuel + 1, listed, a, w =>
  (Region.ready .any ops listed = [] → Q .normal a w) ∧
  ∀ i ∈ Region.ready .any ops listed, wpOp P ops Q i (fun a' w' => ((listed.setIfInBounds i true).getD s true = false → C w') ∧ wpAnyS P ops Q s C fuel (listed.setIfInBounds i true) a' w') a w
theorem wpAny_of_S : ∀ (fuel : Nat) (listed : Array Bool) (a : Act) (w : World), wpAnyS P ops Q s C fuel listed a w → wpAny P .any ops Q fuel listed a w
 | 0, _, _, _, h => h
 | fuel + 1, _, _, _, h => ⟨h.1, fun i hi => wpOp_mono (fun a' w' h' => wpAny_of_S fuel _ a' w' h'.2) (h.2 i hi)⟩
def Cl (ops : Array Oper) (listed : Array Bool) : Prop := ∀ j, listed.getD j true = true → ∀ oj, ops[j]? = some oj → ∀ e ∈ oj.after, Region.binds .any e = true → listed.getD e.on false = true
theorem Cl.step {listed : Array Bool} (h : Cl ops listed) {j : Nat} (hj : j ∈ Region.ready .any ops listed) : Cl ops (listed.setIfInBounds j true) := by
 intro s hs os ho e he hb; obtain ⟨_, oj, hoj, hall⟩ := mem_ready.1 hj; by_cases e1 : j = s
 · subst e1
   rw [ho] at hoj; injection hoj with hoj; subst hoj; exact getD_set_true (hall e he hb)
 · rw [getD_set_ne true e1] at hs
   exact getD_set_true (h s hs os ho e he hb)
def waitsD (ops : Array Oper) (s i : Nat) : Bool := ((ops[s]?).map fun o => o.after.any fun e => Region.binds .any e && (e.on == i)).getD false
def waitsN (ops : Array Oper) (s : Nat) : Nat → Nat → Bool
 | 0, i => waitsD ops s i
 | n + 1, i => waitsD ops s i || (List.range ops.size).any fun m => waitsD ops m i && waitsN ops s n m
def waits (ops : Array Oper) (s i : Nat) : Bool := waitsN ops s 5 i
theorem Cl.dep {listed : Array Bool} (h : Cl ops listed) {j i : Nat} (hw : waitsD ops j i = true) (hi : listed.getD i true = false) : listed.getD j true = false := by
 cases hs : listed.getD j true with
 | false => rfl
 | true =>
  unfold waitsD at hw
  cases ho : ops[j]? with
  | none => rw [ho] at hw; simp at hw
  | some os =>
   rw [ho] at hw; simp only [Option.map_some, Option.getD_some] at hw; obtain ⟨e, he, h2⟩ := Array.any_eq_true'.1 hw; rw [Bool.and_eq_true, beq_iff_eq] at h2; have h3 := h j hs os ho e he h2.1; rw [h2.2] at h3; rw [Array.getD_eq_getD_getElem?] at hi h3
   cases hx : listed[i]? with
   | none => rw [hx] at hi; cases hi
   | some b => rw [hx] at hi h3; simp at hi h3; rw [hi] at h3; cases h3
theorem Cl.notN {listed : Array Bool} (h : Cl ops listed) : ∀ (n i : Nat), waitsN ops s n i = true → listed.getD i true = false → listed.getD s true = false
 | 0, i, hw, hi => h.dep hw hi
 | n + 1, i, hw, hi => by
  rw [waitsN, Bool.or_eq_true] at hw; rcases hw with hw | hw
  · exact h.dep hw hi
  · obtain ⟨m, _, h2⟩ := List.any_eq_true.1 hw
    rw [Bool.and_eq_true] at h2; exact Cl.notN h n m h2.2 (h.dep h2.1 hi)
theorem Cl.not {listed : Array Bool} (h : Cl ops listed) {i : Nat} (hw : waits ops s i = true) (hi : listed.getD i true = false) : listed.getD s true = false := h.notN 5 i hw hi
theorem wpAnyS_first {i : Nat} {oi : Oper} {v : Value} (hi : ops[i]? = some oi) (hsel : ∀ (j : Nat) (o : Oper) cs b, ops[j]? = some o → o.op ≠ .select cs b) (his : i ≠ s) (hwt : waits ops s i = true)
 (hQ : ∀ c a w, Q (.panic c) (a.put oi.dst v) w → Q (.panic c) a w) :
 ∀ (fuel : Nat) (listed : Array Bool) (a : Act) (w : World), Cl ops listed →
  (∀ j oj, ops[j]? = some oj → j ≠ i → listed.getD j true = false → (∀ e ∈ oj.after, Region.binds .any e = true → e.on ≠ i) → oi.apart ops oj = true) →
  i ∈ Region.ready .any ops listed → YieldsIf P ops C oi v a → (listed.getD s true = false → C w) →
  wpAnyS P ops Q s C fuel (listed.setIfInBounds i true) (a.put oi.dst v) w → wpAnyS P ops Q s C (fuel + 1) listed a w := by
 intro fuel
 induction fuel with
 | zero =>
  intro listed a w hcl _ hr hy hS H; have h0 := hcl.not hwt (mem_ready.1 hr).1; refine ⟨fun h => (by rw [h] at hr; cases hr), fun j hj => ?_⟩; by_cases hji : j = i
  · subst hji; exact hy.wpOp hi (hS h0) ⟨fun _ => hS h0, H⟩
  · have := ready_mono hj hji
    rw [H.1] at this
    cases this
 | succ fuel ih =>
  intro listed a w hcl hfree hr hy hS H; have h0 := hcl.not hwt (mem_ready.1 hr).1; refine ⟨fun h => (by rw [h] at hr; cases hr), fun j hj => ?_⟩; by_cases hji : j = i
  · subst hji; exact hy.wpOp hi (hS h0) ⟨fun _ => hS h0, H⟩
  · have h1 := H.2 j (ready_mono hj hji)
    obtain ⟨hjun, oj, hoj, hall⟩ := mem_ready.1 hj; have hnot : ∀ e ∈ oj.after, Region.binds .any e = true → e.on ≠ i := fun e he hb heq => by
     have h1 := hall e he hb; have h0 := (mem_ready.1 hr).1; rw [heq] at h1; rcases Nat.lt_or_ge i listed.size with h' | h'
     · simp [h'] at h0 h1; rw [h0] at h1; cases h1
     · simp [Array.getElem?_eq_none h'] at h1
    have h2 := wpOp_putIf hoj (hfree j oj hoj hji hjun hnot) (fun cs b => hsel i oi cs b hi) (fun cs b => hsel j oj cs b hoj) hQ hy h1; have hfree' : ∀ k ok, ops[k]? = some ok → k ≠ i → (listed.setIfInBounds j true).getD k true = false →
     (∀ e ∈ ok.after, Region.binds .any e = true → e.on ≠ i) → oi.apart ops ok = true := fun k ok hk hki hun hno => by
     refine hfree k ok hk hki ?_ hno; by_cases hjk : j = k
     · subst hjk; exact hjun
     · rw [getD_set_ne true hjk] at hun; exact hun
    refine wpOp_mono (fun a' w' h3 => ?_) h2; have hS' : (listed.setIfInBounds j true).getD s true = false → C w' := fun hs => h3.2.1 (by rw [Array.setIfInBounds_comm _ _ (Ne.symm hji), getD_set_ne true his]; exact hs)
    refine ⟨hS', ih (listed.setIfInBounds j true) a' w' (hcl.step hj) hfree' (ready_mono hr (Ne.symm hji)) h3.1 hS' ?_⟩; rw [Array.setIfInBounds_comm _ _ hji]; exact h3.2.2
def calmS (ops : Array Oper) (s : Nat) : List Nat → Array Bool → Bool
 | [], _ => true
 | i :: is, listed => (((ops[i]?).map fun o => isCalm4 o.op).getD false && Region.free .any ops listed i && (Region.ready .any ops listed).contains i && (i != s) && waits ops s i) && calmS ops s is (listed.setIfInBounds i true)
def clB (ops : Array Oper) (_s : Nat) (listed : Array Bool) : Bool := (List.range ops.size).all fun j => !listed.getD j true || ((ops[j]?).map fun o => o.after.all fun e => !Region.binds .any e || listed.getD e.on false).getD true
theorem cl_of {listed : Array Bool} (h : clB ops s listed = true) : Cl ops listed := fun j hj oj ho e he hb => by
 have hlt : j < ops.size := (Array.getElem?_eq_some_iff.1 ho).1; have h1 := List.all_eq_true.1 h j (List.mem_range.2 hlt); rw [hj, ho] at h1; simp only [Bool.not_true, Bool.false_or, Option.map_some, Option.getD_some] at h1; have h2 := Array.all_eq_true'.1 h1 e he; rw [hb] at h2
 simpa using h2
theorem held_calmS (hsel : Region.noSelect ops = true) (hQ : ∀ c a d v w, Q (.panic c) (Act.put a d v) w → Q (.panic c) a w) {w : World} (hC : C w) : ∀ (is : List Nat) (fuel : Nat) (listed : Array Bool) (a : Act), Cl ops listed →
 calmS ops s is listed = true → wpQuiet P ops C (fun a' => wpAnyS P ops Q s C fuel (listAll is listed) a' w) (is.filterMap fun i => ops[i]?) a → wpAnyS P ops Q s C (fuel + is.length) listed a w
 | [], _, _, _, _, _, h => h
 | i :: is, fuel, listed, a, hcl, hB, h => by
  simp only [calmS, Bool.and_eq_true] at hB; obtain ⟨⟨⟨⟨⟨h1, h2⟩, h3⟩, h5⟩, h6⟩, h4⟩ := hB; have hr : i ∈ Region.ready .any ops listed := by simpa using h3
  cases ho : ops[i]? with
  | none => rw [ho] at h1; simp at h1
  | some o =>
   rw [ho] at h1; simp only [Option.map_some, Option.getD_some] at h1; rw [List.filterMap_cons, ho] at h; simp only [wpQuiet] at h; have e : fuel + (i :: is).length = (fuel + is.length) + 1 := by simp; omega
   rw [e]; by_cases hw : Region.wanted o (yielded ops a.tmps) = true
   · rw [if_pos hw] at h
     obtain ⟨v, hv, hn⟩ := h; exact wpAnyS_first ho (Region.noSelect_spec hsel) (by simpa using h5) h6 (fun c a w => hQ c a _ _ w) _ _ _ _ hcl (Region.free_spec ho h2) hr (yieldsIf_of_quiet4 h1 hw hv) (fun _ => hC) (held_calmS hsel hQ hC is fuel _ _ (hcl.step hr) h4 hn)
   · rw [if_neg hw] at h
     exact wpAnyS_first ho (Region.noSelect_spec hsel) (by simpa using h5) h6 (fun c a w => hQ c a _ _ w) _ _ _ _ hcl (Region.free_spec ho h2) hr (Or.inr ⟨by simpa using hw, rfl⟩) (fun _ => hC) (held_calmS hsel hQ hC is fuel _ _ (hcl.step hr) h4 h)
theorem late_quiet {l : List Oper} (hsel : Region.noSelect l.toArray = true) (hQ : ∀ c a d v w, Q (.panic c) (Act.put a d v) w → Q (.panic c) a w) {w : World} (hC : C w) (is : List Nat) (fuel : Nat) (listed : Array Bool) (a : Act)
 (hcl : clB l.toArray s listed = true) (hB : calmS l.toArray s is listed = true) (h : wpQuiet P l.toArray C (fun a' => wpAnyS P l.toArray Q s C fuel (listAll is listed) a' w) (is.filterMap (nth l)) a) : wpAnyS P l.toArray Q s C (fuel + is.length) listed a w :=
 held_calmS hsel hQ hC is fuel listed a (cl_of hcl) hB (by rw [show (fun i => l.toArray[i]?) = nth l from funext fun i => (nth_eq l i).symm]; exact h)
theorem late_do {l : List Oper} {i fuel : Nat} {listed : Array Bool} {a : Act} {w : World} (o : Oper) (hi : nth l i = some o) (hr : Region.ready .any l.toArray listed = [i]) (hw : Region.wanted o (yielded l.toArray a.tmps) = true)
 (h : ∀ K : Act → World → Prop, (∀ a' w', ((listed.setIfInBounds i true).getD s true = false → C w') → wpAnyS P l.toArray Q s C fuel (listed.setIfInBounds i true) a' w' → K a' w') → o.wp P a w K Q) : wpAnyS P l.toArray Q s C (fuel + 1) listed a w := by
 rw [nth_eq] at hi; refine ⟨fun h0 => absurd (hr ▸ h0) (by simp), fun j hj => ?_⟩; rw [hr] at hj; simp only [List.mem_singleton] at hj; subst hj; unfold wpOp; simp only [hi, hw, if_true]; exact Or.inl (h _ fun a' w' h1 h2 => ⟨h1, h2⟩)
theorem late_done {listed : Array Bool} {a : Act} {w : World} (hr : Region.ready .any ops listed = []) (h : Q .normal a w) : ∀ fuel, wpAnyS P ops Q s C fuel listed a w
 | 0 => ⟨hr, h⟩
 | _ + 1 => ⟨fun _ => h, by rw [hr]; simp⟩
theorem late_start {id : Nat} {a : Act} {w : World} {l : List Oper} (hm : P.follows .mixedOrders = true)
 (h : wpAnyS P l.toArray Q s C l.length (Array.replicate l.length false) a { w with drawn := w.drawn + 1 }) : (Code.region id l.toArray true).wp P Q a w :=
 wp_region_any hm (by simpa using wpAny_of_S _ _ _ _ h)
end
end Go.Proofs.YtjnfccphodjfiaaGreat
