/- Several texts of this claim in one. -/
import Derived.Test.YtdfgpfdnjbildaaGreatDoorLd2
import Derived.Maps.RangeWalk
import Derived.Laws.MakeOwn
import Derived.RangeFuncNested
import Derived.RangeFuncBound
import Derived.RangeFuncCalls
import Derived.RangeFuncWrites
import Derived.Maps.OwnIn
import Derived.Test.YtdfgpfdnjbildaaGreatDoorRows
import Derived.ProofKit
import Derived.OpenShut
import Derived.Lib.SmallJoins
import Derived.Carry
import Derived.ChangeMaps5
/- ask.ReadCond of "run": list, either. (printed by wip/l/gen_ldo.py) -/
namespace Go.Proofs.YtdfgpfdnjbildaaGreatDoor
open Go.RowKit Go.BigFrame
set_option maxHeartbeats 4000000 in
set_option maxRecDepth 100000 in
theorem list_and (g : Nat) (nest : Int) (w : World) (h : RdR w g 0 nest) :
    Calls Tryz.prog 31 #[.pointer (some ⟨g, 0, none⟩), .int .i64 1, .string ⟨#[97, 110, 100]⟩, .func (.func 33) #[.pointer (some ⟨g, 0, none⟩)] #[]] w fun e w' => e = .returned (.agg #[.int .i64 4, .int .i64 0, .int .i64 1, .int .i64 0, .string ⟨#[]⟩, .slice none 0 0]) ∧ RdR w' g 3 nest ∧ Kept (fun x => x = g) w w' := by
  have hgl := h.lt
  obtain ⟨V0, hV0, hb0, hs0, hl0⟩ := alloc_co w
  have D1 := Lib.hid (one_run g nest V0 (h.below hb0))
  have HT := Lib.hid hl0
  have HB := Lib.hid hb0
  have HV0 := Lib.hid hV0
  clear hV0 hb0 hs0 hl0 h
  go_enter Tryz.func31, Tryz.ntmps31
  go_upto_region 1 with (fail)
  rw [HV0.out]
  go_wp2_with fail
  refine D1.out.mono ?_
  rintro e w1 ⟨rfl, hR1, hK1⟩
  have hT1 := HT.out.kept hK1 (fun e => by omega)
  have hkw1 := Kept.trans (Kept.of_below HB.out) hK1
  obtain ⟨V2, hV2, hb2, hs2, hl2⟩ := alloc_cells w1 #[.int .i64 4, .int .i64 0, .int .i64 1, .int .i64 0, .string ⟨#[]⟩, .slice none 0 0] 57
  obtain ⟨q, hq⟩ : ∃ q, w1.heap.size = q := ⟨_, rfl⟩
  rw [hq] at hl2
  have hR2 := hR1.below hb2
  have D2 := Lib.hid (takes_and g nest V2 hR2)
  have HR2 := Lib.hid hR2
  have HT2 := Lib.hid (hT1.below hb2)
  have HK2 := Lib.hid (Kept.trans hkw1 (Kept.of_below hb2))
  have p0 := hl2 0 _ rfl
  have p1 := hl2 1 _ rfl
  have p2 := hl2 2 _ rfl
  have p3 := hl2 3 _ rfl
  have p4 := hl2 4 _ rfl
  have p5 := hl2 5 _ rfl
  have HV2 := Lib.hid hV2
  have HQ := Lib.hid hq
  clear hV2 hb2 hs2 hl2 hq hR2 hT1 hkw1 hR1 hK1 D1
  go_upto_region 2 with (fail)
  try rw [HV2.out]
  try rw [HQ.out]
  go_wp2_with fail
  go_loopw [9] (fun sv wr => sv = .slice (some ⟨q, 0, none⟩) 1 1 ∧ wr = V2) (fun _ _ => 0)
  case atStart => exact ⟨rfl, rfl⟩
  case round =>
    obtain ⟨rfl, rfl⟩ := hrel
    go_wp2_with fail
    refine D2.out.mono ?_
    rintro e w3 ⟨rfl, hb3⟩
    have r0 := below_cell hb3 p0
    have r1 := below_cell hb3 p1
    have r2 := below_cell hb3 p2
    have r3 := below_cell hb3 p3
    have r4 := below_cell hb3 p4
    have r5 := below_cell hb3 p5
    have hT3 := HT2.out.below hb3
    have hR3 := HR2.out.below hb3
    have hK3 := Kept.trans HK2.out (Kept.of_below hb3)
    obtain ⟨s0, s1, s2, s3, s4, s5⟩ := hT3.cell
    have f0 := hT3.free 0
    have f1 := hT3.free 1
    have f2 := hT3.free 2
    have f3 := hT3.free 3
    have f4 := hT3.free 4
    have f5 := hT3.free 5
    obtain ⟨W, hW, hC, hK⟩ := hT3.fill 4 1
    have HF := Lib.hid (show RdR W g 3 nest ∧ Kept (fun x => x = g) w W from ⟨(hK.block g hR3.lt (fun e => by omega)).trans hR3, kept_new hK3 hK (by omega)⟩)
    obtain ⟨q0, q1, q2, q3, q4, q5⟩ := hC.cell
    have HW := Lib.hid hW
    clear hb3 p0 p1 p2 p3 p4 p5 hT3 hR3 hK3 hW hC hK
    go_wp2_with fail
    rw [HW.out]
    exact bodyPost_ret (v := .agg #[.int .i64 4, .int .i64 0, .int .i64 1, .int .i64 0, .string ⟨#[]⟩, .slice none 0 0]) (by simp [results, Tryz.results31, go_sem, q0, q1, q2, q3, q4, q5]) rfl ⟨rfl, HF.out⟩
set_option maxHeartbeats 4000000 in
set_option maxRecDepth 100000 in
theorem both_run (g b : Nat) (nest : Int) (w : World) (h : RdR w g 0 nest) (hb : w.cell? ⟨b, 0, none⟩ = some (.pointer (some ⟨g, 0, none⟩))) :
    Calls Tryz.prog 32 #[.pointer (some ⟨b, 0, none⟩)] w fun e w' => e = .returned (.agg #[.int .i64 4, .int .i64 0, .int .i64 1, .int .i64 0, .string ⟨#[]⟩, .slice none 0 0]) ∧ RdR w' g 3 nest ∧ Kept (fun x => x = g) w w' := by
  have hmf : ∀ fn first cap w, (Instr.makeFunc fn first cap).run Tryz.prog w = .ok (.func fn first cap) w := fun _ _ _ _ => rfl
  have hgl := h.lt
  obtain ⟨V0, hV0, hb0, hs0, hl0⟩ := alloc_co w
  have D1 := Lib.hid (list_and g nest V0 (h.below hb0))
  have c0 := below_cell hb0 hb
  have HT := Lib.hid hl0
  have HB := Lib.hid hb0
  have HV0 := Lib.hid hV0
  clear hV0 hb0 hs0 hl0 h hb
  go_enter Tryz.func32, Tryz.ntmps32
  go_upto_region 1 with (fail)
  rw [HV0.out]
  go_wp2_with fail
  refine D1.out.mono ?_
  rintro e w3 ⟨rfl, hR3, hK1⟩
  have hT3 := HT.out.kept hK1 (fun e => by omega)
  have hK3 := Kept.trans (Kept.of_below HB.out) hK1
  obtain ⟨s0, s1, s2, s3, s4, s5⟩ := hT3.cell
  have f0 := hT3.free 0
  have f1 := hT3.free 1
  have f2 := hT3.free 2
  have f3 := hT3.free 3
  have f4 := hT3.free 4
  have f5 := hT3.free 5
  obtain ⟨W, hW, hC, hK⟩ := hT3.fill 4 1
  have HF := Lib.hid (show RdR W g 3 nest ∧ Kept (fun x => x = g) w W from ⟨(hK.block g hR3.lt (fun e => by omega)).trans hR3, kept_new hK3 hK (by omega)⟩)
  obtain ⟨q0, q1, q2, q3, q4, q5⟩ := hC.cell
  have HW := Lib.hid hW
  clear hT3 hR3 hK3 hW hC hK hK1
  go_wp2_with fail
  rw [HW.out]
  exact bodyPost_ret (v := .agg #[.int .i64 4, .int .i64 0, .int .i64 1, .int .i64 0, .string ⟨#[]⟩, .slice none 0 0]) (by simp [results, Tryz.results32, go_sem, q0, q1, q2, q3, q4, q5]) rfl ⟨rfl, HF.out⟩
set_option maxHeartbeats 4000000 in
set_option maxRecDepth 100000 in
theorem list_or (g : Nat) (b : Nat) (nest : Int) (w : World) (h : RdR w g 0 nest) (hb : w.cell? ⟨b, 0, none⟩ = some (.pointer (some ⟨g, 0, none⟩))) :
    Calls Tryz.prog 31 #[.pointer (some ⟨g, 0, none⟩), .int .i64 2, .string ⟨#[111, 114]⟩, .func (.func 32) #[] #[.pointer (some ⟨b, 0, none⟩)]] w fun e w' => e = .returned (.agg #[.int .i64 4, .int .i64 0, .int .i64 1, .int .i64 0, .string ⟨#[]⟩, .slice none 0 0]) ∧ RdR w' g 3 nest ∧ Kept (fun x => x = g) w w' := by
  have hgl := h.lt
  obtain ⟨V0, hV0, hb0, hs0, hl0⟩ := alloc_co w
  have D1 := Lib.hid (both_run g b nest V0 (h.below hb0) (below_cell hb0 hb))
  have HT := Lib.hid hl0
  have HB := Lib.hid hb0
  have HV0 := Lib.hid hV0
  clear hV0 hb0 hs0 hl0 h
  go_enter Tryz.func31, Tryz.ntmps31
  go_upto_region 1 with (fail)
  rw [HV0.out]
  go_wp2_with fail
  refine D1.out.mono ?_
  rintro e w1 ⟨rfl, hR1, hK1⟩
  have hT1 := HT.out.kept hK1 (fun e => by omega)
  have hkw1 := Kept.trans (Kept.of_below HB.out) hK1
  obtain ⟨V2, hV2, hb2, hs2, hl2⟩ := alloc_cells w1 #[.int .i64 4, .int .i64 0, .int .i64 1, .int .i64 0, .string ⟨#[]⟩, .slice none 0 0] 57
  obtain ⟨q, hq⟩ : ∃ q, w1.heap.size = q := ⟨_, rfl⟩
  rw [hq] at hl2
  have hR2 := hR1.below hb2
  have D2 := Lib.hid (takes_or g nest V2 hR2)
  have HR2 := Lib.hid hR2
  have HT2 := Lib.hid (hT1.below hb2)
  have HK2 := Lib.hid (Kept.trans hkw1 (Kept.of_below hb2))
  have p0 := hl2 0 _ rfl
  have p1 := hl2 1 _ rfl
  have p2 := hl2 2 _ rfl
  have p3 := hl2 3 _ rfl
  have p4 := hl2 4 _ rfl
  have p5 := hl2 5 _ rfl
  have HV2 := Lib.hid hV2
  have HQ := Lib.hid hq
  clear hV2 hb2 hs2 hl2 hq hR2 hT1 hkw1 hR1 hK1 D1
  go_upto_region 2 with (fail)
  try rw [HV2.out]
  try rw [HQ.out]
  go_wp2_with fail
  go_loopw [9] (fun sv wr => sv = .slice (some ⟨q, 0, none⟩) 1 1 ∧ wr = V2) (fun _ _ => 0)
  case atStart => exact ⟨rfl, rfl⟩
  case round =>
    obtain ⟨rfl, rfl⟩ := hrel
    go_wp2_with fail
    refine D2.out.mono ?_
    rintro e w3 ⟨rfl, hb3⟩
    have r0 := below_cell hb3 p0
    have r1 := below_cell hb3 p1
    have r2 := below_cell hb3 p2
    have r3 := below_cell hb3 p3
    have r4 := below_cell hb3 p4
    have r5 := below_cell hb3 p5
    have hT3 := HT2.out.below hb3
    have hR3 := HR2.out.below hb3
    have hK3 := Kept.trans HK2.out (Kept.of_below hb3)
    obtain ⟨s0, s1, s2, s3, s4, s5⟩ := hT3.cell
    have f0 := hT3.free 0
    have f1 := hT3.free 1
    have f2 := hT3.free 2
    have f3 := hT3.free 3
    have f4 := hT3.free 4
    have f5 := hT3.free 5
    obtain ⟨W, hW, hC, hK⟩ := hT3.fill 4 1
    have HF := Lib.hid (show RdR W g 3 nest ∧ Kept (fun x => x = g) w W from ⟨(hK.block g hR3.lt (fun e => by omega)).trans hR3, kept_new hK3 hK (by omega)⟩)
    obtain ⟨q0, q1, q2, q3, q4, q5⟩ := hC.cell
    have HW := Lib.hid hW
    clear hb3 p0 p1 p2 p3 p4 p5 hT3 hR3 hK3 hW hC hK
    go_wp2_with fail
    rw [HW.out]
    exact bodyPost_ret (v := .agg #[.int .i64 4, .int .i64 0, .int .i64 1, .int .i64 0, .string ⟨#[]⟩, .slice none 0 0]) (by simp [results, Tryz.results31, go_sem, q0, q1, q2, q3, q4, q5]) rfl ⟨rfl, HF.out⟩
set_option maxHeartbeats 4000000 in
set_option maxRecDepth 100000 in
theorem either_run (g : Nat) (nest : Int) (w : World) (h : RdR w g 0 nest) :
    Calls Tryz.prog 25 #[.pointer (some ⟨g, 0, none⟩)] w fun e w' => e = .returned (.agg #[.int .i64 4, .int .i64 0, .int .i64 1, .int .i64 0, .string ⟨#[]⟩, .slice none 0 0]) ∧ RdR w' g 3 nest ∧ Kept (fun x => x = g) w w' := by
  have hmf : ∀ fn first cap w, (Instr.makeFunc fn first cap).run Tryz.prog w = .ok (.func fn first cap) w := fun _ _ _ _ => rfl
  have hgl := h.lt
  obtain ⟨Vb, hVb, hbb, hsb, hlb⟩ := alloc_cells w #[.pointer (some ⟨g, 0, none⟩)] 66
  obtain ⟨V0, hV0, hb0, hs0, hl0⟩ := alloc_co Vb
  rw [hsb] at hl0
  have c0 := below_cell hb0 (hlb 0 _ rfl)
  have D1 := Lib.hid (list_or g w.heap.size nest V0 ((h.below hbb).below hb0) c0)
  have HT := Lib.hid hl0
  have HB := Lib.hid (below_step hbb hb0)
  have HVb := Lib.hid hVb
  have HV0 := Lib.hid hV0
  clear hVb hbb hsb hlb hV0 hb0 hs0 hl0 h
  go_enter Tryz.func25, Tryz.ntmps25
  go_upto_region 1 with (fail)
  rw [HVb.out, HV0.out]
  go_wp2_with fail
  refine D1.out.mono ?_
  rintro e w3 ⟨rfl, hR3, hK1⟩
  have hT3 := HT.out.kept hK1 (fun e => by omega)
  have hK3 := Kept.trans (Kept.of_below HB.out) hK1
  obtain ⟨s0, s1, s2, s3, s4, s5⟩ := hT3.cell
  have f0 := hT3.free 0
  have f1 := hT3.free 1
  have f2 := hT3.free 2
  have f3 := hT3.free 3
  have f4 := hT3.free 4
  have f5 := hT3.free 5
  obtain ⟨W, hW, hC, hK⟩ := hT3.fill 4 1
  have HF := Lib.hid (show RdR W g 3 nest ∧ Kept (fun x => x = g) w W from ⟨(hK.block g hR3.lt (fun e => by omega)).trans hR3, kept_new hK3 hK (by omega)⟩)
  obtain ⟨q0, q1, q2, q3, q4, q5⟩ := hC.cell
  have HW := Lib.hid hW
  clear hT3 hR3 hK3 hW hC hK hK1
  go_wp2_with fail
  rw [HW.out]
  exact bodyPost_ret (v := .agg #[.int .i64 4, .int .i64 0, .int .i64 1, .int .i64 0, .string ⟨#[]⟩, .slice none 0 0]) (by simp [results, Tryz.results25, go_sem, q0, q1, q2, q3, q4, q5]) rfl ⟨rfl, HF.out⟩
end Go.Proofs.YtdfgpfdnjbildaaGreatDoor

/- ask.ReadCond of "run": the check, the whole. -/
namespace Go.Proofs.YtdfgpfdnjbildaaGreatDoor
open Go.RowKit Go.BigFrame
open Tr (inR)

theorem ain_any (n lo hi : Int) (w : World) : Calls Tryz.prog 54 #[.int .i64 n, .int .i64 lo, .int .i64 hi] w fun e w' => e = .returned (.bool (inR n lo hi)) ∧ w = w' := by
  cases h : decide (lo ≤ n)
  all_goals
    go_enter Tryz.func54, Tryz.ntmps54
    go_wp2
    go_ret
    exact ⟨ret_bool (by simp [inR, h]), rfl⟩
theorem ends_run (g : Nat) (nest : Int) (w : World) (h : RdR w g 3 nest) :
    Calls Tryz.prog 26 #[.pointer (some ⟨g, 0, none⟩)] w fun e w' => e = .returned (.tuple #[]) ∧ Below w.heap.size w w' := by
  have D1 := Lib.hid (skip_told g 3 nest w h (by simp))
  have HR := Lib.hid h
  clear h
  go_enter Tryz.func26, Tryz.ntmps26
  go_wp2_with fail
  refine D1.out.mono ?_
  rintro e w1 ⟨rfl, hb1⟩
  obtain ⟨g0, g1, g2, g3⟩ := (HR.out.below hb1).cell
  have G0 := Ext.ex g0
  have G1 := Ext.ex g1
  have HB1 := Lib.hid hb1
  clear hb1 g0 g1 g2 g3
  go_wp2_with fail
  refine wp_region_ext (W := w1) ⟨w1, Below.refl _ _⟩ (by kernel_rfl) (by kernel_rfl) ?_
  repeat go_big_quiet_step (fail)
  refine wpQuiet_nil ?_
  rintro _ ⟨Y, rfl⟩
  go_wp2_with fail
  go_end0
  exact ⟨rfl, below_step HB1.out Y.2⟩
theorem alloc_c41 (w : World) : ∃ W, w.alloc (.cells #[.int .i64 4, .int .i64 0, .int .i64 1, .int .i64 0, .string ⟨#[]⟩, .slice none 0 0] 57) = W ∧ Below w.heap.size w W ∧ W.heap.size = w.heap.size + 1 ∧ CoB W w.heap.size 4 1 :=
  ⟨_, rfl, below_al _ _, by simp, heap_alloc_new w _⟩
set_option maxHeartbeats 2000000 in
set_option maxRecDepth 100000 in
theorem parts_run (w : World) : Calls Tryz.prog 36 #[.agg #[.int .i64 4, .int .i64 0, .int .i64 1, .int .i64 0, .string ⟨#[]⟩, .slice none 0 0]] w fun e w' => e = .returned (.int .i64 1) ∧ Below w.heap.size w w' := by
  obtain ⟨V, hV, hb, hs, hl⟩ := alloc_c41 w
  obtain ⟨c0, c1, c2, c3, c4, c5⟩ := hl.cell
  have HV := Lib.hid hV
  have HB := Lib.hid hb
  clear hV hb hs hl
  go_enter Tryz.func36, Tryz.ntmps36
  go_upto_region 1 with (fail)
  rw [HV.out]
  go_wp2_with fail
  go_loopw [3, 9] (fun nv iv wr => nv = .int .i64 1 ∧ iv = .int .i64 0 ∧ wr = V) (fun _ _ _ => 0)
  case atStart => exact ⟨rfl, rfl, rfl⟩
  case round =>
    obtain ⟨rfl, rfl, rfl⟩ := hrel
    go_wp2_with fail
    go_ret
    exact ⟨rfl, HB.out⟩
set_option maxHeartbeats 4000000 in
set_option maxRecDepth 100000 in
theorem checkPart_run (w : World) : Calls Tryz.prog 37 #[.agg #[.int .i64 4, .int .i64 0, .int .i64 1, .int .i64 0, .string ⟨#[]⟩, .slice none 0 0], .int .i64 0] w fun e w' => e = .returned (.int .i64 0) ∧ Below w.heap.size w w' := by
  obtain ⟨V, hV, hb, hs, hl⟩ := alloc_c41 w
  obtain ⟨c0, c1, c2, c3, c4, c5⟩ := hl.cell
  have C0 := Ext.ex c0
  have C1 := Ext.ex c1
  have C2 := Ext.ex c2
  have C3 := Ext.ex c3
  have C4 := Ext.ex c4
  have C5 := Ext.ex c5
  have D1 := Lib.hid (show ∀ W, Calls Tryz.prog 54 #[.int .i64 4, .int .i64 1, .int .i64 3] W fun e w' => e = .returned (.bool false) ∧ W = w' from fun W => ain_any 4 1 3 W)
  have D2 := Lib.hid (show ∀ W, Calls Tryz.prog 54 #[.int .i64 4, .int .i64 1, .int .i64 7] W fun e w' => e = .returned (.bool true) ∧ W = w' from fun W => ain_any 4 1 7 W)
  have D3 := Lib.hid (show ∀ W, Calls Tryz.prog 54 #[.int .i64 1, .int .i64 1, .int .i64 5] W fun e w' => e = .returned (.bool true) ∧ W = w' from fun W => ain_any 1 1 5 W)
  have HV := Lib.hid hV
  have HB := Lib.hid hb
  clear hV hb hs hl c0 c1 c2 c3 c4 c5
  go_enter Tryz.func37, Tryz.ntmps37
  go_upto_region 1 with (fail)
  rw [HV.out]
  refine ext_wp fun X => ?_
  go_wp2_with fail
  refine (D1.out _).mono ?_
  rintro e _ ⟨rfl, rfl⟩
  go_wp2_with fail
  refine wp_region_ext (W := V) X (by kernel_rfl) (by kernel_rfl) ?_
  repeat go_big_quiet_step (fail)
  refine wpQuiet_nil ?_
  clear X
  rintro _ ⟨X, rfl⟩
  go_wp2_with fail
  refine wp_region_ext (W := V) X (by kernel_rfl) (by kernel_rfl) ?_
  repeat go_big_quiet_step (fail)
  refine wpQuiet_nil ?_
  clear X
  rintro _ ⟨X, rfl⟩
  go_wp2_with fail
  refine (D2.out _).mono ?_
  rintro e _ ⟨rfl, rfl⟩
  go_wp2_with fail
  refine (D3.out _).mono ?_
  rintro e _ ⟨rfl, rfl⟩
  go_wp2_with fail
  go_loopw [144] (fun iv wr => iv = .int .i64 0 ∧ wr = X.1) (fun _ _ => 0)
  case atStart => exact ⟨rfl, rfl⟩
  case round =>
    obtain ⟨rfl, rfl⟩ := hrel
    go_wp2_with fail
    go_ret
    exact ⟨rfl, below_step HB.out X.2⟩
theorem checkCond_run (w : World) : Calls Tryz.prog 27 #[.agg #[.int .i64 4, .int .i64 0, .int .i64 1, .int .i64 0, .string ⟨#[]⟩, .slice none 0 0]] w fun e w' => e = .returned (.int .i64 0) ∧ Below w.heap.size w w' := by
  obtain ⟨V, hV, hb, hs, hl⟩ := alloc_c41 w
  obtain ⟨c0, c1, c2, c3, c4, c5⟩ := hl.cell
  have C0 := Ext.ex c0
  have C1 := Ext.ex c1
  have C2 := Ext.ex c2
  have C3 := Ext.ex c3
  have C4 := Ext.ex c4
  have C5 := Ext.ex c5
  have D1 := Lib.hid (fun (X : Ext V) => X.calls (parts_run X.1))
  have D2 := Lib.hid (fun (X : Ext V) => X.calls (checkPart_run X.1))
  have HV := Lib.hid hV
  have HB := Lib.hid hb
  clear hV hb hs hl c0 c1 c2 c3 c4 c5
  go_enter Tryz.func27, Tryz.ntmps27
  go_upto_region 1 with (fail)
  rw [HV.out]
  refine ext_wp fun X => ?_
  go_wp2_with fail
  refine (D1.out X).mono ?_
  rintro e _ ⟨rfl, Y, rfl⟩
  go_wp2_with fail
  refine (D2.out Y).mono ?_
  rintro e _ ⟨rfl, Z, rfl⟩
  go_wp2_with fail
  go_ret
  exact ⟨rfl, below_step HB.out Z.2⟩
set_option maxHeartbeats 4000000 in
set_option maxRecDepth 100000 in
theorem readCond_run (w : World) : Calls Tryz.prog 17 #[.string ⟨#[114, 117, 110]⟩] w fun e w' => e = .returned (.tuple #[.agg #[.int .i64 4, .int .i64 0, .int .i64 1, .int .i64 0, .string ⟨#[]⟩, .slice none 0 0], .int .i64 0, .int .i64 0]) ∧ Below w.heap.size w w' := by
  obtain ⟨V0, hV0, hb0, hs0, hl0⟩ := alloc_co w
  obtain ⟨V1, hV1, hb1, hs1, hl1⟩ := alloc_cells V0 #[.string ⟨#[114, 117, 110]⟩, .int .i64 0, .int .i64 0, .int .i64 (-1)] 68
  rw [hs0] at hl1 hs1
  have hR : RdR V1 (w.heap.size + 1) 0 0 := by rw [← hV1, ← hs0]; exact heap_alloc_new V0 _
  have D1 := Lib.hid (either_run (w.heap.size + 1) 0 V1 hR)
  have HT1 := Lib.hid (hl0.below hb1)
  have HB1 := Lib.hid (below_step hb0 hb1)
  have HV0 := Lib.hid hV0
  have HV1 := Lib.hid hV1
  have HS0 := Lib.hid hs0
  have HS1 := Lib.hid hs1
  clear hV0 hb0 hs0 hl0 hV1 hb1 hs1 hl1 hR
  go_enter Tryz.func17, Tryz.ntmps17
  go_upto_region 1 with (fail)
  rw [HV0.out]
  go_upto_region 4 with (fail)
  rw [HV1.out, HS0.out]
  go_wp2_with fail
  refine D1.out.mono ?_
  rintro e w2 ⟨rfl, hR2, hK2⟩
  have hT2 := HT1.out.kept hK2 (fun e => by omega)
  have hkw2 : Below w.heap.size w w2 := Kept.below HB1.out hK2 HB1.out.size (fun k hk e => by omega)
  obtain ⟨V3, hV3, hb3, hs3, hl3⟩ := alloc_c41 w2
  obtain ⟨q, hq⟩ : ∃ q, w2.heap.size = q := ⟨_, rfl⟩
  rw [hq] at hl3
  have HQ := Lib.hid hq
  have HV3 := Lib.hid hV3
  have HC3 := Lib.hid hl3
  have HR3 := Lib.hid (hR2.below hb3)
  have HT3 := Lib.hid (hT2.below hb3)
  have HB3 := Lib.hid (below_step hkw2 hb3)
  have DE := Lib.hid (ends_run (w.heap.size + 1) 0 V3 (hR2.below hb3))
  clear hV3 hb3 hs3 hl3 hR2 hK2 hT2 hkw2 hq D1
  go_upto_region 5 with (fail)
  rw [HV3.out, HQ.out]
  go_wp2_with fail
  refine DE.out.mono ?_
  rintro e w5 ⟨rfl, hb5⟩
  have HR5 := Lib.hid (HR3.out.below hb5)
  have HT5 := Lib.hid (HT3.out.below hb5)
  have HC5 := Lib.hid (HC3.out.below hb5)
  have HB5 := Lib.hid (below_step HB3.out hb5)
  obtain ⟨g0, g1, g2, g3⟩ := HR5.out.cell
  obtain ⟨p0, p1, p2, p3, p4, p5⟩ := HC5.out.cell
  have DC := Lib.hid (checkCond_run w5)
  clear hb5 DE
  go_wp2_with fail
  refine DC.out.mono ?_
  rintro e w6 ⟨rfl, hb6⟩
  have hT6 := HT5.out.below hb6
  obtain ⟨m0, m1, m2, m3, m4, m5⟩ := (HC5.out.below hb6).cell
  obtain ⟨r0, r1, r2, r3, r4, r5⟩ := hT6.cell
  have f0 := hT6.free 0
  have f1 := hT6.free 1
  have f2 := hT6.free 2
  have f3 := hT6.free 3
  have f4 := hT6.free 4
  have f5 := hT6.free 5
  obtain ⟨W, hW, hC, hK⟩ := hT6.fill 4 1
  obtain ⟨q0, q1, q2, q3, q4, q5⟩ := hC.cell
  have hb06 := below_step HB5.out hb6
  have HBW := Lib.hid (Kept.below hb06 hK hb06.size (fun k hk e => by omega))
  have HW := Lib.hid hW
  clear hb6 hT6 hW hC hK hb06 p0 p1 p2 p3 p4 p5 g0 g1 g2 g3
  go_wp2_with fail
  rw [HW.out]
  exact bodyPost_ret (v := .tuple #[.agg #[.int .i64 4, .int .i64 0, .int .i64 1, .int .i64 0, .string ⟨#[]⟩, .slice none 0 0], .int .i64 0, .int .i64 0]) (by simp [results, Tryz.results17, go_sem, q0, q1, q2, q3, q4, q5]) rfl ⟨rfl, HBW.out⟩
end Go.Proofs.YtdfgpfdnjbildaaGreatDoor

/- The kernel's tale is told. -/
namespace Go.Proofs.YtdfgpfdnjbildaaGreatDoor
open Go.RowKit Go.BigFrame

set_option maxHeartbeats 4000000 in
set_option maxRecDepth 100000 in
theorem toldKern_any (w : World) : Calls Tryz.prog 5 #[] w fun e w' => e = .returned (.bool true) ∧ Below w.heap.size w w' := by
  obtain ⟨V1, hV1, hb1, hs1, hl1⟩ := alloc_cells w #[.int .i64 1, .int .i64 5, .int .i64 2] 3
  have D1 := Lib.hid (Best_told w.heap.size 0 3 V1 (by omega) (hl1 0 _ rfl) (hl1 1 _ rfl) (hl1 2 _ rfl))
  have HB1 := Lib.hid hb1
  have HV1 := Lib.hid hV1
  clear hV1 hb1 hs1 hl1
  go_enter Tryz.func5, Tryz.ntmps5
  go_wp2_with fail
  rw [HV1.out]
  refine D1.out.mono ?_
  rintro e w2 ⟨rfl, hb2⟩
  obtain ⟨V3, hV3, hb3, hs3, hl3⟩ := alloc_cells w2 #[.int .i64 2, .int .i64 7, .int .i64 1, .bool true] 52
  obtain ⟨q, hq⟩ : ∃ q, w2.heap.size = q := ⟨_, rfl⟩
  rw [hq] at hl3
  have p1 := hl3 1 _ rfl
  have HB3 := Lib.hid (below_step (below_step HB1.out hb2) hb3)
  have D2 := Lib.hid (readCond_run V3)
  have HV3 := Lib.hid hV3
  have HQ := Lib.hid hq
  clear hV3 hb3 hs3 hl3 hq hb2 D1
  go_upto_region 2 with (fail)
  rw [HV3.out, HQ.out]
  go_wp2_with fail
  refine D2.out.mono ?_
  rintro e w4 ⟨rfl, hb4⟩
  obtain ⟨V5, hV5, hb5, hs5, hl5⟩ := alloc_cells w4 #[.int .i64 4, .int .i64 0, .int .i64 1, .int .i64 0, .string ⟨#[]⟩, .slice none 0 0] 57
  obtain ⟨q', hq'⟩ : ∃ q, w4.heap.size = q := ⟨_, rfl⟩
  rw [hq'] at hl5
  have c0 := hl5 0 _ rfl
  have c1 := below_cell hb5 (below_cell hb4 p1)
  have HB5 := Lib.hid (below_step (below_step HB3.out hb4) hb5)
  have HV5 := Lib.hid hV5
  have HQ' := Lib.hid hq'
  clear hV5 hb5 hs5 hl5 hq' hb4 p1 D2
  go_upto_region 3 with (fail)
  rw [HV5.out, HQ'.out]
  go_wp2_with fail
  go_ret
  exact ⟨rfl, HB5.out⟩
end Go.Proofs.YtdfgpfdnjbildaaGreatDoor

/- The law's own map with its keys; a row filled from it in whatever order. -/
namespace Go.Proofs.YtdfgpfdnjbildaaGreatDoor
open Go.RowKit Go.BigFrame

/-- as LMap; and each key lies in lo .. hi -/
structure LMapK (w : World) (b n : Nat) (f : Int → Int) (lo hi : Int) : Prop where
  ex : ∃ D, w.ownsMap Tryz.prog 3 intR b n D ∧ (∀ j : Int, (Lit.int .i64 j).wf = true → D.atKey (.int .i64 j) (.lit (.int .i64 0)) = .lit (.int .i64 (f j))) ∧ ∀ j : Int, Maps.has D (.int .i64 j) = true → lo ≤ j ∧ j ≤ hi
theorem LMapK.toL {w : World} {b n : Nat} {f : Int → Int} {lo hi : Int} (h : LMapK w b n f lo hi) : LMap w b n f := by
  obtain ⟨D, h1, h2, _⟩ := h.ex
  exact ⟨D, h1, h2⟩
theorem LMapK.made (w : World) (lo hi : Int) : LMapK (w.alloc (.map #[] 0)) w.heap.size 0 (fun _ => 0) lo hi :=
  ⟨.map [], World.ownsMap_made _ _ _ _, fun _ _ => rfl, fun j h => by cases h⟩
theorem LMapK.lt {w : World} {b n : Nat} {f : Int → Int} {lo hi : Int} (h : LMapK w b n f lo hi) : b < w.heap.size := h.toL.lt
theorem LMapK.kept {O : Nat → Prop} {w w' : World} {b n : Nat} {f : Int → Int} {lo hi : Int} (h : LMapK w b n f lo hi) (hk : Kept O w w') (ho : ¬ O b) : LMapK w' b n f lo hi := by
  obtain ⟨D, h1, h2⟩ := h.ex
  have hlt := h1.lt
  obtain ⟨es, clock, hb, F, hs, hD⟩ := h1
  exact ⟨D, ⟨es, clock, (hk.block b hlt ho).trans hb, F, hs, hD⟩, h2⟩
theorem LMapK.below {w w' : World} {b n : Nat} {f : Int → Int} {lo hi : Int} (h : LMapK w b n f lo hi) (hb : Below w.heap.size w w') : LMapK w' b n f lo hi := h.kept (O := fun _ => False) (Kept.of_below hb) (fun e => e)
theorem LMapK.put {w : World} {b n : Nat} {f : Int → Int} {lo hi : Int} (h : LMapK w b n f lo hi) {j : Int} (hj : (Lit.int .i64 j).wf = true) (hlo : lo ≤ j) (hn : n < maxLen) (x : Int) : ∃ w', (Instr.mapUpdate 30 (.map (some b)) (.int .i64 j) (.int .i64 x)).run Tryz.prog w = .ok () w' ∧ LMapK w' b (n + 1) (updF f j x) lo (max hi j) ∧ w.grownBy w' (some b) := by
  obtain ⟨D, h1, h2, h4⟩ := h.ex
  obtain ⟨w', r1, r2, r3⟩ := h1.update (Maps.int_keyed Tryz.underlying3) Tryz.underlying30 hn (val := .int .i64 x) (d := .lit (.int .i64 x)) (ps := []) (Maps.keyOf_int_mk Tryz.underlying3 hj) rfl
  refine ⟨w', r1, ⟨_, r2, fun i hi => ?_, fun i hi => ?_⟩, r3⟩
  · unfold updF
    by_cases e : i = j
    · subst e
      rw [if_pos rfl]
      exact Maps.atKey_put_same h1.isMap ((Maps.int_keyed Tryz.underlying3).key (Maps.keyOf_int_mk Tryz.underlying3 hi)) _ _
    · rw [if_neg e, Maps.atKey_put_other (fun h => by injection h with _ h; exact e h)]
      exact h2 i hi
  · by_cases e : i = j
    · subst e
      omega
    · rw [Maps.has_put_other (fun h => by injection h with _ h; exact e h)] at hi
      have := h4 i hi
      omega

theorem intR_int : ∀ v y, intR v = some y → ∃ c : Int, v = .int .i64 c := by
  intro v y h
  unfold intR at h
  split at h
  · exact ⟨_, rfl⟩
  · cases h
theorem intR_lit {c : Int} {y : DataW Unit × List MemPlace} (h : intR (.int .i64 c) = some y) : y.1 = .lit (.int .i64 c) := by
  unfold intR at h
  injection h with h
  rw [← h]
theorem key_int : ∀ key kl, keyOf Tryz.prog 3 key = some kl → ∃ x : Int, key = .int .i64 x := by
  intro key kl h
  obtain ⟨x, rfl, _⟩ := Maps.keyOf_int_inv Tryz.underlying3 h
  exact ⟨x, rfl⟩
/-- block q is a row of the numbers l -/
def NB (w : World) (q : Nat) (l : List Int) : Prop := w.heap[q]? = some (.cells (l.map (Value.int .i64)).toArray 3 (0, 0))
theorem NB.lt {w : World} {q : Nat} {l : List Int} (h : NB w q l) : q < w.heap.size := lt_of_block h
theorem NB.kept {O : Nat → Prop} {w w' : World} {q : Nat} {l : List Int} (h : NB w q l) (hk : Kept O w w') (ho : ¬ O q) : NB w' q l := (hk.block q h.lt ho).trans h
theorem NB.below {w w' : World} {q : Nat} {l : List Int} (h : NB w q l) (hb : Below w.heap.size w w') : NB w' q l := (hb.block q h.lt).trans h
theorem NB.cell {w : World} {q : Nat} {l : List Int} (h : NB w q l) {i : Nat} {x : Int} (hx : l[i]? = some x) : w.cell? ⟨q, i, none⟩ = some (.int .i64 x) := by
  unfold NB at h
  simp [World.cell?, h, hx]
theorem NB.free {w : World} {q : Nat} {l : List Int} (h : NB w q l) (i : Nat) : w.frozen? ⟨q, i, none⟩ = false := by
  unfold NB at h
  simp [World.frozen?, h]
theorem NB.set {w : World} {q : Nat} {l : List Int} (h : NB w q l) (i : Nat) (x : Int) : NB (w.setCell ⟨q, i, none⟩ (.int .i64 x)) q (l.set i x) := by
  unfold NB
  rw [set_cells h]
  simp
theorem NB.row {w : World} {q : Nat} {l : List Int} (h : NB w q l) : Rw nC 1 w (some ⟨q, 0, none⟩) l :=
  ⟨fun _ => ⟨q, 0, rfl, h.lt, fun i x hx j v hv => by
    cases j with
    | zero =>
      cases hv
      have := h.cell hx
      simpa using this
    | succ j => cases hv⟩⟩

/-- the row holds those numbers whose keys are no longer to come -/
structure RowAt (f : Int → Int) (first : Int) (n : Nat) (left : Lit → Bool) (l : List Int) : Prop where
  len : l.length = n
  at_ : ∀ i : Nat, i < n → l[i]? = some (if left (.int .i64 (first + i)) = true then 0 else f (first + i))
theorem RowAt.start {f : Int → Int} {first : Int} {n : Nat} {left : Lit → Bool} (h : ∀ i : Nat, i < n → left (.int .i64 (first + i)) = false → f (first + i) = 0) : RowAt f first n left (List.replicate n 0) :=
  ⟨by simp, fun i hi => by
    rw [List.getElem?_replicate_of_lt hi]
    split
    · rfl
    · rename_i hl
      rw [h i hi (by simpa using hl)]⟩
theorem RowAt.step {f : Int → Int} {first : Int} {n : Nat} {left : Lit → Bool} {l : List Int} (h : RowAt f first n left l) {k : Nat} (hk : k < n) : RowAt f first n (fun z => left z && !z.sameKey (.int .i64 (first + k))) (l.set k (f (first + k))) := by
  refine ⟨by simp [h.len], fun i hi => ?_⟩
  by_cases e : i = k
  · subst e
    have hs : (Lit.int .i64 (first + i)).sameKey (.int .i64 (first + i)) = true := WideAt.sameKey_self trivial
    rw [List.getElem?_set_self (by rw [h.len]; exact hi), hs]
    simp
  · have hs : (Lit.int .i64 (first + i)).sameKey (.int .i64 (first + k)) = false := Maps.sameKey_ne (fun h => by injection h with _ h; omega)
    rw [List.getElem?_set_ne (fun x => e x.symm), h.at_ i hi, hs]
    simp
theorem RowAt.done {f : Int → Int} {first : Int} {n : Nat} {left : Lit → Bool} {l : List Int} (h : RowAt f first n left l) (hl : ∀ k, left k = false) : ∀ i : Nat, i < n → l[i]? = some (f (first + i)) := fun i hi => by
  rw [h.at_ i hi, hl]
  rfl

theorem serL_is {f : Int → Int} {first c s : Int} {l : List Int} {n : Nat} (hl : ∀ i : Nat, i < n → l[i]? = some (f (first + i))) {i : Nat} (hi : i < n) : (serL (fun i => l.getD i 0) c s n)[i]? = some (Ld.serF (fun j => f (first + (j : Nat))) c s (i + 1)) := by
  unfold serL
  rw [List.getElem?_map, List.getElem?_range hi]
  show some (Ld.serF _ c s (i + 1)) = _
  rw [Ld.serF_congr (i + 1) (fun j hj => by rw [List.getD_eq_getElem?_getD, hl j (by omega)])]
  rfl
theorem eqFunc_n (l m : List St) (n : Nat) (a b : Option Addr) (c d : Nat) (w : World) (hr : Rw stC 5 w a l) (hq : Rw stC 5 w b m) (hl : l.length = n) (hm : m.length = n) (hn : n ≤ 5000) :
    Calls Tryz.prog 10 #[.slice a n c, .slice b n d, .func (.func 11) #[] #[]] w fun e w' => e = .returned (.bool (eqLd l m n)) ∧ Below w.heap.size w w' := by
  have h := eqFunc_any l m a b c d w hr hq (by omega) (by omega)
  rw [hl, hm] at h
  exact h
theorem equal_n (l m : List St) (n : Nat) (a b : Option Addr) (c d : Nat) (w : World) (hr : Rw stC 5 w a l) (hq : Rw stC 5 w b m) (hl : l.length = n) (hm : m = l) (hn : n ≤ 5000) :
    Calls Tryz.prog 12 #[.slice a n c, .slice b n d] w fun e w' => e = .returned (.bool true) ∧ Below w.heap.size w w' := by
  subst hm
  have h := equalS_self m a b c d w hr hq (by omega)
  rw [hl] at h
  refine h.mono ?_
  rintro e _ ⟨rfl, q, rfl⟩
  exact ⟨rfl, below_drewN (Below.refl _ _) q⟩
theorem series_n (f : Int → Int) (first : Int) (l : List Int) (n q : Nat) (c s : Int) (w : World) (hq : NB w q l) (hl : ∀ i : Nat, i < n → l[i]? = some (f (first + i))) (hn : l.length = n) (hn5 : n ≤ 5000) (hf : LoadOk f) (hc : 1 ≤ c) (hc2 : c ≤ 1000) (hs : 0 ≤ s) (hs2 : s ≤ 10000000) :
    Calls Tryz.prog 13 #[.slice (some ⟨q, 0, none⟩) n n, .int .i64 c, .int .i64 s] w fun e w' => ∃ v, e = .returned (.tuple #[v, .int .i64 0]) ∧ NuOwn w' w.heap.size v (serL (fun i => l.getD i 0) c s n) ∧ Below w.heap.size w w' := by
  have h := series_any l (some ⟨q, 0, none⟩) n c s w hq.row (by omega) (fun x hx => by
    obtain ⟨i, hi, rfl⟩ := List.getElem_of_mem hx
    have h := hl i (by omega)
    rw [List.getElem?_eq_getElem hi] at h
    injection h with h
    rw [h]
    exact hf.h _) hc hc2 hs hs2
  rw [hn] at h
  exact h
theorem Rw.kept {α : Type} {C : α → List Value} {k : Nat} {O : Nat → Prop} {w w' : World} {a : Option Addr} {l : List α} (h : Rw C k w a l) (hk : Kept O w w') (ho : ∀ p v, w.cell? p = some v → ¬ O p.block) : Rw C k w' a l :=
  ⟨fun hl => by
    obtain ⟨b, off, rfl, hb, hc⟩ := h.here hl
    exact ⟨b, off, rfl, by have := hk.size; omega, fun i x hx j v hv => hk.cell (ho _ _ (hc i x hx j v hv)) (hc i x hx j v hv)⟩⟩
theorem LMap.noCell {w : World} {b n : Nat} {f : Int → Int} (h : LMap w b n f) : ∀ p v, w.cell? p = some v → ¬ p.block = b := by
  rintro p v hp rfl
  obtain ⟨D, ⟨es, clock, hb, _⟩, _⟩ := h.ex
  simp [World.cell?, hb] at hp
theorem made_one (z : Value) (n : Nat) : madeCells #[z] n = Array.replicate n z := by
  apply Array.ext'
  rw [toList_madeCells_one]
  simp
theorem make_nums (n : Nat) (hn : n ≤ 5000) (w : World) : ∃ W, (Instr.makeSlice 38 (.int .i64 n) (.int .i64 n)).run Tryz.prog w = .ok (.slice (some ⟨w.heap.size, 0, none⟩) n n) W ∧ NB W w.heap.size (List.replicate n 0) ∧ Below w.heap.size w W ∧ W.heap.size = w.heap.size + 1 := by
  obtain ⟨i0, hi0, hz0, hz1, hz2⟩ := info_parts (show (Tryz.prog.info? 3).map (fun i => (i.zero, i.size, i.bytes)) = some (some (.int .i64 0), 1, 8) by kernel_rfl)
  have h := run_make w 38 3 i0 (.int .i64 0) (by kernel_rfl) hi0 hz0 .i64 .i64 n n (by omega) (by omega) (by rw [hz2]; omega) (by omega)
  rw [h, hz1, Int.toNat_natCast, Nat.mul_one]
  rw [show (Value.int .i64 0).cells = #[.int .i64 0] from rfl, made_one]
  refine ⟨_, rfl, ?_, below_al _ _, by simp⟩
  unfold NB
  rw [heap_alloc_new]
  simp
end Go.Proofs.YtdfgpfdnjbildaaGreatDoor

/- TopLoadsFollow: the walk. (UNDER WAY) -/
namespace Go.Proofs.YtdfgpfdnjbildaaGreatDoor
open Go.RowKit Go.BigFrame Go.Shelf Go.ChangeMaps Go.WideMaps
open Tr (inR)
open Ld (floorF stepF serF)
attribute [local go_sem] Oper.semAt_some

set_option maxRecDepth 100000 in
set_option maxHeartbeats 4000000 in
theorem loads_law (first fit fat : Int) (zs : List (Int × Int)) (a : Option Addr) (cap : Nat) (more : Int × Int) (w : World) (hr : Rw dyC 2 w a zs) (hlen : zs.length ≤ 140737488351232) :
    Calls Tryz.prog 3 #[.int .i64 first, .int .i64 fit, .int .i64 fat, .slice a zs.length cap, .agg #[.int .i64 more.1, .int .i64 more.2]] w fun e w' => e = .returned (.bool true) ∧ Below w.heap.size w w' := by
  have DNB := Lib.hid (fun W => newBook_any first fit fat W)
  have DT := Lib.hid toldKern_any
  obtain ⟨V0, hV0, hb0, hs0, hl0⟩ := alloc_cells w #[.int .i64 first] 3
  obtain ⟨V1, hV1, hb1, hs1, hl1⟩ := alloc_cells V0 #[.int .i64 more.1, .int .i64 more.2] 24
  obtain ⟨V2, hV2, hb2, hs2, hl2⟩ := alloc_cells V1 #[.bool false] 4
  rw [hs0] at hl1
  rw [hs1, hs0] at hl2
  have hb02 := below_step (below_step hb0 hb1) hb2
  have C0 : ∀ X : Ext V2, X.1.cell? ⟨w.heap.size, 0, none⟩ = some (.int .i64 first) := Ext.ex (below_cell hb2 (below_cell hb1 (hl0 0 _ rfl)))
  have M0 : ∀ X : Ext V2, X.1.cell? ⟨w.heap.size + 1, 0, none⟩ = some (.int .i64 more.1) := Ext.ex (below_cell hb2 (hl1 0 _ rfl))
  have M1 : ∀ X : Ext V2, X.1.cell? ⟨w.heap.size + 1, 1, none⟩ = some (.int .i64 more.2) := Ext.ex (below_cell hb2 (hl1 1 _ rfl))
  obtain ⟨RB, hRB⟩ : ∃ x, w.heap.size + 1 + 1 = x := ⟨_, rfl⟩
  have hblk : V2.heap[RB]? = some (.cells #[.bool false] 4 (0, 0)) := by rw [← hV2, ← hRB, ← hs0, ← hs1]; exact heap_alloc_new V1 _
  have HB02 := Lib.hid hb02
  have HBLK := Lib.hid hblk
  clear hb0 hl0 hb1 hl1 hb2 hs2 hl2 hb02 hblk
  refine (callsIn_wide (n := 8)).1 ?_
  cases hbk : bookOk first fit fat
  case false =>
    have D := Lib.hid (fun W => show Calls Tryz.prog 4 #[.int .i64 first, .int .i64 fit, .int .i64 fat] W fun e w' => e = .returned (.tuple #[.pointer none, .int .i64 9]) ∧ W = w' from (DNB.out W).mono fun e w' h => by
      rcases h with ⟨_, h2, h3⟩ | ⟨h1, _⟩
      · exact ⟨h2, h3⟩
      · rw [hbk] at h1; cases h1)
    clear DNB hbk hr hlen
    have c0 : V2.cell? ⟨w.heap.size, 0, none⟩ = some (.int .i64 first) := C0 ⟨V2, Below.refl _ _⟩
    refine callsIn_of_wp_marks Tryz.func3 rfl trivial ?_ rfl
    simp only [Tryz.ntmps3, List.size_toArray, List.length_cons, List.length_nil, Nat.reduceAdd, Nat.reduceSub, Array.replicate_succ, Array.replicate_zero, List.push_toArray, List.append_toArray, List.nil_append, List.cons_append]
    obtain ⟨V3, hV3, hb3, hs3, hl3⟩ := alloc_cells V2 #[.pointer none] 25
    have hblk3 : V3.heap[V2.heap.size]? = some (.cells #[.pointer none] 25 (0, 0)) := by rw [← hV3]; exact heap_alloc_new V2 _
    have k3 : V3.cell? ⟨V2.heap.size, 0, none⟩ = some (.pointer none) := by simp [World.cell?, hblk3]
    have f3 : V3.frozen? ⟨V2.heap.size, 0, none⟩ = false := by simp [World.frozen?, hblk3]
    obtain ⟨V4, hV4⟩ : ∃ V, V3.setCell ⟨V2.heap.size, 0, none⟩ (.pointer none) = V := ⟨_, rfl⟩
    have hb24 : Below V2.heap.size V2 V4 := Kept.below (O := fun b => b = V2.heap.size) hb3 (by rw [← hV4]; exact keep_set' rfl) (by omega) (fun k hk e => by omega)
    have HB3 := Lib.hid hb24
    clear hb3 hs3 hl3 hblk3 hb24
    gi_wp2_with fail
    refine ⟨trivial, (callsIn_wide.2 (D.out _)).mono ?_⟩
    rintro e _ ⟨rfl, rfl⟩
    gi_wp2_with fail
    refine ⟨trivial, (callsIn_wide.2 (D.out _)).mono ?_⟩
    rintro e _ ⟨rfl, rfl⟩
    gi_wp2_with fail
    refine ⟨trivial, (callsIn_wide.2 (DT.out _)).mono ?_⟩
    rintro e w5 ⟨rfl, hb5⟩
    have hblk : w5.heap[RB]? = some (.cells #[.bool false] 4 (0, 0)) := by
      have h3 := (HB3.out.block RB (lt_of_block HBLK.out)).trans HBLK.out
      exact (hb5.block RB (lt_of_block h3)).trans h3
    have k0 : w5.cell? ⟨RB, 0, none⟩ = some (.bool false) := by simp [World.cell?, hblk]
    have f0 : w5.frozen? ⟨RB, 0, none⟩ = false := by simp [World.frozen?, hblk]
    have hset : (w5.setCell ⟨RB, 0, none⟩ (.bool true)).heap[RB]? = some (.cells #[.bool true] 4 (0, 0)) := set_cells' hblk
    have k1 : (w5.setCell ⟨RB, 0, none⟩ (.bool true)).cell? ⟨RB, 0, none⟩ = some (.bool true) := by simp [World.cell?, hset]
    have HB5 := Lib.hid (show Below w.heap.size w (w5.setCell ⟨RB, 0, none⟩ (.bool true)) from Kept.below (below_step (below_step HB02.out HB3.out) hb5) (keep_set' (O := fun b => b = RB) rfl) (below_step (below_step HB02.out HB3.out) hb5).size (fun k hk e => by omega))
    clear hb5 hblk hset
    gi_wp2_with fail
    exact ⟨_, by simp [results, Tryz.results3, go_sem, k1], rfl, HB5.out⟩
  have D := Lib.hid (fun W => show Calls Tryz.prog 4 #[.int .i64 first, .int .i64 fit, .int .i64 fat] W fun e w' => e = .returned (.tuple #[.pointer (some ⟨W.heap.size + 1, 0, none⟩), .int .i64 0]) ∧ BookW w' (W.heap.size + 1) W.heap.size 0 first fit fat (fun _ => 0) ∧ Below W.heap.size W w' from (DNB.out W).mono fun e w' h => by
    rcases h with ⟨h1, _⟩ | ⟨_, h2⟩
    · rw [hbk] at h1; cases h1
    · exact h2)
  have hrng : (0 ≤ first ∧ first ≤ 999999) ∧ (0 ≤ fit ∧ fit ≤ 10000000) ∧ (0 ≤ fat ∧ fat ≤ 10000000) := by
    unfold bookOk at hbk
    rw [Bool.and_eq_true, Bool.and_eq_true] at hbk
    exact ⟨inR_iff.1 hbk.1, inR_iff.1 hbk.2.1, inR_iff.1 hbk.2.2⟩
  obtain ⟨⟨hf0, hf1⟩, ⟨ht0, ht1⟩, hg0, hg1⟩ := hrng
  clear DNB hbk
  have HR := Lib.hid hr
  have c0 : V2.cell? ⟨w.heap.size, 0, none⟩ = some (.int .i64 first) := C0 ⟨V2, Below.refl _ _⟩
  refine callsIn_of_wp_marks Tryz.func3 rfl trivial ?_ rfl
  simp only [Tryz.ntmps3, List.size_toArray, List.length_cons, List.length_nil, Nat.reduceAdd, Nat.reduceSub, Array.replicate_succ, Array.replicate_zero, List.push_toArray, List.append_toArray, List.nil_append, List.cons_append]
  clear hr
  gi_wp2_with fail
  refine ⟨trivial, (callsIn_wide.2 (D.out _)).mono ?_⟩
  rintro e w1 ⟨rfl, hB1, hb1⟩
  obtain ⟨b1, hb1'⟩ : ∃ g, V2.heap.size = g := ⟨_, rfl⟩
  rw [hb1'] at hB1
  have c01 : w1.cell? ⟨w.heap.size, 0, none⟩ = some (.int .i64 first) := below_cell hb1 c0
  have HB1 := Lib.hid hB1
  have HW1 := Lib.hid hb1
  have HBB1 := Lib.hid hb1'
  clear hB1 hb1
  gi_wp2_with fail
  refine ⟨trivial, (callsIn_wide.2 (D.out _)).mono ?_⟩
  rintro e w2 ⟨rfl, hB2, hb2⟩
  obtain ⟨b2, hb2'⟩ : ∃ g, w1.heap.size = g := ⟨_, rfl⟩
  rw [hb2'] at hB2
  have c02 : w2.cell? ⟨w.heap.size, 0, none⟩ = some (.int .i64 first) := below_cell hb2 c01
  obtain ⟨V3, hV3, hb3, hs3, hl3⟩ := alloc_cells w2 #[.pointer none] 25
  have hblk3 : V3.heap[w2.heap.size]? = some (.cells #[.pointer none] 25 (0, 0)) := by rw [← hV3]; exact heap_alloc_new w2 _
  have k3 : V3.cell? ⟨w2.heap.size, 0, none⟩ = some (.pointer none) := by simp [World.cell?, hblk3]
  have f3 : V3.frozen? ⟨w2.heap.size, 0, none⟩ = false := by simp [World.frozen?, hblk3]
  obtain ⟨V4, hV4⟩ : ∃ V, V3.setCell ⟨w2.heap.size, 0, none⟩ (.pointer (some ⟨b2 + 1, 0, none⟩)) = V := ⟨_, rfl⟩
  have hb24 : Below w2.heap.size w2 V4 := Kept.below (O := fun b => b = w2.heap.size) hb3 (by rw [← hV4]; exact keep_set' rfl) (by omega) (fun k hk e => by omega)
  have hblk4 : V4.heap[w2.heap.size]? = some (.cells #[.pointer (some ⟨b2 + 1, 0, none⟩)] 25 (0, 0)) := by rw [← hV4]; exact set_cells' hblk3
  have c04 : V4.cell? ⟨w.heap.size, 0, none⟩ = some (.int .i64 first) := below_cell hb24 c02
  have hmm := @run_makeMap Tryz.prog
  obtain ⟨V5, hV5⟩ : ∃ V, V4.alloc (.map #[] 0) = V := ⟨_, rfl⟩
  have hb45 : Below V4.heap.size V4 V5 := hV5 ▸ below_al V4 _
  have hM5 : LMapK V5 V4.heap.size 0 (fun _ => 0) first first := hV5 ▸ LMapK.made V4 first first
  have h25 := below_step hb24 hb45
  have HF := Lib.hid (show BookW V5 (b1 + 1) b1 0 first fit fat (fun _ => 0) ∧ BookW V5 (b2 + 1) b2 0 first fit fat (fun _ => 0) ∧ LMapK V5 V4.heap.size 0 (fun _ => 0) first first ∧ V5.heap[w2.heap.size]? = some (.cells #[.pointer (some ⟨b2 + 1, 0, none⟩)] 25 (0, 0)) ∧ V5.heap[RB]? = some (.cells #[.bool false] 4 (0, 0)) from
    ⟨(HB1.out.below hb2).below h25, hB2.below h25, hM5, (hb45.block w2.heap.size (lt_of_block hblk4)).trans hblk4, by
      have h1 := (HW1.out.block RB (lt_of_block HBLK.out)).trans HBLK.out
      have h2 := (hb2.block RB (lt_of_block h1)).trans h1
      exact (h25.block RB (lt_of_block h2)).trans h2⟩)
  have HW5 := Lib.hid (show Below V2.heap.size V2 V5 from below_step (below_step HW1.out hb2) h25)
  have HSZ := Lib.hid (show b1 + 1 < b2 ∧ b2 + 1 < w2.heap.size ∧ w2.heap.size < V4.heap.size ∧ RB < b1 from by
    have a1 := HB1.out.lt
    have a2 := hB2.lt
    have a3 := lt_of_block hblk4
    have a4 := lt_of_block HBLK.out
    have e2 := HBB1.out
    omega)
  clear hB2 hb2 hb3 hs3 hl3 hblk3 hblk4 hb24 hb45 hM5 h25
  gi_wp2_with fail
  obtain ⟨B3, hB3⟩ : ∃ x, V4.heap.size = x := ⟨_, rfl⟩
  rw [hB3] at HF HSZ
  have c05 : V5.cell? ⟨w.heap.size, 0, none⟩ = some (.int .i64 first) := C0 ⟨V5, HW5.out⟩
  have HC05 := Lib.hid c05
  have HR5 := Lib.hid (HR.out.below (below_step HB02.out HW5.out))
  have HWS := Lib.hid (show w.heap.size < b1 ∧ w.heap.size + 2 ≤ b1 from by have := HSZ.out; omega)
  obtain ⟨m, hm⟩ : ∃ m, zs.length = m := ⟨_, rfl⟩
  have HXS := Lib.hid (fun i (hi : i < m) => show ∃ x, zs[i]? = some x from ⟨_, List.getElem?_eq_getElem (by rw [hm]; exact hi)⟩)
  rw [hm] at hlen ⊢
  rw [hB3]
  have HM := Lib.hid hm
  clear hV0 hV1 hV2 hV3 hV4 hV5 k3 f3 c0 c01 c02 c04 hmm hB3 hm c05 hb1' hb2'
  gi_loopw [15, 63] (fun lv iv wr => ∃ (k : Nat) (last : Int) (f : Int → Int) (n1 n3 : Nat), iv = .int .i64 k ∧ lv = .int .i64 last ∧ k ≤ m ∧ n1 ≤ k ∧ n3 ≤ k ∧ Hid (Adds first f last) ∧ ∃ X : ExtO (fun b => b = b1 ∨ b = B3) V5, wr = X.1 ∧ Hid (BookW X.1 (b1 + 1) b1 n1 first fit fat f ∧ LMapK X.1 B3 n3 f first last)) (fun _ iv _ => m - (intOf iv).toNat)
  case atStart => exact ⟨0, first, fun _ => 0, 0, 0, rfl, rfl, by omega, by omega, by omega, Lib.hid (Adds.start hf1), ⟨V5, Kept.refl _ _⟩, rfl, Lib.hid ⟨HF.out.1, HF.out.2.2.1⟩⟩
  case round =>
    obtain ⟨k, last, f, n1, n3, rfl, rfl, hk, hn1, hn3, HA, X, rfl, HX⟩ := hrel
    by_cases hlt : k < m
    · have t2 : decide ((k : Int) < (m : Int)) = true := by rw [decide_eq_true_eq]; omega
      have t2' : decide (k < m) = true := by simpa using hlt
      obtain ⟨x, hx⟩ := HXS.out k hlt
      obtain ⟨ba, oa, ha, hba, hcl⟩ := HR.out.at hx
      subst ha
      have hd := HR5.out.on hx
      have e0 : X.1.cell? ⟨ba, oa + k * 2, none⟩ = some (.int .i64 x.1) := X.2.cell (by have := HSZ.out; have := HWS.out; simp only; omega) (hd 0 _ rfl)
      have e1 : X.1.cell? ⟨ba, oa + k * 2 + 1, none⟩ = some (.int .i64 x.2) := X.2.cell (by have := HSZ.out; have := HWS.out; simp only; omega) (hd 1 _ rfl)
      obtain ⟨V6, hV6, hb6, hs6, hl6⟩ := alloc_cells X.1 #[.int .i64 x.1, .int .i64 x.2] 24
      obtain ⟨T, hT⟩ : ∃ T, X.1.heap.size = T := ⟨_, rfl⟩
      rw [hT] at hl6
      have hTb : ¬ T = b1 := by have := HX.out.1.map.lt; omega
      have hT3 : ¬ T = B3 := by have := HX.out.2.lt; omega
      have hBK := HX.out.1.below hb6
      have DA := Lib.hid (add_any (b1 + 1) b1 n1 first fit fat f x.1 x.2 V6 hBK HA.out.ok hf0 hf1 (by unfold maxLen; omega))
      have HL6 := Lib.hid (HX.out.2.below hb6)
      have u0 : V6.cell? ⟨T, 0, none⟩ = some (.int .i64 x.1) := hl6 0 _ rfl
      have u1 : V6.cell? ⟨T, 1, none⟩ = some (.int .i64 x.2) := hl6 1 _ rfl
      have HK6 := Lib.hid (X.2.trans (Kept.of_below hb6))
      obtain ⟨d, hd0⟩ : ∃ d, x.1 = d := ⟨_, rfl⟩
      obtain ⟨l, hl0⟩ : ∃ d, x.2 = d := ⟨_, rfl⟩
      rw [hd0] at e0 hV6 u0 DA
      rw [hl0] at e1 hV6 u1 DA
      obtain ⟨er, her⟩ : ∃ er, addE first f d l = er := ⟨_, rfl⟩
      have HER := Lib.hid her
      rw [her] at DA
      unfold BookRet at DA
      clear hx hcl hd hs6 hl6 hb6 hBK hd0 hl0 her
      by_cases h0 : er = 0
      · subst h0
        gi_wp2_with fail
        refine ⟨trivial, (callsIn_wide.2 DA.out).mono ?_⟩
        rintro e w7 ⟨rfl, hB7, hK7⟩
        obtain ⟨hh, ⟨l0, l1⟩, hsum⟩ := addE_zero HER.out
        obtain ⟨hd0, hd1, hd2⟩ := has_in hh
        have hfd := HA.out.ok.h d
        have hday : (Lit.int .i64 d).wf = true := wf_in (by omega) (by omega)
        have hl7 := HL6.out.kept hK7 (fun e => by have := HSZ.out; omega)
        have k1 := hl7.toL.look hday
        obtain ⟨w8, k2, m8, g8⟩ := hl7.put hday hd0 (by unfold maxLen; omega) (f d + l)
        have v0 := hK7.cell (p := ⟨T, 0, none⟩) hTb u0
        have v1 := hK7.cell (p := ⟨T, 1, none⟩) hTb u1
        have hk8 : Kept (fun b => b = B3) w7 w8 := Kept.of_grown g8 (fun g e _ => by injection e with e; exact e.symm)
        have y0 := hk8.cell (p := ⟨T, 0, none⟩) hT3 v0
        have hw : IntKind.i64.wrap (f d + l) = f d + l := wrap_in (by omega) (by omega)
        have hff := addF_good (first := first) (f := f) HER.out
        have HAN := Lib.hid (HA.out.step HER.out)
        rw [hff] at hB7 HAN
        have HB8 := Lib.hid (And.intro (hB7.kept hk8 (fun e => by have := HSZ.out; omega) (fun e => by have := HSZ.out; omega)) m8)
        have HK8 := Lib.hid ((HK6.out.trans (show Kept (fun b => b = b1 ∨ b = B3) V6 w7 from ⟨hK7.os, hK7.tape, hK7.output, hK7.size, fun k hk ho => hK7.block k hk (fun e => ho (Or.inl e))⟩)).trans (show Kept (fun b => b = b1 ∨ b = B3) w7 w8 from ⟨hk8.os, hk8.tape, hk8.output, hk8.size, fun k hk ho => hk8.block k hk (fun e => ho (Or.inr e))⟩))
        obtain ⟨x', hx'⟩ : ∃ x', f d = x' := ⟨_, rfl⟩
        rw [hx'] at k1 k2 hw hB7 HB8 HAN
        clear hB7 hK7 hh hd0 hd1 hd2 hfd hl7 m8 g8 hk8 hff hx' hsum l0 l1 u0 u1 hday
        gi_wp2_with fail
        go_roundw
        case rel => exact ⟨k + 1, max last d, updF f d (x' + l), n1 + 1, n3 + 1, by go_num, rfl, by omega, by omega, by omega, HAN, ⟨w8, HK8.out⟩, rfl, HB8⟩
        case measure => simp [intOf]; omega
      · have t0 : (er == 0) = false := by rw [beq_eq_false_iff_ne]; exact h0
        have hff := addF_bad (first := first) (f := f) (d := d) (x := l) (by rw [HER.out]; exact h0)
        rw [hff] at DA
        clear h0
        gi_wp2_with fail
        refine ⟨trivial, (callsIn_wide.2 DA.out).mono ?_⟩
        rintro e w7 ⟨rfl, hB7, hK7⟩
        have HL7 := Lib.hid (HL6.out.kept hK7 (fun e => by have := HSZ.out; omega))
        have HK7 := Lib.hid (HK6.out.trans (show Kept (fun b => b = b1 ∨ b = B3) V6 w7 from ⟨hK7.os, hK7.tape, hK7.output, hK7.size, fun k hk ho => hK7.block k hk (fun e => ho (Or.inl e))⟩))
        have HB7 := Lib.hid hB7
        clear hB7 hK7
        gi_wp2_with fail
        go_roundw
        case rel => exact ⟨k + 1, last, f, n1 + 1, n3, by go_num, rfl, by omega, by omega, by omega, HA, ⟨w7, HK7.out⟩, rfl, Lib.hid ⟨HB7.out, HL7.out⟩⟩
        case measure => simp [intOf]; omega
    · have t2 : decide ((k : Int) < (m : Int)) = false := by rw [decide_eq_false_iff_not]; omega
      have t2' : decide (k < m) = false := by simpa using hlt
      obtain rfl : k = m := by omega
      clear hlt hk
      gi_wp2_with fail
      refine ⟨trivial, (back_in Fence.wide _ trivial rfl _ _ _ _).mono ?_⟩
      rintro e w9 ⟨rfl, hw9⟩
      obtain ⟨Bs, hBs⟩ : ∃ x, X.1.heap.size = x := ⟨_, rfl⟩
      rw [hBs]
      have hb9 : Below X.1.heap.size X.1 w9 := hw9 ▸ below_al _ _
      have hs9 : w9.heap.size = Bs + 1 := by rw [hw9, ← hBs]; simp
      have hblk9 : w9.heap[Bs]? = some (.cells #[.slice a k cap] 22 (0, 0)) := by rw [hw9, ← hBs]; exact heap_alloc_new X.1 _
      have HBK9 := Lib.hid (HX.out.1.below hb9)
      have HLM9 := Lib.hid (HX.out.2.below hb9)
      have HK9 := Lib.hid (X.2.trans (Kept.of_below hb9))
      have hsz := HSZ.out
      have hws := HWS.out
      have h2nd : BookW w9 (b2 + 1) b2 0 first fit fat (fun _ => 0) := HF.out.2.1.kept HK9.out (fun e => by omega) (fun e => by omega)
      have hrow9 : Rw dyC 2 w9 a zs := by
        have hK := HK9.out
        refine ⟨fun hl => ?_⟩
        obtain ⟨ba, oa, ha, hba, _⟩ := HR.out.here hl
        subst ha
        obtain ⟨_, _, ha', _, hc⟩ := HR5.out.here hl
        injection ha' with ha'
        injection ha' with e1 e2
        subst e1 e2
        exact ⟨ba, oa, rfl, by have := HW5.out.size; have := HB02.out.size; have := hK.size; omega, fun i x hx j v hv => hK.cell (p := ⟨ba, oa + i * 2 + j, none⟩) (by simp only; omega) (hc i x hx j v hv)⟩
      clear hw9 hb9
      gi_wp2_with fail
      have hzl : zs.length = k := HM.out
      generalize hA0 : ({ tmps := _, defers := _ } : Act) = A0
      refine wpIn_rangeFunc_ownH (α := Int × (Int × Int)) rfl (by decide) (gf := 19) (lb := #[.pointer (some ⟨Bs, 0, none⟩)]) (by subst hA0; rfl) trivial (enters_of Tryz.func19 (by kernel_rfl) rfl)
        (back_stops Fence.wide 7 trivial rfl (by decide) (fun b => b = b2 ∨ w9.heap.size ≤ b) Bs a cap zs (by rw [hzl]; exact hlen) w9 (by omega) ?hO ?hcell hrow9 ?ha)
        (fun h1 h2 => Kept.trans h1 h2) (fun W l o o' hl _ _ _ => kept_putObj W l o' (Or.inr hl)) (Below.refl _ _) (fun _ => rfl)
        (fun pre W => ∃ f2 n2, BookW W (b2 + 1) b2 n2 first fit fat f2 ∧ LoadOk f2 ∧ n2 ≤ 3 * pre.length ∧ Kept (fun b => b = b2 ∨ w9.heap.size ≤ b) w9 W) (fun _ _ _ => False) ?hI (fun _ _ _ _ _ h _ _ => h)
        ⟨_, 0, h2nd, ⟨fun _ => ⟨Int.le_refl _, by omega⟩⟩, by omega, Kept.refl _ _⟩
        (fun x a' W => ∃ T, w9.heap.size ≤ T ∧ W.heap[T]? = some (.cells #[.int .i64 x.2.1, .int .i64 x.2.2] 24 (0, 0)) ∧ a' = { tmps := ((A0.tmps.setIfInBounds 88 (.int .i64 x.1)).setIfInBounds 89 (.agg #[.int .i64 x.2.1, .int .i64 x.2.2])).setIfInBounds 20 (.pointer (some ⟨T, 0, none⟩)), defers := [] }) ?hAx ?assign ?body ?done ?stop
      case hO =>
        have := HX.out.2.lt
        omega
      case hcell =>
        rw [hzl]
        simp [World.cell?, hblk9]
      case ha =>
        intro b off hz ha
        obtain ⟨ba, oa, ha', hba, _⟩ := HR.out.here hz
        rw [ha] at ha'
        injection ha' with ha'
        injection ha' with e1 e2
        subst e1
        have := HW5.out.size
        have := HB02.out.size
        have := HK9.out.size
        omega
      case hI =>
        rintro pre W W' row ⟨f2, n2, h1, h2, h3, h4⟩ hg hr
        have := h2nd.lt
        exact ⟨f2, n2, h1.kept (O := fun b => w9.heap.size ≤ b) (Kept.of_grown hg (fun g e _ => (hr g e).1)) (by omega) (by omega), h2, h3, h4.grown hg (fun g e _ => Or.inr (hr g e).1)⟩
      case hAx =>
        rintro x a' _ W W' row ⟨T, hT, hb, ha'⟩ hg hr
        refine ⟨T, hT, (hg.block T (lt_of_block hb) (fun e => ?_)).trans hb, ha'⟩
        obtain ⟨_, o, ho, hc⟩ := hr T e.symm
        rw [hb] at ho
        injection ho with ho
        rw [← ho] at hc
        cases hc
      case assign =>
        intro l pre x W K hI hK
        obtain ⟨V, hV⟩ : ∃ V, W.alloc (.cells #[.int .i64 x.2.1, .int .i64 x.2.2] 24) = V := ⟨_, rfl⟩
        subst hA0
        simp only [backV]
        gi_wp2_with fail
        have hbV : Below W.heap.size W V := hV ▸ below_al W _
        have hvb : V.heap[W.heap.size]? = some (.cells #[.int .i64 x.2.1, .int .i64 x.2.2] 24 (0, 0)) := by rw [← hV]; exact heap_alloc_new W _
        obtain ⟨f2, n2, h1, h2, h3, h4⟩ := hI
        refine hK _ _ (keepsFrom_kept (O := fun _ => False) (Kept.of_below hbV) (fun _ _ h => h)) (Kept.of_below hbV) ⟨f2, n2, h1.below hbV, h2, h3, h4.trans (Kept.of_below hbV)⟩ ⟨W.heap.size, h4.size, hvb, ?_⟩
        rfl
      case body =>
        rintro l pre x a' W hl ⟨r, hr⟩ ⟨f2, n2, h1, h2, h3, h4⟩ ⟨T, hT, hTb, rfl⟩ hpre
        have hc5 : W.cell? ⟨w.heap.size, 0, none⟩ = some (.int .i64 first) := h4.cell (p := ⟨w.heap.size, 0, none⟩) (by have := HX.out.2.lt; simp only; omega) (HK9.out.cell (p := ⟨w.heap.size, 0, none⟩) (by simp only; omega) HC05.out)
        have u0 : W.cell? ⟨T, 0, none⟩ = some (.int .i64 x.2.1) := by simp [World.cell?, hTb]
        have u1 : W.cell? ⟨T, 1, none⟩ = some (.int .i64 x.2.2) := by simp [World.cell?, hTb]
        have DA := Lib.hid (add_any (b2 + 1) b2 n2 first fit fat f2 x.2.1 x.2.2 W h1 h2 hf0 hf1 (by unfold maxLen; omega))
        have hbx5 : V5.cell? ⟨w2.heap.size, 0, none⟩ = some (.pointer (some ⟨b2 + 1, 0, none⟩)) := by
          have := HF.out.2.2.2.1
          simp [World.cell?, this]
        have hbx : W.cell? ⟨w2.heap.size, 0, none⟩ = some (.pointer (some ⟨b2 + 1, 0, none⟩)) := h4.cell (p := ⟨w2.heap.size, 0, none⟩) (by have := HX.out.2.lt; simp only; omega) (HK9.out.cell (p := ⟨w2.heap.size, 0, none⟩) (by simp only; omega) hbx5)
        subst hA0
        clear hbx5
        have hKO : ∀ {A B : World}, Kept (fun b => b = b2) A B → Kept (fun b => b = b2 ∨ w9.heap.size ≤ b) A B := fun h => ⟨h.os, h.tape, h.output, h.size, fun k hk ho => h.block k hk (fun e => ho (Or.inl e))⟩
        have hlast : ∀ k, w9.heap.size ≤ k → ¬ (k = b2) := fun k hk e => by have := h2nd.lt; omega
        obtain ⟨er, her⟩ : ∃ er, addE first f2 x.2.1 x.2.2 = er := ⟨_, rfl⟩
        have HOK2 := Lib.hid (addF_ok (first := first) h2 x.2.1 x.2.2)
        rw [her] at DA
        unfold BookRet at DA
        have HN2 := Lib.hid (show n2 + 1 ≤ 3 * (pre ++ [x]).length ∧ n2 + 3 ≤ 3 * (pre ++ [x]).length from by rw [List.length_append]; simp only [List.length_singleton]; omega)
        by_cases h0 : er = 0
        case neg =>
          have b0 := bneT h0
          clear h0 her
          gi_wp2_with fail
          refine ⟨trivial, (CallsIn.inRound l (callsIn_wide.2 DA.out)).mono ?_⟩
          rintro e w10 ⟨rfl, hB10, hK10⟩
          have HE := Lib.hid (And.intro hB10 hK10)
          clear hB10 hK10
          gi_wp2_with fail
          exact ⟨keepsFrom_kept HE.out.2 hlast, hKO HE.out.2, _, n2 + 1, HE.out.1, HOK2.out, HN2.out.1, h4.trans (hKO HE.out.2)⟩
        subst h0
        obtain ⟨f3, hf3⟩ : ∃ f, addF first f2 x.2.1 x.2.2 = f := ⟨_, rfl⟩
        rw [hf3] at HOK2 DA
        have hsz2 := h2nd.lt
        have hlt13 := HX.out.2.lt
        obtain ⟨er2, her2⟩ : ∃ e, addE first f3 first 1 = e := ⟨_, rfl⟩
        have HN3 := Lib.hid (show n2 + 1 < maxLen ∧ n2 + 1 + 1 < maxLen from by unfold maxLen; omega)
        clear her hf3
        gi_wp2_with fail
        refine ⟨trivial, (CallsIn.inRound l (callsIn_wide.2 DA.out)).mono ?_⟩
        rintro e w10 ⟨rfl, hB10, hK10⟩
        have hc10 := hK10.cell (p := ⟨w.heap.size, 0, none⟩) (by simp only; omega) hc5
        have hbx10 := hK10.cell (p := ⟨w2.heap.size, 0, none⟩) (by simp only; omega) hbx
        have D2 := Lib.hid (add_any (b2 + 1) b2 (n2 + 1) first fit fat f3 first 1 w10 hB10 HOK2.out hf0 hf1 HN3.out.1)
        rw [her2] at D2
        unfold BookRet at D2
        have HK10 := Lib.hid hK10
        clear hB10 hK10 hc5 hbx DA
        by_cases h0 : er2 = 0
        case neg =>
          have t0 : (er2 == 0) = false := by rw [beq_eq_false_iff_ne]; exact h0
          have hff := addF_bad (first := first) (f := f3) (d := first) (x := 1) (by rw [her2]; exact h0)
          rw [hff] at D2
          clear h0 her2 hff
          gi_wp2_with fail
          refine ⟨trivial, (CallsIn.inRound l (callsIn_wide.2 D2.out)).mono ?_⟩
          rintro e w11 ⟨rfl, hB11, hK11⟩
          have HE := Lib.hid (And.intro hB11 (HK10.out.trans hK11))
          clear hB11 hK11
          gi_wp2_with fail
          refine ⟨trivial, ?_⟩
          gi_wp2_with fail
          exact ⟨keepsFrom_kept HE.out.2 hlast, hKO HE.out.2, f3, n2 + 1 + 1, HE.out.1, HOK2.out, by have := HN2.out.2; omega, h4.trans (hKO HE.out.2)⟩
        subst h0
        obtain ⟨hgt, hgf⟩ := guest HOK2.out her2
        have hok4 := addF_ok (first := first) HOK2.out first 1
        obtain ⟨f4, hf4⟩ : ∃ f, addF first f3 first 1 = f := ⟨_, rfl⟩
        rw [hf4] at hgt hgf hok4 D2
        have HG4 := Lib.hid (And.intro hgt (And.intro hgf hok4))
        clear her2 hgt hgf hok4 hf4
        gi_wp2_with fail
        refine ⟨trivial, (CallsIn.inRound l (callsIn_wide.2 D2.out)).mono ?_⟩
        rintro e w11 ⟨rfl, hB11, hK11⟩
        have hc11 := hK11.cell (p := ⟨w.heap.size, 0, none⟩) (by simp only; omega) hc10
        have hbx11 := hK11.cell (p := ⟨w2.heap.size, 0, none⟩) (by simp only; omega) hbx10
        have D3 := Lib.hid (take_any (b2 + 1) b2 (n2 + 1 + 1) first fit fat f4 first 1 w11 hB11 HG4.out.2.2 hf0 hf1 HN3.out.2)
        rw [HG4.out.1, HG4.out.2.1] at D3
        unfold BookRet at D3
        have HK11 := Lib.hid (HK10.out.trans hK11)
        clear hB11 hK11 hc10 hbx10 D2
        gi_wp2_with fail
        refine ⟨trivial, (CallsIn.inRound l (callsIn_wide.2 D3.out)).mono ?_⟩
        rintro e w12 ⟨rfl, hB12, hK12⟩
        have HE := Lib.hid (And.intro hB12 (HK11.out.trans hK12))
        clear hB12 hK12
        gi_wp2_with fail
        exact ⟨keepsFrom_kept HE.out.2 hlast, hKO HE.out.2, f3, n2 + 1 + 1 + 1, HE.out.1, HOK2.out, by have := HN2.out.2; omega, h4.trans (hKO HE.out.2)⟩
      case stop =>
        rintro D c pre W _ _ h _
        exact h.elim
      case done =>
        rintro D ys W hD rfl ⟨f2, n2, h1, h2, h3, h4⟩ hK
        rename_i a1 K0 hKK
        refine hKK _ _ (wpIn_wide.2 ?_)
        clear hKK a1
        subst hA0
        have hb3 := HLM9.out.lt
        have HW : Hid (W.cell? ⟨w.heap.size, 0, none⟩ = some (.int .i64 first) ∧ W.cell? ⟨w.heap.size + 1, 0, none⟩ = some (.int .i64 more.1) ∧ W.cell? ⟨w.heap.size + 1, 1, none⟩ = some (.int .i64 more.2) ∧ W.cell? ⟨w2.heap.size, 0, none⟩ = some (.pointer (some ⟨b2 + 1, 0, none⟩)) ∧ W.heap[RB]? = some (.cells #[.bool false] 4 (0, 0))) := Lib.hid (by
          have hkk := HK9.out
          have h5 : V5.cell? ⟨w2.heap.size, 0, none⟩ = some (.pointer (some ⟨b2 + 1, 0, none⟩)) := by
            have := HF.out.2.2.2.1
            simp [World.cell?, this]
          refine ⟨h4.cell (by simp only; omega) (hkk.cell (by simp only; omega) HC05.out), h4.cell (by simp only; omega) (hkk.cell (by simp only; omega) (M0 ⟨V5, HW5.out⟩)), h4.cell (by simp only; omega) (hkk.cell (by simp only; omega) (M1 ⟨V5, HW5.out⟩)), h4.cell (by simp only; omega) (hkk.cell (by simp only; omega) h5), ?_⟩
          have h6 := (hkk.block RB (lt_of_block HF.out.2.2.2.2) (by omega)).trans HF.out.2.2.2.2
          exact (h4.block RB (lt_of_block h6) (by omega)).trans h6)
        have HB1 := Lib.hid (HBK9.out.kept h4 (by omega) (by omega))
        have HL1 := Lib.hid (HLM9.out.kept h4 (by omega))
        have HB2 := Lib.hid h1
        have HWW : Hid (Below w.heap.size w W) := Lib.hid (by
          have hb5 := below_step HB02.out HW5.out
          have hb9 : Below w.heap.size w w9 := Kept.below hb5 HK9.out hb5.size (fun k hk e => by omega)
          exact Kept.below hb9 h4 hb9.size (fun k hk e => by have := HK9.out.size; have := HW5.out.size; have := HB02.out.size; omega))
        have HFIN := Lib.hid (fun (T : World) (hT : Kept (fun b => b = b1) W T) => show T.cell? ⟨RB, 0, none⟩ = some (.bool false) ∧ T.frozen? ⟨RB, 0, none⟩ = false ∧ (T.setCell ⟨RB, 0, none⟩ (.bool true)).heap[D]? = some (.deferred (some [])) ∧ ((T.setCell ⟨RB, 0, none⟩ (.bool true)).putObj D (.deferred none)).cell? ⟨RB, 0, none⟩ = some (.bool true) ∧ Below w.heap.size w ((T.setCell ⟨RB, 0, none⟩ (.bool true)).putObj D (.deferred none)) from by
          have hblk : T.heap[RB]? = some (.cells #[.bool false] 4 (0, 0)) := (hT.block RB (lt_of_block HW.out.2.2.2.2) (by have := HSZ.out; omega)).trans HW.out.2.2.2.2
          have hset : (T.setCell ⟨RB, 0, none⟩ (.bool true)).heap[RB]? = some (.cells #[.bool true] 4 (0, 0)) := set_cells' hblk
          have hDR : ¬ D = RB := by
            rintro rfl
            rw [HW.out.2.2.2.2] at hK
            cases hK
          have hDb : ¬ D = b1 := by
            rintro rfl
            obtain ⟨_, ⟨es, clock, hb, _⟩, _⟩ := HB1.out.map.ex
            rw [hb] at hK
            cases hK
          have hD : T.heap[D]? = some (.deferred (some [])) := (hT.block D (lt_of_block hK) hDb).trans hK
          have hks : Kept (fun b => b = RB) T (T.setCell ⟨RB, 0, none⟩ (.bool true)) := keep_set' rfl
          have hbT : Below w.heap.size w T := Kept.below HWW.out hT HWW.out.size (fun k hk e => by have := HWS.out; omega)
          have hbT2 : Below w.heap.size w (T.setCell ⟨RB, 0, none⟩ (.bool true)) := Kept.below hbT hks hbT.size (fun k hk e => by omega)
          have hkp : Kept (fun b => b = D) (T.setCell ⟨RB, 0, none⟩ (.bool true)) ((T.setCell ⟨RB, 0, none⟩ (.bool true)).putObj D (.deferred none)) := kept_putObj _ _ _ rfl
          have hDw : w.heap.size ≤ D := by have := HK9.out.size; have := HW5.out.size; have := HB02.out.size; omega
          have hset2 := (hkp.block RB (lt_of_block hset) (fun e => hDR e.symm)).trans hset
          exact ⟨by simp [World.cell?, hblk], by simp [World.frozen?, hblk], (hks.block D (lt_of_block hD) hDR).trans hD, by simp [World.cell?, hset2], Kept.below hbT2 hkp hbT2.size (fun k hk e => by omega)⟩)
        clear HBK9 HLM9 HK9 h2nd hrow9 hblk9 hs9 h1 h3 h4 HX HF HC05 HR5 HR hsz hws
        obtain ⟨hc5, hmd, hml, hbx, hrb⟩ := HW.out
        obtain ⟨hh0, hh1, hh2⟩ := has_in HA.out.has
        obtain ⟨n, hn⟩ : ∃ n : Nat, last - first + 1 = (n : Int) := ⟨(last - first + 1).toNat, by omega⟩
        have hn5 : n ≤ 5000 := by omega
        have DB1 := Lib.hid (fun (Z : Ext W) => between_any (b1 + 1) b1 n1 first fit fat f n last Z.1 (HB1.out.below Z.2) HA.out.ok hf0 hf1 ht0 ht1 hg0 hg1 (by omega) (by omega) hn5 HA.out.has)
        have DB2 := Lib.hid (fun (Z : Ext W) => between_any (b2 + 1) b2 n2 first fit fat f2 n last Z.1 (HB2.out.below Z.2) h2 hf0 hf1 ht0 ht1 hg0 hg1 (by omega) (by omega) hn5 HA.out.has)
        obtain ⟨LA, hLA⟩ : ∃ l, betL f first fit fat n = l := ⟨_, rfl⟩
        obtain ⟨LB, hLB⟩ : ∃ l, betL f2 first fit fat n = l := ⟨_, rfl⟩
        have HLA := Lib.hid (And.intro hLA (show LA.length = n by rw [← hLA, betL_len]))
        have HLB := Lib.hid (And.intro hLB (show LB.length = n by rw [← hLB, betL_len]))
        rw [hLA] at DB1
        rw [hLB] at DB2
        have C5 := Ext.ex hc5
        have CM0 := Ext.ex hmd
        have CM1 := Ext.ex hml
        have CBX := Ext.ex hbx
        have hw1 : IntKind.i64.wrap (last - first) = last - first := wrap_in (by omega) (by omega)
        have hw2 : IntKind.i64.wrap (n : Int) = n := wrap_in (by omega) (by omega)
        have HNN := Lib.hid (show 1 ≤ n ∧ last = first + n - 1 from ⟨by omega, by omega⟩)
        have HRBW := Lib.hid hrb
        have HKD := Lib.hid hK
        have HN1 := Lib.hid (show n1 < maxLen ∧ n1 + 1 < maxLen from by unfold maxLen; omega)
        clear hc5 hmd hml hbx hrb hK hh0 hh1 hh2 hLA hLB hb3 HW h2 C0 M0 M1 hn1 hn3 hlen
        refine ext_wp fun X0 => ?_
        go_wp2_with fail
        refine (DB1.out X0).mono ?_
        rintro e Y1 ⟨va, rfl, hoa, hba⟩
        obtain ⟨aa, ca, rfl, hca, hra⟩ := hoa.row
        rw [HLA.out.2] at hca ⊢
        obtain ⟨X1, rfl⟩ : ∃ Z : Ext W, Y1 = Z.1 := ⟨⟨Y1, below_step X0.2 hba⟩, rfl⟩
        have HRA1 := Lib.hid hra
        clear hoa hba hra
        go_wp2_with fail
        refine (DB2.out X1).mono ?_
        rintro e U ⟨vb, rfl, hob, hbb⟩
        obtain ⟨ab, cb, rfl, hcb, hrb⟩ := hob.row
        rw [HLB.out.2] at hcb ⊢
        have HUW := Lib.hid (below_step X1.2 hbb)
        have HRA := Lib.hid (HRA1.out.below hbb)
        have HRB := Lib.hid hrb
        have D5 := Ext.re HUW.out C5
        have DM0 := Ext.re HUW.out CM0
        have DM1 := Ext.re HUW.out CM1
        have DBX := Ext.re HUW.out CBX
        clear C5 CM0 CM1 CBX hob hbb hrb HRA1 DB1 DB2
        obtain ⟨V, hmk, hnb, hbv, hsv⟩ := make_nums n hn5 U
        obtain ⟨DM, hown, hat, hkeys⟩ := ((HL1.out.below HUW.out).below hbv).ex
        have u5 : U.cell? ⟨w.heap.size, 0, none⟩ = some (.int .i64 first) := D5 ⟨U, Below.refl _ _⟩
        obtain ⟨q, hq⟩ : ∃ q, U.heap.size = q := ⟨_, rfl⟩
        obtain ⟨r, hr⟩ : ∃ q, V.heap.size = q := ⟨_, rfl⟩
        have HV := Lib.hid (And.intro hnb (And.intro hbv hsv))
        have HD := Lib.hid (And.intro hown (And.intro hat hkeys))
        rw [hq] at hmk
        have HQ := Lib.hid hq
        have HRR := Lib.hid hr
        clear hnb hbv hsv hown hat hkeys hq hr
        go_wp2_with (at_range; refine wpList_range_own _ rfl _ 30 rfl 3 3 (Maps.int_keyed Tryz.underlying3) Tryz.underlying30 intR B3 n3 DM rfl HD.out.1 ?_; intro w0 hrg0 hgr0 hs0)
        go_frame
        rw [HRR.out] at hrg0 hs0 ⊢
        go_loopw [24] (fun _ wr => ∃ (left : Lit → Bool) (cnt : Nat) (l : List Int), Hid (wr.ranges Tryz.prog 3 intR B3 r n3 DM left cnt) ∧ Hid (NB wr q l ∧ RowAt f first n left l) ∧ ∃ X : Ext U, wr = X.1) (fun _ wr => wr.rangeLeft B3 r)
        case atStart =>
          have hV0 : Below V.heap.size V w0 := (Below.refl _ _).grown hgr0 (Nat.le_refl _) (fun j hj => by cases hj)
          refine ⟨Maps.has DM, Maps.size DM, List.replicate n 0, Lib.hid hrg0, Lib.hid ⟨?_, RowAt.start fun i hi hl => ?_⟩, ⟨w0, below_step HV.out.2.1 hV0⟩, rfl⟩
          · rw [← HQ.out]
            exact HV.out.1.below hV0
          · have h := HD.out.2.1 (first + i) (wf_in (by omega) (by have := HNN.out; omega))
            rw [Maps.atKey_of_not_has hl] at h
            injection h with h
            injection h with _ h
            exact h.symm
        case round =>
          obtain ⟨left, cnt, l, HRG, HNB, X, rfl⟩ := hrel
          go_wp2_with (at_next; refine wpList_next_ranges _ rfl _ rfl 3 (Maps.int_keyed Tryz.underlying3) intR (fun x : Int => Value.int .i64 x) (fun x : Int => Value.int .i64 x) key_int intR_int B3 r n3 _ _ _ rfl HRG.out ?_ ?_)
          · intro hc0 hl0
            obtain ⟨hnb, hra⟩ := HNB.out
            have HL := Lib.hid (And.intro (hra.done hl0) hra.len)
            obtain ⟨R, hR⟩ : ∃ z, X.1 = z := ⟨_, rfl⟩
            have HUR := Lib.hid (hR ▸ X.2)
            have HNR := Lib.hid (hR ▸ hnb)
            rw [hR]
            clear hR HNB HRG hnb hra hl0 hc0 HD HV HQ HRR
            have E5 := Ext.re HUR.out D5
            have EM0 := Ext.re HUR.out DM0
            have EM1 := Ext.re HUR.out DM1
            clear D5 DM0 DM1 DBX
            have HRA2 := Lib.hid (HRA.out.below HUR.out)
            have HRB2 := Lib.hid (HRB.out.below HUR.out)
            have DEF := Lib.hid (fun Z : Ext R => eqFunc_n LA LB n aa ab ca cb Z.1 (HRA2.out.below Z.2) (HRB2.out.below Z.2) HLA.out.2 HLB.out.2 hn5)
            have DEQ := Lib.hid (fun (Z : Ext R) (h : LB = LA) => equal_n LA LB n aa ab ca cb Z.1 (HRA2.out.below Z.2) (HRB2.out.below Z.2) HLA.out.2 h hn5)
            have DS := Lib.hid (fun (Z : Ext R) (c s : Int) => series_n f first l n q c s Z.1 (HNR.out.below Z.2) HL.out.1 HL.out.2 hn5 HA.out.ok)
            obtain ⟨X0, hX0⟩ : ∃ Z : Ext R, R = Z.1 := ⟨⟨R, Below.refl _ _⟩, rfl⟩
            rw [hX0]
            clear hX0
            go_wp2_with fail
            refine (DEF.out _).mono ?_
            rintro e Y1 ⟨rfl, hb1⟩
            obtain ⟨X1, rfl⟩ : ∃ Z : Ext R, Y1 = Z.1 := ⟨⟨Y1, below_step X0.2 hb1⟩, rfl⟩
            clear hb1
            obtain ⟨al, hal⟩ : ∃ al, eqLd LA LB n = al := ⟨_, rfl⟩
            have HAL := Lib.hid (fun h : al = true => show LB = LA from by
              rw [← HLA.out.1, ← HLB.out.1]
              refine (betL_alike ?_).symm
              rw [HLA.out.1, HLB.out.1, hal, h])
            rw [hal]
            clear hal
            obtain ⟨X2, hX2, HWP⟩ : ∃ X2 : Ext R, True ∧ True := ⟨X1, trivial, trivial⟩
            cases al
            case' true =>
              have hlb := HAL.out rfl
              clear X2 hX2 HWP
              go_wp2_with fail
              refine (DEQ.out X1 hlb).mono ?_
              rintro e Y2 ⟨rfl, hb2⟩
              obtain ⟨X2, rfl⟩ : ∃ Z : Ext R, Y2 = Z.1 := ⟨⟨Y2, below_step X1.2 hb2⟩, rfl⟩
              clear hb2 hlb
              go_wp2_with fail
            case' false =>
              clear X2 hX2 HWP
              obtain ⟨X2, hX2⟩ : ∃ Z : Ext R, X1 = Z := ⟨_, rfl⟩
              rw [hX2]
              clear hX2
              go_wp2_with fail
            all_goals
              refine (DS.out X2 42 fit (by omega) (by omega) ht0 ht1).mono ?_
              rintro e Y3 ⟨v1, rfl, ho1, hb3⟩
              obtain ⟨a1, c1, rfl, hc1, hr1⟩ := ho1.row
              rw [serL_len] at hc1 ⊢
              obtain ⟨X3, rfl⟩ : ∃ Z : Ext R, Y3 = Z.1 := ⟨⟨Y3, below_step X2.2 hb3⟩, rfl⟩
              have HR1 := Lib.hid hr1
              clear ho1 hb3 hr1
              go_wp2_with fail
              refine (DS.out X3 7 fat (by omega) (by omega) hg0 hg1).mono ?_
              rintro e S ⟨v2, rfl, ho2, hb4⟩
              obtain ⟨a2, c2, rfl, hc2, hr2⟩ := ho2.row
              rw [serL_len] at hc2 ⊢
              have HRS := Lib.hid (below_step X3.2 hb4)
              have HRW := Lib.hid (below_step (below_step HUW.out HUR.out) HRS.out)
              have HS1 := Lib.hid (HR1.out.below hb4)
              have HS2 := Lib.hid hr2
              have HSA := Lib.hid (HRA2.out.below HRS.out)
              have HSN := Lib.hid (HNR.out.below HRS.out)
              have F5 := Ext.re HRS.out E5
              have FM0 := Ext.re HRS.out EM0
              have FM1 := Ext.re HRS.out EM1
              clear ho2 hb4 hr2 E5 EM0 EM1 HR1 DEF DEQ DS
              have hnn : ((n : Int) != (n : Int)) = false := by simp
              go_wp2_with fail
              go_loopw [189] (fun iv wr => ∃ k : Nat, iv = .int .i64 k ∧ k ≤ n ∧ ∃ X : Ext S, wr = X.1) (fun iv _ => n - (intOf iv).toNat)
              case atStart => exact ⟨0, rfl, by omega, ⟨S, Below.refl _ _⟩, rfl⟩
              case round =>
                obtain ⟨k, rfl, hk, X, rfl⟩ := hrel
                by_cases hlt : k < n
                · have t2 : decide ((k : Int) < (n : Int)) = true := by rw [decide_eq_true_eq]; omega
                  have t2' : decide (k < n) = true := by simpa using hlt
                  have hxA : LA[k]? = some (stAt f first fit fat k) := by rw [← HLA.out.1]; exact betL_get hlt
                  obtain ⟨b3, o3, rfl, hb3, hd⟩ := (HSA.out.below X.2).at hxA
                  obtain ⟨b4, o4, rfl, hb4, hd4⟩ := (HS1.out.below X.2).at (serL_is HL.out.1 hlt)
                  obtain ⟨b5, o5, rfl, hb5, hd5⟩ := (HS2.out.below X.2).at (serL_is HL.out.1 hlt)
                  have e0 : X.1.cell? ⟨b3, o3 + k * 5, none⟩ = some (.int .i64 (first + k)) := hd 0 _ rfl
                  have e1 : X.1.cell? ⟨b3, o3 + k * 5 + 1, none⟩ = some (.int .i64 (f (first + k))) := hd 1 _ rfl
                  have e2 : X.1.cell? ⟨b3, o3 + k * 5 + 2, none⟩ = some (.int .i64 (serF (fun j => f (first + (j : Nat))) 42 fit (k + 1))) := hd 2 _ rfl
                  have e3 : X.1.cell? ⟨b3, o3 + k * 5 + 3, none⟩ = some (.int .i64 (serF (fun j => f (first + (j : Nat))) 7 fat (k + 1))) := hd 3 _ rfl
                  have e4 : X.1.cell? ⟨b3, o3 + k * 5 + 4, none⟩ = some (.int .i64 (serF (fun j => f (first + (j : Nat))) 42 fit k - serF (fun j => f (first + (j : Nat))) 7 fat k)) := hd 4 _ rfl
                  have e5 : X.1.cell? ⟨b4, o4 + k, none⟩ = some (.int .i64 (serF (fun j => f (first + (j : Nat))) 42 fit (k + 1))) := by have := hd4 0 _ rfl; simpa using this
                  have e6 : X.1.cell? ⟨b5, o5 + k, none⟩ = some (.int .i64 (serF (fun j => f (first + (j : Nat))) 7 fat (k + 1))) := by have := hd5 0 _ rfl; simpa using this
                  have e7 : X.1.cell? ⟨q, k, none⟩ = some (.int .i64 (f (first + k))) := (HSN.out.below X.2).cell (HL.out.1 k hlt)
                  clear hxA hd hd4 hd5 hb3 hb4 hb5
                  generalize serF (fun j => f (first + (j : Nat))) 42 fit (k + 1) = x2 at e2 e5
                  generalize serF (fun j => f (first + (j : Nat))) 7 fat (k + 1) = x3 at e3 e6
                  generalize serF (fun j => f (first + (j : Nat))) 42 fit k - serF (fun j => f (first + (j : Nat))) 7 fat k = x4 at e4
                  generalize f (first + k) = x1 at e1 e7
                  generalize first + (k : Int) = x0 at e0
                  obtain ⟨V1, hV1, hvb, hvs, hvl⟩ := alloc_cells X.1 #[.int .i64 x0, .int .i64 x1, .int .i64 x2, .int .i64 x3, .int .i64 x4] 41
                  obtain ⟨T, hT⟩ : ∃ T, X.1.heap.size = T := ⟨_, rfl⟩
                  rw [hT] at hvl
                  have i1 : ∀ Z : Ext V1, Z.1.cell? ⟨T, 1, none⟩ = some (.int .i64 x1) := Ext.ex (hvl 1 _ rfl)
                  have i2 : ∀ Z : Ext V1, Z.1.cell? ⟨T, 2, none⟩ = some (.int .i64 x2) := Ext.ex (hvl 2 _ rfl)
                  have i3 : ∀ Z : Ext V1, Z.1.cell? ⟨T, 3, none⟩ = some (.int .i64 x3) := Ext.ex (hvl 3 _ rfl)
                  have i5 : ∀ Z : Ext V1, Z.1.cell? ⟨b4, o4 + k, none⟩ = some (.int .i64 x2) := Ext.ex (below_cell hvb e5)
                  have i6 : ∀ Z : Ext V1, Z.1.cell? ⟨b5, o5 + k, none⟩ = some (.int .i64 x3) := Ext.ex (below_cell hvb e6)
                  have i7 : ∀ Z : Ext V1, Z.1.cell? ⟨q, k, none⟩ = some (.int .i64 x1) := Ext.ex (below_cell hvb e7)
                  have HVB := Lib.hid hvb
                  have n1' : (x1 != x1) = false := by simp
                  have n2' : (x2 != x2) = false := by simp
                  have n3' : (x3 != x3) = false := by simp
                  clear hvl hvb hvs e5 e6 e7
                  go_wp2_with fail
                  refine wp_region_ext (W := V1) ⟨V1, Below.refl _ _⟩ (by kernel_rfl) (by kernel_rfl) ?_
                  repeat go_big_quiet_step (fail)
                  refine wpQuiet_nil ?_
                  rintro _ ⟨Y, rfl⟩
                  go_wp2_with fail
                  go_roundw
                  case rel => exact ⟨k + 1, by go_num, by omega, ⟨Y.1, below_step (below_step X.2 HVB.out) Y.2⟩, rfl⟩
                  case measure => simp [intOf]; omega
                · have t2 : decide ((k : Int) < (n : Int)) = false := by rw [decide_eq_false_iff_not]; omega
                  have t2' : decide (k < n) = false := by simpa using hlt
                  obtain ⟨m0, hm0⟩ : ∃ z, more.1 = z := ⟨_, rfl⟩
                  obtain ⟨m1, hm1⟩ : ∃ z, more.2 = z := ⟨_, rfl⟩
                  rw [hm0] at FM0
                  rw [hm1] at FM1
                  clear hlt hk hm0 hm1
                  by_cases hml : last < m0
                  · have t3 : decide (last < m0) = true := by rw [decide_eq_true_eq]; exact hml
                    go_wp2_with fail
                    refine (DT.out _).mono ?_
                    rintro e w5 ⟨rfl, hb5⟩
                    obtain ⟨k0, f0, k1, k2, k3⟩ := HFIN.out w5 (Kept.of_below (below_step (below_step HRW.out X.2) hb5))
                    have HE := Lib.hid (And.intro k1 (And.intro k2 k3))
                    clear hb5 k1 k2 k3
                    go_wp2_with fail
                    refine ⟨by simp, .inl ⟨_, _, rfl, run_takeDeferred HE.out.1, ?_⟩⟩
                    exact ⟨_, by simp [results, Tryz.results3, go_sem, HE.out.2.1], rfl, HE.out.2.2⟩
                  · have t3 : decide (last < m0) = false := by rw [decide_eq_false_iff_not]; exact hml
                    have HBX := HB1.out.below (below_step HRW.out X.2)
                    have DA := Lib.hid (add_any (b1 + 1) b1 n1 first fit fat f m0 m1 X.1 HBX HA.out.ok hf0 hf1 HN1.out.1)
                    have HNC := Lib.hid HBX.map.noCell
                    clear HBX
                    obtain ⟨er, her⟩ : ∃ er, addE first f m0 m1 = er := ⟨_, rfl⟩
                    have HER := Lib.hid her
                    rw [her] at DA
                    unfold BookRet at DA
                    clear her
                    by_cases h0 : er = 0
                    case neg =>
                      have b0 := bneT h0
                      clear h0
                      go_wp2_with fail
                      refine (DA.out).mono ?_
                      rintro e T ⟨rfl, hBT, hKT⟩
                      have HKT := Lib.hid ((Kept.of_below (O := fun b => b = b1) (below_step HRW.out X.2)).trans hKT)
                      clear hBT hKT
                      go_wp2_with fail
                      refine (DT.out _).mono ?_
                      rintro e w5 ⟨rfl, hb5⟩
                      obtain ⟨k0, f0, k1, k2, k3⟩ := HFIN.out w5 (HKT.out.trans (Kept.of_below hb5))
                      have HE := Lib.hid (And.intro k1 (And.intro k2 k3))
                      clear hb5 k1 k2 k3
                      go_wp2_with fail
                      refine ⟨by simp, .inl ⟨_, _, rfl, run_takeDeferred HE.out.1, ?_⟩⟩
                      exact ⟨_, by simp [results, Tryz.results3, go_sem, HE.out.2.1], rfl, HE.out.2.2⟩
                    subst h0
                    obtain ⟨_, ⟨hm0, hm1⟩, _⟩ := addE_zero HER.out
                    have hff := addF_good (first := first) (f := f) HER.out
                    have hok := addF_ok (first := first) HA.out.ok m0 m1
                    rw [hff] at DA hok
                    have HOK := Lib.hid hok
                    have HMM := Lib.hid hm0
                    clear hff hok hm0 hm1
                    go_wp2_with fail
                    refine (DA.out).mono ?_
                    rintro e T ⟨rfl, hBT, hKT⟩
                    have HKT := Lib.hid ((Kept.of_below (O := fun b => b = b1) (below_step HRW.out X.2)).trans hKT)
                    have j5 : T.cell? ⟨w.heap.size, 0, none⟩ = some (.int .i64 first) := hKT.cell (p := ⟨w.heap.size, 0, none⟩) (by have := HWS.out; simp only; omega) (F5 X)
                    have HTA := Lib.hid ((HSA.out.below X.2).kept hKT HNC.out)
                    obtain ⟨LC, hLC⟩ : ∃ l, betL (updF f m0 (f m0 + m1)) first fit fat n = l := ⟨_, rfl⟩
                    have HLC := Lib.hid (And.intro hLC (show LC.length = n by rw [← hLC, betL_len]))
                    have DB3 := Lib.hid (between_any (b1 + 1) b1 (n1 + 1) first fit fat (updF f m0 (f m0 + m1)) n last T hBT HOK.out hf0 hf1 ht0 ht1 hg0 hg1 (by have := HNN.out; omega) HNN.out.1 hn5 HA.out.has)
                    rw [hLC] at DB3
                    clear hBT hKT hLC DA HOK
                    go_wp2_with fail
                    refine (DB3.out).mono ?_
                    rintro e U2 ⟨vc, rfl, hoc, hbc⟩
                    obtain ⟨ac, cc, rfl, hcc, hrc⟩ := hoc.row
                    rw [HLC.out.2] at hcc ⊢
                    have HUA := Lib.hid (HTA.out.below hbc)
                    have HUC := Lib.hid hrc
                    have HKU := Lib.hid (HKT.out.trans (Kept.of_below hbc))
                    clear hoc hbc hrc j5 HTA HKT
                    go_wp2_with fail
                    go_loopw [252] (fun iv wr => ∃ k : Nat, iv = .int .i64 k ∧ k ≤ n ∧ ∃ X : Ext U2, wr = X.1) (fun iv _ => n - (intOf iv).toNat)
                    case atStart => exact ⟨0, rfl, by omega, ⟨U2, Below.refl _ _⟩, rfl⟩
                    case round =>
                      obtain ⟨k, rfl, hk, X2, rfl⟩ := hrel
                      by_cases hlt : k < n
                      · have t4 : decide ((k : Int) < (n : Int)) = true := by rw [decide_eq_true_eq]; omega
                        have t4' : decide (k < n) = true := by simpa using hlt
                        have hxA : LA[k]? = some (stAt f first fit fat k) := by rw [← HLA.out.1]; exact betL_get hlt
                        have hxC : LC[k]? = some (stAt (updF f m0 (f m0 + m1)) first fit fat k) := by rw [← HLC.out.1]; exact betL_get hlt
                        obtain ⟨s1, s2⟩ := stAt_more (f := f) (first := first) (fit := fit) (fat := fat) (d := m0) HMM.out k
                        obtain ⟨b3, o3, rfl, hb3, hd⟩ := (HUA.out.below X2.2).at hxA
                        obtain ⟨b4, o4, rfl, hb4, hd4⟩ := (HUC.out.below X2.2).at hxC
                        have e2 : ∀ Z : Ext X2.1, Z.1.cell? ⟨b3, o3 + k * 5 + 2, none⟩ = some (.int .i64 (stAt f first fit fat k).fit) := Ext.ex (hd 2 _ rfl)
                        have e3 : ∀ Z : Ext X2.1, Z.1.cell? ⟨b3, o3 + k * 5 + 3, none⟩ = some (.int .i64 (stAt f first fit fat k).fat) := Ext.ex (hd 3 _ rfl)
                        have e5 : ∀ Z : Ext X2.1, Z.1.cell? ⟨b4, o4 + k * 5 + 2, none⟩ = some (.int .i64 (stAt (updF f m0 (f m0 + m1)) first fit fat k).fit) := Ext.ex (hd4 2 _ rfl)
                        have e6 : ∀ Z : Ext X2.1, Z.1.cell? ⟨b4, o4 + k * 5 + 3, none⟩ = some (.int .i64 (stAt (updF f m0 (f m0 + m1)) first fit fat k).fat) := Ext.ex (hd4 3 _ rfl)
                        clear hxA hxC hd hd4 hb3 hb4
                        generalize (stAt f first fit fat k).fit = x2 at e2 s1
                        generalize (stAt f first fit fat k).fat = x3 at e3 s2
                        generalize (stAt (updF f m0 (f m0 + m1)) first fit fat k).fit = y2 at e5 s1
                        generalize (stAt (updF f m0 (f m0 + m1)) first fit fat k).fat = y3 at e6 s2
                        have d1 : decide (y2 < x2) = false := by rw [decide_eq_false_iff_not]; omega
                        have d2 : decide (y3 < x3) = false := by rw [decide_eq_false_iff_not]; omega
                        go_wp2_with fail
                        refine wp_region_ext (W := X2.1) ⟨X2.1, Below.refl _ _⟩ (by kernel_rfl) (by kernel_rfl) ?_
                        repeat go_big_quiet_step (fail)
                        refine wpQuiet_nil ?_
                        rintro _ ⟨Y, rfl⟩
                        go_wp2_with fail
                        go_roundw
                        case rel => exact ⟨k + 1, by go_num, by omega, ⟨Y.1, below_step X2.2 Y.2⟩, rfl⟩
                        case measure => simp [intOf]; omega
                      · have t4 : decide ((k : Int) < (n : Int)) = false := by rw [decide_eq_false_iff_not]; omega
                        have t4' : decide (k < n) = false := by simpa using hlt
                        clear hlt hk
                        go_wp2_with fail
                        refine (DT.out _).mono ?_
                        rintro e w5 ⟨rfl, hb5⟩
                        obtain ⟨k0, f0, k1, k2, k3⟩ := HFIN.out w5 (HKU.out.trans (Kept.of_below (below_step X2.2 hb5)))
                        have HE := Lib.hid (And.intro k1 (And.intro k2 k3))
                        clear hb5 k1 k2 k3
                        go_wp2_with fail
                        refine ⟨by simp, .inl ⟨_, _, rfl, run_takeDeferred HE.out.1, ?_⟩⟩
                        exact ⟨_, by simp [results, Tryz.results3, go_sem, HE.out.2.1], rfl, HE.out.2.2⟩
          · intro x c kl yd yp wn cnt1 hkey hlk hRy hat hrg1 hlt hg1 hs1 hen
            obtain ⟨x', ex, rfl, hwx⟩ := Maps.keyOf_int_inv Tryz.underlying3 hkey
            cases ex
            have hy : yd = .lit (.int .i64 c) := intR_lit hRy
            have hat0 := HD.out.2.1 x hwx
            rw [hat _, hy] at hat0
            injection hat0 with hat0
            injection hat0 with _ hat0
            obtain ⟨hx0, hx1⟩ := HD.out.2.2 x (Maps.has_true_of_atKey hat)
            obtain ⟨i, hi⟩ : ∃ i : Nat, x = first + i := ⟨(x - first).toNat, by omega⟩
            subst hi
            have hin : i < n := by omega
            obtain ⟨X1, rfl⟩ : ∃ Z : Ext U, wn = Z.1 := ⟨⟨wn, X.2.grown hg1 X.2.size (fun j hj => by injection hj with hj; rw [← hj, ← HRR.out]; exact HV.out.2.1.size)⟩, rfl⟩
            have hk1 : Kept (fun b => b = r) X.1 X1.1 := Kept.of_grown hg1 (fun g e _ => by injection e with e; exact e.symm)
            have hqr : q < r := by rw [← HQ.out, ← HRR.out, HV.out.2.2]; omega
            have hnb1 := HNB.out.1.kept hk1 (by omega)
            have hrow1 := HNB.out.2
            have c0 := hnb1.cell (hrow1.at_ i hin)
            have f0 := hnb1.free i
            generalize (if left (.int .i64 (first + i)) = true then 0 else f (first + i)) = old at c0
            have hsub : first + (i : Int) - first = i := by omega
            have hwi : IntKind.i64.wrap (i : Int) = i := wrap_in (by omega) (by omega)
            have t1 : decide ((i : Int) < (n : Int)) = true := by rw [decide_eq_true_eq]; omega
            have t1' : decide (i < n) = true := by rw [decide_eq_true_eq]; omega
            have t0 : decide ((0 : Int) ≤ (i : Int)) = true := by rw [decide_eq_true_eq]; omega
            obtain ⟨W3, hW3⟩ : ∃ z, X1.1.setCell ⟨q, i, none⟩ (.int .i64 c) = z := ⟨_, rfl⟩
            have hk3 : Kept (fun b => b = q) X1.1 W3 := by rw [← hW3]; exact keep_set rfl
            have hnb3 := hnb1.set i c
            rw [hW3] at hnb3
            have hrow3 := hrow1.step hin
            rw [← hat0] at hrow3
            have hrg3 := hrg1.kept (row := some q) (w' := W3) ⟨hk3.os, hk3.tape, hk3.output, hk3.size, fun i hi hn => hk3.block i hi (fun e => hn (by rw [e]))⟩ (fun e => by injection e with e; have := HL1.out.lt; have := HUW.out.size; have := HQ.out; omega) (fun e => by injection e with e; omega)
            have hm3 : W3.rangeLeft B3 r < X.1.rangeLeft B3 r := by
              rw [hrg3.left_eq, HRG.out.left_eq]
              exact hlt
            have HE := Lib.hid (And.intro hrg3 (And.intro hnb3 (And.intro hrow3 (And.intro (show Below U.heap.size U W3 from Kept.below X1.2 hk3 X1.2.size (fun k hk e => by have := HQ.out; omega)) hm3))))
            clear hrg3 hnb3 hrow3 hk3 hm3 hkey hlk hRy hat hrg1 hlt hg1 hs1 hwx hy hat0 hx0 hx1 hk1 hqr hnb1 hrow1 HRG HNB
            go_wp2_with fail
            go_roundw
            case rel => exact ⟨_, cnt1, l.set i c, Lib.hid HE.out.1, Lib.hid ⟨HE.out.2.1, HE.out.2.2.1⟩, ⟨W3, HE.out.2.2.2.1⟩, rfl⟩
            case measure => exact HE.out.2.2.2.2
end Go.Proofs.YtdfgpfdnjbildaaGreatDoor

/- A list of days that came in, and one day: how they read. -/
namespace Go.Proofs.YtdfgpfdnjbildaaGreatDoor
open Go.ChangeShapes Go.WideShapes Go.ChangeAt Go.RowKit Go.Deep

theorem laidOut : laidOutB Tryz.prog = true := by kernel_rfl
theorem readDays : Tryz.prog.readableRec 22 = true := by kernel_rfl
theorem rowDays : 22 < Tryz.prog.types.size := of_decide_eq_true (by kernel_rfl)
theorem readDay : Tryz.prog.readableRec 24 = true := by kernel_rfl
theorem rowDay : 24 < Tryz.prog.types.size := of_decide_eq_true (by kernel_rfl)
def intV : Value → Int
  | .int _ n => n
  | _ => 0
section
variable {H : Type} {enc : TypeId × Value → H} {P : Program} {w : World} {base : Nat}
theorem field_int {V : List Value} {j : Nat} {t : TypeId} (ht : P.underlying t = some (.int .i64)) (h : ∃ u n y, V[j]? = some u ∧ DataW.trod enc P w base (fun _ => true) true n t [u] = some y) :
    V[j]? = some (.int .i64 (intV (V.getD j (.bool false)))) := by
  obtain ⟨u, n, y, hu, hd⟩ := h
  obtain ⟨s, e, _, hs⟩ := DataW.trod_int ht hd
  simp only [List.cons.injEq, and_true] at e
  subst e
  rw [List.getD_eq_getElem?_getD, hu]
  rfl
end
theorem list2 {V : List Value} {a b : Value} (hl : V.length = 2) (h0 : V[0]? = some a) (h1 : V[1]? = some b) : V = [a, b] := by
  match V, hl with
  | [x, y], _ => simp at h0 h1; rw [h0, h1]
theorem slice_one {P : Program} {W : World} {r : Reach} {b0 : Nat} {t e : TypeId} {v : Value} (hu : P.underlying t = some (.slice e)) (hv : Value.okWide P W r b0 t v) : v.cells.toList = [v] := by
  obtain ⟨a, l, c, rfl⟩ := okWide_slice hu hv
  rfl
/-- cells as a day -/
def dayOf (V : List Value) : Int × Int := (intV (V.getD 0 (.bool false)), intV (V.getD 1 (.bool false)))
theorem range_map_get {α : Type} (f : Nat → α) {n i : Nat} {x : α} (h : ((List.range n).map f)[i]? = some x) : i < n ∧ x = f i := by
  rw [List.getElem?_map] at h
  cases hr : (List.range n)[i]? with
  | none => rw [hr] at h; cases h
  | some y =>
    rw [hr] at h
    obtain ⟨h1, h2⟩ := List.getElem?_eq_some_iff.1 hr
    simp only [List.length_range] at h1
    simp only [List.getElem_range] at h2
    subst h2
    simp only [Option.map_some, Option.some.injEq] at h
    exact ⟨h1, h.symm⟩
set_option maxRecDepth 100000 in
theorem open_days {H : Type} {enc : TypeId × Value → H} {W : World} {r : Reach} {b0 base : Nat} {v : Value} {d : DataW H} {p : List MemPlace}
    (hv : Value.okWide Tryz.prog W r b0 22 v) (h : DataW.Trod enc Tryz.prog W base (fun _ => true) true 22 v d p) :
    ∃ (l : List (Int × Int)) (a : Option Addr) (c : Nat), v = .slice a l.length c ∧ Rw dyC 2 W a l ∧ (l.length = 0 ∨ ∃ elems spare, d = .slice elems spare ∧ elems.length = l.length) := by
  obtain ⟨fuel, hf⟩ := h
  rw [slice_one Tryz.underlying22 hv] at hf
  obtain ⟨a0, n0, c0, V0, rfl, l0, m0, R0, F0⟩ := open_rowK Tryz.underlying22 Tryz.underlying24 (by kernel_rfl) (by decide) (hone_of (by kernel_rfl)) hf
  have I := Tryz.underlying3
  have F : ∀ i, i < n0 → V0 i = dyC (dayOf (V0 i)) := fun i hi => list2 (F0 i hi).1 (field_int I ((F0 i hi).2 0 _ rfl)) (field_int I ((F0 i hi).2 1 _ rfl))
  refine ⟨(List.range n0).map fun i => dayOf (V0 i), a0, c0, by rw [List.length_map, List.length_range], ⟨fun hl => ?_⟩, ?_⟩
  · rw [List.length_map, List.length_range] at hl
    obtain ⟨b, off, e, hb, hc⟩ := R0.here hl
    refine ⟨b, off, e, hb, fun i x hx j u hu => ?_⟩
    obtain ⟨hi, rfl⟩ := range_map_get _ hx
    have hj : j < 2 := (List.getElem?_eq_some_iff.1 hu).1
    rw [← F i hi] at hu
    rw [← hu]
    exact hc i hi j hj
  · rw [List.length_map, List.length_range]
    rcases open_slice Tryz.underlying22 hf with ⟨hc, _⟩ | ⟨a, len, cap, m, n, D, Pl, hc, _, _, _, _, hx, _⟩
    · injection hc with hc _
      injection hc with _ hc _
      exact Or.inl hc
    · injection hc with hc _
      injection hc with _ hc _
      refine Or.inr ⟨(List.range len).map D, (List.range (m - len)).map fun j => D (len + j), ?_, ?_⟩
      · exact congrArg Prod.fst hx
      · show _ = n0
        rw [hc]
        simp
set_option maxRecDepth 100000 in
theorem open_day {H : Type} {enc : TypeId × Value → H} {W : World} {r : Reach} {b0 base : Nat} {v : Value} {d : DataW H} {p : List MemPlace}
    (hv : Value.okWide Tryz.prog W r b0 24 v) (h : DataW.Trod enc Tryz.prog W base (fun _ => true) true 24 v d p) :
    ∃ s t : Int, v = .agg #[.int .i64 s, .int .i64 t] := by
  obtain ⟨v0, v1, y0, y1, m, rfl, _, _, h0, h1⟩ := Go.Joins.open_agg2 Tryz.underlying24 (by kernel_rfl) (by kernel_rfl) hv h
  obtain ⟨s, e, _, _⟩ := DataW.trod_int Tryz.underlying3 h0
  obtain ⟨x, e1, _, _⟩ := DataW.trod_int Tryz.underlying3 h1
  simp only [List.cons.injEq, and_true] at e e1
  exact ⟨s, x, by rw [e, e1]⟩
end Go.Proofs.YtdfgpfdnjbildaaGreatDoor
