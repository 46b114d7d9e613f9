/- Several texts of this claim in one. -/
import Derived.Test.YtjnfccphodjfiaaGreatMa9
import Derived.Test.YtjnfccphodjfiaaGreatMa6
import Derived.Test.YtjnfccphodjfiaaGreatMa3
import Derived.Test.YtjnfccphodjfiaaGreatMa2
import Derived.Test.YtjnfccphodjfiaaGreatRows
import Derived.ProofKit
import Derived.OpenShut
import Derived.Lib.SmallJoins
import Derived.Carry
import Derived.ChangeMaps5
/- A text of this claim. -/
namespace Go.Proofs.YtjnfccphodjfiaaGreat
open Go.RowKit Go.BigFrame
open Tr (inR Ed)
theorem rdone_any (x : Ed) (A : Acv) (a b c : Option Addr) (ca cb cc : Nat) (w : World) (hI : ActIn w A a b c) (oA : AcOk A) (hs : x.s.size ≤ maxLen) (hk : chkE x = 0) :
 Calls Tryz.prog 36 #[actV A a b c ca cb cc, edV x] w fun e w' => DoR A x w.heap.size w e w' := by
 have ht := hI.text
 obtain ⟨k, n, f, t, s⟩ := x
 rcases kind_ways _ hk with h | h | h | h | h | h | h | h | h | h | h | h
 · obtain rfl : k = 1 := h
   exact done_small 1 n f t s A a b c ca cb cc w hI oA (by decide) (by decide) (by decide) (fun a b c ca cb cc base w ho hb => sm_1 n f t s A a b c ca cb cc base w ho hb ht oA hs hk)
 · obtain rfl : k = 2 := h
   exact done_small 2 n f t s A a b c ca cb cc w hI oA (by decide) (by decide) (by decide) (fun a b c ca cb cc base w ho hb => sm_2 n f t s A a b c ca cb cc base w ho hb ht oA hs hk)
 · obtain rfl : k = 3 := h
   exact done_small 3 n f t s A a b c ca cb cc w hI oA (by decide) (by decide) (by decide) (fun a b c ca cb cc base w ho hb => sm_3 n f t s A a b c ca cb cc base w ho hb ht oA hs hk)
 · obtain rfl : k = 4 := h
   exact done_small 4 n f t s A a b c ca cb cc w hI oA (by decide) (by decide) (by decide) (fun a b c ca cb cc base w ho hb => sm_4 n f t s A a b c ca cb cc base w ho hb ht oA hs hk)
 · obtain rfl : k = 5 := h
   exact done_small 5 n f t s A a b c ca cb cc w hI oA (by decide) (by decide) (by decide) (fun a b c ca cb cc base w ho hb => sm_5 n f t s A a b c ca cb cc base w ho hb ht oA hs hk)
 · obtain rfl : k = 6 := h
   exact done_small 6 n f t s A a b c ca cb cc w hI oA (by decide) (by decide) (by decide) (fun a b c ca cb cc base w ho hb => sm_6 n f t s A a b c ca cb cc base w ho hb ht oA hs hk)
 · obtain rfl : k = 7 := h
   have hr := chk_rng (lo := 1) (hi := 3) (show ¬ ((7 : Int) < 1 ∨ 12 < (7 : Int)) by decide) rfl hk
   simp only at hr
   have h3 : n = 1 ∨ n = 2 ∨ n = 3 := by omega
   rcases h3 with rfl | rfl | rfl
   · exact done_small 7 1 f t s A a b c ca cb cc w hI oA (by decide) (by decide) (by decide) (fun a b c ca cb cc base w ho hb => sm_7_1 f t s A a b c ca cb cc base w ho hb ht oA hs hk)
   · exact done_small 7 2 f t s A a b c ca cb cc w hI oA (by decide) (by decide) (by decide) (fun a b c ca cb cc base w ho hb => sm_7_2 f t s A a b c ca cb cc base w ho hb ht oA hs hk)
   · exact done_small 7 3 f t s A a b c ca cb cc w hI oA (by decide) (by decide) (by decide) (fun a b c ca cb cc base w ho hb => sm_7_3 f t s A a b c ca cb cc base w ho hb ht oA hs hk)
 · obtain rfl : k = 8 := h
   exact done_8 n f t s A a b c ca cb cc w hI oA
 · obtain rfl : k = 9 := h
   have hr := chk_rng (lo := 0) (hi := 50) (show ¬ ((9 : Int) < 1 ∨ 12 < (9 : Int)) by decide) rfl hk
   exact done_9 n f t s A a b c ca cb cc w hI oA hr
 · obtain rfl : k = 10 := h
   have hr := chk_rng (lo := 0) (hi := 1000000) (show ¬ ((10 : Int) < 1 ∨ 12 < (10 : Int)) by decide) rfl hk
   exact done_10 n f t s A a b c ca cb cc w hI oA hr
 · obtain rfl : k = 11 := h
   exact done_small 11 n f t s A a b c ca cb cc w hI oA (by decide) (by decide) (by decide) (fun a b c ca cb cc base w ho hb => sm_11 n f t s A a b c ca cb cc base w ho hb ht oA hs hk)
 · obtain rfl : k = 12 := h
   exact done_small 12 n f t s A a b c ca cb cc w hI oA (by decide) (by decide) (by decide) (fun a b c ca cb cc base w ho hb => sm_12 n f t s A a b c ca cb cc base w ho hb ht oA hs hk)
set_option maxHeartbeats 8000000 in
set_option maxRecDepth 100000 in
theorem rapply_f (x : Ed) (A : Acv) (a b c : Option Addr) (ca cb cc : Nat) (w : World) (hI : ActIn w A a b c) (hs : x.s.size ≤ maxLen) :
 Calls Tryz.prog 8 #[actV A a b c ca cb cc, edV x] w fun e w' => ActResF (apZ A x) (apE A x) w e w' := by
 have HBAD := Lib.hid (fun h : apA A x ≠ 0 => apE_bad h)
 have HOKE := Lib.hid (fun h : apA A x = 0 => apE_ok h)
 have HAP := Lib.hid (show apA A x = if chkA A ≠ 0 then chkA A else chkE x from rfl)
 have HDO := Lib.hid (fun (h1 : chkA A = 0) (h2 : chkE x = 0) (X : World) (hX : ActIn X A a b c) => rdone_any x A a b c ca cb cc X hX (chkA_zero.1 h1) hs h2)
 have HRC := Lib.hid (fun X => rcheck_any x X hs)
 have HZD := Lib.hid (show apZ A x = if apE A x = 0 then appZ A x else Az from rfl)
 obtain ⟨Zr, hZr⟩ : ∃ z, apZ A x = z := ⟨_, rfl⟩
 obtain ⟨er, her⟩ : ∃ z, apE A x = z := ⟨_, rfl⟩
 obtain ⟨eP, heP⟩ : ∃ z, appE A x = z := ⟨_, rfl⟩
 obtain ⟨Zp, hZp⟩ : ∃ z, appZ A x = z := ⟨_, rfl⟩
 obtain ⟨eB, heB⟩ : ∃ z, chkE x = z := ⟨_, rfl⟩
 obtain ⟨eA, heA⟩ : ∃ z, chkA A = z := ⟨_, rfl⟩
 obtain ⟨eI, heI⟩ : ∃ z, apA A x = z := ⟨_, rfl⟩
 unfold DoR at HDO
 unfold RChk at HRC
 rw [heP, hZp, heA, heB] at HDO
 rw [heB] at HRC
 rw [heI, her, hZr] at HBAD
 rw [heI, her, heP, hZp] at HOKE
 rw [heI, heA, heB] at HAP
 rw [hZr, her, hZp] at HZD
 rw [hZr, her]
 clear hZr her heP hZp heB heI
 obtain ⟨k, n, f, t, s⟩ := x
 obtain ⟨V0, hV0, hb0, hs0, ha0⟩ := alloc_ac w A.name A.sport A.start (.slice a A.sm.length ca) (.slice b A.lp.length cb) (.slice c A.tg.length cc)
 obtain ⟨V1, hV1, hb1, hs1, hl1⟩ := alloc_cells V0 #[.int .i64 k, .int .i64 n, .int .i64 f, .int .i64 t, .string s] 28
 obtain ⟨V2, hV2, hb2, hs2, ha2⟩ := alloc_ac V1 ⟨#[]⟩ 0 0 (.slice none 0 0) (.slice none 0 0) (.slice none 0 0)
 have hs11 : V1.heap.size = w.heap.size + 2 := by omega
 rw [hs0] at hl1
 rw [hs11] at ha2
 have hA0 := (ha0.below hb1).below hb2
 have HB := Lib.hid (below_step (below_step hb0 hb1) hb2)
 have HSZ := Lib.hid (show V2.heap.size = w.heap.size + 3 from by omega)
 have HIA := Lib.hid (hI.below HB.out)
 have HA0 := Lib.hid hA0
 have HA2 := Lib.hid ha2
 have x0 := below_cell hb2 (hl1 0 _ rfl)
 have x1 := below_cell hb2 (hl1 1 _ rfl)
 have x2 := below_cell hb2 (hl1 2 _ rfl)
 have x3 := below_cell hb2 (hl1 3 _ rfl)
 have x4 := below_cell hb2 (hl1 4 _ rfl)
 obtain ⟨z0, z1, z2, z3, z4, z5⟩ := hA0.cell
 have fr := hA0.free
 have DC := Lib.hid (show Calls Tryz.prog 35 #[.agg #[.string A.name, .int .i64 A.sport, .int .i64 A.start, .slice a A.sm.length ca, .slice b A.lp.length cb, .slice c A.tg.length cc]] V2 fun e w'' => e = .returned (.int .i64 eA) ∧ Below V2.heap.size V2 w'' from by
  have h := rcheck2_any A a b c ca cb cc V2 HIA.out
  unfold actV at h
  rw [heA] at h
  exact h)
 clear hI hs hb0 hb1 hb2 ha0 ha2 hl1 hA0 hs1 hs2 heA
 unfold actV at HDO ⊢
 unfold edV at HDO HRC ⊢
 go_enter Tryz.func8, Tryz.ntmps8
 go_upto_region 1 with (fail)
 clear hV0 hV1 hV2 hs0 hs11
 go_wp2_with fail
 refine (DC.out).mono ?_
 rintro e w3 ⟨rfl, hb3⟩
 have HB3 := Lib.hid hb3
 have x0' := below_cell hb3 x0
 have x1' := below_cell hb3 x1
 have x2' := below_cell hb3 x2
 have x3' := below_cell hb3 x3
 have x4' := below_cell hb3 x4
 obtain ⟨z0', z1', z2', z3', z4', z5'⟩ := (HA0.out.below hb3).cell
 clear z0 z1 z2 z3 z4 z5 x0 x1 x2 x3 x4 fr hb3 DC
 by_cases hA : eA = 0
 case neg =>
  have u1 : (eA != 0) = true := by rw [bne_iff_ne]; exact hA
  have HE := Lib.hid (show er = eA ∧ Zr = Az from by
   have h1 := HAP.out
   rw [if_pos hA] at h1
   have h2 := HBAD.out (by rw [h1]; exact hA)
   exact ⟨h2.1.trans h1, h2.2⟩)
  clear hA
  have hR := HA2.out.below HB3.out
  obtain ⟨r0, r1, r2, r3, r4, r5⟩ := hR.cell
  have fr2 := hR.free
  obtain ⟨WF, hWF, haF, hkF⟩ := hR.store ⟨#[]⟩ 0 0 (.slice none 0 0) (.slice none 0 0) (.slice none 0 0)
  have HAF := Lib.hid haF
  have HKF := Lib.hid (hkF (fun q => q = w.heap.size + 2) rfl)
  have HBF := Lib.hid (show Below w.heap.size w WF from by
   have h1 := below_step HB.out HB3.out
   exact Kept.below h1 HKF.out h1.size (fun k hk e => by omega))
  clear haF hkF hR
  go_wp2_with fail
  have q := HAF.out.cell
  exact bodyPost_ret (v := .tuple #[ac0, .int .i64 eA]) (by simp [results, Tryz.results8, go_sem, q, ac0]) rfl (by rw [HE.out.1, HE.out.2]; exact ActResF.bad HBF.out)
 subst hA
 have DR := Lib.hid (HRC.out w3)
 go_wp2_with fail
 refine (DR.out).mono ?_
 rintro e w4 ⟨rfl, hb4⟩
 have HB4 := Lib.hid (below_step HB3.out hb4)
 have v0 := below_cell hb4 x0'
 have v1 := below_cell hb4 x1'
 have v2 := below_cell hb4 x2'
 have v3 := below_cell hb4 x3'
 have v4 := below_cell hb4 x4'
 obtain ⟨z0, z1, z2, z3, z4, z5⟩ := (HA0.out.below HB4.out).cell
 clear z0' z1' z2' z3' z4' z5' x0' x1' x2' x3' x4' hb4 DR HRC
 by_cases hB : eB = 0
 case neg =>
  have u1 : (eB != 0) = true := by rw [bne_iff_ne]; exact hB
  have HE := Lib.hid (show er = eB ∧ Zr = Az from by
   have h1 := HAP.out
   rw [if_neg (by simp)] at h1
   have h2 := HBAD.out (by rw [h1]; exact hB)
   exact ⟨h2.1.trans h1, h2.2⟩)
  clear hB
  have hR := HA2.out.below HB4.out
  obtain ⟨r0, r1, r2, r3, r4, r5⟩ := hR.cell
  have fr2 := hR.free
  obtain ⟨WF, hWF, haF, hkF⟩ := hR.store ⟨#[]⟩ 0 0 (.slice none 0 0) (.slice none 0 0) (.slice none 0 0)
  have HAF := Lib.hid haF
  have HKF := Lib.hid (hkF (fun q => q = w.heap.size + 2) rfl)
  have HBF := Lib.hid (show Below w.heap.size w WF from by
   have h1 := below_step HB.out HB4.out
   exact Kept.below h1 HKF.out h1.size (fun k hk e => by omega))
  clear haF hkF hR
  go_wp2_with fail
  have q := HAF.out.cell
  exact bodyPost_ret (v := .tuple #[ac0, .int .i64 eB]) (by simp [results, Tryz.results8, go_sem, q, ac0]) rfl (by rw [HE.out.1, HE.out.2]; exact ActResF.bad HBF.out)
 subst hB
 have hI0 : eI = 0 := by have h1 := HAP.out; rw [if_neg (by simp)] at h1; exact h1
 have HEE := Lib.hid (HOKE.out hI0)
 have DD := Lib.hid (HDO.out (by first | rfl | trivial) (by first | rfl | trivial) w4 (HIA.out.below HB4.out))
 clear HDO HOKE HBAD HAP hI0
 go_wp2_with fail
 refine (DD.out).mono ?_
 rintro e w6 ⟨hb6, Z, ma, mb, mc, mca, mcb, mcc, rfl, hgd⟩
 have HB6 := Lib.hid (below_step HB4.out hb6)
 have HGD := Lib.hid hgd
 have HW4 := Lib.hid HB4.out.size
 obtain ⟨W7, hW7, hb7, hs7, ha7⟩ := alloc_ac w6 Z.name Z.sport Z.start (.slice ma Z.sm.length mca) (.slice mb Z.lp.length mcb) (.slice mc Z.tg.length mcc)
 obtain ⟨T, hT⟩ : ∃ T, w6.heap.size = T := ⟨_, rfl⟩
 rw [hT] at ha7
 have HA7 := Lib.hid ha7
 have HB7 := Lib.hid (below_step HB6.out hb7)
 have hT2 : w6.heap.size = T := hT
 by_cases hP : eP = 0
 case neg =>
  have u1 : (eP == 0) = false := by rw [beq_eq_false_iff_ne]; exact hP
  have u2 : (eP != 0) = true := by rw [bne_iff_ne]; exact hP
  have HE := Lib.hid (show er = eP ∧ Zr = Az from by
   have h1 := HEE.out
   rw [if_pos hP] at h1
   exact ⟨h1, by rw [HZD.out, h1, if_neg hP]⟩)
  clear hP hb6 hgd hb7 hs7 ha7 hT hT2 DD
  go_upto_region 8 with (fail)
  clear hW7 z0 z1 z2 z3 z4 z5 v0 v1 v2 v3 v4
  have hR := HA2.out.below HB7.out
  obtain ⟨r0, r1, r2, r3, r4, r5⟩ := hR.cell
  have fr2 := hR.free
  obtain ⟨WF, hWF, haF, hkF⟩ := hR.store ⟨#[]⟩ 0 0 (.slice none 0 0) (.slice none 0 0) (.slice none 0 0)
  have HAF := Lib.hid haF
  have HKF := Lib.hid (hkF (fun q => q = w.heap.size + 2) rfl)
  have HBF := Lib.hid (show Below w.heap.size w WF from by
   have h1 := below_step HB.out HB7.out
   exact Kept.below h1 HKF.out h1.size (fun k hk e => by omega))
  clear haF hkF hR
  go_wp2_with fail
  have q := HAF.out.cell
  exact bodyPost_ret (v := .tuple #[ac0, .int .i64 eP]) (by simp [results, Tryz.results8, go_sem, q, ac0]) rfl (by rw [HE.out.1, HE.out.2]; exact ActResF.bad HBF.out)
 obtain ⟨eZ, e2, e3⟩ := hgd hP
 subst hP
 subst eZ
 have HI7 := Lib.hid (e2.below hb7)
 have HF7 := Lib.hid e3
 obtain ⟨eC, heC⟩ : ∃ z, chkA Z = z := ⟨_, rfl⟩
 have DK := Lib.hid (show Calls Tryz.prog 35 #[.agg #[.string Z.name, .int .i64 Z.sport, .int .i64 Z.start, .slice ma Z.sm.length mca, .slice mb Z.lp.length mcb, .slice mc Z.tg.length mcc]] W7 fun e w'' => e = .returned (.int .i64 eC) ∧ Below W7.heap.size W7 w'' from by
  have h := rcheck2_any Z ma mb mc mca mcb mcc W7 HI7.out
  unfold actV at h
  rw [heC] at h
  exact h)
 have HE := Lib.hid (show er = eC ∧ (eC = 0 → Zr = Z) ∧ (eC ≠ 0 → Zr = Az) from by
  have h1 := HEE.out
  rw [if_neg (by simp), heC] at h1
  exact ⟨h1, fun h => by rw [HZD.out, h1, if_pos h], fun h => by rw [HZD.out, h1, if_neg h]⟩)
 obtain ⟨y0, y1, y2, y3, y4, y5⟩ := HA7.out.cell
 clear hb6 hgd hb7 hs7 ha7 hT e2 e3 heC DD HGD HEE HZD
 go_upto_region 8 with (fail)
 clear hW7 z0 z1 z2 z3 z4 z5 v0 v1 v2 v3 v4 hT2
 go_wp2_with fail
 refine (DK.out).mono ?_
 rintro e w8 ⟨rfl, hb8⟩
 have HB8 := Lib.hid (below_step HB7.out hb8)
 have HI8 := Lib.hid (HI7.out.below hb8)
 obtain ⟨p0, p1, p2, p3, p4, p5⟩ := (HA7.out.below hb8).cell
 clear y0 y1 y2 y3 y4 y5 hb8 DK
 by_cases hC : eC = 0
 case neg =>
  have u2 : (eC != 0) = true := by rw [bne_iff_ne]; exact hC
  have HE2 := Lib.hid (HE.out.2.2 hC)
  clear hC
  have hR := HA2.out.below HB8.out
  obtain ⟨r0, r1, r2, r3, r4, r5⟩ := hR.cell
  have fr2 := hR.free
  obtain ⟨WF, hWF, haF, hkF⟩ := hR.store ⟨#[]⟩ 0 0 (.slice none 0 0) (.slice none 0 0) (.slice none 0 0)
  have HAF := Lib.hid haF
  have HKF := Lib.hid (hkF (fun q => q = w.heap.size + 2) rfl)
  have HBF := Lib.hid (show Below w.heap.size w WF from by
   have h1 := below_step HB.out HB8.out
   exact Kept.below h1 HKF.out h1.size (fun k hk e => by omega))
  clear haF hkF hR
  go_wp2_with fail
  have q := HAF.out.cell
  exact bodyPost_ret (v := .tuple #[ac0, .int .i64 eC]) (by simp [results, Tryz.results8, go_sem, q, ac0]) rfl (by rw [HE.out.1, HE2.out]; exact ActResF.bad HBF.out)
 have HE2 := Lib.hid (show er = 0 ∧ Zr = Z from ⟨HE.out.1.trans hC, HE.out.2.1 hC⟩)
 clear HE
 subst hC
 have hR := HA2.out.below HB8.out
 obtain ⟨r0, r1, r2, r3, r4, r5⟩ := hR.cell
 have fr2 := hR.free
 obtain ⟨WF, hWF, haF, hkF⟩ := hR.store Z.name Z.sport Z.start (.slice ma Z.sm.length mca) (.slice mb Z.lp.length mcb) (.slice mc Z.tg.length mcc)
 have HAF := Lib.hid haF
 have HKF := Lib.hid (hkF (fun q => q = w.heap.size + 2) rfl)
 have HBF := Lib.hid (show Below w.heap.size w WF from by
  have h1 := below_step HB.out HB8.out
  exact Kept.below h1 HKF.out h1.size (fun k hk e => by omega))
 have HIF := Lib.hid (show ActIn WF Z ma mb mc from HI8.out.kept HKF.out (fun g hg e => by have := HF7.out g hg; have := HW4.out; have := HSZ.out; omega))
 clear haF hkF hR
 go_wp2_with fail
 have q := HAF.out.cell
 exact bodyPost_ret (v := .tuple #[.agg #[.string Z.name, .int .i64 Z.sport, .int .i64 Z.start, .slice ma Z.sm.length mca, .slice mb Z.lp.length mcb, .slice mc Z.tg.length mcc], .int .i64 0]) (by simp [results, Tryz.results8, go_sem, q]) rfl (by rw [HE2.out.1, HE2.out.2]; exact ⟨HBF.out, ma, mb, mc, mca, mcb, mcc, rfl, HIF.out, fun g hg => by have := HF7.out g hg; have := HB4.out.size; have := HSZ.out; omega⟩)
theorem rapply_any (x : Ed) (A : Acv) (a b c : Option Addr) (ca cb cc : Nat) (w : World) (hI : ActIn w A a b c) (hs : x.s.size ≤ maxLen) :
 Calls Tryz.prog 8 #[actV A a b c ca cb cc, edV x] w fun e w' => ActRes (apZ A x) (apE A x) w e w' :=
 (rapply_f x A a b c ca cb cc w hI hs).mono fun _ _ h => h.res
end Go.Proofs.YtjnfccphodjfiaaGreat

/- A text of this claim. -/
namespace Go.Proofs.YtjnfccphodjfiaaGreat
open Go.RowKit Go.BigFrame
open Tr (inR Ed)
def allR : Acv → List Ed → Nat → Acv × Int × Int
 | A, [], _ => (A, 0, 0)
 | A, x :: l, i => if apE A x = 0 then allR (apZ A x) l (i + 1) else (Az, (i : Int), apE A x)
def allQ (A : Acv) (l : List Ed) : Acv × Int × Int := if 200 < l.length then (Az, 0, 3) else if chkA A = 0 then allR A l 0 else (Az, 0, chkA A)
theorem allR_step {A : Acv} {l : List Ed} {k : Nat} {x : Ed} (hx : l[k]? = some x) : allR A (l.drop k) k = if apE A x = 0 then allR (apZ A x) (l.drop (k + 1)) (k + 1) else (Az, (k : Int), apE A x) := by
 obtain ⟨h1, e1⟩ := List.getElem?_eq_some_iff.1 hx
 rw [List.drop_eq_getElem_cons h1, e1, allR]
theorem allR_end {A : Acv} {l : List Ed} {k : Nat} (h : l.length ≤ k) : allR A (l.drop k) k = (A, 0, 0) := by
 rw [List.drop_eq_nil_of_le h, allR]
def AllRes (q : Acv × Int × Int) (w : World) (e : Ending) (w' : World) : Prop :=
 Below w.heap.size w w' ∧ ∃ a b c ca cb cc, e = .returned (.tuple #[actV q.1 a b c ca cb cc, .int .i64 q.2.1, .int .i64 q.2.2]) ∧ ActIn w' q.1 a b c ∧ ∀ p, (a = some p ∨ b = some p ∨ c = some p) → w.heap.size ≤ p.block
theorem AllRes.bad {w : World} {i er : Int} {w' : World} (hb : Below w.heap.size w w') : AllRes (Az, i, er) w (.returned (.tuple #[ac0, .int .i64 i, .int .i64 er])) w' := ⟨hb, none, none, none, 0, 0, 0, by rw [actV_z], actIn_z w', fun q hq => by rcases hq with h | h | h <;> cases h⟩
theorem ERow.kept {O : Nat → Prop} {w w' : World} {a : Option Addr} {l : List Ed} (h : ERow w a l) (hk : Kept O w w') (ho : ∀ b, b < w.heap.size → ¬ O b) : ERow w' a l :=
 ⟨fun hl => by
  obtain ⟨b, off, e, hbl, hc⟩ := h.here hl
  exact ⟨b, off, e, Nat.lt_of_lt_of_le hbl hk.size, fun i x hx j v hv => hk.cell (ho b hbl) (hc i x hx j v hv)⟩⟩
theorem Own3.lt {w : World} {base : Nat} {A : Acv} {a b c : Option Addr} {ca cb cc : Nat} (h : Own3 w base A (.slice a A.sm.length ca) (.slice b A.lp.length cb) (.slice c A.tg.length cc)) :
 ∀ q, (a = some q ∨ b = some q ∨ c = some q) → q.block < w.heap.size := by
 obtain ⟨B1, B2, hB1, hB2, h1, _, h2, _, h3⟩ := h.ex
 intro q hq
 rcases hq with rfl | rfl | rfl
 · exact (h1.lt q.block rfl).2
 · exact (h2.lt q.block rfl).2
 · exact (h3.lt q.block rfl).2
theorem Below.of_kept {O : Nat → Prop} {w V X : World} (hb : Below w.heap.size w V) (hk : Kept O V X) (hO : ∀ k, k < w.heap.size → ¬ O k) : Below w.heap.size w X := Kept.below hb hk hb.size hO
set_option maxHeartbeats 8000000 in
set_option maxRecDepth 100000 in
theorem all_any (A : Acv) (a b c : Option Addr) (ca cb cc : Nat) (l : List Ed) (al : Option Addr) (cl : Nat) (w : World) (hA : ActIn w A a b c) (hr : ERow w al l) (hs : ∀ x, x ∈ l → x.s.size ≤ maxLen) :
 Calls Tryz.prog 13 #[actV A a b c ca cb cc, .slice al l.length cl] w fun e w' => AllRes (allQ A l) w e w' := by
 obtain ⟨n, hn⟩ : ∃ n, l.length = n := ⟨_, rfl⟩
 have HN := Lib.hid hn
 have HS := Lib.hid hs
 have HTX := Lib.hid hA.text
 have HR := Lib.hid hr
 obtain ⟨Q, hQ⟩ : ∃ Q, allQ A l = Q := ⟨_, rfl⟩
 obtain ⟨eA, heA⟩ : ∃ e, chkA A = e := ⟨_, rfl⟩
 have HEA := Lib.hid heA
 have HQ := Lib.hid (show Q = if 200 < n then (Az, 0, 3) else if eA = 0 then allR A l 0 else (Az, 0, eA) by rw [← hQ, ← hn, ← heA]; rfl)
 rw [hQ, hn]
 obtain ⟨V0, hV0, hb0, hs0, ha0⟩ := alloc_ac w A.name A.sport A.start (.slice a A.sm.length ca) (.slice b A.lp.length cb) (.slice c A.tg.length cc)
 obtain ⟨V1, hV1, hb1, hs1, ha1⟩ := alloc_ac V0 ⟨#[]⟩ 0 0 (.slice none 0 0) (.slice none 0 0) (.slice none 0 0)
 rw [hs0] at ha1
 have hA0 := ha0.below hb1
 have HB := Lib.hid (below_step hb0 hb1)
 have HSZ := Lib.hid (show V1.heap.size = w.heap.size + 2 from by omega)
 have HIA := Lib.hid (hA.below HB.out)
 have HA1 := Lib.hid ha1
 have DA := Lib.hid (show Calls Tryz.prog 32 #[.agg #[.string A.name, .int .i64 A.sport, .int .i64 A.start, .slice a A.sm.length ca, .slice b A.lp.length cb, .slice c A.tg.length cc]] V1 fun e w'' => e = .returned (.int .i64 eA) ∧ Below V1.heap.size V1 w'' from by
  have h := check_any A a b c ca cb cc V1 HIA.out
  unfold ChkG actV at h
  rw [heA] at h
  exact h)
 obtain ⟨z0, z1, z2, z3, z4, z5⟩ := hA0.cell
 clear hA hr hs hn hQ hb0 hb1 hs1 ha0 ha1 hA0 heA
 unfold actV
 by_cases hbig : 200 < n
 · have t1 : decide ((200 : Int) < (n : Int)) = true := by rw [decide_eq_true_eq]; omega
   have HQ1 := Lib.hid (HQ.out.trans (if_pos hbig))
   clear hbig HQ
   go_enter Tryz.func13, Tryz.ntmps13
   go_upto_region 1 with (fail)
   clear hV0 hV1 hs0
   have hR := HA1.out
   obtain ⟨r0, r1, r2, r3, r4, r5⟩ := hR.cell
   have fr := hR.free
   obtain ⟨WF, hWF, haF, hkF⟩ := hR.store ⟨#[]⟩ 0 0 (.slice none 0 0) (.slice none 0 0) (.slice none 0 0)
   have HAF := Lib.hid haF
   have HKF := Lib.hid (hkF (fun q => q = w.heap.size + 1) rfl)
   have HBF := Lib.hid (show Below w.heap.size w WF from Below.of_kept HB.out HKF.out (fun k hk e => by omega))
   clear haF hkF hR
   go_wp2_with fail
   have q := HAF.out.cell
   exact bodyPost_ret (v := .tuple #[ac0, .int .i64 0, .int .i64 3]) (by simp [results, Tryz.results13, go_sem, q, ac0]) rfl (by rw [HQ1.out]; exact AllRes.bad HBF.out)
 have t1 : decide ((200 : Int) < (n : Int)) = false := by rw [decide_eq_false_iff_not]; omega
 have HQ1 := Lib.hid (HQ.out.trans (if_neg hbig))
 have HNB := Lib.hid (show n ≤ 200 from by omega)
 clear hbig HQ
 go_enter Tryz.func13, Tryz.ntmps13
 go_upto_region 1 with (fail)
 clear hV0 hV1 hs0
 go_wp2_with fail
 refine (DA.out).mono ?_
 rintro e w3 ⟨rfl, hb3⟩
 have HB3 := Lib.hid hb3
 have HBW := Lib.hid (below_step HB.out hb3)
 have y0 := below_cell hb3 z0
 have y1 := below_cell hb3 z1
 have y2 := below_cell hb3 z2
 have y3 := below_cell hb3 z3
 have y4 := below_cell hb3 z4
 have y5 := below_cell hb3 z5
 clear z0 z1 z2 z3 z4 z5 hb3 DA
 by_cases hA : eA = 0
 case neg =>
  have u1 : (eA != 0) = true := by rw [bne_iff_ne]; exact hA
  have HQ2 := Lib.hid (HQ1.out.trans (if_neg hA))
  clear hA HQ1
  have hR := HA1.out.below HB3.out
  obtain ⟨r0, r1, r2, r3, r4, r5⟩ := hR.cell
  have fr := hR.free
  obtain ⟨WF, hWF, haF, hkF⟩ := hR.store ⟨#[]⟩ 0 0 (.slice none 0 0) (.slice none 0 0) (.slice none 0 0)
  have HAF := Lib.hid haF
  have HKF := Lib.hid (hkF (fun q => q = w.heap.size + 1) rfl)
  have HBF := Lib.hid (show Below w.heap.size w WF from Below.of_kept HBW.out HKF.out (fun k hk e => by omega))
  clear haF hkF hR
  go_wp2_with fail
  have q := HAF.out.cell
  exact bodyPost_ret (v := .tuple #[ac0, .int .i64 0, .int .i64 eA]) (by simp [results, Tryz.results13, go_sem, q, ac0]) rfl (by rw [HQ2.out]; exact AllRes.bad HBF.out)
 have HQ2 := Lib.hid (HQ1.out.trans (if_pos hA))
 clear HQ1
 subst hA
 have HOA := Lib.hid (chkA_zero.1 HEA.out)
 have DCL := Lib.hid (show Calls Tryz.prog 33 #[.agg #[.string A.name, .int .i64 A.sport, .int .i64 A.start, .slice a A.sm.length ca, .slice b A.lp.length cb, .slice c A.tg.length cc]] w3 fun e w'' => CloneRet A w3 e w'' from by
  have h := cloneA_any A a b c ca cb cc w3 (HIA.out.below HB3.out) (by have := HOA.out.nsm; omega) (by have := HOA.out.nlp; omega) (by have := HOA.out.ntg; omega)
  unfold actV at h
  exact h)
 go_wp2_with fail
 refine (DCL.out).mono ?_
 unfold CloneRet
 rintro e w4 ⟨⟨a1, b1, c1, ca1, cb1, cc1, rfl, ho4⟩, hb4⟩
 unfold actV
 obtain ⟨hI4, _, _, _, hq4⟩ := ho4.actIn HTX.out HOA.out
 have hR := (HA1.out.below HB3.out).below hb4
 obtain ⟨r0, r1, r2, r3, r4, r5⟩ := hR.cell
 have fr := hR.free
 obtain ⟨W5, hW5, ha5, hk5⟩ := hR.store A.name A.sport A.start (.slice a1 A.sm.length ca1) (.slice b1 A.lp.length cb1) (.slice c1 A.tg.length cc1)
 have HA5 := Lib.hid ha5
 have hk5' := hk5 (fun q => q = w.heap.size + 1) rfl
 have HK5 := Lib.hid (show Kept (fun q => q = w.heap.size + 1) V1 W5 from (Kept.of_below (below_step HB3.out hb4)).trans hk5')
 have HI5 := Lib.hid (show ActIn W5 A a1 b1 c1 ∧ ∀ q, (a1 = some q ∨ b1 = some q ∨ c1 = some q) → w.heap.size + 2 ≤ q.block from by
  have h2 := HSZ.out
  have h3 := HB3.out.size
  exact ⟨hI4.kept hk5' (fun q hq e => by have := hq4 q hq; omega), fun q hq => by have := hq4 q hq; omega⟩)
 have HRX := Lib.hid (fun X : ExtO (fun b => b = w.heap.size + 1) V1 => show ERow X.1 al l from HR.out.kept ((Kept.of_below HB.out).trans X.2) (fun b hb e => by omega))
 have HBX := Lib.hid (fun X : ExtO (fun b => b = w.heap.size + 1) V1 => show Below w.heap.size w X.1 from Below.of_kept HB.out X.2 (fun k hk e => by omega))
 clear hI4 hq4 ho4 hb4 hR ha5 hk5 hk5' DCL y0 y1 y2 y3 y4 y5
 go_wp2_with fail
 clear hW5 r0 r1 r2 r3 r4 r5 fr
 have hnb := HNB.out
 go_loopw [24] (fun iv wr => ∃ k : Nat, iv = .int .i64 k ∧ k ≤ n ∧ Hid (∃ B xa xb xc xca xcb xcc, AcB wr (w.heap.size + 1) B.name B.sport B.start (.slice xa B.sm.length xca) (.slice xb B.lp.length xcb) (.slice xc B.tg.length xcc) ∧ ActIn wr B xa xb xc ∧ (∀ q, (xa = some q ∨ xb = some q ∨ xc = some q) → w.heap.size + 2 ≤ q.block) ∧ Q = allR B (l.drop k) k) ∧ ∃ X : ExtO (fun b => b = w.heap.size + 1) V1, wr = X.1) (fun iv _ => n - (intOf iv).toNat)
 case atStart => exact ⟨0, rfl, by omega, Lib.hid ⟨A, a1, b1, c1, ca1, cb1, cc1, HA5.out, HI5.out.1, HI5.out.2, HQ2.out⟩, ⟨W5, HK5.out⟩, rfl⟩
 case round =>
  obtain ⟨k, rfl, hk, HST, X, rfl⟩ := hrel
  obtain ⟨B, xa, xb, xc, xca, xcb, xcc, hac, hin, hqs, heq⟩ := HST.out
  by_cases hlt : k < n
  · have t2 : decide ((k : Int) < (n : Int)) = true := by rw [decide_eq_true_eq]; omega
    have t2' : decide (k < n) = true := by simpa using hlt
    obtain ⟨x, hx⟩ : ∃ x, l[k]? = some x := ⟨_, List.getElem?_eq_getElem (by rw [HN.out]; exact hlt)⟩
    obtain ⟨bb, off, rfl, hbl, e0, e1, e2, e3, e4⟩ := (HRX.out X).at hx
    have hxs := HS.out x (List.mem_of_getElem? hx)
    have hst := heq.trans (allR_step hx)
    obtain ⟨V6, hV6, hb6, hs6, hl6⟩ := alloc_cells X.1 #[.int .i64 x.k, .int .i64 x.n, .int .i64 x.f, .int .i64 x.t, .string x.s] 28
    have u0 := hl6 0 _ rfl
    have u1 := hl6 1 _ rfl
    have u2 := hl6 2 _ rfl
    have u3 := hl6 3 _ rfl
    have u4 := hl6 4 _ rfl
    have HA6 := Lib.hid (hac.below hb6)
    have HI6 := Lib.hid (hin.below hb6)
    have HB6 := Lib.hid hb6
    obtain ⟨p0, p1, p2, p3, p4, p5⟩ := HA6.out.cell
    have DAP := Lib.hid (show Calls Tryz.prog 7 #[.agg #[.string B.name, .int .i64 B.sport, .int .i64 B.start, .slice xa B.sm.length xca, .slice xb B.lp.length xcb, .slice xc B.tg.length xcc], .agg #[.int .i64 x.k, .int .i64 x.n, .int .i64 x.f, .int .i64 x.t, .string x.s]] V6 fun e w' => ActResF (apZ B x) (apE B x) V6 e w' from by
     have h := apply_f x B xa xb xc xca xcb xcc V6 HI6.out hxs
     unfold actV edV at h
     exact h)
    obtain ⟨Z, hZ⟩ : ∃ z, apZ B x = z := ⟨_, rfl⟩
    obtain ⟨er, her⟩ : ∃ z, apE B x = z := ⟨_, rfl⟩
    rw [hZ, her] at DAP hst
    have HSTEP := Lib.hid hst
    have HS6 := Lib.hid (show V6.heap.size = X.1.heap.size + 1 from hs6)
    clear hx hxs hst hl6 hac hin hqs heq HST hb6 hs6 hZ her hbl
    go_upto_region 10 with (fail)
    clear hV6 e0 e1 e2 e3 e4
    go_wp2_with fail
    refine (DAP.out).mono ?_
    rintro e w7 ⟨hb7, ya, yb, yc, yca, ycb, ycc, rfl, hy7, hyq⟩
    unfold actV
    have hR := HA6.out.below hb7
    obtain ⟨r0, r1, r2, r3, r4, r5⟩ := hR.cell
    have fr := hR.free
    obtain ⟨W8, hW8, ha8, hk8⟩ := hR.store Z.name Z.sport Z.start (.slice ya Z.sm.length yca) (.slice yb Z.lp.length ycb) (.slice yc Z.tg.length ycc)
    have hk8' := hk8 (fun q => q = w.heap.size + 1) rfl
    obtain ⟨X8, rfl⟩ : ∃ Y : ExtO (fun b => b = w.heap.size + 1) V1, W8 = Y.1 := ⟨⟨W8, X.2.trans ((Kept.of_below (below_step HB6.out hb7)).trans hk8')⟩, rfl⟩
    have HA8 := Lib.hid ha8
    have HI8 := Lib.hid (show ActIn X8.1 Z ya yb yc ∧ ∀ q, (ya = some q ∨ yb = some q ∨ yc = some q) → w.heap.size + 2 ≤ q.block from by
     have h2 := HSZ.out
     have h3 := X.2.size
     have h4 := HS6.out
     exact ⟨hy7.kept hk8' (fun q hq e => by have := hyq q hq; omega), fun q hq => by have := hyq q hq; omega⟩)
    clear hR ha8 hk8 hk8' hb7 hy7 hyq DAP p0 p1 p2 p3 p4 p5
    go_upto_region 11 with (fail)
    clear hW8 r0 r1 r2 r3 r4 r5 fr u0 u1 u2 u3 u4
    by_cases h0 : er = 0
    · have HS2 := Lib.hid (HSTEP.out.trans (if_pos h0))
      subst h0
      clear HSTEP
      go_wp2_with fail
      go_roundw
      case rel => exact ⟨k + 1, by go_num, by omega, Lib.hid ⟨Z, ya, yb, yc, yca, ycb, ycc, HA8.out, HI8.out.1, HI8.out.2, HS2.out⟩, X8, rfl⟩
      case measure => simp [intOf]; omega
    · have HS2 := Lib.hid (HSTEP.out.trans (if_neg h0))
      have v1 : (er != 0) = true := by rw [bne_iff_ne]; exact h0
      have HB8 := Lib.hid (HBX.out X8)
      clear h0 HSTEP
      have hR := HA8.out
      obtain ⟨r0, r1, r2, r3, r4, r5⟩ := hR.cell
      have fr := hR.free
      obtain ⟨WF, hWF, haF, hkF⟩ := hR.store ⟨#[]⟩ 0 0 (.slice none 0 0) (.slice none 0 0) (.slice none 0 0)
      have HAF := Lib.hid haF
      have HKF := Lib.hid (hkF (fun q => q = w.heap.size + 1) rfl)
      have HBF := Lib.hid (show Below w.heap.size w WF from Below.of_kept HB8.out HKF.out (fun k hk e => by omega))
      clear haF hkF hR
      go_wp2_with fail
      have q := HAF.out.cell
      exact bodyPost_ret (v := .tuple #[ac0, .int .i64 k, .int .i64 er]) (by simp [results, Tryz.results13, go_sem, q, ac0]) rfl (by rw [HS2.out]; exact AllRes.bad HBF.out)
  · have t2 : decide ((k : Int) < (n : Int)) = false := by rw [decide_eq_false_iff_not]; omega
    have t2' : decide (k < n) = false := by simpa using hlt
    have HQ3 := Lib.hid (heq.trans (allR_end (by rw [HN.out]; omega)))
    have HB8 := Lib.hid (HBX.out X)
    obtain ⟨r0, r1, r2, r3, r4, r5⟩ := hac.cell
    have fr := hac.free
    obtain ⟨WF, hWF, haF, hkF⟩ := hac.store B.name B.sport B.start (.slice xa B.sm.length xca) (.slice xb B.lp.length xcb) (.slice xc B.tg.length xcc)
    have HAF := Lib.hid haF
    have hkF' := hkF (fun q => q = w.heap.size + 1) rfl
    have HBF := Lib.hid (show Below w.heap.size w WF from Below.of_kept HB8.out hkF' (fun k hk e => by omega))
    have HIF := Lib.hid (show ActIn WF B xa xb xc ∧ ∀ q, (xa = some q ∨ xb = some q ∨ xc = some q) → w.heap.size ≤ q.block from
     ⟨hin.kept hkF' (fun q hq e => by have := hqs q hq; omega), fun q hq => by have := hqs q hq; omega⟩)
    clear haF hkF hkF' hac hin hqs heq HST
    go_wp2_with fail
    have q := HAF.out.cell
    exact bodyPost_ret (v := .tuple #[.agg #[.string B.name, .int .i64 B.sport, .int .i64 B.start, .slice xa B.sm.length xca, .slice xb B.lp.length xcb, .slice xc B.tg.length xcc], .int .i64 0, .int .i64 0]) (by simp [results, Tryz.results13, go_sem, q]) rfl (by rw [HQ3.out]; exact ⟨HBF.out, xa, xb, xc, xca, xcb, xcc, rfl, HIF.out.1, HIF.out.2⟩)
set_option maxHeartbeats 8000000 in
set_option maxRecDepth 100000 in
theorem rall_any (A : Acv) (a b c : Option Addr) (ca cb cc : Nat) (l : List Ed) (al : Option Addr) (cl : Nat) (w : World) (hA : ActIn w A a b c) (hr : ERow w al l) (hs : ∀ x, x ∈ l → x.s.size ≤ maxLen) :
 Calls Tryz.prog 14 #[actV A a b c ca cb cc, .slice al l.length cl] w fun e w' => AllRes (allQ A l) w e w' := by
 obtain ⟨n, hn⟩ : ∃ n, l.length = n := ⟨_, rfl⟩
 have HN := Lib.hid hn
 have HS := Lib.hid hs
 have HTX := Lib.hid hA.text
 have HR := Lib.hid hr
 obtain ⟨Q, hQ⟩ : ∃ Q, allQ A l = Q := ⟨_, rfl⟩
 obtain ⟨eA, heA⟩ : ∃ e, chkA A = e := ⟨_, rfl⟩
 have HEA := Lib.hid heA
 have HQ := Lib.hid (show Q = if 200 < n then (Az, 0, 3) else if eA = 0 then allR A l 0 else (Az, 0, eA) by rw [← hQ, ← hn, ← heA]; rfl)
 rw [hQ, hn]
 obtain ⟨V0, hV0, hb0, hs0, ha0⟩ := alloc_ac w A.name A.sport A.start (.slice a A.sm.length ca) (.slice b A.lp.length cb) (.slice c A.tg.length cc)
 obtain ⟨V1, hV1, hb1, hs1, ha1⟩ := alloc_ac V0 ⟨#[]⟩ 0 0 (.slice none 0 0) (.slice none 0 0) (.slice none 0 0)
 rw [hs0] at ha1
 have hA0 := ha0.below hb1
 have HB := Lib.hid (below_step hb0 hb1)
 have HSZ := Lib.hid (show V1.heap.size = w.heap.size + 2 from by omega)
 have HIA := Lib.hid (hA.below HB.out)
 have HA1 := Lib.hid ha1
 have DA := Lib.hid (show Calls Tryz.prog 35 #[.agg #[.string A.name, .int .i64 A.sport, .int .i64 A.start, .slice a A.sm.length ca, .slice b A.lp.length cb, .slice c A.tg.length cc]] V1 fun e w'' => e = .returned (.int .i64 eA) ∧ Below V1.heap.size V1 w'' from by
  have h := rcheck2_any A a b c ca cb cc V1 HIA.out
  unfold actV at h
  rw [heA] at h
  exact h)
 obtain ⟨z0, z1, z2, z3, z4, z5⟩ := hA0.cell
 clear hA hr hs hn hQ hb0 hb1 hs1 ha0 ha1 hA0 heA
 unfold actV
 by_cases hbig : 200 < n
 · have t1 : decide ((200 : Int) < (n : Int)) = true := by rw [decide_eq_true_eq]; omega
   have HQ1 := Lib.hid (HQ.out.trans (if_pos hbig))
   clear hbig HQ
   go_enter Tryz.func14, Tryz.ntmps14
   go_upto_region 1 with (fail)
   clear hV0 hV1 hs0
   have hR := HA1.out
   obtain ⟨r0, r1, r2, r3, r4, r5⟩ := hR.cell
   have fr := hR.free
   obtain ⟨WF, hWF, haF, hkF⟩ := hR.store ⟨#[]⟩ 0 0 (.slice none 0 0) (.slice none 0 0) (.slice none 0 0)
   have HAF := Lib.hid haF
   have HKF := Lib.hid (hkF (fun q => q = w.heap.size + 1) rfl)
   have HBF := Lib.hid (show Below w.heap.size w WF from Below.of_kept HB.out HKF.out (fun k hk e => by omega))
   clear haF hkF hR
   go_wp2_with fail
   have q := HAF.out.cell
   exact bodyPost_ret (v := .tuple #[ac0, .int .i64 0, .int .i64 3]) (by simp [results, Tryz.results14, go_sem, q, ac0]) rfl (by rw [HQ1.out]; exact AllRes.bad HBF.out)
 have t1 : decide ((200 : Int) < (n : Int)) = false := by rw [decide_eq_false_iff_not]; omega
 have HQ1 := Lib.hid (HQ.out.trans (if_neg hbig))
 have HNB := Lib.hid (show n ≤ 200 from by omega)
 clear hbig HQ
 go_enter Tryz.func14, Tryz.ntmps14
 go_upto_region 1 with (fail)
 clear hV0 hV1 hs0
 go_wp2_with fail
 refine (DA.out).mono ?_
 rintro e w3 ⟨rfl, hb3⟩
 have HB3 := Lib.hid hb3
 have HBW := Lib.hid (below_step HB.out hb3)
 have y0 := below_cell hb3 z0
 have y1 := below_cell hb3 z1
 have y2 := below_cell hb3 z2
 have y3 := below_cell hb3 z3
 have y4 := below_cell hb3 z4
 have y5 := below_cell hb3 z5
 clear z0 z1 z2 z3 z4 z5 hb3 DA
 by_cases hA : eA = 0
 case neg =>
  have u1 : (eA != 0) = true := by rw [bne_iff_ne]; exact hA
  have HQ2 := Lib.hid (HQ1.out.trans (if_neg hA))
  clear hA HQ1
  have hR := HA1.out.below HB3.out
  obtain ⟨r0, r1, r2, r3, r4, r5⟩ := hR.cell
  have fr := hR.free
  obtain ⟨WF, hWF, haF, hkF⟩ := hR.store ⟨#[]⟩ 0 0 (.slice none 0 0) (.slice none 0 0) (.slice none 0 0)
  have HAF := Lib.hid haF
  have HKF := Lib.hid (hkF (fun q => q = w.heap.size + 1) rfl)
  have HBF := Lib.hid (show Below w.heap.size w WF from Below.of_kept HBW.out HKF.out (fun k hk e => by omega))
  clear haF hkF hR
  go_wp2_with fail
  have q := HAF.out.cell
  exact bodyPost_ret (v := .tuple #[ac0, .int .i64 0, .int .i64 eA]) (by simp [results, Tryz.results14, go_sem, q, ac0]) rfl (by rw [HQ2.out]; exact AllRes.bad HBF.out)
 have HQ2 := Lib.hid (HQ1.out.trans (if_pos hA))
 clear HQ1
 subst hA
 have HOA := Lib.hid (chkA_zero.1 HEA.out)
 have DCL := Lib.hid (show Calls Tryz.prog 48 #[.agg #[.string A.name, .int .i64 A.sport, .int .i64 A.start, .slice a A.sm.length ca, .slice b A.lp.length cb, .slice c A.tg.length cc]] w3 fun e w'' => CloneRet A w3 e w'' from by
  have h := rcopied_any A a b c ca cb cc w3 (HIA.out.below HB3.out) (by have := HOA.out.nsm; omega) (by have := HOA.out.nlp; omega) (by have := HOA.out.ntg; omega)
  unfold actV at h
  exact h)
 go_wp2_with fail
 refine (DCL.out).mono ?_
 unfold CloneRet
 rintro e w4 ⟨⟨a1, b1, c1, ca1, cb1, cc1, rfl, ho4⟩, hb4⟩
 unfold actV
 obtain ⟨hI4, _, _, _, hq4⟩ := ho4.actIn HTX.out HOA.out
 have hl4 := ho4.lt
 obtain ⟨W5, hW5, hb5, hs5, ha5⟩ := alloc_ac w4 A.name A.sport A.start (.slice a1 A.sm.length ca1) (.slice b1 A.lp.length cb1) (.slice c1 A.tg.length cc1)
 obtain ⟨T, hT⟩ : ∃ T, w4.heap.size = T := ⟨_, rfl⟩
 rw [hT] at ha5
 have HA5 := Lib.hid ha5
 have HB5 := Lib.hid (show Below V1.heap.size V1 W5 from below_step (below_step HB3.out hb4) hb5)
 have HT := Lib.hid (show w.heap.size + 2 ≤ T ∧ W5.heap.size = T + 1 from by
  have h2 := HSZ.out
  have h3 := HB3.out.size
  have h4 := hb4.size
  omega)
 have HI5 := Lib.hid (show ActIn W5 A a1 b1 c1 ∧ ∀ q, (a1 = some q ∨ b1 = some q ∨ c1 = some q) → w.heap.size + 2 ≤ q.block ∧ q.block ≠ T from by
  have h2 := HSZ.out
  have h3 := HB3.out.size
  exact ⟨hI4.below hb5, fun q hq => ⟨by have := hq4 q hq; omega, by have := hl4 q hq; omega⟩⟩)
 have HBW5 := Lib.hid (below_step HB.out HB5.out)
 have HRX := Lib.hid (fun X : ExtO (fun b => b = T) W5 => show ERow X.1 al l from HR.out.kept ((Kept.of_below HBW5.out).trans X.2) (fun b hb e => by have := HT.out; omega))
 have HBX := Lib.hid (fun X : ExtO (fun b => b = T) W5 => show Below w.heap.size w X.1 from Below.of_kept HBW5.out X.2 (fun k hk e => by have := HT.out; omega))
 have HZX := Lib.hid (fun X : ExtO (fun b => b = T) W5 => (HA1.out.below HB5.out).kept X.2 (by have := HT.out; omega))
 clear hI4 hq4 hl4 ho4 hb4 hb5 ha5 DCL y0 y1 y2 y3 y4 y5
 go_wp2_with fail
 clear hW5 hT hs5
 have hnb := HNB.out
 go_loopw [27] (fun iv wr => ∃ k : Nat, iv = .int .i64 k ∧ k ≤ n ∧ Hid (∃ B xa xb xc xca xcb xcc, AcB wr (T) B.name B.sport B.start (.slice xa B.sm.length xca) (.slice xb B.lp.length xcb) (.slice xc B.tg.length xcc) ∧ ActIn wr B xa xb xc ∧ (∀ q, (xa = some q ∨ xb = some q ∨ xc = some q) → w.heap.size + 2 ≤ q.block ∧ q.block ≠ T) ∧ Q = allR B (l.drop k) k) ∧ ∃ X : ExtO (fun b => b = T) W5, wr = X.1) (fun iv _ => n - (intOf iv).toNat)
 case atStart => exact ⟨0, rfl, by omega, Lib.hid ⟨A, a1, b1, c1, ca1, cb1, cc1, HA5.out, HI5.out.1, HI5.out.2, HQ2.out⟩, ⟨W5, Kept.refl _ _⟩, rfl⟩
 case round =>
  obtain ⟨k, rfl, hk, HST, X, rfl⟩ := hrel
  obtain ⟨B, xa, xb, xc, xca, xcb, xcc, hac, hin, hqs, heq⟩ := HST.out
  by_cases hlt : k < n
  · have t2 : decide ((k : Int) < (n : Int)) = true := by rw [decide_eq_true_eq]; omega
    have t2' : decide (k < n) = true := by simpa using hlt
    obtain ⟨x, hx⟩ : ∃ x, l[k]? = some x := ⟨_, List.getElem?_eq_getElem (by rw [HN.out]; exact hlt)⟩
    obtain ⟨bb, off, rfl, hbl, e0, e1, e2, e3, e4⟩ := (HRX.out X).at hx
    have hxs := HS.out x (List.mem_of_getElem? hx)
    have hst := heq.trans (allR_step hx)
    obtain ⟨V6, hV6, hb6, hs6, hl6⟩ := alloc_cells X.1 #[.int .i64 x.k, .int .i64 x.n, .int .i64 x.f, .int .i64 x.t, .string x.s] 28
    have u0 := hl6 0 _ rfl
    have u1 := hl6 1 _ rfl
    have u2 := hl6 2 _ rfl
    have u3 := hl6 3 _ rfl
    have u4 := hl6 4 _ rfl
    have HA6 := Lib.hid (hac.below hb6)
    have HI6 := Lib.hid (hin.below hb6)
    have HB6 := Lib.hid hb6
    obtain ⟨p0, p1, p2, p3, p4, p5⟩ := HA6.out.cell
    have DAP := Lib.hid (show Calls Tryz.prog 8 #[.agg #[.string B.name, .int .i64 B.sport, .int .i64 B.start, .slice xa B.sm.length xca, .slice xb B.lp.length xcb, .slice xc B.tg.length xcc], .agg #[.int .i64 x.k, .int .i64 x.n, .int .i64 x.f, .int .i64 x.t, .string x.s]] V6 fun e w' => ActResF (apZ B x) (apE B x) V6 e w' from by
     have h := rapply_f x B xa xb xc xca xcb xcc V6 HI6.out hxs
     unfold actV edV at h
     exact h)
    obtain ⟨Z, hZ⟩ : ∃ z, apZ B x = z := ⟨_, rfl⟩
    obtain ⟨er, her⟩ : ∃ z, apE B x = z := ⟨_, rfl⟩
    rw [hZ, her] at DAP hst
    have HSTEP := Lib.hid hst
    have HS6 := Lib.hid (show V6.heap.size = X.1.heap.size + 1 from hs6)
    clear hx hxs hst hl6 hac hin hqs heq HST hb6 hs6 hZ her hbl
    go_upto_region 10 with (fail)
    clear hV6 e0 e1 e2 e3 e4
    go_wp2_with fail
    refine (DAP.out).mono ?_
    rintro e w7 ⟨hb7, ya, yb, yc, yca, ycb, ycc, rfl, hy7, hyq⟩
    unfold actV
    obtain ⟨V8, hV8, hb8, hs8, ha8⟩ := alloc_ac w7 Z.name Z.sport Z.start (.slice ya Z.sm.length yca) (.slice yb Z.lp.length ycb) (.slice yc Z.tg.length ycc)
    have HB8 := Lib.hid (show Below X.1.heap.size X.1 V8 from below_step (below_step HB6.out hb7) hb8)
    have HC8 := Lib.hid ha8
    have HY8 := Lib.hid (show ActIn V8 Z ya yb yc ∧ ∀ q, (ya = some q ∨ yb = some q ∨ yc = some q) → T + 1 ≤ q.block from by
     have h2 := HT.out
     have h3 := X.2.size
     have h4 := HS6.out
     exact ⟨hy7.below hb8, fun q hq => by have := hyq q hq; omega⟩)
    have HA8 := Lib.hid ((HA6.out.below hb7).below hb8)
    obtain ⟨T2, hT2⟩ : ∃ T2, w7.heap.size = T2 := ⟨_, rfl⟩
    rw [hT2] at HC8
    obtain ⟨c0, c1', c2, c3, c4, c5⟩ := HC8.out.cell
    clear ha8 hb7 hb8 hs8 hy7 hyq DAP p0 p1 p2 p3 p4 p5
    go_upto_region 11 with (fail)
    clear hV8 hT2 u0 u1 u2 u3 u4
    by_cases h0 : er = 0
    · have HS2 := Lib.hid (HSTEP.out.trans (if_pos h0))
      subst h0
      clear HSTEP
      have hR := HA8.out
      obtain ⟨r0, r1, r2, r3, r4, r5⟩ := hR.cell
      have fr := hR.free
      obtain ⟨W9, hW9, ha9, hk9⟩ := hR.store Z.name Z.sport Z.start (.slice ya Z.sm.length yca) (.slice yb Z.lp.length ycb) (.slice yc Z.tg.length ycc)
      have hk9' := hk9 (fun q => q = T) rfl
      obtain ⟨X9, rfl⟩ : ∃ Y : ExtO (fun b => b = T) W5, W9 = Y.1 := ⟨⟨W9, X.2.trans ((Kept.of_below HB8.out).trans hk9')⟩, rfl⟩
      have HA9 := Lib.hid ha9
      have HI9 := Lib.hid (show ActIn X9.1 Z ya yb yc ∧ ∀ q, (ya = some q ∨ yb = some q ∨ yc = some q) → w.heap.size + 2 ≤ q.block ∧ q.block ≠ T from by
       have h2 := HT.out
       exact ⟨HY8.out.1.kept hk9' (fun q hq e => by have := HY8.out.2 q hq; omega), fun q hq => by have := HY8.out.2 q hq; omega⟩)
      clear hR ha9 hk9 hk9'
      go_upto_region 14 with (fail)
      clear hW9 r0 r1 r2 r3 r4 r5 fr c0 c1' c2 c3 c4 c5
      go_wp2_with fail
      go_roundw
      case rel => exact ⟨k + 1, by go_num, by omega, Lib.hid ⟨Z, ya, yb, yc, yca, ycb, ycc, HA9.out, HI9.out.1, HI9.out.2, HS2.out⟩, X9, rfl⟩
      case measure => simp [intOf]; omega
    · have HS2 := Lib.hid (HSTEP.out.trans (if_neg h0))
      have v1 : (er != 0) = true := by rw [bne_iff_ne]; exact h0
      have HB9 := Lib.hid (below_step (HBX.out X) HB8.out)
      have HZ8 := Lib.hid ((HZX.out X).below HB8.out)
      clear h0 HSTEP c0 c1' c2 c3 c4 c5
      have hR := HZ8.out
      obtain ⟨r0, r1, r2, r3, r4, r5⟩ := hR.cell
      have fr := hR.free
      obtain ⟨WF, hWF, haF, hkF⟩ := hR.store ⟨#[]⟩ 0 0 (.slice none 0 0) (.slice none 0 0) (.slice none 0 0)
      have HAF := Lib.hid haF
      have HKF := Lib.hid (hkF (fun q => q = w.heap.size + 1) rfl)
      have HBF := Lib.hid (show Below w.heap.size w WF from Below.of_kept HB9.out HKF.out (fun k hk e => by omega))
      clear haF hkF hR
      go_wp2_with fail
      have q := HAF.out.cell
      exact bodyPost_ret (v := .tuple #[ac0, .int .i64 k, .int .i64 er]) (by simp [results, Tryz.results14, go_sem, q, ac0]) rfl (by rw [HS2.out]; exact AllRes.bad HBF.out)
  · have t2 : decide ((k : Int) < (n : Int)) = false := by rw [decide_eq_false_iff_not]; omega
    have t2' : decide (k < n) = false := by simpa using hlt
    have HQ3 := Lib.hid (heq.trans (allR_end (by rw [HN.out]; omega)))
    have HB8 := Lib.hid (HBX.out X)
    obtain ⟨q0, q1, q2, q3, q4, q5⟩ := hac.cell
    have hR := HZX.out X
    obtain ⟨r0, r1, r2, r3, r4, r5⟩ := hR.cell
    have fr := hR.free
    obtain ⟨WF, hWF, haF, hkF⟩ := hR.store B.name B.sport B.start (.slice xa B.sm.length xca) (.slice xb B.lp.length xcb) (.slice xc B.tg.length xcc)
    have HAF := Lib.hid haF
    have hkF' := hkF (fun q => q = w.heap.size + 1) rfl
    have HBF := Lib.hid (show Below w.heap.size w WF from Below.of_kept HB8.out hkF' (fun k hk e => by omega))
    have HIF := Lib.hid (show ActIn WF B xa xb xc ∧ ∀ q, (xa = some q ∨ xb = some q ∨ xc = some q) → w.heap.size ≤ q.block from
     ⟨hin.kept hkF' (fun q hq e => by have := (hqs q hq).1; omega), fun q hq => by have := (hqs q hq).1; omega⟩)
    clear haF hkF hkF' hac hin hqs heq HST hR
    go_wp2_with fail
    have q := HAF.out.cell
    exact bodyPost_ret (v := .tuple #[.agg #[.string B.name, .int .i64 B.sport, .int .i64 B.start, .slice xa B.sm.length xca, .slice xb B.lp.length xcb, .slice xc B.tg.length xcc], .int .i64 0, .int .i64 0]) (by simp [results, Tryz.results14, go_sem, q]) rfl (by rw [HQ3.out]; exact ⟨HBF.out, xa, xb, xc, xca, xcb, xcc, rfl, HIF.out.1, HIF.out.2⟩)
end Go.Proofs.YtjnfccphodjfiaaGreat

/- A text of this claim. -/
namespace Go.Proofs.YtjnfccphodjfiaaGreat
open Go.RowKit Go.BigFrame
open Tr (inR Ed)
theorem apZ_len (A : Acv) (x : Ed) : (apZ A x).sm.length ≤ 20000 ∧ (apZ A x).lp.length ≤ 200 ∧ (apZ A x).tg.length ≤ 20 := by
 unfold apZ
 by_cases h : apE A x = 0
 · rw [if_pos h]
   have h2 : chkA (appZ A x) = 0 := by
    by_cases h0 : apA A x = 0
    · rw [apE_ok h0] at h
      by_cases h1 : appE A x = 0
      · rw [if_neg (by simpa using h1)] at h
        exact h
      · rw [if_pos h1] at h
        exact absurd h h1
    · rw [(apE_bad h0).1] at h
      exact absurd h h0
   have := chkA_zero.1 h2
   exact ⟨this.nsm, this.nlp, this.ntg⟩
 · rw [if_neg h]
   exact ⟨Nat.zero_le _, Nat.zero_le _, Nat.zero_le _⟩
set_option maxHeartbeats 8000000 in
set_option maxRecDepth 100000 in
theorem editsSpec_law (x : Ed) (A : Acv) (a b c : Option Addr) (ca cb cc : Nat) (w : World) (hA : ActIn w A a b c) (hs : x.s.size ≤ maxLen) :
 Calls Tryz.prog 3 #[actV A a b c ca cb cc, edV x] w fun e w' => e = .returned (.bool true) ∧ Below w.heap.size w w' := by
 obtain ⟨l1, l2, l3⟩ := apZ_len A x
 have hD := fun X => apply_any x A a b c ca cb cc X
 have hR := fun X => rapply_any x A a b c ca cb cc X
 have hC := fun X => checkEdit_any x X hs
 have hRC := fun X => rcheck_any x X hs
 unfold RChk at hRC
 obtain ⟨Z, hZ⟩ : ∃ z, apZ A x = z := ⟨_, rfl⟩
 obtain ⟨er, her⟩ : ∃ z, apE A x = z := ⟨_, rfl⟩
 obtain ⟨eB, heB⟩ : ∃ z, chkE x = z := ⟨_, rfl⟩
 rw [hZ, her] at hD hR
 rw [hZ] at l1 l2 l3
 rw [heB] at hC hRC
 obtain ⟨k, n, f, t, s⟩ := x
 obtain ⟨V0, hV0, hb0, hs0, ha0⟩ := alloc_ac w A.name A.sport A.start (.slice a A.sm.length ca) (.slice b A.lp.length cb) (.slice c A.tg.length cc)
 obtain ⟨V1, hV1, hb1, hs1, hl1⟩ := alloc_cells V0 #[.int .i64 k, .int .i64 n, .int .i64 f, .int .i64 t, .string s] 28
 rw [hs0] at hl1
 have hA0 := ha0.below hb1
 have HB1 := Lib.hid (below_step hb0 hb1)
 have HLEN := Lib.hid (And.intro l1 (And.intro l2 l3))
 have DM := Lib.hid (fun X : Ext V1 => hD X.1 ((hA.below HB1.out).below X.2) hs)
 have DR := Lib.hid (fun X : Ext V1 => hR X.1 ((hA.below HB1.out).below X.2) hs)
 have DC := Lib.hid hC
 have DRC := Lib.hid hRC
 obtain ⟨z0, z1, z2, z3, z4, z5⟩ := hA0.cell
 have A0 := Ext.ex z0
 have A1 := Ext.ex z1
 have A2 := Ext.ex z2
 have A3 := Ext.ex z3
 have A4 := Ext.ex z4
 have A5 := Ext.ex z5
 have B0 := Ext.ex (hl1 0 _ rfl)
 have B1 := Ext.ex (hl1 1 _ rfl)
 have B2 := Ext.ex (hl1 2 _ rfl)
 have B3 := Ext.ex (hl1 3 _ rfl)
 have B4 := Ext.ex (hl1 4 _ rfl)
 have be : (er == er) = true := by simp
 have be2 : (eB == eB) = true := by simp
 clear hA hs hb0 hb1 ha0 hl1 hA0 hs1 z0 z1 z2 z3 z4 z5 hD hR hC hRC hZ her heB l1 l2 l3
 unfold actV at DM DR ⊢
 unfold edV at DM DR DC DRC ⊢
 go_enter Tryz.func3, Tryz.ntmps3
 go_upto_region 1 with (fail)
 clear hV0 hV1 hs0
 refine ext_wp (W := V1) fun X => ?_
 go_wp2_with fail
 refine (DM.out X).mono ?_
 rintro e w2 ⟨hb2, za, zb, zc, zca, zcb, zcc, rfl, hz2⟩
 unfold actV
 obtain ⟨W3, hW3, hwb3, hws3, hac3⟩ := alloc_ac w2 Z.name Z.sport Z.start (.slice za Z.sm.length zca) (.slice zb Z.lp.length zcb) (.slice zc Z.tg.length zcc)
 have hz3 := hz2.below hwb3
 obtain ⟨X3, rfl⟩ : ∃ Y : Ext V1, W3 = Y.1 := ⟨⟨W3, below_step (below_step X.2 hb2) hwb3⟩, rfl⟩
 have HZ3 := Lib.hid hz3
 have HAC3 := Lib.hid hac3
 obtain ⟨T1, hT1⟩ : ∃ q, w2.heap.size = q := ⟨_, rfl⟩
 rw [hT1] at HAC3
 clear hb2 hz2 hwb3 hws3 hac3 hz3
 go_upto_region 2 with (fail)
 clear hW3 hT1
 go_wp2_with fail
 refine (DR.out X3).mono ?_
 rintro e w4 ⟨hb4, ya, yb, yc, yca, ycb, ycc, rfl, hy4⟩
 unfold actV
 obtain ⟨W5, hW5, hwb5, hws5, hac5⟩ := alloc_ac w4 Z.name Z.sport Z.start (.slice ya Z.sm.length yca) (.slice yb Z.lp.length ycb) (.slice yc Z.tg.length ycc)
 have HZ5 := Lib.hid ((HZ3.out.below hb4).below hwb5)
 have HY5 := Lib.hid (hy4.below hwb5)
 have HA3 := Lib.hid ((HAC3.out.below hb4).below hwb5)
 have HA5 := Lib.hid hac5
 have HV5 := Lib.hid (show Below V1.heap.size V1 W5 from below_step (below_step X3.2 hb4) hwb5)
 have HB5 := Lib.hid (below_step HB1.out HV5.out)
 obtain ⟨T2, hT2⟩ : ∃ q, w4.heap.size = q := ⟨_, rfl⟩
 rw [hT2] at HA5
 clear hb4 hy4 hwb5 hws5 hac5 HAC3 HZ3
 go_upto_region 3 with (fail)
 clear hW5 hT2
 have DS := Lib.hid (fun Y : Ext W5 => Y.calls (same_self Z za zb zc ya yb yc zca zcb zcc yca ycb ycc Y.1 (HZ5.out.sm.below Y.2) (HZ5.out.lp.below Y.2) (HZ5.out.tg.below Y.2) (HY5.out.sm.below Y.2) (HY5.out.lp.below Y.2) (HY5.out.tg.below Y.2) (by have := HLEN.out.1; omega) (by have := HLEN.out.2.1; omega) (by have := HLEN.out.2.2; omega)))
 have DC5 := Lib.hid (fun Y : Ext W5 => Y.calls (DC.out Y.1))
 have DR5 := Lib.hid (fun Y : Ext W5 => Y.calls (DRC.out Y.1))
 have DT5 := Lib.hid (fun Y : Ext W5 => Y.calls (told2_any Y.1))
 unfold actV at DS
 obtain ⟨p0, p1, p2, p3, p4, p5⟩ := HA3.out.cell
 obtain ⟨q0, q1, q2, q3, q4, q5⟩ := HA5.out.cell
 have P0 := Ext.ex p0
 have P1 := Ext.ex p1
 have P2 := Ext.ex p2
 have P3 := Ext.ex p3
 have P4 := Ext.ex p4
 have P5 := Ext.ex p5
 have Q0 := Ext.ex q0
 have Q1 := Ext.ex q1
 have Q2 := Ext.ex q2
 have Q3 := Ext.ex q3
 have Q4 := Ext.ex q4
 have Q5 := Ext.ex q5
 have C0 := Ext.ex (B0 ⟨W5, HV5.out⟩)
 have C1 := Ext.ex (B1 ⟨W5, HV5.out⟩)
 have C2 := Ext.ex (B2 ⟨W5, HV5.out⟩)
 have C3 := Ext.ex (B3 ⟨W5, HV5.out⟩)
 have C4 := Ext.ex (B4 ⟨W5, HV5.out⟩)
 clear DM DR A0 A1 A2 A3 A4 A5 B0 B1 B2 B3 B4 p0 p1 p2 p3 p4 p5 q0 q1 q2 q3 q4 q5
 refine wp_region_ext (W := W5) ⟨W5, Below.refl _ _⟩ (by kernel_rfl) (by kernel_rfl) ?_
 repeat go_big_quiet_step (first | exact DC5.out _ | exact DR5.out _ | exact DS.out _ | exact DT5.out _)
 refine wpQuiet_nil ?_
 rintro _ ⟨Y, rfl⟩
 go_wp2_with fail
 go_ret
 exact ⟨rfl, below_step HB5.out Y.2⟩
end Go.Proofs.YtjnfccphodjfiaaGreat

/- A text of this claim. -/
namespace Go.Proofs.YtjnfccphodjfiaaGreat
open Go.RowKit Go.BigFrame
open Tr (inR Ed)
theorem allR_len : ∀ (l : List Ed) (A : Acv) (i : Nat), (A.sm.length ≤ 20000 ∧ A.lp.length ≤ 200 ∧ A.tg.length ≤ 20) → ((allR A l i).1.sm.length ≤ 20000 ∧ (allR A l i).1.lp.length ≤ 200 ∧ (allR A l i).1.tg.length ≤ 20)
 | [], A, i, h => h
 | x :: l, A, i, h => by
  rw [allR]
  split
  · exact allR_len l _ _ (apZ_len A x)
  · exact ⟨Nat.zero_le _, Nat.zero_le _, Nat.zero_le _⟩
theorem allQ_len (A : Acv) (l : List Ed) : (allQ A l).1.sm.length ≤ 20000 ∧ (allQ A l).1.lp.length ≤ 200 ∧ (allQ A l).1.tg.length ≤ 20 := by
 unfold allQ
 split
 · exact ⟨Nat.zero_le _, Nat.zero_le _, Nat.zero_le _⟩
 · split
   · rename_i h
     have := chkA_zero.1 h
     exact allR_len l A 0 ⟨this.nsm, this.nlp, this.ntg⟩
   · exact ⟨Nat.zero_le _, Nat.zero_le _, Nat.zero_le _⟩
set_option maxHeartbeats 8000000 in
set_option maxRecDepth 100000 in
theorem allSpec_law (A : Acv) (a b c : Option Addr) (ca cb cc : Nat) (l : List Ed) (al : Option Addr) (cl : Nat) (w : World) (hA : ActIn w A a b c) (hr : ERow w al l) (hs : ∀ x, x ∈ l → x.s.size ≤ maxLen) :
 Calls Tryz.prog 4 #[actV A a b c ca cb cc, .slice al l.length cl] w fun e w' => e = .returned (.bool true) ∧ Below w.heap.size w w' := by
 obtain ⟨l1, l2, l3⟩ := allQ_len A l
 have hD := fun X hX hY => all_any A a b c ca cb cc l al cl X hX hY hs
 have hR := fun X hX hY => rall_any A a b c ca cb cc l al cl X hX hY hs
 obtain ⟨q, hq⟩ : ∃ q, allQ A l = q := ⟨_, rfl⟩
 obtain ⟨n, hn⟩ : ∃ n, l.length = n := ⟨_, rfl⟩
 rw [hq] at l1 l2 l3
 unfold AllRes at hD hR
 rw [hq, hn] at hD hR
 rw [hn]
 obtain ⟨Z, iq, er⟩ := q
 simp only at l1 l2 l3 hD hR
 obtain ⟨V1, hV1, hb1, hs1, ha1⟩ := alloc_ac w A.name A.sport A.start (.slice a A.sm.length ca) (.slice b A.lp.length cb) (.slice c A.tg.length cc)
 have HB1 := Lib.hid hb1
 have HLEN := Lib.hid (And.intro l1 (And.intro l2 l3))
 have DM := Lib.hid (fun X : Ext V1 => hD X.1 ((hA.below HB1.out).below X.2) ((hr.below HB1.out).below X.2))
 have DR := Lib.hid (fun X : Ext V1 => hR X.1 ((hA.below HB1.out).below X.2) ((hr.below HB1.out).below X.2))
 obtain ⟨z0, z1, z2, z3, z4, z5⟩ := ha1.cell
 have A0 := Ext.ex z0
 have A1 := Ext.ex z1
 have A2 := Ext.ex z2
 have A3 := Ext.ex z3
 have A4 := Ext.ex z4
 have A5 := Ext.ex z5
 have be : (er == er) = true := by simp
 have be2 : (iq == iq) = true := by simp
 clear hA hr hs hb1 ha1 hs1 z0 z1 z2 z3 z4 z5 hD hR hq hn l1 l2 l3
 unfold actV at DM DR ⊢
 go_enter Tryz.func4, Tryz.ntmps4
 go_upto_region 1 with (fail)
 clear hV1
 refine ext_wp (W := V1) fun X => ?_
 go_wp2_with fail
 refine (DM.out X).mono ?_
 rintro e w2 ⟨hb2, za, zb, zc, zca, zcb, zcc, rfl, hz2, _⟩
 obtain ⟨W3, hW3, hwb3, hws3, hac3⟩ := alloc_ac w2 Z.name Z.sport Z.start (.slice za Z.sm.length zca) (.slice zb Z.lp.length zcb) (.slice zc Z.tg.length zcc)
 have hz3 := hz2.below hwb3
 obtain ⟨X3, rfl⟩ : ∃ Y : Ext V1, W3 = Y.1 := ⟨⟨W3, below_step (below_step X.2 hb2) hwb3⟩, rfl⟩
 have HZ3 := Lib.hid hz3
 have HAC3 := Lib.hid hac3
 obtain ⟨T1, hT1⟩ : ∃ q, w2.heap.size = q := ⟨_, rfl⟩
 rw [hT1] at HAC3
 clear hb2 hz2 hwb3 hws3 hac3 hz3
 go_upto_region 2 with (fail)
 clear hW3 hT1
 go_wp2_with fail
 refine (DR.out X3).mono ?_
 rintro e w4 ⟨hb4, ya, yb, yc, yca, ycb, ycc, rfl, hy4, _⟩
 obtain ⟨W5, hW5, hwb5, hws5, hac5⟩ := alloc_ac w4 Z.name Z.sport Z.start (.slice ya Z.sm.length yca) (.slice yb Z.lp.length ycb) (.slice yc Z.tg.length ycc)
 have HZ5 := Lib.hid ((HZ3.out.below hb4).below hwb5)
 have HY5 := Lib.hid (hy4.below hwb5)
 have HA3 := Lib.hid ((HAC3.out.below hb4).below hwb5)
 have HA5 := Lib.hid hac5
 have HV5 := Lib.hid (show Below V1.heap.size V1 W5 from below_step (below_step X3.2 hb4) hwb5)
 have HB5 := Lib.hid (below_step HB1.out HV5.out)
 obtain ⟨T2, hT2⟩ : ∃ q, w4.heap.size = q := ⟨_, rfl⟩
 rw [hT2] at HA5
 clear hb4 hy4 hwb5 hws5 hac5 HAC3 HZ3
 go_upto_region 3 with (fail)
 clear hW5 hT2
 have DS := Lib.hid (same_self Z za zb zc ya yb yc zca zcb zcc yca ycb ycc W5 HZ5.out.sm HZ5.out.lp HZ5.out.tg HY5.out.sm HY5.out.lp HY5.out.tg (by have := HLEN.out.1; omega) (by have := HLEN.out.2.1; omega) (by have := HLEN.out.2.2; omega))
 unfold actV at DS
 obtain ⟨p0, p1, p2, p3, p4, p5⟩ := HA3.out.cell
 obtain ⟨q0, q1, q2, q3, q4, q5⟩ := HA5.out.cell
 clear DM DR A0 A1 A2 A3 A4 A5
 go_wp2_with fail
 refine (DS.out).mono ?_
 rintro e w6 ⟨rfl, hb6⟩
 have HB6 := Lib.hid (below_step HB5.out hb6)
 clear hb6 p0 p1 p2 p3 p4 p5 q0 q1 q2 q3 q4 q5
 go_wp2_with fail
 refine (told2_any _).mono ?_
 rintro e w7 ⟨rfl, hb7⟩
 have HB7 := Lib.hid (below_step HB6.out hb7)
 clear hb7
 go_wp2_with fail
 go_ret
 exact ⟨rfl, HB7.out⟩
end Go.Proofs.YtjnfccphodjfiaaGreat

/- A text of this claim. -/
namespace Go.Proofs.YtjnfccphodjfiaaGreat
open Go.ChangeShapes Go.WideShapes Go.ChangeAt Go.RowKit Go.Deep
theorem laidOut : laidOutB Tryz.prog = true := by kernel_rfl
theorem readAct : Tryz.prog.readableRec 26 = true := by kernel_rfl
theorem rowAct : 26 < Tryz.prog.types.size := of_decide_eq_true (by kernel_rfl)
def intV : Value → Int
 | .int _ n => n
 | _ => 0
def strV : Value → ByteArray
 | .string s => s
 | _ => ByteArray.empty
section
variable {H : Type} {enc : TypeId × Value → H} {P : Program} {w : World} {base : Nat}
theorem field_str {V : List Value} {j : Nat} {t : TypeId} (ht : P.underlying t = some .string) (h : ∃ u n y, V[j]? = some u ∧ DataW.trod enc P w base (fun _ => true) true n t [u] = some y) :
 V[j]? = some (.string (strV (V.getD j (.bool false)))) ∧ (strV (V.getD j (.bool false))).size ≤ maxLen := by
 obtain ⟨u, n, y, hu, hd⟩ := h
 obtain ⟨s, e, _, hs⟩ := DataW.trod_string ht hd
 simp only [List.cons.injEq, and_true] at e
 subst e
 rw [List.getD_eq_getElem?_getD, hu]
 exact ⟨rfl, hs⟩
theorem field_int {V : List Value} {j : Nat} {t : TypeId} (ht : P.underlying t = some (.int .i64)) (h : ∃ u n y, V[j]? = some u ∧ DataW.trod enc P w base (fun _ => true) true n t [u] = some y) :
 V[j]? = some (.int .i64 (intV (V.getD j (.bool false)))) := by
 obtain ⟨u, n, y, hu, hd⟩ := h
 obtain ⟨s, e, _, hs⟩ := DataW.trod_int ht hd
 simp only [List.cons.injEq, and_true] at e
 subst e
 rw [List.getD_eq_getElem?_getD, hu]
 rfl
end
theorem list3 {V : List Value} {a b c : Value} (hl : V.length = 3) (h0 : V[0]? = some a) (h1 : V[1]? = some b) (h2 : V[2]? = some c) : V = [a, b, c] := by
 match V, hl with
 | [x, y, z], _ => simp at h0 h1 h2; rw [h0, h1, h2]
theorem list7 {V : List Value} {a b c d e f g : Value} (hl : V.length = 7) (h0 : V[0]? = some a) (h1 : V[1]? = some b) (h2 : V[2]? = some c) (h3 : V[3]? = some d) (h4 : V[4]? = some e) (h5 : V[5]? = some f) (h6 : V[6]? = some g) : V = [a, b, c, d, e, f, g] := by
 match V, hl with
 | [x0, x1, x2, x3, x4, x5, x6], _ => simp at h0 h1 h2 h3 h4 h5 h6; rw [h0, h1, h2, h3, h4, h5, h6]
theorem list6 {V : List Value} {a b c d e f : Value} (hl : V.length = 6) (h0 : V[0]? = some a) (h1 : V[1]? = some b) (h2 : V[2]? = some c) (h3 : V[3]? = some d) (h4 : V[4]? = some e) (h5 : V[5]? = some f) : V = [a, b, c, d, e, f] := by
 match V, hl with
 | [x0, x1, x2, x3, x4, x5], _ => simp at h0 h1 h2 h3 h4 h5; rw [h0, h1, h2, h3, h4, h5]
def smOf (V : List Value) : Sm := ⟨intV (V.getD 0 (.bool false)), intV (V.getD 1 (.bool false)), intV (V.getD 2 (.bool false)), intV (V.getD 3 (.bool false)), intV (V.getD 4 (.bool false)), intV (V.getD 5 (.bool false)), intV (V.getD 6 (.bool false))⟩
def lpOf (V : List Value) : Lp := ⟨intV (V.getD 0 (.bool false)), intV (V.getD 1 (.bool false)), strV (V.getD 2 (.bool false))⟩
theorem range_get {α : Type} (f : Nat → α) {n i : Nat} {x : α} (h : ((List.range n).map f)[i]? = some x) : i < n ∧ x = f i := by
 rw [List.getElem?_map] at h
 cases hr : (List.range n)[i]? with
 | none => rw [hr] at h; cases h
 | some y =>
  rw [hr] at h
  obtain ⟨h1, h2⟩ := List.getElem?_eq_some_iff.1 hr
  simp only [List.length_range] at h1
  simp only [List.getElem_range] at h2
  subst h2
  simp only [Option.map_some, Option.some.injEq] at h
  exact ⟨h1, h.symm⟩
theorem rw_of {α : Type} {C : α → List Value} {k : Nat} {w : World} {a : Option Addr} {n : Nat} {V : Nat → List Value} {f : Nat → α} (hC : ∀ x, (C x).length = k) (h : RowK w a n k V) (he : ∀ i, i < n → V i = C (f i)) : Rw C k w a ((List.range n).map f) := by
 refine ⟨fun hl => ?_⟩
 rw [List.length_map, List.length_range] at hl
 obtain ⟨b, off, e, hb, hc⟩ := h.here hl
 refine ⟨b, off, e, hb, fun i x hx j u hu => ?_⟩
 obtain ⟨hi, rfl⟩ := range_get f hx
 have hj : j < k := by have := (List.getElem?_eq_some_iff.1 hu).1; rwa [hC] at this
 rw [← hu, ← he i hi]
 exact hc i hi j hj
section
variable {H : Type} {enc : TypeId × Value → H} {P : Program} {w : World} {base : Nat}
theorem open_sms {t e : TypeId} (I : P.underlying t = some (.slice e)) {fs : Array Field} (hs : P.underlying e = some (.struct fs)) (hC : P.cellsOf e = fs.size) (h7 : fs.size = 7) (hone : ∀ (i : Nat) (f : Field), fs[i]? = some f → f.offset = i ∧ P.cellsOf f.type = 1)
 (hi : ∀ (j : Nat) (f : Field), fs[j]? = some f → P.underlying f.type = some (.int .i64)) {n : Nat} {v : Value} {y : DataW H × List MemPlace} (h : DataW.trod enc P w base (fun _ => true) true n t [v] = some y) :
 ∃ (l : List Sm) (a : Option Addr) (c : Nat), v = .slice a l.length c ∧ l.length ≤ c ∧ c ≤ maxLen ∧ Rw smC 7 w a l := by
 obtain ⟨a0, n0, c0, V0, rfl, l0, m0, R0, F0⟩ := open_rowK I hs hC (by omega) hone h
 rw [h7] at R0 F0
 refine ⟨(List.range n0).map fun i => smOf (V0 i), a0, c0, by rw [List.length_map, List.length_range], by rw [List.length_map, List.length_range]; exact l0, m0, rw_of (fun _ => rfl) R0 fun i hi' => ?_⟩
 have F := F0 i hi'
 have g : ∀ (j : Nat) (_ : j < 7), (V0 i)[j]? = some (.int .i64 (intV ((V0 i).getD j (.bool false)))) := fun j hj => by
  obtain ⟨f, hf⟩ : ∃ f, fs[j]? = some f := ⟨_, Array.getElem?_eq_getElem (by omega)⟩
  exact field_int (hi j f hf) (F.2 j f hf)
 exact list7 F.1 (g 0 (by omega)) (g 1 (by omega)) (g 2 (by omega)) (g 3 (by omega)) (g 4 (by omega)) (g 5 (by omega)) (g 6 (by omega))
theorem open_tags {t e : TypeId} (I : P.underlying t = some (.slice e)) (hs : P.underlying e = some .string) (hC : P.cellsOf e = 1) {n : Nat} {v : Value} {y : DataW H × List MemPlace} (h : DataW.trod enc P w base (fun _ => true) true n t [v] = some y) :
 ∃ (l : List ByteArray) (a : Option Addr) (c : Nat), v = .slice a l.length c ∧ l.length ≤ c ∧ c ≤ maxLen ∧ Rw tgC 1 w a l ∧ ∀ s, s ∈ l → s.size ≤ maxLen := by
 rcases open_slice I h with ⟨hc, _⟩ | ⟨a, len, cap, m, n', D, Pl, hc, _, hl, hm, hmm, _, hx⟩
 · simp only [List.cons.injEq, and_true] at hc
   exact ⟨[], none, 0, hc, Nat.le_refl _, Nat.zero_le _, ⟨fun h => absurd h (by simp)⟩, fun s hs => by cases hs⟩
 · simp only [List.cons.injEq, and_true] at hc
   simp only [if_true] at hmm
   subst hmm
   have each : ∀ i, i < m → ∃ s : ByteArray, w.cell? (a.add i) = some (.string s) ∧ s.size ≤ maxLen := by
    intro i hi
    obtain ⟨cs, h1, h2⟩ := hx i hi
    rw [hC] at h1
    obtain ⟨_, hlen, hcell⟩ := World.cells?_some h1
    obtain ⟨s, e1, _, hs1⟩ := DataW.trod_string hs h2
    have h3 := hcell 0 (by omega)
    rw [e1, add_add] at h3
    refine ⟨s, ?_, hs1⟩
    simpa using h3
   obtain ⟨V, hV⟩ := choose_lt each
   refine ⟨(List.range len).map V, some a, m, by rw [List.length_map, List.length_range]; exact hc, by rw [List.length_map, List.length_range]; exact hl, hm, ⟨fun hl0 => ?_⟩, fun s hs => ?_⟩
   · rw [List.length_map, List.length_range] at hl0
     obtain ⟨b, o, sp⟩ := a
     have h0 := (hV 0 (by omega)).1
     have hspot : sp = none := by simpa [Addr.add] using World.cell?_spot h0
     subst hspot
     refine ⟨b, o, rfl, by simpa [Addr.add] using World.block_lt_of_cell? w _ h0, fun i x hx' j u hu => ?_⟩
     obtain ⟨hi, rfl⟩ := range_get V hx'
     have hj : j < 1 := (List.getElem?_eq_some_iff.1 hu).1
     obtain rfl : j = 0 := by omega
     injection hu with hu
     subst hu
     have := (hV i (by omega)).1
     rw [add_plain] at this
     rw [Nat.mul_one, Nat.add_zero]
     exact this
   · obtain ⟨i, hi, rfl⟩ := List.mem_map.1 hs
     exact (hV i (by have := List.mem_range.1 hi; omega)).2
theorem open_lps {t e : TypeId} {f0 f1 f2 : Field} (I : P.underlying t = some (.slice e)) (hs : P.underlying e = some (.struct #[f0, f1, f2])) (hC : P.cellsOf e = 3) (hone : ∀ (i : Nat) (f : Field), (#[f0, f1, f2] : Array Field)[i]? = some f → f.offset = i ∧ P.cellsOf f.type = 1)
 (i0 : P.underlying f0.type = some (.int .i64)) (i1 : P.underlying f1.type = some (.int .i64)) (i2 : P.underlying f2.type = some .string) {n : Nat} {v : Value} {y : DataW H × List MemPlace} (h : DataW.trod enc P w base (fun _ => true) true n t [v] = some y) :
 ∃ (l : List Lp) (a : Option Addr) (c : Nat), v = .slice a l.length c ∧ l.length ≤ c ∧ c ≤ maxLen ∧ Rw lpC 3 w a l ∧ ∀ p, p ∈ l → p.s.size ≤ maxLen := by
 obtain ⟨a0, n0, c0, V0, rfl, l0, m0, R0, F0⟩ := open_rowK I hs hC (show 0 < 3 by decide) hone h
 have F : ∀ i, i < n0 → V0 i = lpC (lpOf (V0 i)) ∧ (lpOf (V0 i)).s.size ≤ maxLen := fun i hi =>
  ⟨list3 (F0 i hi).1 (field_int i0 ((F0 i hi).2 0 _ rfl)) (field_int i1 ((F0 i hi).2 1 _ rfl)) (field_str i2 ((F0 i hi).2 2 _ rfl)).1, (field_str i2 ((F0 i hi).2 2 _ rfl)).2⟩
 refine ⟨(List.range n0).map fun i => lpOf (V0 i), a0, c0, by rw [List.length_map, List.length_range], by rw [List.length_map, List.length_range]; exact l0, m0, rw_of (fun _ => rfl) R0 fun i hi => (F i hi).1, fun p hp => ?_⟩
 obtain ⟨i, hi, rfl⟩ := List.mem_map.1 hp
 exact (F i (List.mem_range.1 hi)).2
end
set_option maxRecDepth 100000 in
theorem act_cells {H : Type} {enc : TypeId × Value → H} {W : World} {base : Nat} {V : List Value} (hl : V.length = 6) (F : ∀ (j : Nat) (f : Field), (Tryz.prog.fieldsOf 26)[j]? = some f → ∃ u n y, V[j]? = some u ∧ DataW.trod enc Tryz.prog W base (fun _ => true) true n f.type [u] = some y) :
 ∃ (A : Acv) (a b c : Option Addr) (ca cb cc : Nat), V = [.string A.name, .int .i64 A.sport, .int .i64 A.start, .slice a A.sm.length ca, .slice b A.lp.length cb, .slice c A.tg.length cc] ∧ ActIn W A a b c ∧ A.sm.length ≤ ca ∧ A.lp.length ≤ cb ∧ A.tg.length ≤ cc := by
 have S := Tryz.underlying9
 have I := Tryz.underlying3
 have hm : maxLen = 9223372036854775807 := rfl
 simp only [Program.fieldsOf, Tryz.underlying26] at F
 obtain ⟨e0, z0⟩ := field_str S (F 0 _ rfl)
 have e1 := field_int I (F 1 _ rfl)
 have e2 := field_int I (F 2 _ rfl)
 obtain ⟨u3, n3, y3, e3, t3⟩ := F 3 _ rfl
 obtain ⟨u4, n4, y4, e4, t4⟩ := F 4 _ rfl
 obtain ⟨u5, n5, y5, e5, t5⟩ := F 5 _ rfl
 obtain ⟨l, a, ca, rfl, la, ma, ra⟩ := open_sms (P := Tryz.prog) Tryz.underlying22 Tryz.underlying72 (by kernel_rfl) rfl (hone_of (by kernel_rfl)) (fun j f hf => by
  match j, hf with
  | 0, h => injection h with h; subst h; exact I
  | 1, h => injection h with h; subst h; exact I
  | 2, h => injection h with h; subst h; exact I
  | 3, h => injection h with h; subst h; exact I
  | 4, h => injection h with h; subst h; exact I
  | 5, h => injection h with h; subst h; exact I
  | 6, h => injection h with h; subst h; exact I
  | n + 7, h => cases h) t3
 obtain ⟨p, b, cb, rfl, lb, mb, rb, hb⟩ := open_lps (P := Tryz.prog) Tryz.underlying23 Tryz.underlying75 (by kernel_rfl) (hone_of (by kernel_rfl)) I I S t4
 obtain ⟨g, c, cc, rfl, lc, mc, rc, hc⟩ := open_tags (P := Tryz.prog) Tryz.underlying24 S (by kernel_rfl) t5
 refine ⟨⟨strV (V.getD 0 (.bool false)), intV (V.getD 1 (.bool false)), intV (V.getD 2 (.bool false)), l, p, g⟩, a, b, c, ca, cb, cc, list6 hl e0 e1 e2 e3 e4 e5, ⟨ra, rb, rc, z0, hb, hc, by show ((l.length : Nat) : Int) ≤ _; omega, by show ((p.length : Nat) : Int) ≤ _; omega, by show ((g.length : Nat) : Int) ≤ _; omega⟩, la, lb, lc⟩
set_option maxRecDepth 100000 in
theorem open_act {H : Type} {enc : TypeId × Value → H} {W : World} {r : Reach} {b0 base : Nat} {v : Value} {d : DataW H} {p : List MemPlace}
 (hv : Value.okWide Tryz.prog W r b0 26 v) (h : DataW.Trod enc Tryz.prog W base (fun _ => true) true 26 v d p) :
 ∃ (A : Acv) (a b c : Option Addr) (ca cb cc : Nat), v = actV A a b c ca cb cc ∧ ActIn W A a b c ∧ A.sm.length ≤ ca ∧ A.lp.length ≤ cb ∧ A.tg.length ≤ cc := by
 have hs := Tryz.underlying26
 obtain ⟨cs, rfl, hsz⟩ := okWide_struct hs hv
 have h6 : cs.size = 6 := hsz.trans (by kernel_rfl)
 obtain ⟨fuel, hf⟩ := h
 obtain ⟨xs, n, _, _, _, hlen, hg⟩ := DataW.trod_struct hs hf
 have hlen6 : xs.length = 6 := hlen
 have e : cs.toList.length = 6 := by simpa using h6
 have fld : ∀ (j : Nat) (f : Field), (Tryz.prog.fieldsOf 26)[j]? = some f → ∃ u n y, cs.toList[j]? = some u ∧ DataW.trod enc Tryz.prog W base (fun _ => true) true n f.type [u] = some y := fun j f hj => by
  simp only [Program.fieldsOf, Tryz.underlying26] at hj
  obtain ⟨o, k⟩ := hone_of (P := Tryz.prog) (by kernel_rfl) j f hj
  have h1 := hg j f hj
  rw [o, k] at h1
  have hlt : j < 6 := (Array.getElem?_eq_some_iff.1 hj).1
  have hjl : j < cs.toList.length := by omega
  have e1 : (cs.toList.drop j).take 1 = [cs.toList[j]] := by rw [List.drop_eq_getElem_cons hjl]; rfl
  rw [show (Value.agg cs).cells.toList = cs.toList from rfl, e1, List.getElem?_eq_getElem (by omega)] at h1
  exact ⟨_, _, _, List.getElem?_eq_getElem hjl, h1⟩
 obtain ⟨A, a, b, c, ca, cb, cc, he, ha, l1, l2, l3⟩ := act_cells e fld
 refine ⟨A, a, b, c, ca, cb, cc, ?_, ha, l1, l2, l3⟩
 unfold actV
 congr 1
 rw [← Array.toList_inj, he]
end Go.Proofs.YtjnfccphodjfiaaGreat

/- A text of this claim. -/
namespace Go.Proofs.YtjnfccphodjfiaaGreat
open Go.ChangeShapes Go.WideShapes Go.ChangeAt Go.RowKit Go.Deep
open Tr (Ed)
theorem readEdits : Tryz.prog.readableRec 36 = true := by kernel_rfl
theorem rowEdits : 36 < Tryz.prog.types.size := of_decide_eq_true (by kernel_rfl)
theorem list5 {V : List Value} {a b c d e : Value} (hl : V.length = 5) (h0 : V[0]? = some a) (h1 : V[1]? = some b) (h2 : V[2]? = some c) (h3 : V[3]? = some d) (h4 : V[4]? = some e) : V = [a, b, c, d, e] := by
 match V, hl with
 | [x, y, z, u, v], _ => simp at h0 h1 h2 h3 h4; rw [h0, h1, h2, h3, h4]
theorem slice_one {P : Program} {W : World} {r : Reach} {b0 : Nat} {t e : TypeId} {v : Value} (hu : P.underlying t = some (.slice e)) (hv : Value.okWide P W r b0 t v) : v.cells.toList = [v] := by
 obtain ⟨a, l, c, rfl⟩ := okWide_slice hu hv
 rfl
def edOf (V : List Value) : Ed := ⟨intV (V.getD 0 (.bool false)), intV (V.getD 1 (.bool false)), intV (V.getD 2 (.bool false)), intV (V.getD 3 (.bool false)), strV (V.getD 4 (.bool false))⟩
theorem range_map_get {α : Type} (f : Nat → α) {n i : Nat} {x : α} (h : ((List.range n).map f)[i]? = some x) : i < n ∧ x = f i := by
 rw [List.getElem?_map] at h
 cases hr : (List.range n)[i]? with
 | none => rw [hr] at h; cases h
 | some y =>
  rw [hr] at h
  obtain ⟨h1, h2⟩ := List.getElem?_eq_some_iff.1 hr
  simp only [List.length_range] at h1
  simp only [List.getElem_range] at h2
  subst h2
  simp only [Option.map_some, Option.some.injEq] at h
  exact ⟨h1, h.symm⟩
set_option maxRecDepth 100000 in
theorem open_edits {H : Type} {enc : TypeId × Value → H} {W : World} {r : Reach} {b0 base : Nat} {v : Value} {d : DataW H} {p : List MemPlace}
 (hv : Value.okWide Tryz.prog W r b0 36 v) (h : DataW.Trod enc Tryz.prog W base (fun _ => true) true 36 v d p) :
 ∃ (l : List Ed) (a : Option Addr) (c : Nat), v = .slice a l.length c ∧ l.length ≤ c ∧ ERow W a l ∧ ∀ x, x ∈ l → x.s.size ≤ maxLen := by
 obtain ⟨fuel, hf⟩ := h
 rw [slice_one Tryz.underlying36 hv] at hf
 obtain ⟨a0, n0, c0, V0, rfl, l0, m0, R0, F0⟩ := open_rowK Tryz.underlying36 Tryz.underlying28 (by kernel_rfl) (by decide) (hone_of (by kernel_rfl)) hf
 have S := Tryz.underlying9
 have I := Tryz.underlying3
 have F : ∀ i, i < n0 → V0 i = edC (edOf (V0 i)) ∧ (edOf (V0 i)).s.size ≤ maxLen := fun i hi =>
  ⟨list5 (F0 i hi).1 (field_int I ((F0 i hi).2 0 _ rfl)) (field_int I ((F0 i hi).2 1 _ rfl)) (field_int I ((F0 i hi).2 2 _ rfl)) (field_int I ((F0 i hi).2 3 _ rfl)) (field_str S ((F0 i hi).2 4 _ rfl)).1, (field_str S ((F0 i hi).2 4 _ rfl)).2⟩
 refine ⟨(List.range n0).map fun i => edOf (V0 i), a0, c0, by rw [List.length_map, List.length_range], by rw [List.length_map, List.length_range]; exact l0, ⟨fun hl => ?_⟩, fun x hx => ?_⟩
 · rw [List.length_map, List.length_range] at hl
   obtain ⟨b, off, e, hb, hc⟩ := R0.here hl
   refine ⟨b, off, e, hb, fun i x hx j u hu => ?_⟩
   obtain ⟨hi, rfl⟩ := range_map_get _ hx
   have hj : j < 5 := (List.getElem?_eq_some_iff.1 hu).1
   rw [← (F i hi).1] at hu
   rw [← hu]
   exact hc i hi j hj
 · obtain ⟨i, hi, rfl⟩ := List.mem_map.1 hx
   exact (F i (List.mem_range.1 hi)).2
end Go.Proofs.YtjnfccphodjfiaaGreat
