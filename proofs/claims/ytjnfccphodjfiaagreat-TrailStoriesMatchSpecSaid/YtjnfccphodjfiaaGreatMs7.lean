/- Several texts of this claim in one. -/
import Derived.Test.YtjnfccphodjfiaaGreatMs6
import Derived.Test.YtjnfccphodjfiaaGreatMs2
namespace Go.Proofs.YtjnfccphodjfiaaGreat
set_option maxHeartbeats 8000000
set_option maxRecDepth 100000
open Go.RowKit Go.BigFrame
open Tr (inR)
def CkRet (Z : Acv) (a b c : Option Addr) (ca cb cc : Nat) (w : World) (e : Ending) (w' : World) : Prop :=
 Below w.heap.size w w' ∧ ∃ er, chkA Z = er ∧ ((er ≠ 0 ∧ e = .returned (.tuple #[ac0, .int .i64 er])) ∨ (er = 0 ∧ e = .returned (.tuple #[actV Z a b c ca cb cc, .int .i64 0]) ∧ ActIn w' Z a b c))
theorem CkRet.from {Z : Acv} {a b c : Option Addr} {ca cb cc : Nat} {w0 w w' : World} {e : Ending} (h : CkRet Z a b c ca cb cc w e w') (hb : Below w0.heap.size w0 w) (hf : ∀ g, (a = some g ∨ b = some g ∨ c = some g) → w0.heap.size ≤ g.block) : ActRet Z w0 e w' := by
 obtain ⟨h1, er, he, h2⟩ := h; refine ⟨bStp hb h1, er, he, ?_⟩; rcases h2 with h2 | ⟨h2, h3, h4⟩
 · exact Or.inl h2
 · exact Or.inr ⟨h2, a, b, c, ca, cb, cc, h3, h4, hf⟩
theorem rchecked_any (A : Acv) (a b c : Option Addr) (ca cb cc : Nat) (w : World) (h : ActIn w A a b c) :
 Calls Tryz.prog 85 #[actV A a b c ca cb cc] w fun e w' => CkRet A a b c ca cb cc w e w' := by
 obtain ⟨V0, hV0, hb0, hs0, ha0⟩ := alloc_aA w A a b c ca cb cc; obtain ⟨V1, hV1, hb1, hs1, ha1⟩ := alloc_a0 V0; rw [hs0] at ha1; have hA0 := ha0.below hb1; have HB := qH (bStp hb0 hb1); have HIN := qH (h.below HB.out); have HA0 := qH hA0; have HA1 := qH ha1; have DC := qH (rcheck2_any A a b c ca cb cc V1 HIN.out); obtain ⟨g0, g1, g2, g3, g4, g5⟩ := hA0.cell; obtain ⟨er, her⟩ : ∃ z, chkA A = z := ⟨_, rfl⟩; have HER := qH her; rw [her] at DC; have HIW := qH h; clear h hb0 hb1 ha0 ha1 hA0 hs1 her; unfold actV at DC ⊢; go_enter Tryz.func85, Tryz.ntmps85; go_upto_region 1 with (fail); clear hV0 hV1 hs0; go_wp2_with fail; refine (DC.out).mono ?_; rintro e w1 ⟨rfl, hb1⟩; have HB1 := qH hb1; have hR := HA1.out.below hb1; obtain ⟨r0, r1, r2, r3, r4, r5⟩ := hR.cell; have fr := hR.free; obtain ⟨q0, q1, q2, q3, q4, q5⟩ := (HA0.out.below hb1).cell; by_cases h0 : er = 0
 · subst h0
   obtain ⟨WF, hWF, haF, hkF⟩ := hR.store A.name A.sport A.start (.slice a A.sm.length ca) (.slice b A.lp.length cb) (.slice c A.tg.length cc); have HAF := qH haF; have HKF := qH (hkF (fun q => q = w.heap.size + 1) rfl); have HBF := qH (show Below w.heap.size w WF from by
    have h1 := bStp HB.out HB1.out; exact Kept.below h1 HKF.out h1.size (fun k hk e => by omega))
   clear haF hkF hb1 hR g0 g1 g2 g3 g4 g5; have HNE := qH (show ActIn WF A a b c from by
    exact HIW.out.below HBF.out)
   go_wp2_with fail; have q := HAF.out.cell; exact bodyPost_ret (v := .tuple #[.agg #[.string A.name, .int .i64 A.sport, .int .i64 A.start, .slice a A.sm.length ca, .slice b A.lp.length cb, .slice c A.tg.length cc], .int .i64 0]) (by simp [results, Tryz.results85, go_sem, q]) rfl ⟨HBF.out, 0, HER.out, Or.inr ⟨rfl, rfl, HNE.out⟩⟩
 · have b0 : (er != 0) = true := bTt h0
   obtain ⟨WF, hWF, haF, hkF⟩ := hR.store0; have HAF := qH haF; have HKF := qH (hkF (fun q => q = w.heap.size + 1) rfl); have HBF := qH (show Below w.heap.size w WF from by
    have h1 := bStp HB.out HB1.out; exact Kept.below h1 HKF.out h1.size (fun k hk e => by omega))
   have H0 := qH h0; clear haF hkF hb1 hR g0 g1 g2 g3 g4 g5 h0; go_wp2_with fail; have q := HAF.out.cell; exact bodyPost_ret (v := .tuple #[ac0, .int .i64 er]) (by simp [results, Tryz.results85, go_sem, q, ac0]) rfl ⟨HBF.out, er, HER.out, Or.inl ⟨H0.out, rfl⟩⟩
theorem rcut_any (A : Acv) (a b c : Option Addr) (ca cb cc : Nat) (f t : Int) (w : World) (h : ActIn w A a b c) (oA : AcOk A) :
 Calls Tryz.prog 71 #[actV A a b c ca cb cc, .int .i64 f, .int .i64 t] w fun e w' => CutRet A f t w e w' := by
 obtain ⟨V0, hV0, hb0, hs0, ha0⟩ := alloc_aA w A a b c ca cb cc; obtain ⟨V1, hV1, hb1, hs1, ha1⟩ := alloc_a0 V0; rw [hs0] at ha1; have hA0 := ha0.below hb1; have HB := qH (bStp hb0 hb1); have HSZ := qH (show V1.heap.size = w.heap.size + 2 from by omega); have HIN := qH (h.below HB.out); have HOA := qH oA; have HA1 := qH ha1; have DC := qH (fun X : Ext V1 => show Calls Tryz.prog 35 #[.agg #[.string A.name, .int .i64 A.sport, .int .i64 A.start, .slice a A.sm.length ca, .slice b A.lp.length cb, .slice c A.tg.length cc]] X.1 fun e w'' => e = .returned (.int .i64 0) ∧ ∃ Y : Ext V1, w'' = Y.1 from by
  have h := rcheck2_any A a b c ca cb cc X.1 (HIN.out.below X.2); unfold actV at h; rw [chkA_zero.2 HOA.out] at h; exact X.calls h)
 have DS := qH (fun X : Ext V1 => show Calls Tryz.prog 83 #[.agg #[.string A.name, .int .i64 A.sport, .int .i64 A.start, .slice a A.sm.length ca, .slice b A.lp.length cb, .slice c A.tg.length cc]] X.1 fun e w'' => e = .returned (.int .i64 (spanS A.sm)) ∧ ∃ Y : Ext V1, w'' = Y.1 from by
  have h := rspan2_any A a b c ca cb cc X.1 (HIN.out.sm.below X.2) (by have := HOA.out.nsm; omega); unfold actV at h; exact X.calls h)
 obtain ⟨g0, g1, g2, g3, g4, g5⟩ := hA0.cell; have A0 := Ext.ex g0; have A1 := Ext.ex g1; have A2 := Ext.ex g2; have A3 := Ext.ex g3; have A4 := Ext.ex g4; have A5 := Ext.ex g5; obtain ⟨sp, hsp⟩ : ∃ z, spanS A.sm = z := ⟨_, rfl⟩; have HSP := qH hsp; rw [hsp] at DS; have hspr := spanS_range oA.sm; rw [hsp] at hspr; clear h oA hb0 hb1 ha0 ha1 hA0 hs1 g0 g1 g2 g3 g4 g5 hsp; unfold actV; by_cases hz : A.sm.length = 0
 case pos =>
  have t0 : ((A.sm.length : Int) == 0) = true := by rw [hz]; rfl
  have t0' : (A.sm.length == 0) = true := by rw [hz]; rfl
  have HE := qH (show ¬ CutOk A f t ∧ cutE A f t = 13 from ⟨fun h => by have := h.ne; omega, by unfold cutE; rw [if_pos hz]⟩); clear hz; go_enter Tryz.func71, Tryz.ntmps71; go_upto_region 1 with (fail); clear hV0 hV1 hs0; refine ext_wp (W := V1) fun X => ?_
  go_wp2_with fail; refine (DC.out X).mono ?_; rintro e w1 ⟨rfl, Y, rfl⟩; obtain ⟨WF, hWF, haF, hkF⟩ := (HA1.out.below Y.2).store0; have HAF := qH haF; have HBF := qH (show Below w.heap.size w WF from
   have h1 := bStp HB.out Y.2
   Kept.below h1 (hkF (fun b => b = w.heap.size + 1) rfl) h1.size (fun k hk e => by omega))
  obtain ⟨r0, r1, r2, r3, r4, r5⟩ := (HA1.out.below Y.2).cell; have fr := (HA1.out.below Y.2).free; clear haF hkF; go_wp2_with fail; have q := HAF.out.cell; exact bodyPost_ret (v := .tuple #[ac0, .int .i64 13]) (by simp [results, Tryz.results71, go_sem, q, ac0]) rfl (Or.inr ⟨HE.out.1, by rw [HE.out.2]; omega, by rw [HE.out.2], HBF.out⟩)
 have t0 : ((A.sm.length : Int) == 0) = false := bFf (by omega); have t0' : (A.sm.length == 0) = false := beq_eq_false_iff_ne.2 (by omega); by_cases hr : f < 0 ∨ t ≤ f ∨ sp < t
 case pos =>
  have HE := qH (show ¬ CutOk A f t ∧ cutE A f t = 9 from ⟨fun h => by have := h.f0; have := h.ft; have := h.ts; have := HSP.out; omega, by unfold cutE; rw [if_neg hz, HSP.out, if_pos hr]⟩); by_cases h1 : f < 0
  · have u1 : decide (f < 0) = true := by rw [decide_eq_true_eq]; exact h1
    clear hr; go_enter Tryz.func71, Tryz.ntmps71; go_upto_region 1 with (fail); clear hV0 hV1 hs0; refine ext_wp (W := V1) fun X => ?_
    go_wp2_with fail; refine (DC.out X).mono ?_; rintro e w1 ⟨rfl, Y, rfl⟩; obtain ⟨WF, hWF, haF, hkF⟩ := (HA1.out.below Y.2).store0; have HAF := qH haF; have HBF := qH (show Below w.heap.size w WF from
     have h1 := bStp HB.out Y.2
     Kept.below h1 (hkF (fun b => b = w.heap.size + 1) rfl) h1.size (fun k hk e => by omega))
    obtain ⟨r0, r1, r2, r3, r4, r5⟩ := (HA1.out.below Y.2).cell; have fr := (HA1.out.below Y.2).free; clear haF hkF; go_wp2_with fail; have q := HAF.out.cell; exact bodyPost_ret (v := .tuple #[ac0, .int .i64 9]) (by simp [results, Tryz.results71, go_sem, q, ac0]) rfl (Or.inr ⟨HE.out.1, by rw [HE.out.2]; omega, by rw [HE.out.2], HBF.out⟩)
  · have u1 : decide (f < 0) = false := by rw [decide_eq_false_iff_not]; exact h1
    by_cases h2 : t ≤ f
    · have u2 : decide (t ≤ f) = true := by rw [decide_eq_true_eq]; exact h2
      clear hr; go_enter Tryz.func71, Tryz.ntmps71; go_upto_region 1 with (fail); clear hV0 hV1 hs0; refine ext_wp (W := V1) fun X => ?_
      go_wp2_with fail; refine (DC.out X).mono ?_; rintro e w1 ⟨rfl, Y, rfl⟩; obtain ⟨WF, hWF, haF, hkF⟩ := (HA1.out.below Y.2).store0; have HAF := qH haF; have HBF := qH (show Below w.heap.size w WF from
       have h1 := bStp HB.out Y.2
       Kept.below h1 (hkF (fun b => b = w.heap.size + 1) rfl) h1.size (fun k hk e => by omega))
      obtain ⟨r0, r1, r2, r3, r4, r5⟩ := (HA1.out.below Y.2).cell; have fr := (HA1.out.below Y.2).free; clear haF hkF; go_wp2_with fail; have q := HAF.out.cell; exact bodyPost_ret (v := .tuple #[ac0, .int .i64 9]) (by simp [results, Tryz.results71, go_sem, q, ac0]) rfl (Or.inr ⟨HE.out.1, by rw [HE.out.2]; omega, by rw [HE.out.2], HBF.out⟩)
    · have u2 : decide (t ≤ f) = false := by rw [decide_eq_false_iff_not]; exact h2
      have u3 : decide (sp < t) = true := dTt (by omega); clear hr; go_enter Tryz.func71, Tryz.ntmps71; go_upto_region 1 with (fail); clear hV0 hV1 hs0; refine ext_wp (W := V1) fun X => ?_
      go_wp2_with fail; refine (DC.out X).mono ?_; rintro e w1 ⟨rfl, Y, rfl⟩; go_wp2_with fail; refine (DS.out Y).mono ?_; rintro e w1 ⟨rfl, Y2, rfl⟩; obtain ⟨WF, hWF, haF, hkF⟩ := (HA1.out.below Y2.2).store0; have HAF := qH haF; have HBF := qH (show Below w.heap.size w WF from
       have h1 := bStp HB.out Y2.2
       Kept.below h1 (hkF (fun b => b = w.heap.size + 1) rfl) h1.size (fun k hk e => by omega))
      obtain ⟨r0, r1, r2, r3, r4, r5⟩ := (HA1.out.below Y2.2).cell; have fr := (HA1.out.below Y2.2).free; clear haF hkF; go_wp2_with fail; have q := HAF.out.cell; exact bodyPost_ret (v := .tuple #[ac0, .int .i64 9]) (by simp [results, Tryz.results71, go_sem, q, ac0]) rfl (Or.inr ⟨HE.out.1, by rw [HE.out.2]; omega, by rw [HE.out.2], HBF.out⟩)
 have HCK := qH (show CutOk A f t from ⟨by omega, by omega, by omega, by have := HSP.out; omega⟩); have u1 : decide (f < 0) = false := dFf (by omega); have u2 : decide (t ≤ f) = false := dFf (by omega); have u3 : decide (sp < t) = false := dFf (by omega); have DW := qH (fun (X : Ext V1) (n : Int) (h0 : 0 ≤ n) (h1 : n ≤ sp) => show Calls Tryz.prog 84 #[.agg #[.string A.name, .int .i64 A.sport, .int .i64 A.start, .slice a A.sm.length ca, .slice b A.lp.length cb, .slice c A.tg.length cc], .int .i64 n] X.1 fun e w'' => e = .returned (smV (whereS A.sm n)) ∧ Below X.1.heap.size X.1 w'' from by
  have h := rwhere_any A a b c ca cb cc n X.1 (HIN.out.sm.below X.2) HOA.out.sm HOA.out.nsm HCK.out.ne h0 (by rw [HSP.out]; exact h1); unfold actV at h; exact h)
 have hft : (0 ≤ f ∧ f < t) ∧ t ≤ sp := by omega
 clear hr; go_enter Tryz.func71, Tryz.ntmps71; go_upto_region 1 with (fail); clear hV0 hV1 hs0; refine ext_wp (W := V1) fun X => ?_
 go_wp2_with fail; refine (DC.out X).mono ?_; rintro e w1 ⟨rfl, Y, rfl⟩; go_wp2_with fail; refine (DS.out Y).mono ?_; rintro e w1 ⟨rfl, Y2, rfl⟩; obtain ⟨u, hu⟩ : ∃ z, whereS A.sm f = z := ⟨_, rfl⟩; have d1 := DW.out Y2 f (by omega) (by omega); rw [hu] at d1; have D1 := qH d1; clear d1; have HU := qH hu; clear hu; go_wp2_with fail; refine (D1.out).mono ?_; rintro e w3 ⟨rfl, hb3⟩; obtain ⟨Y3, rfl⟩ : ∃ Y3 : Ext V1, w3 = Y3.1 := ⟨⟨w3, bStp Y2.2 hb3⟩, rfl⟩; unfold smV; obtain ⟨V4, hV4⟩ : ∃ V, Y3.1.alloc (.cells #[.int .i64 u.tm, .int .i64 u.x, .int .i64 u.y, .int .i64 u.z, .int .i64 u.pu, .int .i64 u.po, .int .i64 u.st] 72) = V := ⟨_, rfl⟩; have ho4 : Own smC 7 72 V4 Y3.1.heap.size (.slice (some ⟨Y3.1.heap.size, 0, none⟩) 1 1) [u] := hV4 ▸ own_one smEl Y3.1 u (Nat.le_refl _); have hb4 : Below Y3.1.heap.size Y3.1 V4 := hV4 ▸ below_al _ _; obtain ⟨n, hn⟩ : ∃ n, A.sm.length = n := ⟨_, rfl⟩; have HN := qH hn; have hn2 : n ≤ 20000 := by have := HOA.out.nsm; omega
 have HO4 := qH ho4; have HB4 := qH hb4; have HC := qH (fun (X : Ext Y3.1) (p : Addr) (v : Value) (h : V1.cell? p = some v) => show X.1.cell? p = some v from bCel (bStp Y3.2 X.2) h); have a3 : V4.cell? ⟨w.heap.size, 3, none⟩ = some (.slice a A.sm.length ca) := A3 ⟨V4, bStp Y3.2 hb4⟩; obtain ⟨NB, hNB⟩ : ∃ q, Y3.1.heap.size = q := ⟨_, rfl⟩; have HNB := qH hNB; rw [hNB] at HO4; rw [hn] at A3 a3; clear hb3 ho4 hb4 t0 t0' u1 u2 u3 hz Y2 D1 DC DS hn; go_wp2_with fail; clear hV4 hNB a3
 go_loopw [9, 44] (fun vv iv wr => ∃ k : Nat, iv = .int .i64 k ∧ k ≤ n ∧ Hid (Own smC 7 72 wr NB vv (u :: (A.sm.take k).filter (inP f t))) ∧ ∃ X : Ext Y3.1, wr = X.1) (fun _ iv _ => n - (intOf iv).toNat)
 case atStart => exact ⟨0, rfl, by omega, qH HO4.out, ⟨V4, HB4.out⟩, rfl⟩
 case round =>
  clear HO4; obtain ⟨k, rfl, hk, HOW, X, rfl⟩ := hrel; have HLE := qH (show (u :: (A.sm.take k).filter (inP f t)).length ≤ 20001 from by
   have := List.length_filter_le (inP f t) (A.sm.take k); have h2 : (A.sm.take k).length ≤ k := by rw [List.length_take]; omega
   rw [List.length_cons]; omega)
  by_cases hlt : k < n
  · have t2 : decide ((k : Int) < (n : Int)) = true := dTt (by omega)
    have t2' : decide (k < n) = true := by simpa using hlt
    obtain ⟨x, hx⟩ : ∃ x, A.sm[k]? = some x := ⟨_, List.getElem?_eq_getElem (by rw [HN.out]; exact hlt)⟩; have HSN := qH (inP_snoc (f := f) (t := t) hx); obtain ⟨b3, o3, rfl, hb3, hd⟩ := HIN.out.sm.at hx; have e0 := HC.out X ⟨b3, o3 + k * 7, none⟩ (.int .i64 x.tm) (hd 0 _ rfl); have e1 := HC.out X ⟨b3, o3 + k * 7 + 1, none⟩ (.int .i64 x.x) (hd 1 _ rfl); have e2 := HC.out X ⟨b3, o3 + k * 7 + 2, none⟩ (.int .i64 x.y) (hd 2 _ rfl); have e3 := HC.out X ⟨b3, o3 + k * 7 + 3, none⟩ (.int .i64 x.z) (hd 3 _ rfl); have e4 := HC.out X ⟨b3, o3 + k * 7 + 4, none⟩ (.int .i64 x.pu) (hd 4 _ rfl); have e5 := HC.out X ⟨b3, o3 + k * 7 + 5, none⟩ (.int .i64 x.po) (hd 5 _ rfl); have e6 := HC.out X ⟨b3, o3 + k * 7 + 6, none⟩ (.int .i64 x.st) (hd 6 _ rfl); obtain ⟨V6, hV6, hb6, hs6, ha6⟩ := alloc_sm X.1 x; obtain ⟨q0, q1, q2, q3, q4, q5, q6⟩ := ha6.cell; have H6 := qH (bStp X.2 hb6); have HO6 := qH (HOW.out.below hb6); clear hx hb3 hd hb6 hs6 ha6; by_cases c1 : f < x.tm
    · have v1 : decide (f < x.tm) = true := by rw [decide_eq_true_eq]; exact c1
      by_cases c2 : x.tm < t
      · have v2 : decide (x.tm < t) = true := by rw [decide_eq_true_eq]; exact c2
        have HIP := qH (show inP f t x = true from by unfold inP; rw [v1, v2]; rfl); obtain ⟨V7, hV7, hb7, hs7, hl7⟩ := alloc_cells V6 #[.int .i64 x.tm, .int .i64 x.x, .int .i64 x.y, .int .i64 x.z, .int .i64 x.pu, .int .i64 x.po, .int .i64 x.st] 72; have HC7 := qH (fun j u (hj : (smC x)[j]? = some u) => show V7.cell? ⟨V6.heap.size, j, none⟩ = some u from hl7 j u (by rw [← hj]; simp [smC])); have HO7 := qH (HO6.out.below hb7); have H7 := qH (bStp H6.out hb7); clear c1 c2 hb7 hs7 hl7; go_wp2_with (at_builtin; refine append_Sm rfl _ _ rfl rfl HO7.out (p := x) rfl HC7.out (by have := HLE.out; omega) (by have := H7.out.size; have := HNB.out; omega) (fun g' c3 w8 ho8 hg8 hor => ?_)); have HO8 := qH ho8; have H8 := qH (show Below Y3.1.heap.size Y3.1 w8 from Kept.below (O := fun q => NB ≤ q) H7.out (Kept.of_grown hg8 (fun g e _ => (HO7.out.lt g e).1)) H7.out.size (fun q hq e => by have := HNB.out; omega)); clear ho8 hg8 hor hV6 hV7
        go_roundw
        case rel => exact ⟨k + 1, by go_num, by omega, qH (by rw [HSN.out, if_pos HIP.out]; exact HO8.out), ⟨w8, H8.out⟩, rfl⟩
        case measure => simp [intOf]; omega
      · have v2 : decide (x.tm < t) = false := by rw [decide_eq_false_iff_not]; exact c2
        have HIP := qH (show ¬ inP f t x = true from by unfold inP; rw [v1, v2]; simp); clear c1 c2; go_wp2_with fail
        go_roundw
        case rel => exact ⟨k + 1, by go_num, by omega, qH (by rw [HSN.out, if_neg HIP.out, List.append_nil]; exact HO6.out), ⟨V6, H6.out⟩, rfl⟩
        case measure => simp [intOf]; omega
    · have v1 : decide (f < x.tm) = false := by rw [decide_eq_false_iff_not]; exact c1
      have HIP := qH (show ¬ inP f t x = true from by unfold inP; rw [v1]; simp); clear c1; go_wp2_with fail
      go_roundw
      case rel => exact ⟨k + 1, by go_num, by omega, qH (by rw [HSN.out, if_neg HIP.out, List.append_nil]; exact HO6.out), ⟨V6, H6.out⟩, rfl⟩
      case measure => simp [intOf]; omega
  · have t2 : decide ((k : Int) < (n : Int)) = false := dFf (by omega)
    have t2' : decide (k < n) = false := by simpa using hlt
    obtain rfl : n = k := by omega
    obtain ⟨L1, hL1⟩ : ∃ z, u :: A.sm.filter (inP f t) = z := ⟨_, rfl⟩; have ho := HOW.out; rw [show A.sm.take n = A.sm from by rw [← HN.out]; exact List.take_length, hL1] at ho; have hle := HLE.out; rw [show A.sm.take n = A.sm from by rw [← HN.out]; exact List.take_length, hL1] at hle; obtain ⟨asl, cs', rfl, -, -, -⟩ := ho.row smEl; have HO := qH ho; have HLE := qH hle; obtain ⟨v, hv⟩ : ∃ z, whereS A.sm t = z := ⟨_, rfl⟩; have HCL := qH (show L1 ++ [v] = cutL A.sm f t from by rw [← hL1, ← hv, cutL_eq, HU.out]); have DV := qH (fun (Z : Ext Y3.1) => show Calls Tryz.prog 84 #[.agg #[.string A.name, .int .i64 A.sport, .int .i64 A.start, .slice a n ca, .slice b A.lp.length cb, .slice c A.tg.length cc], .int .i64 t] Z.1 fun e w'' => e = .returned (smV v) ∧ Below Z.1.heap.size Z.1 w'' from by
     have h := DW.out ⟨Z.1, bStp Y3.2 Z.2⟩ t (by omega) (by omega); rw [hv, HN.out] at h; exact h)
    have B0 := Ext.ex (A0 ⟨Y3.1, Y3.2⟩); have B1 := Ext.ex (A1 ⟨Y3.1, Y3.2⟩); have B2 := Ext.ex (A2 ⟨Y3.1, Y3.2⟩); have B3 := Ext.ex (A3 ⟨Y3.1, Y3.2⟩); have B4 := Ext.ex (A4 ⟨Y3.1, Y3.2⟩); have B5 := Ext.ex (A5 ⟨Y3.1, Y3.2⟩); clear hlt hk HOW ho hle hL1 hv A0 A1 A2 A3 A4 A5; unfold smV at DV; go_upto_region 15 with (fail); refine late_start (s := 12) (C := fun w' => ∃ Z : Ext Y3.1, w' = Z.1) (by kernel_rfl) ?_; obtain ⟨Q0, hQ0⟩ : ∃ Z : Ext Y3.1, ({ X.1 with drawn := X.1.drawn + 1 } : World) = Z.1 := ⟨⟨{ X.1 with drawn := X.1.drawn + 1 }, bStp X.2 ⟨rfl, rfl, rfl, Nat.le_refl _, fun _ _ => rfl⟩⟩, rfl⟩; have HOQ := qH (show Own smC 7 72 Q0.1 NB (.slice asl L1.length cs') L1 from hQ0 ▸ HO.out.below ⟨rfl, rfl, rfl, Nat.le_refl _, fun _ _ => rfl⟩); rw [hQ0]; clear hQ0; refine late_quiet (by kernel_rfl) (fun _ _ d _ _ h => by cases d <;> exact h) ⟨Q0, rfl⟩ [0, 1, 2, 3, 7] 9 _ _ (by kernel_rfl) (by kernel_rfl) ?_; change wpQuiet _ _ _ _ (_ :: _ :: _ :: _ :: _ :: []) _
    repeat go_big_quiet_step (fail)
    refine wpQuiet_nil ?_; refine late_do (i := 4) _ rfl (by kernel_rfl) rfl (fun K hK => ?_); go_simp; refine (DV.out Q0).mono ?_; rintro e w6 ⟨rfl, hb6⟩; obtain ⟨Q6, rfl⟩ : ∃ Z : Ext Y3.1, w6 = Z.1 := ⟨⟨w6, bStp Q0.2 hb6⟩, rfl⟩; have HO6 := qH (HOQ.out.below hb6); refine hK _ _ (fun _ => ⟨Q6, rfl⟩) ?_; clear hK K hb6
    try simp only [pS]
    refine late_do (i := 5) _ rfl (by kernel_rfl) rfl (fun K hK => ?_); go_simp; obtain ⟨V7, hV7, hb7, hs7, hl7⟩ := alloc_cells Q6.1 #[.int .i64 v.tm, .int .i64 v.x, .int .i64 v.y, .int .i64 v.z, .int .i64 v.pu, .int .i64 v.po, .int .i64 v.st] 72; rw [hV7]; have HC7 := qH (fun j u (hj : (smC v)[j]? = some u) => show V7.cell? ⟨Q6.1.heap.size, j, none⟩ = some u from hl7 j u (by rw [← hj]; simp [smC])); have HO7 := qH (HO6.out.below hb7); have H7 := qH (bStp Q6.2 hb7); refine hK _ _ (fun _ => ⟨⟨V7, H7.out⟩, rfl⟩) ?_; clear hK K hV7 hb7 hs7 hl7
    try simp only [pS]
    refine late_do (i := 6) _ rfl (by kernel_rfl) rfl (fun K hK => ?_); refine wp_append_Sm _ _ rfl rfl HO7.out (p := v) rfl HC7.out (by have := HLE.out; omega) (by have := H7.out.size; have := HNB.out; omega) (fun g' c3 w8 ho8 hg8 hor => ?_)
    try simp only [pS]
    have HO8 := qH ho8; have H8 := qH (show Below Y3.1.heap.size Y3.1 w8 from Kept.below (O := fun q => NB ≤ q) H7.out (Kept.of_grown hg8 (fun g e _ => (HO7.out.lt g e).1)) H7.out.size (fun q hq e => by have := HNB.out; omega)); refine hK _ _ (fun _ => ⟨⟨w8, H8.out⟩, rfl⟩) ?_; clear hK K ho8 hg8 hor
    try simp only [pS]
    have DP := qH (show Calls Tryz.prog 86 #[.agg #[.string A.name, .int .i64 A.sport, .int .i64 A.start, .slice a n ca, .slice b A.lp.length cb, .slice c A.tg.length cc], .slice (some ⟨g', 0, none⟩) (L1.length + 1) c3, .int .i64 f] w8 fun e w'' => MovRet (partA A (cutL A.sm f t) f) w8 e w'' from by
     have h := rmoved_any A a b c ca cb cc (cutL A.sm f t) (some ⟨g', 0, none⟩) c3 f w8 (HIN.out.below (bStp Y3.2 H8.out)) HOA.out (by rw [← HCL.out]; exact (HO8.out.rw_ smEl).1) (by have := HCK.out.len HOA.out; have := HOA.out.nsm; omega) (HCK.out.range HOA.out) (by omega) (by omega); rw [← HCL.out, List.length_append, List.length_singleton, HCL.out] at h; unfold actV at h; rw [HN.out] at h; exact h)
    refine late_do (i := 8) _ rfl (by kernel_rfl) rfl (fun K hK => ?_); go_simp; refine (DP.out).mono ?_; rintro e w10 ⟨hb10, ma, mb, mc, mca, mcb, mcc, rfl, hmin, hmf⟩; have H10 := qH (bStp H8.out hb10); have DK := qH (rchecked_any (partA A (cutL A.sm f t) f) ma mb mc mca mcb mcc w10 hmin); have HMF := qH hmf; have HB10 := qH hb10; unfold actV at DK ⊢; refine hK _ _ (fun _ => ⟨⟨w10, H10.out⟩, rfl⟩) ?_; clear hK K hmin hmf hb10
    try simp only [pS]
    refine late_do (i := 9) _ rfl (by kernel_rfl) rfl (fun K hK => ?_); go_simp; refine (DK.out).mono ?_; rintro e w9 hret0; have hret := hret0.from HB10.out HMF.out; have HRET := qH hret; obtain ⟨hb9, nm, sp', st', za, zb, zc, na, nb, nc, zca, zcb, zcc, rfl⟩ := hret.gen'; have H9 := qH (bStp H8.out hb9); refine hK _ _ (fun _ => ⟨⟨w9, H9.out⟩, rfl⟩) ?_; clear hK K hret hret0 hb9
    try simp only [pS]
    refine late_quiet (by kernel_rfl) (fun _ _ d _ _ h => by cases d <;> exact h) ⟨⟨w9, H9.out⟩, rfl⟩ [10, 11] 2 _ _ (by kernel_rfl) (by kernel_rfl) ?_; change wpQuiet _ _ _ _ (_ :: _ :: []) _
    repeat go_big_quiet_step (fail)
    refine wpQuiet_nil ?_; have hR9 := HA1.out.below (bStp Y3.2 H9.out); obtain ⟨er, her⟩ : ∃ z, chkA (partA A (cutL A.sm f t) f) = z := ⟨_, rfl⟩; rw [her]; have HER := qH her; obtain ⟨r0, r1, r2, r3, r4, r5⟩ := hR9.cell; have fr := hR9.free; obtain ⟨WF, hWF, haF, hkF⟩ := hR9.store nm sp' st' (.slice za na zca) (.slice zb nb zcb) (.slice zc nc zcc); have HAF := qH haF; have HKF := qH (hkF (fun q => q = w.heap.size + 1) rfl); clear haF hkF hR9 her; refine late_do (i := 12) _ rfl (by kernel_rfl) rfl (fun K hK => ?_); go_simp; refine hK _ _ (nOo rfl) ?_; clear hK K
    try simp only [pS]
    refine late_do (i := 13) _ rfl (by kernel_rfl) rfl (fun K hK => ?_); go_simp; refine hK _ _ (nOo rfl) ?_; clear hK K
    try simp only [pS]
    refine late_done (by kernel_rfl) ?_ _; have HBF := qH (show Below w.heap.size w WF from by
     have h1 := bStp HB.out (bStp Y3.2 H9.out); exact Kept.below h1 HKF.out h1.size (fun k hk e => by omega))
    clear hWF r0 r1 r2 r3 r4 r5 fr; go_wp2_with fail; have q := HAF.out.cell; refine bodyPost_ret (v := .tuple #[.agg #[.string nm, .int .i64 sp', .int .i64 st', .slice za na zca, .slice zb nb zcb, .slice zc nc zcc], .int .i64 er]) (by simp [results, Tryz.results71, go_sem, q]) rfl (Or.inl ⟨HCK.out, ?_⟩); have hh := HRET.out; rw [HER.out] at hh; have hs := HSZ.out; have h3 := Y3.2.size; have h8 := H8.out.size; exact hh.move HBF.out (by omega) HKF.out (by omega)
open Go.Sort Go.Lib
def zC (z : Int) : List Value := [.int .i64 z]
theorem zEl : El zC 1 := ⟨fun _ => rfl, by decide, fun x v hv => by
 simp only [zC, List.mem_cons, List.not_mem_nil, or_false] at hv; subst hv
 rfl⟩
theorem append_Z {ops : Array Oper} {rest : List Oper} {o : Oper} {a : Act} {Q : Exit → Act → World → Prop} {w : World} (hgd : o.guard = none) (s x : Operand)
 (ho : o.op = .call { callee := .builtin .append, args := #[s, x], argTypes := #[119, 119] }) {base : Nat} {v : Value} {l : List Int} (hs : a.eval s = v) (hown : Own zC 1 3 w base v l)
 {g : Nat} {p : Int} (hx : a.eval x = .slice (some ⟨g, 0, none⟩) 1 1) (h0 : w.cell? ⟨g, 0, none⟩ = some (.int .i64 p)) (hn : l.length ≤ 1000000) (hb : base ≤ w.heap.size)
 (h : ∀ g' c' w', Own zC 1 3 w' base (.slice (some ⟨g', 0, none⟩) (l.length + 1) c') (l ++ [p]) → w.grownBy w' v.ownBlock → (v.ownBlock = some g' ∨ g' = w.heap.size) → wpList Tryz.prog ops Q rest (a.put o.dst (.slice (some ⟨g', 0, none⟩) (l.length + 1) c')) w') : wpList Tryz.prog ops Q (o :: rest) a w := by
 obtain ⟨i0, hi0, hy0, hy1, hy2⟩ := info_parts (show (Tryz.prog.info? 3).map (fun i => (i.zero, i.size, i.bytes)) = some (some (.int .i64 0), 1, 8) by kernel_rfl); refine wpList_append_lies w hgd s x 119 ho base 3 i0 (.int .i64 0) 1 8 Tryz.underlying119 hi0 hy0 hy1 hy2 rfl (by decide) v l.length (l.flatMap zC) hs hown ⟨g, 0, none⟩ 1 1 (zC p) hx rfl (fun j u hu => ?_) (fun u hu => ?_) (by decide) (by unfold maxLen; omega) (by omega) hb _ rfl ?_
 · rw [addr_plus, Nat.zero_add]
   match j, hu with
   | 0, hu => exact h0.trans hu
   | n + 1, hu => cases hu
 · simp only [zC, List.mem_cons, List.not_mem_nil, or_false] at hu
   subst hu
   rfl
 · intro g' c' w' k1 k2 k3 _
   refine h g' c' w' ?_ k2 k3; unfold Own; rw [List.length_append, List.flatMap_append, show ([p].flatMap zC) = zC p from List.append_nil _]; exact k1
theorem flatZ (l : List Int) : l.flatMap zC = l.map (Value.int .i64) := by
 induction l with
 | nil => rfl
 | cons a l ih => rw [List.flatMap_cons, List.map_cons, ih]; rfl
theorem holdsZ {w : World} {base q c : Nat} {l : List Int} (h : Own zC 1 3 w base (.slice (some ⟨q, 0, none⟩) l.length c) l) : Holds (Value.int .i64) w q 0 l.toArray := by
 intro j hj; have hjl : j < l.length := by simpa using hj
 obtain ⟨hr, _, _⟩ := h.rw_ zEl; refine ⟨?_, by rw [Nat.zero_add]; exact h.free j⟩; have hc := hr.on (List.getElem?_eq_getElem hjl) 0 _ rfl; rw [Nat.mul_one, Nat.add_zero] at hc; rw [hc]; have : l.toArray[j]! = l[j] := by
  rw [getElem!_pos _ j hj]; simp
 rw [this]
def srt (l : List Int) : List Int := l.mergeSort fun x y => decide (x ≤ y)
theorem srt_len (l : List Int) : (srt l).length = l.length := List.length_mergeSort l
theorem sortZ_any (l : List Int) (a : Option Addr) (cap base : Nat) (w : World) (hown : Own zC 1 3 w base (.slice a l.length cap) l) (hl : l.length ≤ 1000000) :
 Calls Tryz.prog 187 #[.slice a l.length cap] w fun e w' =>
  e = .returned (.tuple #[]) ∧ Own zC 1 3 w' base (.slice a l.length cap) (srt l) ∧ w.grownBy w' (Value.slice a l.length cap).ownBlock := by
 by_cases h0 : l = []
 · subst h0
   have h := Tryz.slices_Sort_int_none a cap w; change Calls Tryz.prog 187 _ w _ at h; refine h.mono ?_; rintro e w' ⟨rfl, rfl⟩; exact ⟨rfl, by simpa [srt] using hown, ⟨rfl, rfl, rfl, Nat.le_refl _, fun _ _ _ => rfl⟩⟩
 · obtain ⟨q, c, he, _, hq⟩ := hown.open (List.length_pos_iff.2 h0)
   injection he with e1 e2 e3; subst e1 e3; have h := Tryz.slices_Sort_int q 0 cap l w (holdsZ hown) hq (by omega); refine h.mono ?_; rintro e w' ⟨rfl, m, os, rfl⟩; have hlen := srt_len l; unfold srt at *; obtain ⟨S, hS⟩ : ∃ S, l.mergeSort (fun x y => decide (x ≤ y)) = S := ⟨_, rfl⟩; rw [hS] at hlen ⊢; rw [putRow_map]; obtain ⟨k1, k2⟩ := own_put hown (S.toArray.map (Value.int .i64)) (by simp [hlen]) m os; rw [show (S.toArray.map (Value.int .i64)).toList = S.flatMap zC from by rw [flatZ]; simp] at k1; refine ⟨rfl, ?_, k2⟩; unfold Own; rw [hlen]; exact k1
def upI {α : Type} (F : Nat → α → α) (l : List α) (k : Nat) : List α := l.mapIdx fun i x => if i < k then F i x else x
section
variable {α : Type} (F : Nat → α → α) (l : List α)
theorem upI_zero : upI F l 0 = l := by
 unfold upI
 apply List.ext_getElem?
 intro i; rw [List.getElem?_mapIdx]
 cases l[i]? <;> simp
theorem upI_all : upI F l l.length = l.mapIdx F := by
 unfold upI
 apply List.ext_getElem?
 intro i; rw [List.getElem?_mapIdx, List.getElem?_mapIdx]
 cases h : l[i]? with
 | none => rfl
 | some x => simp [(List.getElem?_eq_some_iff.1 h).1]
theorem upI_len (k : Nat) : (upI F l k).length = l.length := by
 unfold upI; rw [List.length_mapIdx]
theorem upI_at (k : Nat) : (upI F l k)[k]? = l[k]? := by
 unfold upI; rw [List.getElem?_mapIdx]
 cases l[k]? <;> simp
theorem upI_set (k : Nat) (x : α) (hx : l[k]? = some x) : (upI F l k).set k (F k x) = upI F l (k + 1) := by
 apply List.ext_getElem?
 intro i; rw [List.getElem?_set]; have hk := (List.getElem?_eq_some_iff.1 hx).1; unfold upI; rw [List.getElem?_mapIdx, List.getElem?_mapIdx, List.length_mapIdx]; by_cases e : k = i
 · subst e
   rw [if_pos rfl, if_pos hk, hx]; simp
 · rw [if_neg e]
   cases h : l[i]? with
   | none => rfl
   | some y =>
    simp only [Option.map_some]
    congr 1
    by_cases h2 : i < k
    · rw [if_pos h2, if_pos (by omega)]
    · rw [if_neg h2, if_neg (by omega)]
end
def LvRet (Z : Acv) (w : World) (e : Ending) (w' : World) : Prop :=
 Below w.heap.size w w' ∧ ∃ a b c ca cb cc, e = .returned (.tuple #[actV Z a b c ca cb cc, .int .i64 0]) ∧ ActIn w' Z a b c ∧ ∀ g, (a = some g ∨ b = some g ∨ c = some g) → w.heap.size ≤ g.block
end Go.Proofs.YtjnfccphodjfiaaGreat
namespace Go.Proofs.YtjnfccphodjfiaaGreat
set_option maxHeartbeats 8000000
set_option maxRecDepth 100000
open Go.RowKit Go.BigFrame
open Tr (inR Ed)
theorem winZ_len (l : List Sm) (w i : Nat) : (winZ l w i).length = min (i + w + 1) l.length - (i - w) := by
 unfold winZ; rw [List.length_map, List.length_drop, List.length_take]; omega
theorem winZ_take {l : List Sm} {w i j : Nat} {x : Sm} (hj : j < min (i + w + 1) l.length - (i - w)) (hx : l[i - w + j]? = some x) : (winZ l w i).take (j + 1) = (winZ l w i).take j ++ [x.z] := by
 rw [List.take_add_one]
 congr 1
 unfold winZ; rw [List.getElem?_map, List.getElem?_drop, List.getElem?_take_of_lt (by omega), hx]
 rfl
theorem mid_at {zs : List Int} {m : Nat} (h : zs.length = m) (h0 : 0 < m) : (srt zs)[(m - 1) / 2]? = some (midL zs) := by
 have hl := srt_len zs; unfold midL srt at *; rw [h] at hl ⊢; rw [List.getElem?_eq_getElem (by rw [hl]; omega), List.getD_eq_getElem?_getD, List.getElem?_eq_getElem (by rw [hl]; omega)]
 rfl
theorem level_any (A : Acv) (a b c : Option Addr) (ca cb cc : Nat) (nn : Nat) (w : World) (h : ActIn w A a b c) (oA : AcOk A) (hca : A.sm.length ≤ ca) (hnn : nn ≤ 50) :
 Calls Tryz.prog 184 #[actV A a b c ca cb cc, .int .i64 (nn : Int)] w fun e w' => LvRet { A with sm := levelS A.sm nn } w e w' := by
 obtain ⟨V0, hV0, hb0, hs0, ha0⟩ := alloc_aA w A a b c ca cb cc; obtain ⟨V1, hV1, hb1, hs1, ha1⟩ := alloc_a0 V0; rw [hs0] at ha1; have hA0 := ha0.below hb1; have HB := qH (bStp hb0 hb1); have HSZ := qH (show V1.heap.size = w.heap.size + 2 from by omega); have HIN := qH (h.below HB.out); have HIW := qH h.sm; have HOA := qH oA; have HA1 := qH ha1; have DC := qH (show Calls Tryz.prog 32 #[.agg #[.string A.name, .int .i64 A.sport, .int .i64 A.start, .slice a A.sm.length ca, .slice b A.lp.length cb, .slice c A.tg.length cc]] V1 fun e w'' => e = .returned (.int .i64 0) ∧ Below V1.heap.size V1 w'' from by
  have h := check_any A a b c ca cb cc V1 HIN.out; unfold ChkG actV at h; rw [chkA_zero.2 HOA.out] at h; exact h)
 have DI := qH (fun W => (show Calls Tryz.prog 186 #[.int .i64 (nn : Int), .int .i64 0, .int .i64 50] W fun e w' => e = .returned (.bool true) ∧ W = w' from by
  have h := kin_any (nn : Int) 0 50 W; rw [show inR (nn : Int) 0 50 = true from inR_iff.2 (by omega)] at h; exact h))
 have HA0 := qH hA0; obtain ⟨g0, g1, g2, g3, g4, g5⟩ := hA0.cell; clear h oA hb0 hb1 ha0 ha1 hA0 hs1; unfold actV; go_enter Tryz.func184, Tryz.ntmps184; go_upto_region 1 with (fail); clear hV0 hV1 hs0; go_wp2_with fail; refine (DC.out).mono ?_; rintro e w1 ⟨rfl, hb1⟩; have HB1 := qH hb1; have DCL := qH (show Calls Tryz.prog 33 #[.agg #[.string A.name, .int .i64 A.sport, .int .i64 A.start, .slice a A.sm.length ca, .slice b A.lp.length cb, .slice c A.tg.length cc]] w1 fun e w'' => CloneRet A w1 e w'' from by
  have h := cloneA_any A a b c ca cb cc w1 (HIN.out.below hb1) (by have := HOA.out.nsm; omega) (by have := HOA.out.nlp; omega) (by have := HOA.out.ntg; omega); unfold actV at h; exact h)
 obtain ⟨q0, q1, q2, q3, q4, q5⟩ := (HA0.out.below hb1).cell; clear hb1 g0 g1 g2 g3 g4 g5; go_wp2_with fail; refine (DI.out _).mono ?_; rintro e w2 ⟨rfl, rfl⟩; go_wp2_with fail; refine (DCL.out).mono ?_; unfold CloneRet; rintro e w2 ⟨⟨a1, b1, c1, ca1, cb1, cc1, rfl, ho3⟩, hb2⟩; unfold actV; obtain ⟨T, hT⟩ : ∃ T, w2.heap.size = T := ⟨_, rfl⟩; obtain ⟨W, hW, hbW, hsW, haW⟩ := alloc_ac w2 A.name A.sport A.start (.slice a1 A.sm.length ca1) (.slice b1 A.lp.length cb1) (.slice c1 A.tg.length cc1); obtain ⟨D0, hD0⟩ : ∃ D0, w1.heap.size = D0 := ⟨_, rfl⟩; rw [hT] at haW; rw [hD0] at ho3; have HT := qH hT; have HD := qH hD0; have HO3 := qH ho3; have HB2 := qH (show Below w.heap.size w W from bStp (bStp HB.out HB1.out) (bStp hb2 hbW)); have HBV := qH (show Below V1.heap.size V1 W from bStp HB1.out (bStp hb2 hbW)); have HBW := qH hbW; have HSW := qH (show w.heap.size + 2 ≤ D0 ∧ D0 ≤ T ∧ T < W.heap.size from by
  have := HSZ.out; have := HB1.out.size; have := hb2.size; have := haW.lt; omega)
 obtain ⟨ns, hn⟩ : ∃ n, A.sm.length = n := ⟨_, rfl⟩; have HN := qH hn; have hns : ns ≤ 20000 := by have := HOA.out.nsm; omega
 have HSO := qH (show Own smC 7 72 W D0 (.slice a1 ns ca1) A.sm from by
  obtain ⟨B1, B2, hB1, hB2, hos, _, _, _, _⟩ := ho3.ex; rw [hn] at hos; exact hos.below hbW)
 have HAB := qH (show AcB W T A.name A.sport A.start (.slice a1 ns ca1) (.slice b1 A.lp.length cb1) (.slice c1 A.tg.length cc1) from hn ▸ haW); have HBX := qH (HA0.out.below HBV.out); rw [hn] at hca HBX q3 hW ⊢; clear ho3 hb2 hbW hsW haW hD0 hn q0 q1 q2 q4 q5; obtain ⟨y0, y1, y2, y3, y4, y5⟩ := HAB.out.cell; go_upto_region 7 with (fail); clear hW q3; go_wp2_with fail; clear y0 y1 y2 y3 y4 y5; have HLT := qH (fun q (hq : (Value.slice a1 ns ca1).ownBlock = some q) => show D0 ≤ q ∧ q < T from by
  have h := HSO.out.lt q hq; obtain ⟨B1, B2, hB1, hB2, hos, _, _, _, _⟩ := HO3.out.ex; have h2 := (hos.lt q (by rw [HN.out]; exact hq)).2; rw [HT.out] at h2; exact ⟨h.1, h2⟩)
 go_loopw [27] (fun iv wr => ∃ k : Nat, iv = .int .i64 k ∧ k ≤ ns ∧ Hid (Own smC 7 72 wr D0 (.slice a1 ns ca1) (upI (levS A.sm nn) A.sm k)) ∧ ∃ Z : ExtO (fun q => (Value.slice a1 ns ca1).ownBlock = some q) W, wr = Z.1) (fun iv _ => ns - (intOf iv).toNat)
 case atStart => exact ⟨0, rfl, by omega, qH (by rw [upI_zero]; exact HSO.out), ⟨W, Kept.refl _ _⟩, rfl⟩
 case round =>
  obtain ⟨k, rfl, hk, HO, Z, rfl⟩ := hrel; have hac := HAB.out.kept Z.2 (fun e => by have := (HLT.out T e).2; omega); have hbx := HBX.out.kept Z.2 (fun e => by have := (HLT.out _ e).1; have := HSW.out; omega); by_cases hlt : k < ns
  · have t5 : decide ((k : Int) < (ns : Int)) = true := dTt (by omega)
    have t5' : decide (k < ns) = true := by simpa using hlt
    obtain ⟨x, hx⟩ : ∃ x, A.sm[k]? = some x := ⟨_, List.getElem?_eq_getElem (by rw [HN.out]; exact hlt)⟩; have HX := qH hx; have j3 := hac.cell.2.2.2.1; have x3 := hbx.cell.2.2.2.1; obtain ⟨lo, hlo⟩ : ∃ lo, k - nn = lo := ⟨_, rfl⟩; obtain ⟨hi, hhi⟩ : ∃ hi, min (k + nn + 1) ns = hi := ⟨_, rfl⟩; have e1 : IntKind.i64.wrap ((k : Int) - (nn : Int)) = (k : Int) - (nn : Int) := tm_wrap (by omega) (by omega); have e2 : max ((k : Int) - (nn : Int)) 0 = (lo : Int) := by omega
    have e3 : IntKind.i64.wrap ((k : Int) + (nn : Int)) = (k : Int) + (nn : Int) := tm_wrap (by omega) (by omega); have e4 : IntKind.i64.wrap ((k : Int) + (nn : Int) + 1) = (k : Int) + (nn : Int) + 1 := tm_wrap (by omega) (by omega); have e5 : min ((k : Int) + (nn : Int) + 1) (ns : Int) = (hi : Int) := by omega
    have h1 : lo ≤ hi := by omega
    have h2 : hi ≤ ca := by omega
    have h3 : lo < hi := by omega
    have e6 : ∃ m, hi - lo = m := ⟨_, rfl⟩; obtain ⟨m, e6⟩ := e6; have HMM := qH (show m = min (k + nn + 1) A.sm.length - (k - nn) ∧ 0 < m ∧ m ≤ 101 ∧ k - nn = lo from by rw [HN.out]; omega); obtain ⟨b3, o3, rfl, hb3, hd⟩ := HIW.out.here (by rw [HN.out]; omega); have HC := qH (fun (X : Ext Z.1) (i : Nat) (y : Sm) (hy : A.sm[i]? = some y) (j : Nat) (v : Value) (hv : (smC y)[j]? = some v) => show X.1.cell? ⟨b3, o3 + i * 7 + j, none⟩ = some v from
     bCel X.2 (Z.2.cell (fun e => by have := (HLT.out b3 e).1; have := HSW.out; omega) (bCel HB2.out (hd i y hy j v hv))))
    have hm1 : m ≤ 101 := by have := HMM.out; omega
    have HLO := qH hlo; clear hd hx hlo hhi hac hbx; go_upto_region 11 with (fail); go_wp2_with fail; clear e1 e2 e3 e4 e5 e6 h1 h2 h3 j3 x3
    go_loopw [9, 46] (fun vv iv wr => ∃ j : Nat, iv = .int .i64 j ∧ j ≤ m ∧ Hid (Own zC 1 3 wr Z.1.heap.size vv ((winZ A.sm nn k).take j)) ∧ ∃ X : Ext Z.1, wr = X.1) (fun _ iv _ => m - (intOf iv).toNat)
    case atStart => exact ⟨0, rfl, by omega, qH (Own.nil _ _ _ _ _), ⟨Z.1, Below.refl _ _⟩, rfl⟩
    case round =>
     obtain ⟨j, rfl, hj, HOW, X, rfl⟩ := hrel; by_cases hlt2 : j < m
     · have t6 : decide ((j : Int) < (m : Int)) = true := dTt (by omega)
       have t6' : decide (j < m) = true := by simpa using hlt2
       obtain ⟨y, hy⟩ : ∃ y, A.sm[lo + j]? = some y := ⟨_, List.getElem?_eq_getElem (by have := HMM.out; omega)⟩; have HTK := qH (show (winZ A.sm nn k).take (j + 1) = (winZ A.sm nn k).take j ++ [y.z] from winZ_take (by have := HMM.out; omega) (by rw [HLO.out]; exact hy)); have HTL := qH (show ((winZ A.sm nn k).take j).length = j from by rw [List.length_take, winZ_len]; have := HMM.out; omega); have e0 : X.1.cell? ⟨b3, o3 + lo * 7 + j * 7, none⟩ = some (.int .i64 y.tm) := by have h := HC.out X (lo + j) y hy 0 _ rfl; rw [show o3 + (lo + j) * 7 + 0 = o3 + lo * 7 + j * 7 by omega] at h; exact h
       have e1 : X.1.cell? ⟨b3, o3 + lo * 7 + j * 7 + 1, none⟩ = some (.int .i64 y.x) := by have h := HC.out X (lo + j) y hy 1 _ rfl; rw [show o3 + (lo + j) * 7 + 1 = o3 + lo * 7 + j * 7 + 1 by omega] at h; exact h
       have e2 : X.1.cell? ⟨b3, o3 + lo * 7 + j * 7 + 2, none⟩ = some (.int .i64 y.y) := by have h := HC.out X (lo + j) y hy 2 _ rfl; rw [show o3 + (lo + j) * 7 + 2 = o3 + lo * 7 + j * 7 + 2 by omega] at h; exact h
       have e3 : X.1.cell? ⟨b3, o3 + lo * 7 + j * 7 + 3, none⟩ = some (.int .i64 y.z) := by have h := HC.out X (lo + j) y hy 3 _ rfl; rw [show o3 + (lo + j) * 7 + 3 = o3 + lo * 7 + j * 7 + 3 by omega] at h; exact h
       have e4 : X.1.cell? ⟨b3, o3 + lo * 7 + j * 7 + 4, none⟩ = some (.int .i64 y.pu) := by have h := HC.out X (lo + j) y hy 4 _ rfl; rw [show o3 + (lo + j) * 7 + 4 = o3 + lo * 7 + j * 7 + 4 by omega] at h; exact h
       have e5 : X.1.cell? ⟨b3, o3 + lo * 7 + j * 7 + 5, none⟩ = some (.int .i64 y.po) := by have h := HC.out X (lo + j) y hy 5 _ rfl; rw [show o3 + (lo + j) * 7 + 5 = o3 + lo * 7 + j * 7 + 5 by omega] at h; exact h
       have e6 : X.1.cell? ⟨b3, o3 + lo * 7 + j * 7 + 6, none⟩ = some (.int .i64 y.st) := by have h := HC.out X (lo + j) y hy 6 _ rfl; rw [show o3 + (lo + j) * 7 + 6 = o3 + lo * 7 + j * 7 + 6 by omega] at h; exact h
       obtain ⟨V6, hV6, hb6, hs6, ha6⟩ := alloc_sm X.1 y; have p3 := ha6.cell.2.2.2.1; obtain ⟨V7, hV7, hb7, hs7, hl7⟩ := alloc_cells V6 #[.int .i64 y.z] 3; have HC7 := qH (show V7.cell? ⟨V6.heap.size, 0, none⟩ = some (.int .i64 y.z) from hl7 0 _ rfl); have HO7 := qH ((HOW.out.below hb6).below hb7); have H7 := qH (bStp (bStp X.2 hb6) hb7); clear hy hb6 hs6 ha6 hb7 hs7 hl7; go_wp2_with (at_builtin; refine append_Z rfl _ _ rfl rfl HO7.out rfl HC7.out (by have := HTL.out; have := HMM.out; omega) H7.out.size (fun g' c3 w8 ho8 hg8 hor => ?_); rw [HTL.out] at ho8 ⊢); have HO8 := qH ho8; have H8 := qH (show Below Z.1.heap.size Z.1 w8 from Kept.below (O := fun q => Z.1.heap.size ≤ q) H7.out (Kept.of_grown hg8 (fun g e _ => (HO7.out.lt g e).1)) H7.out.size (fun q hq e => by omega)); clear ho8 hg8 hor hV6 hV7 p3; go_wp2_with fail
       go_roundw
       case rel => exact ⟨j + 1, by go_num, by omega, qH (by rw [HTK.out]; exact HO8.out), ⟨w8, H8.out⟩, rfl⟩
       case measure => simp [intOf]; omega
     · have t6 : decide ((j : Int) < (m : Int)) = false := dFf (by omega)
       have t6' : decide (j < m) = false := by simpa using hlt2
       obtain rfl : m = j := by omega
       obtain ⟨WZ, hWZ⟩ : ∃ z, winZ A.sm nn k = z := ⟨_, rfl⟩; have hwl : WZ.length = m := by rw [← hWZ, winZ_len]; exact HMM.out.1.symm
       have how := HOW.out; rw [hWZ, List.take_of_length_le (by omega)] at how; obtain ⟨g9, c9, rfl, -, -⟩ := how.open (by have := HMM.out; omega); have DSO := qH (sortZ_any WZ (some ⟨g9, 0, none⟩) c9 Z.1.heap.size X.1 how (by have := HMM.out; omega)); have HOQ := qH how; have HWZ := qH hWZ; have HWL := qH hwl; rw [hwl] at DSO ⊢; clear how hWZ hwl hlt2 hj HOW; go_wp2_with fail; refine (DSO.out).mono ?_; rintro e w5 ⟨rfl, ho5, hg5⟩; have hb5 : Below Z.1.heap.size Z.1 w5 := Kept.below (O := fun q => Z.1.heap.size ≤ q) X.2 (Kept.of_grown hg5 (fun g e _ => by have := (HOQ.out.lt g (by rw [HWL.out]; exact e)).1; exact this)) X.2.size (fun q hq e => by omega); obtain ⟨mv, hmv⟩ : ∃ z, midL WZ = z := ⟨_, rfl⟩; have HMV := qH hmv; have hmid : w5.cell? ⟨g9, (m - 1) / 2, none⟩ = some (.int .i64 mv) := by
        have h := (ho5.rw_ zEl).1.on (mid_at HWL.out (by have := HMM.out; omega)) 0 _ rfl; rw [hmv, Nat.mul_one, Nat.add_zero, Nat.zero_add] at h; exact h
       obtain ⟨Y5, rfl⟩ : ∃ Y : Ext Z.1, w5 = Y.1 := ⟨⟨w5, hb5⟩, rfl⟩; have hac5 := (HAB.out.kept Z.2 (fun e => by have := (HLT.out T e).2; omega)).below Y5.2; have j3 := hac5.cell.2.2.2.1; have J3 := Ext.ex j3; have MID := Ext.ex hmid; have e1 : IntKind.i64.wrap ((m : Int) - 1) = (m : Int) - 1 := tm_wrap (by omega) (by omega); obtain ⟨md, hmd⟩ : ∃ md, (m - 1) / 2 = md := ⟨_, rfl⟩; have e2 : Int.tdiv ((m : Int) - 1) 2 = (md : Int) := by have := HMM.out; rw [Int.tdiv_eq_ediv_of_nonneg (by omega)]; omega
       have e3 : md < m := by have := HMM.out; omega
       rw [hmd] at MID; clear hmv hmid j3 hac5 ho5 hg5 hb5 hmd; go_upto_region 17 with (fail); refine late_start (s := 12) (C := fun w' => ∃ Y : Ext Y5.1, w' = Y.1) (by kernel_rfl) ?_; obtain ⟨Q0, hQ0⟩ : ∃ Y : Ext Y5.1, ({ Y5.1 with drawn := Y5.1.drawn + 1 } : World) = Y.1 := ⟨⟨{ Y5.1 with drawn := Y5.1.drawn + 1 }, ⟨rfl, rfl, rfl, Nat.le_refl _, fun _ _ => rfl⟩⟩, rfl⟩; rw [hQ0]; clear hQ0; refine late_quiet (by kernel_rfl) (fun _ _ d _ _ h => by cases d <;> exact h) ⟨Q0, rfl⟩ [0, 1, 2, 3, 4] 8 _ _ (by kernel_rfl) (by kernel_rfl) ?_; change wpQuiet _ _ _ _ (_ :: _ :: _ :: _ :: _ :: []) _
       repeat go_big_quiet_step (fail)
       refine wpQuiet_nil ?_; refine late_do (i := 5) _ rfl (by kernel_rfl) rfl (fun K hK => ?_); go_simp; refine hK _ _ (fun _ => ⟨Q0, rfl⟩) ?_; clear hK K
       try simp only [pS]
       refine late_quiet (by kernel_rfl) (fun _ _ d _ _ h => by cases d <;> exact h) ⟨Q0, rfl⟩ [6, 7] 5 _ _ (by kernel_rfl) (by kernel_rfl) ?_; change wpQuiet _ _ _ _ (_ :: _ :: []) _
       repeat go_big_quiet_step (fail)
       refine wpQuiet_nil ?_; refine late_quiet (by kernel_rfl) (fun _ _ d _ _ h => by cases d <;> exact h) ⟨Q0, rfl⟩ [8, 9] 3 _ _ (by kernel_rfl) (by kernel_rfl) ?_; change wpQuiet _ _ _ _ (_ :: _ :: []) _
       repeat go_big_quiet_step (fail)
       refine wpQuiet_nil ?_; have hlenU := upI_len (levS A.sm nn) A.sm k; have hat := (upI_at (levS A.sm nn) A.sm k).trans HX.out; obtain ⟨q, c', he, -, hq2⟩ := HO.out.open (by rw [hlenU, HN.out]; omega); injection he with he1 he2 he3; subst he1; subst he3; have ho5 := (HO.out.below (bStp Y5.2 Q0.2) : Own smC 7 72 Q0.1 D0 (.slice (some ⟨q, 0, none⟩) ns ca1) (upI (levS A.sm nn) A.sm k)); have f5 := ho5.free (k * 7 + 3); have c5 : Q0.1.cell? ⟨q, k * 7 + 3, none⟩ = some (.int .i64 x.z) := by
        have h := (ho5.rw_ smEl).1.on hat 3 _ rfl
        simpa using h
       obtain ⟨hos, hks⟩ := ho5.set smEl (j := 3) hat (by decide) (y := levS A.sm nn k x) (u := .int .i64 mv) (by rw [← HMV.out, ← HWZ.out]; rfl); obtain ⟨W9, hW9⟩ : ∃ z, Q0.1.setCell ⟨q, k * 7 + 3, none⟩ (.int .i64 mv) = z := ⟨_, rfl⟩; rw [hW9] at hos hks; rw [upI_set _ _ _ _ HX.out] at hos; have HOS := qH hos; have HKS := qH (((Z.2.trans (Kept.of_below Y5.2)).trans (Kept.of_below Q0.2)).trans (show Kept (fun x => (Value.slice (some ⟨q, 0, none⟩) ns ca1).ownBlock = some x) Q0.1 W9 from ⟨hks.os, hks.tape, hks.output, hks.size, fun x hx ho => hks.block x hx (fun e => ho (by rw [e]; rfl))⟩)); clear ho5 hos hks hat hlenU he2 hq2; refine late_quiet (by kernel_rfl) (fun _ _ d _ _ h => by cases d <;> exact h) ⟨Q0, rfl⟩ [10, 11] 1 _ _ (by kernel_rfl) (by kernel_rfl) ?_; change wpQuiet _ _ _ _ (_ :: _ :: []) _
       repeat go_big_quiet_step (fail)
       refine wpQuiet_nil ?_; refine late_do (i := 12) _ rfl (by kernel_rfl) rfl (fun K hK => ?_); go_simp; refine hK _ _ (nOo rfl) ?_; clear hK K
       try simp only [pS]
       refine late_done (by kernel_rfl) ?_ _; clear c5 f5 hW9 J3 MID e1 e2 e3; go_wp2_with fail
       go_roundw
       case rel => exact ⟨k + 1, by go_num, by omega, HOS, ⟨W9, HKS.out⟩, rfl⟩
       case measure => simp [intOf]; omega
  · have t5 : decide ((k : Int) < (ns : Int)) = false := dFf (by omega)
    have t5' : decide (k < ns) = false := by simpa using hlt
    obtain rfl : ns = k := by omega
    have hLen : (levelS A.sm nn).length = ns := by unfold levelS; rw [List.length_mapIdx, HN.out]
    have HOF := qH (show Own smC 7 72 Z.1 D0 (.slice a1 ns ca1) (levelS A.sm nn) from by
     have h := HO.out; rw [show upI (levS A.sm nn) A.sm ns = levelS A.sm nn from by rw [← HN.out, upI_all]; rfl] at h; exact h)
    have HLEN := qH hLen; obtain ⟨y0, y1, y2, y3, y4, y5⟩ := hac.cell; have hR := (HA1.out.below HBV.out).kept Z.2 (fun e => by have := (HLT.out _ e).1; have := HSW.out; omega); obtain ⟨r0, r1, r2, r3, r4, r5⟩ := hR.cell; have fr := hR.free; obtain ⟨WF, hWF, haF, hkF⟩ := hR.store A.name A.sport A.start (.slice a1 ns ca1) (.slice b1 A.lp.length cb1) (.slice c1 A.tg.length cc1); have HAF := qH haF; have HKF := qH (hkF (fun q => q = w.heap.size + 1) rfl); have HBF := qH (show Below w.heap.size w WF from by
     have h1 : Below w.heap.size w Z.1 := Kept.below HB2.out Z.2 HB2.out.size (fun q hq e => by have := (HLT.out q e).1; have := HSW.out; omega); exact Kept.below h1 HKF.out h1.size (fun k hk e => by omega))
    have HAI := qH (show ActIn WF { A with sm := levelS A.sm nn } a1 b1 c1 ∧ ∀ g, (a1 = some g ∨ b1 = some g ∨ c1 = some g) → D0 ≤ g.block from by
     obtain ⟨B1, B2, hB1, hB2, hos, hs, hol, hl, hot⟩ := HO3.out.ex; obtain ⟨l1, _, l3⟩ := hol.rw_ lpEl; obtain ⟨t1, _, t3⟩ := hot.rw_ tgEl; have hof : Own smC 7 72 WF D0 (.slice a1 ns ca1) (levelS A.sm nn) := HOF.out.keepO HKF.out (fun q hq e => by have := (HLT.out q hq).1; have := HSW.out; omega); obtain ⟨s1, _, s3⟩ := hof.rw_ smEl; have hsz := HSW.out; have hl1 : ∀ bb off, b1 = some ⟨bb, off, none⟩ → B1 ≤ bb := fun bb off e => (l3 _ e).1
     have hl2 : ∀ bb off, c1 = some ⟨bb, off, none⟩ → B2 ≤ bb := fun bb off e => (t3 _ e).1
     have hap : ∀ q, (Value.slice a1 ns ca1).ownBlock = some q → q < B1 := fun q hq => hs q (by rw [HN.out]; exact hq)
     refine ⟨⟨s1, ((l1.below HBW.out).kept Z.2 (fun bb off e h => by have := hl1 bb off e; have := hap bb h; omega)).kept HKF.out (fun bb off e h => by have := hl1 bb off e; omega), ((t1.below HBW.out).kept Z.2 (fun bb off e h => by have := hl2 bb off e; have := hap bb h; omega)).kept HKF.out (fun bb off e h => by have := hl2 bb off e; omega), HIN.out.name, HIN.out.titles, HIN.out.tags, ?_, HIN.out.nlp, HIN.out.ntg⟩, ?_⟩
     · show ((levelS A.sm nn).length : Int) ≤ _
       rw [HLEN.out]; omega
     · rintro g (e | e | e)
       · exact (s3 _ e).1
       · have := (l3 _ e).1
         omega
       · have := (t3 _ e).1
         omega)
    have HD0 := qH (show w.heap.size ≤ D0 from by have := HSW.out; omega); clear hlt hk hac HO hLen haF hkF hR hbx; go_wp2_with fail; have q := HAF.out.cell; refine bodyPost_ret (v := .tuple #[.agg #[.string A.name, .int .i64 A.sport, .int .i64 A.start, .slice a1 ns ca1, .slice b1 A.lp.length cb1, .slice c1 A.tg.length cc1], .int .i64 0]) (by simp [results, Tryz.results184, go_sem, q]) rfl ⟨HBF.out, a1, b1, c1, ca1, cb1, cc1, ?_, HAI.out.1, fun g hg => Nat.le_trans HD0.out (HAI.out.2 g hg)⟩; unfold actV; simp only [HLEN.out]
theorem mapR_at (lo hi : Nat) (f : Sm → Sm) (l : List Sm) (j : Nat) : (mapR lo hi f l)[j]? = (l[j]?).map fun s => if lo ≤ j ∧ j < hi then f s else s := by
 unfold mapR; rw [List.getElem?_mapIdx]
theorem mapR_nil (lo : Nat) (f : Sm → Sm) (l : List Sm) : mapR lo lo f l = l := by
 apply List.ext_getElem?
 intro j; rw [mapR_at]
 cases l[j]? with
 | none => rfl
 | some s => simp only [Option.map_some]; rw [if_neg (by omega)]
theorem mapR_here (lo k : Nat) (f : Sm → Sm) (l : List Sm) : (mapR lo k f l)[k]? = l[k]? := by
 rw [mapR_at]
 cases l[k]? with
 | none => rfl
 | some s => simp only [Option.map_some]; rw [if_neg (by omega)]
theorem mapR_set {lo k : Nat} (f : Sm → Sm) {l : List Sm} {s : Sm} (h : lo ≤ k) (hs : l[k]? = some s) : (mapR lo k f l).set k (f s) = mapR lo (k + 1) f l := by
 apply List.ext_getElem?
 intro j; rw [List.getElem?_set, mapR_at, mapR_at, mapR_len]; have hk := (List.getElem?_eq_some_iff.1 hs).1; by_cases e : k = j
 · subst e
   rw [if_pos rfl, if_pos hk, hs]; simp only [Option.map_some]; rw [if_pos (by omega)]
 · rw [if_neg e]
   cases l[j]? with
   | none => rfl
   | some y =>
    simp only [Option.map_some]; by_cases h2 : lo ≤ j ∧ j < k
    · rw [if_pos h2, if_pos (by omega)]
    · rw [if_neg h2, if_neg (by omega)]
theorem setN_tm (c : Nat) (v : Int) (s : Sm) : (setN c v s).tm = s.tm := by
 unfold setN
 split
 · rfl
 · split <;> rfl
theorem getN_other {c d : Nat} (hc : c ≤ 2) (hd : d ≤ 2) (h : d ≠ c) (v : Int) (s : Sm) : getN d (setN c v s) = getN d s := by
 have h1 : c = 0 ∨ c = 1 ∨ c = 2 := by omega
 have h2 : d = 0 ∨ d = 1 ∨ d = 2 := by omega
 rcases h1 with rfl | rfl | rfl <;> rcases h2 with rfl | rfl | rfl <;> first | exact absurd rfl h | rfl
theorem passN_low {gap : Int} {c : Nat} {src out : List Sm} {i : Nat} {q : Sm} (hq : src[i]? = some q) (h : getN c q < 0) : passN gap c src out (i + 1) = passN gap c src out i := by
 rw [passN, hq]; simp only; rw [if_pos h]
theorem passN_first {gap : Int} {c : Nat} {src out R : List Sm} {i : Nat} {q : Sm} (hq : src[i]? = some q) (h : ¬ getN c q < 0) (hr : passN gap c src out i = (R, none)) : passN gap c src out (i + 1) = (R, some i) := by
 rw [passN, hq]; simp only; rw [if_neg h, hr]
theorem passN_far {gap : Int} {c : Nat} {src out R : List Sm} {i l : Nat} {p q : Sm} (hq : src[i]? = some q) (h : ¬ getN c q < 0) (hr : passN gap c src out i = (R, some l)) (hp : src[l]? = some p) (hg : ¬ q.tm - p.tm ≤ gap) : passN gap c src out (i + 1) = (R, some i) := by
 rw [passN, hq]; simp only; rw [if_neg h, hr]; simp only; rw [hp]; simp only; rw [if_neg hg]
theorem passN_near {gap : Int} {c : Nat} {src out R : List Sm} {i l : Nat} {p q : Sm} (hq : src[i]? = some q) (h : ¬ getN c q < 0) (hr : passN gap c src out i = (R, some l)) (hp : src[l]? = some p) (hg : q.tm - p.tm ≤ gap) : passN gap c src out (i + 1) = (mapR (l + 1) i (fillB c p q) R, some i) := by
 rw [passN, hq]; simp only; rw [if_neg h, hr]; simp only; rw [hp]; simp only; rw [if_pos hg]
theorem passN_last {gap : Int} {c : Nat} {src out : List Sm} : ∀ {i l : Nat}, (passN gap c src out i).2 = some l → l < i ∧ ∃ p, src[l]? = some p ∧ ¬ getN c p < 0
 | 0, _, h => by rw [passN] at h; cases h
 | i + 1, l, h => by
  cases hq : src[i]? with
  | none =>
   rw [passN, hq] at h; obtain ⟨h1, h2⟩ := passN_last h; exact ⟨by omega, h2⟩
  | some q =>
   by_cases h0 : getN c q < 0
   · rw [passN_low hq h0] at h
     obtain ⟨h1, h2⟩ := passN_last h; exact ⟨by omega, h2⟩
   · have : (passN gap c src out (i + 1)).2 = some i := by
      rw [passN, hq]; simp only; rw [if_neg h0]
      split
      · rfl
      · split
        · rfl
        · split <;> rfl
     rw [this] at h; injection h with h; subst h; exact ⟨by omega, q, hq, h0⟩
theorem passN_keep {gap : Int} {c : Nat} {src out : List Sm} : ∀ {i : Nat}, (∀ j, i ≤ j → (passN gap c src out i).1[j]? = out[j]?) ∧ ∀ l, (passN gap c src out i).2 = some l → (passN gap c src out i).1[l]? = out[l]?
 | 0 => ⟨fun _ _ => rfl, fun _ h => by rw [passN] at h; cases h⟩
 | i + 1 => by
  obtain ⟨ih1, ih2⟩ := @passN_keep gap c src out i
  cases hq : src[i]? with
  | none =>
   rw [show passN gap c src out (i + 1) = passN gap c src out i by rw [passN, hq]]; exact ⟨fun j hj => ih1 j (by omega), ih2⟩
  | some q =>
   by_cases h0 : getN c q < 0
   · rw [passN_low hq h0]
     exact ⟨fun j hj => ih1 j (by omega), ih2⟩
   · cases hr : passN gap c src out i with
     | mk R la =>
      rw [hr] at ih1 ih2
      cases la with
      | none =>
       rw [passN_first hq h0 hr]; exact ⟨fun j hj => ih1 j (by omega), fun l hl => by injection hl with hl; subst hl; exact ih1 _ (Nat.le_refl _)⟩
      | some l =>
       obtain ⟨hl, p, hp, _⟩ := passN_last (show (passN gap c src out i).2 = some l by rw [hr]); by_cases hg : q.tm - p.tm ≤ gap
       · rw [passN_near hq h0 hr hp hg]
         have hm : ∀ j, i ≤ j → (mapR (l + 1) i (fillB c p q) R)[j]? = out[j]? := fun j hj => by
          rw [mapR_at, ih1 j hj]
          cases out[j]? with
          | none => rfl
          | some s => simp only [Option.map_some]; rw [if_neg (by omega)]
         exact ⟨fun j hj => hm j (by omega), fun k hk => by injection hk with hk; subst hk; exact hm _ (Nat.le_refl _)⟩
       · rw [passN_far hq h0 hr hp hg]
         exact ⟨fun j hj => ih1 j (by omega), fun k hk => by injection hk with hk; subst hk; exact ih1 _ (Nat.le_refl _)⟩
theorem passN_view {β : Type} (V : Sm → β) {gap : Int} {c : Nat} (hV : ∀ v s, V (setN c v s) = V s) {src out : List Sm} : ∀ {i : Nat} (j : Nat), ((passN gap c src out i).1[j]?).map V = (out[j]?).map V
 | 0, _ => rfl
 | i + 1, j => by
  have ih := @passN_view β V gap c hV src out i j
  cases hq : src[i]? with
  | none =>
   rw [show passN gap c src out (i + 1) = passN gap c src out i by rw [passN, hq]]; exact ih
  | some q =>
   by_cases h0 : getN c q < 0
   · rw [passN_low hq h0]
     exact ih
   · cases hr : passN gap c src out i with
     | mk R la =>
      rw [hr] at ih
      cases la with
      | none =>
       rw [passN_first hq h0 hr]; exact ih
      | some l =>
       obtain ⟨hl, p, hp, _⟩ := passN_last (show (passN gap c src out i).2 = some l by rw [hr]); by_cases hg : q.tm - p.tm ≤ gap
       · rw [passN_near hq h0 hr hp hg]
         rw [← ih]; show ((mapR (l + 1) i (fillB c p q) R)[j]?).map V = (R[j]?).map V; rw [mapR_at]
         cases R[j]? with
         | none => rfl
         | some s =>
          simp only [Option.map_some]
          split
          · unfold fillB
            rw [hV]
          · rfl
       · rw [passN_far hq h0 hr hp hg]
         exact ih
theorem fillB_same {c : Nat} {p p' q q' : Sm} (h1 : (p.tm, getN c p) = (p'.tm, getN c p')) (h2 : (q.tm, getN c q) = (q'.tm, getN c q')) : fillB c p q = fillB c p' q' := by
 injection h1 with a1 a2; injection h2 with b1 b2
 funext s
 unfold fillB; rw [a1, a2, b1, b2]
theorem passN_src {gap : Int} {c : Nat} {src src' out : List Sm} (h : ∀ j : Nat, (src[j]?).map (fun s => (s.tm, getN c s)) = (src'[j]?).map (fun s => (s.tm, getN c s))) : ∀ i, passN gap c src out i = passN gap c src' out i
 | 0 => rfl
 | i + 1 => by
  have ih := passN_src (gap := gap) (out := out) h i; have hi := h i; rw [passN, passN, ih]
  cases hq : src[i]? with
  | none =>
   cases hq' : src'[i]? with
   | none => rfl
   | some q' => rw [hq, hq'] at hi; cases hi
  | some q =>
   cases hq' : src'[i]? with
   | none => rw [hq, hq'] at hi; cases hi
   | some q' =>
    rw [hq, hq'] at hi; simp only [Option.map_some] at hi; injection hi with hi; have e1 : q.tm = q'.tm := congrArg Prod.fst hi; have e2 : getN c q = getN c q' := congrArg Prod.snd hi; simp only; rw [e2]
    split
    · rfl
    · cases hr : (passN gap c src' out i).2 with
      | none => rfl
      | some l =>
       simp only; have hl := h l
       cases hp : src[l]? with
       | none =>
        cases hp' : src'[l]? with
        | none => rfl
        | some p' => rw [hp, hp'] at hl; cases hl
       | some p =>
        cases hp' : src'[l]? with
        | none => rw [hp, hp'] at hl; cases hl
        | some p' =>
         rw [hp, hp'] at hl; simp only [Option.map_some] at hl; injection hl with hl; have e3 : p.tm = p'.tm := congrArg Prod.fst hl; simp only; rw [fillB_same hl hi, e1, e3]
def pass (gap : Int) (c : Nat) (l : List Sm) : List Sm := passF gap c l l
theorem pass_view {β : Type} (V : Sm → β) {gap : Int} {c : Nat} (hV : ∀ v s, V (setN c v s) = V s) (l : List Sm) (j : Nat) : ((pass gap c l)[j]?).map V = (l[j]?).map V := passN_view V hV j
theorem pass_len (gap : Int) (c : Nat) (l : List Sm) : (pass gap c l).length = l.length := passF_len _ _ _ _
theorem fillA_pass (gap : Int) (sm : List Sm) : fillA gap sm = pass gap 2 (pass gap 1 (pass gap 0 sm)) := by
 have v1 : ∀ (v : Int) (s : Sm), (fun s : Sm => (s.tm, getN 1 s)) (setN 0 v s) = (fun s : Sm => (s.tm, getN 1 s)) s := fun v s => rfl
 have v2 : ∀ (v : Int) (s : Sm), (fun s : Sm => (s.tm, getN 2 s)) (setN 0 v s) = (fun s : Sm => (s.tm, getN 2 s)) s := fun v s => rfl
 have v3 : ∀ (v : Int) (s : Sm), (fun s : Sm => (s.tm, getN 2 s)) (setN 1 v s) = (fun s : Sm => (s.tm, getN 2 s)) s := fun v s => rfl
 have e1 : passF gap 1 sm (pass gap 0 sm) = pass gap 1 (pass gap 0 sm) := by
  show (passN gap 1 sm (pass gap 0 sm) sm.length).1 = (passN gap 1 (pass gap 0 sm) (pass gap 0 sm) (pass gap 0 sm).length).1; rw [pass_len, passN_src (fun j => (pass_view _ v1 sm j).symm)]
 have e2 : passF gap 2 sm (pass gap 1 (pass gap 0 sm)) = pass gap 2 (pass gap 1 (pass gap 0 sm)) := by
  show (passN gap 2 sm (pass gap 1 (pass gap 0 sm)) sm.length).1 = (passN gap 2 (pass gap 1 (pass gap 0 sm)) (pass gap 1 (pass gap 0 sm)) (pass gap 1 (pass gap 0 sm)).length).1; rw [pass_len, pass_len, passN_src (fun j => ((pass_view _ v3 (pass gap 0 sm) j).trans (pass_view _ v2 sm j)).symm)]
 unfold fillA; rw [show passF gap 0 sm sm = pass gap 0 sm from rfl, e1, e2]
theorem smC_num {c : Nat} (hc : c ≤ 2) (s : Sm) : (smC s)[4 + c]? = some (.int .i64 (getN c s)) := by
 have h1 : c = 0 ∨ c = 1 ∨ c = 2 := by omega
 rcases h1 with rfl | rfl | rfl <;> rfl
theorem smC_set {c : Nat} (hc : c ≤ 2) (s : Sm) (v : Int) : (smC s).set (4 + c) (.int .i64 v) = smC (setN c v s) := by
 have h1 : c = 0 ∨ c = 1 ∨ c = 2 := by omega
 rcases h1 with rfl | rfl | rfl <;> rfl
structure PassOk (c : Nat) (l : List Sm) : Prop where
 len : l.length ≤ 20000
 inc : ∀ (i j : Nat) (p q : Sm), i < j → l[i]? = some p → l[j]? = some q → p.tm < q.tm
 rng : ∀ (i : Nat) (p : Sm), l[i]? = some p → (0 ≤ p.tm ∧ p.tm ≤ 1000000) ∧ -100000000 ≤ getN c p ∧ getN c p ≤ 100000000
theorem PassOk.of {c : Nat} {l l' : List Sm} (h : PassOk c l) (hl : l'.length = l.length) (hv : ∀ j : Nat, (l'[j]?).map (fun s => (s.tm, getN c s)) = (l[j]?).map (fun s => (s.tm, getN c s))) : PassOk c l' := by
 have k : ∀ (i : Nat) (p : Sm), l'[i]? = some p → ∃ p', l[i]? = some p' ∧ p.tm = p'.tm ∧ getN c p = getN c p' := fun i p hp => by
  have h1 := hv i; rw [hp] at h1
  cases hq : l[i]? with
  | none => rw [hq] at h1; cases h1
  | some q =>
   rw [hq] at h1; simp only [Option.map_some] at h1; injection h1 with h1; exact ⟨q, rfl, congrArg Prod.fst h1, congrArg Prod.snd h1⟩
 refine ⟨by rw [hl]; exact h.len, fun i j p q hij hp hq => ?_, fun i p hp => ?_⟩
 · obtain ⟨p', hp', e1, _⟩ := k i p hp
   obtain ⟨q', hq', e2, _⟩ := k j q hq; rw [e1, e2]; exact h.inc i j p' q' hij hp' hq'
 · obtain ⟨p', hp', e1, e2⟩ := k i p hp
   rw [e1, e2]; exact h.rng i p' hp'
theorem PassOk.pass {c d : Nat} (hc : c ≤ 2) (hd : d ≤ 2) (hne : c ≠ d) {gap : Int} {l : List Sm} (h : PassOk c l) : PassOk c (pass gap d l) := by
 refine h.of (pass_len _ _ _) (pass_view _ (fun v s => ?_) l); show ((setN d v s).tm, getN c (setN d v s)) = (s.tm, getN c s); rw [setN_tm, getN_other hd hc hne]
theorem fat_any (b o : Nat) (t : Int) (w : World) (h : w.cell? ⟨b, o, none⟩ = some (.int .i64 t)) : Calls Tryz.prog 188 #[.pointer (some ⟨b, o, none⟩)] w fun e w' => e = .returned (.int .i64 t) ∧ w' = w := by
 go_enter Tryz.func188, Tryz.ntmps188; go_wp2_with fail; go_ret; exact ⟨rfl, rfl⟩
theorem fnum_0 (b o : Nat) (w : World) : Calls Tryz.prog 190 #[.pointer (some ⟨b, o, none⟩)] w fun e w' => e = .returned (.pointer (some ⟨b, o + (4 + 0), none⟩)) ∧ w' = w := by
 go_enter Tryz.func190, Tryz.ntmps190; go_wp2_with fail; go_ret; exact ⟨rfl, rfl⟩
theorem fnum_1 (b o : Nat) (w : World) : Calls Tryz.prog 191 #[.pointer (some ⟨b, o, none⟩)] w fun e w' => e = .returned (.pointer (some ⟨b, o + (4 + 1), none⟩)) ∧ w' = w := by
 go_enter Tryz.func191, Tryz.ntmps191; go_wp2_with fail; go_ret; exact ⟨rfl, rfl⟩
theorem fnum_2 (b o : Nat) (w : World) : Calls Tryz.prog 192 #[.pointer (some ⟨b, o, none⟩)] w fun e w' => e = .returned (.pointer (some ⟨b, o + (4 + 2), none⟩)) ∧ w' = w := by
 go_enter Tryz.func192, Tryz.ntmps192; go_wp2_with fail; go_ret; exact ⟨rfl, rfl⟩
def laI : Option Nat → Int
 | none => -1
 | some l => l
theorem fill_any (c : Nat) (hc : c ≤ 2) (fn : Nat) (hcf : ∀ (args : Array Value) (W : World), Sem.run Tryz.prog (callFunc fn args) W = .ok (.enter fn args) W) (DN0 : ∀ (b o : Nat) (w : World), Calls Tryz.prog fn #[.pointer (some ⟨b, o, none⟩)] w fun e w' => e = .returned (.pointer (some ⟨b, o + (4 + c), none⟩)) ∧ w' = w)
 (gap : Int) (l : List Sm) (a : Option Addr) (cap base : Nat) (w : World) (hown : Own smC 7 72 w base (.slice a l.length cap) l) (hok : PassOk c l) :
 Calls Tryz.prog 189 #[.slice a l.length cap, .int .i64 gap, .func (.func 188) #[] #[], .func (.func fn) #[] #[]] w fun e w' =>
  e = .returned (.tuple #[]) ∧ Own smC 7 72 w' base (.slice a l.length cap) (pass gap c l) ∧ Kept (fun x => (Value.slice a l.length cap).ownBlock = some x) w w' := by
 have DN := qH DN0; have HOK := qH hok; have HC := qH hc; obtain ⟨n, hn⟩ : ∃ n, l.length = n := ⟨_, rfl⟩; have hn2 : n ≤ 20000 := by have := hok.len; omega
 have HN := qH hn; rw [hn] at hown ⊢; have HOW := qH hown; clear hown hok DN0 hn hc; go_enter Tryz.func189, Tryz.ntmps189; go_wp2_with fail
 go_loopw [8, 15] (fun lv iv wr => ∃ (k : Nat) (R : List Sm) (la : Option Nat), iv = .int .i64 k ∧ k ≤ n ∧ lv = .int .i64 (laI la) ∧ Hid (passN gap c l l k = (R, la)) ∧ Hid (Own smC 7 72 wr base (.slice a n cap) R) ∧ ∃ Z : ExtO (fun x => (Value.slice a n cap).ownBlock = some x) w, wr = Z.1) (fun _ iv _ => n - (intOf iv).toNat)
 case atStart => exact ⟨0, l, none, rfl, by omega, rfl, qH rfl, qH HOW.out, ⟨w, Kept.refl _ _⟩, rfl⟩
 case round =>
  obtain ⟨k, R, la, rfl, hk, rfl, HR, HO, Z, rfl⟩ := hrel; have hRl : R.length = n := by
   have := passN_len gap c l l k; rw [HR.out, HN.out] at this; exact this
  have HRL := qH hRl; by_cases hlt : k < n
  · have t5 : decide ((k : Int) < (n : Int)) = true := dTt (by omega)
    have t5' : decide (k < n) = true := by simpa using hlt
    obtain ⟨x, hx⟩ : ∃ x, l[k]? = some x := ⟨_, List.getElem?_eq_getElem (by rw [HN.out]; exact hlt)⟩; have hRx : R[k]? = some x := by
     have := (@passN_keep gap c l l k).1 k (Nat.le_refl _); rw [HR.out] at this; rw [this]; exact hx
    obtain ⟨q, c', he, hbq, hqs⟩ := HO.out.open (by rw [hRl]; omega); injection he with he1 he2 he3; subst he1; subst he3; have hcx : Z.1.cell? ⟨q, k * 7 + (4 + c), none⟩ = some (.int .i64 (getN c x)) := by
     have h := (HO.out.rw_ smEl).1.on hRx (4 + c) _ (smC_num HC.out x)
     simpa using h
    have htx : Z.1.cell? ⟨q, k * 7, none⟩ = some (.int .i64 x.tm) := by
     have h := (HO.out.rw_ smEl).1.on hRx 0 _ rfl
     simpa using h
    have HX := qH hx; have HRX := qH hRx; obtain ⟨⟨rx0, rx1⟩, rx2, rx3⟩ := HOK.out.rng k x hx; obtain ⟨nx, hnx⟩ : ∃ z, getN c x = z := ⟨_, rfl⟩; have HNX := qH hnx; rw [hnx] at hcx rx2 rx3; clear hx hRx hRl he2 hbq hqs hnx; go_upto_region 4 with (fail); go_wp2_with fail; refine (DN.out _ _ _).mono ?_; rintro e w1 ⟨rfl, rfl⟩; by_cases hneg : nx < 0
    · have t6 : decide (nx < 0) = true := by rw [decide_eq_true_eq]; exact hneg
      have HS := qH (show passN gap c l l (k + 1) = (R, la) from by rw [passN_low HX.out (by rw [HNX.out]; exact hneg)]; exact HR.out); clear hneg; go_wp2_with fail
      go_roundw
      case rel => exact ⟨k + 1, R, la, by go_num, by omega, rfl, HS, HO, ⟨Z.1, Z.2⟩, rfl⟩
      case measure => simp [intOf]; omega
    · have t6 : decide (nx < 0) = false := by rw [decide_eq_false_iff_not]; exact hneg
      have HNG := qH (show ¬ getN c x < 0 from by rw [HNX.out]; exact hneg); clear hneg
      cases la with
      | none =>
       have HS := qH (passN_first HX.out HNG.out HR.out); unfold laI; go_upto_region 5 with (fail)
       go_quiet (fail)
       obtain ⟨Z', hZ'⟩ : ∃ Z' : ExtO (fun x => (Value.slice (some ⟨q, 0, none⟩) n cap).ownBlock = some x) w, Z.1.drewN nq = Z'.1 := ⟨⟨Z.1.drewN nq, Z.2.trans ⟨rfl, rfl, rfl, Nat.le_refl _, fun _ _ _ => rfl⟩⟩, rfl⟩; have HO' := qH (show Own smC 7 72 Z'.1 base (.slice (some ⟨q, 0, none⟩) n cap) R from hZ' ▸ HO.out); rw [hZ']; clear hZ' hcx htx; go_wp2_with fail
       go_roundw
       case rel => exact ⟨k + 1, R, some k, by go_num, by omega, rfl, HS, HO', Z', rfl⟩
       case measure => simp [intOf]; omega
      | some l0 =>
       obtain ⟨hl0, p, hp, hpn⟩ := passN_last (show (passN gap c l l k).2 = some l0 by rw [HR.out]); have hRp : R[l0]? = some p := by
        have := (@passN_keep gap c l l k).2 l0 (by rw [HR.out]); rw [HR.out] at this; rw [this]; exact hp
       have hcp : Z.1.cell? ⟨q, l0 * 7 + (4 + c), none⟩ = some (.int .i64 (getN c p)) := by
        have h := (HO.out.rw_ smEl).1.on hRp (4 + c) _ (smC_num HC.out p)
        simpa using h
       have htp : Z.1.cell? ⟨q, l0 * 7, none⟩ = some (.int .i64 p.tm) := by
        have h := (HO.out.rw_ smEl).1.on hRp 0 _ rfl
        simpa using h
       have HP := qH hp; obtain ⟨⟨rp0, rp1⟩, rp2, rp3⟩ := HOK.out.rng l0 p hp; have hinc : p.tm < x.tm := HOK.out.inc l0 k p x hl0 hp HX.out; have HT1 := qH htp; have HT2 := qH htx; have t7 : decide ((l0 : Int) ≥ 0) = true := dTt (by omega); have t7' : decide ((0 : Int) ≤ (l0 : Int)) = true := dTt (by omega); have w1 : IntKind.i64.wrap (x.tm - p.tm) = x.tm - p.tm := tm_wrap (by omega) (by omega); have hlk : l0 < n := by omega
       obtain ⟨np, hnp⟩ : ∃ z, getN c p = z := ⟨_, rfl⟩; have HNP := qH hnp; rw [hnp] at hcp rp2 rp3; clear hRp hp hpn hnp; unfold laI; by_cases hg : x.tm - p.tm ≤ gap
       · have t8 : decide (x.tm - p.tm ≤ gap) = true := by rw [decide_eq_true_eq]; exact hg
         have HG := qH hg; have HS := qH (passN_near HX.out HNG.out HR.out HP.out hg); clear hg; go_upto_region 5 with (fail)
         go_quiet (first | exact Calls.quiet_of_same (fat_any _ _ _ _ HT2.out) | exact Calls.quiet_of_same (fat_any _ _ _ _ HT1.out))
         obtain ⟨Z', hZ'⟩ : ∃ Z' : ExtO (fun x => (Value.slice (some ⟨q, 0, none⟩) n cap).ownBlock = some x) w, Z.1.drewN nq = Z'.1 := ⟨⟨Z.1.drewN nq, Z.2.trans ⟨rfl, rfl, rfl, Nat.le_refl _, fun _ _ _ => rfl⟩⟩, rfl⟩; have HO' := qH (show Own smC 7 72 Z'.1 base (.slice (some ⟨q, 0, none⟩) n cap) R from hZ' ▸ HO.out); rw [hZ']; have hcx' : Z'.1.cell? ⟨q, k * 7 + (4 + c), none⟩ = some (.int .i64 nx) := hZ' ▸ hcx; have hcp' : Z'.1.cell? ⟨q, l0 * 7 + (4 + c), none⟩ = some (.int .i64 np) := hZ' ▸ hcp; clear hZ' hcx htx hcp htp; go_upto_region 6 with (fail)
         go_quiet (exact Calls.quiet_of_same (DN.out _ _ _))
         obtain ⟨Y, hY⟩ : ∃ Y : ExtO (fun x => (Value.slice (some ⟨q, 0, none⟩) n cap).ownBlock = some x) w, Z'.1.drewN nq = Y.1 := ⟨⟨Z'.1.drewN nq, Z'.2.trans ⟨rfl, rfl, rfl, Nat.le_refl _, fun _ _ _ => rfl⟩⟩, rfl⟩; have HOY := qH (show Own smC 7 72 Y.1 base (.slice (some ⟨q, 0, none⟩) n cap) (mapR (l0 + 1) (l0 + 1) (fillB c p x) R) from by rw [mapR_nil]; exact hY ▸ HO'.out); rw [hY]; clear hY hcx' hcp'; have w2 : IntKind.i64.wrap ((l0 : Int) + 1) = ((l0 + 1 : Nat) : Int) := by rw [tm_wrap (by omega) (by omega)]; omega
         go_wp2_with fail; clear HO HO' w2
         go_loopw [12] (fun kv wr => ∃ j : Nat, kv = .int .i64 j ∧ l0 + 1 ≤ j ∧ j ≤ k ∧ Hid (Own smC 7 72 wr base (.slice (some ⟨q, 0, none⟩) n cap) (mapR (l0 + 1) j (fillB c p x) R)) ∧ ∃ Y' : ExtO (fun x => (Value.slice (some ⟨q, 0, none⟩) n cap).ownBlock = some x) w, wr = Y'.1) (fun kv _ => k - (intOf kv).toNat)
         case atStart => exact ⟨l0 + 1, rfl, by omega, by omega, HOY, Y, rfl⟩
         case round =>
          obtain ⟨j, rfl, hj1, hj2, HOJ, J, rfl⟩ := hrel; by_cases hlt2 : j < k
          · have t9 : decide ((j : Int) < (k : Int)) = true := dTt (by omega)
            have t9' : decide (j < k) = true := by simpa using hlt2
            obtain ⟨s, hs⟩ : ∃ s, R[j]? = some s := ⟨_, List.getElem?_eq_getElem (by rw [HRL.out]; omega)⟩; have htm := @passN_view Int Sm.tm gap c (fun v s => setN_tm c v s) l l k j; rw [HR.out, hs] at htm; obtain ⟨s0, hs0⟩ : ∃ s0, l[j]? = some s0 := ⟨_, List.getElem?_eq_getElem (by rw [HN.out]; omega)⟩; rw [hs0] at htm; simp only [Option.map_some] at htm; injection htm with htm; have hps : p.tm < s.tm := by rw [htm]; exact HOK.out.inc l0 j p s0 (by omega) HP.out hs0
            have hsx : s.tm < x.tm := by rw [htm]; exact HOK.out.inc j k s0 x hlt2 hs0 HX.out
            have hm : (mapR (l0 + 1) j (fillB c p x) R)[j]? = some s := by rw [mapR_here, hs]
            have hml : (mapR (l0 + 1) j (fillB c p x) R)[l0]? = some p := by
             rw [mapR_at]; have := (@passN_keep gap c l l k).2 l0 (by rw [HR.out]); rw [HR.out] at this; rw [this, HP.out]; simp only [Option.map_some]; rw [if_neg (by omega)]
            have hmk : (mapR (l0 + 1) j (fillB c p x) R)[k]? = some x := by
             rw [mapR_at, HRX.out]; simp only [Option.map_some]; rw [if_neg (by omega)]
            have T1 := qH (Ext.ex (show J.1.cell? ⟨q, l0 * 7, none⟩ = some (.int .i64 p.tm) from by
             have h := (HOJ.out.rw_ smEl).1.on hml 0 _ rfl
             simpa using h))
            have T2 := qH (Ext.ex (show J.1.cell? ⟨q, k * 7, none⟩ = some (.int .i64 x.tm) from by
             have h := (HOJ.out.rw_ smEl).1.on hmk 0 _ rfl
             simpa using h))
            have T3 := qH (Ext.ex (show J.1.cell? ⟨q, j * 7, none⟩ = some (.int .i64 s.tm) from by
             have h := (HOJ.out.rw_ smEl).1.on hm 0 _ rfl
             simpa using h))
            have hcs : J.1.cell? ⟨q, j * 7 + (4 + c), none⟩ = some (.int .i64 (getN c s)) := by
             have h := (HOJ.out.rw_ smEl).1.on hm (4 + c) _ (smC_num HC.out s)
             simpa using h
            have HMS := qH (mapR_set (fillB c p x) hj1 hs); have HM := qH hm; have w3 : IntKind.i64.wrap (s.tm - p.tm) = s.tm - p.tm := tm_wrap (by omega) (by omega); have DB := qH (fun W => between_any np nx (s.tm - p.tm) (x.tm - p.tm) W ⟨by omega, by omega⟩ ⟨by omega, by omega⟩ (by omega) (by omega) (by omega) (by omega)); have hj3 : j < n := by omega
            clear hs htm hs0 hm hml hmk; go_upto_region 10 with (fail); refine late_start (s := 31) (C := fun w' => ∃ Y : Ext J.1, w' = Y.1) (by kernel_rfl) ?_; obtain ⟨Q0, hQ0⟩ : ∃ Y : Ext J.1, ({ J.1 with drawn := J.1.drawn + 1 } : World) = Y.1 := ⟨⟨{ J.1 with drawn := J.1.drawn + 1 }, ⟨rfl, rfl, rfl, Nat.le_refl _, fun _ _ => rfl⟩⟩, rfl⟩; rw [hQ0]; clear hQ0; refine late_quiet (by kernel_rfl) (fun _ _ d _ _ h => by cases d <;> exact h) ⟨Q0, rfl⟩ [0, 1, 2, 3, 5, 6, 7, 8, 9, 10, 12, 13, 14, 15, 18, 19, 20, 21, 23, 24, 25, 26] 10 _ _ (by kernel_rfl) (by kernel_rfl) ?_; change wpQuiet _ _ _ _ (_ :: _ :: _ :: _ :: _ :: _ :: _ :: _ :: _ :: _ :: _ :: _ :: _ :: _ :: _ :: _ :: _ :: _ :: _ :: _ :: _ :: _ :: []) _
            repeat go_big_quiet_step (fail)
            refine wpQuiet_nil ?_; refine late_do (i := 4) _ rfl (by kernel_rfl) rfl (fun K hK => ?_); go_simp; refine (DN.out _ _ _).mono ?_; rintro e w6 ⟨rfl, rfl⟩; refine hK _ _ (fun _ => ⟨Q0, rfl⟩) ?_; clear hK K
            try simp only [pS]
            refine late_do (i := 11) _ rfl (by kernel_rfl) rfl (fun K hK => ?_); go_simp; refine (fat_any _ _ _ _ (T3.out Q0)).mono ?_; rintro e w6 ⟨rfl, rfl⟩; refine hK _ _ (fun _ => ⟨Q0, rfl⟩) ?_; clear hK K
            try simp only [pS]
            refine late_do (i := 16) _ rfl (by kernel_rfl) rfl (fun K hK => ?_); go_simp; refine (fat_any _ _ _ _ (T1.out Q0)).mono ?_; rintro e w6 ⟨rfl, rfl⟩; refine hK _ _ (fun _ => ⟨Q0, rfl⟩) ?_; clear hK K
            try simp only [pS]
            refine late_quiet (by kernel_rfl) (fun _ _ d _ _ h => by cases d <;> exact h) ⟨Q0, rfl⟩ [17] 6 _ _ (by kernel_rfl) (by kernel_rfl) ?_; change wpQuiet _ _ _ _ (_ :: []) _
            repeat go_big_quiet_step (fail)
            refine wpQuiet_nil ?_; refine late_do (i := 22) _ rfl (by kernel_rfl) rfl (fun K hK => ?_); go_simp; refine (fat_any _ _ _ _ (T2.out Q0)).mono ?_; rintro e w6 ⟨rfl, rfl⟩; refine hK _ _ (fun _ => ⟨Q0, rfl⟩) ?_; clear hK K
            try simp only [pS]
            refine late_do (i := 27) _ rfl (by kernel_rfl) rfl (fun K hK => ?_); go_simp; refine (fat_any _ _ _ _ (T1.out Q0)).mono ?_; rintro e w6 ⟨rfl, rfl⟩; refine hK _ _ (fun _ => ⟨Q0, rfl⟩) ?_; clear hK K
            try simp only [pS]
            refine late_quiet (by kernel_rfl) (fun _ _ d _ _ h => by cases d <;> exact h) ⟨Q0, rfl⟩ [28] 3 _ _ (by kernel_rfl) (by kernel_rfl) ?_; change wpQuiet _ _ _ _ (_ :: []) _
            repeat go_big_quiet_step (fail)
            refine wpQuiet_nil ?_; refine late_do (i := 29) _ rfl (by kernel_rfl) rfl (fun K hK => ?_); go_simp; refine (DB.out _).mono ?_; rintro e w6 ⟨rfl, hb6⟩; obtain ⟨Q6, rfl⟩ : ∃ Z : Ext J.1, w6 = Z.1 := ⟨⟨w6, bStp Q0.2 hb6⟩, rfl⟩; refine hK _ _ (fun _ => ⟨Q6, rfl⟩) ?_; clear hK K
            try simp only [pS]
            refine late_do (i := 30) _ rfl (by kernel_rfl) rfl (fun K hK => ?_); go_simp; refine hK _ _ (fun _ => ⟨Q6, rfl⟩) ?_; clear hK K
            try simp only [pS]
            have hoq := HOJ.out.below Q6.2; have fq := hoq.free (j * 7 + (4 + c)); have cq := bCel Q6.2 hcs; obtain ⟨hos, hks⟩ := hoq.set smEl (j := 4 + c) HM.out (by have := HC.out; omega) (y := fillB c p x s) (u := .int .i64 (betw np nx (s.tm - p.tm) (x.tm - p.tm))) (by rw [smC_set HC.out]; unfold fillB; rw [HNP.out, HNX.out]); obtain ⟨W9, hW9⟩ : ∃ z, Q6.1.setCell ⟨q, j * 7 + (4 + c), none⟩ (.int .i64 (betw np nx (s.tm - p.tm) (x.tm - p.tm))) = z := ⟨_, rfl⟩; rw [hW9] at hos hks; rw [HMS.out] at hos; have HOS := qH hos; have HKS := qH ((J.2.trans (Kept.of_below Q6.2)).trans (show Kept (fun x => (Value.slice (some ⟨q, 0, none⟩) n cap).ownBlock = some x) Q6.1 W9 from ⟨hks.os, hks.tape, hks.output, hks.size, fun x hx ho => hks.block x hx (fun e => ho (by rw [e]; rfl))⟩)); clear hoq hos hks; refine late_do (i := 31) _ rfl (by kernel_rfl) rfl (fun K hK => ?_); go_simp; refine hK _ _ (nOo rfl) ?_; clear hK K
            try simp only [pS]
            refine late_done (by kernel_rfl) ?_ _; clear cq fq hW9 hcs w3 T1 T2 T3 DB; go_wp2_with fail
            go_roundw
            case rel => exact ⟨j + 1, by go_num, by omega, by omega, HOS, ⟨W9, HKS.out⟩, rfl⟩
            case measure => simp [intOf]; omega
          · have t9 : decide ((j : Int) < (k : Int)) = false := dFf (by omega)
            have t9' : decide (j < k) = false := by simpa using hlt2
            obtain rfl : k = j := by omega
            clear hlt2; go_wp2_with fail
            go_roundw
            case rel => exact ⟨k + 1, mapR (l0 + 1) k (fillB c p x) R, some k, by go_num, by omega, rfl, HS, HOJ, J, rfl⟩
            case measure => simp [intOf]; omega
       · have t8 : decide (x.tm - p.tm ≤ gap) = false := by rw [decide_eq_false_iff_not]; exact hg
         have HS := qH (passN_far HX.out HNG.out HR.out HP.out hg); clear hg; go_upto_region 5 with (fail)
         go_quiet (first | exact Calls.quiet_of_same (fat_any _ _ _ _ HT2.out) | exact Calls.quiet_of_same (fat_any _ _ _ _ HT1.out))
         obtain ⟨Z', hZ'⟩ : ∃ Z' : ExtO (fun x => (Value.slice (some ⟨q, 0, none⟩) n cap).ownBlock = some x) w, Z.1.drewN nq = Z'.1 := ⟨⟨Z.1.drewN nq, Z.2.trans ⟨rfl, rfl, rfl, Nat.le_refl _, fun _ _ _ => rfl⟩⟩, rfl⟩; have HO' := qH (show Own smC 7 72 Z'.1 base (.slice (some ⟨q, 0, none⟩) n cap) R from hZ' ▸ HO.out); rw [hZ']; clear hZ' hcx htx hcp htp; go_wp2_with fail
         go_roundw
         case rel => exact ⟨k + 1, R, some k, by go_num, by omega, rfl, HS, HO', Z', rfl⟩
         case measure => simp [intOf]; omega
  · have t5 : decide ((k : Int) < (n : Int)) = false := dFf (by omega)
    have t5' : decide (k < n) = false := by simpa using hlt
    obtain rfl : n = k := by omega
    have HF := qH (show Own smC 7 72 Z.1 base (.slice a n cap) (pass gap c l) from by
     have h : pass gap c l = R := by
      show (passN gap c l l l.length).1 = R; rw [HN.out, HR.out]
     rw [h]; exact HO.out)
    clear hlt hk; go_wp2_with fail; exact bodyPost_end (v := .tuple #[]) (by simp [results, Tryz.results189, go_sem]) rfl ⟨rfl, HF.out, Z.2⟩
theorem passOk_of {A : Acv} (h : AcOk A) {c : Nat} (hc : c ≤ 2) : PassOk c A.sm := by
 refine ⟨h.nsm, fun i j p q hij hp hq => h.sm.lt hij hp hq, fun i p hp => ?_⟩; obtain ⟨h1, _, h2⟩ := h.sm.upto i p hp; have h0 := h.sm.nonneg hp; unfold rangeS at h2; simp only [Bool.and_eq_true, inR_iff] at h2; have h3 : c = 0 ∨ c = 1 ∨ c = 2 := by omega
 rcases h3 with rfl | rfl | rfl
 · show _ ∧ -100000000 ≤ p.pu ∧ p.pu ≤ 100000000
   omega
 · show _ ∧ -100000000 ≤ p.po ∧ p.po ≤ 100000000
   omega
 · show _ ∧ -100000000 ≤ p.st ∧ p.st ≤ 100000000
   omega
theorem cf_0 (args : Array Value) (W : World) : Sem.run Tryz.prog (callFunc 190 args) W = .ok (.enter 190 args) W := by
 kernel_rfl
theorem cf_1 (args : Array Value) (W : World) : Sem.run Tryz.prog (callFunc 191 args) W = .ok (.enter 191 args) W := by
 kernel_rfl
theorem cf_2 (args : Array Value) (W : World) : Sem.run Tryz.prog (callFunc 192 args) W = .ok (.enter 192 args) W := by
 kernel_rfl
theorem tfill_any (A : Acv) (a b c : Option Addr) (ca cb cc : Nat) (nn : Int) (w : World) (h : ActIn w A a b c) (oA : AcOk A) (hnn : 0 ≤ nn ∧ nn ≤ 1000000) :
 Calls Tryz.prog 185 #[actV A a b c ca cb cc, .int .i64 nn] w fun e w' => LvRet { A with sm := fillA nn A.sm } w e w' := by
 obtain ⟨V0, hV0, hb0, hs0, ha0⟩ := alloc_aA w A a b c ca cb cc; obtain ⟨V1, hV1, hb1, hs1, ha1⟩ := alloc_a0 V0; rw [hs0] at ha1; have hA0 := ha0.below hb1; have HB := qH (bStp hb0 hb1); have HSZ := qH (show V1.heap.size = w.heap.size + 2 from by omega); have HIN := qH (h.below HB.out); have HIW := qH h.sm; have HOA := qH oA; have HA1 := qH ha1; have DC := qH (show Calls Tryz.prog 32 #[.agg #[.string A.name, .int .i64 A.sport, .int .i64 A.start, .slice a A.sm.length ca, .slice b A.lp.length cb, .slice c A.tg.length cc]] V1 fun e w'' => e = .returned (.int .i64 0) ∧ Below V1.heap.size V1 w'' from by
  have h := check_any A a b c ca cb cc V1 HIN.out; unfold ChkG actV at h; rw [chkA_zero.2 HOA.out] at h; exact h)
 have DI := qH (fun W => (show Calls Tryz.prog 186 #[.int .i64 nn, .int .i64 0, .int .i64 1000000] W fun e w' => e = .returned (.bool true) ∧ W = w' from by
  have h := kin_any nn 0 1000000 W; rw [show inR nn 0 1000000 = true from inR_iff.2 (by omega)] at h; exact h))
 have HA0 := qH hA0; obtain ⟨g0, g1, g2, g3, g4, g5⟩ := hA0.cell; clear h oA hb0 hb1 ha0 ha1 hA0 hs1; unfold actV; go_enter Tryz.func185, Tryz.ntmps185; go_upto_region 1 with (fail); clear hV0 hV1 hs0; go_wp2_with fail; refine (DC.out).mono ?_; rintro e w1 ⟨rfl, hb1⟩; have HB1 := qH hb1; have DCL := qH (show Calls Tryz.prog 33 #[.agg #[.string A.name, .int .i64 A.sport, .int .i64 A.start, .slice a A.sm.length ca, .slice b A.lp.length cb, .slice c A.tg.length cc]] w1 fun e w'' => CloneRet A w1 e w'' from by
  have h := cloneA_any A a b c ca cb cc w1 (HIN.out.below hb1) (by have := HOA.out.nsm; omega) (by have := HOA.out.nlp; omega) (by have := HOA.out.ntg; omega); unfold actV at h; exact h)
 obtain ⟨q0, q1, q2, q3, q4, q5⟩ := (HA0.out.below hb1).cell; clear hb1 g0 g1 g2 g3 g4 g5; go_wp2_with fail; refine (DI.out _).mono ?_; rintro e w2 ⟨rfl, rfl⟩; go_wp2_with fail; refine (DCL.out).mono ?_; unfold CloneRet; rintro e w2 ⟨⟨a1, b1, c1, ca1, cb1, cc1, rfl, ho3⟩, hb2⟩; unfold actV; obtain ⟨T, hT⟩ : ∃ T, w2.heap.size = T := ⟨_, rfl⟩; obtain ⟨W, hW, hbW, hsW, haW⟩ := alloc_ac w2 A.name A.sport A.start (.slice a1 A.sm.length ca1) (.slice b1 A.lp.length cb1) (.slice c1 A.tg.length cc1); obtain ⟨D0, hD0⟩ : ∃ D0, w1.heap.size = D0 := ⟨_, rfl⟩; rw [hT] at haW; rw [hD0] at ho3; have HT := qH hT; have HD := qH hD0; have HO3 := qH ho3; have HB2 := qH (show Below w.heap.size w W from bStp (bStp HB.out HB1.out) (bStp hb2 hbW)); have HBV := qH (show Below V1.heap.size V1 W from bStp HB1.out (bStp hb2 hbW)); have HBW := qH hbW; have HSW := qH (show w.heap.size + 2 ≤ D0 ∧ D0 ≤ T ∧ T < W.heap.size from by
  have := HSZ.out; have := HB1.out.size; have := hb2.size; have := haW.lt; omega)
 obtain ⟨ns, hn⟩ : ∃ n, A.sm.length = n := ⟨_, rfl⟩; have HN := qH hn; have hns : ns ≤ 20000 := by have := HOA.out.nsm; omega
 have HSO := qH (show Own smC 7 72 W D0 (.slice a1 ns ca1) A.sm from by
  obtain ⟨B1, B2, hB1, hB2, hos, _, _, _, _⟩ := ho3.ex; rw [hn] at hos; exact hos.below hbW)
 have HAB := qH (show AcB W T A.name A.sport A.start (.slice a1 ns ca1) (.slice b1 A.lp.length cb1) (.slice c1 A.tg.length cc1) from hn ▸ haW); have HBX := qH (HA0.out.below HBV.out); rw [hn] at HBX q3 hW ⊢; clear ho3 hb2 hbW hsW haW hD0 hn q0 q1 q2 q4 q5; obtain ⟨y0, y1, y2, y3, y4, y5⟩ := HAB.out.cell; have HLT := qH (fun q (hq : (Value.slice a1 ns ca1).ownBlock = some q) => show D0 ≤ q ∧ q < T from by
  have h := HSO.out.lt q hq; obtain ⟨B1, B2, hB1, hB2, hos, _, _, _, _⟩ := HO3.out.ex; have h2 := (hos.lt q (by rw [HN.out]; exact hq)).2; rw [HT.out] at h2; exact ⟨h.1, h2⟩)
 have hp0 := passOk_of HOA.out (c := 0) (by omega); have hp1 := (passOk_of HOA.out (c := 1) (by omega)).pass (d := 0) (gap := nn) (by omega) (by omega) (by omega); have hp2 := ((passOk_of HOA.out (c := 2) (by omega)).pass (d := 0) (gap := nn) (by omega) (by omega) (by omega)).pass (d := 1) (gap := nn) (by omega) (by omega) (by omega); obtain ⟨l1, hl1⟩ : ∃ z, pass nn 0 A.sm = z := ⟨_, rfl⟩; obtain ⟨l2, hl2⟩ : ∃ z, pass nn 1 l1 = z := ⟨_, rfl⟩; rw [hl1] at hp1 hp2; rw [hl2] at hp2; have n1 : l1.length = ns := by rw [← hl1, pass_len, HN.out]
 have n2 : l2.length = ns := by rw [← hl2, pass_len, n1]
 have HL1 := qH hl1; have HL2 := qH hl2; have D1 := qH (show Calls Tryz.prog 189 #[.slice a1 ns ca1, .int .i64 nn, .func (.func 188) #[] #[], .func (.func 190) #[] #[]] W fun e w' => e = .returned (.tuple #[]) ∧ Own smC 7 72 w' D0 (.slice a1 ns ca1) l1 ∧ Kept (fun x => (Value.slice a1 ns ca1).ownBlock = some x) W w' from by
  have h := fill_any 0 (by omega) _ cf_0 fnum_0 nn A.sm a1 ca1 D0 W (by rw [HN.out]; exact HSO.out) hp0; rw [HN.out, HL1.out] at h; exact h)
 have D2 := qH (fun (Z : World) (ho : Own smC 7 72 Z D0 (.slice a1 ns ca1) l1) => show Calls Tryz.prog 189 #[.slice a1 ns ca1, .int .i64 nn, .func (.func 188) #[] #[], .func (.func 191) #[] #[]] Z fun e w' => e = .returned (.tuple #[]) ∧ Own smC 7 72 w' D0 (.slice a1 ns ca1) l2 ∧ Kept (fun x => (Value.slice a1 ns ca1).ownBlock = some x) Z w' from by
  have h := fill_any 1 (by omega) _ cf_1 fnum_1 nn l1 a1 ca1 D0 Z (by rw [n1]; exact ho) hp1; rw [n1, HL2.out] at h; exact h)
 have D3 := qH (fun (Z : World) (ho : Own smC 7 72 Z D0 (.slice a1 ns ca1) l2) => show Calls Tryz.prog 189 #[.slice a1 ns ca1, .int .i64 nn, .func (.func 188) #[] #[], .func (.func 192) #[] #[]] Z fun e w' => e = .returned (.tuple #[]) ∧ Own smC 7 72 w' D0 (.slice a1 ns ca1) (fillA nn A.sm) ∧ Kept (fun x => (Value.slice a1 ns ca1).ownBlock = some x) Z w' from by
  have h := fill_any 2 (by omega) _ cf_2 fnum_2 nn l2 a1 ca1 D0 Z (by rw [n2]; exact ho) hp2; rw [n2, ← HL2.out, ← HL1.out, ← fillA_pass] at h; exact h)
 clear hp0 hp1 hp2 hl1 hl2 n1 n2; go_upto_region 7 with (fail); clear hW q3; go_upto_region 8 with (fail); go_wp2_with fail; refine (D1.out).mono ?_; rintro e z1 ⟨rfl, ho1, hk1⟩; have hacZ := HAB.out.kept hk1 (fun e => by have := (HLT.out T e).2; omega); have HOZ := qH ho1; have HKZ := qH hk1; clear y0 y1 y2 y3 y4 y5; obtain ⟨y0, y1, y2, y3, y4, y5⟩ := hacZ.cell; clear ho1 hk1; go_wp2_with fail; refine (D2.out _ HOZ.out).mono ?_; rintro e z2 ⟨rfl, ho2, hk2⟩; have hacY := hacZ.kept hk2 (fun e => by have := (HLT.out T e).2; omega); have HOY := qH ho2; have HKY := qH (HKZ.out.trans hk2); clear y0 y1 y2 y3 y4 y5 ho2 hk2 hacZ; obtain ⟨y0, y1, y2, y3, y4, y5⟩ := hacY.cell; go_wp2_with fail; refine (D3.out _ HOY.out).mono ?_; rintro e z3 ⟨rfl, ho3, hk3⟩; have hac := hacY.kept hk3 (fun e => by have := (HLT.out T e).2; omega); have HOF := qH ho3; obtain ⟨Z, rfl⟩ : ∃ Z : ExtO (fun q => (Value.slice a1 ns ca1).ownBlock = some q) W, z3 = Z.1 := ⟨⟨z3, HKY.out.trans hk3⟩, rfl⟩; clear y0 y1 y2 y3 y4 y5 ho3 hk3 hacY D1 D2 D3; have HLEN := qH (show (fillA nn A.sm).length = ns from by rw [fillA_len, HN.out]); obtain ⟨y0, y1, y2, y3, y4, y5⟩ := hac.cell; have hR := (HA1.out.below HBV.out).kept Z.2 (fun e => by have := (HLT.out _ e).1; have := HSW.out; omega); obtain ⟨r0, r1, r2, r3, r4, r5⟩ := hR.cell; have fr := hR.free; obtain ⟨WF, hWF, haF, hkF⟩ := hR.store A.name A.sport A.start (.slice a1 ns ca1) (.slice b1 A.lp.length cb1) (.slice c1 A.tg.length cc1); have HAF := qH haF; have HKF := qH (hkF (fun q => q = w.heap.size + 1) rfl); have HBF := qH (show Below w.heap.size w WF from by
  have h1 : Below w.heap.size w Z.1 := Kept.below HB2.out Z.2 HB2.out.size (fun q hq e => by have := (HLT.out q e).1; have := HSW.out; omega); exact Kept.below h1 HKF.out h1.size (fun k hk e => by omega))
 have HAI := qH (show ActIn WF { A with sm := fillA nn A.sm } a1 b1 c1 ∧ ∀ g, (a1 = some g ∨ b1 = some g ∨ c1 = some g) → D0 ≤ g.block from by
  obtain ⟨B1, B2, hB1, hB2, hos, hs, hol, hl, hot⟩ := HO3.out.ex; obtain ⟨l1, _, l3⟩ := hol.rw_ lpEl; obtain ⟨t1, _, t3⟩ := hot.rw_ tgEl; have hof : Own smC 7 72 WF D0 (.slice a1 ns ca1) (fillA nn A.sm) := HOF.out.keepO HKF.out (fun q hq e => by have := (HLT.out q hq).1; have := HSW.out; omega); obtain ⟨s1, _, s3⟩ := hof.rw_ smEl; have hsz := HSW.out; have hl1 : ∀ bb off, b1 = some ⟨bb, off, none⟩ → B1 ≤ bb := fun bb off e => (l3 _ e).1
  have hl2 : ∀ bb off, c1 = some ⟨bb, off, none⟩ → B2 ≤ bb := fun bb off e => (t3 _ e).1
  have hap : ∀ q, (Value.slice a1 ns ca1).ownBlock = some q → q < B1 := fun q hq => hs q (by rw [HN.out]; exact hq)
  refine ⟨⟨s1, ((l1.below HBW.out).kept Z.2 (fun bb off e h => by have := hl1 bb off e; have := hap bb h; omega)).kept HKF.out (fun bb off e h => by have := hl1 bb off e; omega), ((t1.below HBW.out).kept Z.2 (fun bb off e h => by have := hl2 bb off e; have := hap bb h; omega)).kept HKF.out (fun bb off e h => by have := hl2 bb off e; omega), HIN.out.name, HIN.out.titles, HIN.out.tags, ?_, HIN.out.nlp, HIN.out.ntg⟩, ?_⟩
  · show ((fillA nn A.sm).length : Int) ≤ _
    rw [HLEN.out]; omega
  · rintro g (e | e | e)
    · exact (s3 _ e).1
    · have := (l3 _ e).1
      omega
    · have := (t3 _ e).1
      omega)
 have HD0 := qH (show w.heap.size ≤ D0 from by have := HSW.out; omega); clear hac haF hkF hR; go_wp2_with fail; have q := HAF.out.cell; refine bodyPost_ret (v := .tuple #[.agg #[.string A.name, .int .i64 A.sport, .int .i64 A.start, .slice a1 ns ca1, .slice b1 A.lp.length cb1, .slice c1 A.tg.length cc1], .int .i64 0]) (by simp [results, Tryz.results185, go_sem, q]) rfl ⟨HBF.out, a1, b1, c1, ca1, cb1, cc1, ?_, HAI.out.1, fun g hg => Nat.le_trans HD0.out (HAI.out.2 g hg)⟩; unfold actV; simp only [HLEN.out]
def Lies (w : World) (base g : Nat) (Z : Acv) : Prop :=
 ∃ a b c ca cb cc, AcB w g Z.name Z.sport Z.start (.slice a Z.sm.length ca) (.slice b Z.lp.length cb) (.slice c Z.tg.length cc) ∧ ActIn w Z a b c ∧ (∀ q, (a = some q ∨ b = some q ∨ c = some q) → base ≤ q.block)
def LiR (A : Acv) (x : Ed) (base g : Nat) (w : World) (e : Ending) (w' : World) : Prop :=
 Below base w w' ∧ e = .returned (.int .i64 (appE A x)) ∧ (appE A x = 0 → Lies w' base g (appZ A x))
theorem Mine.lies {w : World} {base g : Nat} {Z : Acv} (h : Mine w base g Z) (ht : ActText Z) (l1 : Z.sm.length ≤ 1000000) (l2 : Z.lp.length ≤ 1000000) (l3 : Z.tg.length ≤ 1000000) : Lies w base g Z := by
 obtain ⟨a, b, c, ca, cb, cc, h1, h2, _, h4⟩ := h.actIn ht l1 l2 l3; exact ⟨a, b, c, ca, cb, cc, h1, h2, fun q hq => (h4 q hq).1⟩
theorem ApR.lies {A : Acv} {x : Ed} {base g : Nat} {w : World} {e : Ending} {w' : World} (h : ApR A x base g w e w') (hk : chkE x = 0) (hA : AcOk A) (ht : ActText A) (hx : x.s.size ≤ maxLen) : LiR A x base g w e w' := by
 obtain ⟨h1, h2, h3⟩ := h; obtain ⟨l1, l2, l3⟩ := appZ_len hk hA; exact ⟨h1, h2, fun h0 => (h3 h0).lies (appZ_text hk ht hx) (by omega) (by omega) (by omega)⟩
theorem late_two {P : Program} {Q : Exit → Act → World → Prop} {C : World → Prop} {s : Nat} {l : List Oper} {i j fuel : Nat} {listed : Array Bool} {a : Act} {w : World} (oi oj : Oper) (hi : nth l i = some oi) (hj : nth l j = some oj) (hr : Region.ready .any l.toArray listed = [i, j])
 (hwi : Region.wanted oi (yielded l.toArray a.tmps) = true) (hwj : Region.wanted oj (yielded l.toArray a.tmps) = true)
 (h1 : ∀ K : Act → World → Prop, (∀ a' w', ((listed.setIfInBounds i true).getD s true = false → C w') → wpAnyS P l.toArray Q s C fuel (listed.setIfInBounds i true) a' w' → K a' w') → oi.wp P a w K Q)
 (h2 : ∀ K : Act → World → Prop, (∀ a' w', ((listed.setIfInBounds j true).getD s true = false → C w') → wpAnyS P l.toArray Q s C fuel (listed.setIfInBounds j true) a' w' → K a' w') → oj.wp P a w K Q) : wpAnyS P l.toArray Q s C (fuel + 1) listed a w := by
 rw [nth_eq] at hi hj; refine ⟨fun h0 => absurd (hr ▸ h0) (by simp), fun q hq => ?_⟩; rw [hr] at hq; simp only [List.mem_cons, List.not_mem_nil, or_false] at hq; rcases hq with rfl | rfl
 · unfold wpOp
   simp only [hi, hwi, if_true]; exact Or.inl (h1 _ fun a' w' h3 h4 => ⟨h3, h4⟩)
 · unfold wpOp
   simp only [hj, hwj, if_true]; exact Or.inl (h2 _ fun a' w' h3 h4 => ⟨h3, h4⟩)
theorem ap_9 (n f t : Int) (s : ByteArray) (A : Acv) (base g : Nat) (w : World) (hM : Mine w base g A) (oA : AcOk A) (ht : ActText A) (hb : base ≤ w.heap.size) (hn : 0 ≤ n ∧ n ≤ 50) :
 Calls Tryz.prog 181 #[edV ⟨9, n, f, t, s⟩, .pointer (some ⟨g, 0, none⟩)] w fun e w' => LiR A ⟨9, n, f, t, s⟩ base g w e w' := by
 unfold LiR; obtain ⟨a, b, c, ca, cb, cc, h0, h1, hca, hfr⟩ := hM.actIn ht (by have := oA.nsm; omega) (by have := oA.nlp; omega) (by have := oA.ntg; omega); have hg := hM.hg; obtain ⟨V0, hV0, hb0, hs0, hl0⟩ := alloc_cells w #[.int .i64 9, .int .i64 n, .int .i64 f, .int .i64 t, .string s] 100; have HB := qH hb0; have HBS := qH hb; have HG := qH hg; have H0 := qH (h0.below hb0); have H1 := qH (h1.below hb0); have HOA := qH oA; have HT := qH ht; have HGL := qH h0.lt; have HFR := qH (show ∀ q, (a = some q ∨ b = some q ∨ c = some q) → base ≤ q.block ∧ q.block ≠ g from hfr); have x0 := hl0 0 _ rfl; have x1 := hl0 1 _ rfl; have x2 := hl0 2 _ rfl; have x3 := hl0 3 _ rfl; obtain ⟨c0, c1, c2, c3, c4, c5⟩ := H0.out.cell; obtain ⟨nn, rfl⟩ : ∃ nn : Nat, n = (nn : Int) := ⟨n.toNat, by omega⟩; have DL := qH (fun X : Ext V0 => level_any A a b c ca cb cc nn X.1 (H1.out.below X.2) oA hca (by omega)); have HE := qH (show appE A ⟨9, (nn : Int), f, t, s⟩ = 0 ∧ appZ A ⟨9, (nn : Int), f, t, s⟩ = { A with sm := levelS A.sm nn } from ⟨appE_9 rfl, by rw [appZ_9 rfl]; rfl⟩); rw [HE.out.1, HE.out.2]; have HVS := qH hs0; clear hb hg h0 h1 oA ht hb0 hl0 hM hfr; unfold actV at DL; unfold edV; have X0 := Ext.ex x0; have X1 := Ext.ex x1; have X2 := Ext.ex x2; have X3 := Ext.ex x3; have C0 := Ext.ex c0; have C1 := Ext.ex c1; have C2 := Ext.ex c2; have C3 := Ext.ex c3; have C4 := Ext.ex c4; have C5 := Ext.ex c5; go_enter Tryz.func181, Tryz.ntmps181; go_upto_region 2 with (fail); clear hV0 hs0 c0 c1 c2 c3 c4 c5 x0 x1 x2 x3; refine late_start (s := 11) (C := fun w' => ∃ Y : Ext V0, w' = Y.1) (by kernel_rfl) ?_; obtain ⟨Q0, hQ0⟩ : ∃ Y : Ext V0, ({ V0 with drawn := V0.drawn + 1 } : World) = Y.1 := ⟨⟨{ V0 with drawn := V0.drawn + 1 }, ⟨rfl, rfl, rfl, Nat.le_refl _, fun _ _ => rfl⟩⟩, rfl⟩; rw [hQ0]; clear hQ0; refine late_quiet (by kernel_rfl) (fun _ _ d _ _ h => by cases d <;> exact h) ⟨Q0, rfl⟩ [0, 1, 4, 5] 9 _ _ (by kernel_rfl) (by kernel_rfl) ?_; change wpQuiet _ _ _ _ (_ :: _ :: _ :: _ :: []) _
 repeat go_big_quiet_step (fail)
 refine wpQuiet_nil ?_; refine late_do (i := 2) _ rfl (by kernel_rfl) rfl (fun K hK => ?_); go_simp; refine hK _ _ (fun _ => ⟨Q0, rfl⟩) ?_; clear hK K
 try simp only [pS]
 refine late_quiet (by kernel_rfl) (fun _ _ d _ _ h => by cases d <;> exact h) ⟨Q0, rfl⟩ [3] 7 _ _ (by kernel_rfl) (by kernel_rfl) ?_; change wpQuiet _ _ _ _ (_ :: []) _
 repeat go_big_quiet_step (fail)
 refine wpQuiet_nil ?_; refine late_do (i := 6) _ rfl (by kernel_rfl) rfl (fun K hK => ?_); go_simp; refine (DL.out Q0).mono ?_; unfold LvRet; rintro e w6 ⟨hb6, ma, mb, mc, mca, mcb, mcc, rfl, hmi, hmf⟩; obtain ⟨Q6, rfl⟩ : ∃ Z : Ext V0, w6 = Z.1 := ⟨⟨w6, bStp Q0.2 hb6⟩, rfl⟩; have HMI := qH hmi; have HMF := qH (show ∀ q, (ma = some q ∨ mb = some q ∨ mc = some q) → w.heap.size < q.block from fun q hq => by have h1 := hmf q hq; have h2 := Q0.2.size; have h3 := (show V0.heap.size = w.heap.size + 1 from HVS.out); omega); unfold actV; refine hK _ _ (fun _ => ⟨Q6, rfl⟩) ?_; clear hK K
 try simp only []
 clear hmi hmf hb6; obtain ⟨ML, hML⟩ : ∃ z, (levelS A.sm nn).length = z := ⟨_, rfl⟩; have HML := qH hML; rw [hML]; clear hML; refine late_quiet (by kernel_rfl) (fun _ _ d _ _ h => by cases d <;> exact h) ⟨Q6, rfl⟩ [7, 8] 4 _ _ (by kernel_rfl) (by kernel_rfl) ?_; change wpQuiet _ _ _ _ (_ :: _ :: []) _
 repeat go_big_quiet_step (fail)
 refine wpQuiet_nil ?_; have hb9 := H0.out.below Q6.2; obtain ⟨r0, r1, r2, r3, r4, r5⟩ := hb9.cell; have fr := hb9.free; obtain ⟨WF, hWF, haF, hkF⟩ := hb9.store A.name A.sport A.start (.slice ma ML mca) (.slice mb A.lp.length mcb) (.slice mc A.tg.length mcc); have HAF := qH haF; have HKF := qH (hkF (fun q => q = g) rfl); clear haF hkF hb9; have HBF := qH (show Below base w WF from below_at (bStp HB.out Q6.2) HBS.out (kept_ge HG.out HKF.out)); refine late_two (i := 9) (j := 10) _ _ rfl rfl (by kernel_rfl) rfl rfl (fun K hK => ?_) (fun K hK => ?_)
 · go_simp
   refine hK _ _ (fun _ => ⟨Q6, rfl⟩) ?_; clear hK K
   try simp only [pS]
   refine late_do (i := 10) _ rfl (by kernel_rfl) rfl (fun K hK => ?_); go_simp; refine hK _ _ (fun _ => ⟨Q6, rfl⟩) ?_; clear hK K
   try simp only [pS]
   refine late_do (i := 11) _ rfl (by kernel_rfl) rfl (fun K hK => ?_); go_simp; refine hK _ _ (nOo rfl) ?_; clear hK K
   try simp only [pS]
   refine late_do (i := 12) _ rfl (by kernel_rfl) rfl (fun K hK => ?_); go_simp; refine hK _ _ (nOo rfl) ?_; clear hK K
   try simp only [pS]
   refine late_done (by kernel_rfl) ?_ _; clear hWF r0 r1 r2 r3 r4 r5 fr C0 C1 C2 C3 C4 C5 X0 X1 X2 X3; go_wp2_with fail; go_ret; refine ⟨HBF.out, rfl, fun _ => ⟨ma, mb, mc, mca, mcb, mcc, ?_, HMI.out.kept HKF.out (fun q hq e => by have := HMF.out q hq; have := HGL.out; omega), fun q hq => by have := HMF.out q hq; have := HBS.out; omega⟩⟩; simp only [HML.out]; exact HAF.out
 · go_simp
   refine hK _ _ (fun _ => ⟨Q6, rfl⟩) ?_; clear hK K
   try simp only [pS]
   refine late_two (i := 9) (j := 11) _ _ rfl rfl (by kernel_rfl) rfl rfl (fun K hK => ?_) (fun K hK => ?_)
   · go_simp
     refine hK _ _ (fun _ => ⟨Q6, rfl⟩) ?_; clear hK K
     try simp only [pS]
     refine late_do (i := 11) _ rfl (by kernel_rfl) rfl (fun K hK => ?_); go_simp; refine hK _ _ (nOo rfl) ?_; clear hK K
     try simp only [pS]
     refine late_do (i := 12) _ rfl (by kernel_rfl) rfl (fun K hK => ?_); go_simp; refine hK _ _ (nOo rfl) ?_; clear hK K
     try simp only [pS]
     refine late_done (by kernel_rfl) ?_ _; clear hWF r0 r1 r2 r3 r4 r5 fr C0 C1 C2 C3 C4 C5 X0 X1 X2 X3; go_wp2_with fail; go_ret; refine ⟨HBF.out, rfl, fun _ => ⟨ma, mb, mc, mca, mcb, mcc, ?_, HMI.out.kept HKF.out (fun q hq e => by have := HMF.out q hq; have := HGL.out; omega), fun q hq => by have := HMF.out q hq; have := HBS.out; omega⟩⟩; simp only [HML.out]; exact HAF.out
   · go_simp
     refine hK _ _ (nOo rfl) ?_; clear hK K
     try simp only [pS]
     refine late_do (i := 9) _ rfl (by kernel_rfl) rfl (fun K hK => ?_); go_simp; refine hK _ _ (nOo rfl) ?_; clear hK K
     try simp only [pS]
     refine late_do (i := 12) _ rfl (by kernel_rfl) rfl (fun K hK => ?_); go_simp; refine hK _ _ (nOo rfl) ?_; clear hK K
     try simp only [pS]
     refine late_done (by kernel_rfl) ?_ _; clear hWF r0 r1 r2 r3 r4 r5 fr C0 C1 C2 C3 C4 C5 X0 X1 X2 X3; go_wp2_with fail; go_ret; refine ⟨HBF.out, rfl, fun _ => ⟨ma, mb, mc, mca, mcb, mcc, ?_, HMI.out.kept HKF.out (fun q hq e => by have := HMF.out q hq; have := HGL.out; omega), fun q hq => by have := HMF.out q hq; have := HBS.out; omega⟩⟩; simp only [HML.out]; exact HAF.out
theorem ap_10 (n f t : Int) (s : ByteArray) (A : Acv) (base g : Nat) (w : World) (hM : Mine w base g A) (oA : AcOk A) (ht : ActText A) (hb : base ≤ w.heap.size) (hn : 0 ≤ n ∧ n ≤ 1000000) :
 Calls Tryz.prog 181 #[edV ⟨10, n, f, t, s⟩, .pointer (some ⟨g, 0, none⟩)] w fun e w' => LiR A ⟨10, n, f, t, s⟩ base g w e w' := by
 unfold LiR; obtain ⟨a, b, c, ca, cb, cc, h0, h1, hca, hfr⟩ := hM.actIn ht (by have := oA.nsm; omega) (by have := oA.nlp; omega) (by have := oA.ntg; omega); have hg := hM.hg; obtain ⟨V0, hV0, hb0, hs0, hl0⟩ := alloc_cells w #[.int .i64 10, .int .i64 n, .int .i64 f, .int .i64 t, .string s] 100; have HB := qH hb0; have HBS := qH hb; have HG := qH hg; have H0 := qH (h0.below hb0); have H1 := qH (h1.below hb0); have HOA := qH oA; have HT := qH ht; have HGL := qH h0.lt; have HFR := qH (show ∀ q, (a = some q ∨ b = some q ∨ c = some q) → base ≤ q.block ∧ q.block ≠ g from hfr); have x0 := hl0 0 _ rfl; have x1 := hl0 1 _ rfl; have x2 := hl0 2 _ rfl; have x3 := hl0 3 _ rfl; obtain ⟨c0, c1, c2, c3, c4, c5⟩ := H0.out.cell; have DL := qH (fun X : Ext V0 => tfill_any A a b c ca cb cc n X.1 (H1.out.below X.2) oA hn); rw [appE_10 rfl, appZ_10 rfl]; simp only; have HVS := qH hs0; clear hb hg h0 h1 oA ht hb0 hl0 hM hfr; unfold actV at DL; unfold edV; have X0 := Ext.ex x0; have X1 := Ext.ex x1; have X2 := Ext.ex x2; have X3 := Ext.ex x3; have C0 := Ext.ex c0; have C1 := Ext.ex c1; have C2 := Ext.ex c2; have C3 := Ext.ex c3; have C4 := Ext.ex c4; have C5 := Ext.ex c5; go_enter Tryz.func181, Tryz.ntmps181; go_upto_region 3 with (fail); clear hV0 hs0 c0 c1 c2 c3 c4 c5 x0 x1 x2 x3; refine late_start (s := 11) (C := fun w' => ∃ Y : Ext V0, w' = Y.1) (by kernel_rfl) ?_; obtain ⟨Q0, hQ0⟩ : ∃ Y : Ext V0, ({ V0 with drawn := V0.drawn + 1 } : World) = Y.1 := ⟨⟨{ V0 with drawn := V0.drawn + 1 }, ⟨rfl, rfl, rfl, Nat.le_refl _, fun _ _ => rfl⟩⟩, rfl⟩; rw [hQ0]; clear hQ0; refine late_quiet (by kernel_rfl) (fun _ _ d _ _ h => by cases d <;> exact h) ⟨Q0, rfl⟩ [0, 1, 4, 5] 9 _ _ (by kernel_rfl) (by kernel_rfl) ?_; change wpQuiet _ _ _ _ (_ :: _ :: _ :: _ :: []) _
 repeat go_big_quiet_step (fail)
 refine wpQuiet_nil ?_; refine late_do (i := 2) _ rfl (by kernel_rfl) rfl (fun K hK => ?_); go_simp; refine hK _ _ (fun _ => ⟨Q0, rfl⟩) ?_; clear hK K
 try simp only [pS]
 refine late_quiet (by kernel_rfl) (fun _ _ d _ _ h => by cases d <;> exact h) ⟨Q0, rfl⟩ [3] 7 _ _ (by kernel_rfl) (by kernel_rfl) ?_; change wpQuiet _ _ _ _ (_ :: []) _
 repeat go_big_quiet_step (fail)
 refine wpQuiet_nil ?_; refine late_do (i := 6) _ rfl (by kernel_rfl) rfl (fun K hK => ?_); go_simp; refine (DL.out Q0).mono ?_; unfold LvRet; rintro e w6 ⟨hb6, ma, mb, mc, mca, mcb, mcc, rfl, hmi, hmf⟩; obtain ⟨Q6, rfl⟩ : ∃ Z : Ext V0, w6 = Z.1 := ⟨⟨w6, bStp Q0.2 hb6⟩, rfl⟩; have HMI := qH hmi; have HMF := qH (show ∀ q, (ma = some q ∨ mb = some q ∨ mc = some q) → w.heap.size < q.block from fun q hq => by have h1 := hmf q hq; have h2 := Q0.2.size; have h3 := (show V0.heap.size = w.heap.size + 1 from HVS.out); omega); unfold actV; refine hK _ _ (fun _ => ⟨Q6, rfl⟩) ?_; clear hK K
 try simp only []
 clear hmi hmf hb6; obtain ⟨ML, hML⟩ : ∃ z, (fillA n A.sm).length = z := ⟨_, rfl⟩; have HML := qH hML; rw [hML]; clear hML; refine late_quiet (by kernel_rfl) (fun _ _ d _ _ h => by cases d <;> exact h) ⟨Q6, rfl⟩ [7, 8] 4 _ _ (by kernel_rfl) (by kernel_rfl) ?_; change wpQuiet _ _ _ _ (_ :: _ :: []) _
 repeat go_big_quiet_step (fail)
 refine wpQuiet_nil ?_; have hb9 := H0.out.below Q6.2; obtain ⟨r0, r1, r2, r3, r4, r5⟩ := hb9.cell; have fr := hb9.free; obtain ⟨WF, hWF, haF, hkF⟩ := hb9.store A.name A.sport A.start (.slice ma ML mca) (.slice mb A.lp.length mcb) (.slice mc A.tg.length mcc); have HAF := qH haF; have HKF := qH (hkF (fun q => q = g) rfl); clear haF hkF hb9; have HBF := qH (show Below base w WF from below_at (bStp HB.out Q6.2) HBS.out (kept_ge HG.out HKF.out)); refine late_two (i := 9) (j := 10) _ _ rfl rfl (by kernel_rfl) rfl rfl (fun K hK => ?_) (fun K hK => ?_)
 · go_simp
   refine hK _ _ (fun _ => ⟨Q6, rfl⟩) ?_; clear hK K
   try simp only [pS]
   refine late_do (i := 10) _ rfl (by kernel_rfl) rfl (fun K hK => ?_); go_simp; refine hK _ _ (fun _ => ⟨Q6, rfl⟩) ?_; clear hK K
   try simp only [pS]
   refine late_do (i := 11) _ rfl (by kernel_rfl) rfl (fun K hK => ?_); go_simp; refine hK _ _ (nOo rfl) ?_; clear hK K
   try simp only [pS]
   refine late_do (i := 12) _ rfl (by kernel_rfl) rfl (fun K hK => ?_); go_simp; refine hK _ _ (nOo rfl) ?_; clear hK K
   try simp only [pS]
   refine late_done (by kernel_rfl) ?_ _; clear hWF r0 r1 r2 r3 r4 r5 fr C0 C1 C2 C3 C4 C5 X0 X1 X2 X3; go_wp2_with fail; go_ret; refine ⟨HBF.out, rfl, fun _ => ⟨ma, mb, mc, mca, mcb, mcc, ?_, HMI.out.kept HKF.out (fun q hq e => by have := HMF.out q hq; have := HGL.out; omega), fun q hq => by have := HMF.out q hq; have := HBS.out; omega⟩⟩; simp only [HML.out]; exact HAF.out
 · go_simp
   refine hK _ _ (fun _ => ⟨Q6, rfl⟩) ?_; clear hK K
   try simp only [pS]
   refine late_two (i := 9) (j := 11) _ _ rfl rfl (by kernel_rfl) rfl rfl (fun K hK => ?_) (fun K hK => ?_)
   · go_simp
     refine hK _ _ (fun _ => ⟨Q6, rfl⟩) ?_; clear hK K
     try simp only [pS]
     refine late_do (i := 11) _ rfl (by kernel_rfl) rfl (fun K hK => ?_); go_simp; refine hK _ _ (nOo rfl) ?_; clear hK K
     try simp only [pS]
     refine late_do (i := 12) _ rfl (by kernel_rfl) rfl (fun K hK => ?_); go_simp; refine hK _ _ (nOo rfl) ?_; clear hK K
     try simp only [pS]
     refine late_done (by kernel_rfl) ?_ _; clear hWF r0 r1 r2 r3 r4 r5 fr C0 C1 C2 C3 C4 C5 X0 X1 X2 X3; go_wp2_with fail; go_ret; refine ⟨HBF.out, rfl, fun _ => ⟨ma, mb, mc, mca, mcb, mcc, ?_, HMI.out.kept HKF.out (fun q hq e => by have := HMF.out q hq; have := HGL.out; omega), fun q hq => by have := HMF.out q hq; have := HBS.out; omega⟩⟩; simp only [HML.out]; exact HAF.out
   · go_simp
     refine hK _ _ (nOo rfl) ?_; clear hK K
     try simp only [pS]
     refine late_do (i := 9) _ rfl (by kernel_rfl) rfl (fun K hK => ?_); go_simp; refine hK _ _ (nOo rfl) ?_; clear hK K
     try simp only [pS]
     refine late_do (i := 12) _ rfl (by kernel_rfl) rfl (fun K hK => ?_); go_simp; refine hK _ _ (nOo rfl) ?_; clear hK K
     try simp only [pS]
     refine late_done (by kernel_rfl) ?_ _; clear hWF r0 r1 r2 r3 r4 r5 fr C0 C1 C2 C3 C4 C5 X0 X1 X2 X3; go_wp2_with fail; go_ret; refine ⟨HBF.out, rfl, fun _ => ⟨ma, mb, mc, mca, mcb, mcc, ?_, HMI.out.kept HKF.out (fun q hq e => by have := HMF.out q hq; have := HGL.out; omega), fun q hq => by have := HMF.out q hq; have := HBS.out; omega⟩⟩; simp only [HML.out]; exact HAF.out
theorem ap_8 (n f t : Int) (s : ByteArray) (A : Acv) (base g : Nat) (w : World) (hM : Mine w base g A) (oA : AcOk A) (ht : ActText A) (hb : base ≤ w.heap.size) :
 Calls Tryz.prog 219 #[edV ⟨8, n, f, t, s⟩, .pointer (some ⟨g, 0, none⟩)] w fun e w' => LiR A ⟨8, n, f, t, s⟩ base g w e w' := by
 unfold LiR; obtain ⟨a, b, c, ca, cb, cc, h0, h1, hca, hfr⟩ := hM.actIn ht (by have := oA.nsm; omega) (by have := oA.nlp; omega) (by have := oA.ntg; omega); have hg := hM.hg; obtain ⟨V0, hV0, hb0, hs0, hl0⟩ := alloc_cells w #[.int .i64 8, .int .i64 n, .int .i64 f, .int .i64 t, .string s] 101; have HB := qH hb0; have HBS := qH hb; have HG := qH hg; have H0 := qH (h0.below hb0); have H1 := qH (h1.below hb0); have HOA := qH oA; have HT := qH ht; have HGL := qH h0.lt; have HFR := qH (show ∀ q, (a = some q ∨ b = some q ∨ c = some q) → base ≤ q.block ∧ q.block ≠ g from hfr); have x0 := hl0 0 _ rfl; have x1 := hl0 1 _ rfl; have x2 := hl0 2 _ rfl; have x3 := hl0 3 _ rfl; obtain ⟨c0, c1, c2, c3, c4, c5⟩ := H0.out.cell; have DL := qH (fun X : Ext V0 => cut_any A a b c ca cb cc f t X.1 (H1.out.below X.2) oA); rw [appE_8 rfl, appZ_8 rfl]; simp only; have HVS := qH hs0; clear hb hg h0 h1 oA ht hb0 hl0 hM hfr; unfold actV at DL; unfold edV; have X0 := Ext.ex x0; have X1 := Ext.ex x1; have X2 := Ext.ex x2; have X3 := Ext.ex x3; have C0 := Ext.ex c0; have C1 := Ext.ex c1; have C2 := Ext.ex c2; have C3 := Ext.ex c3; have C4 := Ext.ex c4; have C5 := Ext.ex c5; go_enter Tryz.func219, Tryz.ntmps219; go_upto_region 3 with (fail); clear hV0 hs0 c0 c1 c2 c3 c4 c5 x0 x1 x2 x3; refine late_start (s := 13) (C := fun w' => ∃ Y : Ext V0, w' = Y.1) (by kernel_rfl) ?_; obtain ⟨Q0, hQ0⟩ : ∃ Y : Ext V0, ({ V0 with drawn := V0.drawn + 1 } : World) = Y.1 := ⟨⟨{ V0 with drawn := V0.drawn + 1 }, ⟨rfl, rfl, rfl, Nat.le_refl _, fun _ _ => rfl⟩⟩, rfl⟩; rw [hQ0]; clear hQ0; refine late_quiet (by kernel_rfl) (fun _ _ d _ _ h => by cases d <;> exact h) ⟨Q0, rfl⟩ [0, 1, 4, 5, 6, 7] 9 _ _ (by kernel_rfl) (by kernel_rfl) ?_; change wpQuiet _ _ _ _ (_ :: _ :: _ :: _ :: _ :: _ :: []) _
 repeat go_big_quiet_step (fail)
 refine wpQuiet_nil ?_; refine late_do (i := 2) _ rfl (by kernel_rfl) rfl (fun K hK => ?_); go_simp; refine hK _ _ (fun _ => ⟨Q0, rfl⟩) ?_; clear hK K
 try simp only [pS]
 refine late_quiet (by kernel_rfl) (fun _ _ d _ _ h => by cases d <;> exact h) ⟨Q0, rfl⟩ [3] 7 _ _ (by kernel_rfl) (by kernel_rfl) ?_; change wpQuiet _ _ _ _ (_ :: []) _
 repeat go_big_quiet_step (fail)
 refine wpQuiet_nil ?_; refine late_do (i := 8) _ rfl (by kernel_rfl) rfl (fun K hK => ?_); go_simp; refine (DL.out Q0).mono ?_; rintro e w6 hret; have hgen : Below Q0.1.heap.size Q0.1 w6 ∧ ∃ (nm : ByteArray) (sp st : Int) (ma mb mc : Option Addr) (na nb nc mca mcb mcc : Nat), e = .returned (.tuple #[.agg #[.string nm, .int .i64 sp, .int .i64 st, .slice ma na mca, .slice mb nb mcb, .slice mc nc mcc], .int .i64 (cutE A f t)]) ∧ (cutE A f t = 0 → ActIn w6 (partA A (cutL A.sm f t) f) ma mb mc ∧ (∀ q, (ma = some q ∨ mb = some q ∨ mc = some q) → Q0.1.heap.size ≤ q.block) ∧ actV (partA A (cutL A.sm f t) f) ma mb mc mca mcb mcc = .agg #[.string nm, .int .i64 sp, .int .i64 st, .slice ma na mca, .slice mb nb mcb, .slice mc nc mcc]) := by
  rcases hret with ⟨hok, hb, er, her, h⟩ | ⟨_, hne, rfl, hb⟩
  · have hce : cutE A f t = er := (cutE_ok hok).trans her
    rw [hce]; rcases h with ⟨hne, rfl⟩ | ⟨rfl, ma, mb, mc, mca, mcb, mcc, rfl, hin, hfr⟩
    · exact ⟨hb, _, _, _, _, _, _, _, _, _, _, _, _, rfl, fun h => absurd h hne⟩
    · exact ⟨hb, _, _, _, ma, mb, mc, _, _, _, mca, mcb, mcc, rfl, fun _ => ⟨hin, hfr, rfl⟩⟩
  · exact ⟨hb, _, _, _, none, none, none, _, _, _, _, _, _, rfl, fun h => absurd h hne⟩
 obtain ⟨hb6, nm, sp', st', ma, mb, mc, na, nb, nc, mca, mcb, mcc, rfl, hgood⟩ := hgen; obtain ⟨Q6, rfl⟩ : ∃ Z : Ext V0, w6 = Z.1 := ⟨⟨w6, bStp Q0.2 hb6⟩, rfl⟩; have HGD := qH hgood; obtain ⟨er, her⟩ : ∃ z, cutE A f t = z := ⟨_, rfl⟩; have HER := qH her; rw [her] at HGD ⊢; have HQS := qH Q0.2.size; refine hK _ _ (fun _ => ⟨Q6, rfl⟩) ?_; clear hK K hgood hb6 hret her
 try simp only [pS]
 refine late_quiet (by kernel_rfl) (fun _ _ d _ _ h => by cases d <;> exact h) ⟨Q6, rfl⟩ [9, 10] 4 _ _ (by kernel_rfl) (by kernel_rfl) ?_; change wpQuiet _ _ _ _ (_ :: _ :: []) _
 repeat go_big_quiet_step (fail)
 refine wpQuiet_nil ?_; have hb9 := H0.out.below Q6.2; obtain ⟨r0, r1, r2, r3, r4, r5⟩ := hb9.cell; have fr := hb9.free; obtain ⟨WF, hWF, haF, hkF⟩ := hb9.store nm sp' st' (.slice ma na mca) (.slice mb nb mcb) (.slice mc nc mcc); have HAF := qH haF; have HKF := qH (hkF (fun q => q = g) rfl); clear haF hkF hb9; have HBF := qH (show Below base w WF from below_at (bStp HB.out Q6.2) HBS.out (kept_ge HG.out HKF.out)); refine late_two (i := 11) (j := 12) _ _ rfl rfl (by kernel_rfl) rfl rfl (fun K hK => ?_) (fun K hK => ?_)
 · go_simp
   refine hK _ _ (fun _ => ⟨Q6, rfl⟩) ?_; clear hK K
   try simp only [pS]
   refine late_do (i := 12) _ rfl (by kernel_rfl) rfl (fun K hK => ?_); go_simp; refine hK _ _ (fun _ => ⟨Q6, rfl⟩) ?_; clear hK K
   try simp only [pS]
   refine late_do (i := 13) _ rfl (by kernel_rfl) rfl (fun K hK => ?_); go_simp; refine hK _ _ (nOo rfl) ?_; clear hK K
   try simp only [pS]
   refine late_do (i := 14) _ rfl (by kernel_rfl) rfl (fun K hK => ?_); go_simp; refine hK _ _ (nOo rfl) ?_; clear hK K
   try simp only [pS]
   refine late_done (by kernel_rfl) ?_ _; clear hWF r0 r1 r2 r3 r4 r5 fr C0 C1 C2 C3 C4 C5 X0 X1 X2 X3; go_wp2_with fail; go_ret; refine ⟨HBF.out, by rw [HER.out]; rfl, fun h0 => ?_⟩; obtain ⟨g1, g2, g3⟩ := HGD.out (HER.out ▸ h0); have g4 : ∀ q, (ma = some q ∨ mb = some q ∨ mc = some q) → w.heap.size < q.block := fun q hq => by have h1 := g2 q hq; have h2 := HQS.out; have h3 := HVS.out; omega
   unfold actV at g3; injection g3 with g3; simp only [Array.mk.injEq, List.cons.injEq, Value.string.injEq, Value.int.injEq, Value.slice.injEq, true_and, and_true] at g3; obtain ⟨rfl, rfl, rfl, rfl, rfl, rfl⟩ := g3; exact ⟨ma, mb, mc, mca, mcb, mcc, HAF.out, g1.kept HKF.out (fun q hq e => by have := g4 q hq; have := HGL.out; omega), fun q hq => by have := g4 q hq; have := HBS.out; omega⟩
 · go_simp
   refine hK _ _ (fun _ => ⟨Q6, rfl⟩) ?_; clear hK K
   try simp only [pS]
   refine late_two (i := 11) (j := 13) _ _ rfl rfl (by kernel_rfl) rfl rfl (fun K hK => ?_) (fun K hK => ?_)
   · go_simp
     refine hK _ _ (fun _ => ⟨Q6, rfl⟩) ?_; clear hK K
     try simp only [pS]
     refine late_do (i := 13) _ rfl (by kernel_rfl) rfl (fun K hK => ?_); go_simp; refine hK _ _ (nOo rfl) ?_; clear hK K
     try simp only [pS]
     refine late_do (i := 14) _ rfl (by kernel_rfl) rfl (fun K hK => ?_); go_simp; refine hK _ _ (nOo rfl) ?_; clear hK K
     try simp only [pS]
     refine late_done (by kernel_rfl) ?_ _; clear hWF r0 r1 r2 r3 r4 r5 fr C0 C1 C2 C3 C4 C5 X0 X1 X2 X3; go_wp2_with fail; go_ret; refine ⟨HBF.out, by rw [HER.out]; rfl, fun h0 => ?_⟩; obtain ⟨g1, g2, g3⟩ := HGD.out (HER.out ▸ h0); have g4 : ∀ q, (ma = some q ∨ mb = some q ∨ mc = some q) → w.heap.size < q.block := fun q hq => by have h1 := g2 q hq; have h2 := HQS.out; have h3 := HVS.out; omega
     unfold actV at g3; injection g3 with g3; simp only [Array.mk.injEq, List.cons.injEq, Value.string.injEq, Value.int.injEq, Value.slice.injEq, true_and, and_true] at g3; obtain ⟨rfl, rfl, rfl, rfl, rfl, rfl⟩ := g3; exact ⟨ma, mb, mc, mca, mcb, mcc, HAF.out, g1.kept HKF.out (fun q hq e => by have := g4 q hq; have := HGL.out; omega), fun q hq => by have := g4 q hq; have := HBS.out; omega⟩
   · go_simp
     refine hK _ _ (nOo rfl) ?_; clear hK K
     try simp only [pS]
     refine late_do (i := 11) _ rfl (by kernel_rfl) rfl (fun K hK => ?_); go_simp; refine hK _ _ (nOo rfl) ?_; clear hK K
     try simp only [pS]
     refine late_do (i := 14) _ rfl (by kernel_rfl) rfl (fun K hK => ?_); go_simp; refine hK _ _ (nOo rfl) ?_; clear hK K
     try simp only [pS]
     refine late_done (by kernel_rfl) ?_ _; clear hWF r0 r1 r2 r3 r4 r5 fr C0 C1 C2 C3 C4 C5 X0 X1 X2 X3; go_wp2_with fail; go_ret; refine ⟨HBF.out, by rw [HER.out]; rfl, fun h0 => ?_⟩; obtain ⟨g1, g2, g3⟩ := HGD.out (HER.out ▸ h0); have g4 : ∀ q, (ma = some q ∨ mb = some q ∨ mc = some q) → w.heap.size < q.block := fun q hq => by have h1 := g2 q hq; have h2 := HQS.out; have h3 := HVS.out; omega
     unfold actV at g3; injection g3 with g3; simp only [Array.mk.injEq, List.cons.injEq, Value.string.injEq, Value.int.injEq, Value.slice.injEq, true_and, and_true] at g3; obtain ⟨rfl, rfl, rfl, rfl, rfl, rfl⟩ := g3; exact ⟨ma, mb, mc, mca, mcb, mcc, HAF.out, g1.kept HKF.out (fun q hq e => by have := g4 q hq; have := HGL.out; omega), fun q hq => by have := g4 q hq; have := HBS.out; omega⟩
def apA (A : Acv) (x : Ed) : Int := if chkA A ≠ 0 then chkA A else chkE x
def appP (A : Acv) (x : Ed) : Acv := if x.k = 11 then { A with lp := putP ⟨x.f, x.t, x.s⟩ A.lp } else appZ A x
theorem chk_lap {x : Ed} (hk : x.k = 11) (h : chkE x = 0) : 0 ≤ x.f ∧ x.f < x.t ∧ titleB x.s = true := by
 unfold chkE at h; rw [if_neg (by omega)] at h
 split at h
 · omega
 · unfold fieldE at h
   rw [if_neg (by omega), if_neg (by omega), if_neg (by omega), if_neg (by omega), if_neg (by omega), if_neg (by omega), if_neg (by omega), if_neg (by omega)] at h
   split at h
   · omega
   · split at h
     · rename_i h1 h2
       exact ⟨by omega, by omega, h2⟩
     · omega
theorem appP_same {A : Acv} {x : Ed} (hA : AcOk A) (hk : chkE x = 0) : chkA (appP A x) = chkA (appZ A x) ∧ (chkA (appZ A x) = 0 → appP A x = appZ A x) := by
 unfold appP; by_cases h : x.k = 11
 · rw [if_pos h, appZ_11 h]
   obtain ⟨h1, h2, h3⟩ := chk_lap h hk; obtain ⟨e1, e2⟩ := lap_same A ⟨x.f, x.t, x.s⟩ hA h1 h2 h3; exact ⟨e1, fun h0 => by rw [e2 h0]⟩
 · rw [if_neg h]
   exact ⟨rfl, fun _ => rfl⟩
theorem apE_bad {A : Acv} {x : Ed} (h : apA A x ≠ 0) : apE A x = apA A x ∧ apZ A x = Az := by
 have e : apE A x = apA A x := by
  unfold apE apA at *; by_cases h1 : chkA A ≠ 0
  · rw [if_pos h1, if_pos h1]
  · rw [if_neg h1] at h ⊢
    rw [if_neg h1, if_pos h]
 exact ⟨e, by unfold apZ; rw [e, if_neg h]⟩
theorem apA_zero {A : Acv} {x : Ed} (h : apA A x = 0) : chkA A = 0 ∧ chkE x = 0 := by
 unfold apA at h; by_cases h1 : chkA A = 0
 · rw [if_neg (by simpa using h1)] at h
   exact ⟨h1, h⟩
 · rw [if_pos h1] at h
   exact absurd h h1
theorem apE_ok {A : Acv} {x : Ed} (h : apA A x = 0) : apE A x = if appE A x ≠ 0 then appE A x else chkA (appZ A x) := by
 obtain ⟨h1, h2⟩ := apA_zero h; unfold apE; rw [if_neg (by simpa using h1), if_neg (by simpa using h2)]
def ActResF (Z : Acv) (er : Int) (w : World) (e : Ending) (w' : World) : Prop :=
 Below w.heap.size w w' ∧ ∃ a b c ca cb cc, e = .returned (.tuple #[actV Z a b c ca cb cc, .int .i64 er]) ∧ ActIn w' Z a b c ∧ ∀ q, (a = some q ∨ b = some q ∨ c = some q) → w.heap.size ≤ q.block
theorem ActResF.bad {w : World} {er : Int} {w' : World} (hb : Below w.heap.size w w') : ActResF Az er w (.returned (.tuple #[ac0, .int .i64 er])) w' := ⟨hb, none, none, none, 0, 0, 0, by rw [actV_z], actIn_z w', fun q hq => by rcases hq with h | h | h <;> cases h⟩
def LiP (A : Acv) (x : Ed) (base g : Nat) (w : World) (e : Ending) (w' : World) : Prop :=
 Below base w w' ∧ e = .returned (.int .i64 (appE A x)) ∧ (appE A x = 0 → Lies w' base g (appP A x))
theorem LiR.p {A : Acv} {x : Ed} {base g : Nat} {w : World} {e : Ending} {w' : World} (h : LiR A x base g w e w') (hk : x.k ≠ 11) : LiP A x base g w e w' := by
 obtain ⟨h1, h2, h3⟩ := h; exact ⟨h1, h2, fun h0 => by unfold appP; rw [if_neg hk]; exact h3 h0⟩
theorem applyBad_any (x : Ed) (A : Acv) (a b c : Option Addr) (ca cb cc : Nat) (w : World) (hA : ActIn w A a b c) (hs : x.s.size ≤ maxLen) (hne : apA A x ≠ 0) :
 Calls Tryz.prog 7 #[actV A a b c ca cb cc, edV x] w fun e w' => ActResF (apZ A x) (apE A x) w e w' := by
 rw [(apE_bad hne).1, (apE_bad hne).2]; obtain ⟨k, n, f, t, s⟩ := x; obtain ⟨V0, hV0, hb0, hs0, ha0⟩ := alloc_aA w A a b c ca cb cc; obtain ⟨V1, hV1, hb1, hs1, hl1⟩ := alloc_cells V0 #[.int .i64 k, .int .i64 n, .int .i64 f, .int .i64 t, .string s] 28; obtain ⟨V2, hV2, hb2, hs2, ha2⟩ := alloc_a0 V1; have hs11 : V1.heap.size = w.heap.size + 2 := by omega
 rw [hs0] at hl1; rw [hs11] at ha2; have hA0 := (ha0.below hb1).below hb2; have HB := qH (bStp (bStp hb0 hb1) hb2); have HSZ := qH (show V2.heap.size = w.heap.size + 3 from by omega); have HIA := qH (hA.below HB.out); have HA2 := qH ha2; obtain ⟨eA, heA⟩ : ∃ e, chkA A = e := ⟨_, rfl⟩; obtain ⟨eB, heB⟩ : ∃ e, chkE ⟨k, n, f, t, s⟩ = e := ⟨_, rfl⟩; have DA := qH (fun X : Ext V2 => show Calls Tryz.prog 32 #[.agg #[.string A.name, .int .i64 A.sport, .int .i64 A.start, .slice a A.sm.length ca, .slice b A.lp.length cb, .slice c A.tg.length cc]] X.1 fun e w'' => e = .returned (.int .i64 eA) ∧ ∃ Y : Ext V2, w'' = Y.1 from by
  have h := check_any A a b c ca cb cc X.1 (HIA.out.below X.2); unfold ChkG actV at h; rw [heA] at h; exact X.calls h)
 have DB := qH (fun X : Ext V2 => show Calls Tryz.prog 9 #[.agg #[.int .i64 k, .int .i64 n, .int .i64 f, .int .i64 t, .string s]] X.1 fun e w'' => e = .returned (.int .i64 eB) ∧ ∃ Y : Ext V2, w'' = Y.1 from by
  have h := checkEdit_any ⟨k, n, f, t, s⟩ X.1 hs; unfold edV at h; rw [heB] at h; exact X.calls h)
 obtain ⟨z0, z1, z2, z3, z4, z5⟩ := hA0.cell; have A0 := Ext.ex z0; have A1 := Ext.ex z1; have A2 := Ext.ex z2; have A3 := Ext.ex z3; have A4 := Ext.ex z4; have A5 := Ext.ex z5; have B0 := Ext.ex (bCel hb2 (hl1 0 _ rfl)); have B1 := Ext.ex (bCel hb2 (hl1 1 _ rfl)); have B2 := Ext.ex (bCel hb2 (hl1 2 _ rfl)); have B3 := Ext.ex (bCel hb2 (hl1 3 _ rfl)); have B4 := Ext.ex (bCel hb2 (hl1 4 _ rfl)); have her : apA A ⟨k, n, f, t, s⟩ = if eA ≠ 0 then eA else eB := by unfold apA; rw [heA, heB]
 obtain ⟨er, hee⟩ : ∃ e, apA A ⟨k, n, f, t, s⟩ = e := ⟨_, rfl⟩; have HER := qH (hee.symm.trans her); rw [hee] at hne ⊢; clear hA hs hb0 hb1 hb2 ha0 ha2 hl1 hA0 hs1 hs2 z0 z1 z2 z3 z4 z5 heA heB her hee; unfold actV; unfold edV; go_enter Tryz.func7, Tryz.ntmps7; go_upto_region 1 with (fail); clear hV0 hV1 hV2 hs0 hs11; refine ext_wp (W := V2) fun X => ?_
 refine held_start (C := fun w' => ∃ Z : Ext V2, w' = Z.1) (by kernel_rfl) ?_; obtain ⟨Z0, hZ0⟩ : ∃ Z : Ext V2, ({ X.1 with drawn := X.1.drawn + 1 } : World) = Z.1 := ⟨⟨{ X.1 with drawn := X.1.drawn + 1 }, bStp X.2 ⟨rfl, rfl, rfl, Nat.le_refl _, fun _ _ => rfl⟩⟩, rfl⟩; rw [hZ0]; clear hZ0; refine held_quiet (by kernel_rfl) (fun _ _ d _ _ h => by cases d <;> exact h) ⟨Z0, rfl⟩ [0, 2] 5 _ _ (by kernel_rfl) ?_; change wpQuiet _ _ _ _ (_ :: _ :: []) _
 repeat go_big_quiet_step (fail)
 refine wpQuiet_nil ?_; refine held_do (i := 1) _ rfl (by kernel_rfl) rfl (fun K hK => ?_); go_simp; refine (DA.out Z0).mono ?_; rintro e w1 ⟨rfl, Z1, rfl⟩; refine hK _ _ ⟨Z1, rfl⟩ ?_; clear hK K
 try simp only [pS]
 refine held_do (i := 3) _ rfl (by kernel_rfl) rfl (fun K hK => ?_); go_simp; refine (DB.out Z1).mono ?_; rintro e w1 ⟨rfl, Z2, rfl⟩; refine hK _ _ ⟨Z2, rfl⟩ ?_; clear hK K
 try simp only [pS]
 refine held_do (i := 4) _ rfl (by kernel_rfl) rfl (fun K hK => ?_); go_simp; obtain ⟨Wb, hWb, hwb1, hwb2, hwq⟩ := alloc_cells Z2.1 #[.int .i64 eA, .int .i64 eB] 29; rw [hWb]; obtain ⟨Z3, rfl⟩ : ∃ Z : Ext V2, Wb = Z.1 := ⟨⟨Wb, bStp Z2.2 hwb1⟩, rfl⟩; have DO := qH (orE_any [eA, eB] Z2.1.heap.size 2 Z3.1 (by simp) (fun i v hv => hwq i _ (by
  match i, hv with
  | 0, h => injection h with h; subst h; rfl
  | 1, h => injection h with h; subst h; rfl
  | n + 2, h => simp at h)))
 rw [orL_two] at DO; obtain ⟨eO, heO⟩ : ∃ e, (if eA ≠ 0 then eA else eB) = e := ⟨_, rfl⟩; rw [heO] at DO; refine hK _ _ ⟨Z3, rfl⟩ ?_; clear hK K hWb hwb1 hwb2 hwq
 try simp only [pS]
 refine held_do (i := 5) _ rfl (by kernel_rfl) rfl (fun K hK => ?_); go_simp; refine DO.out.mono ?_; rintro e w1 ⟨rfl, rfl⟩; refine hK _ _ ⟨Z3, rfl⟩ ?_; clear hK K DO
 try simp only [pS]
 refine held_quiet (by kernel_rfl) (fun _ _ d _ _ h => by cases d <;> exact h) ⟨Z3, rfl⟩ [6] 0 _ _ (by kernel_rfl) ?_; change wpQuiet _ _ _ _ (_ :: []) _
 repeat go_big_quiet_step (fail)
 refine wpQuiet_nil ?_; refine wpAnyH_done (by kernel_rfl) ?_ _; clear DA DB X Z0 Z1; have u1 : (eO != 0) = true := by rw [bne_iff_ne, ← heO, ← HER.out]; exact hne
 have HEO := qH (show eO = er from by rw [← heO, HER.out]); clear heO hne; have hR := HA2.out.below Z3.2; obtain ⟨r0, r1, r2, r3, r4, r5⟩ := hR.cell; have fr := hR.free; obtain ⟨WF, hWF, haF, hkF⟩ := hR.store0; have HAF := qH haF; have HKF := qH (hkF (fun q => q = w.heap.size + 2) rfl); clear haF hkF hR; have HBF := qH (show Below w.heap.size w WF from
  have h1 := bStp HB.out Z3.2
  Kept.below h1 HKF.out h1.size (fun k hk e => by omega))
 go_wp2_with fail; have q := HAF.out.cell; exact bodyPost_ret (v := .tuple #[ac0, .int .i64 eO]) (by simp [results, Tryz.results7, go_sem, q, ac0]) rfl (by rw [HEO.out]; exact ActResF.bad HBF.out)
theorem apply_go (x : Ed) (T : TypeId) (fa : FuncId) (hE : edI x = .iface T (edV x))
 (hm : ∀ m w, (method (m + 1) T (edV x) "harrier/trail.apply").run Tryz.prog w = .ok (fa, edV x) w)
 (hf : ∀ (args : Array Value) w, (callFunc fa args).run Tryz.prog w = .ok (.enter fa args) w)
 (hP : ∀ (A : Acv) (base g : Nat) (w : World), Mine w base g A → AcOk A → ActText A → base ≤ w.heap.size → Calls Tryz.prog fa #[edV x, .pointer (some ⟨g, 0, none⟩)] w fun e w' => LiP A x base g w e w')
 (A : Acv) (a b c : Option Addr) (ca cb cc : Nat) (w : World) (hA : ActIn w A a b c) (hs : x.s.size ≤ maxLen) (h0 : apA A x = 0) :
 Calls Tryz.prog 7 #[actV A a b c ca cb cc, edV x] w fun e w' => ActResF (apZ A x) (apE A x) w e w' := by
 have hm := hm 336; simp only [Nat.reduceAdd] at hm; obtain ⟨oA, oE⟩ := apA_zero h0; have HOA := qH (chkA_zero.1 oA); have HTX := qH hA.text; have DE := qH (editOf_any x); rw [hE] at DE; have HP := qH hP; have HEQ := qH (apE_ok h0); have HSA := qH (appP_same HOA.out oE); obtain ⟨eP, heP⟩ : ∃ z, appE A x = z := ⟨_, rfl⟩; have HEP := qH heP; obtain ⟨Z, hZ⟩ : ∃ Z, appP A x = Z := ⟨_, rfl⟩; have HZ := qH hZ; obtain ⟨rz, hrz⟩ : ∃ z, apZ A x = z := ⟨_, rfl⟩; obtain ⟨re, hre⟩ : ∃ z, apE A x = z := ⟨_, rfl⟩; have HRZ := qH (show rz = if re = 0 then appZ A x else Az from by rw [← hrz, ← hre]; rfl); have HRE := qH hre; rw [hrz, hre]; clear hP hE heP hZ hrz hre h0; obtain ⟨k, n, f, t, s⟩ := x; obtain ⟨V0, hV0, hb0, hs0, ha0⟩ := alloc_aA w A a b c ca cb cc; obtain ⟨V1, hV1, hb1, hs1, hl1⟩ := alloc_cells V0 #[.int .i64 k, .int .i64 n, .int .i64 f, .int .i64 t, .string s] 28; obtain ⟨V2, hV2, hb2, hs2, ha2⟩ := alloc_a0 V1; have hs11 : V1.heap.size = w.heap.size + 2 := by omega
 rw [hs0] at hl1; rw [hs11] at ha2; have hA0 := (ha0.below hb1).below hb2; have HB := qH (bStp (bStp hb0 hb1) hb2); have HSZ := qH (show V2.heap.size = w.heap.size + 3 from by omega); have HIA := qH (hA.below HB.out); have HA2 := qH ha2; obtain ⟨eA, heA⟩ : ∃ e, chkA A = e := ⟨_, rfl⟩; obtain ⟨eB, heB⟩ : ∃ e, chkE ⟨k, n, f, t, s⟩ = e := ⟨_, rfl⟩; have DA := qH (fun X : Ext V2 => show Calls Tryz.prog 32 #[.agg #[.string A.name, .int .i64 A.sport, .int .i64 A.start, .slice a A.sm.length ca, .slice b A.lp.length cb, .slice c A.tg.length cc]] X.1 fun e w'' => e = .returned (.int .i64 eA) ∧ ∃ Y : Ext V2, w'' = Y.1 from by
  have h := check_any A a b c ca cb cc X.1 (HIA.out.below X.2); unfold ChkG actV at h; rw [heA] at h; exact X.calls h)
 have DB := qH (fun X : Ext V2 => show Calls Tryz.prog 9 #[.agg #[.int .i64 k, .int .i64 n, .int .i64 f, .int .i64 t, .string s]] X.1 fun e w'' => e = .returned (.int .i64 eB) ∧ ∃ Y : Ext V2, w'' = Y.1 from by
  have h := checkEdit_any ⟨k, n, f, t, s⟩ X.1 hs; unfold edV at h; rw [heB] at h; exact X.calls h)
 obtain ⟨z0, z1, z2, z3, z4, z5⟩ := hA0.cell; have A0 := Ext.ex z0; have A1 := Ext.ex z1; have A2 := Ext.ex z2; have A3 := Ext.ex z3; have A4 := Ext.ex z4; have A5 := Ext.ex z5; have B0 := Ext.ex (bCel hb2 (hl1 0 _ rfl)); have B1 := Ext.ex (bCel hb2 (hl1 1 _ rfl)); have B2 := Ext.ex (bCel hb2 (hl1 2 _ rfl)); have B3 := Ext.ex (bCel hb2 (hl1 3 _ rfl)); have B4 := Ext.ex (bCel hb2 (hl1 4 _ rfl)); rw [oA] at heA; rw [oE] at heB; subst heA heB; clear hA hs hb0 hb1 hb2 ha0 ha2 hl1 hA0 hs1 hs2 z0 z1 z2 z3 z4 z5 oA oE; unfold edV at hm DE; unfold actV; unfold edV; go_enter Tryz.func7, Tryz.ntmps7; go_upto_region 1 with (fail); clear hV0 hV1 hV2 hs0 hs11; refine ext_wp (W := V2) fun X => ?_
 refine held_start (C := fun w' => ∃ Z : Ext V2, w' = Z.1) (by kernel_rfl) ?_; obtain ⟨Z0, hZ0⟩ : ∃ Z : Ext V2, ({ X.1 with drawn := X.1.drawn + 1 } : World) = Z.1 := ⟨⟨{ X.1 with drawn := X.1.drawn + 1 }, bStp X.2 ⟨rfl, rfl, rfl, Nat.le_refl _, fun _ _ => rfl⟩⟩, rfl⟩; rw [hZ0]; clear hZ0; refine held_quiet (by kernel_rfl) (fun _ _ d _ _ h => by cases d <;> exact h) ⟨Z0, rfl⟩ [0, 2] 5 _ _ (by kernel_rfl) ?_; change wpQuiet _ _ _ _ (_ :: _ :: []) _
 repeat go_big_quiet_step (fail)
 refine wpQuiet_nil ?_; refine held_do (i := 1) _ rfl (by kernel_rfl) rfl (fun K hK => ?_); go_simp; refine (DA.out Z0).mono ?_; rintro e w1 ⟨rfl, Z1, rfl⟩; refine hK _ _ ⟨Z1, rfl⟩ ?_; clear hK K
 try simp only [pS]
 refine held_do (i := 3) _ rfl (by kernel_rfl) rfl (fun K hK => ?_); go_simp; refine (DB.out Z1).mono ?_; rintro e w1 ⟨rfl, Z2, rfl⟩; refine hK _ _ ⟨Z2, rfl⟩ ?_; clear hK K
 try simp only [pS]
 refine held_do (i := 4) _ rfl (by kernel_rfl) rfl (fun K hK => ?_); go_simp; obtain ⟨Wb, hWb, hwb1, hwb2, hwq⟩ := alloc_cells Z2.1 #[.int .i64 (0 : Int), .int .i64 (0 : Int)] 29; rw [hWb]; obtain ⟨Z3, rfl⟩ : ∃ Z : Ext V2, Wb = Z.1 := ⟨⟨Wb, bStp Z2.2 hwb1⟩, rfl⟩; have DO := qH (orE_any [(0 : Int), (0 : Int)] Z2.1.heap.size 2 Z3.1 (by simp) (fun i v hv => hwq i _ (by
  match i, hv with
  | 0, h => injection h with h; subst h; rfl
  | 1, h => injection h with h; subst h; rfl
  | n + 2, h => simp at h)))
 rw [orL_two] at DO; obtain ⟨eO, heO⟩ : ∃ e, (if (0 : Int) ≠ 0 then (0 : Int) else (0 : Int)) = e := ⟨_, rfl⟩; rw [heO] at DO; refine hK _ _ ⟨Z3, rfl⟩ ?_; clear hK K hWb hwb1 hwb2 hwq
 try simp only [pS]
 refine held_do (i := 5) _ rfl (by kernel_rfl) rfl (fun K hK => ?_); go_simp; refine DO.out.mono ?_; rintro e w1 ⟨rfl, rfl⟩; refine hK _ _ ⟨Z3, rfl⟩ ?_; clear hK K DO
 try simp only [pS]
 refine held_quiet (by kernel_rfl) (fun _ _ d _ _ h => by cases d <;> exact h) ⟨Z3, rfl⟩ [6] 0 _ _ (by kernel_rfl) ?_; change wpQuiet _ _ _ _ (_ :: []) _
 repeat go_big_quiet_step (fail)
 refine wpQuiet_nil ?_; refine wpAnyH_done (by kernel_rfl) ?_ _; clear DA DB X Z0 Z1; obtain rfl : eO = 0 := by rw [← heO]; rfl
 clear heO; have DCL := qH (show Calls Tryz.prog 33 #[.agg #[.string A.name, .int .i64 A.sport, .int .i64 A.start, .slice a A.sm.length ca, .slice b A.lp.length cb, .slice c A.tg.length cc]] Z3.1 fun e w'' => CloneRet A Z3.1 e w'' from by
  have h := cloneA_any A a b c ca cb cc Z3.1 (HIA.out.below Z3.2) (by have := HOA.out.nsm; omega) (by have := HOA.out.nlp; omega) (by have := HOA.out.ntg; omega); unfold actV at h; exact h)
 go_wp2_with fail; refine (DCL.out).mono ?_; unfold CloneRet; rintro e w2 ⟨⟨a1, b1, c1, ca1, cb1, cc1, rfl, ho3⟩, hb2⟩; unfold actV; obtain ⟨T0, hT⟩ : ∃ T, w2.heap.size = T := ⟨_, rfl⟩; obtain ⟨W, hW, hbW, hsW, haW⟩ := alloc_ac w2 A.name A.sport A.start (.slice a1 A.sm.length ca1) (.slice b1 A.lp.length cb1) (.slice c1 A.tg.length cc1); obtain ⟨D0, hD0⟩ : ∃ D0, Z3.1.heap.size = D0 := ⟨_, rfl⟩; have HD0 := qH hD0; have hsz2 := hb2.size; rw [hT] at haW hsz2; rw [hD0] at ho3 hsz2; have HT := qH hT; have HBW := qH (show Below V2.heap.size V2 W from bStp Z3.2 (bStp hb2 hbW)); have HBD := qH (show Below D0 Z3.1 W from hD0 ▸ bStp hb2 hbW); have HMI := qH (show Mine W D0 T0 A from by
  obtain ⟨B1, B2, hB1, hB2, hos, _, hol, _, hot⟩ := ho3.ex; exact ⟨⟨a1, b1, c1, ca1, cb1, cc1, haW, hos.below hbW, (hol.weaken (by omega)).below hbW, (hot.weaken (by omega)).below hbW⟩, by omega⟩)
 have HDS := qH (show w.heap.size + 3 ≤ D0 ∧ D0 ≤ W.heap.size from by
  have h1 := HSZ.out; have h2 := Z3.2.size; have h3 := HBD.out.size; have h4 := hbW.size; omega)
 have b0 := B0 ⟨W, HBW.out⟩; have b1' := B1 ⟨W, HBW.out⟩; have b2' := B2 ⟨W, HBW.out⟩; have b3' := B3 ⟨W, HBW.out⟩; have b4' := B4 ⟨W, HBW.out⟩; clear ho3 hb2 hbW hsW haW hD0 DCL B0 B1 B2 B3 B4 A0 A1 A2 A3 A4 A5 hsz2; go_upto_region 5 with (fail); clear hW; go_wp2_with fail; refine (DE.out _).mono ?_; rintro e w3 ⟨rfl, hb3⟩; have HM3 := qH (HMI.out.below hb3); have HB3 := qH hb3; have DAP := qH (HP.out A D0 T0 w3 HM3.out HOA.out HTX.out (by have := hb3.size; have := HDS.out; omega)); unfold edV at DAP; clear hb3 HP DE; go_wp2_with fail; refine (DAP.out).mono ?_; unfold LiP; rintro e w4 ⟨hb4, rfl, hli⟩; rw [HEP.out] at hli ⊢; have HB4 := qH hb4; have HBX := qH (show Below D0 Z3.1 w4 from
  ⟨hb4.os.trans (HB3.out.os.trans HBD.out.os), hb4.tape.trans (HB3.out.tape.trans HBD.out.tape), hb4.output.trans (HB3.out.output.trans HBD.out.output), Nat.le_trans HBD.out.size (Nat.le_trans HB3.out.size hb4.size), fun k hk => (hb4.block k hk).trans ((HB3.out.block k (by have := HDS.out; omega)).trans (HBD.out.block k hk))⟩)
 have HBV := qH (show Below V2.heap.size V2 w4 from bStp Z3.2 (HD0.out ▸ HBX.out)); have HLI := qH hli; clear hb4 hli DAP; by_cases hep : eP = 0
 case neg =>
  have u1 : (eP != 0) = true := bTt hep; have HZE := qH (show re = eP ∧ rz = Az from by
   have h1 : re = eP := by rw [← HRE.out, HEQ.out, HEP.out, if_pos hep]
   exact ⟨h1, by rw [HRZ.out, h1, if_neg hep]⟩)
  clear hep; have hR := HA2.out.below HBV.out; obtain ⟨r0, r1, r2, r3, r4, r5⟩ := hR.cell; have fr := hR.free; obtain ⟨WF, hWF, haF, hkF⟩ := hR.store0; have HAF := qH haF; have HKF := qH (hkF (fun q => q = w.heap.size + 2) rfl); clear haF hkF hR; have HBF := qH (show Below w.heap.size w WF from
   have h1 := bStp HB.out HBV.out
   Kept.below h1 HKF.out h1.size (fun k hk e => by omega))
  go_wp2_with fail; have q := HAF.out.cell; exact bodyPost_ret (v := .tuple #[ac0, .int .i64 eP]) (by simp [results, Tryz.results7, go_sem, q, ac0]) rfl (by rw [HZE.out.1, HZE.out.2]; exact ActResF.bad HBF.out)
 subst hep; obtain ⟨za, zb, zc, zca, zcb, zcc, hzB, hzI, hzF⟩ := HLI.out rfl; rw [HZ.out] at hzB hzI; have HZB := qH hzB; have HZI := qH hzI; have HZF := qH hzF; obtain ⟨er, her⟩ : ∃ z, chkA Z = z := ⟨_, rfl⟩; have HER := qH her; have DK := qH (show Calls Tryz.prog 32 #[.agg #[.string Z.name, .int .i64 Z.sport, .int .i64 Z.start, .slice za Z.sm.length zca, .slice zb Z.lp.length zcb, .slice zc Z.tg.length zcc]] w4 fun e w'' => e = .returned (.int .i64 er) ∧ Below w4.heap.size w4 w'' from by
  have h := check_any Z za zb zc zca zcb zcc w4 HZI.out; unfold ChkG actV at h; rw [her] at h; exact h)
 have HZE := qH (show re = er ∧ (er = 0 → rz = Z) ∧ (er ≠ 0 → rz = Az) from by
  obtain ⟨e1, e2⟩ := HSA.out; rw [HZ.out] at e1 e2; have h1 : re = er := by
   rw [← HRE.out, HEQ.out, HEP.out, if_neg (by simp), ← e1]; exact her
  refine ⟨h1, fun h => ?_, fun h => ?_⟩
  · rw [HRZ.out, h1, if_pos h, e2 (by rw [← e1, her]; exact h)]
  · rw [HRZ.out, h1, if_neg h])
 obtain ⟨y0, y1, y2, y3, y4, y5⟩ := hzB.cell; clear hzB hzI hzF her; go_wp2_with fail; refine (DK.out).mono ?_; rintro e w5 ⟨rfl, hb5⟩; have HZB5 := qH (HZB.out.below hb5); have HZI5 := qH (HZI.out.below hb5); have HBV5 := qH (bStp HBV.out hb5); clear y0 y1 y2 y3 y4 y5 hb5 DK; obtain ⟨y0, y1, y2, y3, y4, y5⟩ := HZB5.out.cell; have hR := HA2.out.below HBV5.out; obtain ⟨r0, r1, r2, r3, r4, r5⟩ := hR.cell; have fr := hR.free; by_cases her : er = 0
 · have HZ1 := qH (show rz = Z ∧ re = 0 from ⟨HZE.out.2.1 her, HZE.out.1.trans her⟩)
   clear HZE; subst her; obtain ⟨WF, hWF, haF, hkF⟩ := hR.store Z.name Z.sport Z.start (.slice za Z.sm.length zca) (.slice zb Z.lp.length zcb) (.slice zc Z.tg.length zcc); have HAF := qH haF; have HKF := qH (hkF (fun q => q = w.heap.size + 2) rfl); clear haF hkF hR; have HBF := qH (show Below w.heap.size w WF from
    have h1 := bStp HB.out HBV5.out
    Kept.below h1 HKF.out h1.size (fun k hk e => by omega))
   have HIF := qH (show ActIn WF Z za zb zc from by
    exact HZI5.out.kept HKF.out (fun q hq e => by have := HZF.out q hq; have := HDS.out; omega))
   go_wp2_with fail; have q := HAF.out.cell; exact bodyPost_ret (v := .tuple #[.agg #[.string Z.name, .int .i64 Z.sport, .int .i64 Z.start, .slice za Z.sm.length zca, .slice zb Z.lp.length zcb, .slice zc Z.tg.length zcc], .int .i64 0]) (by simp [results, Tryz.results7, go_sem, q]) rfl (by rw [HZ1.out.1, HZ1.out.2]; exact ⟨HBF.out, za, zb, zc, zca, zcb, zcc, rfl, HIF.out, fun q hq => by have := HZF.out q hq; have := HDS.out; omega⟩)
 · have u2 : (er != 0) = true := bTt her
   obtain ⟨WF, hWF, haF, hkF⟩ := hR.store0; have HAF := qH haF; have HKF := qH (hkF (fun q => q = w.heap.size + 2) rfl); have HNE := qH her; clear haF hkF hR her; have HBF := qH (show Below w.heap.size w WF from
    have h1 := bStp HB.out HBV5.out
    Kept.below h1 HKF.out h1.size (fun k hk e => by omega))
   go_wp2_with fail; have q := HAF.out.cell; exact bodyPost_ret (v := .tuple #[ac0, .int .i64 er]) (by simp [results, Tryz.results7, go_sem, q, ac0]) rfl (by rw [HZE.out.1, HZE.out.2.2 HNE.out]; exact ActResF.bad HBF.out)
theorem putP_mem {x y : Lp} {l : List Lp} (h : y ∈ putP x l) : y = x ∨ y ∈ l := by
 unfold putP at h; rcases List.mem_append.1 h with h | h
 · rcases List.mem_append.1 h with h | h
   · exact Or.inr (List.mem_of_mem_take h)
   · exact Or.inl (List.mem_singleton.1 h)
 · exact Or.inr (List.mem_of_mem_drop h)
theorem lap_p {f t : Int} {s : ByteArray} {A : Acv} {base g : Nat} {w : World} {e : Ending} {w' : World} (_hk : chkE ⟨11, 0, f, t, s⟩ = 0) (oA : AcOk A) (ht : ActText A) (hs : s.size ≤ maxLen) (h : Below base w w' ∧ e = .returned (.int .i64 0) ∧ Mine w' base g { A with lp := putP ⟨f, t, s⟩ A.lp }) : LiP A ⟨11, 0, f, t, s⟩ base g w e w' := by
 obtain ⟨h1, h2, h3⟩ := h; have n1 := oA.nsm; have n2 := oA.nlp; have n3 := oA.ntg; refine ⟨h1, by rw [appE_11 rfl]; exact h2, fun _ => ?_⟩; unfold appP; rw [if_pos rfl]; refine h3.lies ⟨ht.name, fun p hp => ?_, ht.tags⟩ ?_ ?_ ?_
 · rcases putP_mem hp with rfl | hp
   · exact hs
   · exact ht.titles p hp
 · show A.sm.length ≤ _
   omega
 · show (putP _ A.lp).length ≤ _
   rw [putP_len]; omega
 · show A.tg.length ≤ _
   omega
theorem apply_f (x : Ed) (A : Acv) (a b c : Option Addr) (ca cb cc : Nat) (w : World) (hA : ActIn w A a b c) (hs : x.s.size ≤ maxLen) :
 Calls Tryz.prog 7 #[actV A a b c ca cb cc, edV x] w fun e w' => ActResF (apZ A x) (apE A x) w e w' := by
 by_cases h0 : apA A x = 0
 case neg => exact applyBad_any x A a b c ca cb cc w hA hs h0
 have hk := (apA_zero h0).2; obtain ⟨k, n, f, t, s⟩ := x; rcases kind_ways _ hk with h | h | h | h | h | h | h | h | h | h | h | h
 · obtain rfl : k = 1 := h
   exact apply_go _ 98 166 rfl (fun _ _ => by kernel_rfl) (fun _ _ => by kernel_rfl) (fun A base g w hM oA ht hb => ((ap_1 n f t s A base g w hM oA hb).mono fun _ _ h => (h.lies hk oA ht hs).p (show (1 : Int) ≠ 11 by decide))) A a b c ca cb cc w hA hs h0
 · obtain rfl : k = 2 := h
   exact apply_go _ 99 177 rfl (fun _ _ => by kernel_rfl) (fun _ _ => by kernel_rfl) (fun A base g w hM oA ht hb => ((ap_2 n f t s A base g w hM oA hb).mono fun _ _ h => (h.lies hk oA ht hs).p (show (2 : Int) ≠ 11 by decide))) A a b c ca cb cc w hA hs h0
 · obtain rfl : k = 3 := h
   exact apply_go _ 98 166 rfl (fun _ _ => by kernel_rfl) (fun _ _ => by kernel_rfl) (fun A base g w hM oA ht hb => ((ap_3 n f t s A base g w hM oA hb).mono fun _ _ h => (h.lies hk oA ht hs).p (show (3 : Int) ≠ 11 by decide))) A a b c ca cb cc w hA hs h0
 · obtain rfl : k = 4 := h
   exact apply_go _ 98 166 rfl (fun _ _ => by kernel_rfl) (fun _ _ => by kernel_rfl) (fun A base g w hM oA ht hb => ((ap_4 n f t s A base g w hM oA hb).mono fun _ _ h => (h.lies hk oA ht hs).p (show (4 : Int) ≠ 11 by decide))) A a b c ca cb cc w hA hs h0
 · obtain rfl : k = 5 := h
   have hr := chk_rng (lo := (-86399999999)) (hi := 86399999999) (show ¬ ((5 : Int) < 1 ∨ 12 < (5 : Int)) by decide) rfl hk; exact apply_go _ 99 177 rfl (fun _ _ => by kernel_rfl) (fun _ _ => by kernel_rfl) (fun A base g w hM oA ht hb => ((ap_5 n f t s A base g w hM oA hb hr).mono fun _ _ h => (h.lies hk oA ht hs).p (show (5 : Int) ≠ 11 by decide))) A a b c ca cb cc w hA hs h0
 · obtain rfl : k = 6 := h
   have hr := chk_rng (lo := (-200000)) (hi := 200000) (show ¬ ((6 : Int) < 1 ∨ 12 < (6 : Int)) by decide) rfl hk; exact apply_go _ 99 177 rfl (fun _ _ => by kernel_rfl) (fun _ _ => by kernel_rfl) (fun A base g w hM oA ht hb => ((ap_6 n f t s A base g w hM oA hb hr).mono fun _ _ h => (h.lies hk oA ht hs).p (show (6 : Int) ≠ 11 by decide))) A a b c ca cb cc w hA hs h0
 · obtain rfl : k = 7 := h
   have hr := chk_rng (lo := 1) (hi := 3) (show ¬ ((7 : Int) < 1 ∨ 12 < (7 : Int)) by decide) rfl hk; simp only at hr; have h3 : n = 1 ∨ n = 2 ∨ n = 3 := by omega
   rcases h3 with rfl | rfl | rfl
   · exact apply_go _ 99 177 rfl (fun _ _ => by kernel_rfl) (fun _ _ => by kernel_rfl) (fun A base g w hM oA ht hb => ((ap_7_1 f t s A base g w hM oA hb).mono fun _ _ h => (h.lies hk oA ht hs).p (show (7 : Int) ≠ 11 by decide))) A a b c ca cb cc w hA hs h0
   · exact apply_go _ 99 177 rfl (fun _ _ => by kernel_rfl) (fun _ _ => by kernel_rfl) (fun A base g w hM oA ht hb => ((ap_7_2 f t s A base g w hM oA hb).mono fun _ _ h => (h.lies hk oA ht hs).p (show (7 : Int) ≠ 11 by decide))) A a b c ca cb cc w hA hs h0
   · exact apply_go _ 99 177 rfl (fun _ _ => by kernel_rfl) (fun _ _ => by kernel_rfl) (fun A base g w hM oA ht hb => ((ap_7_3 f t s A base g w hM oA hb).mono fun _ _ h => (h.lies hk oA ht hs).p (show (7 : Int) ≠ 11 by decide))) A a b c ca cb cc w hA hs h0
 · obtain rfl : k = 8 := h
   exact apply_go _ 101 219 rfl (fun _ _ => by kernel_rfl) (fun _ _ => by kernel_rfl) (fun A base g w hM oA ht hb => ((ap_8 n f t s A base g w hM oA ht hb).mono fun _ _ h => h.p (show (8 : Int) ≠ 11 by decide))) A a b c ca cb cc w hA hs h0
 · obtain rfl : k = 9 := h
   have hr := chk_rng (lo := 0) (hi := 50) (show ¬ ((9 : Int) < 1 ∨ 12 < (9 : Int)) by decide) rfl hk; exact apply_go _ 100 181 rfl (fun _ _ => by kernel_rfl) (fun _ _ => by kernel_rfl) (fun A base g w hM oA ht hb => ((ap_9 n f t s A base g w hM oA ht hb hr).mono fun _ _ h => h.p (show (9 : Int) ≠ 11 by decide))) A a b c ca cb cc w hA hs h0
 · obtain rfl : k = 10 := h
   have hr := chk_rng (lo := 0) (hi := 1000000) (show ¬ ((10 : Int) < 1 ∨ 12 < (10 : Int)) by decide) rfl hk; exact apply_go _ 100 181 rfl (fun _ _ => by kernel_rfl) (fun _ _ => by kernel_rfl) (fun A base g w hM oA ht hb => ((ap_10 n f t s A base g w hM oA ht hb hr).mono fun _ _ h => h.p (show (10 : Int) ≠ 11 by decide))) A a b c ca cb cc w hA hs h0
 · obtain rfl : k = 11 := h
   have hn : n = 0 := by
    unfold chkE at hk; rw [if_neg (show ¬ ((11 : Int) < 1 ∨ 12 < (11 : Int)) by decide)] at hk
    split at hk
    · omega
    · rename_i hf
      simpa [formE] using hf
   subst hn; exact apply_go _ 101 219 rfl (fun _ _ => by kernel_rfl) (fun _ _ => by kernel_rfl) (fun A base g w hM oA ht hb => ((ap_11 f t s A base g w hM oA hb).mono fun _ _ h => lap_p hk oA ht hs h)) A a b c ca cb cc w hA hs h0
 · obtain rfl : k = 12 := h
   have hr := chk_rng (lo := 0) (hi := 199) (show ¬ ((12 : Int) < 1 ∨ 12 < (12 : Int)) by decide) rfl hk; exact apply_go _ 101 219 rfl (fun _ _ => by kernel_rfl) (fun _ _ => by kernel_rfl) (fun A base g w hM oA ht hb => ((ap_12 n f t s A base g w hM oA hb hr).mono fun _ _ h => (h.lies hk oA ht hs).p (show (12 : Int) ≠ 11 by decide))) A a b c ca cb cc w hA hs h0
theorem append_T1 {ops : Array Oper} {rest : List Oper} {o : Oper} {a : Act} {Q : Exit → Act → World → Prop} {w : World} (hgd : o.guard = none) (s x : Operand)
 (ho : o.op = .call { callee := .builtin .append, args := #[s, x], argTypes := #[24, 24] }) {base : Nat} {v : Value} {l : List ByteArray} (hs : a.eval s = v) (hown : Own tgC 1 9 w base v l)
 {g : Nat} {p : ByteArray} (hx : a.eval x = .slice (some ⟨g, 0, none⟩) 1 1) (h0 : ∀ j u, (tgC p)[j]? = some u → w.cell? ⟨g, j, none⟩ = some u) (hn : l.length ≤ 1000000) (hb : base ≤ w.heap.size)
 (h : ∀ g' c' w', Own tgC 1 9 w' base (.slice (some ⟨g', 0, none⟩) (l.length + 1) c') (l ++ [p]) → w.grownBy w' v.ownBlock → (v.ownBlock = some g' ∨ g' = w.heap.size) → wpList Tryz.prog ops Q rest (a.put o.dst (.slice (some ⟨g', 0, none⟩) (l.length + 1) c')) w') : wpList Tryz.prog ops Q (o :: rest) a w := by
 obtain ⟨i0, hi0, hy0, hy1, hy2⟩ := info_parts infoTg.out; refine wpList_append_lies w hgd s x 24 ho base 9 i0 (.string ⟨#[]⟩) 1 16 underTg.out hi0 hy0 hy1 hy2 rfl (by decide) v l.length (l.flatMap tgC) hs hown ⟨g, 0, none⟩ 1 1 (tgC p) hx rfl (fun j u hu => ?_) (tgEl.one p) (by decide) (by unfold maxLen; omega) (by omega) hb _ rfl ?_
 · rw [addr_plus, Nat.zero_add]
   exact h0 j u hu
 · intro g' c' w' k1 k2 k3 _
   refine h g' c' w' ?_ k2 k3; unfold Own; rw [List.length_append, List.flatMap_append, show ([p].flatMap tgC) = tgC p from List.append_nil _]; exact k1
theorem hasT_snoc {s t : ByteArray} {T : List ByteArray} {k : Nat} (h : T[k]? = some t) : hasT s (T.take (k + 1)) = (hasT s (T.take k) || decide (t = s)) := by
 unfold hasT; rw [List.take_add_one, h, List.any_append]; simp
theorem rhasTag_any (A : Acv) (a b c : Option Addr) (ca cb cc : Nat) (s : ByteArray) (w : World) (h : Rw tgC 1 w c A.tg) (hl : A.tg.length ≤ 1000) :
 Calls Tryz.prog 93 #[actV A a b c ca cb cc, .string s] w fun e w' => e = .returned (.bool (hasT s A.tg)) ∧ Below w.heap.size w w' := by
 obtain ⟨V0, hV0, hb0, hs0, ha0⟩ := alloc_aA w A a b c ca cb cc; obtain ⟨R, hR⟩ : ∃ R, hasT s A.tg = R := ⟨_, rfl⟩; have HR := qH hR; rw [hR]; have HB := qH hb0; have HT := qH (h.below hb0); obtain ⟨g0, g1, g2, g3, g4, g5⟩ := ha0.cell; obtain ⟨n, hn⟩ : ∃ n, A.tg.length = n := ⟨_, rfl⟩; have HN := qH hn; unfold actV; rw [hn] at hl hV0 g5 ⊢; clear h hb0 ha0 hn hR; go_enter Tryz.func93, Tryz.ntmps93; go_upto_region 1 with (fail); clear hV0 hs0; go_wp2_with fail
 go_loopw [10] (fun iv wr => ∃ k : Nat, iv = .int .i64 k ∧ k ≤ n ∧ Hid (hasT s (A.tg.take k) = false) ∧ ∃ X : Ext V0, wr = X.1) (fun iv _ => n - (intOf iv).toNat)
 case atStart => exact ⟨0, rfl, by omega, qH rfl, ⟨V0, Below.refl _ _⟩, rfl⟩
 case round =>
  obtain ⟨k, rfl, hk, HF, X, rfl⟩ := hrel; by_cases hlt : k < n
  · have t1 : decide ((k : Int) < (n : Int)) = true := dTt (by omega)
    have t1' : decide (k < n) = true := by simpa using hlt
    obtain ⟨t, ht⟩ : ∃ t, A.tg[k]? = some t := ⟨_, List.getElem?_eq_getElem (by rw [HN.out]; exact hlt)⟩; have HS := qH (hasT_snoc (s := s) ht); obtain ⟨b3, o3, rfl, hb3, hd⟩ := HT.out.at ht; have e0 : X.1.cell? ⟨b3, o3 + k, none⟩ = some (.string t) := by
     have h := hd 0 _ rfl; rw [Nat.mul_one, Nat.add_zero] at h; exact bCel X.2 h
    have e0' : X.1.cell? ⟨b3, o3 + k * 1, none⟩ = some (.string t) := by rw [Nat.mul_one]; exact e0
    have HW := qH (show w.heap.size ≤ V0.heap.size from HB.out.size); clear ht hd hb3; by_cases he : t = s
    · have q1 : (t.toList == s.toList) = true := by rw [strEq]; simpa using he
      have HTR := qH (show R = true from by
       rw [← HR.out]; have h1 := HS.out; have h2 : hasT s A.tg = true := by
        rw [← List.take_append_drop (k + 1) A.tg]; unfold hasT at h1 ⊢; rw [List.any_append, h1]; simp [he]
       exact h2)
      clear he; go_wp2_with fail; go_ret; exact ⟨by rw [HTR.out]; rfl, bStp HB.out X.2⟩
    · have q1 : (t.toList == s.toList) = false := by rw [strEq]; simpa using he
      have HF2 := qH (show hasT s (A.tg.take (k + 1)) = false from by rw [HS.out, HF.out]; simpa using he); clear he; go_wp2_with fail
      go_roundw
      case rel => exact ⟨k + 1, by go_num, by omega, HF2, X, rfl⟩
      case measure => simp [intOf]; omega
  · have t1 : decide ((k : Int) < (n : Int)) = false := dFf (by omega)
    have t1' : decide (k < n) = false := by simpa using hlt
    obtain rfl : n = k := by omega
    have HTR := qH (show R = false from by
     rw [← HR.out]; have h1 := HF.out; rw [← HN.out, List.take_length] at h1; exact h1)
    clear hlt; go_wp2_with fail; go_ret; exact ⟨by rw [HTR.out]; rfl, bStp HB.out X.2⟩
theorem delT_snoc {s t : ByteArray} {T : List ByteArray} {k : Nat} (h : T[k]? = some t) : delT s (T.take (k + 1)) = if t = s then delT s (T.take k) else delT s (T.take k) ++ [t] := by
 unfold delT; rw [List.take_add_one, h, List.filter_append]; simp only [Option.toList_some]; by_cases e : t = s
 · rw [if_pos e, List.filter_cons_of_neg (by simpa using e), List.filter_nil, List.append_nil]
 · rw [if_neg e, List.filter_cons_of_pos (by simpa using e), List.filter_nil]
theorem rwithoutTag_any (T : List ByteArray) (c : Option Addr) (cc : Nat) (s : ByteArray) (w : World) (h : Rw tgC 1 w c T) (hl : T.length ≤ 1000) :
 Calls Tryz.prog 94 #[.slice c T.length cc, .string s] w fun e w' => ∃ v, e = .returned v ∧ Own tgC 1 9 w' w.heap.size v (delT s T) ∧ Below w.heap.size w w' := by
 have HT := qH h; obtain ⟨n, hn⟩ : ∃ n, T.length = n := ⟨_, rfl⟩; have HN := qH hn; rw [hn] at hl ⊢; clear h hn; go_enter Tryz.func94, Tryz.ntmps94; go_wp2_with fail
 go_loopw [5, 10] (fun vv iv wr => ∃ k : Nat, iv = .int .i64 k ∧ k ≤ n ∧ Hid (Own tgC 1 9 wr w.heap.size vv (delT s (T.take k))) ∧ ∃ X : Ext w, wr = X.1) (fun _ iv _ => n - (intOf iv).toNat)
 case atStart => exact ⟨0, rfl, by omega, qH (Own.nil _ _ _ _ _), ⟨w, Below.refl _ _⟩, rfl⟩
 case round =>
  obtain ⟨k, rfl, hk, HO, X, rfl⟩ := hrel; by_cases hlt : k < n
  · have t1 : decide ((k : Int) < (n : Int)) = true := dTt (by omega)
    have t1' : decide (k < n) = true := by simpa using hlt
    obtain ⟨t, ht⟩ : ∃ t, T[k]? = some t := ⟨_, List.getElem?_eq_getElem (by rw [HN.out]; exact hlt)⟩; have HS := qH (delT_snoc (s := s) ht); obtain ⟨b3, o3, rfl, hb3, hd⟩ := HT.out.at ht; have e0 : X.1.cell? ⟨b3, o3 + k, none⟩ = some (.string t) := by
     have h := hd 0 _ rfl; rw [Nat.mul_one, Nat.add_zero] at h; exact bCel X.2 h
    have e0' : X.1.cell? ⟨b3, o3 + k * 1, none⟩ = some (.string t) := by rw [Nat.mul_one]; exact e0
    have HL := qH (show (delT s (T.take k)).length ≤ 1000 from by
     have h1 : (delT s (T.take k)).length ≤ (T.take k).length := List.length_filter_le _ _; rw [List.length_take] at h1; omega)
    clear ht hd hb3; by_cases he : t = s
    · have q1 : (t.toList == s.toList) = true := by rw [strEq]; simpa using he
      have q2 : (t.toList != s.toList) = false := by simp only [bne, q1]; rfl
      have ho2 := HO.out; rw [show delT s (T.take k) = delT s (T.take (k + 1)) from by rw [HS.out, if_pos he]] at ho2; have HO2 := qH ho2; clear he ho2; go_wp2_with fail
      go_roundw
      case rel => exact ⟨k + 1, by go_num, by omega, HO2, X, rfl⟩
      case measure => simp [intOf]; omega
    · have q1 : (t.toList == s.toList) = false := by rw [strEq]; simpa using he
      have q2 : (t.toList != s.toList) = true := by simp only [bne, q1]; rfl
      obtain ⟨V7, hV7, hb7, hs7, hl7⟩ := alloc_cells X.1 #[.string t] 9; have HC7 := qH (fun j u (hj : (tgC t)[j]? = some u) => show V7.cell? ⟨X.1.heap.size, j, none⟩ = some u from hl7 j u (by rw [← hj]; simp [tgC])); have HO7 := qH (HO.out.below hb7); have H7 := qH (bStp X.2 hb7); have HNE := qH he; clear he hb7 hs7 hl7; go_wp2_with (at_builtin; refine append_T1 rfl _ _ rfl rfl HO7.out (p := t) rfl HC7.out (by have := HL.out; omega) H7.out.size (fun g' c3 w8 ho8 hg8 hor => ?_)); have HO8 := qH ho8; have H8 := qH (show Below w.heap.size w w8 from Kept.below (O := fun q => w.heap.size ≤ q) H7.out (Kept.of_grown hg8 (fun g e _ => (HO7.out.lt g e).1)) H7.out.size (fun q hq e => by omega)); clear ho8 hg8 hor hV7; go_wp2_with fail
      go_roundw
      case rel => exact ⟨k + 1, by go_num, by omega, qH (by rw [HS.out, if_neg HNE.out]; exact HO8.out), ⟨w8, H8.out⟩, rfl⟩
      case measure => simp [intOf]; omega
  · have t1 : decide ((k : Int) < (n : Int)) = false := dFf (by omega)
    have t1' : decide (k < n) = false := by simpa using hlt
    obtain rfl : n = k := by omega
    have ho := HO.out; rw [← HN.out, List.take_length] at ho; have HOF := qH ho; clear hlt ho; go_wp2_with fail; go_ret; exact ⟨_, rfl, HOF.out, X.2⟩
theorem rwithLap_any (l : List Lp) (x : Lp) (a : Option Addr) (ca : Nat) (w : World) (h : Rw lpC 3 w a l) (hl : l.length ≤ 1000) (hc : l.length ≤ ca) :
 Calls Tryz.prog 95 #[.slice a l.length ca, .agg #[.int .i64 x.f, .int .i64 x.t, .string x.s]] w fun e w' => ∃ v, e = .returned v ∧ Own lpC 3 75 w' w.heap.size v (putL x l) ∧ Below w.heap.size w w' := by
 obtain ⟨R, hR⟩ : ∃ R, putL x l = R := ⟨_, rfl⟩; rw [hR]; have HR := qH hR; obtain ⟨V0, hV0, hb0, hs0, hl0⟩ := alloc_cells w #[.int .i64 x.f, .int .i64 x.t, .string x.s] 75; have HB := qH hb0; have HA := qH (h.below hb0); have X0 := Ext.ex (hl0 0 _ rfl); have X1 := Ext.ex (hl0 1 _ rfl); have X2 := Ext.ex (hl0 2 _ rfl); clear hR h hb0 hl0; go_enter Tryz.func95, Tryz.ntmps95; go_wp2_with fail; clear hV0
 go_loopw [0, 5] (fun yv ov wr => ∃ (ys O : List Lp) (ay : Option Addr) (cy : Nat), yv = .slice ay ys.length cy ∧ ys.length ≤ cy ∧ O.length + ys.length ≤ 1000 ∧ Hid (Rw lpC 3 V0 ay ys) ∧ Hid (Own lpC 3 75 wr V0.heap.size ov O) ∧ Hid (O ++ putL x ys = R) ∧ ∃ X : Ext V0, wr = X.1) (fun yv _ _ => lenV yv)
 case atStart => exact ⟨l, [], a, ca, rfl, hc, by simp; omega, HA, qH (Own.nil _ _ _ _ _), qH (by rw [List.nil_append]; exact HR.out), ⟨V0, Below.refl _ _⟩, rfl⟩
 case round =>
  clear HR HA hl hc; obtain ⟨ys, O, ay, cy, rfl, hcy, hlen, HY, HO, HE, X, rfl⟩ := hrel; have hol : O.length ≤ 1000 := by omega
  match ys with
  | [] =>
   have HE2 := qH (show O ++ [x] ++ [] = R from by
    have he := HE.out; rw [putL] at he; rw [List.append_nil]; exact he)
   have HYA := qH HY.out; rw [List.length_nil] at hcy hlen ⊢; clear HE HY; go_wp2_with fail; refine wp_region_ext (W := X.1) ⟨X.1, Below.refl _ _⟩ (by kernel_rfl) (by kernel_rfl) ?_
   repeat go_big_quiet_step (fail)
   refine wpQuiet_nil ?_; rintro _ ⟨Y, rfl⟩; obtain ⟨V7, hV7, hb7, hs7, hl7⟩ := alloc_cells Y.1 #[.int .i64 x.f, .int .i64 x.t, .string x.s] 75; have HC7 := qH (fun j u (hj : (lpC x)[j]? = some u) => show V7.cell? ⟨Y.1.heap.size, j, none⟩ = some u from hl7 j u (by rw [← hj]; simp [lpC])); have HO7 := qH ((HO.out.below Y.2).below hb7); have H7 := qH (bStp (bStp X.2 Y.2) hb7); have x0 := X0 ⟨Y.1, bStp X.2 Y.2⟩; have x1 := X1 ⟨Y.1, bStp X.2 Y.2⟩; have x2 := X2 ⟨Y.1, bStp X.2 Y.2⟩; have HWB := qH HB.out; clear hb7 hs7 hl7 HO; go_wp2_with (first | (at_builtin; refine append_Lp rfl _ _ rfl rfl HO7.out (p := x) rfl HC7.out (by omega) H7.out.size (fun g' c3 w8 ho8 hg8 hor => ?_); have HO8 := qH ho8; have H8 := qH (show Below V0.heap.size V0 w8 from Kept.below (O := fun b => V0.heap.size ≤ b) H7.out (Kept.of_grown hg8 (fun g e _ => (HO7.out.lt g e).1)) H7.out.size (fun k hk e => by omega)); clear ho8 hg8 hor hV7 x0 x1 x2) | (at_builtin; refine append_Lps (l := O ++ [x]) (m := ([] : List Lp)) rfl _ _ rfl rfl HO8.out rfl rfl (HYA.out.below H8.out) (by simp only [List.length_append, List.length_cons, List.length_nil]; omega) H8.out.size (fun v9 w9 ho9 hg9 => ?_))); have H9 := qH (show Below V0.heap.size V0 w9 from Kept.below (O := fun b => V0.heap.size ≤ b) H8.out (Kept.of_grown hg9 (fun g e _ => (HO8.out.lt g e).1)) H8.out.size (fun k hk e => by omega)); obtain ⟨a9, c9, rfl, -, -, -⟩ := ho9.row lpEl; have HOF := qH (show Own lpC 3 75 w9 w.heap.size (.slice a9 (O ++ [x] ++ ([] : List Lp)).length c9) R from by
    have h := ho9.weaken HWB.out.size; rw [HE2.out] at h ⊢; exact h)
   clear ho9 hg9; go_wp2_with fail; go_ret; exact ⟨_, rfl, HOF.out, bStp HWB.out H9.out⟩
  | y :: ys =>
   obtain ⟨gy, oy, rfl, hby, hcy0⟩ := (HY.out).head; have y0 : ∀ Z : Ext X.1, Z.1.cell? ⟨gy, oy, none⟩ = some (.int .i64 y.f) := Ext.ex (bCel X.2 (hcy0 0 _ rfl)); have y1 : ∀ Z : Ext X.1, Z.1.cell? ⟨gy, oy + 1, none⟩ = some (.int .i64 y.t) := Ext.ex (bCel X.2 (hcy0 1 _ rfl)); have y2 : ∀ Z : Ext X.1, Z.1.cell? ⟨gy, oy + 2, none⟩ = some (.string y.s) := Ext.ex (bCel X.2 (hcy0 2 _ rfl)); have z0 : ∀ Z : Ext X.1, Z.1.cell? ⟨w.heap.size, 0, none⟩ = some (.int .i64 x.f) := Ext.ex (X0 X); obtain ⟨ny, hny⟩ : ∃ n, ys.length = n := ⟨_, rfl⟩; rw [List.length_cons, hny] at hcy hlen ⊢; have HNy := qH hny; have py1 : decide ((0 : Int) < ((ny + 1 : Nat) : Int)) = true := dTt (by omega); have py2 : decide ((0 : Int) < (ny : Int) + 1) = true := dTt (by omega); have HTy := qH (show Rw lpC 3 V0 (if cy = 1 then some ⟨gy, oy, none⟩ else some ⟨gy, oy + 3, none⟩) ys from HY.out.step (by omega)); have HYA := qH HY.out; have he := HE.out; rw [putL] at he; clear hcy0 hby HY HE hny; by_cases hle : y.f ≤ x.f
   · have q1 : decide (y.f ≤ x.f) = true := by rw [decide_eq_true_eq]; exact hle
     have HE2 := qH (show (O ++ [y]) ++ putL x ys = R from by
      rw [if_pos hle] at he; rw [List.append_assoc]; exact he)
     clear he hle; go_wp2_with fail; refine wp_region_ext (W := X.1) ⟨X.1, Below.refl _ _⟩ (by kernel_rfl) (by kernel_rfl) ?_
     repeat go_big_quiet_step (fail)
     refine wpQuiet_nil ?_; rintro _ ⟨Y, rfl⟩; obtain ⟨V7, hV7, hb7, hs7, hl7⟩ := alloc_cells Y.1 #[.int .i64 y.f, .int .i64 y.t, .string y.s] 75; have HC7 := qH (fun j u (hj : (lpC y)[j]? = some u) => show V7.cell? ⟨Y.1.heap.size, j, none⟩ = some u from hl7 j u (by rw [← hj]; simp [lpC])); have HO7 := qH ((HO.out.below Y.2).below hb7); have H7 := qH (bStp (bStp X.2 Y.2) hb7); have v0 := y0 Y; have v1 := y1 Y; have v2 := y2 Y; clear hb7 hs7 hl7 HO; go_wp2_with (at_builtin; refine append_Lp rfl _ _ rfl rfl HO7.out (p := y) rfl HC7.out (by omega) H7.out.size (fun g' c3 w8 ho8 hg8 hor => ?_)); have HO8 := qH ho8; have H8 := qH (show Below V0.heap.size V0 w8 from Kept.below (O := fun b => V0.heap.size ≤ b) H7.out (Kept.of_grown hg8 (fun g e _ => (HO7.out.lt g e).1)) H7.out.size (fun k hk e => by omega)); clear ho8 hg8 hor hV7 v0 v1 v2; go_wp2_with fail; exact ⟨⟨ys, O ++ [y], _, cy - 1, by rw [HNy.out], by rw [HNy.out]; omega, by rw [HNy.out, List.length_append]; show O.length + 1 + ny ≤ _; omega, HTy, HO8, HE2, ⟨w8, H8.out⟩, rfl⟩, by show ny < ny + 1; omega⟩
   · have q1 : decide (y.f ≤ x.f) = false := by rw [decide_eq_false_iff_not]; exact hle
     have HE2 := qH (show O ++ [x] ++ (y :: ys) = R from by
      rw [if_neg hle] at he; rw [List.append_assoc]; exact he)
     have HLY := qH (show (y :: ys).length = ny + 1 from by rw [List.length_cons, HNy.out]); clear he hle; go_wp2_with fail; refine wp_region_ext (W := X.1) ⟨X.1, Below.refl _ _⟩ (by kernel_rfl) (by kernel_rfl) ?_
     repeat go_big_quiet_step (fail)
     refine wpQuiet_nil ?_; rintro _ ⟨Y, rfl⟩; obtain ⟨V7, hV7, hb7, hs7, hl7⟩ := alloc_cells Y.1 #[.int .i64 x.f, .int .i64 x.t, .string x.s] 75; have HC7 := qH (fun j u (hj : (lpC x)[j]? = some u) => show V7.cell? ⟨Y.1.heap.size, j, none⟩ = some u from hl7 j u (by rw [← hj]; simp [lpC])); have HO7 := qH ((HO.out.below Y.2).below hb7); have H7 := qH (bStp (bStp X.2 Y.2) hb7); have x0 := X0 ⟨Y.1, bStp X.2 Y.2⟩; have x1 := X1 ⟨Y.1, bStp X.2 Y.2⟩; have x2 := X2 ⟨Y.1, bStp X.2 Y.2⟩; have HWB := qH HB.out; clear hb7 hs7 hl7 HO; go_wp2_with (first | (at_builtin; refine append_Lp rfl _ _ rfl rfl HO7.out (p := x) rfl HC7.out (by omega) H7.out.size (fun g' c3 w8 ho8 hg8 hor => ?_); have HO8 := qH ho8; have H8 := qH (show Below V0.heap.size V0 w8 from Kept.below (O := fun b => V0.heap.size ≤ b) H7.out (Kept.of_grown hg8 (fun g e _ => (HO7.out.lt g e).1)) H7.out.size (fun k hk e => by omega)); clear ho8 hg8 hor hV7 x0 x1 x2) | (at_builtin; refine append_Lps (l := O ++ [x]) (m := (y :: ys)) rfl _ _ rfl rfl HO8.out rfl HLY.out (HYA.out.below H8.out) (by simp only [List.length_append, List.length_cons, List.length_nil]; omega) H8.out.size (fun v9 w9 ho9 hg9 => ?_))); have H9 := qH (show Below V0.heap.size V0 w9 from Kept.below (O := fun b => V0.heap.size ≤ b) H8.out (Kept.of_grown hg9 (fun g e _ => (HO8.out.lt g e).1)) H8.out.size (fun k hk e => by omega)); obtain ⟨a9, c9, rfl, -, -, -⟩ := ho9.row lpEl; have HOF := qH (show Own lpC 3 75 w9 w.heap.size (.slice a9 (O ++ [x] ++ (y :: ys)).length c9) R from by
      have h := ho9.weaken HWB.out.size; rw [HE2.out] at h ⊢; exact h)
     clear ho9 hg9; go_wp2_with fail; go_ret; exact ⟨_, rfl, HOF.out, bStp HWB.out H9.out⟩
end Go.Proofs.YtjnfccphodjfiaaGreat
