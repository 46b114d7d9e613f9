/- Several texts of this claim in one. -/
import Derived.Test.YtjnfccphodjfiaaGreatMa8
import Derived.Test.YtjnfccphodjfiaaGreatMa4
/- A text of this claim. -/
namespace Go.Proofs.YtjnfccphodjfiaaGreat
open Go.RowKit Go.BigFrame
open Tr (inR Ed)
set_option linter.unusedVariables false
def DoR (A : Acv) (x : Ed) (base : Nat) (w : World) (e : Ending) (w' : World) : Prop :=
 Below base w w' ∧ ∃ Z a b c ca cb cc, e = .returned (.tuple #[actV Z a b c ca cb cc, .int .i64 (appE A x)]) ∧ (appE A x = 0 → Z = appZ A x ∧ ActIn w' Z a b c ∧ ∀ q, (a = some q ∨ b = some q ∨ c = some q) → base ≤ q.block)
theorem Own3.actIn {w : World} {base : Nat} {A : Acv} {a b c : Option Addr} {ca cb cc : Nat} (h : Own3 w base A (.slice a A.sm.length ca) (.slice b A.lp.length cb) (.slice c A.tg.length cc)) (ht : ActText A) (oA : AcOk A) :
 ActIn w A a b c ∧ A.sm.length ≤ ca ∧ A.lp.length ≤ cb ∧ A.tg.length ≤ cc ∧ ∀ q, (a = some q ∨ b = some q ∨ c = some q) → base ≤ q.block := by
 obtain ⟨B1, B2, hB1, hB2, h1, _, h2, _, h3⟩ := h.ex
 have n1 := oA.nsm
 have n2 := oA.nlp
 have n3 := oA.ntg
 obtain ⟨_, _, e1, k1, _, _⟩ := h1.row smEl
 injection e1 with f1 f2 f3
 obtain ⟨_, _, e2, k2, _, _⟩ := h2.row lpEl
 injection e2 with f4 f5 f6
 obtain ⟨_, _, e3, k3, _, _⟩ := h3.row tgEl
 injection e3 with f7 f8 f9
 exact ⟨⟨(h1.rw_ smEl).1, (h2.rw_ lpEl).1, (h3.rw_ tgEl).1, ht.name, ht.titles, ht.tags, by omega, by omega, by omega⟩, by omega, by omega, by omega, fun q hq => by
  rcases hq with e | e | e
  · exact ((h1.rw_ smEl).2.2 q e).1
  · have := ((h2.rw_ lpEl).2.2 q e).1
    omega
  · have := ((h3.rw_ tgEl).2.2 q e).1
    omega⟩
set_option maxHeartbeats 8000000 in
set_option maxRecDepth 100000 in
theorem sm_1 (n f t : Int) (s : ByteArray) (A : Acv) (a b c : Option Addr) (ca cb cc : Nat) (base : Nat) (w : World) (ho : Own3 w base A (.slice a A.sm.length ca) (.slice b A.lp.length cb) (.slice c A.tg.length cc)) (hb : base ≤ w.heap.size) (ht : ActText A) (oA : AcOk A) (hs : s.size ≤ maxLen) (hk : chkE ⟨1, n, f, t, s⟩ = 0) :
 Calls Tryz.prog 74 #[actV A a b c ca cb cc, edV ⟨1, n, f, t, s⟩] w fun e w' => DoR A ⟨1, n, f, t, s⟩ base w e w' := by
 unfold DoR
 rw [appE_1 rfl, appZ_1 rfl]
 obtain ⟨hI, hca, hcb, hcc, hfr⟩ := ho.actIn ht oA
 have HFR := Lib.hid hfr
 obtain ⟨V0, hV0, hb0, hs0, ha0⟩ := alloc_ac w A.name A.sport A.start (.slice a A.sm.length ca) (.slice b A.lp.length cb) (.slice c A.tg.length cc)
 obtain ⟨V1, hV1, hb1, hs1, hl1⟩ := alloc_cells V0 #[.int .i64 1, .int .i64 n, .int .i64 f, .int .i64 t, .string s] 28
 obtain ⟨V2, hV2, hb2, hs2, ha2⟩ := alloc_ac V1 ⟨#[]⟩ 0 0 (.slice none 0 0) (.slice none 0 0) (.slice none 0 0)
 have hs11 : V1.heap.size = w.heap.size + 2 := by omega
 rw [hs0] at hl1
 rw [hs11] at ha2
 have hA0 := (ha0.below hb1).below hb2
 have HB := Lib.hid (below_step (below_step hb0 hb1) hb2)
 have HSZ := Lib.hid (show V2.heap.size = w.heap.size + 3 from by omega)
 have HIW := Lib.hid hI
 have HIA := Lib.hid (hI.below HB.out)
 have HA0 := Lib.hid hA0
 have HA2 := Lib.hid ha2
 have HBS := Lib.hid hb
 have HOA := Lib.hid oA
 have HTX := Lib.hid ht
 have x0 := below_cell hb2 (hl1 0 _ rfl)
 have x1 := below_cell hb2 (hl1 1 _ rfl)
 have x2 := below_cell hb2 (hl1 2 _ rfl)
 have x3 := below_cell hb2 (hl1 3 _ rfl)
 have x4 := below_cell hb2 (hl1 4 _ rfl)
 have HL := Lib.hid (And.intro hca (And.intro hcb hcc))
 have HX0 := Lib.hid x0
 obtain ⟨z0, z1, z2, z3, z4, z5⟩ := hA0.cell
 have fr := hA0.free
 have HSS := Lib.hid hs
 clear ho hb ht oA hI hb0 hb1 hb2 ha0 ha2 hl1 hA0 hs1 hs2 hca hcb hcc hfr hk
 unfold actV
 unfold edV
 go_enter Tryz.func74, Tryz.ntmps74
 go_upto_region 1 with (fail)
 clear hV0 hV1 hV2 hs0 hs11
 have HR := HA2
 have hA1 := HA0.out.set0 s
 obtain ⟨W1, hW1⟩ : ∃ z, V2.setCell ⟨w.heap.size, 0, none⟩ (.string s) = z := ⟨_, rfl⟩
 rw [hW1] at hA1
 have hk1 : Kept (fun q => q = w.heap.size) V2 W1 := by rw [← hW1]; exact keep_set (O := fun q => q = w.heap.size) rfl
 have hR := HR.out.kept hk1 (by omega)
 obtain ⟨y0, y1, y2, y3, y4, y5⟩ := hA1.cell
 obtain ⟨r0, r1, r2, r3, r4, r5⟩ := hR.cell
 have fr2 := hR.free
 obtain ⟨WF, hWF, haF, hkF⟩ := hR.store s A.sport A.start (.slice a A.sm.length ca) (.slice b A.lp.length cb) (.slice c A.tg.length cc)
 have HAF := Lib.hid haF
 have HKF := Lib.hid (hkF (fun q => q = w.heap.size + 2) rfl)
 have HK1 := Lib.hid hk1
 have hx0 := hk1.cell (p := ⟨w.heap.size + 1, 0, none⟩) (by show ¬ (w.heap.size + 1 = w.heap.size); omega) x0
 clear haF hkF hR hA1 hk1
 have HBF := Lib.hid (show Below w.heap.size w WF from by
  have h1 := Kept.below HB.out HK1.out HB.out.size (fun k hk e => by omega)
  exact Kept.below h1 HKF.out h1.size (fun k hk e => by omega))
 have hnsm := HOA.out.nsm
 go_wp2_with fail
 go_loopw [95] (fun iv wr => ∃ i : Nat, iv = .int .i64 i ∧ i ≤ A.sm.length ∧ wr = W1) (fun iv _ => A.sm.length - (intOf iv).toNat)
 case atStart => exact ⟨0, rfl, by omega, by first | rfl | trivial⟩
 case round =>
  obtain ⟨i, rfl, hi, rfl⟩ := hrel
  by_cases hlt : i < A.sm.length
  · have t1 : decide ((i : Int) < (A.sm.length : Int)) = true := by rw [decide_eq_true_eq]; omega
    have t1' : decide (i < A.sm.length) = true := by simpa using hlt
    obtain ⟨ba, oa, rfl, -, -⟩ := HIW.out.sm.here (by omega)
    go_wp2_with fail
    go_roundw
    case rel => exact ⟨i + 1, by go_num, by omega, by first | rfl | trivial⟩
    case measure => simp [intOf]; omega
  have t1 : decide ((i : Int) < (A.sm.length : Int)) = false := by rw [decide_eq_false_iff_not]; omega
  have t1' : decide (i < A.sm.length) = false := by simpa using hlt
  go_wp2_with fail
  have q := HAF.out.cell
  have hI := HIW.out.below HBF.out
  exact bodyPost_ret (v := .tuple #[.agg #[.string s, .int .i64 A.sport, .int .i64 A.start, .slice a A.sm.length ca, .slice b A.lp.length cb, .slice c A.tg.length cc], .int .i64 0]) (by simp [results, Tryz.results74, go_sem, q]) rfl ⟨below_at HBF.out HBS.out (Kept.refl _ _), { A with name := s }, a, b, c, ca, cb, cc, rfl, fun _ => ⟨rfl, ⟨hI.sm, hI.lp, hI.tg, HSS.out, hI.titles, hI.tags, hI.nsm, hI.nlp, hI.ntg⟩, HFR.out⟩⟩
set_option maxHeartbeats 8000000 in
set_option maxRecDepth 100000 in
theorem sm_2 (n f t : Int) (s : ByteArray) (A : Acv) (a b c : Option Addr) (ca cb cc : Nat) (base : Nat) (w : World) (ho : Own3 w base A (.slice a A.sm.length ca) (.slice b A.lp.length cb) (.slice c A.tg.length cc)) (hb : base ≤ w.heap.size) (ht : ActText A) (oA : AcOk A) (hs : s.size ≤ maxLen) (hk : chkE ⟨2, n, f, t, s⟩ = 0) :
 Calls Tryz.prog 74 #[actV A a b c ca cb cc, edV ⟨2, n, f, t, s⟩] w fun e w' => DoR A ⟨2, n, f, t, s⟩ base w e w' := by
 unfold DoR
 rw [appE_2 rfl, appZ_2 rfl]
 obtain ⟨hI, hca, hcb, hcc, hfr⟩ := ho.actIn ht oA
 have HFR := Lib.hid hfr
 obtain ⟨V0, hV0, hb0, hs0, ha0⟩ := alloc_ac w A.name A.sport A.start (.slice a A.sm.length ca) (.slice b A.lp.length cb) (.slice c A.tg.length cc)
 obtain ⟨V1, hV1, hb1, hs1, hl1⟩ := alloc_cells V0 #[.int .i64 2, .int .i64 n, .int .i64 f, .int .i64 t, .string s] 28
 obtain ⟨V2, hV2, hb2, hs2, ha2⟩ := alloc_ac V1 ⟨#[]⟩ 0 0 (.slice none 0 0) (.slice none 0 0) (.slice none 0 0)
 have hs11 : V1.heap.size = w.heap.size + 2 := by omega
 rw [hs0] at hl1
 rw [hs11] at ha2
 have hA0 := (ha0.below hb1).below hb2
 have HB := Lib.hid (below_step (below_step hb0 hb1) hb2)
 have HSZ := Lib.hid (show V2.heap.size = w.heap.size + 3 from by omega)
 have HIW := Lib.hid hI
 have HIA := Lib.hid (hI.below HB.out)
 have HA0 := Lib.hid hA0
 have HA2 := Lib.hid ha2
 have HBS := Lib.hid hb
 have HOA := Lib.hid oA
 have HTX := Lib.hid ht
 have x0 := below_cell hb2 (hl1 0 _ rfl)
 have x1 := below_cell hb2 (hl1 1 _ rfl)
 have x2 := below_cell hb2 (hl1 2 _ rfl)
 have x3 := below_cell hb2 (hl1 3 _ rfl)
 have x4 := below_cell hb2 (hl1 4 _ rfl)
 have HL := Lib.hid (And.intro hca (And.intro hcb hcc))
 have HX0 := Lib.hid x0
 obtain ⟨z0, z1, z2, z3, z4, z5⟩ := hA0.cell
 have fr := hA0.free
 clear ho hb ht oA hI hb0 hb1 hb2 ha0 ha2 hl1 hA0 hs1 hs2 hca hcb hcc hfr hk
 unfold actV
 unfold edV
 go_enter Tryz.func74, Tryz.ntmps74
 go_upto_region 1 with (fail)
 clear hV0 hV1 hV2 hs0 hs11
 have HR := HA2
 have hA1 := HA0.out.set1 n
 obtain ⟨W1, hW1⟩ : ∃ z, V2.setCell ⟨w.heap.size, 1, none⟩ (.int .i64 n) = z := ⟨_, rfl⟩
 rw [hW1] at hA1
 have hk1 : Kept (fun q => q = w.heap.size) V2 W1 := by rw [← hW1]; exact keep_set (O := fun q => q = w.heap.size) rfl
 have hR := HR.out.kept hk1 (by omega)
 obtain ⟨y0, y1, y2, y3, y4, y5⟩ := hA1.cell
 obtain ⟨r0, r1, r2, r3, r4, r5⟩ := hR.cell
 have fr2 := hR.free
 obtain ⟨WF, hWF, haF, hkF⟩ := hR.store A.name n A.start (.slice a A.sm.length ca) (.slice b A.lp.length cb) (.slice c A.tg.length cc)
 have HAF := Lib.hid haF
 have HKF := Lib.hid (hkF (fun q => q = w.heap.size + 2) rfl)
 have HK1 := Lib.hid hk1
 have hx0 := hk1.cell (p := ⟨w.heap.size + 1, 0, none⟩) (by show ¬ (w.heap.size + 1 = w.heap.size); omega) x0
 clear haF hkF hR hA1 hk1
 have HBF := Lib.hid (show Below w.heap.size w WF from by
  have h1 := Kept.below HB.out HK1.out HB.out.size (fun k hk e => by omega)
  exact Kept.below h1 HKF.out h1.size (fun k hk e => by omega))
 have hnsm := HOA.out.nsm
 go_wp2_with fail
 go_loopw [95] (fun iv wr => ∃ i : Nat, iv = .int .i64 i ∧ i ≤ A.sm.length ∧ wr = W1) (fun iv _ => A.sm.length - (intOf iv).toNat)
 case atStart => exact ⟨0, rfl, by omega, by first | rfl | trivial⟩
 case round =>
  obtain ⟨i, rfl, hi, rfl⟩ := hrel
  by_cases hlt : i < A.sm.length
  · have t1 : decide ((i : Int) < (A.sm.length : Int)) = true := by rw [decide_eq_true_eq]; omega
    have t1' : decide (i < A.sm.length) = true := by simpa using hlt
    obtain ⟨ba, oa, rfl, -, -⟩ := HIW.out.sm.here (by omega)
    go_wp2_with fail
    go_roundw
    case rel => exact ⟨i + 1, by go_num, by omega, by first | rfl | trivial⟩
    case measure => simp [intOf]; omega
  have t1 : decide ((i : Int) < (A.sm.length : Int)) = false := by rw [decide_eq_false_iff_not]; omega
  have t1' : decide (i < A.sm.length) = false := by simpa using hlt
  go_wp2_with fail
  have q := HAF.out.cell
  have hI := HIW.out.below HBF.out
  exact bodyPost_ret (v := .tuple #[.agg #[.string A.name, .int .i64 n, .int .i64 A.start, .slice a A.sm.length ca, .slice b A.lp.length cb, .slice c A.tg.length cc], .int .i64 0]) (by simp [results, Tryz.results74, go_sem, q]) rfl ⟨below_at HBF.out HBS.out (Kept.refl _ _), { A with sport := n }, a, b, c, ca, cb, cc, rfl, fun _ => ⟨rfl, ⟨hI.sm, hI.lp, hI.tg, hI.name, hI.titles, hI.tags, hI.nsm, hI.nlp, hI.ntg⟩, HFR.out⟩⟩
set_option maxHeartbeats 8000000 in
set_option maxRecDepth 100000 in
theorem sm_5 (n f t : Int) (s : ByteArray) (A : Acv) (a b c : Option Addr) (ca cb cc : Nat) (base : Nat) (w : World) (ho : Own3 w base A (.slice a A.sm.length ca) (.slice b A.lp.length cb) (.slice c A.tg.length cc)) (hb : base ≤ w.heap.size) (ht : ActText A) (oA : AcOk A) (hs : s.size ≤ maxLen) (hk : chkE ⟨5, n, f, t, s⟩ = 0) :
 Calls Tryz.prog 74 #[actV A a b c ca cb cc, edV ⟨5, n, f, t, s⟩] w fun e w' => DoR A ⟨5, n, f, t, s⟩ base w e w' := by
 unfold DoR
 rw [appE_5 rfl, appZ_5 rfl]
 obtain ⟨hI, hca, hcb, hcc, hfr⟩ := ho.actIn ht oA
 have HFR := Lib.hid hfr
 obtain ⟨V0, hV0, hb0, hs0, ha0⟩ := alloc_ac w A.name A.sport A.start (.slice a A.sm.length ca) (.slice b A.lp.length cb) (.slice c A.tg.length cc)
 obtain ⟨V1, hV1, hb1, hs1, hl1⟩ := alloc_cells V0 #[.int .i64 5, .int .i64 n, .int .i64 f, .int .i64 t, .string s] 28
 obtain ⟨V2, hV2, hb2, hs2, ha2⟩ := alloc_ac V1 ⟨#[]⟩ 0 0 (.slice none 0 0) (.slice none 0 0) (.slice none 0 0)
 have hs11 : V1.heap.size = w.heap.size + 2 := by omega
 rw [hs0] at hl1
 rw [hs11] at ha2
 have hA0 := (ha0.below hb1).below hb2
 have HB := Lib.hid (below_step (below_step hb0 hb1) hb2)
 have HSZ := Lib.hid (show V2.heap.size = w.heap.size + 3 from by omega)
 have HIW := Lib.hid hI
 have HIA := Lib.hid (hI.below HB.out)
 have HA0 := Lib.hid hA0
 have HA2 := Lib.hid ha2
 have HBS := Lib.hid hb
 have HOA := Lib.hid oA
 have HTX := Lib.hid ht
 have x0 := below_cell hb2 (hl1 0 _ rfl)
 have x1 := below_cell hb2 (hl1 1 _ rfl)
 have x2 := below_cell hb2 (hl1 2 _ rfl)
 have x3 := below_cell hb2 (hl1 3 _ rfl)
 have x4 := below_cell hb2 (hl1 4 _ rfl)
 have HL := Lib.hid (And.intro hca (And.intro hcb hcc))
 have HX0 := Lib.hid x0
 obtain ⟨z0, z1, z2, z3, z4, z5⟩ := hA0.cell
 have fr := hA0.free
 obtain ⟨s0, s1⟩ := oA.start
 have hr := chk_rng (lo := -86399999999) (hi := 86399999999) (show ¬ ((5 : Int) < 1 ∨ 12 < (5 : Int)) by decide) rfl hk
 simp only at hr
 have wr : IntKind.i64.wrap (A.start + n) = A.start + n := tm_wrap (by omega) (by omega)
 clear hr s0 s1
 clear ho hb ht oA hI hb0 hb1 hb2 ha0 ha2 hl1 hA0 hs1 hs2 hca hcb hcc hfr hk
 unfold actV
 unfold edV
 go_enter Tryz.func74, Tryz.ntmps74
 go_upto_region 1 with (fail)
 clear hV0 hV1 hV2 hs0 hs11
 have HR := HA2
 have hA1 := HA0.out.set2 (A.start + n)
 obtain ⟨W1, hW1⟩ : ∃ z, V2.setCell ⟨w.heap.size, 2, none⟩ (.int .i64 (A.start + n)) = z := ⟨_, rfl⟩
 rw [hW1] at hA1
 have hk1 : Kept (fun q => q = w.heap.size) V2 W1 := by rw [← hW1]; exact keep_set (O := fun q => q = w.heap.size) rfl
 have hR := HR.out.kept hk1 (by omega)
 obtain ⟨y0, y1, y2, y3, y4, y5⟩ := hA1.cell
 obtain ⟨r0, r1, r2, r3, r4, r5⟩ := hR.cell
 have fr2 := hR.free
 obtain ⟨WF, hWF, haF, hkF⟩ := hR.store A.name A.sport (A.start + n) (.slice a A.sm.length ca) (.slice b A.lp.length cb) (.slice c A.tg.length cc)
 have HAF := Lib.hid haF
 have HKF := Lib.hid (hkF (fun q => q = w.heap.size + 2) rfl)
 have HK1 := Lib.hid hk1
 have hx0 := hk1.cell (p := ⟨w.heap.size + 1, 0, none⟩) (by show ¬ (w.heap.size + 1 = w.heap.size); omega) x0
 clear haF hkF hR hA1 hk1
 have HBF := Lib.hid (show Below w.heap.size w WF from by
  have h1 := Kept.below HB.out HK1.out HB.out.size (fun k hk e => by omega)
  exact Kept.below h1 HKF.out h1.size (fun k hk e => by omega))
 have hnsm := HOA.out.nsm
 go_wp2_with fail
 go_loopw [95] (fun iv wr => ∃ i : Nat, iv = .int .i64 i ∧ i ≤ A.sm.length ∧ wr = W1) (fun iv _ => A.sm.length - (intOf iv).toNat)
 case atStart => exact ⟨0, rfl, by omega, by first | rfl | trivial⟩
 case round =>
  obtain ⟨i, rfl, hi, rfl⟩ := hrel
  by_cases hlt : i < A.sm.length
  · have t1 : decide ((i : Int) < (A.sm.length : Int)) = true := by rw [decide_eq_true_eq]; omega
    have t1' : decide (i < A.sm.length) = true := by simpa using hlt
    obtain ⟨ba, oa, rfl, -, -⟩ := HIW.out.sm.here (by omega)
    go_wp2_with fail
    go_roundw
    case rel => exact ⟨i + 1, by go_num, by omega, by first | rfl | trivial⟩
    case measure => simp [intOf]; omega
  have t1 : decide ((i : Int) < (A.sm.length : Int)) = false := by rw [decide_eq_false_iff_not]; omega
  have t1' : decide (i < A.sm.length) = false := by simpa using hlt
  go_wp2_with fail
  have q := HAF.out.cell
  have hI := HIW.out.below HBF.out
  exact bodyPost_ret (v := .tuple #[.agg #[.string A.name, .int .i64 A.sport, .int .i64 (A.start + n), .slice a A.sm.length ca, .slice b A.lp.length cb, .slice c A.tg.length cc], .int .i64 0]) (by simp [results, Tryz.results74, go_sem, q]) rfl ⟨below_at HBF.out HBS.out (Kept.refl _ _), { A with start := A.start + n }, a, b, c, ca, cb, cc, rfl, fun _ => ⟨rfl, ⟨hI.sm, hI.lp, hI.tg, hI.name, hI.titles, hI.tags, hI.nsm, hI.nlp, hI.ntg⟩, HFR.out⟩⟩
set_option maxHeartbeats 8000000 in
set_option maxRecDepth 100000 in
theorem sm_3 (n f t : Int) (s : ByteArray) (A : Acv) (a b c : Option Addr) (ca cb cc : Nat) (base : Nat) (w : World) (ho : Own3 w base A (.slice a A.sm.length ca) (.slice b A.lp.length cb) (.slice c A.tg.length cc)) (hb : base ≤ w.heap.size) (ht : ActText A) (oA : AcOk A) (hs : s.size ≤ maxLen) (hk : chkE ⟨3, n, f, t, s⟩ = 0) :
 Calls Tryz.prog 74 #[actV A a b c ca cb cc, edV ⟨3, n, f, t, s⟩] w fun e w' => DoR A ⟨3, n, f, t, s⟩ base w e w' := by
 unfold DoR
 rw [appE_3 rfl, appZ_3 rfl]
 obtain ⟨hI, hca, hcb, hcc, hfr⟩ := ho.actIn ht oA
 have HFR := Lib.hid hfr
 obtain ⟨V0, hV0, hb0, hs0, ha0⟩ := alloc_ac w A.name A.sport A.start (.slice a A.sm.length ca) (.slice b A.lp.length cb) (.slice c A.tg.length cc)
 obtain ⟨V1, hV1, hb1, hs1, hl1⟩ := alloc_cells V0 #[.int .i64 3, .int .i64 n, .int .i64 f, .int .i64 t, .string s] 28
 obtain ⟨V2, hV2, hb2, hs2, ha2⟩ := alloc_ac V1 ⟨#[]⟩ 0 0 (.slice none 0 0) (.slice none 0 0) (.slice none 0 0)
 have hs11 : V1.heap.size = w.heap.size + 2 := by omega
 rw [hs0] at hl1
 rw [hs11] at ha2
 have hA0 := (ha0.below hb1).below hb2
 have HB := Lib.hid (below_step (below_step hb0 hb1) hb2)
 have HSZ := Lib.hid (show V2.heap.size = w.heap.size + 3 from by omega)
 have HIW := Lib.hid hI
 have HIA := Lib.hid (hI.below HB.out)
 have HA0 := Lib.hid hA0
 have HA2 := Lib.hid ha2
 have HBS := Lib.hid hb
 have HOA := Lib.hid oA
 have HTX := Lib.hid ht
 have x0 := below_cell hb2 (hl1 0 _ rfl)
 have x1 := below_cell hb2 (hl1 1 _ rfl)
 have x2 := below_cell hb2 (hl1 2 _ rfl)
 have x3 := below_cell hb2 (hl1 3 _ rfl)
 have x4 := below_cell hb2 (hl1 4 _ rfl)
 have HL := Lib.hid (And.intro hca (And.intro hcb hcc))
 have HX0 := Lib.hid x0
 obtain ⟨z0, z1, z2, z3, z4, z5⟩ := hA0.cell
 have fr := hA0.free
 have DT := Lib.hid (show Calls Tryz.prog 93 #[.agg #[.string A.name, .int .i64 A.sport, .int .i64 A.start, .slice a A.sm.length ca, .slice b A.lp.length cb, .slice c A.tg.length cc], .string s] V2 fun e w' => e = .returned (.bool (hasT s A.tg)) ∧ Below V2.heap.size V2 w' from by
  have h := rhasTag_any A a b c ca cb cc s V2 HIA.out.tg (by have := oA.ntg; omega)
  unfold actV at h
  exact h)
 have HSS := Lib.hid hs
 by_cases hh : hasT s A.tg = true
 · have HE := Lib.hid (show (if hasT s A.tg = true then (5 : Int) else 0) = 5 from if_pos hh)
   rw [HE.out]
   rw [hh] at DT
   clear hh
   clear ho hb ht oA hI hb0 hb1 hb2 ha0 ha2 hl1 hA0 hs1 hs2 hca hcb hcc hfr hk
   unfold actV
   unfold edV
   go_enter Tryz.func74, Tryz.ntmps74
   go_upto_region 1 with (fail)
   clear hV0 hV1 hV2 hs0 hs11
   go_wp2_with fail
   refine (DT.out).mono ?_
   rintro e w3 ⟨rfl, hb3⟩
   have HB3 := Lib.hid hb3
   have x4' := below_cell hb3 x4
   have hz := (HA0.out.below hb3).cell
   clear z0 z1 z2 z3 z4 z5 fr x0 x1 x2 x3 x4 hb3 DT
   clear hz x4'
   have hR := HA2.out.below HB3.out
   obtain ⟨y0, y1, y2, y3, y4, y5⟩ := (HA0.out.below HB3.out).cell
   obtain ⟨r0, r1, r2, r3, r4, r5⟩ := hR.cell
   have fr2 := hR.free
   obtain ⟨WF, hWF, haF, hkF⟩ := hR.store A.name A.sport A.start (.slice a A.sm.length ca) (.slice b A.lp.length cb) (.slice c A.tg.length cc)
   have HAF := Lib.hid haF
   have HKF := Lib.hid (hkF (fun q => q = w.heap.size + 2) rfl)
   have HBF := Lib.hid (show Below w.heap.size w WF from by
    have h1 := below_step HB.out HB3.out
    exact Kept.below h1 HKF.out h1.size (fun k hk e => by omega))
   clear haF hkF hR
   go_wp2_with fail
   have q := HAF.out.cell
   exact bodyPost_ret (v := .tuple #[.agg #[.string A.name, .int .i64 A.sport, .int .i64 A.start, .slice a A.sm.length ca, .slice b A.lp.length cb, .slice c A.tg.length cc], .int .i64 5]) (by simp [results, Tryz.results74, go_sem, q]) rfl ⟨below_at HBF.out HBS.out (Kept.refl _ _), A, a, b, c, ca, cb, cc, rfl, fun h => by omega⟩
 · have HE := Lib.hid (show (if hasT s A.tg = true then (5 : Int) else 0) = 0 from if_neg hh)
   rw [HE.out]
   rw [show hasT s A.tg = false from by simpa using hh] at DT
   clear hh
   clear ho hb ht oA hI hb0 hb1 hb2 ha0 ha2 hl1 hA0 hs1 hs2 hca hcb hcc hfr hk
   unfold actV
   unfold edV
   go_enter Tryz.func74, Tryz.ntmps74
   go_upto_region 1 with (fail)
   clear hV0 hV1 hV2 hs0 hs11
   go_wp2_with fail
   refine (DT.out).mono ?_
   rintro e w3 ⟨rfl, hb3⟩
   have HB3 := Lib.hid hb3
   have x4' := below_cell hb3 x4
   have hz := (HA0.out.below hb3).cell
   clear z0 z1 z2 z3 z4 z5 fr x0 x1 x2 x3 x4 hb3 DT
   obtain ⟨z0, z1, z2, z3, z4, z5⟩ := hz
   obtain ⟨V7, hV7, hb7, hs7, hl7⟩ := alloc_cells w3 #[.string s] 9
   have HB7 := Lib.hid (below_step HB3.out hb7)
   have hT := rTags_any A.tg [s] c (some ⟨w3.heap.size, 0, none⟩) cc 1 V7 ((HIA.out.tg.below HB3.out).below hb7) (one_row s w3.heap.size V7 (by omega) (hl7 0 _ rfl)) (by have := HOA.out.ntg; omega) (by simp) HL.out.2.2 (by simp)
   have DTG := Lib.hid hT
   obtain ⟨y0, y1, y2, y3, y4, y5⟩ := (HA0.out.below HB7.out).cell
   clear hb7 hs7 hl7 hT
   simp only [List.length_singleton] at DTG
   go_upto_region 11 with (fail)
   go_wp2_with fail
   refine (DTG.out).mono ?_
   rintro e w4 ⟨v, rfl, hov, hb4⟩
   obtain ⟨vv, cv, rfl, -, -, -⟩ := hov.row tgEl
   obtain ⟨nv, hnv⟩ : ∃ nv, (mergeT A.tg [s]).length = nv := ⟨_, rfl⟩
   have HNV := Lib.hid hnv
   rw [hnv] at hov ⊢
   have HB4 := Lib.hid (below_step HB7.out hb4)
   have HOV := Lib.hid (show Own tgC 1 9 w4 V2.heap.size (.slice vv nv cv) (mergeT A.tg [s]) from hov.weaken HB7.out.size)
   have HMT := Lib.hid (fun p (hp : p ∈ mergeT A.tg [s]) => show p.size ≤ maxLen from by
    rcases (mergeT_mem _ A.tg [s] rfl p).1 hp with h | h
    · exact HTX.out.tags p h
    · rw [List.mem_singleton.1 h]
      exact HSS.out)
   have HML := Lib.hid (show nv ≤ 1000 from by
    have := mergeT_len A.tg [s] _ rfl
    simp only [List.length_singleton] at this
    have := HOA.out.ntg
    have := HNV.out
    omega)
   clear hov hnv y0 y1 y2 y3 y4 y5 hb4 x4' DTG hV7 z0 z1 z2 z3 z4 z5
   have hA1 := (HA0.out.below HB4.out).set5 (.slice vv nv cv)
   have fr1 := (HA0.out.below HB4.out).free 5
   obtain ⟨y0', y1', y2', y3', y4', y5'⟩ := (HA0.out.below HB4.out).cell
   obtain ⟨W1, hW1⟩ : ∃ z, w4.setCell ⟨w.heap.size, 5, none⟩ (.slice vv nv cv) = z := ⟨_, rfl⟩
   rw [hW1] at hA1
   have hk1 : Kept (fun q => q = w.heap.size) w4 W1 := by rw [← hW1]; exact keep_set (O := fun q => q = w.heap.size) rfl
   have hR := (HA2.out.below HB4.out).kept hk1 (by omega)
   obtain ⟨y0, y1, y2, y3, y4, y5⟩ := hA1.cell
   obtain ⟨r0, r1, r2, r3, r4, r5⟩ := hR.cell
   have fr2 := hR.free
   obtain ⟨WF, hWF, haF, hkF⟩ := hR.store A.name A.sport A.start (.slice a A.sm.length ca) (.slice b A.lp.length cb) (.slice vv nv cv)
   have HAF := Lib.hid haF
   have HKF := Lib.hid (hkF (fun q => q = w.heap.size + 2) rfl)
   have HBF := Lib.hid (show Below w.heap.size w WF from by
    have h1 := below_step HB.out HB4.out
    have h2 := Kept.below h1 hk1 h1.size (fun k hk e => by omega)
    exact Kept.below h2 HKF.out h2.size (fun k hk e => by omega))
   have HOF := Lib.hid ((HOV.out.keepO hk1 (fun q hq e => by have := (HOV.out.lt q hq).1; have := HSZ.out; omega)).keepO HKF.out (fun q hq e => by have := (HOV.out.lt q hq).1; have := HSZ.out; omega))
   have hx0 := hk1.cell (p := ⟨w.heap.size + 1, 0, none⟩) (by show ¬ (w.heap.size + 1 = w.heap.size); omega) (below_cell HB4.out HX0.out)
   clear haF hkF hR hA1 hk1
   have hnsm := HOA.out.nsm
   go_wp2_with fail
   go_loopw [95] (fun iv wr => ∃ i : Nat, iv = .int .i64 i ∧ i ≤ A.sm.length ∧ wr = W1) (fun iv _ => A.sm.length - (intOf iv).toNat)
   case atStart => exact ⟨0, rfl, by omega, by first | rfl | trivial⟩
   case round =>
    obtain ⟨i, rfl, hi, rfl⟩ := hrel
    by_cases hlt : i < A.sm.length
    · have t1 : decide ((i : Int) < (A.sm.length : Int)) = true := by rw [decide_eq_true_eq]; omega
      have t1' : decide (i < A.sm.length) = true := by simpa using hlt
      obtain ⟨ba, oa, rfl, -, -⟩ := HIW.out.sm.here (by omega)
      go_wp2_with fail
      go_roundw
      case rel => exact ⟨i + 1, by go_num, by omega, by first | rfl | trivial⟩
      case measure => simp [intOf]; omega
    have t1 : decide ((i : Int) < (A.sm.length : Int)) = false := by rw [decide_eq_false_iff_not]; omega
    have t1' : decide (i < A.sm.length) = false := by simpa using hlt
    go_wp2_with fail
    have q := HAF.out.cell
    have hI := HIW.out.below HBF.out
    exact bodyPost_ret (v := .tuple #[.agg #[.string A.name, .int .i64 A.sport, .int .i64 A.start, .slice a A.sm.length ca, .slice b A.lp.length cb, .slice vv nv cv], .int .i64 0]) (by simp [results, Tryz.results74, go_sem, q]) rfl ⟨below_at HBF.out HBS.out (Kept.refl _ _), { A with tg := mergeT A.tg [s] }, a, b, vv, ca, cb, cv, by first | (unfold actV; simp only [HNV.out]) | simp only [HNV.out], fun _ => ⟨rfl, ⟨hI.sm, hI.lp, (HOF.out.rw_ tgEl).1, hI.name, hI.titles, HMT.out, hI.nsm, hI.nlp, by have h1 := HNV.out; have h2 := HML.out; show ((mergeT A.tg [s]).length : Int) ≤ _; omega⟩, fun q hq => by rcases hq with e | e | e <;> first | exact HFR.out q (Or.inl e) | exact HFR.out q (Or.inr (Or.inl e)) | exact HFR.out q (Or.inr (Or.inr e)) | (have h1 := ((HOF.out.rw_ tgEl).2.2 q e).1; have h2 := HSZ.out; have h3 := HBS.out; omega)⟩⟩
set_option maxHeartbeats 8000000 in
set_option maxRecDepth 100000 in
theorem sm_4 (n f t : Int) (s : ByteArray) (A : Acv) (a b c : Option Addr) (ca cb cc : Nat) (base : Nat) (w : World) (ho : Own3 w base A (.slice a A.sm.length ca) (.slice b A.lp.length cb) (.slice c A.tg.length cc)) (hb : base ≤ w.heap.size) (ht : ActText A) (oA : AcOk A) (hs : s.size ≤ maxLen) (hk : chkE ⟨4, n, f, t, s⟩ = 0) :
 Calls Tryz.prog 74 #[actV A a b c ca cb cc, edV ⟨4, n, f, t, s⟩] w fun e w' => DoR A ⟨4, n, f, t, s⟩ base w e w' := by
 unfold DoR
 rw [appE_4 rfl, appZ_4 rfl]
 obtain ⟨hI, hca, hcb, hcc, hfr⟩ := ho.actIn ht oA
 have HFR := Lib.hid hfr
 obtain ⟨V0, hV0, hb0, hs0, ha0⟩ := alloc_ac w A.name A.sport A.start (.slice a A.sm.length ca) (.slice b A.lp.length cb) (.slice c A.tg.length cc)
 obtain ⟨V1, hV1, hb1, hs1, hl1⟩ := alloc_cells V0 #[.int .i64 4, .int .i64 n, .int .i64 f, .int .i64 t, .string s] 28
 obtain ⟨V2, hV2, hb2, hs2, ha2⟩ := alloc_ac V1 ⟨#[]⟩ 0 0 (.slice none 0 0) (.slice none 0 0) (.slice none 0 0)
 have hs11 : V1.heap.size = w.heap.size + 2 := by omega
 rw [hs0] at hl1
 rw [hs11] at ha2
 have hA0 := (ha0.below hb1).below hb2
 have HB := Lib.hid (below_step (below_step hb0 hb1) hb2)
 have HSZ := Lib.hid (show V2.heap.size = w.heap.size + 3 from by omega)
 have HIW := Lib.hid hI
 have HIA := Lib.hid (hI.below HB.out)
 have HA0 := Lib.hid hA0
 have HA2 := Lib.hid ha2
 have HBS := Lib.hid hb
 have HOA := Lib.hid oA
 have HTX := Lib.hid ht
 have x0 := below_cell hb2 (hl1 0 _ rfl)
 have x1 := below_cell hb2 (hl1 1 _ rfl)
 have x2 := below_cell hb2 (hl1 2 _ rfl)
 have x3 := below_cell hb2 (hl1 3 _ rfl)
 have x4 := below_cell hb2 (hl1 4 _ rfl)
 have HL := Lib.hid (And.intro hca (And.intro hcb hcc))
 have HX0 := Lib.hid x0
 obtain ⟨z0, z1, z2, z3, z4, z5⟩ := hA0.cell
 have fr := hA0.free
 have DT := Lib.hid (show Calls Tryz.prog 93 #[.agg #[.string A.name, .int .i64 A.sport, .int .i64 A.start, .slice a A.sm.length ca, .slice b A.lp.length cb, .slice c A.tg.length cc], .string s] V2 fun e w' => e = .returned (.bool (hasT s A.tg)) ∧ Below V2.heap.size V2 w' from by
  have h := rhasTag_any A a b c ca cb cc s V2 HIA.out.tg (by have := oA.ntg; omega)
  unfold actV at h
  exact h)
 have HSS := Lib.hid hs
 by_cases hh : hasT s A.tg = true
 · have HE := Lib.hid (show (if hasT s A.tg = true then (0 : Int) else 4) = 0 from if_pos hh)
   rw [HE.out]
   rw [hh] at DT
   clear hh
   clear ho hb ht oA hI hb0 hb1 hb2 ha0 ha2 hl1 hA0 hs1 hs2 hca hcb hcc hfr hk
   unfold actV
   unfold edV
   go_enter Tryz.func74, Tryz.ntmps74
   go_upto_region 1 with (fail)
   clear hV0 hV1 hV2 hs0 hs11
   go_wp2_with fail
   refine (DT.out).mono ?_
   rintro e w3 ⟨rfl, hb3⟩
   have HB3 := Lib.hid hb3
   have x4' := below_cell hb3 x4
   have hz := (HA0.out.below hb3).cell
   clear z0 z1 z2 z3 z4 z5 fr x0 x1 x2 x3 x4 hb3 DT
   obtain ⟨z0, z1, z2, z3, z4, z5⟩ := hz
   have DTG := Lib.hid (rwithoutTag_any A.tg c cc s w3 (HIA.out.tg.below HB3.out) (by have := HOA.out.ntg; omega))
   go_upto_region 15 with (fail)
   go_wp2_with fail
   refine (DTG.out).mono ?_
   rintro e w4 ⟨v, rfl, hov, hb4⟩
   obtain ⟨vv, cv, rfl, -, -, -⟩ := hov.row tgEl
   obtain ⟨nv, hnv⟩ : ∃ nv, (delT s A.tg).length = nv := ⟨_, rfl⟩
   have HNV := Lib.hid hnv
   rw [hnv] at hov ⊢
   have HB4 := Lib.hid (below_step HB3.out hb4)
   have HOV := Lib.hid (show Own tgC 1 9 w4 V2.heap.size (.slice vv nv cv) (delT s A.tg) from hov.weaken HB3.out.size)
   have HMT := Lib.hid (fun p (hp : p ∈ delT s A.tg) => show p.size ≤ maxLen from HTX.out.tags p (List.mem_filter.1 hp).1)
   have HML := Lib.hid (show nv ≤ 1000 from by
    have h1 : (delT s A.tg).length ≤ A.tg.length := List.length_filter_le _ _
    have := HOA.out.ntg
    have := HNV.out
    omega)
   clear hov hnv hb4 x4' DTG z0 z1 z2 z3 z4 z5
   have hA1 := (HA0.out.below HB4.out).set5 (.slice vv nv cv)
   have fr1 := (HA0.out.below HB4.out).free 5
   obtain ⟨y0', y1', y2', y3', y4', y5'⟩ := (HA0.out.below HB4.out).cell
   obtain ⟨W1, hW1⟩ : ∃ z, w4.setCell ⟨w.heap.size, 5, none⟩ (.slice vv nv cv) = z := ⟨_, rfl⟩
   rw [hW1] at hA1
   have hk1 : Kept (fun q => q = w.heap.size) w4 W1 := by rw [← hW1]; exact keep_set (O := fun q => q = w.heap.size) rfl
   have hR := (HA2.out.below HB4.out).kept hk1 (by omega)
   obtain ⟨y0, y1, y2, y3, y4, y5⟩ := hA1.cell
   obtain ⟨r0, r1, r2, r3, r4, r5⟩ := hR.cell
   have fr2 := hR.free
   obtain ⟨WF, hWF, haF, hkF⟩ := hR.store A.name A.sport A.start (.slice a A.sm.length ca) (.slice b A.lp.length cb) (.slice vv nv cv)
   have HAF := Lib.hid haF
   have HKF := Lib.hid (hkF (fun q => q = w.heap.size + 2) rfl)
   have HBF := Lib.hid (show Below w.heap.size w WF from by
    have h1 := below_step HB.out HB4.out
    have h2 := Kept.below h1 hk1 h1.size (fun k hk e => by omega)
    exact Kept.below h2 HKF.out h2.size (fun k hk e => by omega))
   have HOF := Lib.hid ((HOV.out.keepO hk1 (fun q hq e => by have := (HOV.out.lt q hq).1; have := HSZ.out; omega)).keepO HKF.out (fun q hq e => by have := (HOV.out.lt q hq).1; have := HSZ.out; omega))
   have hx0 := hk1.cell (p := ⟨w.heap.size + 1, 0, none⟩) (by show ¬ (w.heap.size + 1 = w.heap.size); omega) (below_cell HB4.out HX0.out)
   clear haF hkF hR hA1 hk1
   have hnsm := HOA.out.nsm
   go_wp2_with fail
   go_loopw [95] (fun iv wr => ∃ i : Nat, iv = .int .i64 i ∧ i ≤ A.sm.length ∧ wr = W1) (fun iv _ => A.sm.length - (intOf iv).toNat)
   case atStart => exact ⟨0, rfl, by omega, by first | rfl | trivial⟩
   case round =>
    obtain ⟨i, rfl, hi, rfl⟩ := hrel
    by_cases hlt : i < A.sm.length
    · have t1 : decide ((i : Int) < (A.sm.length : Int)) = true := by rw [decide_eq_true_eq]; omega
      have t1' : decide (i < A.sm.length) = true := by simpa using hlt
      obtain ⟨ba, oa, rfl, -, -⟩ := HIW.out.sm.here (by omega)
      go_wp2_with fail
      go_roundw
      case rel => exact ⟨i + 1, by go_num, by omega, by first | rfl | trivial⟩
      case measure => simp [intOf]; omega
    have t1 : decide ((i : Int) < (A.sm.length : Int)) = false := by rw [decide_eq_false_iff_not]; omega
    have t1' : decide (i < A.sm.length) = false := by simpa using hlt
    go_wp2_with fail
    have q := HAF.out.cell
    have hI := HIW.out.below HBF.out
    exact bodyPost_ret (v := .tuple #[.agg #[.string A.name, .int .i64 A.sport, .int .i64 A.start, .slice a A.sm.length ca, .slice b A.lp.length cb, .slice vv nv cv], .int .i64 0]) (by simp [results, Tryz.results74, go_sem, q]) rfl ⟨below_at HBF.out HBS.out (Kept.refl _ _), { A with tg := delT s A.tg }, a, b, vv, ca, cb, cv, by first | (unfold actV; simp only [HNV.out]) | simp only [HNV.out], fun _ => ⟨rfl, ⟨hI.sm, hI.lp, (HOF.out.rw_ tgEl).1, hI.name, hI.titles, HMT.out, hI.nsm, hI.nlp, by have h1 := HNV.out; have h2 := HML.out; show ((delT s A.tg).length : Int) ≤ _; omega⟩, fun q hq => by rcases hq with e | e | e <;> first | exact HFR.out q (Or.inl e) | exact HFR.out q (Or.inr (Or.inl e)) | exact HFR.out q (Or.inr (Or.inr e)) | (have h1 := ((HOF.out.rw_ tgEl).2.2 q e).1; have h2 := HSZ.out; have h3 := HBS.out; omega)⟩⟩
 · have HE := Lib.hid (show (if hasT s A.tg = true then (0 : Int) else 4) = 4 from if_neg hh)
   rw [HE.out]
   rw [show hasT s A.tg = false from by simpa using hh] at DT
   clear hh
   clear ho hb ht oA hI hb0 hb1 hb2 ha0 ha2 hl1 hA0 hs1 hs2 hca hcb hcc hfr hk
   unfold actV
   unfold edV
   go_enter Tryz.func74, Tryz.ntmps74
   go_upto_region 1 with (fail)
   clear hV0 hV1 hV2 hs0 hs11
   go_wp2_with fail
   refine (DT.out).mono ?_
   rintro e w3 ⟨rfl, hb3⟩
   have HB3 := Lib.hid hb3
   have x4' := below_cell hb3 x4
   have hz := (HA0.out.below hb3).cell
   clear z0 z1 z2 z3 z4 z5 fr x0 x1 x2 x3 x4 hb3 DT
   clear hz x4'
   have hR := HA2.out.below HB3.out
   obtain ⟨y0, y1, y2, y3, y4, y5⟩ := (HA0.out.below HB3.out).cell
   obtain ⟨r0, r1, r2, r3, r4, r5⟩ := hR.cell
   have fr2 := hR.free
   obtain ⟨WF, hWF, haF, hkF⟩ := hR.store A.name A.sport A.start (.slice a A.sm.length ca) (.slice b A.lp.length cb) (.slice c A.tg.length cc)
   have HAF := Lib.hid haF
   have HKF := Lib.hid (hkF (fun q => q = w.heap.size + 2) rfl)
   have HBF := Lib.hid (show Below w.heap.size w WF from by
    have h1 := below_step HB.out HB3.out
    exact Kept.below h1 HKF.out h1.size (fun k hk e => by omega))
   clear haF hkF hR
   go_wp2_with fail
   have q := HAF.out.cell
   exact bodyPost_ret (v := .tuple #[.agg #[.string A.name, .int .i64 A.sport, .int .i64 A.start, .slice a A.sm.length ca, .slice b A.lp.length cb, .slice c A.tg.length cc], .int .i64 4]) (by simp [results, Tryz.results74, go_sem, q]) rfl ⟨below_at HBF.out HBS.out (Kept.refl _ _), A, a, b, c, ca, cb, cc, rfl, fun h => by omega⟩
set_option maxHeartbeats 8000000 in
set_option maxRecDepth 100000 in
theorem sm_11 (n f t : Int) (s : ByteArray) (A : Acv) (a b c : Option Addr) (ca cb cc : Nat) (base : Nat) (w : World) (ho : Own3 w base A (.slice a A.sm.length ca) (.slice b A.lp.length cb) (.slice c A.tg.length cc)) (hb : base ≤ w.heap.size) (ht : ActText A) (oA : AcOk A) (hs : s.size ≤ maxLen) (hk : chkE ⟨11, n, f, t, s⟩ = 0) :
 Calls Tryz.prog 74 #[actV A a b c ca cb cc, edV ⟨11, n, f, t, s⟩] w fun e w' => DoR A ⟨11, n, f, t, s⟩ base w e w' := by
 unfold DoR
 rw [appE_11 rfl, appZ_11 rfl]
 obtain ⟨hI, hca, hcb, hcc, hfr⟩ := ho.actIn ht oA
 have HFR := Lib.hid hfr
 obtain ⟨V0, hV0, hb0, hs0, ha0⟩ := alloc_ac w A.name A.sport A.start (.slice a A.sm.length ca) (.slice b A.lp.length cb) (.slice c A.tg.length cc)
 obtain ⟨V1, hV1, hb1, hs1, hl1⟩ := alloc_cells V0 #[.int .i64 11, .int .i64 n, .int .i64 f, .int .i64 t, .string s] 28
 obtain ⟨V2, hV2, hb2, hs2, ha2⟩ := alloc_ac V1 ⟨#[]⟩ 0 0 (.slice none 0 0) (.slice none 0 0) (.slice none 0 0)
 have hs11 : V1.heap.size = w.heap.size + 2 := by omega
 rw [hs0] at hl1
 rw [hs11] at ha2
 have hA0 := (ha0.below hb1).below hb2
 have HB := Lib.hid (below_step (below_step hb0 hb1) hb2)
 have HSZ := Lib.hid (show V2.heap.size = w.heap.size + 3 from by omega)
 have HIW := Lib.hid hI
 have HIA := Lib.hid (hI.below HB.out)
 have HA0 := Lib.hid hA0
 have HA2 := Lib.hid ha2
 have HBS := Lib.hid hb
 have HOA := Lib.hid oA
 have HTX := Lib.hid ht
 have x0 := below_cell hb2 (hl1 0 _ rfl)
 have x1 := below_cell hb2 (hl1 1 _ rfl)
 have x2 := below_cell hb2 (hl1 2 _ rfl)
 have x3 := below_cell hb2 (hl1 3 _ rfl)
 have x4 := below_cell hb2 (hl1 4 _ rfl)
 have HL := Lib.hid (And.intro hca (And.intro hcb hcc))
 have HX0 := Lib.hid x0
 obtain ⟨z0, z1, z2, z3, z4, z5⟩ := hA0.cell
 have fr := hA0.free
 have HSS := Lib.hid hs
 clear ho hb ht oA hI hb0 hb1 hb2 ha0 ha2 hl1 hA0 hs1 hs2 hca hcb hcc hfr hk
 have DL := Lib.hid (rwithLap_any A.lp ⟨f, t, s⟩ b cb V2 HIA.out.lp (by have := HOA.out.nlp; omega) HL.out.2.1)
 unfold actV
 unfold edV
 go_enter Tryz.func74, Tryz.ntmps74
 go_upto_region 1 with (fail)
 clear hV0 hV1 hV2 hs0 hs11
 go_upto_region 17 with (fail)
 go_wp2_with fail
 refine (DL.out).mono ?_
 rintro e w4 ⟨v, rfl, hov, hb4⟩
 obtain ⟨vv, cv, rfl, -, -, -⟩ := hov.row lpEl
 obtain ⟨nv, hnv⟩ : ∃ nv, (putL ⟨f, t, s⟩ A.lp).length = nv := ⟨_, rfl⟩
 have HNV := Lib.hid hnv
 rw [hnv] at hov ⊢
 have HB4 := Lib.hid hb4
 have HOV := Lib.hid hov
 have HMT := Lib.hid (fun p (hp : p ∈ putL ⟨f, t, s⟩ A.lp) => show p.s.size ≤ maxLen from by
  rcases putL_mem hp with rfl | h
  · exact HSS.out
  · exact HTX.out.titles p h)
 have HML := Lib.hid (show nv ≤ 1000 from by
  have h1 := putL_len ⟨f, t, s⟩ A.lp
  have := HOA.out.nlp
  have := HNV.out
  omega)
 clear hov hnv hb4 x0 x1 x2 x3 x4 DL z0 z1 z2 z3 z4 z5 fr
 have hA1 := (HA0.out.below HB4.out).set4 (.slice vv nv cv)
 have fr1 := (HA0.out.below HB4.out).free 4
 obtain ⟨y0', y1', y2', y3', y4', y5'⟩ := (HA0.out.below HB4.out).cell
 obtain ⟨W1, hW1⟩ : ∃ z, w4.setCell ⟨w.heap.size, 4, none⟩ (.slice vv nv cv) = z := ⟨_, rfl⟩
 rw [hW1] at hA1
 have hk1 : Kept (fun q => q = w.heap.size) w4 W1 := by rw [← hW1]; exact keep_set (O := fun q => q = w.heap.size) rfl
 have hR := (HA2.out.below HB4.out).kept hk1 (by omega)
 obtain ⟨y0, y1, y2, y3, y4, y5⟩ := hA1.cell
 obtain ⟨r0, r1, r2, r3, r4, r5⟩ := hR.cell
 have fr2 := hR.free
 obtain ⟨WF, hWF, haF, hkF⟩ := hR.store A.name A.sport A.start (.slice a A.sm.length ca) (.slice vv nv cv) (.slice c A.tg.length cc)
 have HAF := Lib.hid haF
 have HKF := Lib.hid (hkF (fun q => q = w.heap.size + 2) rfl)
 have HBF := Lib.hid (show Below w.heap.size w WF from by
  have h1 := below_step HB.out HB4.out
  have h2 := Kept.below h1 hk1 h1.size (fun k hk e => by omega)
  exact Kept.below h2 HKF.out h2.size (fun k hk e => by omega))
 have HOF := Lib.hid ((HOV.out.keepO hk1 (fun q hq e => by have := (HOV.out.lt q hq).1; have := HSZ.out; omega)).keepO HKF.out (fun q hq e => by have := (HOV.out.lt q hq).1; have := HSZ.out; omega))
 have hx0 := hk1.cell (p := ⟨w.heap.size + 1, 0, none⟩) (by show ¬ (w.heap.size + 1 = w.heap.size); omega) (below_cell HB4.out HX0.out)
 clear haF hkF hR hA1 hk1
 have hnsm := HOA.out.nsm
 go_wp2_with fail
 go_loopw [95] (fun iv wr => ∃ i : Nat, iv = .int .i64 i ∧ i ≤ A.sm.length ∧ wr = W1) (fun iv _ => A.sm.length - (intOf iv).toNat)
 case atStart => exact ⟨0, rfl, by omega, by first | rfl | trivial⟩
 case round =>
  obtain ⟨i, rfl, hi, rfl⟩ := hrel
  by_cases hlt : i < A.sm.length
  · have t1 : decide ((i : Int) < (A.sm.length : Int)) = true := by rw [decide_eq_true_eq]; omega
    have t1' : decide (i < A.sm.length) = true := by simpa using hlt
    obtain ⟨ba, oa, rfl, -, -⟩ := HIW.out.sm.here (by omega)
    go_wp2_with fail
    go_roundw
    case rel => exact ⟨i + 1, by go_num, by omega, by first | rfl | trivial⟩
    case measure => simp [intOf]; omega
  have t1 : decide ((i : Int) < (A.sm.length : Int)) = false := by rw [decide_eq_false_iff_not]; omega
  have t1' : decide (i < A.sm.length) = false := by simpa using hlt
  go_wp2_with fail
  have q := HAF.out.cell
  have hI := HIW.out.below HBF.out
  exact bodyPost_ret (v := .tuple #[.agg #[.string A.name, .int .i64 A.sport, .int .i64 A.start, .slice a A.sm.length ca, .slice vv nv cv, .slice c A.tg.length cc], .int .i64 0]) (by simp [results, Tryz.results74, go_sem, q]) rfl ⟨below_at HBF.out HBS.out (Kept.refl _ _), { A with lp := putL ⟨f, t, s⟩ A.lp }, a, vv, c, ca, cv, cc, by first | (unfold actV; simp only [HNV.out]) | simp only [HNV.out], fun _ => ⟨rfl, ⟨hI.sm, (HOF.out.rw_ lpEl).1, hI.tg, hI.name, HMT.out, hI.tags, hI.nsm, by have h1 := HNV.out; have h2 := HML.out; show ((putL ⟨f, t, s⟩ A.lp).length : Int) ≤ _; omega, hI.ntg⟩, fun q hq => by rcases hq with e | e | e <;> first | exact HFR.out q (Or.inl e) | exact HFR.out q (Or.inr (Or.inl e)) | exact HFR.out q (Or.inr (Or.inr e)) | (have h1 := ((HOF.out.rw_ lpEl).2.2 q e).1; have h2 := HSZ.out; have h3 := HBS.out; omega)⟩⟩
end Go.Proofs.YtjnfccphodjfiaaGreat

/- A text of this claim. -/
namespace Go.Proofs.YtjnfccphodjfiaaGreat
open Go.RowKit Go.BigFrame
open Tr (inR Ed)
set_option linter.unusedVariables false
set_option maxHeartbeats 8000000 in
set_option maxRecDepth 100000 in
theorem sm_6 (n f t : Int) (s : ByteArray) (A : Acv) (a b c : Option Addr) (ca cb cc : Nat) (base : Nat) (w : World) (ho : Own3 w base A (.slice a A.sm.length ca) (.slice b A.lp.length cb) (.slice c A.tg.length cc)) (hb : base ≤ w.heap.size) (ht : ActText A) (oA : AcOk A) (hs : s.size ≤ maxLen) (hk : chkE ⟨6, n, f, t, s⟩ = 0) :
 Calls Tryz.prog 74 #[actV A a b c ca cb cc, edV ⟨6, n, f, t, s⟩] w fun e w' => DoR A ⟨6, n, f, t, s⟩ base w e w' := by
 unfold DoR
 rw [appE_6 rfl, appZ_6 rfl]
 obtain ⟨hI, hca, hcb, hcc, hfr⟩ := ho.actIn ht oA
 have HFR := Lib.hid hfr
 obtain ⟨V0, hV0, hb0, hs0, ha0⟩ := alloc_ac w A.name A.sport A.start (.slice a A.sm.length ca) (.slice b A.lp.length cb) (.slice c A.tg.length cc)
 obtain ⟨V1, hV1, hb1, hs1, hl1⟩ := alloc_cells V0 #[.int .i64 6, .int .i64 n, .int .i64 f, .int .i64 t, .string s] 28
 obtain ⟨V2, hV2, hb2, hs2, ha2⟩ := alloc_ac V1 ⟨#[]⟩ 0 0 (.slice none 0 0) (.slice none 0 0) (.slice none 0 0)
 have hs11 : V1.heap.size = w.heap.size + 2 := by omega
 rw [hs0] at hl1
 rw [hs11] at ha2
 have hA0 := (ha0.below hb1).below hb2
 have HB := Lib.hid (below_step (below_step hb0 hb1) hb2)
 have HSZ := Lib.hid (show V2.heap.size = w.heap.size + 3 from by omega)
 have HIW := Lib.hid hI
 have HIA := Lib.hid (hI.below HB.out)
 have HA0 := Lib.hid hA0
 have HA2 := Lib.hid ha2
 have HBS := Lib.hid hb
 have HOA := Lib.hid oA
 have HTX := Lib.hid ht
 have x0 := below_cell hb2 (hl1 0 _ rfl)
 have x1 := below_cell hb2 (hl1 1 _ rfl)
 have x2 := below_cell hb2 (hl1 2 _ rfl)
 have x3 := below_cell hb2 (hl1 3 _ rfl)
 have x4 := below_cell hb2 (hl1 4 _ rfl)
 have HL := Lib.hid (And.intro hca (And.intro hcb hcc))
 have HX0 := Lib.hid x0
 obtain ⟨z0, z1, z2, z3, z4, z5⟩ := hA0.cell
 have fr := hA0.free
 have hr := chk_rng (lo := -200000) (hi := 200000) (show ¬ ((6 : Int) < 1 ∨ 12 < (6 : Int)) by decide) rfl hk
 simp only at hr
 obtain ⟨B1, B2, hB1, hB2, hos, hsB, hol, hlB, hot⟩ := ho.ex
 have HOS := Lib.hid hos
 have HRW := Lib.hid (show ∀ (WX : World), Kept (fun q => (Value.slice a A.sm.length ca).ownBlock = some q) V2 WX → Rw lpC 3 WX b A.lp ∧ Rw tgC 1 WX c A.tg from fun WX hk => by
  obtain ⟨l1, _, l3⟩ := hol.rw_ lpEl
  obtain ⟨t1, _, t3⟩ := hot.rw_ tgEl
  have hl1 : ∀ bb off, b = some ⟨bb, off, none⟩ → B1 ≤ bb := fun bb off e => (l3 _ e).1
  have hl2 : ∀ bb off, c = some ⟨bb, off, none⟩ → B2 ≤ bb := fun bb off e => (t3 _ e).1
  exact ⟨(l1.below HB.out).kept hk (fun bb off e h => by have := hl1 bb off e; have := hsB bb h; omega), (t1.below HB.out).kept hk (fun bb off e h => by have := hl2 bb off e; have := hsB bb h; omega)⟩)
 have HLT := Lib.hid (fun q (hq : (Value.slice a A.sm.length ca).ownBlock = some q) => show base ≤ q ∧ q < w.heap.size from hos.lt q hq)
 obtain ⟨ns, hn⟩ : ∃ n, A.sm.length = n := ⟨_, rfl⟩
 have HN := Lib.hid hn
 have hns : ns ≤ 20000 := by have := oA.nsm; omega
 have HSO := Lib.hid (show Own smC 7 72 V2 base (.slice a ns ca) A.sm from hn ▸ hos.below HB.out)
 rw [hn] at hV0 z3 HA0 HLT HRW
 clear ho hb ht oA hI hb0 hb1 hb2 ha0 ha2 hl1 hA0 hs1 hs2 hca hcb hcc hfr hk hos hsB hol hlB hot hB1 hB2
 unfold actV
 rw [hn]
 clear hn
 unfold edV
 go_enter Tryz.func74, Tryz.ntmps74
 go_upto_region 1 with (fail)
 clear hV0 hV1 hV2 hs0 hs11
 go_wp2_with fail
 clear z0 z1 z2 z3 z4 z5 fr
 go_loopw [95] (fun iv wr => ∃ k : Nat, iv = .int .i64 k ∧ k ≤ ns ∧ Hid (Own smC 7 72 wr base (.slice a ns ca) ((A.sm.take k).map (raiseS n) ++ A.sm.drop k)) ∧ ∃ Z : ExtO (fun q => (Value.slice a ns ca).ownBlock = some q) V2, wr = Z.1) (fun iv _ => ns - (intOf iv).toNat)
 case atStart => exact ⟨0, rfl, by omega, Lib.hid HSO.out, ⟨V2, Kept.refl _ _⟩, rfl⟩
 case round =>
  obtain ⟨k, rfl, hk, HO, Z, rfl⟩ := hrel
  have hac := HA0.out.kept Z.2 (fun e => by have := (HLT.out _ e).2; omega)
  have hx0 := Z.2.cell (p := ⟨w.heap.size + 1, 0, none⟩) (fun e => by have := (HLT.out _ e).2; simp only at this; omega) x0
  have hx1 := Z.2.cell (p := ⟨w.heap.size + 1, 1, none⟩) (fun e => by have := (HLT.out _ e).2; simp only at this; omega) x1
  by_cases hlt : k < ns
  · have t5 : decide ((k : Int) < (ns : Int)) = true := by rw [decide_eq_true_eq]; omega
    have t5' : decide (k < ns) = true := by simpa using hlt
    obtain ⟨x, hx⟩ : ∃ x, A.sm[k]? = some x := ⟨_, List.getElem?_eq_getElem (by rw [HN.out]; exact hlt)⟩
    obtain ⟨-, -, hxr⟩ := HOA.out.sm.upto k x hx
    obtain ⟨-, -, hz0, hz1⟩ := range_xyz hxr
    have hat := at_upto (raiseS n) A.sm k x hx
    have HUP := Lib.hid (map_upto (raiseS n) A.sm k x hx)
    have hlen := len_upto (raiseS n) A.sm k (by rw [HN.out]; exact hk)
    obtain ⟨q, c', he, -, -⟩ := HO.out.open (by rw [hlen, HN.out]; omega)
    injection he with he1 he2 he3
    subst he1
    subst he3
    have hcell : Z.1.cell? ⟨q, k * 7 + 3, none⟩ = some (.int .i64 x.z) := by
     have := (HO.out.rw_ smEl).1.on hat 3 _ rfl
     simpa using this
    have j3 := hac.cell.2.2.2.1
    have HAT := Lib.hid hat
    clear hx hxr hat hlen he2 hac
    have wr : IntKind.i64.wrap (x.z + n) = x.z + n := tm_wrap (by omega) (by omega)
    go_upto_region 27 with (fail)
    have C3 := Ext.ex hcell
    have X1 := Ext.ex hx1
    refine late_start (s := 9) (C := fun w' => ∃ Y : Ext Z.1, w' = Y.1) (by kernel_rfl) ?_
    obtain ⟨Q0, hQ0⟩ : ∃ Y : Ext Z.1, ({ Z.1 with drawn := Z.1.drawn + 1 } : World) = Y.1 := ⟨⟨{ Z.1 with drawn := Z.1.drawn + 1 }, ⟨rfl, rfl, rfl, Nat.le_refl _, fun _ _ => rfl⟩⟩, rfl⟩
    rw [hQ0]
    clear hQ0 hx0 hx1 j3
    refine late_quiet (by kernel_rfl) (fun _ _ d _ _ h => by cases d <;> exact h) ⟨Q0, rfl⟩ [0, 4, 5] 7 _ _ (by kernel_rfl) (by kernel_rfl) ?_
    change wpQuiet _ _ _ _ (_ :: _ :: _ :: []) _
    repeat go_big_quiet_step (fail)
    refine wpQuiet_nil ?_
    refine late_do (i := 1) _ rfl (by kernel_rfl) rfl (fun K hK => ?_)
    go_simp
    refine hK _ _ (fun _ => ⟨Q0, rfl⟩) ?_
    clear hK K
    try simp only [Act.put, List.setIfInBounds_toArray, List.set_cons_zero, List.set_cons_succ]
    refine late_quiet (by kernel_rfl) (fun _ _ d _ _ h => by cases d <;> exact h) ⟨Q0, rfl⟩ [2, 3] 4 _ _ (by kernel_rfl) (by kernel_rfl) ?_
    change wpQuiet _ _ _ _ (_ :: _ :: []) _
    repeat go_big_quiet_step (fail)
    refine wpQuiet_nil ?_
    refine late_quiet (by kernel_rfl) (fun _ _ d _ _ h => by cases d <;> exact h) ⟨Q0, rfl⟩ [6] 3 _ _ (by kernel_rfl) (by kernel_rfl) ?_
    change wpQuiet _ _ _ _ (_ :: []) _
    repeat go_big_quiet_step (fail)
    refine wpQuiet_nil ?_
    refine late_do (i := 7) _ rfl (by kernel_rfl) rfl (fun K hK => ?_)
    go_simp
    refine hK _ _ (fun _ => ⟨Q0, rfl⟩) ?_
    clear hK K
    try simp only [Act.put, List.setIfInBounds_toArray, List.set_cons_zero, List.set_cons_succ]
    refine late_quiet (by kernel_rfl) (fun _ _ d _ _ h => by cases d <;> exact h) ⟨Q0, rfl⟩ [8] 1 _ _ (by kernel_rfl) (by kernel_rfl) ?_
    change wpQuiet _ _ _ _ (_ :: []) _
    repeat go_big_quiet_step (fail)
    refine wpQuiet_nil ?_
    have hoq := HO.out.below Q0.2
    have fq := hoq.free (k * 7 + 3)
    have cq := below_cell Q0.2 hcell
    obtain ⟨hos, hks⟩ := hoq.set smEl (j := 3) HAT.out (by decide) (y := (raiseS n) x) (u := .int .i64 (x.z + n)) rfl
    obtain ⟨W9, hW9⟩ : ∃ z, Q0.1.setCell ⟨q, k * 7 + 3, none⟩ (.int .i64 (x.z + n)) = z := ⟨_, rfl⟩
    rw [hW9] at hos hks
    rw [HUP.out] at hos
    have HOS := Lib.hid hos
    have HKS := Lib.hid ((Z.2.trans (Kept.of_below Q0.2)).trans (show Kept (fun x => (Value.slice (some ⟨q, 0, none⟩) ns ca).ownBlock = some x) Q0.1 W9 from ⟨hks.os, hks.tape, hks.output, hks.size, fun x hx ho => hks.block x hx (fun e => ho (by rw [e]; rfl))⟩))
    clear hoq hos hks
    refine late_do (i := 9) _ rfl (by kernel_rfl) rfl (fun K hK => ?_)
    go_simp
    refine hK _ _ (fun h => nomatch (show true = false from h)) ?_
    clear hK K
    try simp only [Act.put, List.setIfInBounds_toArray, List.set_cons_zero, List.set_cons_succ]
    refine late_done (by kernel_rfl) ?_ _
    clear cq fq hW9 C3 X1 hcell
    have hx0' := HKS.out.cell (p := ⟨w.heap.size + 1, 0, none⟩) (fun e => by have := (HLT.out _ e).2; simp only at this; omega) x0
    have hx1' := HKS.out.cell (p := ⟨w.heap.size + 1, 1, none⟩) (fun e => by have := (HLT.out _ e).2; simp only at this; omega) x1
    go_wp2_with fail
    go_roundw
    case rel => exact ⟨k + 1, by go_num, by omega, HOS, ⟨W9, HKS.out⟩, rfl⟩
    case measure => simp [intOf]; omega
  · have t5 : decide ((k : Int) < (ns : Int)) = false := by rw [decide_eq_false_iff_not]; omega
    have t5' : decide (k < ns) = false := by simpa using hlt
    obtain rfl : ns = k := by omega
    have HOF := Lib.hid (show Own smC 7 72 Z.1 base (.slice a ns ca) (A.sm.map (raiseS n)) from by
     have h := HO.out
     have e : (A.sm.take ns).map (raiseS n) ++ A.sm.drop ns = A.sm.map (raiseS n) := by rw [← HN.out, List.take_length, List.drop_length, List.append_nil]
     rw [e] at h
     exact h)
    have HLEN := Lib.hid (show (A.sm.map (raiseS n)).length = ns from by rw [List.length_map, HN.out])
    obtain ⟨y0, y1, y2, y3, y4, y5⟩ := hac.cell
    have hR := HA2.out.kept Z.2 (fun e => by have := (HLT.out _ e).2; omega)
    obtain ⟨r0, r1, r2, r3, r4, r5⟩ := hR.cell
    have fr2 := hR.free
    obtain ⟨WF, hWF, haF, hkF⟩ := hR.store A.name A.sport A.start (.slice a ns ca) (.slice b A.lp.length cb) (.slice c A.tg.length cc)
    have HAF := Lib.hid haF
    have HKF := Lib.hid (hkF (fun q => q = w.heap.size + 2) rfl)
    have HBF := Lib.hid (show Below base w WF from by
     have h1 : Kept (fun q => base ≤ q) V2 WF := ⟨HKF.out.os.trans Z.2.os, HKF.out.tape.trans Z.2.tape, HKF.out.output.trans Z.2.output, Nat.le_trans Z.2.size HKF.out.size, fun q hq ho => (HKF.out.block q (Nat.lt_of_lt_of_le hq Z.2.size) (fun e => ho (by have := HBS.out; omega))).trans (Z.2.block q hq (fun e => ho (HLT.out q e).1))⟩
     exact below_at HB.out HBS.out h1)
    have HAI := Lib.hid (show ActIn WF { A with sm := A.sm.map (raiseS n) } a b c from by
     obtain ⟨l1, l2⟩ := HRW.out Z.1 Z.2
     have hof := HOF.out.keepO HKF.out (fun q hq e => by have := (HLT.out q hq).2; omega)
     have hb' : ∀ {α : Type} {C : α → List Value} {m : Nat} {y : Option Addr} {ll : List α}, Rw C m w y ll → Rw C m Z.1 y ll → Rw C m WF y ll := fun h0 h1 => ⟨fun hp => by
      obtain ⟨bb, off, e, hbb, _⟩ := h0.here hp
      subst e
      exact (h1.kept HKF.out (fun b2 off2 e2 => by injection e2 with e2; injection e2 with e3 e4; omega)).here hp⟩
     exact ⟨(hof.rw_ smEl).1, hb' HIW.out.lp l1, hb' HIW.out.tg l2, HIW.out.name, HIW.out.titles, HIW.out.tags, by show ((A.sm.map (raiseS n)).length : Int) ≤ _; rw [HLEN.out]; omega, HIW.out.nlp, HIW.out.ntg⟩)
    clear hlt hk hac HO haF hkF hR
    go_wp2_with fail
    have q := HAF.out.cell
    exact bodyPost_ret (v := .tuple #[.agg #[.string A.name, .int .i64 A.sport, .int .i64 A.start, .slice a ns ca, .slice b A.lp.length cb, .slice c A.tg.length cc], .int .i64 0]) (by simp [results, Tryz.results74, go_sem, q]) rfl ⟨HBF.out, { A with sm := A.sm.map (raiseS n) }, a, b, c, ca, cb, cc, by first | (unfold actV; simp only [HLEN.out]) | simp only [HLEN.out], fun _ => ⟨rfl, HAI.out, HFR.out⟩⟩
set_option maxHeartbeats 8000000 in
set_option maxRecDepth 100000 in
theorem sm_7_1 (f t : Int) (s : ByteArray) (A : Acv) (a b c : Option Addr) (ca cb cc : Nat) (base : Nat) (w : World) (ho : Own3 w base A (.slice a A.sm.length ca) (.slice b A.lp.length cb) (.slice c A.tg.length cc)) (hb : base ≤ w.heap.size) (ht : ActText A) (oA : AcOk A) (hs : s.size ≤ maxLen) (hk : chkE ⟨7, 1, f, t, s⟩ = 0) :
 Calls Tryz.prog 74 #[actV A a b c ca cb cc, edV ⟨7, 1, f, t, s⟩] w fun e w' => DoR A ⟨7, 1, f, t, s⟩ base w e w' := by
 unfold DoR
 rw [appE_7 rfl, appZ_7 rfl]
 obtain ⟨hI, hca, hcb, hcc, hfr⟩ := ho.actIn ht oA
 have HFR := Lib.hid hfr
 obtain ⟨V0, hV0, hb0, hs0, ha0⟩ := alloc_ac w A.name A.sport A.start (.slice a A.sm.length ca) (.slice b A.lp.length cb) (.slice c A.tg.length cc)
 obtain ⟨V1, hV1, hb1, hs1, hl1⟩ := alloc_cells V0 #[.int .i64 7, .int .i64 1, .int .i64 f, .int .i64 t, .string s] 28
 obtain ⟨V2, hV2, hb2, hs2, ha2⟩ := alloc_ac V1 ⟨#[]⟩ 0 0 (.slice none 0 0) (.slice none 0 0) (.slice none 0 0)
 have hs11 : V1.heap.size = w.heap.size + 2 := by omega
 rw [hs0] at hl1
 rw [hs11] at ha2
 have hA0 := (ha0.below hb1).below hb2
 have HB := Lib.hid (below_step (below_step hb0 hb1) hb2)
 have HSZ := Lib.hid (show V2.heap.size = w.heap.size + 3 from by omega)
 have HIW := Lib.hid hI
 have HIA := Lib.hid (hI.below HB.out)
 have HA0 := Lib.hid hA0
 have HA2 := Lib.hid ha2
 have HBS := Lib.hid hb
 have HOA := Lib.hid oA
 have HTX := Lib.hid ht
 have x0 := below_cell hb2 (hl1 0 _ rfl)
 have x1 := below_cell hb2 (hl1 1 _ rfl)
 have x2 := below_cell hb2 (hl1 2 _ rfl)
 have x3 := below_cell hb2 (hl1 3 _ rfl)
 have x4 := below_cell hb2 (hl1 4 _ rfl)
 have HL := Lib.hid (And.intro hca (And.intro hcb hcc))
 have HX0 := Lib.hid x0
 obtain ⟨z0, z1, z2, z3, z4, z5⟩ := hA0.cell
 have fr := hA0.free
 obtain ⟨B1, B2, hB1, hB2, hos, hsB, hol, hlB, hot⟩ := ho.ex
 have HOS := Lib.hid hos
 have HRW := Lib.hid (show ∀ (WX : World), Kept (fun q => (Value.slice a A.sm.length ca).ownBlock = some q) V2 WX → Rw lpC 3 WX b A.lp ∧ Rw tgC 1 WX c A.tg from fun WX hk => by
  obtain ⟨l1, _, l3⟩ := hol.rw_ lpEl
  obtain ⟨t1, _, t3⟩ := hot.rw_ tgEl
  have hl1 : ∀ bb off, b = some ⟨bb, off, none⟩ → B1 ≤ bb := fun bb off e => (l3 _ e).1
  have hl2 : ∀ bb off, c = some ⟨bb, off, none⟩ → B2 ≤ bb := fun bb off e => (t3 _ e).1
  exact ⟨(l1.below HB.out).kept hk (fun bb off e h => by have := hl1 bb off e; have := hsB bb h; omega), (t1.below HB.out).kept hk (fun bb off e h => by have := hl2 bb off e; have := hsB bb h; omega)⟩)
 have HLT := Lib.hid (fun q (hq : (Value.slice a A.sm.length ca).ownBlock = some q) => show base ≤ q ∧ q < w.heap.size from hos.lt q hq)
 obtain ⟨ns, hn⟩ : ∃ n, A.sm.length = n := ⟨_, rfl⟩
 have HN := Lib.hid hn
 have hns : ns ≤ 20000 := by have := oA.nsm; omega
 have HSO := Lib.hid (show Own smC 7 72 V2 base (.slice a ns ca) A.sm from hn ▸ hos.below HB.out)
 rw [hn] at hV0 z3 HA0 HLT HRW
 clear ho hb ht oA hI hb0 hb1 hb2 ha0 ha2 hl1 hA0 hs1 hs2 hca hcb hcc hfr hk hos hsB hol hlB hot hB1 hB2
 unfold actV
 rw [hn]
 clear hn
 unfold edV
 go_enter Tryz.func74, Tryz.ntmps74
 go_upto_region 1 with (fail)
 clear hV0 hV1 hV2 hs0 hs11
 go_wp2_with fail
 clear z0 z1 z2 z3 z4 z5 fr
 go_loopw [95] (fun iv wr => ∃ k : Nat, iv = .int .i64 k ∧ k ≤ ns ∧ Hid (Own smC 7 72 wr base (.slice a ns ca) ((A.sm.take k).map (clearS 1) ++ A.sm.drop k)) ∧ ∃ Z : ExtO (fun q => (Value.slice a ns ca).ownBlock = some q) V2, wr = Z.1) (fun iv _ => ns - (intOf iv).toNat)
 case atStart => exact ⟨0, rfl, by omega, Lib.hid HSO.out, ⟨V2, Kept.refl _ _⟩, rfl⟩
 case round =>
  obtain ⟨k, rfl, hk, HO, Z, rfl⟩ := hrel
  have hac := HA0.out.kept Z.2 (fun e => by have := (HLT.out _ e).2; omega)
  have hx0 := Z.2.cell (p := ⟨w.heap.size + 1, 0, none⟩) (fun e => by have := (HLT.out _ e).2; simp only at this; omega) x0
  have hx1 := Z.2.cell (p := ⟨w.heap.size + 1, 1, none⟩) (fun e => by have := (HLT.out _ e).2; simp only at this; omega) x1
  by_cases hlt : k < ns
  · have t5 : decide ((k : Int) < (ns : Int)) = true := by rw [decide_eq_true_eq]; omega
    have t5' : decide (k < ns) = true := by simpa using hlt
    obtain ⟨x, hx⟩ : ∃ x, A.sm[k]? = some x := ⟨_, List.getElem?_eq_getElem (by rw [HN.out]; exact hlt)⟩
    obtain ⟨-, -, hxr⟩ := HOA.out.sm.upto k x hx
    obtain ⟨-, -, hz0, hz1⟩ := range_xyz hxr
    have hat := at_upto (clearS 1) A.sm k x hx
    have HUP := Lib.hid (map_upto (clearS 1) A.sm k x hx)
    have hlen := len_upto (clearS 1) A.sm k (by rw [HN.out]; exact hk)
    obtain ⟨q, c', he, -, -⟩ := HO.out.open (by rw [hlen, HN.out]; omega)
    injection he with he1 he2 he3
    subst he1
    subst he3
    have hcell : Z.1.cell? ⟨q, k * 7 + 4, none⟩ = some (.int .i64 x.pu) := by
     have := (HO.out.rw_ smEl).1.on hat 4 _ rfl
     simpa using this
    have j3 := hac.cell.2.2.2.1
    have HAT := Lib.hid hat
    clear hx hxr hat hlen he2 hac
    have hoq := HO.out.below (Below.refl Z.1.heap.size Z.1)
    have fq := hoq.free (k * 7 + 4)
    have cq := below_cell (Below.refl Z.1.heap.size Z.1) hcell
    obtain ⟨hos, hks⟩ := hoq.set smEl (j := 4) HAT.out (by decide) (y := (clearS 1) x) (u := .int .i64 (-1)) (by simp [clearS, smC])
    obtain ⟨W9, hW9⟩ : ∃ z, Z.1.setCell ⟨q, k * 7 + 4, none⟩ (.int .i64 (-1)) = z := ⟨_, rfl⟩
    rw [hW9] at hos hks
    rw [HUP.out] at hos
    have HOS := Lib.hid hos
    have HKS := Lib.hid ((Z.2.trans (Kept.of_below (Below.refl Z.1.heap.size Z.1))).trans (show Kept (fun x => (Value.slice (some ⟨q, 0, none⟩) ns ca).ownBlock = some x) Z.1 W9 from ⟨hks.os, hks.tape, hks.output, hks.size, fun x hx ho => hks.block x hx (fun e => ho (by rw [e]; rfl))⟩))
    clear hoq hos hks
    go_wp2_with fail
    go_roundw
    case rel => exact ⟨k + 1, by go_num, by omega, HOS, ⟨W9, HKS.out⟩, rfl⟩
    case measure => simp [intOf]; omega
  · have t5 : decide ((k : Int) < (ns : Int)) = false := by rw [decide_eq_false_iff_not]; omega
    have t5' : decide (k < ns) = false := by simpa using hlt
    obtain rfl : ns = k := by omega
    have HOF := Lib.hid (show Own smC 7 72 Z.1 base (.slice a ns ca) (A.sm.map (clearS 1)) from by
     have h := HO.out
     have e : (A.sm.take ns).map (clearS 1) ++ A.sm.drop ns = A.sm.map (clearS 1) := by rw [← HN.out, List.take_length, List.drop_length, List.append_nil]
     rw [e] at h
     exact h)
    have HLEN := Lib.hid (show (A.sm.map (clearS 1)).length = ns from by rw [List.length_map, HN.out])
    obtain ⟨y0, y1, y2, y3, y4, y5⟩ := hac.cell
    have hR := HA2.out.kept Z.2 (fun e => by have := (HLT.out _ e).2; omega)
    obtain ⟨r0, r1, r2, r3, r4, r5⟩ := hR.cell
    have fr2 := hR.free
    obtain ⟨WF, hWF, haF, hkF⟩ := hR.store A.name A.sport A.start (.slice a ns ca) (.slice b A.lp.length cb) (.slice c A.tg.length cc)
    have HAF := Lib.hid haF
    have HKF := Lib.hid (hkF (fun q => q = w.heap.size + 2) rfl)
    have HBF := Lib.hid (show Below base w WF from by
     have h1 : Kept (fun q => base ≤ q) V2 WF := ⟨HKF.out.os.trans Z.2.os, HKF.out.tape.trans Z.2.tape, HKF.out.output.trans Z.2.output, Nat.le_trans Z.2.size HKF.out.size, fun q hq ho => (HKF.out.block q (Nat.lt_of_lt_of_le hq Z.2.size) (fun e => ho (by have := HBS.out; omega))).trans (Z.2.block q hq (fun e => ho (HLT.out q e).1))⟩
     exact below_at HB.out HBS.out h1)
    have HAI := Lib.hid (show ActIn WF { A with sm := A.sm.map (clearS 1) } a b c from by
     obtain ⟨l1, l2⟩ := HRW.out Z.1 Z.2
     have hof := HOF.out.keepO HKF.out (fun q hq e => by have := (HLT.out q hq).2; omega)
     have hb' : ∀ {α : Type} {C : α → List Value} {m : Nat} {y : Option Addr} {ll : List α}, Rw C m w y ll → Rw C m Z.1 y ll → Rw C m WF y ll := fun h0 h1 => ⟨fun hp => by
      obtain ⟨bb, off, e, hbb, _⟩ := h0.here hp
      subst e
      exact (h1.kept HKF.out (fun b2 off2 e2 => by injection e2 with e2; injection e2 with e3 e4; omega)).here hp⟩
     exact ⟨(hof.rw_ smEl).1, hb' HIW.out.lp l1, hb' HIW.out.tg l2, HIW.out.name, HIW.out.titles, HIW.out.tags, by show ((A.sm.map (clearS 1)).length : Int) ≤ _; rw [HLEN.out]; omega, HIW.out.nlp, HIW.out.ntg⟩)
    clear hlt hk hac HO haF hkF hR
    go_wp2_with fail
    have q := HAF.out.cell
    exact bodyPost_ret (v := .tuple #[.agg #[.string A.name, .int .i64 A.sport, .int .i64 A.start, .slice a ns ca, .slice b A.lp.length cb, .slice c A.tg.length cc], .int .i64 0]) (by simp [results, Tryz.results74, go_sem, q]) rfl ⟨HBF.out, { A with sm := A.sm.map (clearS 1) }, a, b, c, ca, cb, cc, by first | (unfold actV; simp only [HLEN.out]) | simp only [HLEN.out], fun _ => ⟨rfl, HAI.out, HFR.out⟩⟩
set_option maxHeartbeats 8000000 in
set_option maxRecDepth 100000 in
theorem sm_7_2 (f t : Int) (s : ByteArray) (A : Acv) (a b c : Option Addr) (ca cb cc : Nat) (base : Nat) (w : World) (ho : Own3 w base A (.slice a A.sm.length ca) (.slice b A.lp.length cb) (.slice c A.tg.length cc)) (hb : base ≤ w.heap.size) (ht : ActText A) (oA : AcOk A) (hs : s.size ≤ maxLen) (hk : chkE ⟨7, 2, f, t, s⟩ = 0) :
 Calls Tryz.prog 74 #[actV A a b c ca cb cc, edV ⟨7, 2, f, t, s⟩] w fun e w' => DoR A ⟨7, 2, f, t, s⟩ base w e w' := by
 unfold DoR
 rw [appE_7 rfl, appZ_7 rfl]
 obtain ⟨hI, hca, hcb, hcc, hfr⟩ := ho.actIn ht oA
 have HFR := Lib.hid hfr
 obtain ⟨V0, hV0, hb0, hs0, ha0⟩ := alloc_ac w A.name A.sport A.start (.slice a A.sm.length ca) (.slice b A.lp.length cb) (.slice c A.tg.length cc)
 obtain ⟨V1, hV1, hb1, hs1, hl1⟩ := alloc_cells V0 #[.int .i64 7, .int .i64 2, .int .i64 f, .int .i64 t, .string s] 28
 obtain ⟨V2, hV2, hb2, hs2, ha2⟩ := alloc_ac V1 ⟨#[]⟩ 0 0 (.slice none 0 0) (.slice none 0 0) (.slice none 0 0)
 have hs11 : V1.heap.size = w.heap.size + 2 := by omega
 rw [hs0] at hl1
 rw [hs11] at ha2
 have hA0 := (ha0.below hb1).below hb2
 have HB := Lib.hid (below_step (below_step hb0 hb1) hb2)
 have HSZ := Lib.hid (show V2.heap.size = w.heap.size + 3 from by omega)
 have HIW := Lib.hid hI
 have HIA := Lib.hid (hI.below HB.out)
 have HA0 := Lib.hid hA0
 have HA2 := Lib.hid ha2
 have HBS := Lib.hid hb
 have HOA := Lib.hid oA
 have HTX := Lib.hid ht
 have x0 := below_cell hb2 (hl1 0 _ rfl)
 have x1 := below_cell hb2 (hl1 1 _ rfl)
 have x2 := below_cell hb2 (hl1 2 _ rfl)
 have x3 := below_cell hb2 (hl1 3 _ rfl)
 have x4 := below_cell hb2 (hl1 4 _ rfl)
 have HL := Lib.hid (And.intro hca (And.intro hcb hcc))
 have HX0 := Lib.hid x0
 obtain ⟨z0, z1, z2, z3, z4, z5⟩ := hA0.cell
 have fr := hA0.free
 obtain ⟨B1, B2, hB1, hB2, hos, hsB, hol, hlB, hot⟩ := ho.ex
 have HOS := Lib.hid hos
 have HRW := Lib.hid (show ∀ (WX : World), Kept (fun q => (Value.slice a A.sm.length ca).ownBlock = some q) V2 WX → Rw lpC 3 WX b A.lp ∧ Rw tgC 1 WX c A.tg from fun WX hk => by
  obtain ⟨l1, _, l3⟩ := hol.rw_ lpEl
  obtain ⟨t1, _, t3⟩ := hot.rw_ tgEl
  have hl1 : ∀ bb off, b = some ⟨bb, off, none⟩ → B1 ≤ bb := fun bb off e => (l3 _ e).1
  have hl2 : ∀ bb off, c = some ⟨bb, off, none⟩ → B2 ≤ bb := fun bb off e => (t3 _ e).1
  exact ⟨(l1.below HB.out).kept hk (fun bb off e h => by have := hl1 bb off e; have := hsB bb h; omega), (t1.below HB.out).kept hk (fun bb off e h => by have := hl2 bb off e; have := hsB bb h; omega)⟩)
 have HLT := Lib.hid (fun q (hq : (Value.slice a A.sm.length ca).ownBlock = some q) => show base ≤ q ∧ q < w.heap.size from hos.lt q hq)
 obtain ⟨ns, hn⟩ : ∃ n, A.sm.length = n := ⟨_, rfl⟩
 have HN := Lib.hid hn
 have hns : ns ≤ 20000 := by have := oA.nsm; omega
 have HSO := Lib.hid (show Own smC 7 72 V2 base (.slice a ns ca) A.sm from hn ▸ hos.below HB.out)
 rw [hn] at hV0 z3 HA0 HLT HRW
 clear ho hb ht oA hI hb0 hb1 hb2 ha0 ha2 hl1 hA0 hs1 hs2 hca hcb hcc hfr hk hos hsB hol hlB hot hB1 hB2
 unfold actV
 rw [hn]
 clear hn
 unfold edV
 go_enter Tryz.func74, Tryz.ntmps74
 go_upto_region 1 with (fail)
 clear hV0 hV1 hV2 hs0 hs11
 go_wp2_with fail
 clear z0 z1 z2 z3 z4 z5 fr
 go_loopw [95] (fun iv wr => ∃ k : Nat, iv = .int .i64 k ∧ k ≤ ns ∧ Hid (Own smC 7 72 wr base (.slice a ns ca) ((A.sm.take k).map (clearS 2) ++ A.sm.drop k)) ∧ ∃ Z : ExtO (fun q => (Value.slice a ns ca).ownBlock = some q) V2, wr = Z.1) (fun iv _ => ns - (intOf iv).toNat)
 case atStart => exact ⟨0, rfl, by omega, Lib.hid HSO.out, ⟨V2, Kept.refl _ _⟩, rfl⟩
 case round =>
  obtain ⟨k, rfl, hk, HO, Z, rfl⟩ := hrel
  have hac := HA0.out.kept Z.2 (fun e => by have := (HLT.out _ e).2; omega)
  have hx0 := Z.2.cell (p := ⟨w.heap.size + 1, 0, none⟩) (fun e => by have := (HLT.out _ e).2; simp only at this; omega) x0
  have hx1 := Z.2.cell (p := ⟨w.heap.size + 1, 1, none⟩) (fun e => by have := (HLT.out _ e).2; simp only at this; omega) x1
  by_cases hlt : k < ns
  · have t5 : decide ((k : Int) < (ns : Int)) = true := by rw [decide_eq_true_eq]; omega
    have t5' : decide (k < ns) = true := by simpa using hlt
    obtain ⟨x, hx⟩ : ∃ x, A.sm[k]? = some x := ⟨_, List.getElem?_eq_getElem (by rw [HN.out]; exact hlt)⟩
    obtain ⟨-, -, hxr⟩ := HOA.out.sm.upto k x hx
    obtain ⟨-, -, hz0, hz1⟩ := range_xyz hxr
    have hat := at_upto (clearS 2) A.sm k x hx
    have HUP := Lib.hid (map_upto (clearS 2) A.sm k x hx)
    have hlen := len_upto (clearS 2) A.sm k (by rw [HN.out]; exact hk)
    obtain ⟨q, c', he, -, -⟩ := HO.out.open (by rw [hlen, HN.out]; omega)
    injection he with he1 he2 he3
    subst he1
    subst he3
    have hcell : Z.1.cell? ⟨q, k * 7 + 5, none⟩ = some (.int .i64 x.po) := by
     have := (HO.out.rw_ smEl).1.on hat 5 _ rfl
     simpa using this
    have j3 := hac.cell.2.2.2.1
    have HAT := Lib.hid hat
    clear hx hxr hat hlen he2 hac
    have hoq := HO.out.below (Below.refl Z.1.heap.size Z.1)
    have fq := hoq.free (k * 7 + 5)
    have cq := below_cell (Below.refl Z.1.heap.size Z.1) hcell
    obtain ⟨hos, hks⟩ := hoq.set smEl (j := 5) HAT.out (by decide) (y := (clearS 2) x) (u := .int .i64 (-1)) (by simp [clearS, smC])
    obtain ⟨W9, hW9⟩ : ∃ z, Z.1.setCell ⟨q, k * 7 + 5, none⟩ (.int .i64 (-1)) = z := ⟨_, rfl⟩
    rw [hW9] at hos hks
    rw [HUP.out] at hos
    have HOS := Lib.hid hos
    have HKS := Lib.hid ((Z.2.trans (Kept.of_below (Below.refl Z.1.heap.size Z.1))).trans (show Kept (fun x => (Value.slice (some ⟨q, 0, none⟩) ns ca).ownBlock = some x) Z.1 W9 from ⟨hks.os, hks.tape, hks.output, hks.size, fun x hx ho => hks.block x hx (fun e => ho (by rw [e]; rfl))⟩))
    clear hoq hos hks
    go_wp2_with fail
    go_roundw
    case rel => exact ⟨k + 1, by go_num, by omega, HOS, ⟨W9, HKS.out⟩, rfl⟩
    case measure => simp [intOf]; omega
  · have t5 : decide ((k : Int) < (ns : Int)) = false := by rw [decide_eq_false_iff_not]; omega
    have t5' : decide (k < ns) = false := by simpa using hlt
    obtain rfl : ns = k := by omega
    have HOF := Lib.hid (show Own smC 7 72 Z.1 base (.slice a ns ca) (A.sm.map (clearS 2)) from by
     have h := HO.out
     have e : (A.sm.take ns).map (clearS 2) ++ A.sm.drop ns = A.sm.map (clearS 2) := by rw [← HN.out, List.take_length, List.drop_length, List.append_nil]
     rw [e] at h
     exact h)
    have HLEN := Lib.hid (show (A.sm.map (clearS 2)).length = ns from by rw [List.length_map, HN.out])
    obtain ⟨y0, y1, y2, y3, y4, y5⟩ := hac.cell
    have hR := HA2.out.kept Z.2 (fun e => by have := (HLT.out _ e).2; omega)
    obtain ⟨r0, r1, r2, r3, r4, r5⟩ := hR.cell
    have fr2 := hR.free
    obtain ⟨WF, hWF, haF, hkF⟩ := hR.store A.name A.sport A.start (.slice a ns ca) (.slice b A.lp.length cb) (.slice c A.tg.length cc)
    have HAF := Lib.hid haF
    have HKF := Lib.hid (hkF (fun q => q = w.heap.size + 2) rfl)
    have HBF := Lib.hid (show Below base w WF from by
     have h1 : Kept (fun q => base ≤ q) V2 WF := ⟨HKF.out.os.trans Z.2.os, HKF.out.tape.trans Z.2.tape, HKF.out.output.trans Z.2.output, Nat.le_trans Z.2.size HKF.out.size, fun q hq ho => (HKF.out.block q (Nat.lt_of_lt_of_le hq Z.2.size) (fun e => ho (by have := HBS.out; omega))).trans (Z.2.block q hq (fun e => ho (HLT.out q e).1))⟩
     exact below_at HB.out HBS.out h1)
    have HAI := Lib.hid (show ActIn WF { A with sm := A.sm.map (clearS 2) } a b c from by
     obtain ⟨l1, l2⟩ := HRW.out Z.1 Z.2
     have hof := HOF.out.keepO HKF.out (fun q hq e => by have := (HLT.out q hq).2; omega)
     have hb' : ∀ {α : Type} {C : α → List Value} {m : Nat} {y : Option Addr} {ll : List α}, Rw C m w y ll → Rw C m Z.1 y ll → Rw C m WF y ll := fun h0 h1 => ⟨fun hp => by
      obtain ⟨bb, off, e, hbb, _⟩ := h0.here hp
      subst e
      exact (h1.kept HKF.out (fun b2 off2 e2 => by injection e2 with e2; injection e2 with e3 e4; omega)).here hp⟩
     exact ⟨(hof.rw_ smEl).1, hb' HIW.out.lp l1, hb' HIW.out.tg l2, HIW.out.name, HIW.out.titles, HIW.out.tags, by show ((A.sm.map (clearS 2)).length : Int) ≤ _; rw [HLEN.out]; omega, HIW.out.nlp, HIW.out.ntg⟩)
    clear hlt hk hac HO haF hkF hR
    go_wp2_with fail
    have q := HAF.out.cell
    exact bodyPost_ret (v := .tuple #[.agg #[.string A.name, .int .i64 A.sport, .int .i64 A.start, .slice a ns ca, .slice b A.lp.length cb, .slice c A.tg.length cc], .int .i64 0]) (by simp [results, Tryz.results74, go_sem, q]) rfl ⟨HBF.out, { A with sm := A.sm.map (clearS 2) }, a, b, c, ca, cb, cc, by first | (unfold actV; simp only [HLEN.out]) | simp only [HLEN.out], fun _ => ⟨rfl, HAI.out, HFR.out⟩⟩
set_option maxHeartbeats 8000000 in
set_option maxRecDepth 100000 in
theorem sm_7_3 (f t : Int) (s : ByteArray) (A : Acv) (a b c : Option Addr) (ca cb cc : Nat) (base : Nat) (w : World) (ho : Own3 w base A (.slice a A.sm.length ca) (.slice b A.lp.length cb) (.slice c A.tg.length cc)) (hb : base ≤ w.heap.size) (ht : ActText A) (oA : AcOk A) (hs : s.size ≤ maxLen) (hk : chkE ⟨7, 3, f, t, s⟩ = 0) :
 Calls Tryz.prog 74 #[actV A a b c ca cb cc, edV ⟨7, 3, f, t, s⟩] w fun e w' => DoR A ⟨7, 3, f, t, s⟩ base w e w' := by
 unfold DoR
 rw [appE_7 rfl, appZ_7 rfl]
 obtain ⟨hI, hca, hcb, hcc, hfr⟩ := ho.actIn ht oA
 have HFR := Lib.hid hfr
 obtain ⟨V0, hV0, hb0, hs0, ha0⟩ := alloc_ac w A.name A.sport A.start (.slice a A.sm.length ca) (.slice b A.lp.length cb) (.slice c A.tg.length cc)
 obtain ⟨V1, hV1, hb1, hs1, hl1⟩ := alloc_cells V0 #[.int .i64 7, .int .i64 3, .int .i64 f, .int .i64 t, .string s] 28
 obtain ⟨V2, hV2, hb2, hs2, ha2⟩ := alloc_ac V1 ⟨#[]⟩ 0 0 (.slice none 0 0) (.slice none 0 0) (.slice none 0 0)
 have hs11 : V1.heap.size = w.heap.size + 2 := by omega
 rw [hs0] at hl1
 rw [hs11] at ha2
 have hA0 := (ha0.below hb1).below hb2
 have HB := Lib.hid (below_step (below_step hb0 hb1) hb2)
 have HSZ := Lib.hid (show V2.heap.size = w.heap.size + 3 from by omega)
 have HIW := Lib.hid hI
 have HIA := Lib.hid (hI.below HB.out)
 have HA0 := Lib.hid hA0
 have HA2 := Lib.hid ha2
 have HBS := Lib.hid hb
 have HOA := Lib.hid oA
 have HTX := Lib.hid ht
 have x0 := below_cell hb2 (hl1 0 _ rfl)
 have x1 := below_cell hb2 (hl1 1 _ rfl)
 have x2 := below_cell hb2 (hl1 2 _ rfl)
 have x3 := below_cell hb2 (hl1 3 _ rfl)
 have x4 := below_cell hb2 (hl1 4 _ rfl)
 have HL := Lib.hid (And.intro hca (And.intro hcb hcc))
 have HX0 := Lib.hid x0
 obtain ⟨z0, z1, z2, z3, z4, z5⟩ := hA0.cell
 have fr := hA0.free
 obtain ⟨B1, B2, hB1, hB2, hos, hsB, hol, hlB, hot⟩ := ho.ex
 have HOS := Lib.hid hos
 have HRW := Lib.hid (show ∀ (WX : World), Kept (fun q => (Value.slice a A.sm.length ca).ownBlock = some q) V2 WX → Rw lpC 3 WX b A.lp ∧ Rw tgC 1 WX c A.tg from fun WX hk => by
  obtain ⟨l1, _, l3⟩ := hol.rw_ lpEl
  obtain ⟨t1, _, t3⟩ := hot.rw_ tgEl
  have hl1 : ∀ bb off, b = some ⟨bb, off, none⟩ → B1 ≤ bb := fun bb off e => (l3 _ e).1
  have hl2 : ∀ bb off, c = some ⟨bb, off, none⟩ → B2 ≤ bb := fun bb off e => (t3 _ e).1
  exact ⟨(l1.below HB.out).kept hk (fun bb off e h => by have := hl1 bb off e; have := hsB bb h; omega), (t1.below HB.out).kept hk (fun bb off e h => by have := hl2 bb off e; have := hsB bb h; omega)⟩)
 have HLT := Lib.hid (fun q (hq : (Value.slice a A.sm.length ca).ownBlock = some q) => show base ≤ q ∧ q < w.heap.size from hos.lt q hq)
 obtain ⟨ns, hn⟩ : ∃ n, A.sm.length = n := ⟨_, rfl⟩
 have HN := Lib.hid hn
 have hns : ns ≤ 20000 := by have := oA.nsm; omega
 have HSO := Lib.hid (show Own smC 7 72 V2 base (.slice a ns ca) A.sm from hn ▸ hos.below HB.out)
 rw [hn] at hV0 z3 HA0 HLT HRW
 clear ho hb ht oA hI hb0 hb1 hb2 ha0 ha2 hl1 hA0 hs1 hs2 hca hcb hcc hfr hk hos hsB hol hlB hot hB1 hB2
 unfold actV
 rw [hn]
 clear hn
 unfold edV
 go_enter Tryz.func74, Tryz.ntmps74
 go_upto_region 1 with (fail)
 clear hV0 hV1 hV2 hs0 hs11
 go_wp2_with fail
 clear z0 z1 z2 z3 z4 z5 fr
 go_loopw [95] (fun iv wr => ∃ k : Nat, iv = .int .i64 k ∧ k ≤ ns ∧ Hid (Own smC 7 72 wr base (.slice a ns ca) ((A.sm.take k).map (clearS 3) ++ A.sm.drop k)) ∧ ∃ Z : ExtO (fun q => (Value.slice a ns ca).ownBlock = some q) V2, wr = Z.1) (fun iv _ => ns - (intOf iv).toNat)
 case atStart => exact ⟨0, rfl, by omega, Lib.hid HSO.out, ⟨V2, Kept.refl _ _⟩, rfl⟩
 case round =>
  obtain ⟨k, rfl, hk, HO, Z, rfl⟩ := hrel
  have hac := HA0.out.kept Z.2 (fun e => by have := (HLT.out _ e).2; omega)
  have hx0 := Z.2.cell (p := ⟨w.heap.size + 1, 0, none⟩) (fun e => by have := (HLT.out _ e).2; simp only at this; omega) x0
  have hx1 := Z.2.cell (p := ⟨w.heap.size + 1, 1, none⟩) (fun e => by have := (HLT.out _ e).2; simp only at this; omega) x1
  by_cases hlt : k < ns
  · have t5 : decide ((k : Int) < (ns : Int)) = true := by rw [decide_eq_true_eq]; omega
    have t5' : decide (k < ns) = true := by simpa using hlt
    obtain ⟨x, hx⟩ : ∃ x, A.sm[k]? = some x := ⟨_, List.getElem?_eq_getElem (by rw [HN.out]; exact hlt)⟩
    obtain ⟨-, -, hxr⟩ := HOA.out.sm.upto k x hx
    obtain ⟨-, -, hz0, hz1⟩ := range_xyz hxr
    have hat := at_upto (clearS 3) A.sm k x hx
    have HUP := Lib.hid (map_upto (clearS 3) A.sm k x hx)
    have hlen := len_upto (clearS 3) A.sm k (by rw [HN.out]; exact hk)
    obtain ⟨q, c', he, -, -⟩ := HO.out.open (by rw [hlen, HN.out]; omega)
    injection he with he1 he2 he3
    subst he1
    subst he3
    have hcell : Z.1.cell? ⟨q, k * 7 + 6, none⟩ = some (.int .i64 x.st) := by
     have := (HO.out.rw_ smEl).1.on hat 6 _ rfl
     simpa using this
    have j3 := hac.cell.2.2.2.1
    have HAT := Lib.hid hat
    clear hx hxr hat hlen he2 hac
    have hoq := HO.out.below (Below.refl Z.1.heap.size Z.1)
    have fq := hoq.free (k * 7 + 6)
    have cq := below_cell (Below.refl Z.1.heap.size Z.1) hcell
    obtain ⟨hos, hks⟩ := hoq.set smEl (j := 6) HAT.out (by decide) (y := (clearS 3) x) (u := .int .i64 (-1)) (by simp [clearS, smC])
    obtain ⟨W9, hW9⟩ : ∃ z, Z.1.setCell ⟨q, k * 7 + 6, none⟩ (.int .i64 (-1)) = z := ⟨_, rfl⟩
    rw [hW9] at hos hks
    rw [HUP.out] at hos
    have HOS := Lib.hid hos
    have HKS := Lib.hid ((Z.2.trans (Kept.of_below (Below.refl Z.1.heap.size Z.1))).trans (show Kept (fun x => (Value.slice (some ⟨q, 0, none⟩) ns ca).ownBlock = some x) Z.1 W9 from ⟨hks.os, hks.tape, hks.output, hks.size, fun x hx ho => hks.block x hx (fun e => ho (by rw [e]; rfl))⟩))
    clear hoq hos hks
    go_wp2_with fail
    go_roundw
    case rel => exact ⟨k + 1, by go_num, by omega, HOS, ⟨W9, HKS.out⟩, rfl⟩
    case measure => simp [intOf]; omega
  · have t5 : decide ((k : Int) < (ns : Int)) = false := by rw [decide_eq_false_iff_not]; omega
    have t5' : decide (k < ns) = false := by simpa using hlt
    obtain rfl : ns = k := by omega
    have HOF := Lib.hid (show Own smC 7 72 Z.1 base (.slice a ns ca) (A.sm.map (clearS 3)) from by
     have h := HO.out
     have e : (A.sm.take ns).map (clearS 3) ++ A.sm.drop ns = A.sm.map (clearS 3) := by rw [← HN.out, List.take_length, List.drop_length, List.append_nil]
     rw [e] at h
     exact h)
    have HLEN := Lib.hid (show (A.sm.map (clearS 3)).length = ns from by rw [List.length_map, HN.out])
    obtain ⟨y0, y1, y2, y3, y4, y5⟩ := hac.cell
    have hR := HA2.out.kept Z.2 (fun e => by have := (HLT.out _ e).2; omega)
    obtain ⟨r0, r1, r2, r3, r4, r5⟩ := hR.cell
    have fr2 := hR.free
    obtain ⟨WF, hWF, haF, hkF⟩ := hR.store A.name A.sport A.start (.slice a ns ca) (.slice b A.lp.length cb) (.slice c A.tg.length cc)
    have HAF := Lib.hid haF
    have HKF := Lib.hid (hkF (fun q => q = w.heap.size + 2) rfl)
    have HBF := Lib.hid (show Below base w WF from by
     have h1 : Kept (fun q => base ≤ q) V2 WF := ⟨HKF.out.os.trans Z.2.os, HKF.out.tape.trans Z.2.tape, HKF.out.output.trans Z.2.output, Nat.le_trans Z.2.size HKF.out.size, fun q hq ho => (HKF.out.block q (Nat.lt_of_lt_of_le hq Z.2.size) (fun e => ho (by have := HBS.out; omega))).trans (Z.2.block q hq (fun e => ho (HLT.out q e).1))⟩
     exact below_at HB.out HBS.out h1)
    have HAI := Lib.hid (show ActIn WF { A with sm := A.sm.map (clearS 3) } a b c from by
     obtain ⟨l1, l2⟩ := HRW.out Z.1 Z.2
     have hof := HOF.out.keepO HKF.out (fun q hq e => by have := (HLT.out q hq).2; omega)
     have hb' : ∀ {α : Type} {C : α → List Value} {m : Nat} {y : Option Addr} {ll : List α}, Rw C m w y ll → Rw C m Z.1 y ll → Rw C m WF y ll := fun h0 h1 => ⟨fun hp => by
      obtain ⟨bb, off, e, hbb, _⟩ := h0.here hp
      subst e
      exact (h1.kept HKF.out (fun b2 off2 e2 => by injection e2 with e2; injection e2 with e3 e4; omega)).here hp⟩
     exact ⟨(hof.rw_ smEl).1, hb' HIW.out.lp l1, hb' HIW.out.tg l2, HIW.out.name, HIW.out.titles, HIW.out.tags, by show ((A.sm.map (clearS 3)).length : Int) ≤ _; rw [HLEN.out]; omega, HIW.out.nlp, HIW.out.ntg⟩)
    clear hlt hk hac HO haF hkF hR
    go_wp2_with fail
    have q := HAF.out.cell
    exact bodyPost_ret (v := .tuple #[.agg #[.string A.name, .int .i64 A.sport, .int .i64 A.start, .slice a ns ca, .slice b A.lp.length cb, .slice c A.tg.length cc], .int .i64 0]) (by simp [results, Tryz.results74, go_sem, q]) rfl ⟨HBF.out, { A with sm := A.sm.map (clearS 3) }, a, b, c, ca, cb, cc, by first | (unfold actV; simp only [HLEN.out]) | simp only [HLEN.out], fun _ => ⟨rfl, HAI.out, HFR.out⟩⟩
end Go.Proofs.YtjnfccphodjfiaaGreat

/- A text of this claim. -/
namespace Go.Proofs.YtjnfccphodjfiaaGreat
open Go.RowKit Go.BigFrame
open Tr (inR Ed)
set_option linter.unusedVariables false
theorem wp_append_Lps {o : Oper} {a : Act} {K : Act → World → Prop} {Q : Exit → Act → World → Prop} {w : World} (s x : Operand)
 (ho : o.op = .call { callee := .builtin .append, args := #[s, x], argTypes := #[23, 23] }) {base : Nat} {v : Value} {l : List Lp} (hs : a.eval s = v) (hown : Own lpC 3 75 w base v l)
 {ad : Option Addr} {m : List Lp} {n k : Nat} (hx : a.eval x = .slice ad n k) (hm : m.length = n) (hr : Rw lpC 3 w ad m) (hn : l.length + n ≤ 1000000) (hb : base ≤ w.heap.size)
 (h : ∀ v' w', Own lpC 3 75 w' base v' (l ++ m) → w.grownBy w' v.ownBlock → K (a.put o.dst v') w') : o.wp Tryz.prog a w K Q := by
 obtain ⟨i0, hi0, hy0, hy1, hy2⟩ := info_parts infoLp.out
 rcases Nat.eq_zero_or_pos n with h0 | h0
 · subst h0
   have hm0 : m = [] := List.length_eq_zero_iff.1 hm
   subst hm0
   obtain ⟨av, cv, rfl, hlc, _, _⟩ := hown.row lpEl
   refine Lib.wp_append_run w s x _ _ ho _ _ hs hx _ _ (append_noneT underLp.out hi0 _ av l.length cv hlc ad k w) (h _ _ ?_ (grown_self _ _))
   rw [List.append_nil]
   exact hown
 · obtain ⟨b, off, rfl, _, _⟩ := hr.here (by omega)
   refine wp_append_lies w s x 23 ho base 75 i0 (.agg #[.int .i64 0, .int .i64 0, .string ⟨#[]⟩]) 3 32 underLp.out hi0 hy0 hy1 hy2 rfl (by decide) v l.length (l.flatMap lpC) hs hown ⟨b, off, none⟩ n k (m.flatMap lpC) hx (by rw [lpEl.flat, hm]) (hr.flat lpEl) (lpEl.ones m) h0 (by unfold maxLen; omega) (by omega) hb _ rfl ?_
   intro g' c' w' k1 k2 k3 _
   refine h _ w' ?_ k2
   unfold Own
   rw [List.length_append, List.flatMap_append, hm]
   exact k1
theorem Rw.take_ {α : Type} {C : α → List Value} {k : Nat} {w : World} {a : Option Addr} {l : List α} (h : Rw C k w a l) (n : Nat) : Rw C k w a (l.take n) :=
 ⟨fun hp => by
  obtain ⟨b, o, e, hb, hc⟩ := h.here (by rw [List.length_take] at hp; omega)
  exact ⟨b, o, e, hb, fun i x hx j v hv => hc i x (by
   rw [List.getElem?_take] at hx
   split at hx
   · exact hx
   · cases hx) j v hv⟩⟩
theorem Rw.drop_ {α : Type} {C : α → List Value} {k : Nat} {w : World} {b o : Nat} {l : List α} (h : Rw C k w (some ⟨b, o, none⟩) l) (n : Nat) : Rw C k w (some ⟨b, o + n * k, none⟩) (l.drop n) :=
 ⟨fun hp => by
  obtain ⟨b', o', e, hb, hc⟩ := h.here (by rw [List.length_drop] at hp; omega)
  injection e with e
  injection e with e1 e2
  subst e1 e2
  exact ⟨b, o + n * k, rfl, hb, fun i x hx j v hv => by
   rw [List.getElem?_drop] at hx
   have := hc (n + i) x hx j v hv
   rw [Nat.add_mul] at this
   rw [show o + n * k + i * k + j = o + (n * k + i * k) + j by omega]
   exact this⟩⟩
set_option maxHeartbeats 8000000 in
set_option maxRecDepth 100000 in
theorem sm_12 (n f t : Int) (s : ByteArray) (A : Acv) (a b c : Option Addr) (ca cb cc : Nat) (base : Nat) (w : World) (ho : Own3 w base A (.slice a A.sm.length ca) (.slice b A.lp.length cb) (.slice c A.tg.length cc)) (hb : base ≤ w.heap.size) (ht : ActText A) (oA : AcOk A) (hs : s.size ≤ maxLen) (hk : chkE ⟨12, n, f, t, s⟩ = 0) :
 Calls Tryz.prog 74 #[actV A a b c ca cb cc, edV ⟨12, n, f, t, s⟩] w fun e w' => DoR A ⟨12, n, f, t, s⟩ base w e w' := by
 unfold DoR
 rw [appE_12 rfl, appZ_12 rfl]
 obtain ⟨hI, hca, hcb, hcc, hfr⟩ := ho.actIn ht oA
 have HFR := Lib.hid hfr
 obtain ⟨V0, hV0, hb0, hs0, ha0⟩ := alloc_ac w A.name A.sport A.start (.slice a A.sm.length ca) (.slice b A.lp.length cb) (.slice c A.tg.length cc)
 obtain ⟨V1, hV1, hb1, hs1, hl1⟩ := alloc_cells V0 #[.int .i64 12, .int .i64 n, .int .i64 f, .int .i64 t, .string s] 28
 obtain ⟨V2, hV2, hb2, hs2, ha2⟩ := alloc_ac V1 ⟨#[]⟩ 0 0 (.slice none 0 0) (.slice none 0 0) (.slice none 0 0)
 have hs11 : V1.heap.size = w.heap.size + 2 := by omega
 rw [hs0] at hl1
 rw [hs11] at ha2
 have hA0 := (ha0.below hb1).below hb2
 have HB := Lib.hid (below_step (below_step hb0 hb1) hb2)
 have HSZ := Lib.hid (show V2.heap.size = w.heap.size + 3 from by omega)
 have HIW := Lib.hid hI
 have HIA := Lib.hid (hI.below HB.out)
 have HA0 := Lib.hid hA0
 have HA2 := Lib.hid ha2
 have HBS := Lib.hid hb
 have HOA := Lib.hid oA
 have HTX := Lib.hid ht
 have x0 := below_cell hb2 (hl1 0 _ rfl)
 have x1 := below_cell hb2 (hl1 1 _ rfl)
 have x2 := below_cell hb2 (hl1 2 _ rfl)
 have x3 := below_cell hb2 (hl1 3 _ rfl)
 have x4 := below_cell hb2 (hl1 4 _ rfl)
 have HL := Lib.hid (And.intro hca (And.intro hcb hcc))
 have HX0 := Lib.hid x0
 obtain ⟨z0, z1, z2, z3, z4, z5⟩ := hA0.cell
 have fr := hA0.free
 have hr := chk_rng (lo := 0) (hi := 199) (show ¬ ((12 : Int) < 1 ∨ 12 < (12 : Int)) by decide) rfl hk
 simp only at hr
 obtain ⟨m, rfl⟩ : ∃ m : Nat, n = (m : Int) := ⟨n.toNat, by omega⟩
 have hm199 : m ≤ 199 := by omega
 clear hr
 obtain ⟨nl, hnl⟩ : ∃ nl, A.lp.length = nl := ⟨_, rfl⟩
 have HNL := Lib.hid hnl
 have hnl2 : nl ≤ 200 := by have := oA.nlp; omega
 by_cases hh : (nl : Int) ≤ (m : Int)
 · have HE := Lib.hid (show (if (A.lp.length : Int) ≤ (m : Int) then (4 : Int) else 0) = 4 from if_pos (by rw [hnl]; exact hh))
   rw [HE.out]
   have t0 : decide ((m : Int) ≥ (nl : Int)) = true := by rw [decide_eq_true_eq]; exact hh
   have t0' : decide ((nl : Int) ≤ (m : Int)) = true := by rw [decide_eq_true_eq]; exact hh
   have t0'' : decide (nl ≤ m) = true := by rw [decide_eq_true_eq]; omega
   clear hh
   clear ho hb ht oA hI hb0 hb1 hb2 ha0 ha2 hl1 hA0 hs1 hs2 hca hcb hcc hfr hk
   rw [hnl] at hV0 z4
   unfold actV
   rw [hnl]
   clear hnl
   unfold edV
   go_enter Tryz.func74, Tryz.ntmps74
   go_upto_region 1 with (fail)
   clear hV0 hV1 hV2 hs0 hs11
   go_upto_region 20 with (fail)
   clear x0 x1 x2 x3 x4 z0 z1 z2 z3 z4 z5 fr
   rw [← HNL.out]
   have hR := HA2.out.below (Below.refl V2.heap.size V2)
   obtain ⟨y0, y1, y2, y3, y4, y5⟩ := (HA0.out.below (Below.refl V2.heap.size V2)).cell
   obtain ⟨r0, r1, r2, r3, r4, r5⟩ := hR.cell
   have fr2 := hR.free
   obtain ⟨WF, hWF, haF, hkF⟩ := hR.store A.name A.sport A.start (.slice a A.sm.length ca) (.slice b A.lp.length cb) (.slice c A.tg.length cc)
   have HAF := Lib.hid haF
   have HKF := Lib.hid (hkF (fun q => q = w.heap.size + 2) rfl)
   have HBF := Lib.hid (show Below w.heap.size w WF from by
    have h1 := below_step HB.out (Below.refl V2.heap.size V2)
    exact Kept.below h1 HKF.out h1.size (fun k hk e => by omega))
   clear haF hkF hR
   go_wp2_with fail
   have q := HAF.out.cell
   exact bodyPost_ret (v := .tuple #[.agg #[.string A.name, .int .i64 A.sport, .int .i64 A.start, .slice a A.sm.length ca, .slice b A.lp.length cb, .slice c A.tg.length cc], .int .i64 4]) (by simp [results, Tryz.results74, go_sem, q]) rfl ⟨below_at HBF.out HBS.out (Kept.refl _ _), A, a, b, c, ca, cb, cc, by first | rfl | (unfold actV; rfl), fun h => by omega⟩
 · have HE := Lib.hid (show (if (A.lp.length : Int) ≤ (m : Int) then (4 : Int) else 0) = 0 from if_neg (by rw [hnl]; exact hh))
   rw [HE.out]
   have t0 : decide ((m : Int) ≥ (nl : Int)) = false := by rw [decide_eq_false_iff_not]; exact hh
   have t0' : decide ((nl : Int) ≤ (m : Int)) = false := by rw [decide_eq_false_iff_not]; exact hh
   have t0'' : decide (nl ≤ m) = false := by rw [decide_eq_false_iff_not]; omega
   have hml : m < nl := by omega
   have hmc : nl ≤ cb := by omega
   have hmc2 : m ≤ cb := by omega
   have hmc3 : m + 1 ≤ nl := by omega
   have hmc4 : m + 1 ≤ cb := by omega
   have w1 : IntKind.i64.wrap ((m : Int) + 1) = ((m + 1 : Nat) : Int) := by rw [tm_wrap (by omega) (by omega)]; omega
   clear hh
   obtain ⟨b4, o4, rfl, hb4, -⟩ := hI.lp.here (by omega)
   obtain ⟨m1, hm1⟩ : ∃ z, m + 1 = z := ⟨_, rfl⟩
   have HM1 := Lib.hid hm1
   rw [hm1] at w1 hmc3 hmc4
   clear ho hb ht oA hI hb0 hb1 hb2 ha0 ha2 hl1 hA0 hs1 hs2 hca hcb hcc hfr hk hm1
   rw [hnl] at hV0 z4
   have z4' := z4
   unfold actV
   rw [hnl]
   clear hnl
   unfold edV
   go_enter Tryz.func74, Tryz.ntmps74
   go_upto_region 1 with (fail)
   clear hV0 hV1 hV2 hs0 hs11
   go_upto_region 21 with (fail)
   have X1 := Ext.ex x1
   have Z4 := Ext.ex z4
   refine late_start (s := 14) (C := fun w' => ∃ Y : Ext V2, w' = Y.1) (by kernel_rfl) ?_
   obtain ⟨Q0, hQ0⟩ : ∃ Y : Ext V2, ({ V2 with drawn := V2.drawn + 1 } : World) = Y.1 := ⟨⟨{ V2 with drawn := V2.drawn + 1 }, ⟨rfl, rfl, rfl, Nat.le_refl _, fun _ _ => rfl⟩⟩, rfl⟩
   rw [hQ0]
   clear hQ0 x1 z4
   refine late_quiet (by kernel_rfl) (fun _ _ d _ _ h => by cases d <;> exact h) ⟨Q0, rfl⟩ [0, 1, 2, 3, 6, 7, 8, 9] 7 _ _ (by kernel_rfl) (by kernel_rfl) ?_
   change wpQuiet _ _ _ _ (_ :: _ :: _ :: _ :: _ :: _ :: _ :: _ :: []) _
   repeat go_big_quiet_step (fail)
   refine wpQuiet_nil ?_
   refine late_quiet (by kernel_rfl) (fun _ _ d _ _ h => by cases d <;> exact h) ⟨Q0, rfl⟩ [4, 10] 5 _ _ (by kernel_rfl) (by kernel_rfl) ?_
   change wpQuiet _ _ _ _ (_ :: _ :: []) _
   repeat go_big_quiet_step (fail)
   refine wpQuiet_nil ?_
   refine late_quiet (by kernel_rfl) (fun _ _ d _ _ h => by cases d <;> exact h) ⟨Q0, rfl⟩ [11] 4 _ _ (by kernel_rfl) (by kernel_rfl) ?_
   change wpQuiet _ _ _ _ (_ :: []) _
   repeat go_big_quiet_step (fail)
   refine wpQuiet_nil ?_
   obtain ⟨pz, hpz⟩ : ∃ z : Option Addr, (if cb = m1 then (some ⟨b4, o4, none⟩ : Option Addr) else some ⟨b4, o4 + m1 * 3, none⟩) = z := ⟨_, rfl⟩
   rw [hpz]
   have HPZ := Lib.hid (fun (X : Ext V2) => show Rw lpC 3 X.1 pz (A.lp.drop m1) from by
    rw [← hpz]
    by_cases hz : cb = m1
    · rw [if_pos hz, show A.lp.drop m1 = [] from List.drop_eq_nil_of_le (by have := HNL.out; omega)]
      exact Rw.nil_
    · rw [if_neg hz]
      exact (HIA.out.lp.below X.2).drop_ m1)
   clear hpz
   refine late_do (i := 5) _ rfl (by kernel_rfl) rfl (fun K hK => ?_)
   refine wp_append_Lps (l := []) (base := V2.heap.size) (m := A.lp.take m) _ _ rfl rfl (Own.nil _ _ _ _ _) rfl (by rw [List.length_take, HNL.out]; omega) ((HIA.out.lp.below Q0.2).take_ m) (by simp; omega) Q0.2.size (fun v5 w5 ho5 hg5 => ?_)
   rw [List.nil_append] at ho5
   have hb5 : Below V2.heap.size V2 w5 := Kept.below (O := fun _ => False) Q0.2 (Kept.of_grown hg5 (fun g e _ => by cases e)) Q0.2.size (fun k hk e => e.elim)
   obtain ⟨Q5, rfl⟩ : ∃ Y : Ext V2, w5 = Y.1 := ⟨⟨w5, hb5⟩, rfl⟩
   have HO5 := Lib.hid ho5
   refine hK _ _ (fun _ => ⟨Q5, rfl⟩) ?_
   clear hK K ho5 hg5 hb5
   try simp only [Act.put, List.setIfInBounds_toArray, List.set_cons_zero, List.set_cons_succ]
   refine late_do (i := 12) _ rfl (by kernel_rfl) rfl (fun K hK => ?_)
   refine wp_append_Lps (m := A.lp.drop m1) _ _ rfl rfl HO5.out rfl (by rw [List.length_drop, HNL.out]) (HPZ.out Q5) (by rw [List.length_take]; omega) Q5.2.size (fun v6 w6 ho6 hg6 => ?_)
   have hb6 : Below V2.heap.size V2 w6 := Kept.below (O := fun q => V2.heap.size ≤ q) Q5.2 (Kept.of_grown hg6 (fun g e _ => (HO5.out.lt g e).1)) Q5.2.size (fun k hk e => by omega)
   obtain ⟨vv, cv, rfl, -, -, -⟩ := ho6.row lpEl
   obtain ⟨nv, hnv⟩ : ∃ nv, (A.lp.take m ++ A.lp.drop m1).length = nv := ⟨_, rfl⟩
   have HNV0 := Lib.hid hnv
   rw [hnv] at ho6 ⊢
   obtain ⟨Q6, rfl⟩ : ∃ Y : Ext V2, w6 = Y.1 := ⟨⟨w6, hb6⟩, rfl⟩
   have HOV := Lib.hid ho6
   refine hK _ _ (fun _ => ⟨Q6, rfl⟩) ?_
   clear hK K ho6 hg6 hb6 hnv
   try simp only [Act.put, List.setIfInBounds_toArray, List.set_cons_zero, List.set_cons_succ]
   refine late_do (i := 13) _ rfl (by kernel_rfl) rfl (fun K hK => ?_)
   go_simp
   refine hK _ _ (fun _ => ⟨Q6, rfl⟩) ?_
   clear hK K
   try simp only [Act.put, List.setIfInBounds_toArray, List.set_cons_zero, List.set_cons_succ]
   have HTM := Lib.hid (show ((m : Int)).toNat = m ∧ m1 = m + 1 from ⟨Int.toNat_natCast m, HM1.out.symm⟩)
   have HNV := Lib.hid (show (A.lp.take ((m : Int)).toNat ++ A.lp.drop (((m : Int)).toNat + 1)).length = nv from by rw [HTM.out.1, ← HTM.out.2]; exact HNV0.out)
   have HMT := Lib.hid (fun p (hp : p ∈ A.lp.take ((m : Int)).toNat ++ A.lp.drop (((m : Int)).toNat + 1)) => show p.s.size ≤ maxLen from by
    rcases List.mem_append.1 hp with h | h
    · exact HTX.out.titles p (List.mem_of_mem_take h)
    · exact HTX.out.titles p (List.mem_of_mem_drop h))
   have HML := Lib.hid (show nv ≤ 1000 from by
    have h1 := HNV0.out
    rw [List.length_append, List.length_take, List.length_drop] at h1
    have := HNL.out
    omega)
   clear fr x0 x2 x3 x4 z0 z1 z2 z3 z5 z4' Z4 X1
   have hA1 := (HA0.out.below Q6.2).set4 (.slice vv nv cv)
   have fr1 := (HA0.out.below Q6.2).free 4
   obtain ⟨y0', y1', y2', y3', y4', y5'⟩ := (HA0.out.below Q6.2).cell
   obtain ⟨W1, hW1⟩ : ∃ z, Q6.1.setCell ⟨w.heap.size, 4, none⟩ (.slice vv nv cv) = z := ⟨_, rfl⟩
   rw [hW1] at hA1
   have hk1 : Kept (fun q => q = w.heap.size) Q6.1 W1 := by rw [← hW1]; exact keep_set (O := fun q => q = w.heap.size) rfl
   have hR := (HA2.out.below Q6.2).kept hk1 (by omega)
   obtain ⟨y0, y1, y2, y3, y4, y5⟩ := hA1.cell
   obtain ⟨r0, r1, r2, r3, r4, r5⟩ := hR.cell
   have fr2 := hR.free
   obtain ⟨WF, hWF, haF, hkF⟩ := hR.store A.name A.sport A.start (.slice a A.sm.length ca) (.slice vv nv cv) (.slice c A.tg.length cc)
   have HAF := Lib.hid haF
   have HKF := Lib.hid (hkF (fun q => q = w.heap.size + 2) rfl)
   have HBF := Lib.hid (show Below w.heap.size w WF from by
    have h1 := below_step HB.out Q6.2
    have h2 := Kept.below h1 hk1 h1.size (fun k hk e => by omega)
    exact Kept.below h2 HKF.out h2.size (fun k hk e => by omega))
   have HOF := Lib.hid ((HOV.out.keepO hk1 (fun q hq e => by have := (HOV.out.lt q hq).1; have := HSZ.out; omega)).keepO HKF.out (fun q hq e => by have := (HOV.out.lt q hq).1; have := HSZ.out; omega))
   have hx0 := hk1.cell (p := ⟨w.heap.size + 1, 0, none⟩) (by show ¬ (w.heap.size + 1 = w.heap.size); omega) (below_cell Q6.2 HX0.out)
   clear haF hkF hR hA1 hk1
   refine late_do (i := 14) _ rfl (by kernel_rfl) rfl (fun K hK => ?_)
   go_simp
   refine hK _ _ (fun h => nomatch (show true = false from h)) ?_
   clear hK K
   try simp only [Act.put, List.setIfInBounds_toArray, List.set_cons_zero, List.set_cons_succ]
   refine late_done (by kernel_rfl) ?_ _
   clear hW1 fr1 y0' y1' y2' y3' y4' y5'
   have hnsm := HOA.out.nsm
   go_wp2_with fail
   go_loopw [95] (fun iv wr => ∃ i : Nat, iv = .int .i64 i ∧ i ≤ A.sm.length ∧ wr = W1) (fun iv _ => A.sm.length - (intOf iv).toNat)
   case atStart => exact ⟨0, rfl, by omega, by first | rfl | trivial⟩
   case round =>
    obtain ⟨i, rfl, hi, rfl⟩ := hrel
    by_cases hlt : i < A.sm.length
    · have t1 : decide ((i : Int) < (A.sm.length : Int)) = true := by rw [decide_eq_true_eq]; omega
      have t1' : decide (i < A.sm.length) = true := by simpa using hlt
      obtain ⟨ba, oa, rfl, -, -⟩ := HIW.out.sm.here (by omega)
      go_wp2_with fail
      go_roundw
      case rel => exact ⟨i + 1, by go_num, by omega, by first | rfl | trivial⟩
      case measure => simp [intOf]; omega
    have t1 : decide ((i : Int) < (A.sm.length : Int)) = false := by rw [decide_eq_false_iff_not]; omega
    have t1' : decide (i < A.sm.length) = false := by simpa using hlt
    go_wp2_with fail
    have q := HAF.out.cell
    have hI := HIW.out.below HBF.out
    exact bodyPost_ret (v := .tuple #[.agg #[.string A.name, .int .i64 A.sport, .int .i64 A.start, .slice a A.sm.length ca, .slice vv nv cv, .slice c A.tg.length cc], .int .i64 0]) (by simp [results, Tryz.results74, go_sem, q]) rfl ⟨below_at HBF.out HBS.out (Kept.refl _ _), { A with lp := A.lp.take ((m : Int)).toNat ++ A.lp.drop (((m : Int)).toNat + 1) }, a, vv, c, ca, cv, cc, by first | (unfold actV; simp only [HNV.out]) | simp only [HNV.out], fun _ => ⟨rfl, ⟨hI.sm, by have h := (HOF.out.rw_ lpEl).1; rw [HTM.out.2] at h; rw [HTM.out.1]; exact h, hI.tg, hI.name, HMT.out, hI.tags, hI.nsm, by have h1 := HNV.out; have h2 := HML.out; show ((A.lp.take ((m : Int)).toNat ++ A.lp.drop (((m : Int)).toNat + 1)).length : Int) ≤ _; omega, hI.ntg⟩, fun q hq => by rcases hq with e | e | e <;> first | exact HFR.out q (Or.inl e) | exact HFR.out q (Or.inr (Or.inl e)) | exact HFR.out q (Or.inr (Or.inr e)) | (have h1 := ((HOF.out.rw_ lpEl).2.2 q e).1; have h2 := HSZ.out; have h3 := HBS.out; omega)⟩⟩
end Go.Proofs.YtjnfccphodjfiaaGreat

/- A text of this claim. -/
namespace Go.Proofs.YtjnfccphodjfiaaGreat
open Go.RowKit Go.BigFrame
open Tr (Ed inR)
def usesNB (k : Int) : Bool := !usesT k && !usesS k
theorem rn_any (k : Int) (w : World) : Calls Tryz.prog 39 #[.int .i64 k] w fun e w' => e = .returned (.bool (usesNB k)) ∧ w = w' := by
 have DT := Lib.hid (rtext_any k)
 have DS := Lib.hid (rspan_any k)
 unfold usesNB
 generalize usesT k = bt at *
 generalize usesS k = bs at *
 cases bt
 · go_enter Tryz.func39, Tryz.ntmps39
   go_wp2_with fail
   refine (DT.out _).mono ?_
   rintro e w1 ⟨rfl, rfl⟩
   go_wp2_with fail
   refine (DS.out _).mono ?_
   rintro e w1 ⟨rfl, rfl⟩
   go_wp2_with fail
   go_ret
   exact ⟨ret_bool (by simp), rfl⟩
 · go_enter Tryz.func39, Tryz.ntmps39
   go_wp2_with fail
   refine (DT.out _).mono ?_
   rintro e w1 ⟨rfl, rfl⟩
   go_wp2_with fail
   go_ret
   exact ⟨ret_bool (by simp), rfl⟩
end Go.Proofs.YtjnfccphodjfiaaGreat

/- A text of this claim. -/
namespace Go.Proofs.YtjnfccphodjfiaaGreat
open Go.RowKit Go.BigFrame
def loE (k : Int) : Int := if k = 5 then -86399999999 else if k = 6 then -200000 else if k = 7 then 1 else 0
def hiE (k : Int) : Int := if k = 5 then 86399999999 else if k = 6 then 200000 else if k = 7 then 3 else if k = 9 then 50 else if k = 10 then 1000000 else 199
theorem rbounds_any (k : Int) (w : World) : Calls Tryz.prog 43 #[.int .i64 k] w fun e w' => e = .returned (.tuple #[.int .i64 (loE k), .int .i64 (hiE k)]) ∧ w = w' := by
 by_cases h : k = 5 ∨ k = 6 ∨ k = 7 ∨ k = 9 ∨ k = 10
 · rcases h with rfl | rfl | rfl | rfl | rfl
   all_goals
    go_enter Tryz.func43, Tryz.ntmps43
    go_wp2_with fail
    go_ret2
    exact ⟨rfl, rfl⟩
 · have b5 : (k == 5) = false := beqF (by omega)
   have b6 : (k == 6) = false := beqF (by omega)
   have b7 : (k == 7) = false := beqF (by omega)
   have b9 : (k == 9) = false := beqF (by omega)
   have b10 : (k == 10) = false := beqF (by omega)
   have H1 := Lib.hid (show loE k = 0 by unfold loE; rw [if_neg (by omega), if_neg (by omega), if_neg (by omega)])
   have H2 := Lib.hid (show hiE k = 199 by unfold hiE; rw [if_neg (by omega), if_neg (by omega), if_neg (by omega), if_neg (by omega), if_neg (by omega)])
   clear h
   go_enter Tryz.func43, Tryz.ntmps43
   go_wp2_with fail
   go_ret2
   exact ⟨by rw [H1.out, H2.out]; rfl, rfl⟩
end Go.Proofs.YtjnfccphodjfiaaGreat

/- A text of this claim. -/
namespace Go.Proofs.YtjnfccphodjfiaaGreat
open Go.RowKit Go.BigFrame
open Tr (Ed inR)
set_option maxHeartbeats 2000000 in
set_option maxRecDepth 100000 in
theorem rlap_any (s : ByteArray) (w : World) (hs : s.size ≤ maxLen) :
 Calls Tryz.prog 42 #[.string s] w fun e w' => e = .returned (.bool (titleB s)) ∧ w = w' := by
 unfold maxLen at hs
 by_cases h6 : s.size ≤ 60
 · have t4 : decide ((60 : Int) < (s.size : Int)) = false := by rw [decide_eq_false_iff_not]; omega
   have t4' : decide (60 < s.size) = false := by rw [decide_eq_false_iff_not]; omega
   have H6 := Lib.hid h6
   clear h6
   go_enter Tryz.func42, Tryz.ntmps42
   go_wp2_with fail
   go_loop [3] (fun iv => ∃ (k : Nat), iv = .int .i64 k ∧ k ≤ s.size ∧ Hid (allT s k = true)) (fun iv => s.size - (intOf iv).toNat)
   case atStart => exact ⟨0, rfl, by omega, Lib.hid rfl⟩
   case round =>
    obtain ⟨k, rfl, hk, HA⟩ := hrel
    by_cases hlt : k < s.size
    · have t3 : decide ((k : Int) < (s.size : Int)) = true := by rw [decide_eq_true_eq]; omega
      have t3' : decide (k < s.size) = true := by simpa using hlt
      have hub : (s[k].toNat : Int) ≤ 255 := by have := s[k].toNat_lt; omega
      have OKN := Lib.hid (fun (h1 : 32 ≤ s[k].toNat) (h2 : s[k].toNat ≤ 126) => allT_step hlt HA.out h1 h2)
      have BADN := Lib.hid (fun (h : ¬ (32 ≤ s[k].toNat ∧ s[k].toNat ≤ 126)) => titleB_bad hlt h)
      by_cases c1 : 32 ≤ s[k].toNat
      · have d1 : decide ((s[k].toNat : Int) < 32) = false := by rw [decide_eq_false_iff_not]; omega
        have d1' : decide (s[k].toNat < 32) = false := by rw [decide_eq_false_iff_not]; omega
        by_cases c2 : s[k].toNat ≤ 126
        · have d2 : decide ((126 : Int) < (s[k].toNat : Int)) = false := by rw [decide_eq_false_iff_not]; omega
          have d2' : decide (126 < s[k].toNat) = false := by rw [decide_eq_false_iff_not]; omega
          have HF := Lib.hid (OKN.out c1 c2)
          clear OKN BADN c1 c2
          go_wp2_with fail
          go_round
          case rel => exact ⟨k + 1, by go_num, by omega, HF⟩
          case measure => simp [intOf]; omega
        · have d2 : decide ((126 : Int) < (s[k].toNat : Int)) = true := by rw [decide_eq_true_eq]; omega
          have d2' : decide (126 < s[k].toNat) = true := by rw [decide_eq_true_eq]; omega
          have HF := Lib.hid (BADN.out (fun h => c2 h.2))
          clear OKN BADN c1 c2
          go_wp2_with fail
          go_ret
          exact ⟨ret_bool HF.out.symm, rfl⟩
      · have d1 : decide ((s[k].toNat : Int) < 32) = true := by rw [decide_eq_true_eq]; omega
        have d1' : decide (s[k].toNat < 32) = true := by rw [decide_eq_true_eq]; omega
        have HF := Lib.hid (BADN.out (fun h => c1 h.1))
        clear OKN BADN c1
        go_wp2_with fail
        go_ret
        exact ⟨ret_bool HF.out.symm, rfl⟩
    · have t3 : decide ((k : Int) < (s.size : Int)) = false := by rw [decide_eq_false_iff_not]; omega
      have t3' : decide (k < s.size) = false := by simpa using hlt
      have HF := Lib.hid (show titleB s = true from (titleB_of (by have := HA.out; rwa [show k = s.size by omega] at this)).trans (decide_eq_true H6.out))
      clear hlt
      go_wp2_with fail
      go_ret
      exact ⟨ret_bool HF.out.symm, rfl⟩
 · have t4 : decide ((60 : Int) < (s.size : Int)) = true := by rw [decide_eq_true_eq]; omega
   have t4' : decide (60 < s.size) = true := by rw [decide_eq_true_eq]; omega
   have HF := Lib.hid (show titleB s = false by unfold titleB; rw [decide_eq_false h6, Bool.false_and])
   clear h6
   go_enter Tryz.func42, Tryz.ntmps42
   go_wp2_with fail
   go_ret
   exact ⟨ret_bool HF.out.symm, rfl⟩
end Go.Proofs.YtjnfccphodjfiaaGreat

/- A text of this claim. -/
namespace Go.Proofs.YtjnfccphodjfiaaGreat
open Go.RowKit Go.BigFrame
open Tr (Ed inR united bef)
theorem neT {n m : Int} (h : n ≠ m) : (n != m) = true := by rw [bne_iff_ne]; exact h
end Go.Proofs.YtjnfccphodjfiaaGreat

/- A text of this claim. -/
namespace Go.Proofs.YtjnfccphodjfiaaGreat
open Go.RowKit Go.BigFrame
open Tr (Ed inR)
def RChk (x : Ed) (w : World) : Prop := Calls Tryz.prog 10 #[edV x] w fun e w' => e = .returned (.int .i64 (chkE x)) ∧ Below w.heap.size w w'
theorem str_eq0 {s : ByteArray} (h : s.size = 0) : (s.toList == []) = true := by
 rw [ByteArray.toList_eq, beq_iff_eq]
 exact List.length_eq_zero_iff.1 h
theorem str_ne0 {s : ByteArray} (h : s.size = 0) : (s.toList != []) = false := by
 unfold bne
 rw [str_eq0 h]
 rfl
theorem str_eq1 {s : ByteArray} (h : s.size ≠ 0) : (s.toList == []) = false := by
 rw [ByteArray.toList_eq, beq_eq_false_iff_ne]
 exact fun e => h (List.length_eq_zero_iff.2 e)
theorem str_ne1 {s : ByteArray} (h : s.size ≠ 0) : (s.toList != []) = true := by
 unfold bne
 rw [str_eq1 h]
 rfl
theorem neF {n m : Int} (h : n = m) : (n != m) = false := by rw [h]; simp
theorem chkE_form {x : Ed} (hk : 1 ≤ x.k ∧ x.k ≤ 12) {b : Bool} (h : formE x = b) : chkE x = if b = false then 2 else fieldE x := by
 unfold chkE
 rw [if_neg (by omega), h]
set_option maxHeartbeats 4000000 in
theorem rcheck_2 (n f t : Int) (s : ByteArray) (w : World) (_ : s.size ≤ maxLen) : RChk ⟨2, n, f, t, s⟩ w := by
 have DO : Hid (∀ W, Calls Tryz.prog 37 #[.int .i64 2, .int .i64 1, .int .i64 12] W fun e w' => e = .returned (.bool false) ∧ W = w') := Lib.hid (fun W => rout_any 2 1 12 W)
 have DT : Hid (∀ W, Calls Tryz.prog 38 #[.int .i64 2] W fun e w' => e = .returned (.bool false) ∧ W = w') := Lib.hid (fun W => rtext_any 2 W)
 have DN : Hid (∀ W, Calls Tryz.prog 39 #[.int .i64 2] W fun e w' => e = .returned (.bool true) ∧ W = w') := Lib.hid (fun W => rn_any 2 W)
 have DS : Hid (∀ W, Calls Tryz.prog 40 #[.int .i64 2] W fun e w' => e = .returned (.bool false) ∧ W = w') := Lib.hid (fun W => rspan_any 2 W)
 unfold RChk edV
 by_cases h1 : s.size = 0
 case neg =>
  have q1 := str_eq1 h1
  have q2 := str_ne1 h1
  have HV := Lib.hid (show chkE ⟨2, n, f, t, s⟩ = 2 from chkE_form (b := false) (by simp) (by simp [formE, h1]))
  clear h1
  go_enter Tryz.func10, Tryz.ntmps10
  go_wp2_with fail
  refine (DO.out _).mono ?_
  rintro e w1 ⟨rfl, rfl⟩
  go_wp2_with fail
  refine (DT.out _).mono ?_
  rintro e w1 ⟨rfl, rfl⟩
  go_wp2_with fail
  go_ret
  exact ⟨ret_int HV.out.symm, below_al w _⟩
 have q1 := str_eq0 h1
 have q2 := str_ne0 h1
 by_cases h2 : f = 0
 case neg =>
  have b2 := neT h2
  have HV := Lib.hid (show chkE ⟨2, n, f, t, s⟩ = 2 from chkE_form (b := false) (by simp) (by simp [formE, h2]))
  clear h1 h2
  go_enter Tryz.func10, Tryz.ntmps10
  go_wp2_with fail
  refine (DO.out _).mono ?_
  rintro e w1 ⟨rfl, rfl⟩
  go_wp2_with fail
  refine (DT.out _).mono ?_
  rintro e w1 ⟨rfl, rfl⟩
  go_wp2_with fail
  refine (DN.out _).mono ?_
  rintro e w1 ⟨rfl, rfl⟩
  go_wp2_with fail
  refine (DS.out _).mono ?_
  rintro e w1 ⟨rfl, rfl⟩
  go_wp2_with fail
  go_ret
  exact ⟨ret_int HV.out.symm, below_al w _⟩
 have b2 := neF h2
 by_cases h3 : t = 0
 case neg =>
  have b3 := neT h3
  have HV := Lib.hid (show chkE ⟨2, n, f, t, s⟩ = 2 from chkE_form (b := false) (by simp) (by simp [formE, h3]))
  clear h1 h2 h3
  go_enter Tryz.func10, Tryz.ntmps10
  go_wp2_with fail
  refine (DO.out _).mono ?_
  rintro e w1 ⟨rfl, rfl⟩
  go_wp2_with fail
  refine (DT.out _).mono ?_
  rintro e w1 ⟨rfl, rfl⟩
  go_wp2_with fail
  refine (DN.out _).mono ?_
  rintro e w1 ⟨rfl, rfl⟩
  go_wp2_with fail
  refine (DS.out _).mono ?_
  rintro e w1 ⟨rfl, rfl⟩
  go_wp2_with fail
  go_ret
  exact ⟨ret_int HV.out.symm, below_al w _⟩
 have b3 := neF h3
 have HV0 := Lib.hid (show chkE ⟨2, n, f, t, s⟩ = if inR n 1 5 = true then 0 else 7 from (chkE_form (b := true) (by simp) (by simp [formE, h1, h2, h3])).trans (by simp [fieldE]))
 have DB := Lib.hid (fun W => rout_any n 1 5 W)
 clear h1 h2 h3
 generalize inR n 1 5 = b at *
 cases b
 all_goals
  have HV := Lib.hid (HV0.out)
  go_enter Tryz.func10, Tryz.ntmps10
  go_wp2_with fail
  refine (DO.out _).mono ?_
  rintro e w1 ⟨rfl, rfl⟩
  go_wp2_with fail
  refine (DT.out _).mono ?_
  rintro e w1 ⟨rfl, rfl⟩
  go_wp2_with fail
  refine (DN.out _).mono ?_
  rintro e w1 ⟨rfl, rfl⟩
  go_wp2_with fail
  refine (DS.out _).mono ?_
  rintro e w1 ⟨rfl, rfl⟩
  go_wp2_with fail
  refine (DB.out _).mono ?_
  rintro e w1 ⟨rfl, rfl⟩
  go_wp2_with fail
  go_ret
  exact ⟨ret_int HV.out.symm, below_al w _⟩
set_option maxHeartbeats 4000000 in
theorem rcheck_5 (n f t : Int) (s : ByteArray) (w : World) (_ : s.size ≤ maxLen) : RChk ⟨5, n, f, t, s⟩ w := by
 have DO : Hid (∀ W, Calls Tryz.prog 37 #[.int .i64 5, .int .i64 1, .int .i64 12] W fun e w' => e = .returned (.bool false) ∧ W = w') := Lib.hid (fun W => rout_any 5 1 12 W)
 have DT : Hid (∀ W, Calls Tryz.prog 38 #[.int .i64 5] W fun e w' => e = .returned (.bool false) ∧ W = w') := Lib.hid (fun W => rtext_any 5 W)
 have DN : Hid (∀ W, Calls Tryz.prog 39 #[.int .i64 5] W fun e w' => e = .returned (.bool true) ∧ W = w') := Lib.hid (fun W => rn_any 5 W)
 have DS : Hid (∀ W, Calls Tryz.prog 40 #[.int .i64 5] W fun e w' => e = .returned (.bool false) ∧ W = w') := Lib.hid (fun W => rspan_any 5 W)
 unfold RChk edV
 by_cases h1 : s.size = 0
 case neg =>
  have q1 := str_eq1 h1
  have q2 := str_ne1 h1
  have HV := Lib.hid (show chkE ⟨5, n, f, t, s⟩ = 2 from chkE_form (b := false) (by simp) (by simp [formE, h1]))
  clear h1
  go_enter Tryz.func10, Tryz.ntmps10
  go_wp2_with fail
  refine (DO.out _).mono ?_
  rintro e w1 ⟨rfl, rfl⟩
  go_wp2_with fail
  refine (DT.out _).mono ?_
  rintro e w1 ⟨rfl, rfl⟩
  go_wp2_with fail
  go_ret
  exact ⟨ret_int HV.out.symm, below_al w _⟩
 have q1 := str_eq0 h1
 have q2 := str_ne0 h1
 by_cases h2 : f = 0
 case neg =>
  have b2 := neT h2
  have HV := Lib.hid (show chkE ⟨5, n, f, t, s⟩ = 2 from chkE_form (b := false) (by simp) (by simp [formE, h2]))
  clear h1 h2
  go_enter Tryz.func10, Tryz.ntmps10
  go_wp2_with fail
  refine (DO.out _).mono ?_
  rintro e w1 ⟨rfl, rfl⟩
  go_wp2_with fail
  refine (DT.out _).mono ?_
  rintro e w1 ⟨rfl, rfl⟩
  go_wp2_with fail
  refine (DN.out _).mono ?_
  rintro e w1 ⟨rfl, rfl⟩
  go_wp2_with fail
  refine (DS.out _).mono ?_
  rintro e w1 ⟨rfl, rfl⟩
  go_wp2_with fail
  go_ret
  exact ⟨ret_int HV.out.symm, below_al w _⟩
 have b2 := neF h2
 by_cases h3 : t = 0
 case neg =>
  have b3 := neT h3
  have HV := Lib.hid (show chkE ⟨5, n, f, t, s⟩ = 2 from chkE_form (b := false) (by simp) (by simp [formE, h3]))
  clear h1 h2 h3
  go_enter Tryz.func10, Tryz.ntmps10
  go_wp2_with fail
  refine (DO.out _).mono ?_
  rintro e w1 ⟨rfl, rfl⟩
  go_wp2_with fail
  refine (DT.out _).mono ?_
  rintro e w1 ⟨rfl, rfl⟩
  go_wp2_with fail
  refine (DN.out _).mono ?_
  rintro e w1 ⟨rfl, rfl⟩
  go_wp2_with fail
  refine (DS.out _).mono ?_
  rintro e w1 ⟨rfl, rfl⟩
  go_wp2_with fail
  go_ret
  exact ⟨ret_int HV.out.symm, below_al w _⟩
 have b3 := neF h3
 have HV0 := Lib.hid (show chkE ⟨5, n, f, t, s⟩ = if inR n (loE 5) (hiE 5) = true then 0 else 9 from (chkE_form (b := true) (by simp) (by simp [formE, h1, h2, h3])).trans (by simp [fieldE, rngE, loE, hiE]))
 have DB := Lib.hid (fun W => rout_any n (loE 5) (hiE 5) W)
 have DL := Lib.hid (fun W => rbounds_any 5 W)
 clear h1 h2 h3
 generalize inR n (loE 5) (hiE 5) = b at *
 generalize loE 5 = lo at *
 generalize hiE 5 = hi at *
 cases b
 all_goals
  have HV := Lib.hid (HV0.out)
  go_enter Tryz.func10, Tryz.ntmps10
  go_wp2_with fail
  refine (DO.out _).mono ?_
  rintro e w1 ⟨rfl, rfl⟩
  go_wp2_with fail
  refine (DT.out _).mono ?_
  rintro e w1 ⟨rfl, rfl⟩
  go_wp2_with fail
  refine (DN.out _).mono ?_
  rintro e w1 ⟨rfl, rfl⟩
  go_wp2_with fail
  refine (DS.out _).mono ?_
  rintro e w1 ⟨rfl, rfl⟩
  go_wp2_with fail
  refine (DS.out _).mono ?_
  rintro e w1 ⟨rfl, rfl⟩
  go_wp2_with fail
  refine (DL.out _).mono ?_
  rintro e w1 ⟨rfl, rfl⟩
  go_wp2_with fail
  refine (DB.out _).mono ?_
  rintro e w1 ⟨rfl, rfl⟩
  go_wp2_with fail
  go_ret
  exact ⟨ret_int HV.out.symm, below_al w _⟩
set_option maxHeartbeats 4000000 in
theorem rcheck_6 (n f t : Int) (s : ByteArray) (w : World) (_ : s.size ≤ maxLen) : RChk ⟨6, n, f, t, s⟩ w := by
 have DO : Hid (∀ W, Calls Tryz.prog 37 #[.int .i64 6, .int .i64 1, .int .i64 12] W fun e w' => e = .returned (.bool false) ∧ W = w') := Lib.hid (fun W => rout_any 6 1 12 W)
 have DT : Hid (∀ W, Calls Tryz.prog 38 #[.int .i64 6] W fun e w' => e = .returned (.bool false) ∧ W = w') := Lib.hid (fun W => rtext_any 6 W)
 have DN : Hid (∀ W, Calls Tryz.prog 39 #[.int .i64 6] W fun e w' => e = .returned (.bool true) ∧ W = w') := Lib.hid (fun W => rn_any 6 W)
 have DS : Hid (∀ W, Calls Tryz.prog 40 #[.int .i64 6] W fun e w' => e = .returned (.bool false) ∧ W = w') := Lib.hid (fun W => rspan_any 6 W)
 unfold RChk edV
 by_cases h1 : s.size = 0
 case neg =>
  have q1 := str_eq1 h1
  have q2 := str_ne1 h1
  have HV := Lib.hid (show chkE ⟨6, n, f, t, s⟩ = 2 from chkE_form (b := false) (by simp) (by simp [formE, h1]))
  clear h1
  go_enter Tryz.func10, Tryz.ntmps10
  go_wp2_with fail
  refine (DO.out _).mono ?_
  rintro e w1 ⟨rfl, rfl⟩
  go_wp2_with fail
  refine (DT.out _).mono ?_
  rintro e w1 ⟨rfl, rfl⟩
  go_wp2_with fail
  go_ret
  exact ⟨ret_int HV.out.symm, below_al w _⟩
 have q1 := str_eq0 h1
 have q2 := str_ne0 h1
 by_cases h2 : f = 0
 case neg =>
  have b2 := neT h2
  have HV := Lib.hid (show chkE ⟨6, n, f, t, s⟩ = 2 from chkE_form (b := false) (by simp) (by simp [formE, h2]))
  clear h1 h2
  go_enter Tryz.func10, Tryz.ntmps10
  go_wp2_with fail
  refine (DO.out _).mono ?_
  rintro e w1 ⟨rfl, rfl⟩
  go_wp2_with fail
  refine (DT.out _).mono ?_
  rintro e w1 ⟨rfl, rfl⟩
  go_wp2_with fail
  refine (DN.out _).mono ?_
  rintro e w1 ⟨rfl, rfl⟩
  go_wp2_with fail
  refine (DS.out _).mono ?_
  rintro e w1 ⟨rfl, rfl⟩
  go_wp2_with fail
  go_ret
  exact ⟨ret_int HV.out.symm, below_al w _⟩
 have b2 := neF h2
 by_cases h3 : t = 0
 case neg =>
  have b3 := neT h3
  have HV := Lib.hid (show chkE ⟨6, n, f, t, s⟩ = 2 from chkE_form (b := false) (by simp) (by simp [formE, h3]))
  clear h1 h2 h3
  go_enter Tryz.func10, Tryz.ntmps10
  go_wp2_with fail
  refine (DO.out _).mono ?_
  rintro e w1 ⟨rfl, rfl⟩
  go_wp2_with fail
  refine (DT.out _).mono ?_
  rintro e w1 ⟨rfl, rfl⟩
  go_wp2_with fail
  refine (DN.out _).mono ?_
  rintro e w1 ⟨rfl, rfl⟩
  go_wp2_with fail
  refine (DS.out _).mono ?_
  rintro e w1 ⟨rfl, rfl⟩
  go_wp2_with fail
  go_ret
  exact ⟨ret_int HV.out.symm, below_al w _⟩
 have b3 := neF h3
 have HV0 := Lib.hid (show chkE ⟨6, n, f, t, s⟩ = if inR n (loE 6) (hiE 6) = true then 0 else 9 from (chkE_form (b := true) (by simp) (by simp [formE, h1, h2, h3])).trans (by simp [fieldE, rngE, loE, hiE]))
 have DB := Lib.hid (fun W => rout_any n (loE 6) (hiE 6) W)
 have DL := Lib.hid (fun W => rbounds_any 6 W)
 clear h1 h2 h3
 generalize inR n (loE 6) (hiE 6) = b at *
 generalize loE 6 = lo at *
 generalize hiE 6 = hi at *
 cases b
 all_goals
  have HV := Lib.hid (HV0.out)
  go_enter Tryz.func10, Tryz.ntmps10
  go_wp2_with fail
  refine (DO.out _).mono ?_
  rintro e w1 ⟨rfl, rfl⟩
  go_wp2_with fail
  refine (DT.out _).mono ?_
  rintro e w1 ⟨rfl, rfl⟩
  go_wp2_with fail
  refine (DN.out _).mono ?_
  rintro e w1 ⟨rfl, rfl⟩
  go_wp2_with fail
  refine (DS.out _).mono ?_
  rintro e w1 ⟨rfl, rfl⟩
  go_wp2_with fail
  refine (DS.out _).mono ?_
  rintro e w1 ⟨rfl, rfl⟩
  go_wp2_with fail
  refine (DL.out _).mono ?_
  rintro e w1 ⟨rfl, rfl⟩
  go_wp2_with fail
  refine (DB.out _).mono ?_
  rintro e w1 ⟨rfl, rfl⟩
  go_wp2_with fail
  go_ret
  exact ⟨ret_int HV.out.symm, below_al w _⟩
set_option maxHeartbeats 4000000 in
theorem rcheck_7 (n f t : Int) (s : ByteArray) (w : World) (_ : s.size ≤ maxLen) : RChk ⟨7, n, f, t, s⟩ w := by
 have DO : Hid (∀ W, Calls Tryz.prog 37 #[.int .i64 7, .int .i64 1, .int .i64 12] W fun e w' => e = .returned (.bool false) ∧ W = w') := Lib.hid (fun W => rout_any 7 1 12 W)
 have DT : Hid (∀ W, Calls Tryz.prog 38 #[.int .i64 7] W fun e w' => e = .returned (.bool false) ∧ W = w') := Lib.hid (fun W => rtext_any 7 W)
 have DN : Hid (∀ W, Calls Tryz.prog 39 #[.int .i64 7] W fun e w' => e = .returned (.bool true) ∧ W = w') := Lib.hid (fun W => rn_any 7 W)
 have DS : Hid (∀ W, Calls Tryz.prog 40 #[.int .i64 7] W fun e w' => e = .returned (.bool false) ∧ W = w') := Lib.hid (fun W => rspan_any 7 W)
 unfold RChk edV
 by_cases h1 : s.size = 0
 case neg =>
  have q1 := str_eq1 h1
  have q2 := str_ne1 h1
  have HV := Lib.hid (show chkE ⟨7, n, f, t, s⟩ = 2 from chkE_form (b := false) (by simp) (by simp [formE, h1]))
  clear h1
  go_enter Tryz.func10, Tryz.ntmps10
  go_wp2_with fail
  refine (DO.out _).mono ?_
  rintro e w1 ⟨rfl, rfl⟩
  go_wp2_with fail
  refine (DT.out _).mono ?_
  rintro e w1 ⟨rfl, rfl⟩
  go_wp2_with fail
  go_ret
  exact ⟨ret_int HV.out.symm, below_al w _⟩
 have q1 := str_eq0 h1
 have q2 := str_ne0 h1
 by_cases h2 : f = 0
 case neg =>
  have b2 := neT h2
  have HV := Lib.hid (show chkE ⟨7, n, f, t, s⟩ = 2 from chkE_form (b := false) (by simp) (by simp [formE, h2]))
  clear h1 h2
  go_enter Tryz.func10, Tryz.ntmps10
  go_wp2_with fail
  refine (DO.out _).mono ?_
  rintro e w1 ⟨rfl, rfl⟩
  go_wp2_with fail
  refine (DT.out _).mono ?_
  rintro e w1 ⟨rfl, rfl⟩
  go_wp2_with fail
  refine (DN.out _).mono ?_
  rintro e w1 ⟨rfl, rfl⟩
  go_wp2_with fail
  refine (DS.out _).mono ?_
  rintro e w1 ⟨rfl, rfl⟩
  go_wp2_with fail
  go_ret
  exact ⟨ret_int HV.out.symm, below_al w _⟩
 have b2 := neF h2
 by_cases h3 : t = 0
 case neg =>
  have b3 := neT h3
  have HV := Lib.hid (show chkE ⟨7, n, f, t, s⟩ = 2 from chkE_form (b := false) (by simp) (by simp [formE, h3]))
  clear h1 h2 h3
  go_enter Tryz.func10, Tryz.ntmps10
  go_wp2_with fail
  refine (DO.out _).mono ?_
  rintro e w1 ⟨rfl, rfl⟩
  go_wp2_with fail
  refine (DT.out _).mono ?_
  rintro e w1 ⟨rfl, rfl⟩
  go_wp2_with fail
  refine (DN.out _).mono ?_
  rintro e w1 ⟨rfl, rfl⟩
  go_wp2_with fail
  refine (DS.out _).mono ?_
  rintro e w1 ⟨rfl, rfl⟩
  go_wp2_with fail
  go_ret
  exact ⟨ret_int HV.out.symm, below_al w _⟩
 have b3 := neF h3
 have HV0 := Lib.hid (show chkE ⟨7, n, f, t, s⟩ = if inR n (loE 7) (hiE 7) = true then 0 else 9 from (chkE_form (b := true) (by simp) (by simp [formE, h1, h2, h3])).trans (by simp [fieldE, rngE, loE, hiE]))
 have DB := Lib.hid (fun W => rout_any n (loE 7) (hiE 7) W)
 have DL := Lib.hid (fun W => rbounds_any 7 W)
 clear h1 h2 h3
 generalize inR n (loE 7) (hiE 7) = b at *
 generalize loE 7 = lo at *
 generalize hiE 7 = hi at *
 cases b
 all_goals
  have HV := Lib.hid (HV0.out)
  go_enter Tryz.func10, Tryz.ntmps10
  go_wp2_with fail
  refine (DO.out _).mono ?_
  rintro e w1 ⟨rfl, rfl⟩
  go_wp2_with fail
  refine (DT.out _).mono ?_
  rintro e w1 ⟨rfl, rfl⟩
  go_wp2_with fail
  refine (DN.out _).mono ?_
  rintro e w1 ⟨rfl, rfl⟩
  go_wp2_with fail
  refine (DS.out _).mono ?_
  rintro e w1 ⟨rfl, rfl⟩
  go_wp2_with fail
  refine (DS.out _).mono ?_
  rintro e w1 ⟨rfl, rfl⟩
  go_wp2_with fail
  refine (DL.out _).mono ?_
  rintro e w1 ⟨rfl, rfl⟩
  go_wp2_with fail
  refine (DB.out _).mono ?_
  rintro e w1 ⟨rfl, rfl⟩
  go_wp2_with fail
  go_ret
  exact ⟨ret_int HV.out.symm, below_al w _⟩
set_option maxHeartbeats 4000000 in
theorem rcheck_9 (n f t : Int) (s : ByteArray) (w : World) (_ : s.size ≤ maxLen) : RChk ⟨9, n, f, t, s⟩ w := by
 have DO : Hid (∀ W, Calls Tryz.prog 37 #[.int .i64 9, .int .i64 1, .int .i64 12] W fun e w' => e = .returned (.bool false) ∧ W = w') := Lib.hid (fun W => rout_any 9 1 12 W)
 have DT : Hid (∀ W, Calls Tryz.prog 38 #[.int .i64 9] W fun e w' => e = .returned (.bool false) ∧ W = w') := Lib.hid (fun W => rtext_any 9 W)
 have DN : Hid (∀ W, Calls Tryz.prog 39 #[.int .i64 9] W fun e w' => e = .returned (.bool true) ∧ W = w') := Lib.hid (fun W => rn_any 9 W)
 have DS : Hid (∀ W, Calls Tryz.prog 40 #[.int .i64 9] W fun e w' => e = .returned (.bool false) ∧ W = w') := Lib.hid (fun W => rspan_any 9 W)
 unfold RChk edV
 by_cases h1 : s.size = 0
 case neg =>
  have q1 := str_eq1 h1
  have q2 := str_ne1 h1
  have HV := Lib.hid (show chkE ⟨9, n, f, t, s⟩ = 2 from chkE_form (b := false) (by simp) (by simp [formE, h1]))
  clear h1
  go_enter Tryz.func10, Tryz.ntmps10
  go_wp2_with fail
  refine (DO.out _).mono ?_
  rintro e w1 ⟨rfl, rfl⟩
  go_wp2_with fail
  refine (DT.out _).mono ?_
  rintro e w1 ⟨rfl, rfl⟩
  go_wp2_with fail
  go_ret
  exact ⟨ret_int HV.out.symm, below_al w _⟩
 have q1 := str_eq0 h1
 have q2 := str_ne0 h1
 by_cases h2 : f = 0
 case neg =>
  have b2 := neT h2
  have HV := Lib.hid (show chkE ⟨9, n, f, t, s⟩ = 2 from chkE_form (b := false) (by simp) (by simp [formE, h2]))
  clear h1 h2
  go_enter Tryz.func10, Tryz.ntmps10
  go_wp2_with fail
  refine (DO.out _).mono ?_
  rintro e w1 ⟨rfl, rfl⟩
  go_wp2_with fail
  refine (DT.out _).mono ?_
  rintro e w1 ⟨rfl, rfl⟩
  go_wp2_with fail
  refine (DN.out _).mono ?_
  rintro e w1 ⟨rfl, rfl⟩
  go_wp2_with fail
  refine (DS.out _).mono ?_
  rintro e w1 ⟨rfl, rfl⟩
  go_wp2_with fail
  go_ret
  exact ⟨ret_int HV.out.symm, below_al w _⟩
 have b2 := neF h2
 by_cases h3 : t = 0
 case neg =>
  have b3 := neT h3
  have HV := Lib.hid (show chkE ⟨9, n, f, t, s⟩ = 2 from chkE_form (b := false) (by simp) (by simp [formE, h3]))
  clear h1 h2 h3
  go_enter Tryz.func10, Tryz.ntmps10
  go_wp2_with fail
  refine (DO.out _).mono ?_
  rintro e w1 ⟨rfl, rfl⟩
  go_wp2_with fail
  refine (DT.out _).mono ?_
  rintro e w1 ⟨rfl, rfl⟩
  go_wp2_with fail
  refine (DN.out _).mono ?_
  rintro e w1 ⟨rfl, rfl⟩
  go_wp2_with fail
  refine (DS.out _).mono ?_
  rintro e w1 ⟨rfl, rfl⟩
  go_wp2_with fail
  go_ret
  exact ⟨ret_int HV.out.symm, below_al w _⟩
 have b3 := neF h3
 have HV0 := Lib.hid (show chkE ⟨9, n, f, t, s⟩ = if inR n (loE 9) (hiE 9) = true then 0 else 9 from (chkE_form (b := true) (by simp) (by simp [formE, h1, h2, h3])).trans (by simp [fieldE, rngE, loE, hiE]))
 have DB := Lib.hid (fun W => rout_any n (loE 9) (hiE 9) W)
 have DL := Lib.hid (fun W => rbounds_any 9 W)
 clear h1 h2 h3
 generalize inR n (loE 9) (hiE 9) = b at *
 generalize loE 9 = lo at *
 generalize hiE 9 = hi at *
 cases b
 all_goals
  have HV := Lib.hid (HV0.out)
  go_enter Tryz.func10, Tryz.ntmps10
  go_wp2_with fail
  refine (DO.out _).mono ?_
  rintro e w1 ⟨rfl, rfl⟩
  go_wp2_with fail
  refine (DT.out _).mono ?_
  rintro e w1 ⟨rfl, rfl⟩
  go_wp2_with fail
  refine (DN.out _).mono ?_
  rintro e w1 ⟨rfl, rfl⟩
  go_wp2_with fail
  refine (DS.out _).mono ?_
  rintro e w1 ⟨rfl, rfl⟩
  go_wp2_with fail
  refine (DS.out _).mono ?_
  rintro e w1 ⟨rfl, rfl⟩
  go_wp2_with fail
  refine (DL.out _).mono ?_
  rintro e w1 ⟨rfl, rfl⟩
  go_wp2_with fail
  refine (DB.out _).mono ?_
  rintro e w1 ⟨rfl, rfl⟩
  go_wp2_with fail
  go_ret
  exact ⟨ret_int HV.out.symm, below_al w _⟩
set_option maxHeartbeats 4000000 in
theorem rcheck_10 (n f t : Int) (s : ByteArray) (w : World) (_ : s.size ≤ maxLen) : RChk ⟨10, n, f, t, s⟩ w := by
 have DO : Hid (∀ W, Calls Tryz.prog 37 #[.int .i64 10, .int .i64 1, .int .i64 12] W fun e w' => e = .returned (.bool false) ∧ W = w') := Lib.hid (fun W => rout_any 10 1 12 W)
 have DT : Hid (∀ W, Calls Tryz.prog 38 #[.int .i64 10] W fun e w' => e = .returned (.bool false) ∧ W = w') := Lib.hid (fun W => rtext_any 10 W)
 have DN : Hid (∀ W, Calls Tryz.prog 39 #[.int .i64 10] W fun e w' => e = .returned (.bool true) ∧ W = w') := Lib.hid (fun W => rn_any 10 W)
 have DS : Hid (∀ W, Calls Tryz.prog 40 #[.int .i64 10] W fun e w' => e = .returned (.bool false) ∧ W = w') := Lib.hid (fun W => rspan_any 10 W)
 unfold RChk edV
 by_cases h1 : s.size = 0
 case neg =>
  have q1 := str_eq1 h1
  have q2 := str_ne1 h1
  have HV := Lib.hid (show chkE ⟨10, n, f, t, s⟩ = 2 from chkE_form (b := false) (by simp) (by simp [formE, h1]))
  clear h1
  go_enter Tryz.func10, Tryz.ntmps10
  go_wp2_with fail
  refine (DO.out _).mono ?_
  rintro e w1 ⟨rfl, rfl⟩
  go_wp2_with fail
  refine (DT.out _).mono ?_
  rintro e w1 ⟨rfl, rfl⟩
  go_wp2_with fail
  go_ret
  exact ⟨ret_int HV.out.symm, below_al w _⟩
 have q1 := str_eq0 h1
 have q2 := str_ne0 h1
 by_cases h2 : f = 0
 case neg =>
  have b2 := neT h2
  have HV := Lib.hid (show chkE ⟨10, n, f, t, s⟩ = 2 from chkE_form (b := false) (by simp) (by simp [formE, h2]))
  clear h1 h2
  go_enter Tryz.func10, Tryz.ntmps10
  go_wp2_with fail
  refine (DO.out _).mono ?_
  rintro e w1 ⟨rfl, rfl⟩
  go_wp2_with fail
  refine (DT.out _).mono ?_
  rintro e w1 ⟨rfl, rfl⟩
  go_wp2_with fail
  refine (DN.out _).mono ?_
  rintro e w1 ⟨rfl, rfl⟩
  go_wp2_with fail
  refine (DS.out _).mono ?_
  rintro e w1 ⟨rfl, rfl⟩
  go_wp2_with fail
  go_ret
  exact ⟨ret_int HV.out.symm, below_al w _⟩
 have b2 := neF h2
 by_cases h3 : t = 0
 case neg =>
  have b3 := neT h3
  have HV := Lib.hid (show chkE ⟨10, n, f, t, s⟩ = 2 from chkE_form (b := false) (by simp) (by simp [formE, h3]))
  clear h1 h2 h3
  go_enter Tryz.func10, Tryz.ntmps10
  go_wp2_with fail
  refine (DO.out _).mono ?_
  rintro e w1 ⟨rfl, rfl⟩
  go_wp2_with fail
  refine (DT.out _).mono ?_
  rintro e w1 ⟨rfl, rfl⟩
  go_wp2_with fail
  refine (DN.out _).mono ?_
  rintro e w1 ⟨rfl, rfl⟩
  go_wp2_with fail
  refine (DS.out _).mono ?_
  rintro e w1 ⟨rfl, rfl⟩
  go_wp2_with fail
  go_ret
  exact ⟨ret_int HV.out.symm, below_al w _⟩
 have b3 := neF h3
 have HV0 := Lib.hid (show chkE ⟨10, n, f, t, s⟩ = if inR n (loE 10) (hiE 10) = true then 0 else 9 from (chkE_form (b := true) (by simp) (by simp [formE, h1, h2, h3])).trans (by simp [fieldE, rngE, loE, hiE]))
 have DB := Lib.hid (fun W => rout_any n (loE 10) (hiE 10) W)
 have DL := Lib.hid (fun W => rbounds_any 10 W)
 clear h1 h2 h3
 generalize inR n (loE 10) (hiE 10) = b at *
 generalize loE 10 = lo at *
 generalize hiE 10 = hi at *
 cases b
 all_goals
  have HV := Lib.hid (HV0.out)
  go_enter Tryz.func10, Tryz.ntmps10
  go_wp2_with fail
  refine (DO.out _).mono ?_
  rintro e w1 ⟨rfl, rfl⟩
  go_wp2_with fail
  refine (DT.out _).mono ?_
  rintro e w1 ⟨rfl, rfl⟩
  go_wp2_with fail
  refine (DN.out _).mono ?_
  rintro e w1 ⟨rfl, rfl⟩
  go_wp2_with fail
  refine (DS.out _).mono ?_
  rintro e w1 ⟨rfl, rfl⟩
  go_wp2_with fail
  refine (DS.out _).mono ?_
  rintro e w1 ⟨rfl, rfl⟩
  go_wp2_with fail
  refine (DL.out _).mono ?_
  rintro e w1 ⟨rfl, rfl⟩
  go_wp2_with fail
  refine (DB.out _).mono ?_
  rintro e w1 ⟨rfl, rfl⟩
  go_wp2_with fail
  go_ret
  exact ⟨ret_int HV.out.symm, below_al w _⟩
set_option maxHeartbeats 4000000 in
theorem rcheck_12 (n f t : Int) (s : ByteArray) (w : World) (_ : s.size ≤ maxLen) : RChk ⟨12, n, f, t, s⟩ w := by
 have DO : Hid (∀ W, Calls Tryz.prog 37 #[.int .i64 12, .int .i64 1, .int .i64 12] W fun e w' => e = .returned (.bool false) ∧ W = w') := Lib.hid (fun W => rout_any 12 1 12 W)
 have DT : Hid (∀ W, Calls Tryz.prog 38 #[.int .i64 12] W fun e w' => e = .returned (.bool false) ∧ W = w') := Lib.hid (fun W => rtext_any 12 W)
 have DN : Hid (∀ W, Calls Tryz.prog 39 #[.int .i64 12] W fun e w' => e = .returned (.bool true) ∧ W = w') := Lib.hid (fun W => rn_any 12 W)
 have DS : Hid (∀ W, Calls Tryz.prog 40 #[.int .i64 12] W fun e w' => e = .returned (.bool false) ∧ W = w') := Lib.hid (fun W => rspan_any 12 W)
 unfold RChk edV
 by_cases h1 : s.size = 0
 case neg =>
  have q1 := str_eq1 h1
  have q2 := str_ne1 h1
  have HV := Lib.hid (show chkE ⟨12, n, f, t, s⟩ = 2 from chkE_form (b := false) (by simp) (by simp [formE, h1]))
  clear h1
  go_enter Tryz.func10, Tryz.ntmps10
  go_wp2_with fail
  refine (DO.out _).mono ?_
  rintro e w1 ⟨rfl, rfl⟩
  go_wp2_with fail
  refine (DT.out _).mono ?_
  rintro e w1 ⟨rfl, rfl⟩
  go_wp2_with fail
  go_ret
  exact ⟨ret_int HV.out.symm, below_al w _⟩
 have q1 := str_eq0 h1
 have q2 := str_ne0 h1
 by_cases h2 : f = 0
 case neg =>
  have b2 := neT h2
  have HV := Lib.hid (show chkE ⟨12, n, f, t, s⟩ = 2 from chkE_form (b := false) (by simp) (by simp [formE, h2]))
  clear h1 h2
  go_enter Tryz.func10, Tryz.ntmps10
  go_wp2_with fail
  refine (DO.out _).mono ?_
  rintro e w1 ⟨rfl, rfl⟩
  go_wp2_with fail
  refine (DT.out _).mono ?_
  rintro e w1 ⟨rfl, rfl⟩
  go_wp2_with fail
  refine (DN.out _).mono ?_
  rintro e w1 ⟨rfl, rfl⟩
  go_wp2_with fail
  refine (DS.out _).mono ?_
  rintro e w1 ⟨rfl, rfl⟩
  go_wp2_with fail
  go_ret
  exact ⟨ret_int HV.out.symm, below_al w _⟩
 have b2 := neF h2
 by_cases h3 : t = 0
 case neg =>
  have b3 := neT h3
  have HV := Lib.hid (show chkE ⟨12, n, f, t, s⟩ = 2 from chkE_form (b := false) (by simp) (by simp [formE, h3]))
  clear h1 h2 h3
  go_enter Tryz.func10, Tryz.ntmps10
  go_wp2_with fail
  refine (DO.out _).mono ?_
  rintro e w1 ⟨rfl, rfl⟩
  go_wp2_with fail
  refine (DT.out _).mono ?_
  rintro e w1 ⟨rfl, rfl⟩
  go_wp2_with fail
  refine (DN.out _).mono ?_
  rintro e w1 ⟨rfl, rfl⟩
  go_wp2_with fail
  refine (DS.out _).mono ?_
  rintro e w1 ⟨rfl, rfl⟩
  go_wp2_with fail
  go_ret
  exact ⟨ret_int HV.out.symm, below_al w _⟩
 have b3 := neF h3
 have HV0 := Lib.hid (show chkE ⟨12, n, f, t, s⟩ = if inR n (loE 12) (hiE 12) = true then 0 else 9 from (chkE_form (b := true) (by simp) (by simp [formE, h1, h2, h3])).trans (by simp [fieldE, rngE, loE, hiE]))
 have DB := Lib.hid (fun W => rout_any n (loE 12) (hiE 12) W)
 have DL := Lib.hid (fun W => rbounds_any 12 W)
 clear h1 h2 h3
 generalize inR n (loE 12) (hiE 12) = b at *
 generalize loE 12 = lo at *
 generalize hiE 12 = hi at *
 cases b
 all_goals
  have HV := Lib.hid (HV0.out)
  go_enter Tryz.func10, Tryz.ntmps10
  go_wp2_with fail
  refine (DO.out _).mono ?_
  rintro e w1 ⟨rfl, rfl⟩
  go_wp2_with fail
  refine (DT.out _).mono ?_
  rintro e w1 ⟨rfl, rfl⟩
  go_wp2_with fail
  refine (DN.out _).mono ?_
  rintro e w1 ⟨rfl, rfl⟩
  go_wp2_with fail
  refine (DS.out _).mono ?_
  rintro e w1 ⟨rfl, rfl⟩
  go_wp2_with fail
  refine (DS.out _).mono ?_
  rintro e w1 ⟨rfl, rfl⟩
  go_wp2_with fail
  refine (DL.out _).mono ?_
  rintro e w1 ⟨rfl, rfl⟩
  go_wp2_with fail
  refine (DB.out _).mono ?_
  rintro e w1 ⟨rfl, rfl⟩
  go_wp2_with fail
  go_ret
  exact ⟨ret_int HV.out.symm, below_al w _⟩
set_option maxHeartbeats 4000000 in
theorem rcheck_1 (n f t : Int) (s : ByteArray) (w : World) (hs : s.size ≤ maxLen) : RChk ⟨1, n, f, t, s⟩ w := by
 have DO : Hid (∀ W, Calls Tryz.prog 37 #[.int .i64 1, .int .i64 1, .int .i64 12] W fun e w' => e = .returned (.bool false) ∧ W = w') := Lib.hid (fun W => rout_any 1 1 12 W)
 have DT : Hid (∀ W, Calls Tryz.prog 38 #[.int .i64 1] W fun e w' => e = .returned (.bool true) ∧ W = w') := Lib.hid (fun W => rtext_any 1 W)
 have DN : Hid (∀ W, Calls Tryz.prog 39 #[.int .i64 1] W fun e w' => e = .returned (.bool false) ∧ W = w') := Lib.hid (fun W => rn_any 1 W)
 have DS : Hid (∀ W, Calls Tryz.prog 40 #[.int .i64 1] W fun e w' => e = .returned (.bool false) ∧ W = w') := Lib.hid (fun W => rspan_any 1 W)
 unfold RChk edV
 by_cases h1 : n = 0
 case neg =>
  have b1 := neT h1
  have HV := Lib.hid (show chkE ⟨1, n, f, t, s⟩ = 2 from chkE_form (b := false) (by simp) (by simp [formE, h1]))
  clear h1
  go_enter Tryz.func10, Tryz.ntmps10
  go_wp2_with fail
  refine (DO.out _).mono ?_
  rintro e w1 ⟨rfl, rfl⟩
  go_wp2_with fail
  refine (DT.out _).mono ?_
  rintro e w1 ⟨rfl, rfl⟩
  go_wp2_with fail
  refine (DN.out _).mono ?_
  rintro e w1 ⟨rfl, rfl⟩
  go_wp2_with fail
  go_ret
  exact ⟨ret_int HV.out.symm, below_al w _⟩
 have b1 := neF h1
 by_cases h2 : f = 0
 case neg =>
  have b2 := neT h2
  have HV := Lib.hid (show chkE ⟨1, n, f, t, s⟩ = 2 from chkE_form (b := false) (by simp) (by simp [formE, h2]))
  clear h1 h2
  go_enter Tryz.func10, Tryz.ntmps10
  go_wp2_with fail
  refine (DO.out _).mono ?_
  rintro e w1 ⟨rfl, rfl⟩
  go_wp2_with fail
  refine (DT.out _).mono ?_
  rintro e w1 ⟨rfl, rfl⟩
  go_wp2_with fail
  refine (DN.out _).mono ?_
  rintro e w1 ⟨rfl, rfl⟩
  go_wp2_with fail
  refine (DS.out _).mono ?_
  rintro e w1 ⟨rfl, rfl⟩
  go_wp2_with fail
  go_ret
  exact ⟨ret_int HV.out.symm, below_al w _⟩
 have b2 := neF h2
 by_cases h3 : t = 0
 case neg =>
  have b3 := neT h3
  have HV := Lib.hid (show chkE ⟨1, n, f, t, s⟩ = 2 from chkE_form (b := false) (by simp) (by simp [formE, h3]))
  clear h1 h2 h3
  go_enter Tryz.func10, Tryz.ntmps10
  go_wp2_with fail
  refine (DO.out _).mono ?_
  rintro e w1 ⟨rfl, rfl⟩
  go_wp2_with fail
  refine (DT.out _).mono ?_
  rintro e w1 ⟨rfl, rfl⟩
  go_wp2_with fail
  refine (DN.out _).mono ?_
  rintro e w1 ⟨rfl, rfl⟩
  go_wp2_with fail
  refine (DS.out _).mono ?_
  rintro e w1 ⟨rfl, rfl⟩
  go_wp2_with fail
  go_ret
  exact ⟨ret_int HV.out.symm, below_al w _⟩
 have b3 := neF h3
 have HV0 := Lib.hid (show chkE ⟨1, n, f, t, s⟩ = if nameB s = true then 0 else 8 from (chkE_form (b := true) (by simp) (by simp [formE, h1, h2, h3])).trans (by simp [fieldE]))
 have DB := Lib.hid (fun W => risName_any s W hs)
 clear h1 h2 h3 hs
 generalize nameB s = b at *
 cases b
 all_goals
  have HV := Lib.hid (HV0.out)
  go_enter Tryz.func10, Tryz.ntmps10
  go_wp2_with fail
  refine (DO.out _).mono ?_
  rintro e w1 ⟨rfl, rfl⟩
  go_wp2_with fail
  refine (DT.out _).mono ?_
  rintro e w1 ⟨rfl, rfl⟩
  go_wp2_with fail
  refine (DN.out _).mono ?_
  rintro e w1 ⟨rfl, rfl⟩
  go_wp2_with fail
  refine (DS.out _).mono ?_
  rintro e w1 ⟨rfl, rfl⟩
  go_wp2_with fail
  refine (DB.out _).mono ?_
  rintro e w1 ⟨rfl, rfl⟩
  go_wp2_with fail
  go_ret
  exact ⟨ret_int HV.out.symm, below_al w _⟩
set_option maxHeartbeats 4000000 in
theorem rcheck_3 (n f t : Int) (s : ByteArray) (w : World) (hs : s.size ≤ maxLen) : RChk ⟨3, n, f, t, s⟩ w := by
 have DO : Hid (∀ W, Calls Tryz.prog 37 #[.int .i64 3, .int .i64 1, .int .i64 12] W fun e w' => e = .returned (.bool false) ∧ W = w') := Lib.hid (fun W => rout_any 3 1 12 W)
 have DT : Hid (∀ W, Calls Tryz.prog 38 #[.int .i64 3] W fun e w' => e = .returned (.bool true) ∧ W = w') := Lib.hid (fun W => rtext_any 3 W)
 have DN : Hid (∀ W, Calls Tryz.prog 39 #[.int .i64 3] W fun e w' => e = .returned (.bool false) ∧ W = w') := Lib.hid (fun W => rn_any 3 W)
 have DS : Hid (∀ W, Calls Tryz.prog 40 #[.int .i64 3] W fun e w' => e = .returned (.bool false) ∧ W = w') := Lib.hid (fun W => rspan_any 3 W)
 unfold RChk edV
 by_cases h1 : n = 0
 case neg =>
  have b1 := neT h1
  have HV := Lib.hid (show chkE ⟨3, n, f, t, s⟩ = 2 from chkE_form (b := false) (by simp) (by simp [formE, h1]))
  clear h1
  go_enter Tryz.func10, Tryz.ntmps10
  go_wp2_with fail
  refine (DO.out _).mono ?_
  rintro e w1 ⟨rfl, rfl⟩
  go_wp2_with fail
  refine (DT.out _).mono ?_
  rintro e w1 ⟨rfl, rfl⟩
  go_wp2_with fail
  refine (DN.out _).mono ?_
  rintro e w1 ⟨rfl, rfl⟩
  go_wp2_with fail
  go_ret
  exact ⟨ret_int HV.out.symm, below_al w _⟩
 have b1 := neF h1
 by_cases h2 : f = 0
 case neg =>
  have b2 := neT h2
  have HV := Lib.hid (show chkE ⟨3, n, f, t, s⟩ = 2 from chkE_form (b := false) (by simp) (by simp [formE, h2]))
  clear h1 h2
  go_enter Tryz.func10, Tryz.ntmps10
  go_wp2_with fail
  refine (DO.out _).mono ?_
  rintro e w1 ⟨rfl, rfl⟩
  go_wp2_with fail
  refine (DT.out _).mono ?_
  rintro e w1 ⟨rfl, rfl⟩
  go_wp2_with fail
  refine (DN.out _).mono ?_
  rintro e w1 ⟨rfl, rfl⟩
  go_wp2_with fail
  refine (DS.out _).mono ?_
  rintro e w1 ⟨rfl, rfl⟩
  go_wp2_with fail
  go_ret
  exact ⟨ret_int HV.out.symm, below_al w _⟩
 have b2 := neF h2
 by_cases h3 : t = 0
 case neg =>
  have b3 := neT h3
  have HV := Lib.hid (show chkE ⟨3, n, f, t, s⟩ = 2 from chkE_form (b := false) (by simp) (by simp [formE, h3]))
  clear h1 h2 h3
  go_enter Tryz.func10, Tryz.ntmps10
  go_wp2_with fail
  refine (DO.out _).mono ?_
  rintro e w1 ⟨rfl, rfl⟩
  go_wp2_with fail
  refine (DT.out _).mono ?_
  rintro e w1 ⟨rfl, rfl⟩
  go_wp2_with fail
  refine (DN.out _).mono ?_
  rintro e w1 ⟨rfl, rfl⟩
  go_wp2_with fail
  refine (DS.out _).mono ?_
  rintro e w1 ⟨rfl, rfl⟩
  go_wp2_with fail
  go_ret
  exact ⟨ret_int HV.out.symm, below_al w _⟩
 have b3 := neF h3
 have HV0 := Lib.hid (show chkE ⟨3, n, f, t, s⟩ = if nameB s = true then 0 else 8 from (chkE_form (b := true) (by simp) (by simp [formE, h1, h2, h3])).trans (by simp [fieldE]))
 have DB := Lib.hid (fun W => risName_any s W hs)
 clear h1 h2 h3 hs
 generalize nameB s = b at *
 cases b
 all_goals
  have HV := Lib.hid (HV0.out)
  go_enter Tryz.func10, Tryz.ntmps10
  go_wp2_with fail
  refine (DO.out _).mono ?_
  rintro e w1 ⟨rfl, rfl⟩
  go_wp2_with fail
  refine (DT.out _).mono ?_
  rintro e w1 ⟨rfl, rfl⟩
  go_wp2_with fail
  refine (DN.out _).mono ?_
  rintro e w1 ⟨rfl, rfl⟩
  go_wp2_with fail
  refine (DS.out _).mono ?_
  rintro e w1 ⟨rfl, rfl⟩
  go_wp2_with fail
  refine (DB.out _).mono ?_
  rintro e w1 ⟨rfl, rfl⟩
  go_wp2_with fail
  go_ret
  exact ⟨ret_int HV.out.symm, below_al w _⟩
set_option maxHeartbeats 4000000 in
theorem rcheck_4 (n f t : Int) (s : ByteArray) (w : World) (hs : s.size ≤ maxLen) : RChk ⟨4, n, f, t, s⟩ w := by
 have DO : Hid (∀ W, Calls Tryz.prog 37 #[.int .i64 4, .int .i64 1, .int .i64 12] W fun e w' => e = .returned (.bool false) ∧ W = w') := Lib.hid (fun W => rout_any 4 1 12 W)
 have DT : Hid (∀ W, Calls Tryz.prog 38 #[.int .i64 4] W fun e w' => e = .returned (.bool true) ∧ W = w') := Lib.hid (fun W => rtext_any 4 W)
 have DN : Hid (∀ W, Calls Tryz.prog 39 #[.int .i64 4] W fun e w' => e = .returned (.bool false) ∧ W = w') := Lib.hid (fun W => rn_any 4 W)
 have DS : Hid (∀ W, Calls Tryz.prog 40 #[.int .i64 4] W fun e w' => e = .returned (.bool false) ∧ W = w') := Lib.hid (fun W => rspan_any 4 W)
 unfold RChk edV
 by_cases h1 : n = 0
 case neg =>
  have b1 := neT h1
  have HV := Lib.hid (show chkE ⟨4, n, f, t, s⟩ = 2 from chkE_form (b := false) (by simp) (by simp [formE, h1]))
  clear h1
  go_enter Tryz.func10, Tryz.ntmps10
  go_wp2_with fail
  refine (DO.out _).mono ?_
  rintro e w1 ⟨rfl, rfl⟩
  go_wp2_with fail
  refine (DT.out _).mono ?_
  rintro e w1 ⟨rfl, rfl⟩
  go_wp2_with fail
  refine (DN.out _).mono ?_
  rintro e w1 ⟨rfl, rfl⟩
  go_wp2_with fail
  go_ret
  exact ⟨ret_int HV.out.symm, below_al w _⟩
 have b1 := neF h1
 by_cases h2 : f = 0
 case neg =>
  have b2 := neT h2
  have HV := Lib.hid (show chkE ⟨4, n, f, t, s⟩ = 2 from chkE_form (b := false) (by simp) (by simp [formE, h2]))
  clear h1 h2
  go_enter Tryz.func10, Tryz.ntmps10
  go_wp2_with fail
  refine (DO.out _).mono ?_
  rintro e w1 ⟨rfl, rfl⟩
  go_wp2_with fail
  refine (DT.out _).mono ?_
  rintro e w1 ⟨rfl, rfl⟩
  go_wp2_with fail
  refine (DN.out _).mono ?_
  rintro e w1 ⟨rfl, rfl⟩
  go_wp2_with fail
  refine (DS.out _).mono ?_
  rintro e w1 ⟨rfl, rfl⟩
  go_wp2_with fail
  go_ret
  exact ⟨ret_int HV.out.symm, below_al w _⟩
 have b2 := neF h2
 by_cases h3 : t = 0
 case neg =>
  have b3 := neT h3
  have HV := Lib.hid (show chkE ⟨4, n, f, t, s⟩ = 2 from chkE_form (b := false) (by simp) (by simp [formE, h3]))
  clear h1 h2 h3
  go_enter Tryz.func10, Tryz.ntmps10
  go_wp2_with fail
  refine (DO.out _).mono ?_
  rintro e w1 ⟨rfl, rfl⟩
  go_wp2_with fail
  refine (DT.out _).mono ?_
  rintro e w1 ⟨rfl, rfl⟩
  go_wp2_with fail
  refine (DN.out _).mono ?_
  rintro e w1 ⟨rfl, rfl⟩
  go_wp2_with fail
  refine (DS.out _).mono ?_
  rintro e w1 ⟨rfl, rfl⟩
  go_wp2_with fail
  go_ret
  exact ⟨ret_int HV.out.symm, below_al w _⟩
 have b3 := neF h3
 have HV0 := Lib.hid (show chkE ⟨4, n, f, t, s⟩ = if nameB s = true then 0 else 8 from (chkE_form (b := true) (by simp) (by simp [formE, h1, h2, h3])).trans (by simp [fieldE]))
 have DB := Lib.hid (fun W => risName_any s W hs)
 clear h1 h2 h3 hs
 generalize nameB s = b at *
 cases b
 all_goals
  have HV := Lib.hid (HV0.out)
  go_enter Tryz.func10, Tryz.ntmps10
  go_wp2_with fail
  refine (DO.out _).mono ?_
  rintro e w1 ⟨rfl, rfl⟩
  go_wp2_with fail
  refine (DT.out _).mono ?_
  rintro e w1 ⟨rfl, rfl⟩
  go_wp2_with fail
  refine (DN.out _).mono ?_
  rintro e w1 ⟨rfl, rfl⟩
  go_wp2_with fail
  refine (DS.out _).mono ?_
  rintro e w1 ⟨rfl, rfl⟩
  go_wp2_with fail
  refine (DB.out _).mono ?_
  rintro e w1 ⟨rfl, rfl⟩
  go_wp2_with fail
  go_ret
  exact ⟨ret_int HV.out.symm, below_al w _⟩
set_option maxHeartbeats 4000000 in
theorem rcheck_8 (n f t : Int) (s : ByteArray) (w : World) (_ : s.size ≤ maxLen) : RChk ⟨8, n, f, t, s⟩ w := by
 have DO : Hid (∀ W, Calls Tryz.prog 37 #[.int .i64 8, .int .i64 1, .int .i64 12] W fun e w' => e = .returned (.bool false) ∧ W = w') := Lib.hid (fun W => rout_any 8 1 12 W)
 have DT : Hid (∀ W, Calls Tryz.prog 38 #[.int .i64 8] W fun e w' => e = .returned (.bool false) ∧ W = w') := Lib.hid (fun W => rtext_any 8 W)
 have DN : Hid (∀ W, Calls Tryz.prog 39 #[.int .i64 8] W fun e w' => e = .returned (.bool false) ∧ W = w') := Lib.hid (fun W => rn_any 8 W)
 have DS : Hid (∀ W, Calls Tryz.prog 40 #[.int .i64 8] W fun e w' => e = .returned (.bool true) ∧ W = w') := Lib.hid (fun W => rspan_any 8 W)
 unfold RChk edV
 by_cases h0 : s.size = 0
 case neg =>
  have q1 := str_eq1 h0
  have q2 := str_ne1 h0
  have HV := Lib.hid (show chkE ⟨8, n, f, t, s⟩ = 2 from chkE_form (b := false) (by simp) (by simp [formE, h0]))
  clear h0
  go_enter Tryz.func10, Tryz.ntmps10
  go_wp2_with fail
  refine (DO.out _).mono ?_
  rintro e w1 ⟨rfl, rfl⟩
  go_wp2_with fail
  refine (DT.out _).mono ?_
  rintro e w1 ⟨rfl, rfl⟩
  go_wp2_with fail
  go_ret
  exact ⟨ret_int HV.out.symm, below_al w _⟩
 have HZ := Lib.hid h0
 have q1 := str_eq0 h0
 have q2 := str_ne0 h0
 by_cases h1 : n = 0
 case neg =>
  have b1 := neT h1
  have HV := Lib.hid (show chkE ⟨8, n, f, t, s⟩ = 2 from chkE_form (b := false) (by simp) (by simp [formE, h1]))
  clear h0 h1
  go_enter Tryz.func10, Tryz.ntmps10
  go_wp2_with fail
  refine (DO.out _).mono ?_
  rintro e w1 ⟨rfl, rfl⟩
  go_wp2_with fail
  refine (DT.out _).mono ?_
  rintro e w1 ⟨rfl, rfl⟩
  go_wp2_with fail
  refine (DN.out _).mono ?_
  rintro e w1 ⟨rfl, rfl⟩
  go_wp2_with fail
  go_ret
  exact ⟨ret_int HV.out.symm, below_al w _⟩
 have b1 := neF h1
 have HV0 := Lib.hid (show chkE ⟨8, n, f, t, s⟩ = fieldE ⟨8, n, f, t, s⟩ from (chkE_form (b := true) (by simp) (by simp [formE, h0, h1])))
 clear h1 h0 
 by_cases g0 : f < 0
 case pos =>
  have d0 : decide (f < 0) = true := decide_eq_true g0
  have HV := Lib.hid (show chkE ⟨8, n, f, t, s⟩ = 9 by
   rw [HV0.out]
   unfold fieldE
   rw [if_neg (by simp), if_neg (by simp), if_neg (by simp), if_neg (by simp), if_neg (by simp), if_neg (by simp), if_neg (by simp), if_neg (by simp), if_pos (by simp only; omega)])
  clear g0 HV0
  go_enter Tryz.func10, Tryz.ntmps10
  go_wp2_with fail
  refine (DO.out _).mono ?_
  rintro e w1 ⟨rfl, rfl⟩
  go_wp2_with fail
  refine (DT.out _).mono ?_
  rintro e w1 ⟨rfl, rfl⟩
  go_wp2_with fail
  refine (DN.out _).mono ?_
  rintro e w1 ⟨rfl, rfl⟩
  go_wp2_with fail
  refine (DS.out _).mono ?_
  rintro e w1 ⟨rfl, rfl⟩
  go_wp2_with fail
  refine (DS.out _).mono ?_
  rintro e w1 ⟨rfl, rfl⟩
  go_wp2_with fail
  go_ret
  exact ⟨ret_int HV.out.symm, below_al w _⟩
 have d0 : decide (f < 0) = false := decide_eq_false g0
 by_cases g1 : t ≤ f
 case pos =>
  have d1 : decide (t ≤ f) = true := decide_eq_true g1
  have HV := Lib.hid (show chkE ⟨8, n, f, t, s⟩ = 9 by
   rw [HV0.out]
   unfold fieldE
   rw [if_neg (by simp), if_neg (by simp), if_neg (by simp), if_neg (by simp), if_neg (by simp), if_neg (by simp), if_neg (by simp), if_neg (by simp), if_pos (by simp only; omega)])
  clear g0 g1 HV0
  go_enter Tryz.func10, Tryz.ntmps10
  go_wp2_with fail
  refine (DO.out _).mono ?_
  rintro e w1 ⟨rfl, rfl⟩
  go_wp2_with fail
  refine (DT.out _).mono ?_
  rintro e w1 ⟨rfl, rfl⟩
  go_wp2_with fail
  refine (DN.out _).mono ?_
  rintro e w1 ⟨rfl, rfl⟩
  go_wp2_with fail
  refine (DS.out _).mono ?_
  rintro e w1 ⟨rfl, rfl⟩
  go_wp2_with fail
  refine (DS.out _).mono ?_
  rintro e w1 ⟨rfl, rfl⟩
  go_wp2_with fail
  go_ret
  exact ⟨ret_int HV.out.symm, below_al w _⟩
 have d1 : decide (t ≤ f) = false := decide_eq_false g1
 by_cases g2 : 1000000 < t
 case pos =>
  have d2 : decide ((1000000 : Int) < t) = true := decide_eq_true g2
  have HV := Lib.hid (show chkE ⟨8, n, f, t, s⟩ = 9 by
   rw [HV0.out]
   unfold fieldE
   rw [if_neg (by simp), if_neg (by simp), if_neg (by simp), if_neg (by simp), if_neg (by simp), if_neg (by simp), if_neg (by simp), if_neg (by simp), if_pos (by simp only; omega)])
  clear g0 g1 g2 HV0
  go_enter Tryz.func10, Tryz.ntmps10
  go_wp2_with fail
  refine (DO.out _).mono ?_
  rintro e w1 ⟨rfl, rfl⟩
  go_wp2_with fail
  refine (DT.out _).mono ?_
  rintro e w1 ⟨rfl, rfl⟩
  go_wp2_with fail
  refine (DN.out _).mono ?_
  rintro e w1 ⟨rfl, rfl⟩
  go_wp2_with fail
  refine (DS.out _).mono ?_
  rintro e w1 ⟨rfl, rfl⟩
  go_wp2_with fail
  refine (DS.out _).mono ?_
  rintro e w1 ⟨rfl, rfl⟩
  go_wp2_with fail
  go_ret
  exact ⟨ret_int HV.out.symm, below_al w _⟩
 have d2 : decide ((1000000 : Int) < t) = false := decide_eq_false g2
 have HV1 := Lib.hid (show chkE ⟨8, n, f, t, s⟩ = if titleB s = true then 0 else 8 by
  rw [HV0.out]
  unfold fieldE
  rw [if_neg (by simp), if_neg (by simp), if_neg (by simp), if_neg (by simp), if_neg (by simp), if_neg (by simp), if_neg (by simp), if_neg (by simp), if_neg (by simp only; omega)])
 have HV := Lib.hid (HV1.out.trans (if_pos (show titleB s = true by
  cases s with
  | mk d =>
   have : d = #[] := Array.eq_empty_of_size_eq_zero HZ.out
   rw [this]
   rfl)))
 clear g0 g1 g2 HV0 HV1
 go_enter Tryz.func10, Tryz.ntmps10
 go_wp2_with fail
 refine (DO.out _).mono ?_
 rintro e w1 ⟨rfl, rfl⟩
 go_wp2_with fail
 refine (DT.out _).mono ?_
 rintro e w1 ⟨rfl, rfl⟩
 go_wp2_with fail
 refine (DN.out _).mono ?_
 rintro e w1 ⟨rfl, rfl⟩
 go_wp2_with fail
 refine (DS.out _).mono ?_
 rintro e w1 ⟨rfl, rfl⟩
 go_wp2_with fail
 refine (DS.out _).mono ?_
 rintro e w1 ⟨rfl, rfl⟩
 go_wp2_with fail
 go_ret
 exact ⟨ret_int HV.out.symm, below_al w _⟩
set_option maxHeartbeats 4000000 in
theorem rcheck_11 (n f t : Int) (s : ByteArray) (w : World) (hs : s.size ≤ maxLen) : RChk ⟨11, n, f, t, s⟩ w := by
 have DO : Hid (∀ W, Calls Tryz.prog 37 #[.int .i64 11, .int .i64 1, .int .i64 12] W fun e w' => e = .returned (.bool false) ∧ W = w') := Lib.hid (fun W => rout_any 11 1 12 W)
 have DT : Hid (∀ W, Calls Tryz.prog 38 #[.int .i64 11] W fun e w' => e = .returned (.bool true) ∧ W = w') := Lib.hid (fun W => rtext_any 11 W)
 have DN : Hid (∀ W, Calls Tryz.prog 39 #[.int .i64 11] W fun e w' => e = .returned (.bool false) ∧ W = w') := Lib.hid (fun W => rn_any 11 W)
 have DS : Hid (∀ W, Calls Tryz.prog 40 #[.int .i64 11] W fun e w' => e = .returned (.bool true) ∧ W = w') := Lib.hid (fun W => rspan_any 11 W)
 unfold RChk edV
 by_cases h1 : n = 0
 case neg =>
  have b1 := neT h1
  have HV := Lib.hid (show chkE ⟨11, n, f, t, s⟩ = 2 from chkE_form (b := false) (by simp) (by simp [formE, h1]))
  clear h1
  go_enter Tryz.func10, Tryz.ntmps10
  go_wp2_with fail
  refine (DO.out _).mono ?_
  rintro e w1 ⟨rfl, rfl⟩
  go_wp2_with fail
  refine (DT.out _).mono ?_
  rintro e w1 ⟨rfl, rfl⟩
  go_wp2_with fail
  refine (DN.out _).mono ?_
  rintro e w1 ⟨rfl, rfl⟩
  go_wp2_with fail
  go_ret
  exact ⟨ret_int HV.out.symm, below_al w _⟩
 have b1 := neF h1
 have HV0 := Lib.hid (show chkE ⟨11, n, f, t, s⟩ = fieldE ⟨11, n, f, t, s⟩ from (chkE_form (b := true) (by simp) (by simp [formE, h1])))
 clear h1 
 by_cases g0 : f < 0
 case pos =>
  have d0 : decide (f < 0) = true := decide_eq_true g0
  have HV := Lib.hid (show chkE ⟨11, n, f, t, s⟩ = 9 by
   rw [HV0.out]
   unfold fieldE
   rw [if_neg (by simp), if_neg (by simp), if_neg (by simp), if_neg (by simp), if_neg (by simp), if_neg (by simp), if_neg (by simp), if_neg (by simp), if_pos (by simp only; omega)])
  clear g0 HV0
  go_enter Tryz.func10, Tryz.ntmps10
  go_wp2_with fail
  refine (DO.out _).mono ?_
  rintro e w1 ⟨rfl, rfl⟩
  go_wp2_with fail
  refine (DT.out _).mono ?_
  rintro e w1 ⟨rfl, rfl⟩
  go_wp2_with fail
  refine (DN.out _).mono ?_
  rintro e w1 ⟨rfl, rfl⟩
  go_wp2_with fail
  refine (DS.out _).mono ?_
  rintro e w1 ⟨rfl, rfl⟩
  go_wp2_with fail
  refine (DS.out _).mono ?_
  rintro e w1 ⟨rfl, rfl⟩
  go_wp2_with fail
  go_ret
  exact ⟨ret_int HV.out.symm, below_al w _⟩
 have d0 : decide (f < 0) = false := decide_eq_false g0
 by_cases g1 : t ≤ f
 case pos =>
  have d1 : decide (t ≤ f) = true := decide_eq_true g1
  have HV := Lib.hid (show chkE ⟨11, n, f, t, s⟩ = 9 by
   rw [HV0.out]
   unfold fieldE
   rw [if_neg (by simp), if_neg (by simp), if_neg (by simp), if_neg (by simp), if_neg (by simp), if_neg (by simp), if_neg (by simp), if_neg (by simp), if_pos (by simp only; omega)])
  clear g0 g1 HV0
  go_enter Tryz.func10, Tryz.ntmps10
  go_wp2_with fail
  refine (DO.out _).mono ?_
  rintro e w1 ⟨rfl, rfl⟩
  go_wp2_with fail
  refine (DT.out _).mono ?_
  rintro e w1 ⟨rfl, rfl⟩
  go_wp2_with fail
  refine (DN.out _).mono ?_
  rintro e w1 ⟨rfl, rfl⟩
  go_wp2_with fail
  refine (DS.out _).mono ?_
  rintro e w1 ⟨rfl, rfl⟩
  go_wp2_with fail
  refine (DS.out _).mono ?_
  rintro e w1 ⟨rfl, rfl⟩
  go_wp2_with fail
  go_ret
  exact ⟨ret_int HV.out.symm, below_al w _⟩
 have d1 : decide (t ≤ f) = false := decide_eq_false g1
 by_cases g2 : 1000000 < t
 case pos =>
  have d2 : decide ((1000000 : Int) < t) = true := decide_eq_true g2
  have HV := Lib.hid (show chkE ⟨11, n, f, t, s⟩ = 9 by
   rw [HV0.out]
   unfold fieldE
   rw [if_neg (by simp), if_neg (by simp), if_neg (by simp), if_neg (by simp), if_neg (by simp), if_neg (by simp), if_neg (by simp), if_neg (by simp), if_pos (by simp only; omega)])
  clear g0 g1 g2 HV0
  go_enter Tryz.func10, Tryz.ntmps10
  go_wp2_with fail
  refine (DO.out _).mono ?_
  rintro e w1 ⟨rfl, rfl⟩
  go_wp2_with fail
  refine (DT.out _).mono ?_
  rintro e w1 ⟨rfl, rfl⟩
  go_wp2_with fail
  refine (DN.out _).mono ?_
  rintro e w1 ⟨rfl, rfl⟩
  go_wp2_with fail
  refine (DS.out _).mono ?_
  rintro e w1 ⟨rfl, rfl⟩
  go_wp2_with fail
  refine (DS.out _).mono ?_
  rintro e w1 ⟨rfl, rfl⟩
  go_wp2_with fail
  go_ret
  exact ⟨ret_int HV.out.symm, below_al w _⟩
 have d2 : decide ((1000000 : Int) < t) = false := decide_eq_false g2
 have HV1 := Lib.hid (show chkE ⟨11, n, f, t, s⟩ = if titleB s = true then 0 else 8 by
  rw [HV0.out]
  unfold fieldE
  rw [if_neg (by simp), if_neg (by simp), if_neg (by simp), if_neg (by simp), if_neg (by simp), if_neg (by simp), if_neg (by simp), if_neg (by simp), if_neg (by simp only; omega)])
 have DB := Lib.hid (fun W => rlap_any s W hs)
 clear g0 g1 g2 HV0 hs
 generalize titleB s = b at *
 cases b
 all_goals
  have HV := Lib.hid (HV1.out)
  go_enter Tryz.func10, Tryz.ntmps10
  go_wp2_with fail
  refine (DO.out _).mono ?_
  rintro e w1 ⟨rfl, rfl⟩
  go_wp2_with fail
  refine (DT.out _).mono ?_
  rintro e w1 ⟨rfl, rfl⟩
  go_wp2_with fail
  refine (DN.out _).mono ?_
  rintro e w1 ⟨rfl, rfl⟩
  go_wp2_with fail
  refine (DS.out _).mono ?_
  rintro e w1 ⟨rfl, rfl⟩
  go_wp2_with fail
  refine (DS.out _).mono ?_
  rintro e w1 ⟨rfl, rfl⟩
  go_wp2_with fail
  refine (DB.out _).mono ?_
  rintro e w1 ⟨rfl, rfl⟩
  go_wp2_with fail
  go_ret
  exact ⟨ret_int HV.out.symm, below_al w _⟩
set_option maxHeartbeats 4000000 in
theorem rcheck_any (x : Ed) (w : World) (hs : x.s.size ≤ maxLen) : RChk x w := by
 obtain ⟨k, n, f, t, s⟩ := x
 rcases kinds k with rfl | rfl | rfl | rfl | rfl | rfl | rfl | rfl | rfl | rfl | rfl | rfl | h | h
 · exact rcheck_1 n f t s w hs
 · exact rcheck_2 n f t s w hs
 · exact rcheck_3 n f t s w hs
 · exact rcheck_4 n f t s w hs
 · exact rcheck_5 n f t s w hs
 · exact rcheck_6 n f t s w hs
 · exact rcheck_7 n f t s w hs
 · exact rcheck_8 n f t s w hs
 · exact rcheck_9 n f t s w hs
 · exact rcheck_10 n f t s w hs
 · exact rcheck_11 n f t s w hs
 · exact rcheck_12 n f t s w hs
 all_goals
  have HV := Lib.hid (show chkE ⟨k, n, f, t, s⟩ = 7 by
   unfold chkE
   rw [if_pos (by simp only; omega)])
  have DO : Hid (∀ W, Calls Tryz.prog 37 #[.int .i64 k, .int .i64 1, .int .i64 12] W fun e w' => e = .returned (.bool true) ∧ W = w') := Lib.hid (fun W => by
   have := rout_any k 1 12 W
   rwa [show (!inR k 1 12) = true by simp [inR]; omega] at this)
  unfold RChk edV
  clear h hs
  go_enter Tryz.func10, Tryz.ntmps10
  go_wp2_with fail
  refine (DO.out _).mono ?_
  rintro e w1 ⟨rfl, rfl⟩
  go_wp2_with fail
  go_ret
  exact ⟨ret_int HV.out.symm, below_al w _⟩
end Go.Proofs.YtjnfccphodjfiaaGreat

/- A text of this claim. -/
namespace Go.Proofs.YtjnfccphodjfiaaGreat
open Go.RowKit Go.BigFrame
open Tr (inR Ed)
def GenR (Z : Acv) (er : Int) (lo : Nat) (w : World) (e : Ending) (w' : World) : Prop :=
 Below w.heap.size w w' ∧ ∃ (nm : ByteArray) (sp st : Int) (ma mb mc : Option Addr) (na nb nc mca mcb mcc : Nat), e = .returned (.tuple #[.agg #[.string nm, .int .i64 sp, .int .i64 st, .slice ma na mca, .slice mb nb mcb, .slice mc nc mcc], .int .i64 er]) ∧
  ∃ Y : Acv, actV Y ma mb mc mca mcb mcc = .agg #[.string nm, .int .i64 sp, .int .i64 st, .slice ma na mca, .slice mb nb mcb, .slice mc nc mcc] ∧ (er = 0 → Y = Z ∧ ActIn w' Y ma mb mc ∧ ∀ q, (ma = some q ∨ mb = some q ∨ mc = some q) → lo ≤ q.block)
theorem LvRet.gen {Z : Acv} {w : World} {e : Ending} {w' : World} {lo : Nat} (h : LvRet Z w e w') (hl : lo ≤ w.heap.size) : GenR Z 0 lo w e w' := by
 obtain ⟨hb, a, b, c, ca, cb, cc, rfl, hi, hf⟩ := h
 exact ⟨hb, _, _, _, a, b, c, _, _, _, ca, cb, cc, rfl, Z, rfl, fun _ => ⟨rfl, hi, fun q hq => by have := hf q hq; omega⟩⟩
theorem CutRet.gen {A : Acv} {f t : Int} {w : World} {e : Ending} {w' : World} {lo : Nat} (h : CutRet A f t w e w') (hl : lo ≤ w.heap.size) : GenR (partA A (cutL A.sm f t) f) (cutE A f t) lo w e w' := by
 rcases h with ⟨hok, hb, er, her, h⟩ | ⟨_, hne, rfl, hb⟩
 · rw [(cutE_ok hok).trans her]
   rcases h with ⟨hne, rfl⟩ | ⟨rfl, ma, mb, mc, mca, mcb, mcc, rfl, hin, hfr⟩
   · exact ⟨hb, _, _, _, none, none, none, _, _, _, _, _, _, rfl, Az, rfl, fun h => absurd h hne⟩
   · exact ⟨hb, _, _, _, ma, mb, mc, _, _, _, mca, mcb, mcc, rfl, _, rfl, fun _ => ⟨rfl, hin, fun q hq => by have := hfr q hq; omega⟩⟩
 · exact ⟨hb, _, _, _, none, none, none, _, _, _, _, _, _, rfl, Az, rfl, fun h => absurd h hne⟩
set_option maxHeartbeats 4000000 in
set_option maxRecDepth 100000 in
theorem done_8 (n f t : Int) (s : ByteArray) (A : Acv) (a b c : Option Addr) (ca cb cc : Nat) (w : World) (hI : ActIn w A a b c) (oA : AcOk A) :
 Calls Tryz.prog 36 #[actV A a b c ca cb cc, edV ⟨8, n, f, t, s⟩] w fun e w' => DoR A ⟨8, n, f, t, s⟩ w.heap.size w e w' := by
 obtain ⟨V0, hV0, hb0, hs0, ha0⟩ := alloc_ac w A.name A.sport A.start (.slice a A.sm.length ca) (.slice b A.lp.length cb) (.slice c A.tg.length cc)
 obtain ⟨V1, hV1, hb1, hs1, hl1⟩ := alloc_cells V0 #[.int .i64 8, .int .i64 n, .int .i64 f, .int .i64 t, .string s] 28
 obtain ⟨V2, hV2, hb2, hs2, ha2⟩ := alloc_ac V1 ⟨#[]⟩ 0 0 (.slice none 0 0) (.slice none 0 0) (.slice none 0 0)
 have hs11 : V1.heap.size = w.heap.size + 2 := by omega
 rw [hs0] at hl1
 rw [hs11] at ha2
 have hA0 := (ha0.below hb1).below hb2
 have HB := Lib.hid (below_step (below_step hb0 hb1) hb2)
 have HSZ := Lib.hid (show V2.heap.size = w.heap.size + 3 from by omega)
 have HIA := Lib.hid (hI.below HB.out)
 have HA0 := Lib.hid hA0
 have HA2 := Lib.hid ha2
 have HOA := Lib.hid oA
 have HTX := Lib.hid hI.text
 have x0 := below_cell hb2 (hl1 0 _ rfl)
 have x1 := below_cell hb2 (hl1 1 _ rfl)
 have x2 := below_cell hb2 (hl1 2 _ rfl)
 have x3 := below_cell hb2 (hl1 3 _ rfl)
 have x4 := below_cell hb2 (hl1 4 _ rfl)
 obtain ⟨z0, z1, z2, z3, z4, z5⟩ := hA0.cell
 have fr := hA0.free
 have DL := Lib.hid ((rcut_any A a b c ca cb cc f t V2 HIA.out oA).mono fun e w' h => h.gen (lo := w.heap.size + 3) (by omega))
 have HEQ := Lib.hid (show appE A ⟨8, n, f, t, s⟩ = cutE A f t ∧ appZ A ⟨8, n, f, t, s⟩ = partA A (cutL A.sm f t) f from ⟨appE_8 rfl, appZ_8 rfl⟩)
 rw [← HEQ.out.2] at DL
 clear hI oA hb0 hb1 hb2 ha0 ha2 hl1 hA0 hs1 hs2
 unfold actV at DL
 unfold DoR
 unfold actV
 unfold edV
 go_enter Tryz.func36, Tryz.ntmps36
 go_upto_region 1 with (fail)
 clear hV0 hV1 hV2 hs0 hs11
 go_upto_region 3 with (fail)
 go_wp2_with fail
 refine (DL.out).mono ?_
 rintro e w6 ⟨hb6, nm, sp', st', ma, mb, mc, na, nb, nc, mca, mcb, mcc, rfl, Y, hy, hgd⟩
 have HB6 := Lib.hid hb6
 have HY := Lib.hid (show (.agg #[.string Y.name, .int .i64 Y.sport, .int .i64 Y.start, .slice ma Y.sm.length mca, .slice mb Y.lp.length mcb, .slice mc Y.tg.length mcc] : Value) = .agg #[.string nm, .int .i64 sp', .int .i64 st', .slice ma na mca, .slice mb nb mcb, .slice mc nc mcc] from hy)
 have HGD := Lib.hid (show appE A _ = 0 → _ from fun h0 => hgd (HEQ.out.1.symm.trans h0))
 obtain ⟨er, her⟩ : ∃ z, cutE A f t = z := ⟨_, rfl⟩
 have HER := Lib.hid (HEQ.out.1.trans her)
 rw [her]
 clear hb6 hy hgd DL x0 x1 x2 x3 x4 z0 z1 z2 z3 z4 z5 fr
 have hR := HA2.out.below (HB6.out)
 obtain ⟨r0, r1, r2, r3, r4, r5⟩ := hR.cell
 have fr2 := hR.free
 obtain ⟨WF, hWF, haF, hkF⟩ := hR.store nm sp' st' (.slice ma na mca) (.slice mb nb mcb) (.slice mc nc mcc)
 have HAF := Lib.hid haF
 have HKF := Lib.hid (hkF (fun q => q = w.heap.size + 2) rfl)
 have HBF := Lib.hid (show Below w.heap.size w WF from by
  have h1 := below_step HB.out HB6.out
  exact Kept.below h1 HKF.out h1.size (fun k hk e => by omega))
 clear haF hkF hR
 go_wp2_with fail
 have q := HAF.out.cell
 refine bodyPost_ret (v := .tuple #[.agg #[.string nm, .int .i64 sp', .int .i64 st', .slice ma na mca, .slice mb nb mcb, .slice mc nc mcc], .int .i64 er]) (by simp [results, Tryz.results36, go_sem, q]) rfl ⟨HBF.out, Y, ma, mb, mc, mca, mcb, mcc, by rw [HER.out, HY.out], fun h0 => ?_⟩
 obtain ⟨e1, e2, e3⟩ := HGD.out (h0)
 exact ⟨e1, e2.kept HKF.out (fun g hg e => by have := e3 g hg; omega), fun g hg => by have := e3 g hg; omega⟩
set_option maxHeartbeats 4000000 in
set_option maxRecDepth 100000 in
theorem done_9 (n f t : Int) (s : ByteArray) (A : Acv) (a b c : Option Addr) (ca cb cc : Nat) (w : World) (hI : ActIn w A a b c) (oA : AcOk A) (hn : 0 ≤ n ∧ n ≤ 50) :
 Calls Tryz.prog 36 #[actV A a b c ca cb cc, edV ⟨9, n, f, t, s⟩] w fun e w' => DoR A ⟨9, n, f, t, s⟩ w.heap.size w e w' := by
 obtain ⟨V0, hV0, hb0, hs0, ha0⟩ := alloc_ac w A.name A.sport A.start (.slice a A.sm.length ca) (.slice b A.lp.length cb) (.slice c A.tg.length cc)
 obtain ⟨V1, hV1, hb1, hs1, hl1⟩ := alloc_cells V0 #[.int .i64 9, .int .i64 n, .int .i64 f, .int .i64 t, .string s] 28
 obtain ⟨V2, hV2, hb2, hs2, ha2⟩ := alloc_ac V1 ⟨#[]⟩ 0 0 (.slice none 0 0) (.slice none 0 0) (.slice none 0 0)
 have hs11 : V1.heap.size = w.heap.size + 2 := by omega
 rw [hs0] at hl1
 rw [hs11] at ha2
 have hA0 := (ha0.below hb1).below hb2
 have HB := Lib.hid (below_step (below_step hb0 hb1) hb2)
 have HSZ := Lib.hid (show V2.heap.size = w.heap.size + 3 from by omega)
 have HIA := Lib.hid (hI.below HB.out)
 have HA0 := Lib.hid hA0
 have HA2 := Lib.hid ha2
 have HOA := Lib.hid oA
 have HTX := Lib.hid hI.text
 have x0 := below_cell hb2 (hl1 0 _ rfl)
 have x1 := below_cell hb2 (hl1 1 _ rfl)
 have x2 := below_cell hb2 (hl1 2 _ rfl)
 have x3 := below_cell hb2 (hl1 3 _ rfl)
 have x4 := below_cell hb2 (hl1 4 _ rfl)
 obtain ⟨z0, z1, z2, z3, z4, z5⟩ := hA0.cell
 have fr := hA0.free
 obtain ⟨nn, rfl⟩ : ∃ nn : Nat, n = (nn : Int) := ⟨n.toNat, by omega⟩
 have DL := Lib.hid ((rlevel_any A a b c ca cb cc nn V2 HIA.out oA (by omega)).mono fun e w' h => h.gen (lo := w.heap.size + 3) (by omega))
 have HEQ := Lib.hid (show appE A ⟨9, (nn : Int), f, t, s⟩ = 0 ∧ appZ A ⟨9, (nn : Int), f, t, s⟩ = { A with sm := levelS A.sm nn } from ⟨appE_9 rfl, by rw [appZ_9 rfl]; rfl⟩)
 rw [← HEQ.out.2] at DL
 clear hI oA hb0 hb1 hb2 ha0 ha2 hl1 hA0 hs1 hs2
 unfold actV at DL
 unfold DoR
 unfold actV
 unfold edV
 go_enter Tryz.func36, Tryz.ntmps36
 go_upto_region 1 with (fail)
 clear hV0 hV1 hV2 hs0 hs11
 go_upto_region 5 with (fail)
 go_wp2_with fail
 refine (DL.out).mono ?_
 rintro e w6 ⟨hb6, nm, sp', st', ma, mb, mc, na, nb, nc, mca, mcb, mcc, rfl, Y, hy, hgd⟩
 have HB6 := Lib.hid hb6
 have HY := Lib.hid (show (.agg #[.string Y.name, .int .i64 Y.sport, .int .i64 Y.start, .slice ma Y.sm.length mca, .slice mb Y.lp.length mcb, .slice mc Y.tg.length mcc] : Value) = .agg #[.string nm, .int .i64 sp', .int .i64 st', .slice ma na mca, .slice mb nb mcb, .slice mc nc mcc] from hy)
 have HGD := Lib.hid (show appE A _ = 0 → _ from fun h0 => hgd (HEQ.out.1.symm.trans h0))
 obtain ⟨er, her⟩ : ∃ z, (0 : Int) = z := ⟨_, rfl⟩
 have HER := Lib.hid (HEQ.out.1.trans her)
 subst her
 clear hb6 hy hgd DL x0 x1 x2 x3 x4 z0 z1 z2 z3 z4 z5 fr
 have hR := HA2.out.below (HB6.out)
 obtain ⟨r0, r1, r2, r3, r4, r5⟩ := hR.cell
 have fr2 := hR.free
 obtain ⟨WF, hWF, haF, hkF⟩ := hR.store nm sp' st' (.slice ma na mca) (.slice mb nb mcb) (.slice mc nc mcc)
 have HAF := Lib.hid haF
 have HKF := Lib.hid (hkF (fun q => q = w.heap.size + 2) rfl)
 have HBF := Lib.hid (show Below w.heap.size w WF from by
  have h1 := below_step HB.out HB6.out
  exact Kept.below h1 HKF.out h1.size (fun k hk e => by omega))
 clear haF hkF hR
 go_wp2_with fail
 have q := HAF.out.cell
 refine bodyPost_ret (v := .tuple #[.agg #[.string nm, .int .i64 sp', .int .i64 st', .slice ma na mca, .slice mb nb mcb, .slice mc nc mcc], .int .i64 0]) (by simp [results, Tryz.results36, go_sem, q]) rfl ⟨HBF.out, Y, ma, mb, mc, mca, mcb, mcc, by rw [HER.out, HY.out], fun h0 => ?_⟩
 obtain ⟨e1, e2, e3⟩ := HGD.out (h0)
 exact ⟨e1, e2.kept HKF.out (fun g hg e => by have := e3 g hg; omega), fun g hg => by have := e3 g hg; omega⟩
set_option maxHeartbeats 4000000 in
set_option maxRecDepth 100000 in
theorem done_10 (n f t : Int) (s : ByteArray) (A : Acv) (a b c : Option Addr) (ca cb cc : Nat) (w : World) (hI : ActIn w A a b c) (oA : AcOk A) (hn : 0 ≤ n ∧ n ≤ 1000000) :
 Calls Tryz.prog 36 #[actV A a b c ca cb cc, edV ⟨10, n, f, t, s⟩] w fun e w' => DoR A ⟨10, n, f, t, s⟩ w.heap.size w e w' := by
 obtain ⟨V0, hV0, hb0, hs0, ha0⟩ := alloc_ac w A.name A.sport A.start (.slice a A.sm.length ca) (.slice b A.lp.length cb) (.slice c A.tg.length cc)
 obtain ⟨V1, hV1, hb1, hs1, hl1⟩ := alloc_cells V0 #[.int .i64 10, .int .i64 n, .int .i64 f, .int .i64 t, .string s] 28
 obtain ⟨V2, hV2, hb2, hs2, ha2⟩ := alloc_ac V1 ⟨#[]⟩ 0 0 (.slice none 0 0) (.slice none 0 0) (.slice none 0 0)
 have hs11 : V1.heap.size = w.heap.size + 2 := by omega
 rw [hs0] at hl1
 rw [hs11] at ha2
 have hA0 := (ha0.below hb1).below hb2
 have HB := Lib.hid (below_step (below_step hb0 hb1) hb2)
 have HSZ := Lib.hid (show V2.heap.size = w.heap.size + 3 from by omega)
 have HIA := Lib.hid (hI.below HB.out)
 have HA0 := Lib.hid hA0
 have HA2 := Lib.hid ha2
 have HOA := Lib.hid oA
 have HTX := Lib.hid hI.text
 have x0 := below_cell hb2 (hl1 0 _ rfl)
 have x1 := below_cell hb2 (hl1 1 _ rfl)
 have x2 := below_cell hb2 (hl1 2 _ rfl)
 have x3 := below_cell hb2 (hl1 3 _ rfl)
 have x4 := below_cell hb2 (hl1 4 _ rfl)
 obtain ⟨z0, z1, z2, z3, z4, z5⟩ := hA0.cell
 have fr := hA0.free
 have DL := Lib.hid ((rfill_any A a b c ca cb cc n V2 HIA.out oA hn).mono fun e w' h => h.gen (lo := w.heap.size + 3) (by omega))
 have HEQ := Lib.hid (show appE A ⟨10, n, f, t, s⟩ = 0 ∧ appZ A ⟨10, n, f, t, s⟩ = { A with sm := fillA n A.sm } from ⟨appE_10 rfl, appZ_10 rfl⟩)
 rw [← HEQ.out.2] at DL
 clear hI oA hb0 hb1 hb2 ha0 ha2 hl1 hA0 hs1 hs2
 unfold actV at DL
 unfold DoR
 unfold actV
 unfold edV
 go_enter Tryz.func36, Tryz.ntmps36
 go_upto_region 1 with (fail)
 clear hV0 hV1 hV2 hs0 hs11
 go_upto_region 7 with (fail)
 go_wp2_with fail
 refine (DL.out).mono ?_
 rintro e w6 ⟨hb6, nm, sp', st', ma, mb, mc, na, nb, nc, mca, mcb, mcc, rfl, Y, hy, hgd⟩
 have HB6 := Lib.hid hb6
 have HY := Lib.hid (show (.agg #[.string Y.name, .int .i64 Y.sport, .int .i64 Y.start, .slice ma Y.sm.length mca, .slice mb Y.lp.length mcb, .slice mc Y.tg.length mcc] : Value) = .agg #[.string nm, .int .i64 sp', .int .i64 st', .slice ma na mca, .slice mb nb mcb, .slice mc nc mcc] from hy)
 have HGD := Lib.hid (show appE A _ = 0 → _ from fun h0 => hgd (HEQ.out.1.symm.trans h0))
 obtain ⟨er, her⟩ : ∃ z, (0 : Int) = z := ⟨_, rfl⟩
 have HER := Lib.hid (HEQ.out.1.trans her)
 subst her
 clear hb6 hy hgd DL x0 x1 x2 x3 x4 z0 z1 z2 z3 z4 z5 fr
 have hR := HA2.out.below (HB6.out)
 obtain ⟨r0, r1, r2, r3, r4, r5⟩ := hR.cell
 have fr2 := hR.free
 obtain ⟨WF, hWF, haF, hkF⟩ := hR.store nm sp' st' (.slice ma na mca) (.slice mb nb mcb) (.slice mc nc mcc)
 have HAF := Lib.hid haF
 have HKF := Lib.hid (hkF (fun q => q = w.heap.size + 2) rfl)
 have HBF := Lib.hid (show Below w.heap.size w WF from by
  have h1 := below_step HB.out HB6.out
  exact Kept.below h1 HKF.out h1.size (fun k hk e => by omega))
 clear haF hkF hR
 go_wp2_with fail
 have q := HAF.out.cell
 refine bodyPost_ret (v := .tuple #[.agg #[.string nm, .int .i64 sp', .int .i64 st', .slice ma na mca, .slice mb nb mcb, .slice mc nc mcc], .int .i64 0]) (by simp [results, Tryz.results36, go_sem, q]) rfl ⟨HBF.out, Y, ma, mb, mc, mca, mcb, mcc, by rw [HER.out, HY.out], fun h0 => ?_⟩
 obtain ⟨e1, e2, e3⟩ := HGD.out (h0)
 exact ⟨e1, e2.kept HKF.out (fun g hg e => by have := e3 g hg; omega), fun g hg => by have := e3 g hg; omega⟩
end Go.Proofs.YtjnfccphodjfiaaGreat

/- A text of this claim. -/
namespace Go.Proofs.YtjnfccphodjfiaaGreat
open Go.RowKit Go.BigFrame
open Tr (inR Ed)
set_option maxHeartbeats 4000000 in
set_option maxRecDepth 100000 in
theorem done_small (k n f t : Int) (s : ByteArray) (A : Acv) (a b c : Option Addr) (ca cb cc : Nat) (w : World) (hI : ActIn w A a b c) (oA : AcOk A) (h8 : k ≠ 8) (h9 : k ≠ 9) (h10 : k ≠ 10)
 (hsm : ∀ (a b c : Option Addr) (ca cb cc base : Nat) (w : World), Own3 w base A (.slice a A.sm.length ca) (.slice b A.lp.length cb) (.slice c A.tg.length cc) → base ≤ w.heap.size → Calls Tryz.prog 74 #[actV A a b c ca cb cc, edV ⟨k, n, f, t, s⟩] w fun e w' => DoR A ⟨k, n, f, t, s⟩ base w e w') :
 Calls Tryz.prog 36 #[actV A a b c ca cb cc, edV ⟨k, n, f, t, s⟩] w fun e w' => DoR A ⟨k, n, f, t, s⟩ w.heap.size w e w' := by
 obtain ⟨V0, hV0, hb0, hs0, ha0⟩ := alloc_ac w A.name A.sport A.start (.slice a A.sm.length ca) (.slice b A.lp.length cb) (.slice c A.tg.length cc)
 obtain ⟨V1, hV1, hb1, hs1, hl1⟩ := alloc_cells V0 #[.int .i64 k, .int .i64 n, .int .i64 f, .int .i64 t, .string s] 28
 obtain ⟨V2, hV2, hb2, hs2, ha2⟩ := alloc_ac V1 ⟨#[]⟩ 0 0 (.slice none 0 0) (.slice none 0 0) (.slice none 0 0)
 have hs11 : V1.heap.size = w.heap.size + 2 := by omega
 rw [hs0] at hl1
 rw [hs11] at ha2
 have hA0 := (ha0.below hb1).below hb2
 have HB := Lib.hid (below_step (below_step hb0 hb1) hb2)
 have HSZ := Lib.hid (show V2.heap.size = w.heap.size + 3 from by omega)
 have HIA := Lib.hid (hI.below HB.out)
 have HA0 := Lib.hid hA0
 have HA2 := Lib.hid ha2
 have HOA := Lib.hid oA
 have HTX := Lib.hid hI.text
 have x0 := below_cell hb2 (hl1 0 _ rfl)
 have x1 := below_cell hb2 (hl1 1 _ rfl)
 have x2 := below_cell hb2 (hl1 2 _ rfl)
 have x3 := below_cell hb2 (hl1 3 _ rfl)
 have x4 := below_cell hb2 (hl1 4 _ rfl)
 obtain ⟨z0, z1, z2, z3, z4, z5⟩ := hA0.cell
 have fr := hA0.free
 have k8 : (k == 8) = false := by rw [beq_eq_false_iff_ne]; exact h8
 have k9 : (k == 9) = false := by rw [beq_eq_false_iff_ne]; exact h9
 have k10 : (k == 10) = false := by rw [beq_eq_false_iff_ne]; exact h10
 have DSM := Lib.hid hsm
 have DCP := Lib.hid (fun X : Ext V2 => show Calls Tryz.prog 48 #[.agg #[.string A.name, .int .i64 A.sport, .int .i64 A.start, .slice a A.sm.length ca, .slice b A.lp.length cb, .slice c A.tg.length cc]] X.1 fun e w' => CloneRet A X.1 e w' from by
  have h := rcopied_any A a b c ca cb cc X.1 (HIA.out.below X.2) oA.nsm (by have := oA.nlp; omega) (by have := oA.ntg; omega)
  unfold actV at h
  exact h)
 have A0 := Ext.ex z0
 have A1 := Ext.ex z1
 have A2 := Ext.ex z2
 have A3 := Ext.ex z3
 have A4 := Ext.ex z4
 have A5 := Ext.ex z5
 have X0 := Ext.ex x0
 have X1 := Ext.ex x1
 have X2 := Ext.ex x2
 have X3 := Ext.ex x3
 have X4 := Ext.ex x4
 clear hI oA hb0 hb1 hb2 ha0 ha2 hl1 hA0 hs1 hs2 hsm h8 h9 h10
 unfold DoR at DSM
 unfold actV at DSM ⊢
 unfold edV at DSM
 unfold edV
 go_enter Tryz.func36, Tryz.ntmps36
 go_upto_region 1 with (fail)
 clear hV0 hV1 hV2 hs0 hs11
 go_upto_region 8 with (fail)
 clear x0 x1 x2 x3 x4 z0 z1 z2 z3 z4 z5 fr
 refine late_start (s := 6) (C := fun w' => ∃ Y : Ext V2, w' = Y.1) (by kernel_rfl) ?_
 obtain ⟨Q0, hQ0⟩ : ∃ Y : Ext V2, ({ V2 with drawn := V2.drawn + 1 } : World) = Y.1 := ⟨⟨{ V2 with drawn := V2.drawn + 1 }, ⟨rfl, rfl, rfl, Nat.le_refl _, fun _ _ => rfl⟩⟩, rfl⟩
 rw [hQ0]
 clear hQ0
 refine late_quiet (by kernel_rfl) (fun _ _ d _ _ h => by cases d <;> exact h) ⟨Q0, rfl⟩ [0, 2] 6 _ _ (by kernel_rfl) (by kernel_rfl) ?_
 change wpQuiet _ _ _ _ (_ :: _ :: []) _
 repeat go_big_quiet_step (fail)
 refine wpQuiet_nil ?_
 refine late_do (i := 1) _ rfl (by kernel_rfl) rfl (fun K hK => ?_)
 go_simp
 refine (DCP.out Q0).mono ?_
 unfold CloneRet
 rintro e w4 ⟨⟨a1, b1, c1, ca1, cb1, cc1, rfl, ho3⟩, hb4⟩
 unfold actV
 obtain ⟨Q4, rfl⟩ : ∃ Z : Ext V2, w4 = Z.1 := ⟨⟨w4, below_step Q0.2 hb4⟩, rfl⟩
 have DS := Lib.hid (DSM.out a1 b1 c1 ca1 cb1 cc1 Q0.1.heap.size Q4.1 ho3 hb4.size)
 have HQ := Lib.hid hb4
 refine hK _ _ (fun _ => ⟨Q4, rfl⟩) ?_
 clear hK K hb4 ho3
 try simp only [Act.put, List.setIfInBounds_toArray, List.set_cons_zero, List.set_cons_succ]
 refine late_do (i := 3) _ rfl (by kernel_rfl) rfl (fun K hK => ?_)
 go_simp
 refine (DS.out).mono ?_
 rintro e w6 ⟨hb6, Z, ma, mb, mc, mca, mcb, mcc, rfl, hgd⟩
 have hbq : Below V2.heap.size V2 w6 := by
  have h1 := Q0.2.size
  have h2 := HQ.out
  exact ⟨hb6.os.trans Q4.2.os, hb6.tape.trans Q4.2.tape, hb6.output.trans Q4.2.output, Nat.le_trans Q4.2.size hb6.size, fun q hq => (hb6.block q (by omega)).trans (Q4.2.block q hq)⟩
 obtain ⟨Q6, rfl⟩ : ∃ Z : Ext V2, w6 = Z.1 := ⟨⟨w6, hbq⟩, rfl⟩
 have HB6 := Lib.hid hbq
 have HGD := Lib.hid hgd
 obtain ⟨er, her⟩ : ∃ z, appE A ⟨k, n, f, t, s⟩ = z := ⟨_, rfl⟩
 have HER := Lib.hid her
 rw [her]
 obtain ⟨nm, hnm⟩ : ∃ z, Z.name = z := ⟨_, rfl⟩
 refine hK _ _ (fun _ => ⟨Q6, rfl⟩) ?_
 clear hK K hb6 hgd hbq her hnm nm
 try simp only [Act.put, List.setIfInBounds_toArray, List.set_cons_zero, List.set_cons_succ]
 refine late_quiet (by kernel_rfl) (fun _ _ d _ _ h => by cases d <;> exact h) ⟨Q6, rfl⟩ [4] 3 _ _ (by kernel_rfl) (by kernel_rfl) ?_
 change wpQuiet _ _ _ _ (_ :: []) _
 repeat go_big_quiet_step (fail)
 refine wpQuiet_nil ?_
 refine late_quiet (by kernel_rfl) (fun _ _ d _ _ h => by cases d <;> exact h) ⟨Q6, rfl⟩ [5] 2 _ _ (by kernel_rfl) (by kernel_rfl) ?_
 change wpQuiet _ _ _ _ (_ :: []) _
 repeat go_big_quiet_step (fail)
 refine wpQuiet_nil ?_
 have hR := HA2.out.below (HB6.out)
 obtain ⟨r0, r1, r2, r3, r4, r5⟩ := hR.cell
 have fr2 := hR.free
 obtain ⟨WF, hWF, haF, hkF⟩ := hR.store Z.name Z.sport Z.start (.slice ma Z.sm.length mca) (.slice mb Z.lp.length mcb) (.slice mc Z.tg.length mcc)
 have HAF := Lib.hid haF
 have HKF := Lib.hid (hkF (fun q => q = w.heap.size + 2) rfl)
 have HBF := Lib.hid (show Below w.heap.size w WF from by
  have h1 := below_step HB.out HB6.out
  exact Kept.below h1 HKF.out h1.size (fun k hk e => by omega))
 clear haF hkF hR
 refine late_do (i := 6) _ rfl (by kernel_rfl) rfl (fun K hK => ?_)
 go_simp
 refine hK _ _ (fun h => nomatch (show true = false from h)) ?_
 clear hK K
 try simp only [Act.put, List.setIfInBounds_toArray, List.set_cons_zero, List.set_cons_succ]
 refine late_do (i := 7) _ rfl (by kernel_rfl) rfl (fun K hK => ?_)
 go_simp
 refine hK _ _ (fun h => nomatch (show true = false from h)) ?_
 clear hK K
 try simp only [Act.put, List.setIfInBounds_toArray, List.set_cons_zero, List.set_cons_succ]
 refine late_done (by kernel_rfl) ?_ _
 clear hWF r0 r1 r2 r3 r4 r5 fr2 A0 A1 A2 A3 A4 A5 X0 X1 X2 X3 X4
 go_wp2_with fail
 have q := HAF.out.cell
 refine bodyPost_ret (v := .tuple #[.agg #[.string Z.name, .int .i64 Z.sport, .int .i64 Z.start, .slice ma Z.sm.length mca, .slice mb Z.lp.length mcb, .slice mc Z.tg.length mcc], .int .i64 er]) (by simp [results, Tryz.results36, go_sem, q]) rfl ⟨HBF.out, Z, ma, mb, mc, mca, mcb, mcc, by rw [HER.out]; rfl, fun h0 => ?_⟩
 obtain ⟨e1, e2, e3⟩ := HGD.out h0
 have hq0 := Q0.2.size
 have hsz := HSZ.out
 exact ⟨e1, e2.kept HKF.out (fun g hg e => by have := e3 g hg; omega), fun g hg => by have := e3 g hg; omega⟩
end Go.Proofs.YtjnfccphodjfiaaGreat
