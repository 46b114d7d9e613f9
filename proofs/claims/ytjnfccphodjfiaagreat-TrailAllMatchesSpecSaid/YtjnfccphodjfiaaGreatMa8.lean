/- Several texts of this claim in one. -/
import Derived.Test.YtjnfccphodjfiaaGreatMa7
import Derived.Test.YtjnfccphodjfiaaGreatMa2
import Derived.Test.YtjnfccphodjfiaaGreatMa6
/- A text of this claim. -/
namespace Go.Proofs.YtjnfccphodjfiaaGreat
open Go.RowKit Go.BigFrame
open Tr (inR Ed)
theorem passOk_of {A : Acv} (h : AcOk A) {c : Nat} (hc : c ≤ 2) : PassOk c A.sm := by
 refine ⟨h.nsm, fun i j p q hij hp hq => h.sm.lt hij hp hq, fun i p hp => ?_⟩
 obtain ⟨h1, _, h2⟩ := h.sm.upto i p hp
 have h0 := h.sm.nonneg hp
 unfold rangeS at h2
 simp only [Bool.and_eq_true, inR_iff] at h2
 have h3 : c = 0 ∨ c = 1 ∨ c = 2 := by omega
 rcases h3 with rfl | rfl | rfl
 · show _ ∧ -100000000 ≤ p.pu ∧ p.pu ≤ 100000000
   omega
 · show _ ∧ -100000000 ≤ p.po ∧ p.po ≤ 100000000
   omega
 · show _ ∧ -100000000 ≤ p.st ∧ p.st ≤ 100000000
   omega
theorem cf_0 (args : Array Value) (W : World) : Sem.run Tryz.prog (callFunc 190 args) W = .ok (.enter 190 args) W := by
 kernel_rfl
theorem cf_1 (args : Array Value) (W : World) : Sem.run Tryz.prog (callFunc 191 args) W = .ok (.enter 191 args) W := by
 kernel_rfl
theorem cf_2 (args : Array Value) (W : World) : Sem.run Tryz.prog (callFunc 192 args) W = .ok (.enter 192 args) W := by
 kernel_rfl
set_option maxHeartbeats 16000000 in
set_option maxRecDepth 100000 in
theorem tfill_any (A : Acv) (a b c : Option Addr) (ca cb cc : Nat) (nn : Int) (w : World) (h : ActIn w A a b c) (oA : AcOk A) (hnn : 0 ≤ nn ∧ nn ≤ 1000000) :
 Calls Tryz.prog 185 #[actV A a b c ca cb cc, .int .i64 nn] w fun e w' => LvRet { A with sm := fillA nn A.sm } w e w' := by
 obtain ⟨V0, hV0, hb0, hs0, ha0⟩ := alloc_ac w A.name A.sport A.start (.slice a A.sm.length ca) (.slice b A.lp.length cb) (.slice c A.tg.length cc)
 obtain ⟨V1, hV1, hb1, hs1, ha1⟩ := alloc_ac V0 ⟨#[]⟩ 0 0 (.slice none 0 0) (.slice none 0 0) (.slice none 0 0)
 rw [hs0] at ha1
 have hA0 := ha0.below hb1
 have HB := Lib.hid (below_step hb0 hb1)
 have HSZ := Lib.hid (show V1.heap.size = w.heap.size + 2 from by omega)
 have HIN := Lib.hid (h.below HB.out)
 have HIW := Lib.hid h.sm
 have HOA := Lib.hid oA
 have HA1 := Lib.hid ha1
 have DC := Lib.hid (show Calls Tryz.prog 32 #[.agg #[.string A.name, .int .i64 A.sport, .int .i64 A.start, .slice a A.sm.length ca, .slice b A.lp.length cb, .slice c A.tg.length cc]] V1 fun e w'' => e = .returned (.int .i64 0) ∧ Below V1.heap.size V1 w'' from by
  have h := check_any A a b c ca cb cc V1 HIN.out
  unfold ChkG actV at h
  rw [chkA_zero.2 HOA.out] at h
  exact h)
 have DI := Lib.hid (fun W => (show Calls Tryz.prog 186 #[.int .i64 nn, .int .i64 0, .int .i64 1000000] W fun e w' => e = .returned (.bool true) ∧ W = w' from by
  have h := kin_any nn 0 1000000 W
  rw [show inR nn 0 1000000 = true from inR_iff.2 (by omega)] at h
  exact h))
 have HA0 := Lib.hid hA0
 obtain ⟨g0, g1, g2, g3, g4, g5⟩ := hA0.cell
 clear h oA hb0 hb1 ha0 ha1 hA0 hs1
 unfold actV
 go_enter Tryz.func185, Tryz.ntmps185
 go_upto_region 1 with (fail)
 clear hV0 hV1 hs0
 go_wp2_with fail
 refine (DC.out).mono ?_
 rintro e w1 ⟨rfl, hb1⟩
 have HB1 := Lib.hid hb1
 have DCL := Lib.hid (show Calls Tryz.prog 33 #[.agg #[.string A.name, .int .i64 A.sport, .int .i64 A.start, .slice a A.sm.length ca, .slice b A.lp.length cb, .slice c A.tg.length cc]] w1 fun e w'' => CloneRet A w1 e w'' from by
  have h := cloneA_any A a b c ca cb cc w1 (HIN.out.below hb1) (by have := HOA.out.nsm; omega) (by have := HOA.out.nlp; omega) (by have := HOA.out.ntg; omega)
  unfold actV at h
  exact h)
 obtain ⟨q0, q1, q2, q3, q4, q5⟩ := (HA0.out.below hb1).cell
 clear hb1 g0 g1 g2 g3 g4 g5
 go_wp2_with fail
 refine (DI.out _).mono ?_
 rintro e w2 ⟨rfl, rfl⟩
 go_wp2_with fail
 refine (DCL.out).mono ?_
 unfold CloneRet
 rintro e w2 ⟨⟨a1, b1, c1, ca1, cb1, cc1, rfl, ho3⟩, hb2⟩
 unfold actV
 obtain ⟨T, hT⟩ : ∃ T, w2.heap.size = T := ⟨_, rfl⟩
 obtain ⟨W, hW, hbW, hsW, haW⟩ := alloc_ac w2 A.name A.sport A.start (.slice a1 A.sm.length ca1) (.slice b1 A.lp.length cb1) (.slice c1 A.tg.length cc1)
 obtain ⟨D0, hD0⟩ : ∃ D0, w1.heap.size = D0 := ⟨_, rfl⟩
 rw [hT] at haW
 rw [hD0] at ho3
 have HT := Lib.hid hT
 have HD := Lib.hid hD0
 have HO3 := Lib.hid ho3
 have HB2 := Lib.hid (show Below w.heap.size w W from below_step (below_step HB.out HB1.out) (below_step hb2 hbW))
 have HBV := Lib.hid (show Below V1.heap.size V1 W from below_step HB1.out (below_step hb2 hbW))
 have HBW := Lib.hid hbW
 have HSW := Lib.hid (show w.heap.size + 2 ≤ D0 ∧ D0 ≤ T ∧ T < W.heap.size from by
  have := HSZ.out
  have := HB1.out.size
  have := hb2.size
  have := haW.lt
  omega)
 obtain ⟨ns, hn⟩ : ∃ n, A.sm.length = n := ⟨_, rfl⟩
 have HN := Lib.hid hn
 have hns : ns ≤ 20000 := by have := HOA.out.nsm; omega
 have HSO := Lib.hid (show Own smC 7 72 W D0 (.slice a1 ns ca1) A.sm from by
  obtain ⟨B1, B2, hB1, hB2, hos, _, _, _, _⟩ := ho3.ex
  rw [hn] at hos
  exact hos.below hbW)
 have HAB := Lib.hid (show AcB W T A.name A.sport A.start (.slice a1 ns ca1) (.slice b1 A.lp.length cb1) (.slice c1 A.tg.length cc1) from hn ▸ haW)
 have HBX := Lib.hid (HA0.out.below HBV.out)
 rw [hn] at HBX q3 hW ⊢
 clear ho3 hb2 hbW hsW haW hD0 hn q0 q1 q2 q4 q5
 obtain ⟨y0, y1, y2, y3, y4, y5⟩ := HAB.out.cell
 have HLT := Lib.hid (fun q (hq : (Value.slice a1 ns ca1).ownBlock = some q) => show D0 ≤ q ∧ q < T from by
  have h := HSO.out.lt q hq
  obtain ⟨B1, B2, hB1, hB2, hos, _, _, _, _⟩ := HO3.out.ex
  have h2 := (hos.lt q (by rw [HN.out]; exact hq)).2
  rw [HT.out] at h2
  exact ⟨h.1, h2⟩)
 have hp0 := passOk_of HOA.out (c := 0) (by omega)
 have hp1 := (passOk_of HOA.out (c := 1) (by omega)).pass (d := 0) (gap := nn) (by omega) (by omega) (by omega)
 have hp2 := ((passOk_of HOA.out (c := 2) (by omega)).pass (d := 0) (gap := nn) (by omega) (by omega) (by omega)).pass (d := 1) (gap := nn) (by omega) (by omega) (by omega)
 obtain ⟨l1, hl1⟩ : ∃ z, pass nn 0 A.sm = z := ⟨_, rfl⟩
 obtain ⟨l2, hl2⟩ : ∃ z, pass nn 1 l1 = z := ⟨_, rfl⟩
 rw [hl1] at hp1 hp2
 rw [hl2] at hp2
 have n1 : l1.length = ns := by rw [← hl1, pass_len, HN.out]
 have n2 : l2.length = ns := by rw [← hl2, pass_len, n1]
 have HL1 := Lib.hid hl1
 have HL2 := Lib.hid hl2
 have D1 := Lib.hid (show Calls Tryz.prog 189 #[.slice a1 ns ca1, .int .i64 nn, .func (.func 188) #[] #[], .func (.func 190) #[] #[]] W fun e w' => e = .returned (.tuple #[]) ∧ Own smC 7 72 w' D0 (.slice a1 ns ca1) l1 ∧ Kept (fun x => (Value.slice a1 ns ca1).ownBlock = some x) W w' from by
  have h := fill_any 0 (by omega) _ cf_0 fnum_0 nn A.sm a1 ca1 D0 W (by rw [HN.out]; exact HSO.out) hp0
  rw [HN.out, HL1.out] at h
  exact h)
 have D2 := Lib.hid (fun (Z : World) (ho : Own smC 7 72 Z D0 (.slice a1 ns ca1) l1) => show Calls Tryz.prog 189 #[.slice a1 ns ca1, .int .i64 nn, .func (.func 188) #[] #[], .func (.func 191) #[] #[]] Z fun e w' => e = .returned (.tuple #[]) ∧ Own smC 7 72 w' D0 (.slice a1 ns ca1) l2 ∧ Kept (fun x => (Value.slice a1 ns ca1).ownBlock = some x) Z w' from by
  have h := fill_any 1 (by omega) _ cf_1 fnum_1 nn l1 a1 ca1 D0 Z (by rw [n1]; exact ho) hp1
  rw [n1, HL2.out] at h
  exact h)
 have D3 := Lib.hid (fun (Z : World) (ho : Own smC 7 72 Z D0 (.slice a1 ns ca1) l2) => show Calls Tryz.prog 189 #[.slice a1 ns ca1, .int .i64 nn, .func (.func 188) #[] #[], .func (.func 192) #[] #[]] Z fun e w' => e = .returned (.tuple #[]) ∧ Own smC 7 72 w' D0 (.slice a1 ns ca1) (fillA nn A.sm) ∧ Kept (fun x => (Value.slice a1 ns ca1).ownBlock = some x) Z w' from by
  have h := fill_any 2 (by omega) _ cf_2 fnum_2 nn l2 a1 ca1 D0 Z (by rw [n2]; exact ho) hp2
  rw [n2, ← HL2.out, ← HL1.out, ← fillA_pass] at h
  exact h)
 clear hp0 hp1 hp2 hl1 hl2 n1 n2
 go_upto_region 7 with (fail)
 clear hW q3
 go_upto_region 8 with (fail)
 go_wp2_with fail
 refine (D1.out).mono ?_
 rintro e z1 ⟨rfl, ho1, hk1⟩
 have hacZ := HAB.out.kept hk1 (fun e => by have := (HLT.out T e).2; omega)
 have HOZ := Lib.hid ho1
 have HKZ := Lib.hid hk1
 clear y0 y1 y2 y3 y4 y5
 obtain ⟨y0, y1, y2, y3, y4, y5⟩ := hacZ.cell
 clear ho1 hk1
 go_wp2_with fail
 refine (D2.out _ HOZ.out).mono ?_
 rintro e z2 ⟨rfl, ho2, hk2⟩
 have hacY := hacZ.kept hk2 (fun e => by have := (HLT.out T e).2; omega)
 have HOY := Lib.hid ho2
 have HKY := Lib.hid (HKZ.out.trans hk2)
 clear y0 y1 y2 y3 y4 y5 ho2 hk2 hacZ
 obtain ⟨y0, y1, y2, y3, y4, y5⟩ := hacY.cell
 go_wp2_with fail
 refine (D3.out _ HOY.out).mono ?_
 rintro e z3 ⟨rfl, ho3, hk3⟩
 have hac := hacY.kept hk3 (fun e => by have := (HLT.out T e).2; omega)
 have HOF := Lib.hid ho3
 obtain ⟨Z, rfl⟩ : ∃ Z : ExtO (fun q => (Value.slice a1 ns ca1).ownBlock = some q) W, z3 = Z.1 := ⟨⟨z3, HKY.out.trans hk3⟩, rfl⟩
 clear y0 y1 y2 y3 y4 y5 ho3 hk3 hacY D1 D2 D3
 have HLEN := Lib.hid (show (fillA nn A.sm).length = ns from by rw [fillA_len, HN.out])
 obtain ⟨y0, y1, y2, y3, y4, y5⟩ := hac.cell
 have hR := (HA1.out.below HBV.out).kept Z.2 (fun e => by have := (HLT.out _ e).1; have := HSW.out; omega)
 obtain ⟨r0, r1, r2, r3, r4, r5⟩ := hR.cell
 have fr := hR.free
 obtain ⟨WF, hWF, haF, hkF⟩ := hR.store A.name A.sport A.start (.slice a1 ns ca1) (.slice b1 A.lp.length cb1) (.slice c1 A.tg.length cc1)
 have HAF := Lib.hid haF
 have HKF := Lib.hid (hkF (fun q => q = w.heap.size + 1) rfl)
 have HBF := Lib.hid (show Below w.heap.size w WF from by
  have h1 : Below w.heap.size w Z.1 := Kept.below HB2.out Z.2 HB2.out.size (fun q hq e => by have := (HLT.out q e).1; have := HSW.out; omega)
  exact Kept.below h1 HKF.out h1.size (fun k hk e => by omega))
 have HAI := Lib.hid (show ActIn WF { A with sm := fillA nn A.sm } a1 b1 c1 ∧ ∀ g, (a1 = some g ∨ b1 = some g ∨ c1 = some g) → D0 ≤ g.block from by
  obtain ⟨B1, B2, hB1, hB2, hos, hs, hol, hl, hot⟩ := HO3.out.ex
  obtain ⟨l1, _, l3⟩ := hol.rw_ lpEl
  obtain ⟨t1, _, t3⟩ := hot.rw_ tgEl
  have hof : Own smC 7 72 WF D0 (.slice a1 ns ca1) (fillA nn A.sm) := HOF.out.keepO HKF.out (fun q hq e => by have := (HLT.out q hq).1; have := HSW.out; omega)
  obtain ⟨s1, _, s3⟩ := hof.rw_ smEl
  have hsz := HSW.out
  have hl1 : ∀ bb off, b1 = some ⟨bb, off, none⟩ → B1 ≤ bb := fun bb off e => (l3 _ e).1
  have hl2 : ∀ bb off, c1 = some ⟨bb, off, none⟩ → B2 ≤ bb := fun bb off e => (t3 _ e).1
  have hap : ∀ q, (Value.slice a1 ns ca1).ownBlock = some q → q < B1 := fun q hq => hs q (by rw [HN.out]; exact hq)
  refine ⟨⟨s1, ((l1.below HBW.out).kept Z.2 (fun bb off e h => by have := hl1 bb off e; have := hap bb h; omega)).kept HKF.out (fun bb off e h => by have := hl1 bb off e; omega), ((t1.below HBW.out).kept Z.2 (fun bb off e h => by have := hl2 bb off e; have := hap bb h; omega)).kept HKF.out (fun bb off e h => by have := hl2 bb off e; omega), HIN.out.name, HIN.out.titles, HIN.out.tags, ?_, HIN.out.nlp, HIN.out.ntg⟩, ?_⟩
  · show ((fillA nn A.sm).length : Int) ≤ _
    rw [HLEN.out]
    omega
  · rintro g (e | e | e)
    · exact (s3 _ e).1
    · have := (l3 _ e).1
      omega
    · have := (t3 _ e).1
      omega)
 have HD0 := Lib.hid (show w.heap.size ≤ D0 from by have := HSW.out; omega)
 clear hac haF hkF hR
 go_wp2_with fail
 have q := HAF.out.cell
 refine bodyPost_ret (v := .tuple #[.agg #[.string A.name, .int .i64 A.sport, .int .i64 A.start, .slice a1 ns ca1, .slice b1 A.lp.length cb1, .slice c1 A.tg.length cc1], .int .i64 0]) (by simp [results, Tryz.results185, go_sem, q]) rfl ⟨HBF.out, a1, b1, c1, ca1, cb1, cc1, ?_, HAI.out.1, fun g hg => Nat.le_trans HD0.out (HAI.out.2 g hg)⟩
 unfold actV
 simp only [HLEN.out]
end Go.Proofs.YtjnfccphodjfiaaGreat

/- A text of this claim. -/
namespace Go.Proofs.YtjnfccphodjfiaaGreat
open Go.RowKit Go.BigFrame
open Tr (inR Ed)
def Lies (w : World) (base g : Nat) (Z : Acv) : Prop :=
 ∃ a b c ca cb cc, AcB w g Z.name Z.sport Z.start (.slice a Z.sm.length ca) (.slice b Z.lp.length cb) (.slice c Z.tg.length cc) ∧ ActIn w Z a b c ∧ (∀ q, (a = some q ∨ b = some q ∨ c = some q) → base ≤ q.block)
def LiR (A : Acv) (x : Ed) (base g : Nat) (w : World) (e : Ending) (w' : World) : Prop :=
 Below base w w' ∧ e = .returned (.int .i64 (appE A x)) ∧ (appE A x = 0 → Lies w' base g (appZ A x))
theorem Mine.lies {w : World} {base g : Nat} {Z : Acv} (h : Mine w base g Z) (ht : ActText Z) (l1 : Z.sm.length ≤ 1000000) (l2 : Z.lp.length ≤ 1000000) (l3 : Z.tg.length ≤ 1000000) : Lies w base g Z := by
 obtain ⟨a, b, c, ca, cb, cc, h1, h2, _, h4⟩ := h.actIn ht l1 l2 l3
 exact ⟨a, b, c, ca, cb, cc, h1, h2, fun q hq => (h4 q hq).1⟩
theorem ApR.lies {A : Acv} {x : Ed} {base g : Nat} {w : World} {e : Ending} {w' : World} (h : ApR A x base g w e w') (hk : chkE x = 0) (hA : AcOk A) (ht : ActText A) (hx : x.s.size ≤ maxLen) : LiR A x base g w e w' := by
 obtain ⟨h1, h2, h3⟩ := h
 obtain ⟨l1, l2, l3⟩ := appZ_len hk hA
 exact ⟨h1, h2, fun h0 => (h3 h0).lies (appZ_text hk ht hx) (by omega) (by omega) (by omega)⟩
theorem late_two {P : Program} {Q : Exit → Act → World → Prop} {C : World → Prop} {s : Nat} {l : List Oper} {i j fuel : Nat} {listed : Array Bool} {a : Act} {w : World} (oi oj : Oper) (hi : nth l i = some oi) (hj : nth l j = some oj) (hr : Region.ready .any l.toArray listed = [i, j])
 (hwi : Region.wanted oi (yielded l.toArray a.tmps) = true) (hwj : Region.wanted oj (yielded l.toArray a.tmps) = true)
 (h1 : ∀ K : Act → World → Prop, (∀ a' w', ((listed.setIfInBounds i true).getD s true = false → C w') → wpAnyS P l.toArray Q s C fuel (listed.setIfInBounds i true) a' w' → K a' w') → oi.wp P a w K Q)
 (h2 : ∀ K : Act → World → Prop, (∀ a' w', ((listed.setIfInBounds j true).getD s true = false → C w') → wpAnyS P l.toArray Q s C fuel (listed.setIfInBounds j true) a' w' → K a' w') → oj.wp P a w K Q) : wpAnyS P l.toArray Q s C (fuel + 1) listed a w := by
 rw [nth_eq] at hi hj
 refine ⟨fun h0 => absurd (hr ▸ h0) (by simp), fun q hq => ?_⟩
 rw [hr] at hq
 simp only [List.mem_cons, List.not_mem_nil, or_false] at hq
 rcases hq with rfl | rfl
 · unfold wpOp
   simp only [hi, hwi, if_true]
   exact Or.inl (h1 _ fun a' w' h3 h4 => ⟨h3, h4⟩)
 · unfold wpOp
   simp only [hj, hwj, if_true]
   exact Or.inl (h2 _ fun a' w' h3 h4 => ⟨h3, h4⟩)
set_option maxHeartbeats 8000000 in
set_option maxRecDepth 100000 in
theorem ap_9 (n f t : Int) (s : ByteArray) (A : Acv) (base g : Nat) (w : World) (hM : Mine w base g A) (oA : AcOk A) (ht : ActText A) (hb : base ≤ w.heap.size) (hn : 0 ≤ n ∧ n ≤ 50) :
 Calls Tryz.prog 181 #[edV ⟨9, n, f, t, s⟩, .pointer (some ⟨g, 0, none⟩)] w fun e w' => LiR A ⟨9, n, f, t, s⟩ base g w e w' := by
 unfold LiR
 obtain ⟨a, b, c, ca, cb, cc, h0, h1, hca, hfr⟩ := hM.actIn ht (by have := oA.nsm; omega) (by have := oA.nlp; omega) (by have := oA.ntg; omega)
 have hg := hM.hg
 obtain ⟨V0, hV0, hb0, hs0, hl0⟩ := alloc_cells w #[.int .i64 9, .int .i64 n, .int .i64 f, .int .i64 t, .string s] 100
 have HB := Lib.hid hb0
 have HBS := Lib.hid hb
 have HG := Lib.hid hg
 have H0 := Lib.hid (h0.below hb0)
 have H1 := Lib.hid (h1.below hb0)
 have HOA := Lib.hid oA
 have HT := Lib.hid ht
 have HGL := Lib.hid h0.lt
 have HFR := Lib.hid (show ∀ q, (a = some q ∨ b = some q ∨ c = some q) → base ≤ q.block ∧ q.block ≠ g from hfr)
 have x0 := hl0 0 _ rfl
 have x1 := hl0 1 _ rfl
 have x2 := hl0 2 _ rfl
 have x3 := hl0 3 _ rfl
 obtain ⟨c0, c1, c2, c3, c4, c5⟩ := H0.out.cell
 obtain ⟨nn, rfl⟩ : ∃ nn : Nat, n = (nn : Int) := ⟨n.toNat, by omega⟩
 have DL := Lib.hid (fun X : Ext V0 => level_any A a b c ca cb cc nn X.1 (H1.out.below X.2) oA hca (by omega))
 have HE := Lib.hid (show appE A ⟨9, (nn : Int), f, t, s⟩ = 0 ∧ appZ A ⟨9, (nn : Int), f, t, s⟩ = { A with sm := levelS A.sm nn } from ⟨appE_9 rfl, by rw [appZ_9 rfl]; rfl⟩)
 rw [HE.out.1, HE.out.2]
 have HVS := Lib.hid hs0
 clear hb hg h0 h1 oA ht hb0 hl0 hM hfr
 unfold actV at DL
 unfold edV
 have X0 := Ext.ex x0
 have X1 := Ext.ex x1
 have X2 := Ext.ex x2
 have X3 := Ext.ex x3
 have C0 := Ext.ex c0
 have C1 := Ext.ex c1
 have C2 := Ext.ex c2
 have C3 := Ext.ex c3
 have C4 := Ext.ex c4
 have C5 := Ext.ex c5
 go_enter Tryz.func181, Tryz.ntmps181
 go_upto_region 2 with (fail)
 clear hV0 hs0 c0 c1 c2 c3 c4 c5 x0 x1 x2 x3
 refine late_start (s := 11) (C := fun w' => ∃ Y : Ext V0, w' = Y.1) (by kernel_rfl) ?_
 obtain ⟨Q0, hQ0⟩ : ∃ Y : Ext V0, ({ V0 with drawn := V0.drawn + 1 } : World) = Y.1 := ⟨⟨{ V0 with drawn := V0.drawn + 1 }, ⟨rfl, rfl, rfl, Nat.le_refl _, fun _ _ => rfl⟩⟩, rfl⟩
 rw [hQ0]
 clear hQ0
 refine late_quiet (by kernel_rfl) (fun _ _ d _ _ h => by cases d <;> exact h) ⟨Q0, rfl⟩ [0, 1, 4, 5] 9 _ _ (by kernel_rfl) (by kernel_rfl) ?_
 change wpQuiet _ _ _ _ (_ :: _ :: _ :: _ :: []) _
 repeat go_big_quiet_step (fail)
 refine wpQuiet_nil ?_
 refine late_do (i := 2) _ rfl (by kernel_rfl) rfl (fun K hK => ?_)
 go_simp
 refine hK _ _ (fun _ => ⟨Q0, rfl⟩) ?_
 clear hK K
 try simp only [Act.put, List.setIfInBounds_toArray, List.set_cons_zero, List.set_cons_succ]
 refine late_quiet (by kernel_rfl) (fun _ _ d _ _ h => by cases d <;> exact h) ⟨Q0, rfl⟩ [3] 7 _ _ (by kernel_rfl) (by kernel_rfl) ?_
 change wpQuiet _ _ _ _ (_ :: []) _
 repeat go_big_quiet_step (fail)
 refine wpQuiet_nil ?_
 refine late_do (i := 6) _ rfl (by kernel_rfl) rfl (fun K hK => ?_)
 go_simp
 refine (DL.out Q0).mono ?_
 unfold LvRet
 rintro e w6 ⟨hb6, ma, mb, mc, mca, mcb, mcc, rfl, hmi, hmf⟩
 obtain ⟨Q6, rfl⟩ : ∃ Z : Ext V0, w6 = Z.1 := ⟨⟨w6, below_step Q0.2 hb6⟩, rfl⟩
 have HMI := Lib.hid hmi
 have HMF := Lib.hid (show ∀ q, (ma = some q ∨ mb = some q ∨ mc = some q) → w.heap.size < q.block from fun q hq => by have h1 := hmf q hq; have h2 := Q0.2.size; have h3 := (show V0.heap.size = w.heap.size + 1 from HVS.out); omega)
 unfold actV
 refine hK _ _ (fun _ => ⟨Q6, rfl⟩) ?_
 clear hK K
 try simp only []
 clear hmi hmf hb6
 obtain ⟨ML, hML⟩ : ∃ z, (levelS A.sm nn).length = z := ⟨_, rfl⟩
 have HML := Lib.hid hML
 rw [hML]
 clear hML
 refine late_quiet (by kernel_rfl) (fun _ _ d _ _ h => by cases d <;> exact h) ⟨Q6, rfl⟩ [7, 8] 4 _ _ (by kernel_rfl) (by kernel_rfl) ?_
 change wpQuiet _ _ _ _ (_ :: _ :: []) _
 repeat go_big_quiet_step (fail)
 refine wpQuiet_nil ?_
 have hb9 := H0.out.below Q6.2
 obtain ⟨r0, r1, r2, r3, r4, r5⟩ := hb9.cell
 have fr := hb9.free
 obtain ⟨WF, hWF, haF, hkF⟩ := hb9.store A.name A.sport A.start (.slice ma ML mca) (.slice mb A.lp.length mcb) (.slice mc A.tg.length mcc)
 have HAF := Lib.hid haF
 have HKF := Lib.hid (hkF (fun q => q = g) rfl)
 clear haF hkF hb9
 have HBF := Lib.hid (show Below base w WF from below_at (below_step HB.out Q6.2) HBS.out (kept_ge HG.out HKF.out))
 refine late_two (i := 9) (j := 10) _ _ rfl rfl (by kernel_rfl) rfl rfl (fun K hK => ?_) (fun K hK => ?_)
 · go_simp
   refine hK _ _ (fun _ => ⟨Q6, rfl⟩) ?_
   clear hK K
   try simp only [Act.put, List.setIfInBounds_toArray, List.set_cons_zero, List.set_cons_succ]
   refine late_do (i := 10) _ rfl (by kernel_rfl) rfl (fun K hK => ?_)
   go_simp
   refine hK _ _ (fun _ => ⟨Q6, rfl⟩) ?_
   clear hK K
   try simp only [Act.put, List.setIfInBounds_toArray, List.set_cons_zero, List.set_cons_succ]
   refine late_do (i := 11) _ rfl (by kernel_rfl) rfl (fun K hK => ?_)
   go_simp
   refine hK _ _ (fun h => nomatch (show true = false from h)) ?_
   clear hK K
   try simp only [Act.put, List.setIfInBounds_toArray, List.set_cons_zero, List.set_cons_succ]
   refine late_do (i := 12) _ rfl (by kernel_rfl) rfl (fun K hK => ?_)
   go_simp
   refine hK _ _ (fun h => nomatch (show true = false from h)) ?_
   clear hK K
   try simp only [Act.put, List.setIfInBounds_toArray, List.set_cons_zero, List.set_cons_succ]
   refine late_done (by kernel_rfl) ?_ _
   clear hWF r0 r1 r2 r3 r4 r5 fr C0 C1 C2 C3 C4 C5 X0 X1 X2 X3
   go_wp2_with fail
   go_ret
   refine ⟨HBF.out, rfl, fun _ => ⟨ma, mb, mc, mca, mcb, mcc, ?_, HMI.out.kept HKF.out (fun q hq e => by have := HMF.out q hq; have := HGL.out; omega), fun q hq => by have := HMF.out q hq; have := HBS.out; omega⟩⟩
   simp only [HML.out]
   exact HAF.out
 · go_simp
   refine hK _ _ (fun _ => ⟨Q6, rfl⟩) ?_
   clear hK K
   try simp only [Act.put, List.setIfInBounds_toArray, List.set_cons_zero, List.set_cons_succ]
   refine late_two (i := 9) (j := 11) _ _ rfl rfl (by kernel_rfl) rfl rfl (fun K hK => ?_) (fun K hK => ?_)
   · go_simp
     refine hK _ _ (fun _ => ⟨Q6, rfl⟩) ?_
     clear hK K
     try simp only [Act.put, List.setIfInBounds_toArray, List.set_cons_zero, List.set_cons_succ]
     refine late_do (i := 11) _ rfl (by kernel_rfl) rfl (fun K hK => ?_)
     go_simp
     refine hK _ _ (fun h => nomatch (show true = false from h)) ?_
     clear hK K
     try simp only [Act.put, List.setIfInBounds_toArray, List.set_cons_zero, List.set_cons_succ]
     refine late_do (i := 12) _ rfl (by kernel_rfl) rfl (fun K hK => ?_)
     go_simp
     refine hK _ _ (fun h => nomatch (show true = false from h)) ?_
     clear hK K
     try simp only [Act.put, List.setIfInBounds_toArray, List.set_cons_zero, List.set_cons_succ]
     refine late_done (by kernel_rfl) ?_ _
     clear hWF r0 r1 r2 r3 r4 r5 fr C0 C1 C2 C3 C4 C5 X0 X1 X2 X3
     go_wp2_with fail
     go_ret
     refine ⟨HBF.out, rfl, fun _ => ⟨ma, mb, mc, mca, mcb, mcc, ?_, HMI.out.kept HKF.out (fun q hq e => by have := HMF.out q hq; have := HGL.out; omega), fun q hq => by have := HMF.out q hq; have := HBS.out; omega⟩⟩
     simp only [HML.out]
     exact HAF.out
   · go_simp
     refine hK _ _ (fun h => nomatch (show true = false from h)) ?_
     clear hK K
     try simp only [Act.put, List.setIfInBounds_toArray, List.set_cons_zero, List.set_cons_succ]
     refine late_do (i := 9) _ rfl (by kernel_rfl) rfl (fun K hK => ?_)
     go_simp
     refine hK _ _ (fun h => nomatch (show true = false from h)) ?_
     clear hK K
     try simp only [Act.put, List.setIfInBounds_toArray, List.set_cons_zero, List.set_cons_succ]
     refine late_do (i := 12) _ rfl (by kernel_rfl) rfl (fun K hK => ?_)
     go_simp
     refine hK _ _ (fun h => nomatch (show true = false from h)) ?_
     clear hK K
     try simp only [Act.put, List.setIfInBounds_toArray, List.set_cons_zero, List.set_cons_succ]
     refine late_done (by kernel_rfl) ?_ _
     clear hWF r0 r1 r2 r3 r4 r5 fr C0 C1 C2 C3 C4 C5 X0 X1 X2 X3
     go_wp2_with fail
     go_ret
     refine ⟨HBF.out, rfl, fun _ => ⟨ma, mb, mc, mca, mcb, mcc, ?_, HMI.out.kept HKF.out (fun q hq e => by have := HMF.out q hq; have := HGL.out; omega), fun q hq => by have := HMF.out q hq; have := HBS.out; omega⟩⟩
     simp only [HML.out]
     exact HAF.out
set_option maxHeartbeats 8000000 in
set_option maxRecDepth 100000 in
theorem ap_10 (n f t : Int) (s : ByteArray) (A : Acv) (base g : Nat) (w : World) (hM : Mine w base g A) (oA : AcOk A) (ht : ActText A) (hb : base ≤ w.heap.size) (hn : 0 ≤ n ∧ n ≤ 1000000) :
 Calls Tryz.prog 181 #[edV ⟨10, n, f, t, s⟩, .pointer (some ⟨g, 0, none⟩)] w fun e w' => LiR A ⟨10, n, f, t, s⟩ base g w e w' := by
 unfold LiR
 obtain ⟨a, b, c, ca, cb, cc, h0, h1, hca, hfr⟩ := hM.actIn ht (by have := oA.nsm; omega) (by have := oA.nlp; omega) (by have := oA.ntg; omega)
 have hg := hM.hg
 obtain ⟨V0, hV0, hb0, hs0, hl0⟩ := alloc_cells w #[.int .i64 10, .int .i64 n, .int .i64 f, .int .i64 t, .string s] 100
 have HB := Lib.hid hb0
 have HBS := Lib.hid hb
 have HG := Lib.hid hg
 have H0 := Lib.hid (h0.below hb0)
 have H1 := Lib.hid (h1.below hb0)
 have HOA := Lib.hid oA
 have HT := Lib.hid ht
 have HGL := Lib.hid h0.lt
 have HFR := Lib.hid (show ∀ q, (a = some q ∨ b = some q ∨ c = some q) → base ≤ q.block ∧ q.block ≠ g from hfr)
 have x0 := hl0 0 _ rfl
 have x1 := hl0 1 _ rfl
 have x2 := hl0 2 _ rfl
 have x3 := hl0 3 _ rfl
 obtain ⟨c0, c1, c2, c3, c4, c5⟩ := H0.out.cell
 have DL := Lib.hid (fun X : Ext V0 => tfill_any A a b c ca cb cc n X.1 (H1.out.below X.2) oA hn)
 rw [appE_10 rfl, appZ_10 rfl]
 simp only
 have HVS := Lib.hid hs0
 clear hb hg h0 h1 oA ht hb0 hl0 hM hfr
 unfold actV at DL
 unfold edV
 have X0 := Ext.ex x0
 have X1 := Ext.ex x1
 have X2 := Ext.ex x2
 have X3 := Ext.ex x3
 have C0 := Ext.ex c0
 have C1 := Ext.ex c1
 have C2 := Ext.ex c2
 have C3 := Ext.ex c3
 have C4 := Ext.ex c4
 have C5 := Ext.ex c5
 go_enter Tryz.func181, Tryz.ntmps181
 go_upto_region 3 with (fail)
 clear hV0 hs0 c0 c1 c2 c3 c4 c5 x0 x1 x2 x3
 refine late_start (s := 11) (C := fun w' => ∃ Y : Ext V0, w' = Y.1) (by kernel_rfl) ?_
 obtain ⟨Q0, hQ0⟩ : ∃ Y : Ext V0, ({ V0 with drawn := V0.drawn + 1 } : World) = Y.1 := ⟨⟨{ V0 with drawn := V0.drawn + 1 }, ⟨rfl, rfl, rfl, Nat.le_refl _, fun _ _ => rfl⟩⟩, rfl⟩
 rw [hQ0]
 clear hQ0
 refine late_quiet (by kernel_rfl) (fun _ _ d _ _ h => by cases d <;> exact h) ⟨Q0, rfl⟩ [0, 1, 4, 5] 9 _ _ (by kernel_rfl) (by kernel_rfl) ?_
 change wpQuiet _ _ _ _ (_ :: _ :: _ :: _ :: []) _
 repeat go_big_quiet_step (fail)
 refine wpQuiet_nil ?_
 refine late_do (i := 2) _ rfl (by kernel_rfl) rfl (fun K hK => ?_)
 go_simp
 refine hK _ _ (fun _ => ⟨Q0, rfl⟩) ?_
 clear hK K
 try simp only [Act.put, List.setIfInBounds_toArray, List.set_cons_zero, List.set_cons_succ]
 refine late_quiet (by kernel_rfl) (fun _ _ d _ _ h => by cases d <;> exact h) ⟨Q0, rfl⟩ [3] 7 _ _ (by kernel_rfl) (by kernel_rfl) ?_
 change wpQuiet _ _ _ _ (_ :: []) _
 repeat go_big_quiet_step (fail)
 refine wpQuiet_nil ?_
 refine late_do (i := 6) _ rfl (by kernel_rfl) rfl (fun K hK => ?_)
 go_simp
 refine (DL.out Q0).mono ?_
 unfold LvRet
 rintro e w6 ⟨hb6, ma, mb, mc, mca, mcb, mcc, rfl, hmi, hmf⟩
 obtain ⟨Q6, rfl⟩ : ∃ Z : Ext V0, w6 = Z.1 := ⟨⟨w6, below_step Q0.2 hb6⟩, rfl⟩
 have HMI := Lib.hid hmi
 have HMF := Lib.hid (show ∀ q, (ma = some q ∨ mb = some q ∨ mc = some q) → w.heap.size < q.block from fun q hq => by have h1 := hmf q hq; have h2 := Q0.2.size; have h3 := (show V0.heap.size = w.heap.size + 1 from HVS.out); omega)
 unfold actV
 refine hK _ _ (fun _ => ⟨Q6, rfl⟩) ?_
 clear hK K
 try simp only []
 clear hmi hmf hb6
 obtain ⟨ML, hML⟩ : ∃ z, (fillA n A.sm).length = z := ⟨_, rfl⟩
 have HML := Lib.hid hML
 rw [hML]
 clear hML
 refine late_quiet (by kernel_rfl) (fun _ _ d _ _ h => by cases d <;> exact h) ⟨Q6, rfl⟩ [7, 8] 4 _ _ (by kernel_rfl) (by kernel_rfl) ?_
 change wpQuiet _ _ _ _ (_ :: _ :: []) _
 repeat go_big_quiet_step (fail)
 refine wpQuiet_nil ?_
 have hb9 := H0.out.below Q6.2
 obtain ⟨r0, r1, r2, r3, r4, r5⟩ := hb9.cell
 have fr := hb9.free
 obtain ⟨WF, hWF, haF, hkF⟩ := hb9.store A.name A.sport A.start (.slice ma ML mca) (.slice mb A.lp.length mcb) (.slice mc A.tg.length mcc)
 have HAF := Lib.hid haF
 have HKF := Lib.hid (hkF (fun q => q = g) rfl)
 clear haF hkF hb9
 have HBF := Lib.hid (show Below base w WF from below_at (below_step HB.out Q6.2) HBS.out (kept_ge HG.out HKF.out))
 refine late_two (i := 9) (j := 10) _ _ rfl rfl (by kernel_rfl) rfl rfl (fun K hK => ?_) (fun K hK => ?_)
 · go_simp
   refine hK _ _ (fun _ => ⟨Q6, rfl⟩) ?_
   clear hK K
   try simp only [Act.put, List.setIfInBounds_toArray, List.set_cons_zero, List.set_cons_succ]
   refine late_do (i := 10) _ rfl (by kernel_rfl) rfl (fun K hK => ?_)
   go_simp
   refine hK _ _ (fun _ => ⟨Q6, rfl⟩) ?_
   clear hK K
   try simp only [Act.put, List.setIfInBounds_toArray, List.set_cons_zero, List.set_cons_succ]
   refine late_do (i := 11) _ rfl (by kernel_rfl) rfl (fun K hK => ?_)
   go_simp
   refine hK _ _ (fun h => nomatch (show true = false from h)) ?_
   clear hK K
   try simp only [Act.put, List.setIfInBounds_toArray, List.set_cons_zero, List.set_cons_succ]
   refine late_do (i := 12) _ rfl (by kernel_rfl) rfl (fun K hK => ?_)
   go_simp
   refine hK _ _ (fun h => nomatch (show true = false from h)) ?_
   clear hK K
   try simp only [Act.put, List.setIfInBounds_toArray, List.set_cons_zero, List.set_cons_succ]
   refine late_done (by kernel_rfl) ?_ _
   clear hWF r0 r1 r2 r3 r4 r5 fr C0 C1 C2 C3 C4 C5 X0 X1 X2 X3
   go_wp2_with fail
   go_ret
   refine ⟨HBF.out, rfl, fun _ => ⟨ma, mb, mc, mca, mcb, mcc, ?_, HMI.out.kept HKF.out (fun q hq e => by have := HMF.out q hq; have := HGL.out; omega), fun q hq => by have := HMF.out q hq; have := HBS.out; omega⟩⟩
   simp only [HML.out]
   exact HAF.out
 · go_simp
   refine hK _ _ (fun _ => ⟨Q6, rfl⟩) ?_
   clear hK K
   try simp only [Act.put, List.setIfInBounds_toArray, List.set_cons_zero, List.set_cons_succ]
   refine late_two (i := 9) (j := 11) _ _ rfl rfl (by kernel_rfl) rfl rfl (fun K hK => ?_) (fun K hK => ?_)
   · go_simp
     refine hK _ _ (fun _ => ⟨Q6, rfl⟩) ?_
     clear hK K
     try simp only [Act.put, List.setIfInBounds_toArray, List.set_cons_zero, List.set_cons_succ]
     refine late_do (i := 11) _ rfl (by kernel_rfl) rfl (fun K hK => ?_)
     go_simp
     refine hK _ _ (fun h => nomatch (show true = false from h)) ?_
     clear hK K
     try simp only [Act.put, List.setIfInBounds_toArray, List.set_cons_zero, List.set_cons_succ]
     refine late_do (i := 12) _ rfl (by kernel_rfl) rfl (fun K hK => ?_)
     go_simp
     refine hK _ _ (fun h => nomatch (show true = false from h)) ?_
     clear hK K
     try simp only [Act.put, List.setIfInBounds_toArray, List.set_cons_zero, List.set_cons_succ]
     refine late_done (by kernel_rfl) ?_ _
     clear hWF r0 r1 r2 r3 r4 r5 fr C0 C1 C2 C3 C4 C5 X0 X1 X2 X3
     go_wp2_with fail
     go_ret
     refine ⟨HBF.out, rfl, fun _ => ⟨ma, mb, mc, mca, mcb, mcc, ?_, HMI.out.kept HKF.out (fun q hq e => by have := HMF.out q hq; have := HGL.out; omega), fun q hq => by have := HMF.out q hq; have := HBS.out; omega⟩⟩
     simp only [HML.out]
     exact HAF.out
   · go_simp
     refine hK _ _ (fun h => nomatch (show true = false from h)) ?_
     clear hK K
     try simp only [Act.put, List.setIfInBounds_toArray, List.set_cons_zero, List.set_cons_succ]
     refine late_do (i := 9) _ rfl (by kernel_rfl) rfl (fun K hK => ?_)
     go_simp
     refine hK _ _ (fun h => nomatch (show true = false from h)) ?_
     clear hK K
     try simp only [Act.put, List.setIfInBounds_toArray, List.set_cons_zero, List.set_cons_succ]
     refine late_do (i := 12) _ rfl (by kernel_rfl) rfl (fun K hK => ?_)
     go_simp
     refine hK _ _ (fun h => nomatch (show true = false from h)) ?_
     clear hK K
     try simp only [Act.put, List.setIfInBounds_toArray, List.set_cons_zero, List.set_cons_succ]
     refine late_done (by kernel_rfl) ?_ _
     clear hWF r0 r1 r2 r3 r4 r5 fr C0 C1 C2 C3 C4 C5 X0 X1 X2 X3
     go_wp2_with fail
     go_ret
     refine ⟨HBF.out, rfl, fun _ => ⟨ma, mb, mc, mca, mcb, mcc, ?_, HMI.out.kept HKF.out (fun q hq e => by have := HMF.out q hq; have := HGL.out; omega), fun q hq => by have := HMF.out q hq; have := HBS.out; omega⟩⟩
     simp only [HML.out]
     exact HAF.out
set_option maxHeartbeats 8000000 in
set_option maxRecDepth 100000 in
theorem ap_8 (n f t : Int) (s : ByteArray) (A : Acv) (base g : Nat) (w : World) (hM : Mine w base g A) (oA : AcOk A) (ht : ActText A) (hb : base ≤ w.heap.size) :
 Calls Tryz.prog 219 #[edV ⟨8, n, f, t, s⟩, .pointer (some ⟨g, 0, none⟩)] w fun e w' => LiR A ⟨8, n, f, t, s⟩ base g w e w' := by
 unfold LiR
 obtain ⟨a, b, c, ca, cb, cc, h0, h1, hca, hfr⟩ := hM.actIn ht (by have := oA.nsm; omega) (by have := oA.nlp; omega) (by have := oA.ntg; omega)
 have hg := hM.hg
 obtain ⟨V0, hV0, hb0, hs0, hl0⟩ := alloc_cells w #[.int .i64 8, .int .i64 n, .int .i64 f, .int .i64 t, .string s] 101
 have HB := Lib.hid hb0
 have HBS := Lib.hid hb
 have HG := Lib.hid hg
 have H0 := Lib.hid (h0.below hb0)
 have H1 := Lib.hid (h1.below hb0)
 have HOA := Lib.hid oA
 have HT := Lib.hid ht
 have HGL := Lib.hid h0.lt
 have HFR := Lib.hid (show ∀ q, (a = some q ∨ b = some q ∨ c = some q) → base ≤ q.block ∧ q.block ≠ g from hfr)
 have x0 := hl0 0 _ rfl
 have x1 := hl0 1 _ rfl
 have x2 := hl0 2 _ rfl
 have x3 := hl0 3 _ rfl
 obtain ⟨c0, c1, c2, c3, c4, c5⟩ := H0.out.cell
 have DL := Lib.hid (fun X : Ext V0 => cut_any A a b c ca cb cc f t X.1 (H1.out.below X.2) oA)
 rw [appE_8 rfl, appZ_8 rfl]
 simp only
 have HVS := Lib.hid hs0
 clear hb hg h0 h1 oA ht hb0 hl0 hM hfr
 unfold actV at DL
 unfold edV
 have X0 := Ext.ex x0
 have X1 := Ext.ex x1
 have X2 := Ext.ex x2
 have X3 := Ext.ex x3
 have C0 := Ext.ex c0
 have C1 := Ext.ex c1
 have C2 := Ext.ex c2
 have C3 := Ext.ex c3
 have C4 := Ext.ex c4
 have C5 := Ext.ex c5
 go_enter Tryz.func219, Tryz.ntmps219
 go_upto_region 3 with (fail)
 clear hV0 hs0 c0 c1 c2 c3 c4 c5 x0 x1 x2 x3
 refine late_start (s := 13) (C := fun w' => ∃ Y : Ext V0, w' = Y.1) (by kernel_rfl) ?_
 obtain ⟨Q0, hQ0⟩ : ∃ Y : Ext V0, ({ V0 with drawn := V0.drawn + 1 } : World) = Y.1 := ⟨⟨{ V0 with drawn := V0.drawn + 1 }, ⟨rfl, rfl, rfl, Nat.le_refl _, fun _ _ => rfl⟩⟩, rfl⟩
 rw [hQ0]
 clear hQ0
 refine late_quiet (by kernel_rfl) (fun _ _ d _ _ h => by cases d <;> exact h) ⟨Q0, rfl⟩ [0, 1, 4, 5, 6, 7] 9 _ _ (by kernel_rfl) (by kernel_rfl) ?_
 change wpQuiet _ _ _ _ (_ :: _ :: _ :: _ :: _ :: _ :: []) _
 repeat go_big_quiet_step (fail)
 refine wpQuiet_nil ?_
 refine late_do (i := 2) _ rfl (by kernel_rfl) rfl (fun K hK => ?_)
 go_simp
 refine hK _ _ (fun _ => ⟨Q0, rfl⟩) ?_
 clear hK K
 try simp only [Act.put, List.setIfInBounds_toArray, List.set_cons_zero, List.set_cons_succ]
 refine late_quiet (by kernel_rfl) (fun _ _ d _ _ h => by cases d <;> exact h) ⟨Q0, rfl⟩ [3] 7 _ _ (by kernel_rfl) (by kernel_rfl) ?_
 change wpQuiet _ _ _ _ (_ :: []) _
 repeat go_big_quiet_step (fail)
 refine wpQuiet_nil ?_
 refine late_do (i := 8) _ rfl (by kernel_rfl) rfl (fun K hK => ?_)
 go_simp
 refine (DL.out Q0).mono ?_
 rintro e w6 hret
 have hgen : Below Q0.1.heap.size Q0.1 w6 ∧ ∃ (nm : ByteArray) (sp st : Int) (ma mb mc : Option Addr) (na nb nc mca mcb mcc : Nat), e = .returned (.tuple #[.agg #[.string nm, .int .i64 sp, .int .i64 st, .slice ma na mca, .slice mb nb mcb, .slice mc nc mcc], .int .i64 (cutE A f t)]) ∧ (cutE A f t = 0 → ActIn w6 (partA A (cutL A.sm f t) f) ma mb mc ∧ (∀ q, (ma = some q ∨ mb = some q ∨ mc = some q) → Q0.1.heap.size ≤ q.block) ∧ actV (partA A (cutL A.sm f t) f) ma mb mc mca mcb mcc = .agg #[.string nm, .int .i64 sp, .int .i64 st, .slice ma na mca, .slice mb nb mcb, .slice mc nc mcc]) := by
  rcases hret with ⟨hok, hb, er, her, h⟩ | ⟨_, hne, rfl, hb⟩
  · have hce : cutE A f t = er := (cutE_ok hok).trans her
    rw [hce]
    rcases h with ⟨hne, rfl⟩ | ⟨rfl, ma, mb, mc, mca, mcb, mcc, rfl, hin, hfr⟩
    · exact ⟨hb, _, _, _, _, _, _, _, _, _, _, _, _, rfl, fun h => absurd h hne⟩
    · exact ⟨hb, _, _, _, ma, mb, mc, _, _, _, mca, mcb, mcc, rfl, fun _ => ⟨hin, hfr, rfl⟩⟩
  · exact ⟨hb, _, _, _, none, none, none, _, _, _, _, _, _, rfl, fun h => absurd h hne⟩
 obtain ⟨hb6, nm, sp', st', ma, mb, mc, na, nb, nc, mca, mcb, mcc, rfl, hgood⟩ := hgen
 obtain ⟨Q6, rfl⟩ : ∃ Z : Ext V0, w6 = Z.1 := ⟨⟨w6, below_step Q0.2 hb6⟩, rfl⟩
 have HGD := Lib.hid hgood
 obtain ⟨er, her⟩ : ∃ z, cutE A f t = z := ⟨_, rfl⟩
 have HER := Lib.hid her
 rw [her] at HGD ⊢
 have HQS := Lib.hid Q0.2.size
 refine hK _ _ (fun _ => ⟨Q6, rfl⟩) ?_
 clear hK K hgood hb6 hret her
 try simp only [Act.put, List.setIfInBounds_toArray, List.set_cons_zero, List.set_cons_succ]
 refine late_quiet (by kernel_rfl) (fun _ _ d _ _ h => by cases d <;> exact h) ⟨Q6, rfl⟩ [9, 10] 4 _ _ (by kernel_rfl) (by kernel_rfl) ?_
 change wpQuiet _ _ _ _ (_ :: _ :: []) _
 repeat go_big_quiet_step (fail)
 refine wpQuiet_nil ?_
 have hb9 := H0.out.below Q6.2
 obtain ⟨r0, r1, r2, r3, r4, r5⟩ := hb9.cell
 have fr := hb9.free
 obtain ⟨WF, hWF, haF, hkF⟩ := hb9.store nm sp' st' (.slice ma na mca) (.slice mb nb mcb) (.slice mc nc mcc)
 have HAF := Lib.hid haF
 have HKF := Lib.hid (hkF (fun q => q = g) rfl)
 clear haF hkF hb9
 have HBF := Lib.hid (show Below base w WF from below_at (below_step HB.out Q6.2) HBS.out (kept_ge HG.out HKF.out))
 refine late_two (i := 11) (j := 12) _ _ rfl rfl (by kernel_rfl) rfl rfl (fun K hK => ?_) (fun K hK => ?_)
 · go_simp
   refine hK _ _ (fun _ => ⟨Q6, rfl⟩) ?_
   clear hK K
   try simp only [Act.put, List.setIfInBounds_toArray, List.set_cons_zero, List.set_cons_succ]
   refine late_do (i := 12) _ rfl (by kernel_rfl) rfl (fun K hK => ?_)
   go_simp
   refine hK _ _ (fun _ => ⟨Q6, rfl⟩) ?_
   clear hK K
   try simp only [Act.put, List.setIfInBounds_toArray, List.set_cons_zero, List.set_cons_succ]
   refine late_do (i := 13) _ rfl (by kernel_rfl) rfl (fun K hK => ?_)
   go_simp
   refine hK _ _ (fun h => nomatch (show true = false from h)) ?_
   clear hK K
   try simp only [Act.put, List.setIfInBounds_toArray, List.set_cons_zero, List.set_cons_succ]
   refine late_do (i := 14) _ rfl (by kernel_rfl) rfl (fun K hK => ?_)
   go_simp
   refine hK _ _ (fun h => nomatch (show true = false from h)) ?_
   clear hK K
   try simp only [Act.put, List.setIfInBounds_toArray, List.set_cons_zero, List.set_cons_succ]
   refine late_done (by kernel_rfl) ?_ _
   clear hWF r0 r1 r2 r3 r4 r5 fr C0 C1 C2 C3 C4 C5 X0 X1 X2 X3
   go_wp2_with fail
   go_ret
   refine ⟨HBF.out, by rw [HER.out]; rfl, fun h0 => ?_⟩
   obtain ⟨g1, g2, g3⟩ := HGD.out (HER.out ▸ h0)
   have g4 : ∀ q, (ma = some q ∨ mb = some q ∨ mc = some q) → w.heap.size < q.block := fun q hq => by have h1 := g2 q hq; have h2 := HQS.out; have h3 := HVS.out; omega
   unfold actV at g3
   injection g3 with g3
   simp only [Array.mk.injEq, List.cons.injEq, Value.string.injEq, Value.int.injEq, Value.slice.injEq, true_and, and_true] at g3
   obtain ⟨rfl, rfl, rfl, rfl, rfl, rfl⟩ := g3
   exact ⟨ma, mb, mc, mca, mcb, mcc, HAF.out, g1.kept HKF.out (fun q hq e => by have := g4 q hq; have := HGL.out; omega), fun q hq => by have := g4 q hq; have := HBS.out; omega⟩
 · go_simp
   refine hK _ _ (fun _ => ⟨Q6, rfl⟩) ?_
   clear hK K
   try simp only [Act.put, List.setIfInBounds_toArray, List.set_cons_zero, List.set_cons_succ]
   refine late_two (i := 11) (j := 13) _ _ rfl rfl (by kernel_rfl) rfl rfl (fun K hK => ?_) (fun K hK => ?_)
   · go_simp
     refine hK _ _ (fun _ => ⟨Q6, rfl⟩) ?_
     clear hK K
     try simp only [Act.put, List.setIfInBounds_toArray, List.set_cons_zero, List.set_cons_succ]
     refine late_do (i := 13) _ rfl (by kernel_rfl) rfl (fun K hK => ?_)
     go_simp
     refine hK _ _ (fun h => nomatch (show true = false from h)) ?_
     clear hK K
     try simp only [Act.put, List.setIfInBounds_toArray, List.set_cons_zero, List.set_cons_succ]
     refine late_do (i := 14) _ rfl (by kernel_rfl) rfl (fun K hK => ?_)
     go_simp
     refine hK _ _ (fun h => nomatch (show true = false from h)) ?_
     clear hK K
     try simp only [Act.put, List.setIfInBounds_toArray, List.set_cons_zero, List.set_cons_succ]
     refine late_done (by kernel_rfl) ?_ _
     clear hWF r0 r1 r2 r3 r4 r5 fr C0 C1 C2 C3 C4 C5 X0 X1 X2 X3
     go_wp2_with fail
     go_ret
     refine ⟨HBF.out, by rw [HER.out]; rfl, fun h0 => ?_⟩
     obtain ⟨g1, g2, g3⟩ := HGD.out (HER.out ▸ h0)
     have g4 : ∀ q, (ma = some q ∨ mb = some q ∨ mc = some q) → w.heap.size < q.block := fun q hq => by have h1 := g2 q hq; have h2 := HQS.out; have h3 := HVS.out; omega
     unfold actV at g3
     injection g3 with g3
     simp only [Array.mk.injEq, List.cons.injEq, Value.string.injEq, Value.int.injEq, Value.slice.injEq, true_and, and_true] at g3
     obtain ⟨rfl, rfl, rfl, rfl, rfl, rfl⟩ := g3
     exact ⟨ma, mb, mc, mca, mcb, mcc, HAF.out, g1.kept HKF.out (fun q hq e => by have := g4 q hq; have := HGL.out; omega), fun q hq => by have := g4 q hq; have := HBS.out; omega⟩
   · go_simp
     refine hK _ _ (fun h => nomatch (show true = false from h)) ?_
     clear hK K
     try simp only [Act.put, List.setIfInBounds_toArray, List.set_cons_zero, List.set_cons_succ]
     refine late_do (i := 11) _ rfl (by kernel_rfl) rfl (fun K hK => ?_)
     go_simp
     refine hK _ _ (fun h => nomatch (show true = false from h)) ?_
     clear hK K
     try simp only [Act.put, List.setIfInBounds_toArray, List.set_cons_zero, List.set_cons_succ]
     refine late_do (i := 14) _ rfl (by kernel_rfl) rfl (fun K hK => ?_)
     go_simp
     refine hK _ _ (fun h => nomatch (show true = false from h)) ?_
     clear hK K
     try simp only [Act.put, List.setIfInBounds_toArray, List.set_cons_zero, List.set_cons_succ]
     refine late_done (by kernel_rfl) ?_ _
     clear hWF r0 r1 r2 r3 r4 r5 fr C0 C1 C2 C3 C4 C5 X0 X1 X2 X3
     go_wp2_with fail
     go_ret
     refine ⟨HBF.out, by rw [HER.out]; rfl, fun h0 => ?_⟩
     obtain ⟨g1, g2, g3⟩ := HGD.out (HER.out ▸ h0)
     have g4 : ∀ q, (ma = some q ∨ mb = some q ∨ mc = some q) → w.heap.size < q.block := fun q hq => by have h1 := g2 q hq; have h2 := HQS.out; have h3 := HVS.out; omega
     unfold actV at g3
     injection g3 with g3
     simp only [Array.mk.injEq, List.cons.injEq, Value.string.injEq, Value.int.injEq, Value.slice.injEq, true_and, and_true] at g3
     obtain ⟨rfl, rfl, rfl, rfl, rfl, rfl⟩ := g3
     exact ⟨ma, mb, mc, mca, mcb, mcc, HAF.out, g1.kept HKF.out (fun q hq e => by have := g4 q hq; have := HGL.out; omega), fun q hq => by have := g4 q hq; have := HBS.out; omega⟩
end Go.Proofs.YtjnfccphodjfiaaGreat

/- A text of this claim. -/
namespace Go.Proofs.YtjnfccphodjfiaaGreat
open Go.RowKit Go.BigFrame
open Tr (inR Ed)
def apA (A : Acv) (x : Ed) : Int := if chkA A ≠ 0 then chkA A else chkE x
def appP (A : Acv) (x : Ed) : Acv := if x.k = 11 then { A with lp := putP ⟨x.f, x.t, x.s⟩ A.lp } else appZ A x
theorem chk_lap {x : Ed} (hk : x.k = 11) (h : chkE x = 0) : 0 ≤ x.f ∧ x.f < x.t ∧ titleB x.s = true := by
 unfold chkE at h
 rw [if_neg (by omega)] at h
 split at h
 · omega
 · unfold fieldE at h
   rw [if_neg (by omega), if_neg (by omega), if_neg (by omega), if_neg (by omega), if_neg (by omega), if_neg (by omega), if_neg (by omega), if_neg (by omega)] at h
   split at h
   · omega
   · split at h
     · rename_i h1 h2
       exact ⟨by omega, by omega, h2⟩
     · omega
theorem appP_same {A : Acv} {x : Ed} (hA : AcOk A) (hk : chkE x = 0) : chkA (appP A x) = chkA (appZ A x) ∧ (chkA (appZ A x) = 0 → appP A x = appZ A x) := by
 unfold appP
 by_cases h : x.k = 11
 · rw [if_pos h, appZ_11 h]
   obtain ⟨h1, h2, h3⟩ := chk_lap h hk
   obtain ⟨e1, e2⟩ := lap_same A ⟨x.f, x.t, x.s⟩ hA h1 h2 h3
   exact ⟨e1, fun h0 => by rw [e2 h0]⟩
 · rw [if_neg h]
   exact ⟨rfl, fun _ => rfl⟩
theorem apE_bad {A : Acv} {x : Ed} (h : apA A x ≠ 0) : apE A x = apA A x ∧ apZ A x = Az := by
 have e : apE A x = apA A x := by
  unfold apE apA at *
  by_cases h1 : chkA A ≠ 0
  · rw [if_pos h1, if_pos h1]
  · rw [if_neg h1] at h ⊢
    rw [if_neg h1, if_pos h]
 exact ⟨e, by unfold apZ; rw [e, if_neg h]⟩
theorem apA_zero {A : Acv} {x : Ed} (h : apA A x = 0) : chkA A = 0 ∧ chkE x = 0 := by
 unfold apA at h
 by_cases h1 : chkA A = 0
 · rw [if_neg (by simpa using h1)] at h
   exact ⟨h1, h⟩
 · rw [if_pos h1] at h
   exact absurd h h1
theorem apE_ok {A : Acv} {x : Ed} (h : apA A x = 0) : apE A x = if appE A x ≠ 0 then appE A x else chkA (appZ A x) := by
 obtain ⟨h1, h2⟩ := apA_zero h
 unfold apE
 rw [if_neg (by simpa using h1), if_neg (by simpa using h2)]
def ActResF (Z : Acv) (er : Int) (w : World) (e : Ending) (w' : World) : Prop :=
 Below w.heap.size w w' ∧ ∃ a b c ca cb cc, e = .returned (.tuple #[actV Z a b c ca cb cc, .int .i64 er]) ∧ ActIn w' Z a b c ∧ ∀ q, (a = some q ∨ b = some q ∨ c = some q) → w.heap.size ≤ q.block
theorem ActResF.bad {w : World} {er : Int} {w' : World} (hb : Below w.heap.size w w') : ActResF Az er w (.returned (.tuple #[ac0, .int .i64 er])) w' := ⟨hb, none, none, none, 0, 0, 0, by rw [actV_z], actIn_z w', fun q hq => by rcases hq with h | h | h <;> cases h⟩
theorem ActResF.res {Z : Acv} {er : Int} {w : World} {e : Ending} {w' : World} (h : ActResF Z er w e w') : ActRes Z er w e w' := by
 obtain ⟨hb, a, b, c, ca, cb, cc, he, hi, _⟩ := h
 exact ⟨hb, a, b, c, ca, cb, cc, he, hi⟩
def LiP (A : Acv) (x : Ed) (base g : Nat) (w : World) (e : Ending) (w' : World) : Prop :=
 Below base w w' ∧ e = .returned (.int .i64 (appE A x)) ∧ (appE A x = 0 → Lies w' base g (appP A x))
theorem LiR.p {A : Acv} {x : Ed} {base g : Nat} {w : World} {e : Ending} {w' : World} (h : LiR A x base g w e w') (hk : x.k ≠ 11) : LiP A x base g w e w' := by
 obtain ⟨h1, h2, h3⟩ := h
 exact ⟨h1, h2, fun h0 => by unfold appP; rw [if_neg hk]; exact h3 h0⟩
set_option maxHeartbeats 8000000 in
set_option maxRecDepth 100000 in
theorem applyBad_any (x : Ed) (A : Acv) (a b c : Option Addr) (ca cb cc : Nat) (w : World) (hA : ActIn w A a b c) (hs : x.s.size ≤ maxLen) (hne : apA A x ≠ 0) :
 Calls Tryz.prog 7 #[actV A a b c ca cb cc, edV x] w fun e w' => ActResF (apZ A x) (apE A x) w e w' := by
 rw [(apE_bad hne).1, (apE_bad hne).2]
 obtain ⟨k, n, f, t, s⟩ := x
 obtain ⟨V0, hV0, hb0, hs0, ha0⟩ := alloc_ac w A.name A.sport A.start (.slice a A.sm.length ca) (.slice b A.lp.length cb) (.slice c A.tg.length cc)
 obtain ⟨V1, hV1, hb1, hs1, hl1⟩ := alloc_cells V0 #[.int .i64 k, .int .i64 n, .int .i64 f, .int .i64 t, .string s] 28
 obtain ⟨V2, hV2, hb2, hs2, ha2⟩ := alloc_ac V1 ⟨#[]⟩ 0 0 (.slice none 0 0) (.slice none 0 0) (.slice none 0 0)
 have hs11 : V1.heap.size = w.heap.size + 2 := by omega
 rw [hs0] at hl1
 rw [hs11] at ha2
 have hA0 := (ha0.below hb1).below hb2
 have HB := Lib.hid (below_step (below_step hb0 hb1) hb2)
 have HSZ := Lib.hid (show V2.heap.size = w.heap.size + 3 from by omega)
 have HIA := Lib.hid (hA.below HB.out)
 have HA2 := Lib.hid ha2
 obtain ⟨eA, heA⟩ : ∃ e, chkA A = e := ⟨_, rfl⟩
 obtain ⟨eB, heB⟩ : ∃ e, chkE ⟨k, n, f, t, s⟩ = e := ⟨_, rfl⟩
 have DA := Lib.hid (fun X : Ext V2 => show Calls Tryz.prog 32 #[.agg #[.string A.name, .int .i64 A.sport, .int .i64 A.start, .slice a A.sm.length ca, .slice b A.lp.length cb, .slice c A.tg.length cc]] X.1 fun e w'' => e = .returned (.int .i64 eA) ∧ ∃ Y : Ext V2, w'' = Y.1 from by
  have h := check_any A a b c ca cb cc X.1 (HIA.out.below X.2)
  unfold ChkG actV at h
  rw [heA] at h
  exact X.calls h)
 have DB := Lib.hid (fun X : Ext V2 => show Calls Tryz.prog 9 #[.agg #[.int .i64 k, .int .i64 n, .int .i64 f, .int .i64 t, .string s]] X.1 fun e w'' => e = .returned (.int .i64 eB) ∧ ∃ Y : Ext V2, w'' = Y.1 from by
  have h := checkEdit_any ⟨k, n, f, t, s⟩ X.1 hs
  unfold edV at h
  rw [heB] at h
  exact X.calls h)
 obtain ⟨z0, z1, z2, z3, z4, z5⟩ := hA0.cell
 have A0 := Ext.ex z0
 have A1 := Ext.ex z1
 have A2 := Ext.ex z2
 have A3 := Ext.ex z3
 have A4 := Ext.ex z4
 have A5 := Ext.ex z5
 have B0 := Ext.ex (below_cell hb2 (hl1 0 _ rfl))
 have B1 := Ext.ex (below_cell hb2 (hl1 1 _ rfl))
 have B2 := Ext.ex (below_cell hb2 (hl1 2 _ rfl))
 have B3 := Ext.ex (below_cell hb2 (hl1 3 _ rfl))
 have B4 := Ext.ex (below_cell hb2 (hl1 4 _ rfl))
 have her : apA A ⟨k, n, f, t, s⟩ = if eA ≠ 0 then eA else eB := by unfold apA; rw [heA, heB]
 obtain ⟨er, hee⟩ : ∃ e, apA A ⟨k, n, f, t, s⟩ = e := ⟨_, rfl⟩
 have HER := Lib.hid (hee.symm.trans her)
 rw [hee] at hne ⊢
 clear hA hs hb0 hb1 hb2 ha0 ha2 hl1 hA0 hs1 hs2 z0 z1 z2 z3 z4 z5 heA heB her hee
 unfold actV
 unfold edV
 go_enter Tryz.func7, Tryz.ntmps7
 go_upto_region 1 with (fail)
 clear hV0 hV1 hV2 hs0 hs11
 refine ext_wp (W := V2) fun X => ?_
 refine held_start (C := fun w' => ∃ Z : Ext V2, w' = Z.1) (by kernel_rfl) ?_
 obtain ⟨Z0, hZ0⟩ : ∃ Z : Ext V2, ({ X.1 with drawn := X.1.drawn + 1 } : World) = Z.1 := ⟨⟨{ X.1 with drawn := X.1.drawn + 1 }, below_step X.2 ⟨rfl, rfl, rfl, Nat.le_refl _, fun _ _ => rfl⟩⟩, rfl⟩
 rw [hZ0]
 clear hZ0
 refine held_quiet (by kernel_rfl) (fun _ _ d _ _ h => by cases d <;> exact h) ⟨Z0, rfl⟩ [0, 2] 5 _ _ (by kernel_rfl) ?_
 change wpQuiet _ _ _ _ (_ :: _ :: []) _
 repeat go_big_quiet_step (fail)
 refine wpQuiet_nil ?_
 refine held_do (i := 1) _ rfl (by kernel_rfl) rfl (fun K hK => ?_)
 go_simp
 refine (DA.out Z0).mono ?_
 rintro e w1 ⟨rfl, Z1, rfl⟩
 refine hK _ _ ⟨Z1, rfl⟩ ?_
 clear hK K
 try simp only [Act.put, List.setIfInBounds_toArray, List.set_cons_zero, List.set_cons_succ]
 refine held_do (i := 3) _ rfl (by kernel_rfl) rfl (fun K hK => ?_)
 go_simp
 refine (DB.out Z1).mono ?_
 rintro e w1 ⟨rfl, Z2, rfl⟩
 refine hK _ _ ⟨Z2, rfl⟩ ?_
 clear hK K
 try simp only [Act.put, List.setIfInBounds_toArray, List.set_cons_zero, List.set_cons_succ]
 refine held_do (i := 4) _ rfl (by kernel_rfl) rfl (fun K hK => ?_)
 go_simp
 obtain ⟨Wb, hWb, hwb1, hwb2, hwq⟩ := alloc_cells Z2.1 #[.int .i64 eA, .int .i64 eB] 29
 rw [hWb]
 obtain ⟨Z3, rfl⟩ : ∃ Z : Ext V2, Wb = Z.1 := ⟨⟨Wb, below_step Z2.2 hwb1⟩, rfl⟩
 have DO := Lib.hid (orE_any [eA, eB] Z2.1.heap.size 2 Z3.1 (by simp) (fun i v hv => hwq i _ (by
  match i, hv with
  | 0, h => injection h with h; subst h; rfl
  | 1, h => injection h with h; subst h; rfl
  | n + 2, h => simp at h)))
 rw [orL_two] at DO
 obtain ⟨eO, heO⟩ : ∃ e, (if eA ≠ 0 then eA else eB) = e := ⟨_, rfl⟩
 rw [heO] at DO
 refine hK _ _ ⟨Z3, rfl⟩ ?_
 clear hK K hWb hwb1 hwb2 hwq
 try simp only [Act.put, List.setIfInBounds_toArray, List.set_cons_zero, List.set_cons_succ]
 refine held_do (i := 5) _ rfl (by kernel_rfl) rfl (fun K hK => ?_)
 go_simp
 refine DO.out.mono ?_
 rintro e w1 ⟨rfl, rfl⟩
 refine hK _ _ ⟨Z3, rfl⟩ ?_
 clear hK K DO
 try simp only [Act.put, List.setIfInBounds_toArray, List.set_cons_zero, List.set_cons_succ]
 refine held_quiet (by kernel_rfl) (fun _ _ d _ _ h => by cases d <;> exact h) ⟨Z3, rfl⟩ [6] 0 _ _ (by kernel_rfl) ?_
 change wpQuiet _ _ _ _ (_ :: []) _
 repeat go_big_quiet_step (fail)
 refine wpQuiet_nil ?_
 refine wpAnyH_done (by kernel_rfl) ?_ _
 clear DA DB X Z0 Z1
 have u1 : (eO != 0) = true := by rw [bne_iff_ne, ← heO, ← HER.out]; exact hne
 have HEO := Lib.hid (show eO = er from by rw [← heO, HER.out])
 clear heO hne
 have hR := HA2.out.below Z3.2
 obtain ⟨r0, r1, r2, r3, r4, r5⟩ := hR.cell
 have fr := hR.free
 obtain ⟨WF, hWF, haF, hkF⟩ := hR.store ⟨#[]⟩ 0 0 (.slice none 0 0) (.slice none 0 0) (.slice none 0 0)
 have HAF := Lib.hid haF
 have HKF := Lib.hid (hkF (fun q => q = w.heap.size + 2) rfl)
 clear haF hkF hR
 have HBF := Lib.hid (show Below w.heap.size w WF from
  have h1 := below_step HB.out Z3.2
  Kept.below h1 HKF.out h1.size (fun k hk e => by omega))
 go_wp2_with fail
 have q := HAF.out.cell
 exact bodyPost_ret (v := .tuple #[ac0, .int .i64 eO]) (by simp [results, Tryz.results7, go_sem, q, ac0]) rfl (by rw [HEO.out]; exact ActResF.bad HBF.out)
set_option maxHeartbeats 8000000 in
set_option maxRecDepth 100000 in
theorem apply_go (x : Ed) (T : TypeId) (fa : FuncId) (hE : edI x = .iface T (edV x))
 (hm : ∀ m w, (method (m + 1) T (edV x) "harrier/trail.apply").run Tryz.prog w = .ok (fa, edV x) w)
 (hf : ∀ (args : Array Value) w, (callFunc fa args).run Tryz.prog w = .ok (.enter fa args) w)
 (hP : ∀ (A : Acv) (base g : Nat) (w : World), Mine w base g A → AcOk A → ActText A → base ≤ w.heap.size → Calls Tryz.prog fa #[edV x, .pointer (some ⟨g, 0, none⟩)] w fun e w' => LiP A x base g w e w')
 (A : Acv) (a b c : Option Addr) (ca cb cc : Nat) (w : World) (hA : ActIn w A a b c) (hs : x.s.size ≤ maxLen) (h0 : apA A x = 0) :
 Calls Tryz.prog 7 #[actV A a b c ca cb cc, edV x] w fun e w' => ActResF (apZ A x) (apE A x) w e w' := by
 have hm := hm 336
 simp only [Nat.reduceAdd] at hm
 obtain ⟨oA, oE⟩ := apA_zero h0
 have HOA := Lib.hid (chkA_zero.1 oA)
 have HTX := Lib.hid hA.text
 have DE := Lib.hid (editOf_any x)
 rw [hE] at DE
 have HP := Lib.hid hP
 have HEQ := Lib.hid (apE_ok h0)
 have HSA := Lib.hid (appP_same HOA.out oE)
 obtain ⟨eP, heP⟩ : ∃ z, appE A x = z := ⟨_, rfl⟩
 have HEP := Lib.hid heP
 obtain ⟨Z, hZ⟩ : ∃ Z, appP A x = Z := ⟨_, rfl⟩
 have HZ := Lib.hid hZ
 obtain ⟨rz, hrz⟩ : ∃ z, apZ A x = z := ⟨_, rfl⟩
 obtain ⟨re, hre⟩ : ∃ z, apE A x = z := ⟨_, rfl⟩
 have HRZ := Lib.hid (show rz = if re = 0 then appZ A x else Az from by rw [← hrz, ← hre]; rfl)
 have HRE := Lib.hid hre
 rw [hrz, hre]
 clear hP hE heP hZ hrz hre h0
 obtain ⟨k, n, f, t, s⟩ := x
 obtain ⟨V0, hV0, hb0, hs0, ha0⟩ := alloc_ac w A.name A.sport A.start (.slice a A.sm.length ca) (.slice b A.lp.length cb) (.slice c A.tg.length cc)
 obtain ⟨V1, hV1, hb1, hs1, hl1⟩ := alloc_cells V0 #[.int .i64 k, .int .i64 n, .int .i64 f, .int .i64 t, .string s] 28
 obtain ⟨V2, hV2, hb2, hs2, ha2⟩ := alloc_ac V1 ⟨#[]⟩ 0 0 (.slice none 0 0) (.slice none 0 0) (.slice none 0 0)
 have hs11 : V1.heap.size = w.heap.size + 2 := by omega
 rw [hs0] at hl1
 rw [hs11] at ha2
 have hA0 := (ha0.below hb1).below hb2
 have HB := Lib.hid (below_step (below_step hb0 hb1) hb2)
 have HSZ := Lib.hid (show V2.heap.size = w.heap.size + 3 from by omega)
 have HIA := Lib.hid (hA.below HB.out)
 have HA2 := Lib.hid ha2
 obtain ⟨eA, heA⟩ : ∃ e, chkA A = e := ⟨_, rfl⟩
 obtain ⟨eB, heB⟩ : ∃ e, chkE ⟨k, n, f, t, s⟩ = e := ⟨_, rfl⟩
 have DA := Lib.hid (fun X : Ext V2 => show Calls Tryz.prog 32 #[.agg #[.string A.name, .int .i64 A.sport, .int .i64 A.start, .slice a A.sm.length ca, .slice b A.lp.length cb, .slice c A.tg.length cc]] X.1 fun e w'' => e = .returned (.int .i64 eA) ∧ ∃ Y : Ext V2, w'' = Y.1 from by
  have h := check_any A a b c ca cb cc X.1 (HIA.out.below X.2)
  unfold ChkG actV at h
  rw [heA] at h
  exact X.calls h)
 have DB := Lib.hid (fun X : Ext V2 => show Calls Tryz.prog 9 #[.agg #[.int .i64 k, .int .i64 n, .int .i64 f, .int .i64 t, .string s]] X.1 fun e w'' => e = .returned (.int .i64 eB) ∧ ∃ Y : Ext V2, w'' = Y.1 from by
  have h := checkEdit_any ⟨k, n, f, t, s⟩ X.1 hs
  unfold edV at h
  rw [heB] at h
  exact X.calls h)
 obtain ⟨z0, z1, z2, z3, z4, z5⟩ := hA0.cell
 have A0 := Ext.ex z0
 have A1 := Ext.ex z1
 have A2 := Ext.ex z2
 have A3 := Ext.ex z3
 have A4 := Ext.ex z4
 have A5 := Ext.ex z5
 have B0 := Ext.ex (below_cell hb2 (hl1 0 _ rfl))
 have B1 := Ext.ex (below_cell hb2 (hl1 1 _ rfl))
 have B2 := Ext.ex (below_cell hb2 (hl1 2 _ rfl))
 have B3 := Ext.ex (below_cell hb2 (hl1 3 _ rfl))
 have B4 := Ext.ex (below_cell hb2 (hl1 4 _ rfl))
 rw [oA] at heA
 rw [oE] at heB
 subst heA heB
 clear hA hs hb0 hb1 hb2 ha0 ha2 hl1 hA0 hs1 hs2 z0 z1 z2 z3 z4 z5 oA oE
 unfold edV at hm DE
 unfold actV
 unfold edV
 go_enter Tryz.func7, Tryz.ntmps7
 go_upto_region 1 with (fail)
 clear hV0 hV1 hV2 hs0 hs11
 refine ext_wp (W := V2) fun X => ?_
 refine held_start (C := fun w' => ∃ Z : Ext V2, w' = Z.1) (by kernel_rfl) ?_
 obtain ⟨Z0, hZ0⟩ : ∃ Z : Ext V2, ({ X.1 with drawn := X.1.drawn + 1 } : World) = Z.1 := ⟨⟨{ X.1 with drawn := X.1.drawn + 1 }, below_step X.2 ⟨rfl, rfl, rfl, Nat.le_refl _, fun _ _ => rfl⟩⟩, rfl⟩
 rw [hZ0]
 clear hZ0
 refine held_quiet (by kernel_rfl) (fun _ _ d _ _ h => by cases d <;> exact h) ⟨Z0, rfl⟩ [0, 2] 5 _ _ (by kernel_rfl) ?_
 change wpQuiet _ _ _ _ (_ :: _ :: []) _
 repeat go_big_quiet_step (fail)
 refine wpQuiet_nil ?_
 refine held_do (i := 1) _ rfl (by kernel_rfl) rfl (fun K hK => ?_)
 go_simp
 refine (DA.out Z0).mono ?_
 rintro e w1 ⟨rfl, Z1, rfl⟩
 refine hK _ _ ⟨Z1, rfl⟩ ?_
 clear hK K
 try simp only [Act.put, List.setIfInBounds_toArray, List.set_cons_zero, List.set_cons_succ]
 refine held_do (i := 3) _ rfl (by kernel_rfl) rfl (fun K hK => ?_)
 go_simp
 refine (DB.out Z1).mono ?_
 rintro e w1 ⟨rfl, Z2, rfl⟩
 refine hK _ _ ⟨Z2, rfl⟩ ?_
 clear hK K
 try simp only [Act.put, List.setIfInBounds_toArray, List.set_cons_zero, List.set_cons_succ]
 refine held_do (i := 4) _ rfl (by kernel_rfl) rfl (fun K hK => ?_)
 go_simp
 obtain ⟨Wb, hWb, hwb1, hwb2, hwq⟩ := alloc_cells Z2.1 #[.int .i64 (0 : Int), .int .i64 (0 : Int)] 29
 rw [hWb]
 obtain ⟨Z3, rfl⟩ : ∃ Z : Ext V2, Wb = Z.1 := ⟨⟨Wb, below_step Z2.2 hwb1⟩, rfl⟩
 have DO := Lib.hid (orE_any [(0 : Int), (0 : Int)] Z2.1.heap.size 2 Z3.1 (by simp) (fun i v hv => hwq i _ (by
  match i, hv with
  | 0, h => injection h with h; subst h; rfl
  | 1, h => injection h with h; subst h; rfl
  | n + 2, h => simp at h)))
 rw [orL_two] at DO
 obtain ⟨eO, heO⟩ : ∃ e, (if (0 : Int) ≠ 0 then (0 : Int) else (0 : Int)) = e := ⟨_, rfl⟩
 rw [heO] at DO
 refine hK _ _ ⟨Z3, rfl⟩ ?_
 clear hK K hWb hwb1 hwb2 hwq
 try simp only [Act.put, List.setIfInBounds_toArray, List.set_cons_zero, List.set_cons_succ]
 refine held_do (i := 5) _ rfl (by kernel_rfl) rfl (fun K hK => ?_)
 go_simp
 refine DO.out.mono ?_
 rintro e w1 ⟨rfl, rfl⟩
 refine hK _ _ ⟨Z3, rfl⟩ ?_
 clear hK K DO
 try simp only [Act.put, List.setIfInBounds_toArray, List.set_cons_zero, List.set_cons_succ]
 refine held_quiet (by kernel_rfl) (fun _ _ d _ _ h => by cases d <;> exact h) ⟨Z3, rfl⟩ [6] 0 _ _ (by kernel_rfl) ?_
 change wpQuiet _ _ _ _ (_ :: []) _
 repeat go_big_quiet_step (fail)
 refine wpQuiet_nil ?_
 refine wpAnyH_done (by kernel_rfl) ?_ _
 clear DA DB X Z0 Z1
 obtain rfl : eO = 0 := by rw [← heO]; rfl
 clear heO
 have DCL := Lib.hid (show Calls Tryz.prog 33 #[.agg #[.string A.name, .int .i64 A.sport, .int .i64 A.start, .slice a A.sm.length ca, .slice b A.lp.length cb, .slice c A.tg.length cc]] Z3.1 fun e w'' => CloneRet A Z3.1 e w'' from by
  have h := cloneA_any A a b c ca cb cc Z3.1 (HIA.out.below Z3.2) (by have := HOA.out.nsm; omega) (by have := HOA.out.nlp; omega) (by have := HOA.out.ntg; omega)
  unfold actV at h
  exact h)
 go_wp2_with fail
 refine (DCL.out).mono ?_
 unfold CloneRet
 rintro e w2 ⟨⟨a1, b1, c1, ca1, cb1, cc1, rfl, ho3⟩, hb2⟩
 unfold actV
 obtain ⟨T0, hT⟩ : ∃ T, w2.heap.size = T := ⟨_, rfl⟩
 obtain ⟨W, hW, hbW, hsW, haW⟩ := alloc_ac w2 A.name A.sport A.start (.slice a1 A.sm.length ca1) (.slice b1 A.lp.length cb1) (.slice c1 A.tg.length cc1)
 obtain ⟨D0, hD0⟩ : ∃ D0, Z3.1.heap.size = D0 := ⟨_, rfl⟩
 have HD0 := Lib.hid hD0
 have hsz2 := hb2.size
 rw [hT] at haW hsz2
 rw [hD0] at ho3 hsz2
 have HT := Lib.hid hT
 have HBW := Lib.hid (show Below V2.heap.size V2 W from below_step Z3.2 (below_step hb2 hbW))
 have HBD := Lib.hid (show Below D0 Z3.1 W from hD0 ▸ below_step hb2 hbW)
 have HMI := Lib.hid (show Mine W D0 T0 A from by
  obtain ⟨B1, B2, hB1, hB2, hos, _, hol, _, hot⟩ := ho3.ex
  exact ⟨⟨a1, b1, c1, ca1, cb1, cc1, haW, hos.below hbW, (hol.weaken (by omega)).below hbW, (hot.weaken (by omega)).below hbW⟩, by omega⟩)
 have HDS := Lib.hid (show w.heap.size + 3 ≤ D0 ∧ D0 ≤ W.heap.size from by
  have h1 := HSZ.out
  have h2 := Z3.2.size
  have h3 := HBD.out.size
  have h4 := hbW.size
  omega)
 have b0 := B0 ⟨W, HBW.out⟩
 have b1' := B1 ⟨W, HBW.out⟩
 have b2' := B2 ⟨W, HBW.out⟩
 have b3' := B3 ⟨W, HBW.out⟩
 have b4' := B4 ⟨W, HBW.out⟩
 clear ho3 hb2 hbW hsW haW hD0 DCL B0 B1 B2 B3 B4 A0 A1 A2 A3 A4 A5 hsz2
 go_upto_region 5 with (fail)
 clear hW
 go_wp2_with fail
 refine (DE.out _).mono ?_
 rintro e w3 ⟨rfl, hb3⟩
 have HM3 := Lib.hid (HMI.out.below hb3)
 have HB3 := Lib.hid hb3
 have DAP := Lib.hid (HP.out A D0 T0 w3 HM3.out HOA.out HTX.out (by have := hb3.size; have := HDS.out; omega))
 unfold edV at DAP
 clear hb3 HP DE
 go_wp2_with fail
 refine (DAP.out).mono ?_
 unfold LiP
 rintro e w4 ⟨hb4, rfl, hli⟩
 rw [HEP.out] at hli ⊢
 have HB4 := Lib.hid hb4
 have HBX := Lib.hid (show Below D0 Z3.1 w4 from
  ⟨hb4.os.trans (HB3.out.os.trans HBD.out.os), hb4.tape.trans (HB3.out.tape.trans HBD.out.tape), hb4.output.trans (HB3.out.output.trans HBD.out.output), Nat.le_trans HBD.out.size (Nat.le_trans HB3.out.size hb4.size), fun k hk => (hb4.block k hk).trans ((HB3.out.block k (by have := HDS.out; omega)).trans (HBD.out.block k hk))⟩)
 have HBV := Lib.hid (show Below V2.heap.size V2 w4 from below_step Z3.2 (HD0.out ▸ HBX.out))
 have HLI := Lib.hid hli
 clear hb4 hli DAP
 by_cases hep : eP = 0
 case neg =>
  have u1 : (eP != 0) = true := by rw [bne_iff_ne]; exact hep
  have HZE := Lib.hid (show re = eP ∧ rz = Az from by
   have h1 : re = eP := by rw [← HRE.out, HEQ.out, HEP.out, if_pos hep]
   exact ⟨h1, by rw [HRZ.out, h1, if_neg hep]⟩)
  clear hep
  have hR := HA2.out.below HBV.out
  obtain ⟨r0, r1, r2, r3, r4, r5⟩ := hR.cell
  have fr := hR.free
  obtain ⟨WF, hWF, haF, hkF⟩ := hR.store ⟨#[]⟩ 0 0 (.slice none 0 0) (.slice none 0 0) (.slice none 0 0)
  have HAF := Lib.hid haF
  have HKF := Lib.hid (hkF (fun q => q = w.heap.size + 2) rfl)
  clear haF hkF hR
  have HBF := Lib.hid (show Below w.heap.size w WF from
   have h1 := below_step HB.out HBV.out
   Kept.below h1 HKF.out h1.size (fun k hk e => by omega))
  go_wp2_with fail
  have q := HAF.out.cell
  exact bodyPost_ret (v := .tuple #[ac0, .int .i64 eP]) (by simp [results, Tryz.results7, go_sem, q, ac0]) rfl (by rw [HZE.out.1, HZE.out.2]; exact ActResF.bad HBF.out)
 subst hep
 obtain ⟨za, zb, zc, zca, zcb, zcc, hzB, hzI, hzF⟩ := HLI.out rfl
 rw [HZ.out] at hzB hzI
 have HZB := Lib.hid hzB
 have HZI := Lib.hid hzI
 have HZF := Lib.hid hzF
 obtain ⟨er, her⟩ : ∃ z, chkA Z = z := ⟨_, rfl⟩
 have HER := Lib.hid her
 have DK := Lib.hid (show Calls Tryz.prog 32 #[.agg #[.string Z.name, .int .i64 Z.sport, .int .i64 Z.start, .slice za Z.sm.length zca, .slice zb Z.lp.length zcb, .slice zc Z.tg.length zcc]] w4 fun e w'' => e = .returned (.int .i64 er) ∧ Below w4.heap.size w4 w'' from by
  have h := check_any Z za zb zc zca zcb zcc w4 HZI.out
  unfold ChkG actV at h
  rw [her] at h
  exact h)
 have HZE := Lib.hid (show re = er ∧ (er = 0 → rz = Z) ∧ (er ≠ 0 → rz = Az) from by
  obtain ⟨e1, e2⟩ := HSA.out
  rw [HZ.out] at e1 e2
  have h1 : re = er := by
   rw [← HRE.out, HEQ.out, HEP.out, if_neg (by simp), ← e1]
   exact her
  refine ⟨h1, fun h => ?_, fun h => ?_⟩
  · rw [HRZ.out, h1, if_pos h, e2 (by rw [← e1, her]; exact h)]
  · rw [HRZ.out, h1, if_neg h])
 obtain ⟨y0, y1, y2, y3, y4, y5⟩ := hzB.cell
 clear hzB hzI hzF her
 go_wp2_with fail
 refine (DK.out).mono ?_
 rintro e w5 ⟨rfl, hb5⟩
 have HZB5 := Lib.hid (HZB.out.below hb5)
 have HZI5 := Lib.hid (HZI.out.below hb5)
 have HBV5 := Lib.hid (below_step HBV.out hb5)
 clear y0 y1 y2 y3 y4 y5 hb5 DK
 obtain ⟨y0, y1, y2, y3, y4, y5⟩ := HZB5.out.cell
 have hR := HA2.out.below HBV5.out
 obtain ⟨r0, r1, r2, r3, r4, r5⟩ := hR.cell
 have fr := hR.free
 by_cases her : er = 0
 · have HZ1 := Lib.hid (show rz = Z ∧ re = 0 from ⟨HZE.out.2.1 her, HZE.out.1.trans her⟩)
   clear HZE
   subst her
   obtain ⟨WF, hWF, haF, hkF⟩ := hR.store Z.name Z.sport Z.start (.slice za Z.sm.length zca) (.slice zb Z.lp.length zcb) (.slice zc Z.tg.length zcc)
   have HAF := Lib.hid haF
   have HKF := Lib.hid (hkF (fun q => q = w.heap.size + 2) rfl)
   clear haF hkF hR
   have HBF := Lib.hid (show Below w.heap.size w WF from
    have h1 := below_step HB.out HBV5.out
    Kept.below h1 HKF.out h1.size (fun k hk e => by omega))
   have HIF := Lib.hid (show ActIn WF Z za zb zc from by
    exact HZI5.out.kept HKF.out (fun q hq e => by have := HZF.out q hq; have := HDS.out; omega))
   go_wp2_with fail
   have q := HAF.out.cell
   exact bodyPost_ret (v := .tuple #[.agg #[.string Z.name, .int .i64 Z.sport, .int .i64 Z.start, .slice za Z.sm.length zca, .slice zb Z.lp.length zcb, .slice zc Z.tg.length zcc], .int .i64 0]) (by simp [results, Tryz.results7, go_sem, q]) rfl (by rw [HZ1.out.1, HZ1.out.2]; exact ⟨HBF.out, za, zb, zc, zca, zcb, zcc, rfl, HIF.out, fun q hq => by have := HZF.out q hq; have := HDS.out; omega⟩)
 · have u2 : (er != 0) = true := by rw [bne_iff_ne]; exact her
   obtain ⟨WF, hWF, haF, hkF⟩ := hR.store ⟨#[]⟩ 0 0 (.slice none 0 0) (.slice none 0 0) (.slice none 0 0)
   have HAF := Lib.hid haF
   have HKF := Lib.hid (hkF (fun q => q = w.heap.size + 2) rfl)
   have HNE := Lib.hid her
   clear haF hkF hR her
   have HBF := Lib.hid (show Below w.heap.size w WF from
    have h1 := below_step HB.out HBV5.out
    Kept.below h1 HKF.out h1.size (fun k hk e => by omega))
   go_wp2_with fail
   have q := HAF.out.cell
   exact bodyPost_ret (v := .tuple #[ac0, .int .i64 er]) (by simp [results, Tryz.results7, go_sem, q, ac0]) rfl (by rw [HZE.out.1, HZE.out.2.2 HNE.out]; exact ActResF.bad HBF.out)
theorem putP_mem {x y : Lp} {l : List Lp} (h : y ∈ putP x l) : y = x ∨ y ∈ l := by
 unfold putP at h
 rcases List.mem_append.1 h with h | h
 · rcases List.mem_append.1 h with h | h
   · exact Or.inr (List.mem_of_mem_take h)
   · exact Or.inl (List.mem_singleton.1 h)
 · exact Or.inr (List.mem_of_mem_drop h)
theorem lap_p {f t : Int} {s : ByteArray} {A : Acv} {base g : Nat} {w : World} {e : Ending} {w' : World} (_hk : chkE ⟨11, 0, f, t, s⟩ = 0) (oA : AcOk A) (ht : ActText A) (hs : s.size ≤ maxLen) (h : Below base w w' ∧ e = .returned (.int .i64 0) ∧ Mine w' base g { A with lp := putP ⟨f, t, s⟩ A.lp }) : LiP A ⟨11, 0, f, t, s⟩ base g w e w' := by
 obtain ⟨h1, h2, h3⟩ := h
 have n1 := oA.nsm
 have n2 := oA.nlp
 have n3 := oA.ntg
 refine ⟨h1, by rw [appE_11 rfl]; exact h2, fun _ => ?_⟩
 unfold appP
 rw [if_pos rfl]
 refine h3.lies ⟨ht.name, fun p hp => ?_, ht.tags⟩ ?_ ?_ ?_
 · rcases putP_mem hp with rfl | hp
   · exact hs
   · exact ht.titles p hp
 · show A.sm.length ≤ _
   omega
 · show (putP _ A.lp).length ≤ _
   rw [putP_len]
   omega
 · show A.tg.length ≤ _
   omega
theorem apply_f (x : Ed) (A : Acv) (a b c : Option Addr) (ca cb cc : Nat) (w : World) (hA : ActIn w A a b c) (hs : x.s.size ≤ maxLen) :
 Calls Tryz.prog 7 #[actV A a b c ca cb cc, edV x] w fun e w' => ActResF (apZ A x) (apE A x) w e w' := by
 by_cases h0 : apA A x = 0
 case neg => exact applyBad_any x A a b c ca cb cc w hA hs h0
 have hk := (apA_zero h0).2
 obtain ⟨k, n, f, t, s⟩ := x
 rcases kind_ways _ hk with h | h | h | h | h | h | h | h | h | h | h | h
 · obtain rfl : k = 1 := h
   exact apply_go _ 98 166 rfl (fun _ _ => by kernel_rfl) (fun _ _ => by kernel_rfl) (fun A base g w hM oA ht hb => ((ap_1 n f t s A base g w hM oA hb).mono fun _ _ h => (h.lies hk oA ht hs).p (show (1 : Int) ≠ 11 by decide))) A a b c ca cb cc w hA hs h0
 · obtain rfl : k = 2 := h
   exact apply_go _ 99 177 rfl (fun _ _ => by kernel_rfl) (fun _ _ => by kernel_rfl) (fun A base g w hM oA ht hb => ((ap_2 n f t s A base g w hM oA hb).mono fun _ _ h => (h.lies hk oA ht hs).p (show (2 : Int) ≠ 11 by decide))) A a b c ca cb cc w hA hs h0
 · obtain rfl : k = 3 := h
   exact apply_go _ 98 166 rfl (fun _ _ => by kernel_rfl) (fun _ _ => by kernel_rfl) (fun A base g w hM oA ht hb => ((ap_3 n f t s A base g w hM oA hb).mono fun _ _ h => (h.lies hk oA ht hs).p (show (3 : Int) ≠ 11 by decide))) A a b c ca cb cc w hA hs h0
 · obtain rfl : k = 4 := h
   exact apply_go _ 98 166 rfl (fun _ _ => by kernel_rfl) (fun _ _ => by kernel_rfl) (fun A base g w hM oA ht hb => ((ap_4 n f t s A base g w hM oA hb).mono fun _ _ h => (h.lies hk oA ht hs).p (show (4 : Int) ≠ 11 by decide))) A a b c ca cb cc w hA hs h0
 · obtain rfl : k = 5 := h
   have hr := chk_rng (lo := (-86399999999)) (hi := 86399999999) (show ¬ ((5 : Int) < 1 ∨ 12 < (5 : Int)) by decide) rfl hk
   exact apply_go _ 99 177 rfl (fun _ _ => by kernel_rfl) (fun _ _ => by kernel_rfl) (fun A base g w hM oA ht hb => ((ap_5 n f t s A base g w hM oA hb hr).mono fun _ _ h => (h.lies hk oA ht hs).p (show (5 : Int) ≠ 11 by decide))) A a b c ca cb cc w hA hs h0
 · obtain rfl : k = 6 := h
   have hr := chk_rng (lo := (-200000)) (hi := 200000) (show ¬ ((6 : Int) < 1 ∨ 12 < (6 : Int)) by decide) rfl hk
   exact apply_go _ 99 177 rfl (fun _ _ => by kernel_rfl) (fun _ _ => by kernel_rfl) (fun A base g w hM oA ht hb => ((ap_6 n f t s A base g w hM oA hb hr).mono fun _ _ h => (h.lies hk oA ht hs).p (show (6 : Int) ≠ 11 by decide))) A a b c ca cb cc w hA hs h0
 · obtain rfl : k = 7 := h
   have hr := chk_rng (lo := 1) (hi := 3) (show ¬ ((7 : Int) < 1 ∨ 12 < (7 : Int)) by decide) rfl hk
   simp only at hr
   have h3 : n = 1 ∨ n = 2 ∨ n = 3 := by omega
   rcases h3 with rfl | rfl | rfl
   · exact apply_go _ 99 177 rfl (fun _ _ => by kernel_rfl) (fun _ _ => by kernel_rfl) (fun A base g w hM oA ht hb => ((ap_7_1 f t s A base g w hM oA hb).mono fun _ _ h => (h.lies hk oA ht hs).p (show (7 : Int) ≠ 11 by decide))) A a b c ca cb cc w hA hs h0
   · exact apply_go _ 99 177 rfl (fun _ _ => by kernel_rfl) (fun _ _ => by kernel_rfl) (fun A base g w hM oA ht hb => ((ap_7_2 f t s A base g w hM oA hb).mono fun _ _ h => (h.lies hk oA ht hs).p (show (7 : Int) ≠ 11 by decide))) A a b c ca cb cc w hA hs h0
   · exact apply_go _ 99 177 rfl (fun _ _ => by kernel_rfl) (fun _ _ => by kernel_rfl) (fun A base g w hM oA ht hb => ((ap_7_3 f t s A base g w hM oA hb).mono fun _ _ h => (h.lies hk oA ht hs).p (show (7 : Int) ≠ 11 by decide))) A a b c ca cb cc w hA hs h0
 · obtain rfl : k = 8 := h
   exact apply_go _ 101 219 rfl (fun _ _ => by kernel_rfl) (fun _ _ => by kernel_rfl) (fun A base g w hM oA ht hb => ((ap_8 n f t s A base g w hM oA ht hb).mono fun _ _ h => h.p (show (8 : Int) ≠ 11 by decide))) A a b c ca cb cc w hA hs h0
 · obtain rfl : k = 9 := h
   have hr := chk_rng (lo := 0) (hi := 50) (show ¬ ((9 : Int) < 1 ∨ 12 < (9 : Int)) by decide) rfl hk
   exact apply_go _ 100 181 rfl (fun _ _ => by kernel_rfl) (fun _ _ => by kernel_rfl) (fun A base g w hM oA ht hb => ((ap_9 n f t s A base g w hM oA ht hb hr).mono fun _ _ h => h.p (show (9 : Int) ≠ 11 by decide))) A a b c ca cb cc w hA hs h0
 · obtain rfl : k = 10 := h
   have hr := chk_rng (lo := 0) (hi := 1000000) (show ¬ ((10 : Int) < 1 ∨ 12 < (10 : Int)) by decide) rfl hk
   exact apply_go _ 100 181 rfl (fun _ _ => by kernel_rfl) (fun _ _ => by kernel_rfl) (fun A base g w hM oA ht hb => ((ap_10 n f t s A base g w hM oA ht hb hr).mono fun _ _ h => h.p (show (10 : Int) ≠ 11 by decide))) A a b c ca cb cc w hA hs h0
 · obtain rfl : k = 11 := h
   have hn : n = 0 := by
    unfold chkE at hk
    rw [if_neg (show ¬ ((11 : Int) < 1 ∨ 12 < (11 : Int)) by decide)] at hk
    split at hk
    · omega
    · rename_i hf
      simpa [formE] using hf
   subst hn
   exact apply_go _ 101 219 rfl (fun _ _ => by kernel_rfl) (fun _ _ => by kernel_rfl) (fun A base g w hM oA ht hb => ((ap_11 f t s A base g w hM oA hb).mono fun _ _ h => lap_p hk oA ht hs h)) A a b c ca cb cc w hA hs h0
 · obtain rfl : k = 12 := h
   have hr := chk_rng (lo := 0) (hi := 199) (show ¬ ((12 : Int) < 1 ∨ 12 < (12 : Int)) by decide) rfl hk
   exact apply_go _ 101 219 rfl (fun _ _ => by kernel_rfl) (fun _ _ => by kernel_rfl) (fun A base g w hM oA ht hb => ((ap_12 n f t s A base g w hM oA hb hr).mono fun _ _ h => (h.lies hk oA ht hs).p (show (12 : Int) ≠ 11 by decide))) A a b c ca cb cc w hA hs h0
theorem apply_any (x : Ed) (A : Acv) (a b c : Option Addr) (ca cb cc : Nat) (w : World) (hA : ActIn w A a b c) (hs : x.s.size ≤ maxLen) :
 Calls Tryz.prog 7 #[actV A a b c ca cb cc, edV x] w fun e w' => ActRes (apZ A x) (apE A x) w e w' :=
 (apply_f x A a b c ca cb cc w hA hs).mono fun _ _ h => h.res
end Go.Proofs.YtjnfccphodjfiaaGreat

/- A text of this claim. -/
namespace Go.Proofs.YtjnfccphodjfiaaGreat
open Go.RowKit Go.BigFrame
open Tr (inR Ed)
theorem append_T1 {ops : Array Oper} {rest : List Oper} {o : Oper} {a : Act} {Q : Exit → Act → World → Prop} {w : World} (hgd : o.guard = none) (s x : Operand)
 (ho : o.op = .call { callee := .builtin .append, args := #[s, x], argTypes := #[24, 24] }) {base : Nat} {v : Value} {l : List ByteArray} (hs : a.eval s = v) (hown : Own tgC 1 9 w base v l)
 {g : Nat} {p : ByteArray} (hx : a.eval x = .slice (some ⟨g, 0, none⟩) 1 1) (h0 : ∀ j u, (tgC p)[j]? = some u → w.cell? ⟨g, j, none⟩ = some u) (hn : l.length ≤ 1000000) (hb : base ≤ w.heap.size)
 (h : ∀ g' c' w', Own tgC 1 9 w' base (.slice (some ⟨g', 0, none⟩) (l.length + 1) c') (l ++ [p]) → w.grownBy w' v.ownBlock → (v.ownBlock = some g' ∨ g' = w.heap.size) → wpList Tryz.prog ops Q rest (a.put o.dst (.slice (some ⟨g', 0, none⟩) (l.length + 1) c')) w') : wpList Tryz.prog ops Q (o :: rest) a w := by
 obtain ⟨i0, hi0, hy0, hy1, hy2⟩ := info_parts infoTg.out
 refine wpList_append_lies w hgd s x 24 ho base 9 i0 (.string ⟨#[]⟩) 1 16 underTg.out hi0 hy0 hy1 hy2 rfl (by decide) v l.length (l.flatMap tgC) hs hown ⟨g, 0, none⟩ 1 1 (tgC p) hx rfl (fun j u hu => ?_) (tgEl.one p) (by decide) (by unfold maxLen; omega) (by omega) hb _ rfl ?_
 · rw [addr_plus, Nat.zero_add]
   exact h0 j u hu
 · intro g' c' w' k1 k2 k3 _
   refine h g' c' w' ?_ k2 k3
   unfold Own
   rw [List.length_append, List.flatMap_append, show ([p].flatMap tgC) = tgC p from List.append_nil _]
   exact k1
theorem hasT_snoc {s t : ByteArray} {T : List ByteArray} {k : Nat} (h : T[k]? = some t) : hasT s (T.take (k + 1)) = (hasT s (T.take k) || decide (t = s)) := by
 unfold hasT
 rw [List.take_add_one, h, List.any_append]
 simp
set_option maxHeartbeats 4000000 in
set_option maxRecDepth 100000 in
theorem rhasTag_any (A : Acv) (a b c : Option Addr) (ca cb cc : Nat) (s : ByteArray) (w : World) (h : Rw tgC 1 w c A.tg) (hl : A.tg.length ≤ 1000) :
 Calls Tryz.prog 93 #[actV A a b c ca cb cc, .string s] w fun e w' => e = .returned (.bool (hasT s A.tg)) ∧ Below w.heap.size w w' := by
 obtain ⟨V0, hV0, hb0, hs0, ha0⟩ := alloc_ac w A.name A.sport A.start (.slice a A.sm.length ca) (.slice b A.lp.length cb) (.slice c A.tg.length cc)
 obtain ⟨R, hR⟩ : ∃ R, hasT s A.tg = R := ⟨_, rfl⟩
 have HR := Lib.hid hR
 rw [hR]
 have HB := Lib.hid hb0
 have HT := Lib.hid (h.below hb0)
 obtain ⟨g0, g1, g2, g3, g4, g5⟩ := ha0.cell
 obtain ⟨n, hn⟩ : ∃ n, A.tg.length = n := ⟨_, rfl⟩
 have HN := Lib.hid hn
 unfold actV
 rw [hn] at hl hV0 g5 ⊢
 clear h hb0 ha0 hn hR
 go_enter Tryz.func93, Tryz.ntmps93
 go_upto_region 1 with (fail)
 clear hV0 hs0
 go_wp2_with fail
 go_loopw [10] (fun iv wr => ∃ k : Nat, iv = .int .i64 k ∧ k ≤ n ∧ Hid (hasT s (A.tg.take k) = false) ∧ ∃ X : Ext V0, wr = X.1) (fun iv _ => n - (intOf iv).toNat)
 case atStart => exact ⟨0, rfl, by omega, Lib.hid rfl, ⟨V0, Below.refl _ _⟩, rfl⟩
 case round =>
  obtain ⟨k, rfl, hk, HF, X, rfl⟩ := hrel
  by_cases hlt : k < n
  · have t1 : decide ((k : Int) < (n : Int)) = true := by rw [decide_eq_true_eq]; omega
    have t1' : decide (k < n) = true := by simpa using hlt
    obtain ⟨t, ht⟩ : ∃ t, A.tg[k]? = some t := ⟨_, List.getElem?_eq_getElem (by rw [HN.out]; exact hlt)⟩
    have HS := Lib.hid (hasT_snoc (s := s) ht)
    obtain ⟨b3, o3, rfl, hb3, hd⟩ := HT.out.at ht
    have e0 : X.1.cell? ⟨b3, o3 + k, none⟩ = some (.string t) := by
     have h := hd 0 _ rfl
     rw [Nat.mul_one, Nat.add_zero] at h
     exact below_cell X.2 h
    have e0' : X.1.cell? ⟨b3, o3 + k * 1, none⟩ = some (.string t) := by rw [Nat.mul_one]; exact e0
    have HW := Lib.hid (show w.heap.size ≤ V0.heap.size from HB.out.size)
    clear ht hd hb3
    by_cases he : t = s
    · have q1 : (t.toList == s.toList) = true := by rw [strEq]; simpa using he
      have HTR := Lib.hid (show R = true from by
       rw [← HR.out]
       have h1 := HS.out
       have h2 : hasT s A.tg = true := by
        rw [← List.take_append_drop (k + 1) A.tg]
        unfold hasT at h1 ⊢
        rw [List.any_append, h1]
        simp [he]
       exact h2)
      clear he
      go_wp2_with fail
      go_ret
      exact ⟨by rw [HTR.out]; rfl, below_step HB.out X.2⟩
    · have q1 : (t.toList == s.toList) = false := by rw [strEq]; simpa using he
      have HF2 := Lib.hid (show hasT s (A.tg.take (k + 1)) = false from by rw [HS.out, HF.out]; simpa using he)
      clear he
      go_wp2_with fail
      go_roundw
      case rel => exact ⟨k + 1, by go_num, by omega, HF2, X, rfl⟩
      case measure => simp [intOf]; omega
  · have t1 : decide ((k : Int) < (n : Int)) = false := by rw [decide_eq_false_iff_not]; omega
    have t1' : decide (k < n) = false := by simpa using hlt
    obtain rfl : n = k := by omega
    have HTR := Lib.hid (show R = false from by
     rw [← HR.out]
     have h1 := HF.out
     rw [← HN.out, List.take_length] at h1
     exact h1)
    clear hlt
    go_wp2_with fail
    go_ret
    exact ⟨by rw [HTR.out]; rfl, below_step HB.out X.2⟩
theorem delT_snoc {s t : ByteArray} {T : List ByteArray} {k : Nat} (h : T[k]? = some t) : delT s (T.take (k + 1)) = if t = s then delT s (T.take k) else delT s (T.take k) ++ [t] := by
 unfold delT
 rw [List.take_add_one, h, List.filter_append]
 simp only [Option.toList_some]
 by_cases e : t = s
 · rw [if_pos e, List.filter_cons_of_neg (by simpa using e), List.filter_nil, List.append_nil]
 · rw [if_neg e, List.filter_cons_of_pos (by simpa using e), List.filter_nil]
set_option maxHeartbeats 4000000 in
set_option maxRecDepth 100000 in
theorem rwithoutTag_any (T : List ByteArray) (c : Option Addr) (cc : Nat) (s : ByteArray) (w : World) (h : Rw tgC 1 w c T) (hl : T.length ≤ 1000) :
 Calls Tryz.prog 94 #[.slice c T.length cc, .string s] w fun e w' => ∃ v, e = .returned v ∧ Own tgC 1 9 w' w.heap.size v (delT s T) ∧ Below w.heap.size w w' := by
 have HT := Lib.hid h
 obtain ⟨n, hn⟩ : ∃ n, T.length = n := ⟨_, rfl⟩
 have HN := Lib.hid hn
 rw [hn] at hl ⊢
 clear h hn
 go_enter Tryz.func94, Tryz.ntmps94
 go_wp2_with fail
 go_loopw [5, 10] (fun vv iv wr => ∃ k : Nat, iv = .int .i64 k ∧ k ≤ n ∧ Hid (Own tgC 1 9 wr w.heap.size vv (delT s (T.take k))) ∧ ∃ X : Ext w, wr = X.1) (fun _ iv _ => n - (intOf iv).toNat)
 case atStart => exact ⟨0, rfl, by omega, Lib.hid (Own.nil _ _ _ _ _), ⟨w, Below.refl _ _⟩, rfl⟩
 case round =>
  obtain ⟨k, rfl, hk, HO, X, rfl⟩ := hrel
  by_cases hlt : k < n
  · have t1 : decide ((k : Int) < (n : Int)) = true := by rw [decide_eq_true_eq]; omega
    have t1' : decide (k < n) = true := by simpa using hlt
    obtain ⟨t, ht⟩ : ∃ t, T[k]? = some t := ⟨_, List.getElem?_eq_getElem (by rw [HN.out]; exact hlt)⟩
    have HS := Lib.hid (delT_snoc (s := s) ht)
    obtain ⟨b3, o3, rfl, hb3, hd⟩ := HT.out.at ht
    have e0 : X.1.cell? ⟨b3, o3 + k, none⟩ = some (.string t) := by
     have h := hd 0 _ rfl
     rw [Nat.mul_one, Nat.add_zero] at h
     exact below_cell X.2 h
    have e0' : X.1.cell? ⟨b3, o3 + k * 1, none⟩ = some (.string t) := by rw [Nat.mul_one]; exact e0
    have HL := Lib.hid (show (delT s (T.take k)).length ≤ 1000 from by
     have h1 : (delT s (T.take k)).length ≤ (T.take k).length := List.length_filter_le _ _
     rw [List.length_take] at h1
     omega)
    clear ht hd hb3
    by_cases he : t = s
    · have q1 : (t.toList == s.toList) = true := by rw [strEq]; simpa using he
      have q2 : (t.toList != s.toList) = false := by simp only [bne, q1]; rfl
      have ho2 := HO.out
      rw [show delT s (T.take k) = delT s (T.take (k + 1)) from by rw [HS.out, if_pos he]] at ho2
      have HO2 := Lib.hid ho2
      clear he ho2
      go_wp2_with fail
      go_roundw
      case rel => exact ⟨k + 1, by go_num, by omega, HO2, X, rfl⟩
      case measure => simp [intOf]; omega
    · have q1 : (t.toList == s.toList) = false := by rw [strEq]; simpa using he
      have q2 : (t.toList != s.toList) = true := by simp only [bne, q1]; rfl
      obtain ⟨V7, hV7, hb7, hs7, hl7⟩ := alloc_cells X.1 #[.string t] 9
      have HC7 := Lib.hid (fun j u (hj : (tgC t)[j]? = some u) => show V7.cell? ⟨X.1.heap.size, j, none⟩ = some u from hl7 j u (by rw [← hj]; simp [tgC]))
      have HO7 := Lib.hid (HO.out.below hb7)
      have H7 := Lib.hid (below_step X.2 hb7)
      have HNE := Lib.hid he
      clear he hb7 hs7 hl7
      go_wp2_with (at_builtin; refine append_T1 rfl _ _ rfl rfl HO7.out (p := t) rfl HC7.out (by have := HL.out; omega) H7.out.size (fun g' c3 w8 ho8 hg8 hor => ?_))
      have HO8 := Lib.hid ho8
      have H8 := Lib.hid (show Below w.heap.size w w8 from Kept.below (O := fun q => w.heap.size ≤ q) H7.out (Kept.of_grown hg8 (fun g e _ => (HO7.out.lt g e).1)) H7.out.size (fun q hq e => by omega))
      clear ho8 hg8 hor hV7
      go_wp2_with fail
      go_roundw
      case rel => exact ⟨k + 1, by go_num, by omega, Lib.hid (by rw [HS.out, if_neg HNE.out]; exact HO8.out), ⟨w8, H8.out⟩, rfl⟩
      case measure => simp [intOf]; omega
  · have t1 : decide ((k : Int) < (n : Int)) = false := by rw [decide_eq_false_iff_not]; omega
    have t1' : decide (k < n) = false := by simpa using hlt
    obtain rfl : n = k := by omega
    have ho := HO.out
    rw [← HN.out, List.take_length] at ho
    have HOF := Lib.hid ho
    clear hlt ho
    go_wp2_with fail
    go_ret
    exact ⟨_, rfl, HOF.out, X.2⟩
set_option maxHeartbeats 4000000 in
set_option maxRecDepth 100000 in
theorem rwithLap_any (l : List Lp) (x : Lp) (a : Option Addr) (ca : Nat) (w : World) (h : Rw lpC 3 w a l) (hl : l.length ≤ 1000) (hc : l.length ≤ ca) :
 Calls Tryz.prog 95 #[.slice a l.length ca, .agg #[.int .i64 x.f, .int .i64 x.t, .string x.s]] w fun e w' => ∃ v, e = .returned v ∧ Own lpC 3 75 w' w.heap.size v (putL x l) ∧ Below w.heap.size w w' := by
 obtain ⟨R, hR⟩ : ∃ R, putL x l = R := ⟨_, rfl⟩
 rw [hR]
 have HR := Lib.hid hR
 obtain ⟨V0, hV0, hb0, hs0, hl0⟩ := alloc_cells w #[.int .i64 x.f, .int .i64 x.t, .string x.s] 75
 have HB := Lib.hid hb0
 have HA := Lib.hid (h.below hb0)
 have X0 := Ext.ex (hl0 0 _ rfl)
 have X1 := Ext.ex (hl0 1 _ rfl)
 have X2 := Ext.ex (hl0 2 _ rfl)
 clear hR h hb0 hl0
 go_enter Tryz.func95, Tryz.ntmps95
 go_wp2_with fail
 clear hV0
 go_loopw [0, 5] (fun yv ov wr => ∃ (ys O : List Lp) (ay : Option Addr) (cy : Nat), yv = .slice ay ys.length cy ∧ ys.length ≤ cy ∧ O.length + ys.length ≤ 1000 ∧ Hid (Rw lpC 3 V0 ay ys) ∧ Hid (Own lpC 3 75 wr V0.heap.size ov O) ∧ Hid (O ++ putL x ys = R) ∧ ∃ X : Ext V0, wr = X.1) (fun yv _ _ => lenV yv)
 case atStart => exact ⟨l, [], a, ca, rfl, hc, by simp; omega, HA, Lib.hid (Own.nil _ _ _ _ _), Lib.hid (by rw [List.nil_append]; exact HR.out), ⟨V0, Below.refl _ _⟩, rfl⟩
 case round =>
  clear HR HA hl hc
  obtain ⟨ys, O, ay, cy, rfl, hcy, hlen, HY, HO, HE, X, rfl⟩ := hrel
  have hol : O.length ≤ 1000 := by omega
  match ys with
  | [] =>
   have HE2 := Lib.hid (show O ++ [x] ++ [] = R from by
    have he := HE.out
    rw [putL] at he
    rw [List.append_nil]
    exact he)
   have HYA := Lib.hid HY.out
   rw [List.length_nil] at hcy hlen ⊢
   clear HE HY
   go_wp2_with fail
   refine wp_region_ext (W := X.1) ⟨X.1, Below.refl _ _⟩ (by kernel_rfl) (by kernel_rfl) ?_
   repeat go_big_quiet_step (fail)
   refine wpQuiet_nil ?_
   rintro _ ⟨Y, rfl⟩
   obtain ⟨V7, hV7, hb7, hs7, hl7⟩ := alloc_cells Y.1 #[.int .i64 x.f, .int .i64 x.t, .string x.s] 75
   have HC7 := Lib.hid (fun j u (hj : (lpC x)[j]? = some u) => show V7.cell? ⟨Y.1.heap.size, j, none⟩ = some u from hl7 j u (by rw [← hj]; simp [lpC]))
   have HO7 := Lib.hid ((HO.out.below Y.2).below hb7)
   have H7 := Lib.hid (below_step (below_step X.2 Y.2) hb7)
   have x0 := X0 ⟨Y.1, below_step X.2 Y.2⟩
   have x1 := X1 ⟨Y.1, below_step X.2 Y.2⟩
   have x2 := X2 ⟨Y.1, below_step X.2 Y.2⟩
   have HWB := Lib.hid HB.out
   clear hb7 hs7 hl7 HO
   go_wp2_with (first | (at_builtin; refine append_Lp rfl _ _ rfl rfl HO7.out (p := x) rfl HC7.out (by omega) H7.out.size (fun g' c3 w8 ho8 hg8 hor => ?_); have HO8 := Lib.hid ho8; have H8 := Lib.hid (show Below V0.heap.size V0 w8 from Kept.below (O := fun b => V0.heap.size ≤ b) H7.out (Kept.of_grown hg8 (fun g e _ => (HO7.out.lt g e).1)) H7.out.size (fun k hk e => by omega)); clear ho8 hg8 hor hV7 x0 x1 x2) | (at_builtin; refine append_Lps (l := O ++ [x]) (m := ([] : List Lp)) rfl _ _ rfl rfl HO8.out rfl rfl (HYA.out.below H8.out) (by simp only [List.length_append, List.length_cons, List.length_nil]; omega) H8.out.size (fun v9 w9 ho9 hg9 => ?_)))
   have H9 := Lib.hid (show Below V0.heap.size V0 w9 from Kept.below (O := fun b => V0.heap.size ≤ b) H8.out (Kept.of_grown hg9 (fun g e _ => (HO8.out.lt g e).1)) H8.out.size (fun k hk e => by omega))
   obtain ⟨a9, c9, rfl, -, -, -⟩ := ho9.row lpEl
   have HOF := Lib.hid (show Own lpC 3 75 w9 w.heap.size (.slice a9 (O ++ [x] ++ ([] : List Lp)).length c9) R from by
    have h := ho9.weaken HWB.out.size
    rw [HE2.out] at h ⊢
    exact h)
   clear ho9 hg9
   go_wp2_with fail
   go_ret
   exact ⟨_, rfl, HOF.out, below_step HWB.out H9.out⟩
  | y :: ys =>
   obtain ⟨gy, oy, rfl, hby, hcy0⟩ := (HY.out).head
   have y0 : ∀ Z : Ext X.1, Z.1.cell? ⟨gy, oy, none⟩ = some (.int .i64 y.f) := Ext.ex (below_cell X.2 (hcy0 0 _ rfl))
   have y1 : ∀ Z : Ext X.1, Z.1.cell? ⟨gy, oy + 1, none⟩ = some (.int .i64 y.t) := Ext.ex (below_cell X.2 (hcy0 1 _ rfl))
   have y2 : ∀ Z : Ext X.1, Z.1.cell? ⟨gy, oy + 2, none⟩ = some (.string y.s) := Ext.ex (below_cell X.2 (hcy0 2 _ rfl))
   have z0 : ∀ Z : Ext X.1, Z.1.cell? ⟨w.heap.size, 0, none⟩ = some (.int .i64 x.f) := Ext.ex (X0 X)
   obtain ⟨ny, hny⟩ : ∃ n, ys.length = n := ⟨_, rfl⟩
   rw [List.length_cons, hny] at hcy hlen ⊢
   have HNy := Lib.hid hny
   have py1 : decide ((0 : Int) < ((ny + 1 : Nat) : Int)) = true := by rw [decide_eq_true_eq]; omega
   have py2 : decide ((0 : Int) < (ny : Int) + 1) = true := by rw [decide_eq_true_eq]; omega
   have HTy := Lib.hid (show Rw lpC 3 V0 (if cy = 1 then some ⟨gy, oy, none⟩ else some ⟨gy, oy + 3, none⟩) ys from HY.out.step (by omega))
   have HYA := Lib.hid HY.out
   have he := HE.out
   rw [putL] at he
   clear hcy0 hby HY HE hny
   by_cases hle : y.f ≤ x.f
   · have q1 : decide (y.f ≤ x.f) = true := by rw [decide_eq_true_eq]; exact hle
     have HE2 := Lib.hid (show (O ++ [y]) ++ putL x ys = R from by
      rw [if_pos hle] at he
      rw [List.append_assoc]
      exact he)
     clear he hle
     go_wp2_with fail
     refine wp_region_ext (W := X.1) ⟨X.1, Below.refl _ _⟩ (by kernel_rfl) (by kernel_rfl) ?_
     repeat go_big_quiet_step (fail)
     refine wpQuiet_nil ?_
     rintro _ ⟨Y, rfl⟩
     obtain ⟨V7, hV7, hb7, hs7, hl7⟩ := alloc_cells Y.1 #[.int .i64 y.f, .int .i64 y.t, .string y.s] 75
     have HC7 := Lib.hid (fun j u (hj : (lpC y)[j]? = some u) => show V7.cell? ⟨Y.1.heap.size, j, none⟩ = some u from hl7 j u (by rw [← hj]; simp [lpC]))
     have HO7 := Lib.hid ((HO.out.below Y.2).below hb7)
     have H7 := Lib.hid (below_step (below_step X.2 Y.2) hb7)
     have v0 := y0 Y
     have v1 := y1 Y
     have v2 := y2 Y
     clear hb7 hs7 hl7 HO
     go_wp2_with (at_builtin; refine append_Lp rfl _ _ rfl rfl HO7.out (p := y) rfl HC7.out (by omega) H7.out.size (fun g' c3 w8 ho8 hg8 hor => ?_))
     have HO8 := Lib.hid ho8
     have H8 := Lib.hid (show Below V0.heap.size V0 w8 from Kept.below (O := fun b => V0.heap.size ≤ b) H7.out (Kept.of_grown hg8 (fun g e _ => (HO7.out.lt g e).1)) H7.out.size (fun k hk e => by omega))
     clear ho8 hg8 hor hV7 v0 v1 v2
     go_wp2_with fail
     exact ⟨⟨ys, O ++ [y], _, cy - 1, by rw [HNy.out], by rw [HNy.out]; omega, by rw [HNy.out, List.length_append]; show O.length + 1 + ny ≤ _; omega, HTy, HO8, HE2, ⟨w8, H8.out⟩, rfl⟩, by show ny < ny + 1; omega⟩
   · have q1 : decide (y.f ≤ x.f) = false := by rw [decide_eq_false_iff_not]; exact hle
     have HE2 := Lib.hid (show O ++ [x] ++ (y :: ys) = R from by
      rw [if_neg hle] at he
      rw [List.append_assoc]
      exact he)
     have HLY := Lib.hid (show (y :: ys).length = ny + 1 from by rw [List.length_cons, HNy.out])
     clear he hle
     go_wp2_with fail
     refine wp_region_ext (W := X.1) ⟨X.1, Below.refl _ _⟩ (by kernel_rfl) (by kernel_rfl) ?_
     repeat go_big_quiet_step (fail)
     refine wpQuiet_nil ?_
     rintro _ ⟨Y, rfl⟩
     obtain ⟨V7, hV7, hb7, hs7, hl7⟩ := alloc_cells Y.1 #[.int .i64 x.f, .int .i64 x.t, .string x.s] 75
     have HC7 := Lib.hid (fun j u (hj : (lpC x)[j]? = some u) => show V7.cell? ⟨Y.1.heap.size, j, none⟩ = some u from hl7 j u (by rw [← hj]; simp [lpC]))
     have HO7 := Lib.hid ((HO.out.below Y.2).below hb7)
     have H7 := Lib.hid (below_step (below_step X.2 Y.2) hb7)
     have x0 := X0 ⟨Y.1, below_step X.2 Y.2⟩
     have x1 := X1 ⟨Y.1, below_step X.2 Y.2⟩
     have x2 := X2 ⟨Y.1, below_step X.2 Y.2⟩
     have HWB := Lib.hid HB.out
     clear hb7 hs7 hl7 HO
     go_wp2_with (first | (at_builtin; refine append_Lp rfl _ _ rfl rfl HO7.out (p := x) rfl HC7.out (by omega) H7.out.size (fun g' c3 w8 ho8 hg8 hor => ?_); have HO8 := Lib.hid ho8; have H8 := Lib.hid (show Below V0.heap.size V0 w8 from Kept.below (O := fun b => V0.heap.size ≤ b) H7.out (Kept.of_grown hg8 (fun g e _ => (HO7.out.lt g e).1)) H7.out.size (fun k hk e => by omega)); clear ho8 hg8 hor hV7 x0 x1 x2) | (at_builtin; refine append_Lps (l := O ++ [x]) (m := (y :: ys)) rfl _ _ rfl rfl HO8.out rfl HLY.out (HYA.out.below H8.out) (by simp only [List.length_append, List.length_cons, List.length_nil]; omega) H8.out.size (fun v9 w9 ho9 hg9 => ?_)))
     have H9 := Lib.hid (show Below V0.heap.size V0 w9 from Kept.below (O := fun b => V0.heap.size ≤ b) H8.out (Kept.of_grown hg9 (fun g e _ => (HO8.out.lt g e).1)) H8.out.size (fun k hk e => by omega))
     obtain ⟨a9, c9, rfl, -, -, -⟩ := ho9.row lpEl
     have HOF := Lib.hid (show Own lpC 3 75 w9 w.heap.size (.slice a9 (O ++ [x] ++ (y :: ys)).length c9) R from by
      have h := ho9.weaken HWB.out.size
      rw [HE2.out] at h ⊢
      exact h)
     clear ho9 hg9
     go_wp2_with fail
     go_ret
     exact ⟨_, rfl, HOF.out, below_step HWB.out H9.out⟩
end Go.Proofs.YtjnfccphodjfiaaGreat

/- A text of this claim. -/
namespace Go.Proofs.YtjnfccphodjfiaaGreat
open Go.RowKit Go.BigFrame
open Tr (inR Ed)
structure Srt (l P : List Int) (i : Nat) : Prop where
 perm : P.Perm l
 ord : ∀ (a b : Nat) (x y : Int), a < b → b < i → P[a]? = some x → P[b]? = some y → x ≤ y
structure Ins (l P : List Int) (i j : Nat) : Prop where
 perm : P.Perm l
 jle : j ≤ i
 lo : ∀ (a b : Nat) (x y : Int), a < b → b ≤ i → a ≠ j → b ≠ j → P[a]? = some x → P[b]? = some y → x ≤ y
 hi : ∀ (b : Nat) (x y : Int), j < b → b ≤ i → P[j]? = some x → P[b]? = some y → x ≤ y
theorem Srt.ins {l P : List Int} {i : Nat} (h : Srt l P i) : Ins l P i i :=
 ⟨h.perm, Nat.le_refl _, fun a b x y h1 h2 h3 h4 hx hy => h.ord a b x y h1 (by omega) hx hy, fun b x y h1 h2 _ _ => by omega⟩
theorem Ins.swap {l P : List Int} {i j : Nat} {x y : Int} (h : Ins l P i (j + 1)) (hx : P[j + 1]? = some x) (hy : P[j]? = some y) (hlt : x < y) : Ins l ((P.set (j + 1) y).set j x) i j := by
 obtain ⟨hx1, hx2⟩ := List.getElem?_eq_some_iff.1 hx
 obtain ⟨hy1, hy2⟩ := List.getElem?_eq_some_iff.1 hy
 have e : ∀ a, ((P.set (j + 1) y).set j x)[a]? = if a = j then some x else if a = j + 1 then some y else P[a]? := fun a => by
  by_cases h1 : a = j
  · subst h1
    rw [if_pos rfl, List.getElem?_set_self (by rw [List.length_set]; exact hy1)]
  · rw [if_neg h1, List.getElem?_set_ne (by omega)]
    by_cases h2 : a = j + 1
    · subst h2
      rw [if_pos rfl, List.getElem?_set_self hx1]
    · rw [if_neg h2, List.getElem?_set_ne (by omega)]
 refine ⟨?_, by have := h.jle; omega, fun a b p q h1 h2 h3 h4 hp hq => ?_, fun b p q h1 h2 hp hq => ?_⟩
 · have hp := @List.set_set_perm Int P (j + 1) j hx1 hy1
   rw [hx2, hy2] at hp
   exact hp.trans h.perm
 · rw [e, if_neg h3] at hp
   rw [e, if_neg h4] at hq
   by_cases ha : a = j + 1
   · rw [if_pos ha] at hp
     injection hp with hp
     subst hp
     rw [if_neg (by omega)] at hq
     exact h.lo j b y q (by omega) h2 (by omega) (by omega) hy hq
   · rw [if_neg ha] at hp
     by_cases hb : b = j + 1
     · rw [if_pos hb] at hq
       injection hq with hq
       subst hq
       exact h.lo a j p y (by omega) (by omega) ha (by omega) hp hy
     · rw [if_neg hb] at hq
       exact h.lo a b p q h1 h2 ha hb hp hq
 · rw [e, if_pos rfl] at hp
   injection hp with hp
   subst hp
   rw [e, if_neg (by omega)] at hq
   by_cases hb : b = j + 1
   · rw [if_pos hb] at hq
     injection hq with hq
     omega
   · rw [if_neg hb] at hq
     exact h.hi b x q (by omega) h2 hx hq
theorem Ins.stop {l P : List Int} {i j : Nat} (h : Ins l P i j) (hs : ∀ (x y : Int), 0 < j → P[j]? = some x → P[j - 1]? = some y → ¬ x < y) : Srt l P (i + 1) := by
 refine ⟨h.perm, fun a b x y h1 h2 hx hy => ?_⟩
 by_cases ha : a = j
 · subst ha
   exact h.hi b x y h1 (by omega) hx hy
 · by_cases hb : b = j
   · subst hb
     obtain ⟨hb1, _⟩ := List.getElem?_eq_some_iff.1 hy
     obtain ⟨z, hz⟩ : ∃ z, P[b - 1]? = some z := ⟨_, List.getElem?_eq_getElem (by omega)⟩
     have h3 := hs y z (by omega) hy hz
     by_cases he : a = b - 1
     · subst he
       rw [hx] at hz
       injection hz with hz
       omega
     · have := h.lo a (b - 1) x z (by omega) (by have := h.jle; omega) ha (by omega) hx hz
       omega
   · exact h.lo a b x y h1 (by omega) ha hb hx hy
theorem Srt.done {l P : List Int} {n : Nat} (h : Srt l P n) (hn : P.length = n) : P = srt l := by
 have h1 : P.Pairwise (fun x y => x ≤ y) := by
  rw [List.pairwise_iff_getElem]
  intro a b ha hb hab
  exact h.ord a b _ _ hab (by omega) (List.getElem?_eq_getElem ha) (List.getElem?_eq_getElem hb)
 have h2 : (srt l).Pairwise (fun x y => x ≤ y) := by
  have := List.pairwise_mergeSort (le := fun x y : Int => decide (x ≤ y)) (fun a b c h1 h2 => by
   simp only [decide_eq_true_eq] at h1 h2 ⊢
   omega) (fun a b => by
   simp only [Bool.or_eq_true, decide_eq_true_eq]
   omega) l
  exact this.imp (fun h => by simpa using h)
 exact List.Perm.eq_of_pairwise (le := fun x y : Int => x ≤ y) (fun a b _ _ h3 h4 => by omega) h1 h2 (h.perm.trans (List.mergeSort_perm _ _).symm)
set_option maxHeartbeats 8000000 in
set_option maxRecDepth 100000 in
theorem rmiddle_any (l : List Int) (q cap base n : Nat) (w : World) (hown : Own zC 1 3 w base (.slice (some ⟨q, 0, none⟩) n cap) l) (hn : l.length = n) (h0 : 0 < n) (h1 : n ≤ 1000) :
 Calls Tryz.prog 89 #[.slice (some ⟨q, 0, none⟩) n cap] w fun e w' => e = .returned (.int .i64 (midL l)) ∧ Kept (fun b => b = q) w w' := by
 have HOW := Lib.hid hown
 have HN := Lib.hid hn
 clear hown hn
 go_enter Tryz.func89, Tryz.ntmps89
 go_wp2_with fail
 go_loopw [7] (fun iv wr => ∃ (i : Nat) (P : List Int), iv = .int .i64 i ∧ i ≤ n ∧ Hid (Srt l P i) ∧ Hid (Own zC 1 3 wr base (.slice (some ⟨q, 0, none⟩) n cap) P) ∧ ∃ Z : ExtO (fun b => b = q) w, wr = Z.1) (fun iv _ => n - (intOf iv).toNat)
 case atStart => exact ⟨0, l, rfl, by omega, Lib.hid ⟨List.Perm.refl _, fun _ _ _ _ _ h => by omega⟩, HOW, ⟨w, Kept.refl _ _⟩, rfl⟩
 case round =>
  obtain ⟨i, P, rfl, hi, HS, HO, Z, rfl⟩ := hrel
  by_cases hlt : i < n
  · have t1 : decide ((i : Int) < (n : Int)) = true := by rw [decide_eq_true_eq]; omega
    have t1' : decide (i < n) = true := by simpa using hlt
    go_wp2_with fail
    go_loopw [4] (fun jv wr => ∃ (j : Nat) (P : List Int), jv = .int .i64 j ∧ j ≤ i ∧ Hid (Ins l P i j) ∧ Hid (Own zC 1 3 wr base (.slice (some ⟨q, 0, none⟩) n cap) P) ∧ ∃ Z : ExtO (fun b => b = q) w, wr = Z.1) (fun jv _ => (intOf jv).toNat)
    case atStart => exact ⟨i, P, rfl, Nat.le_refl _, Lib.hid HS.out.ins, HO, Z, rfl⟩
    case round =>
     clear HS HO Z P
     obtain ⟨j, P, rfl, hj, HI, HO, Z, rfl⟩ := hrel
     have hPl : P.length = n := by rw [HI.out.perm.length_eq, HN.out]
     obtain ⟨x, hx⟩ : ∃ x, P[j]? = some x := ⟨_, List.getElem?_eq_getElem (by omega)⟩
     have hcx : Z.1.cell? ⟨q, j, none⟩ = some (.int .i64 x) := by
      have h := (HO.out.rw_ zEl).1.on hx 0 _ rfl
      simpa using h
     have hjn : j < n := by omega
     match j with
     | 0 =>
      have HS2 := Lib.hid (HI.out.stop (fun _ _ h => by omega))
      clear hPl hx
      go_wp2_with fail
      go_quiet (fail)
      obtain ⟨Z', hZ'⟩ : ∃ Z' : ExtO (fun b => b = q) w, Z.1.drewN nq = Z'.1 := ⟨⟨Z.1.drewN nq, Z.2.trans ⟨rfl, rfl, rfl, Nat.le_refl _, fun _ _ _ => rfl⟩⟩, rfl⟩
      have HO' := Lib.hid (show Own zC 1 3 Z'.1 base (.slice (some ⟨q, 0, none⟩) n cap) P from hZ' ▸ HO.out)
      rw [hZ']
      clear hZ' hcx
      go_wp2_with fail
      go_roundw
      case rel => exact ⟨i + 1, P, by go_num, by omega, HS2, HO', Z', rfl⟩
      case measure => simp [intOf]; omega
     | j + 1 =>
      obtain ⟨y, hy⟩ : ∃ y, P[j]? = some y := ⟨_, List.getElem?_eq_getElem (by omega)⟩
      have hcy : Z.1.cell? ⟨q, j, none⟩ = some (.int .i64 y) := by
       have h := (HO.out.rw_ zEl).1.on hy 0 _ rfl
       simpa using h
      have t2 : decide (((j + 1 : Nat) : Int) > 0) = true := by rw [decide_eq_true_eq]; omega
      have t2' : decide ((0 : Int) < ((j + 1 : Nat) : Int)) = true := by rw [decide_eq_true_eq]; omega
      have t2'' : decide ((0 : Int) < (j : Int) + 1) = true := by rw [decide_eq_true_eq]; omega
      have w1 : IntKind.i64.wrap (((j + 1 : Nat) : Int) - 1) = (j : Int) := by rw [tm_wrap (by omega) (by omega)]; omega
      have w1' : IntKind.i64.wrap ((j : Int) + 1 - 1) = (j : Int) := by rw [tm_wrap (by omega) (by omega)]; omega
      have hjn2 : j < n := by omega
      have b0 : (0 : Int) ≤ (j : Int) + 1 ∧ (j : Int) + 1 < (n : Int) := by omega
      have b1 : (0 : Int) ≤ (j : Int) ∧ (j : Int) < (n : Int) := by omega
      by_cases hlt2 : x < y
      · have t3 : decide (x < y) = true := by rw [decide_eq_true_eq]; exact hlt2
        have HI2 := Lib.hid (HI.out.swap hx hy hlt2)
        have HX := Lib.hid (And.intro hx hy)
        clear hlt2 hPl hx hy
        go_wp2_with fail
        go_quiet (fail)
        obtain ⟨Z', hZ'⟩ : ∃ Z' : ExtO (fun b => b = q) w, Z.1.drewN nq = Z'.1 := ⟨⟨Z.1.drewN nq, Z.2.trans ⟨rfl, rfl, rfl, Nat.le_refl _, fun _ _ _ => rfl⟩⟩, rfl⟩
        have HO' := Lib.hid (show Own zC 1 3 Z'.1 base (.slice (some ⟨q, 0, none⟩) n cap) P from hZ' ▸ HO.out)
        rw [hZ']
        clear hZ' hcx hcy
        go_upto_region 7 with (fail)
        refine held_start (C := fun _ => True) (by kernel_rfl) ?_
        obtain ⟨Q0, hQ0⟩ : ∃ Q : World, ({ Z'.1 with drawn := Z'.1.drawn + 1 } : World) = Q := ⟨_, rfl⟩
        have hoq : Own zC 1 3 Q0 base (.slice (some ⟨q, 0, none⟩) n cap) P := hQ0 ▸ HO'.out
        have hkq : Kept (fun b => b = q) w Q0 := hQ0 ▸ Z'.2.trans ⟨rfl, rfl, rfl, Nat.le_refl _, fun _ _ _ => rfl⟩
        rw [hQ0]
        have c0 : Q0.cell? ⟨q, j + 1, none⟩ = some (.int .i64 x) := by
         have h := (hoq.rw_ zEl).1.on HX.out.1 0 _ rfl
         simpa using h
        have c1 : Q0.cell? ⟨q, j, none⟩ = some (.int .i64 y) := by
         have h := (hoq.rw_ zEl).1.on HX.out.2 0 _ rfl
         simpa using h
        have f0 := hoq.free (j + 1)
        obtain ⟨ho1, hk1⟩ := hoq.set zEl (j := 0) HX.out.1 (by decide) (y := y) (u := .int .i64 y) rfl
        rw [Nat.mul_one, Nat.add_zero] at ho1 hk1
        obtain ⟨W1, hS1⟩ : ∃ z, Q0.setCell ⟨q, j + 1, none⟩ (.int .i64 y) = z := ⟨_, rfl⟩
        rw [hS1] at ho1 hk1
        have hyj : (P.set (j + 1) y)[j]? = some y := by rw [List.getElem?_set_ne (by omega)]; exact HX.out.2
        have f1 := ho1.free j
        have r0 : W1.cell? ⟨q, j, none⟩ = some (.int .i64 y) := by
         have h := (ho1.rw_ zEl).1.on hyj 0 _ rfl
         simpa using h
        obtain ⟨ho2, hk2⟩ := ho1.set zEl (j := 0) hyj (by decide) (y := x) (u := .int .i64 x) rfl
        rw [Nat.mul_one, Nat.add_zero] at ho2 hk2
        obtain ⟨W2, hS2⟩ : ∃ z, W1.setCell ⟨q, j, none⟩ (.int .i64 x) = z := ⟨_, rfl⟩
        rw [hS2] at ho2 hk2
        have HO2 := Lib.hid ho2
        have HK2 := Lib.hid ((hkq.trans hk1).trans hk2)
        have f2 := f0
        have f3 := f1
        have r1 := r0
        clear hQ0 hoq hkq ho1 hk1 ho2 hk2 hyj
        refine held_quiet (by kernel_rfl) (fun _ _ d _ _ h => by cases d <;> exact h) trivial [0, 1, 2, 3, 4, 5, 6, 7, 8, 10, 11, 12] 6 _ _ (by kernel_rfl) ?_
        change wpQuiet _ _ _ _ (_ :: _ :: _ :: _ :: _ :: _ :: _ :: _ :: _ :: _ :: _ :: _ :: []) _
        repeat go_big_quiet_step (fail)
        refine wpQuiet_nil ?_
        refine held_two (i := 9) (j := 13) _ _ rfl rfl (by kernel_rfl) rfl rfl (fun K hK => ?_) (fun K hK => ?_)
        · go_simp
          try rw [if_pos b0]
          try rw [if_pos b1]
          refine hK _ _ trivial ?_
          clear hK K
          try simp only [Act.put, List.setIfInBounds_toArray, List.set_cons_zero, List.set_cons_succ]
          refine held_do (i := 13) _ rfl (by kernel_rfl) rfl (fun K hK => ?_)
          go_simp
          try rw [if_pos b0]
          try rw [if_pos b1]
          refine hK _ _ trivial ?_
          clear hK K
          try simp only [Act.put, List.setIfInBounds_toArray, List.set_cons_zero, List.set_cons_succ]
          refine held_do (i := 14) _ rfl (by kernel_rfl) rfl (fun K hK => ?_)
          go_simp
          try rw [if_pos b0]
          try rw [if_pos b1]
          refine hK _ _ trivial ?_
          clear hK K
          try simp only [Act.put, List.setIfInBounds_toArray, List.set_cons_zero, List.set_cons_succ]
          refine held_do (i := 15) _ rfl (by kernel_rfl) rfl (fun K hK => ?_)
          go_simp
          try rw [if_pos b0]
          try rw [if_pos b1]
          refine hK _ _ trivial ?_
          clear hK K
          try simp only [Act.put, List.setIfInBounds_toArray, List.set_cons_zero, List.set_cons_succ]
          refine held_do (i := 16) _ rfl (by kernel_rfl) rfl (fun K hK => ?_)
          go_simp
          try rw [if_pos b0]
          try rw [if_pos b1]
          refine hK _ _ trivial ?_
          clear hK K
          try simp only [Act.put, List.setIfInBounds_toArray, List.set_cons_zero, List.set_cons_succ]
          refine held_do (i := 17) _ rfl (by kernel_rfl) rfl (fun K hK => ?_)
          go_simp
          try rw [if_pos b0]
          try rw [if_pos b1]
          refine hK _ _ trivial ?_
          clear hK K
          try simp only [Act.put, List.setIfInBounds_toArray, List.set_cons_zero, List.set_cons_succ]
          refine wpAnyH_done (by kernel_rfl) ?_ _
          clear c0 c1 f0 f1 f2 f3 hS1 hS2 r0 r1
          go_wp2_with fail
          go_roundw
          case rel => exact ⟨j, _, rfl, by omega, HI2, HO2, ⟨W2, HK2.out⟩, rfl⟩
          case measure => simp [intOf]
        · go_simp
          try rw [if_pos b0]
          try rw [if_pos b1]
          refine hK _ _ trivial ?_
          clear hK K
          try simp only [Act.put, List.setIfInBounds_toArray, List.set_cons_zero, List.set_cons_succ]
          refine held_do (i := 9) _ rfl (by kernel_rfl) rfl (fun K hK => ?_)
          go_simp
          try rw [if_pos b0]
          try rw [if_pos b1]
          refine hK _ _ trivial ?_
          clear hK K
          try simp only [Act.put, List.setIfInBounds_toArray, List.set_cons_zero, List.set_cons_succ]
          refine held_do (i := 14) _ rfl (by kernel_rfl) rfl (fun K hK => ?_)
          go_simp
          try rw [if_pos b0]
          try rw [if_pos b1]
          refine hK _ _ trivial ?_
          clear hK K
          try simp only [Act.put, List.setIfInBounds_toArray, List.set_cons_zero, List.set_cons_succ]
          refine held_do (i := 15) _ rfl (by kernel_rfl) rfl (fun K hK => ?_)
          go_simp
          try rw [if_pos b0]
          try rw [if_pos b1]
          refine hK _ _ trivial ?_
          clear hK K
          try simp only [Act.put, List.setIfInBounds_toArray, List.set_cons_zero, List.set_cons_succ]
          refine held_do (i := 16) _ rfl (by kernel_rfl) rfl (fun K hK => ?_)
          go_simp
          try rw [if_pos b0]
          try rw [if_pos b1]
          refine hK _ _ trivial ?_
          clear hK K
          try simp only [Act.put, List.setIfInBounds_toArray, List.set_cons_zero, List.set_cons_succ]
          refine held_do (i := 17) _ rfl (by kernel_rfl) rfl (fun K hK => ?_)
          go_simp
          try rw [if_pos b0]
          try rw [if_pos b1]
          refine hK _ _ trivial ?_
          clear hK K
          try simp only [Act.put, List.setIfInBounds_toArray, List.set_cons_zero, List.set_cons_succ]
          refine wpAnyH_done (by kernel_rfl) ?_ _
          clear c0 c1 f0 f1 f2 f3 hS1 hS2 r0 r1
          go_wp2_with fail
          go_roundw
          case rel => exact ⟨j, _, rfl, by omega, HI2, HO2, ⟨W2, HK2.out⟩, rfl⟩
          case measure => simp [intOf]
      · have t3 : decide (x < y) = false := by rw [decide_eq_false_iff_not]; exact hlt2
        have HS2 := Lib.hid (HI.out.stop (fun a b _ ha hb => by
         rw [hx] at ha
         rw [Nat.add_sub_cancel, hy] at hb
         injection ha with ha
         injection hb with hb
         omega))
        clear hlt2 hPl hx hy
        go_wp2_with fail
        go_quiet (fail)
        obtain ⟨Z', hZ'⟩ : ∃ Z' : ExtO (fun b => b = q) w, Z.1.drewN nq = Z'.1 := ⟨⟨Z.1.drewN nq, Z.2.trans ⟨rfl, rfl, rfl, Nat.le_refl _, fun _ _ _ => rfl⟩⟩, rfl⟩
        have HO' := Lib.hid (show Own zC 1 3 Z'.1 base (.slice (some ⟨q, 0, none⟩) n cap) P from hZ' ▸ HO.out)
        rw [hZ']
        clear hZ' hcx hcy
        go_wp2_with fail
        go_roundw
        case rel => exact ⟨i + 1, P, by go_num, by omega, HS2, HO', Z', rfl⟩
        case measure => simp [intOf]; omega
  · have t1 : decide ((i : Int) < (n : Int)) = false := by rw [decide_eq_false_iff_not]; omega
    have t1' : decide (i < n) = false := by simpa using hlt
    obtain rfl : n = i := by omega
    have hPl : P.length = n := by rw [HS.out.perm.length_eq, HN.out]
    have hP := HS.out.done hPl
    obtain ⟨mv, hmv⟩ : ∃ z, midL l = z := ⟨_, rfl⟩
    have HMV := Lib.hid hmv
    obtain ⟨md, hmd⟩ : ∃ md, (n - 1) / 2 = md := ⟨_, rfl⟩
    have hmid : Z.1.cell? ⟨q, md, none⟩ = some (.int .i64 mv) := by
     have h := (HO.out.rw_ zEl).1.on (show P[md]? = some mv from by rw [hP, ← hmd, ← hmv]; exact mid_at HN.out h0) 0 _ rfl
     simpa using h
    have e1 : IntKind.i64.wrap ((n : Int) - 1) = (n : Int) - 1 := tm_wrap (by omega) (by omega)
    have e2 : Int.tdiv ((n : Int) - 1) 2 = (md : Int) := by rw [Int.tdiv_eq_ediv_of_nonneg (by omega)]; omega
    have e3 : md < n := by omega
    clear hPl hP hmv hmd hlt
    go_wp2_with fail
    go_ret
    exact ⟨by rw [HMV.out]; rfl, Z.2⟩
end Go.Proofs.YtjnfccphodjfiaaGreat

/- A text of this claim. -/
namespace Go.Proofs.YtjnfccphodjfiaaGreat
open Go.RowKit Go.BigFrame
open Tr (inR Ed)
set_option maxHeartbeats 1000000 in
theorem r3out_any (n lo hi : Int) (w : World) : Calls Tryz.prog 87 #[.int .i64 n, .int .i64 lo, .int .i64 hi] w fun e w' => e = .returned (.bool (!inR n lo hi)) ∧ w = w' := by
 by_cases h1 : n < lo
 · have t1 : decide (n < lo) = true := by simpa using h1
   have HV := Lib.hid (show (!inR n lo hi) = true by simp [inR]; omega)
   clear h1
   go_enter Tryz.func87, Tryz.ntmps87
   go_wp2_with fail
   go_ret
   exact ⟨ret_bool HV.out.symm, rfl⟩
 · have t1 : decide (n < lo) = false := by simpa using h1
   have HV := Lib.hid (show (!inR n lo hi) = decide (hi < n) by
    unfold inR
    rw [decide_eq_true (show lo ≤ n by omega), Bool.true_and]
    by_cases h : hi < n
    · rw [decide_eq_true h, decide_eq_false (by omega)]; rfl
    · rw [decide_eq_false h, decide_eq_true (by omega)]; rfl)
   clear h1
   go_enter Tryz.func87, Tryz.ntmps87
   go_wp2_with fail
   go_ret
   exact ⟨ret_bool HV.out.symm, rfl⟩
set_option maxHeartbeats 16000000 in
set_option maxRecDepth 100000 in
theorem rlevel_any (A : Acv) (a b c : Option Addr) (ca cb cc : Nat) (nn : Nat) (w : World) (h : ActIn w A a b c) (oA : AcOk A) (hnn : nn ≤ 50) :
 Calls Tryz.prog 72 #[actV A a b c ca cb cc, .int .i64 (nn : Int)] w fun e w' => LvRet { A with sm := levelS A.sm nn } w e w' := by
 obtain ⟨V0, hV0, hb0, hs0, ha0⟩ := alloc_ac w A.name A.sport A.start (.slice a A.sm.length ca) (.slice b A.lp.length cb) (.slice c A.tg.length cc)
 obtain ⟨V1, hV1, hb1, hs1, ha1⟩ := alloc_ac V0 ⟨#[]⟩ 0 0 (.slice none 0 0) (.slice none 0 0) (.slice none 0 0)
 rw [hs0] at ha1
 have hA0 := ha0.below hb1
 have HB := Lib.hid (below_step hb0 hb1)
 have HSZ := Lib.hid (show V1.heap.size = w.heap.size + 2 from by omega)
 have HIN := Lib.hid (h.below HB.out)
 have HIW := Lib.hid h.sm
 have HOA := Lib.hid oA
 have HA1 := Lib.hid ha1
 have DC := Lib.hid (show Calls Tryz.prog 35 #[.agg #[.string A.name, .int .i64 A.sport, .int .i64 A.start, .slice a A.sm.length ca, .slice b A.lp.length cb, .slice c A.tg.length cc]] V1 fun e w'' => e = .returned (.int .i64 0) ∧ Below V1.heap.size V1 w'' from by
  have h := rcheck2_any A a b c ca cb cc V1 HIN.out
  unfold actV at h
  rw [chkA_zero.2 HOA.out] at h
  exact h)
 have DI := Lib.hid (fun W => (show Calls Tryz.prog 87 #[.int .i64 (nn : Int), .int .i64 0, .int .i64 50] W fun e w' => e = .returned (.bool false) ∧ W = w' from by
  have h := r3out_any (nn : Int) 0 50 W
  rw [show inR (nn : Int) 0 50 = true from inR_iff.2 (by omega)] at h
  exact h))
 have HA0 := Lib.hid hA0
 obtain ⟨g0, g1, g2, g3, g4, g5⟩ := hA0.cell
 clear h oA hb0 hb1 ha0 ha1 hA0 hs1
 unfold actV
 go_enter Tryz.func72, Tryz.ntmps72
 go_upto_region 1 with (fail)
 clear hV0 hV1 hs0
 go_wp2_with fail
 refine (DC.out).mono ?_
 rintro e w1 ⟨rfl, hb1⟩
 have HB1 := Lib.hid hb1
 have DCL := Lib.hid (show Calls Tryz.prog 88 #[.agg #[.string A.name, .int .i64 A.sport, .int .i64 A.start, .slice a A.sm.length ca, .slice b A.lp.length cb, .slice c A.tg.length cc]] w1 fun e w'' => CloneRet A w1 e w'' from by
  have h := rcopied3_any A a b c ca cb cc w1 (HIN.out.below hb1) (by have := HOA.out.nsm; omega) (by have := HOA.out.nlp; omega) (by have := HOA.out.ntg; omega)
  unfold actV at h
  exact h)
 obtain ⟨q0, q1, q2, q3, q4, q5⟩ := (HA0.out.below hb1).cell
 clear hb1 g0 g1 g2 g3 g4 g5
 go_wp2_with fail
 refine (DI.out _).mono ?_
 rintro e w2 ⟨rfl, rfl⟩
 go_wp2_with fail
 refine (DCL.out).mono ?_
 unfold CloneRet
 rintro e w2 ⟨⟨a1, b1, c1, ca1, cb1, cc1, rfl, ho3⟩, hb2⟩
 unfold actV
 obtain ⟨T, hT⟩ : ∃ T, w2.heap.size = T := ⟨_, rfl⟩
 obtain ⟨W, hW, hbW, hsW, haW⟩ := alloc_ac w2 A.name A.sport A.start (.slice a1 A.sm.length ca1) (.slice b1 A.lp.length cb1) (.slice c1 A.tg.length cc1)
 obtain ⟨D0, hD0⟩ : ∃ D0, w1.heap.size = D0 := ⟨_, rfl⟩
 rw [hT] at haW
 rw [hD0] at ho3
 have HT := Lib.hid hT
 have HD := Lib.hid hD0
 have HO3 := Lib.hid ho3
 have HB2 := Lib.hid (show Below w.heap.size w W from below_step (below_step HB.out HB1.out) (below_step hb2 hbW))
 have HBV := Lib.hid (show Below V1.heap.size V1 W from below_step HB1.out (below_step hb2 hbW))
 have HBW := Lib.hid hbW
 have HSW := Lib.hid (show w.heap.size + 2 ≤ D0 ∧ D0 ≤ T ∧ T < W.heap.size from by
  have := HSZ.out
  have := HB1.out.size
  have := hb2.size
  have := haW.lt
  omega)
 obtain ⟨ns, hn⟩ : ∃ n, A.sm.length = n := ⟨_, rfl⟩
 have HN := Lib.hid hn
 have hns : ns ≤ 20000 := by have := HOA.out.nsm; omega
 have HSO := Lib.hid (show Own smC 7 72 W D0 (.slice a1 ns ca1) A.sm from by
  obtain ⟨B1, B2, hB1, hB2, hos, _, _, _, _⟩ := ho3.ex
  rw [hn] at hos
  exact hos.below hbW)
 have HAB := Lib.hid (show AcB W T A.name A.sport A.start (.slice a1 ns ca1) (.slice b1 A.lp.length cb1) (.slice c1 A.tg.length cc1) from hn ▸ haW)
 have HBX := Lib.hid (HA0.out.below HBV.out)
 rw [hn] at HBX q3 hW ⊢
 clear ho3 hb2 hbW hsW haW hD0 hn q0 q1 q2 q4 q5
 obtain ⟨y0, y1, y2, y3, y4, y5⟩ := HAB.out.cell
 go_upto_region 7 with (fail)
 clear hW q3
 go_wp2_with fail
 clear y0 y1 y2 y3 y4 y5
 have HLT := Lib.hid (fun q (hq : (Value.slice a1 ns ca1).ownBlock = some q) => show D0 ≤ q ∧ q < T from by
  have h := HSO.out.lt q hq
  obtain ⟨B1, B2, hB1, hB2, hos, _, _, _, _⟩ := HO3.out.ex
  have h2 := (hos.lt q (by rw [HN.out]; exact hq)).2
  rw [HT.out] at h2
  exact ⟨h.1, h2⟩)
 go_loopw [25] (fun iv wr => ∃ k : Nat, iv = .int .i64 k ∧ k ≤ ns ∧ Hid (Own smC 7 72 wr D0 (.slice a1 ns ca1) (upI (levS A.sm nn) A.sm k)) ∧ ∃ Z : ExtO (fun q => (Value.slice a1 ns ca1).ownBlock = some q) W, wr = Z.1) (fun iv _ => ns - (intOf iv).toNat)
 case atStart => exact ⟨0, rfl, by omega, Lib.hid (by rw [upI_zero]; exact HSO.out), ⟨W, Kept.refl _ _⟩, rfl⟩
 case round =>
  obtain ⟨k, rfl, hk, HO, Z, rfl⟩ := hrel
  have hac := HAB.out.kept Z.2 (fun e => by have := (HLT.out T e).2; omega)
  have hbx := HBX.out.kept Z.2 (fun e => by have := (HLT.out _ e).1; have := HSW.out; omega)
  by_cases hlt : k < ns
  · have t5 : decide ((k : Int) < (ns : Int)) = true := by rw [decide_eq_true_eq]; omega
    have t5' : decide (k < ns) = true := by simpa using hlt
    obtain ⟨x, hx⟩ : ∃ x, A.sm[k]? = some x := ⟨_, List.getElem?_eq_getElem (by rw [HN.out]; exact hlt)⟩
    have HX := Lib.hid hx
    have j3 := hac.cell.2.2.2.1
    have x3 := hbx.cell.2.2.2.1
    obtain ⟨lo, hlo⟩ : ∃ lo, k - nn = lo := ⟨_, rfl⟩
    obtain ⟨hi, hhi⟩ : ∃ hi, min (k + nn + 1) ns = hi := ⟨_, rfl⟩
    have e1 : IntKind.i64.wrap ((k : Int) - (nn : Int)) = (k : Int) - (nn : Int) := tm_wrap (by omega) (by omega)
    have e2 : max (0 : Int) ((k : Int) - (nn : Int)) = (lo : Int) := by omega
    have e3 : IntKind.i64.wrap ((k : Int) + (nn : Int)) = (k : Int) + (nn : Int) := tm_wrap (by omega) (by omega)
    have h1 : lo ≤ hi := by omega
    have h3 : lo < hi := by omega
    have e6 : ∃ m, hi - lo = m := ⟨_, rfl⟩
    obtain ⟨m, e6⟩ := e6
    have HMM := Lib.hid (show m = min (k + nn + 1) A.sm.length - (k - nn) ∧ 0 < m ∧ m ≤ 101 ∧ k - nn = lo from by rw [HN.out]; omega)
    obtain ⟨b3, o3, rfl, hb3, hd⟩ := HIW.out.here (by rw [HN.out]; omega)
    have HC := Lib.hid (fun (X : Ext Z.1) (i : Nat) (y : Sm) (hy : A.sm[i]? = some y) (j : Nat) (v : Value) (hv : (smC y)[j]? = some v) => show X.1.cell? ⟨b3, o3 + i * 7 + j, none⟩ = some v from
     below_cell X.2 (Z.2.cell (fun e => by have := (HLT.out b3 e).1; have := HSW.out; omega) (below_cell HB2.out (hd i y hy j v hv))))
    have hm1 : m ≤ 101 := by have := HMM.out; omega
    have HLO := Lib.hid hlo
    clear hd hx hlo hac hbx
    go_upto_region 11 with (fail)
    go_wp2_with fail
    have HHI := Lib.hid (show hi = lo + m ∧ hi ≤ k + nn + 1 ∧ hi ≤ ns ∧ (hi = k + nn + 1 ∨ hi = ns) from by omega)
    have X3 := Ext.ex x3
    clear e1 e2 e6 h1 h3 j3 x3 hhi
    go_loopw [9, 10] (fun vv iv wr => ∃ j : Nat, iv = .int .i64 ((lo + j : Nat) : Int) ∧ j ≤ m ∧ Hid (Own zC 1 3 wr Z.1.heap.size vv ((winZ A.sm nn k).take j)) ∧ ∃ X : Ext Z.1, wr = X.1) (fun _ iv _ => lo + m - (intOf iv).toNat)
    case atStart => exact ⟨0, by rw [Nat.add_zero], by omega, Lib.hid (Own.nil _ _ _ _ _), ⟨Z.1, Below.refl _ _⟩, rfl⟩
    case round =>
     obtain ⟨j, rfl, hj, HOW, X, rfl⟩ := hrel
     by_cases hlt2 : j < m
     · have hp1 : lo + j < hi := by have := HHI.out; omega
       have hp2 : lo + j < ns := by have := HHI.out; omega
       have hp3 : lo + j ≤ k + nn := by have := HHI.out; omega
       obtain ⟨y, hy⟩ : ∃ y, A.sm[lo + j]? = some y := ⟨_, List.getElem?_eq_getElem (by have := HMM.out; omega)⟩
       have HTK := Lib.hid (show (winZ A.sm nn k).take (j + 1) = (winZ A.sm nn k).take j ++ [y.z] from winZ_take (by have := HMM.out; omega) (by rw [HLO.out]; exact hy))
       have HTL := Lib.hid (show ((winZ A.sm nn k).take j).length = j from by rw [List.length_take, winZ_len]; have := HMM.out; omega)
       have ec := HC.out X (lo + j) y hy 3 _ rfl
       obtain ⟨p, hp⟩ : ∃ p, lo + j = p := ⟨_, rfl⟩
       rw [hp] at ec hp1 hp2 hp3 ⊢
       have HPP := Lib.hid hp
       have t6 : decide ((p : Int) ≤ (k : Int) + (nn : Int)) = true := by rw [decide_eq_true_eq]; omega
       have t7 : decide ((p : Int) < (ns : Int)) = true := by rw [decide_eq_true_eq]; omega
       have t7' : decide (p < ns) = true := by simpa using hp2
       have x3 := X3 X
       obtain ⟨V7, hV7, hb7, hs7, hl7⟩ := alloc_cells X.1 #[.int .i64 y.z] 3
       have HC7 := Lib.hid (show V7.cell? ⟨X.1.heap.size, 0, none⟩ = some (.int .i64 y.z) from hl7 0 _ rfl)
       have HO7 := Lib.hid (HOW.out.below hb7)
       have H7 := Lib.hid (below_step X.2 hb7)
       clear hy hb7 hs7 hl7 hp
       go_wp2_with (at_builtin; refine append_Z rfl _ _ rfl rfl HO7.out rfl HC7.out (by have := HTL.out; have := HMM.out; omega) H7.out.size (fun g' c3 w8 ho8 hg8 hor => ?_); rw [HTL.out] at ho8 ⊢)
       have HO8 := Lib.hid ho8
       have H8 := Lib.hid (show Below Z.1.heap.size Z.1 w8 from Kept.below (O := fun q => Z.1.heap.size ≤ q) H7.out (Kept.of_grown hg8 (fun g e _ => (HO7.out.lt g e).1)) H7.out.size (fun q hq e => by omega))
       clear ho8 hg8 hor hV7 ec x3
       go_wp2_with fail
       go_roundw
       case rel => exact ⟨j + 1, by rw [show lo + (j + 1) = p + 1 from by have := HPP.out; omega]; go_num, by omega, Lib.hid (by rw [HTK.out]; exact HO8.out), ⟨w8, H8.out⟩, rfl⟩
       case measure => simp [intOf]; have := HPP.out; omega
     · have hmj : m = j := by omega
       obtain rfl : m = j := hmj
       obtain ⟨WZ, hWZ⟩ : ∃ z, winZ A.sm nn k = z := ⟨_, rfl⟩
       have hwl : WZ.length = m := by rw [← hWZ, winZ_len]; exact HMM.out.1.symm
       have how := HOW.out
       rw [hWZ, List.take_of_length_le (by omega)] at how
       obtain ⟨g9, c9, rfl, -, -⟩ := how.open (by have := HMM.out; omega)
       have DSO := Lib.hid (rmiddle_any WZ g9 c9 Z.1.heap.size m)
       have HOQ := Lib.hid how
       have HWZ := Lib.hid hWZ
       have HWL := Lib.hid hwl
       rw [hwl] at HOQ ⊢
       have x3 := X3 X
       have J3 := Ext.ex ((HAB.out.kept Z.2 (fun e => by have := (HLT.out T e).2; omega)).cell.2.2.2.1)
       clear how hWZ hwl hlt2 hj HOW
       have hq : (decide (((lo + m : Nat) : Int) ≤ (k : Int) + (nn : Int)) = false) ∨ (decide (((lo + m : Nat) : Int) ≤ (k : Int) + (nn : Int)) = true ∧ decide (((lo + m : Nat) : Int) < (ns : Int)) = false ∧ decide (lo + m < ns) = false) := by
        have := HHI.out
        by_cases hh : lo + m ≤ k + nn
        · exact Or.inr ⟨by rw [decide_eq_true_eq]; omega, by rw [decide_eq_false_iff_not]; omega, by rw [decide_eq_false_iff_not]; omega⟩
        · exact Or.inl (by rw [decide_eq_false_iff_not]; omega)
       obtain ⟨p, hp⟩ : ∃ p, lo + m = p := ⟨_, rfl⟩
       rw [hp] at hq ⊢
       clear hp
       obtain ⟨mv, hmv⟩ : ∃ z, midL WZ = z := ⟨_, rfl⟩
       have HMV := Lib.hid hmv
       rw [hmv] at DSO
       clear hmv
       have b0 : (0 : Int) ≤ (k : Int) ∧ (k : Int) < (ns : Int) := by omega
       rcases hq with t6 | ⟨t6, t7, t7'⟩
       all_goals
        go_upto_region 15 with (fail)
        refine late_start (s := 7) (C := fun w' => ∃ Y : Ext Z.1, w' = Y.1) (by kernel_rfl) ?_
        obtain ⟨Q1, hQ1⟩ : ∃ Y : Ext Z.1, ({ X.1 with drawn := X.1.drawn + 1 } : World) = Y.1 := ⟨⟨{ X.1 with drawn := X.1.drawn + 1 }, below_step X.2 ⟨rfl, rfl, rfl, Nat.le_refl _, fun _ _ => rfl⟩⟩, rfl⟩
        have HOQ1 := Lib.hid (show Own zC 1 3 Q1.1 Z.1.heap.size (.slice (some ⟨g9, 0, none⟩) m c9) WZ from hQ1 ▸ HOQ.out)
        rw [hQ1]
        clear hQ1
        refine late_quiet (by kernel_rfl) (fun _ _ d _ _ h => by cases d <;> exact h) ⟨Q1, rfl⟩ [0, 1, 2, 3] 4 _ _ (by kernel_rfl) (by kernel_rfl) ?_
        change wpQuiet _ _ _ _ (_ :: _ :: _ :: _ :: []) _
        repeat go_big_quiet_step (fail)
        refine wpQuiet_nil ?_
        refine late_do (i := 4) _ rfl (by kernel_rfl) rfl (fun K hK => ?_)
        go_simp
        refine (DSO.out Q1.1 HOQ1.out HWL.out (by have := HMM.out; omega) (by have := HMM.out; omega)).mono ?_
        rintro e w6 ⟨rfl, hk6⟩
        obtain ⟨Q0, rfl⟩ : ∃ Z' : Ext Z.1, w6 = Z'.1 := ⟨⟨w6, Kept.below Q1.2 hk6 Q1.2.size (fun q hq e => by have := (HOQ1.out.facts).2.2.2; omega)⟩, rfl⟩
        refine hK _ _ (fun _ => ⟨Q0, rfl⟩) ?_
        clear hK K hk6
        try simp only [Act.put, List.setIfInBounds_toArray, List.set_cons_zero, List.set_cons_succ]
        have hlenU := upI_len (levS A.sm nn) A.sm k
        have hat := (upI_at (levS A.sm nn) A.sm k).trans HX.out
        obtain ⟨q, c', he, -, hq2⟩ := HO.out.open (by rw [hlenU, HN.out]; omega)
        injection he with he1 he2 he3
        subst he1
        subst he3
        have ho5 := (HO.out.below (Q0.2) : Own smC 7 72 Q0.1 D0 (.slice (some ⟨q, 0, none⟩) ns ca1) (upI (levS A.sm nn) A.sm k))
        have f5 := ho5.free (k * 7 + 3)
        have c5 : Q0.1.cell? ⟨q, k * 7 + 3, none⟩ = some (.int .i64 x.z) := by
         have h := (ho5.rw_ smEl).1.on hat 3 _ rfl
         simpa using h
        obtain ⟨hos, hks⟩ := ho5.set smEl (j := 3) hat (by decide) (y := levS A.sm nn k x) (u := .int .i64 mv) (by rw [← HMV.out, ← HWZ.out]; rfl)
        obtain ⟨W9, hW9⟩ : ∃ z, Q0.1.setCell ⟨q, k * 7 + 3, none⟩ (.int .i64 mv) = z := ⟨_, rfl⟩
        rw [hW9] at hos hks
        rw [upI_set _ _ _ _ HX.out] at hos
        have HOS := Lib.hid hos
        have HKS := Lib.hid ((Z.2.trans (Kept.of_below Q0.2)).trans (show Kept (fun x => (Value.slice (some ⟨q, 0, none⟩) ns ca1).ownBlock = some x) Q0.1 W9 from ⟨hks.os, hks.tape, hks.output, hks.size, fun x hx ho => hks.block x hx (fun e => ho (by rw [e]; rfl))⟩))
        clear ho5 hos hks hat hlenU he2 hq2
        refine late_do (i := 5) _ rfl (by kernel_rfl) rfl (fun K hK => ?_)
        go_simp
        try rw [if_pos b0]
        refine hK _ _ (fun _ => ⟨Q0, rfl⟩) ?_
        clear hK K
        try simp only [Act.put, List.setIfInBounds_toArray, List.set_cons_zero, List.set_cons_succ]
        refine late_do (i := 6) _ rfl (by kernel_rfl) rfl (fun K hK => ?_)
        go_simp
        try rw [if_pos b0]
        refine hK _ _ (fun _ => ⟨Q0, rfl⟩) ?_
        clear hK K
        try simp only [Act.put, List.setIfInBounds_toArray, List.set_cons_zero, List.set_cons_succ]
        refine late_do (i := 7) _ rfl (by kernel_rfl) rfl (fun K hK => ?_)
        go_simp
        refine hK _ _ (fun h => nomatch (show true = false from h)) ?_
        clear hK K
        try simp only [Act.put, List.setIfInBounds_toArray, List.set_cons_zero, List.set_cons_succ]
        refine late_done (by kernel_rfl) ?_ _
        clear c5 f5 hW9 J3 x3 t6
        go_wp2_with fail
        go_roundw
        case rel => exact ⟨k + 1, by go_num, by omega, HOS, ⟨W9, HKS.out⟩, rfl⟩
        case measure => simp [intOf]; omega
  · have t5 : decide ((k : Int) < (ns : Int)) = false := by rw [decide_eq_false_iff_not]; omega
    have t5' : decide (k < ns) = false := by simpa using hlt
    obtain rfl : ns = k := by omega
    have hLen : (levelS A.sm nn).length = ns := by unfold levelS; rw [List.length_mapIdx, HN.out]
    have HOF := Lib.hid (show Own smC 7 72 Z.1 D0 (.slice a1 ns ca1) (levelS A.sm nn) from by
     have h := HO.out
     rw [show upI (levS A.sm nn) A.sm ns = levelS A.sm nn from by rw [← HN.out, upI_all]; rfl] at h
     exact h)
    have HLEN := Lib.hid hLen
    obtain ⟨y0, y1, y2, y3, y4, y5⟩ := hac.cell
    have hR := (HA1.out.below HBV.out).kept Z.2 (fun e => by have := (HLT.out _ e).1; have := HSW.out; omega)
    obtain ⟨r0, r1, r2, r3, r4, r5⟩ := hR.cell
    have fr := hR.free
    obtain ⟨WF, hWF, haF, hkF⟩ := hR.store A.name A.sport A.start (.slice a1 ns ca1) (.slice b1 A.lp.length cb1) (.slice c1 A.tg.length cc1)
    have HAF := Lib.hid haF
    have HKF := Lib.hid (hkF (fun q => q = w.heap.size + 1) rfl)
    have HBF := Lib.hid (show Below w.heap.size w WF from by
     have h1 : Below w.heap.size w Z.1 := Kept.below HB2.out Z.2 HB2.out.size (fun q hq e => by have := (HLT.out q e).1; have := HSW.out; omega)
     exact Kept.below h1 HKF.out h1.size (fun k hk e => by omega))
    have HAI := Lib.hid (show ActIn WF { A with sm := levelS A.sm nn } a1 b1 c1 ∧ ∀ g, (a1 = some g ∨ b1 = some g ∨ c1 = some g) → D0 ≤ g.block from by
     obtain ⟨B1, B2, hB1, hB2, hos, hs, hol, hl, hot⟩ := HO3.out.ex
     obtain ⟨l1, _, l3⟩ := hol.rw_ lpEl
     obtain ⟨t1, _, t3⟩ := hot.rw_ tgEl
     have hof : Own smC 7 72 WF D0 (.slice a1 ns ca1) (levelS A.sm nn) := HOF.out.keepO HKF.out (fun q hq e => by have := (HLT.out q hq).1; have := HSW.out; omega)
     obtain ⟨s1, _, s3⟩ := hof.rw_ smEl
     have hsz := HSW.out
     have hl1 : ∀ bb off, b1 = some ⟨bb, off, none⟩ → B1 ≤ bb := fun bb off e => (l3 _ e).1
     have hl2 : ∀ bb off, c1 = some ⟨bb, off, none⟩ → B2 ≤ bb := fun bb off e => (t3 _ e).1
     have hap : ∀ q, (Value.slice a1 ns ca1).ownBlock = some q → q < B1 := fun q hq => hs q (by rw [HN.out]; exact hq)
     refine ⟨⟨s1, ((l1.below HBW.out).kept Z.2 (fun bb off e h => by have := hl1 bb off e; have := hap bb h; omega)).kept HKF.out (fun bb off e h => by have := hl1 bb off e; omega), ((t1.below HBW.out).kept Z.2 (fun bb off e h => by have := hl2 bb off e; have := hap bb h; omega)).kept HKF.out (fun bb off e h => by have := hl2 bb off e; omega), HIN.out.name, HIN.out.titles, HIN.out.tags, ?_, HIN.out.nlp, HIN.out.ntg⟩, ?_⟩
     · show ((levelS A.sm nn).length : Int) ≤ _
       rw [HLEN.out]
       omega
     · rintro g (e | e | e)
       · exact (s3 _ e).1
       · have := (l3 _ e).1
         omega
       · have := (t3 _ e).1
         omega)
    have HD0 := Lib.hid (show w.heap.size ≤ D0 from by have := HSW.out; omega)
    clear hlt hk hac HO hLen haF hkF hR hbx
    go_wp2_with fail
    have q := HAF.out.cell
    refine bodyPost_ret (v := .tuple #[.agg #[.string A.name, .int .i64 A.sport, .int .i64 A.start, .slice a1 ns ca1, .slice b1 A.lp.length cb1, .slice c1 A.tg.length cc1], .int .i64 0]) (by simp [results, Tryz.results72, go_sem, q]) rfl ⟨HBF.out, a1, b1, c1, ca1, cb1, cc1, ?_, HAI.out.1, fun g hg => Nat.le_trans HD0.out (HAI.out.2 g hg)⟩
    unfold actV
    simp only [HLEN.out]
end Go.Proofs.YtjnfccphodjfiaaGreat

/- A text of this claim. -/
namespace Go.Proofs.YtjnfccphodjfiaaGreat
open Go.RowKit Go.BigFrame
open Tr (inR Ed)
set_option maxHeartbeats 2000000 in
theorem rfield_any (s : Sm) (c : Nat) (hc : c ≤ 2) (w : World) : Calls Tryz.prog 90 #[.agg #[.int .i64 s.tm, .int .i64 s.x, .int .i64 s.y, .int .i64 s.z, .int .i64 s.pu, .int .i64 s.po, .int .i64 s.st], .int .i64 (c : Int)] w fun e w' => e = .returned (.int .i64 (getN c s)) ∧ Below w.heap.size w w' := by
 obtain ⟨V0, hV0, hb0, hs0, ha0⟩ := alloc_sm w s
 obtain ⟨g0, g1, g2, g3, g4, g5, g6⟩ := ha0.cell
 have HB := Lib.hid hb0
 clear ha0 hb0
 have h3 : c = 0 ∨ c = 1 ∨ c = 2 := by omega
 rcases h3 with rfl | rfl | rfl
 all_goals
  clear hc
  go_enter Tryz.func90, Tryz.ntmps90
  go_wp2_with fail
  go_ret
  exact ⟨rfl, HB.out⟩
set_option maxHeartbeats 2000000 in
theorem rset_any (q o c : Nat) (hc : c ≤ 2) (v old : Int) (w w1 : World) (hcell : w.cell? ⟨q, o + (4 + c), none⟩ = some (.int .i64 old)) (hf : w.frozen? ⟨q, o + (4 + c), none⟩ = false) (hw : w.setCell ⟨q, o + (4 + c), none⟩ (.int .i64 v) = w1) :
 Calls Tryz.prog 91 #[.pointer (some ⟨q, o, none⟩), .int .i64 (c : Int), .int .i64 v] w fun e w' => e = .returned (.tuple #[]) ∧ w' = w1 := by
 have h3 : c = 0 ∨ c = 1 ∨ c = 2 := by omega
 rcases h3 with rfl | rfl | rfl
 all_goals
  clear hc
  simp only [Nat.add_zero, Nat.reduceAdd] at hcell hf hw
  go_enter Tryz.func91, Tryz.ntmps91
  go_wp2_with fail
  exact bodyPost_end (v := .tuple #[]) (by simp [results, Tryz.results91, go_sem]) rfl ⟨rfl, rfl⟩
def outC (gap : Int) (sm : List Sm) : Nat → List Sm
 | 0 => sm
 | c + 1 => passF gap c sm (outC gap sm c)
theorem outC_len (gap : Int) (sm : List Sm) : ∀ c, (outC gap sm c).length = sm.length
 | 0 => rfl
 | c + 1 => by rw [outC, passF_len, outC_len gap sm c]
theorem outC_tm (gap : Int) (sm : List Sm) : ∀ (c j : Nat), ((outC gap sm c)[j]?).map Sm.tm = (sm[j]?).map Sm.tm
 | 0, _ => rfl
 | c + 1, j => by
  rw [outC]
  exact (passN_view Sm.tm (fun v s => setN_tm c v s) j).trans (outC_tm gap sm c j)
theorem outC_fill (gap : Int) (sm : List Sm) : outC gap sm 3 = fillA gap sm := rfl
def KT (O : Nat → Prop) (W : World) (p : Addr) (v : Value) : Type := {x : World // Kept O W x ∧ x.cell? p = some v}
set_option maxHeartbeats 16000000 in
set_option maxRecDepth 100000 in
theorem rfill_any (A : Acv) (a b c : Option Addr) (ca cb cc : Nat) (nn : Int) (w : World) (h : ActIn w A a b c) (oA : AcOk A) (hnn : 0 ≤ nn ∧ nn ≤ 1000000) :
 Calls Tryz.prog 73 #[actV A a b c ca cb cc, .int .i64 nn] w fun e w' => LvRet { A with sm := fillA nn A.sm } w e w' := by
 obtain ⟨V0, hV0, hb0, hs0, ha0⟩ := alloc_ac w A.name A.sport A.start (.slice a A.sm.length ca) (.slice b A.lp.length cb) (.slice c A.tg.length cc)
 obtain ⟨V1, hV1, hb1, hs1, ha1⟩ := alloc_ac V0 ⟨#[]⟩ 0 0 (.slice none 0 0) (.slice none 0 0) (.slice none 0 0)
 rw [hs0] at ha1
 have hA0 := ha0.below hb1
 have HB := Lib.hid (below_step hb0 hb1)
 have HSZ := Lib.hid (show V1.heap.size = w.heap.size + 2 from by omega)
 have HIN := Lib.hid (h.below HB.out)
 have HIW := Lib.hid h.sm
 have HOA := Lib.hid oA
 have HA1 := Lib.hid ha1
 have DC := Lib.hid (show Calls Tryz.prog 35 #[.agg #[.string A.name, .int .i64 A.sport, .int .i64 A.start, .slice a A.sm.length ca, .slice b A.lp.length cb, .slice c A.tg.length cc]] V1 fun e w'' => e = .returned (.int .i64 0) ∧ Below V1.heap.size V1 w'' from by
  have h := rcheck2_any A a b c ca cb cc V1 HIN.out
  unfold actV at h
  rw [chkA_zero.2 HOA.out] at h
  exact h)
 have DI := Lib.hid (fun W => (show Calls Tryz.prog 87 #[.int .i64 nn, .int .i64 0, .int .i64 1000000] W fun e w' => e = .returned (.bool false) ∧ W = w' from by
  have h := r3out_any nn 0 1000000 W
  rw [show inR nn 0 1000000 = true from inR_iff.2 (by omega)] at h
  exact h))
 have HA0 := Lib.hid hA0
 obtain ⟨g0, g1, g2, g3, g4, g5⟩ := hA0.cell
 clear h oA hb0 hb1 ha0 ha1 hA0 hs1
 unfold actV
 go_enter Tryz.func73, Tryz.ntmps73
 go_upto_region 1 with (fail)
 clear hV0 hV1 hs0
 go_wp2_with fail
 refine (DC.out).mono ?_
 rintro e w1 ⟨rfl, hb1⟩
 have HB1 := Lib.hid hb1
 have DCL := Lib.hid (show Calls Tryz.prog 88 #[.agg #[.string A.name, .int .i64 A.sport, .int .i64 A.start, .slice a A.sm.length ca, .slice b A.lp.length cb, .slice c A.tg.length cc]] w1 fun e w'' => CloneRet A w1 e w'' from by
  have h := rcopied3_any A a b c ca cb cc w1 (HIN.out.below hb1) (by have := HOA.out.nsm; omega) (by have := HOA.out.nlp; omega) (by have := HOA.out.ntg; omega)
  unfold actV at h
  exact h)
 obtain ⟨q0, q1, q2, q3, q4, q5⟩ := (HA0.out.below hb1).cell
 clear hb1 g0 g1 g2 g3 g4 g5
 go_wp2_with fail
 refine (DI.out _).mono ?_
 rintro e w2 ⟨rfl, rfl⟩
 go_wp2_with fail
 refine (DCL.out).mono ?_
 unfold CloneRet
 rintro e w2 ⟨⟨a1, b1, c1, ca1, cb1, cc1, rfl, ho3⟩, hb2⟩
 unfold actV
 obtain ⟨T, hT⟩ : ∃ T, w2.heap.size = T := ⟨_, rfl⟩
 obtain ⟨W, hW, hbW, hsW, haW⟩ := alloc_ac w2 A.name A.sport A.start (.slice a1 A.sm.length ca1) (.slice b1 A.lp.length cb1) (.slice c1 A.tg.length cc1)
 obtain ⟨D0, hD0⟩ : ∃ D0, w1.heap.size = D0 := ⟨_, rfl⟩
 rw [hT] at haW
 rw [hD0] at ho3
 have HT := Lib.hid hT
 have HD := Lib.hid hD0
 have HO3 := Lib.hid ho3
 have HB2 := Lib.hid (show Below w.heap.size w W from below_step (below_step HB.out HB1.out) (below_step hb2 hbW))
 have HBV := Lib.hid (show Below V1.heap.size V1 W from below_step HB1.out (below_step hb2 hbW))
 have HBW := Lib.hid hbW
 have HSW := Lib.hid (show w.heap.size + 2 ≤ D0 ∧ D0 ≤ T ∧ T < W.heap.size from by
  have := HSZ.out
  have := HB1.out.size
  have := hb2.size
  have := haW.lt
  omega)
 obtain ⟨ns, hn⟩ : ∃ n, A.sm.length = n := ⟨_, rfl⟩
 have HN := Lib.hid hn
 have hns : ns ≤ 20000 := by have := HOA.out.nsm; omega
 have HSO := Lib.hid (show Own smC 7 72 W D0 (.slice a1 ns ca1) A.sm from by
  obtain ⟨B1, B2, hB1, hB2, hos, _, _, _, _⟩ := ho3.ex
  rw [hn] at hos
  exact hos.below hbW)
 have HAB := Lib.hid (show AcB W T A.name A.sport A.start (.slice a1 ns ca1) (.slice b1 A.lp.length cb1) (.slice c1 A.tg.length cc1) from hn ▸ haW)
 have HBX := Lib.hid (HA0.out.below HBV.out)
 rw [hn] at HBX q3 hW ⊢
 clear ho3 hb2 hbW hsW haW hD0 hn q0 q1 q2 q4 q5
 obtain ⟨y0, y1, y2, y3, y4, y5⟩ := HAB.out.cell
 have HLT := Lib.hid (fun q (hq : (Value.slice a1 ns ca1).ownBlock = some q) => show D0 ≤ q ∧ q < T from by
  have h := HSO.out.lt q hq
  obtain ⟨B1, B2, hB1, hB2, hos, _, _, _, _⟩ := HO3.out.ex
  have h2 := (hos.lt q (by rw [HN.out]; exact hq)).2
  rw [HT.out] at h2
  exact ⟨h.1, h2⟩)
 have HPK := Lib.hid (fun (c : Nat) (hc : c ≤ 2) => passOk_of HOA.out hc)
 go_upto_region 7 with (fail)
 clear hW q3
 clear y0 y1 y2 y3 y4 y5
 go_wp2_with fail
 go_loopw [8] (fun cv wr => ∃ k : Nat, cv = .int .i64 k ∧ k ≤ 3 ∧ Hid (Own smC 7 72 wr D0 (.slice a1 ns ca1) (outC nn A.sm k)) ∧ ∃ Z : ExtO (fun x => (Value.slice a1 ns ca1).ownBlock = some x) W, wr = Z.1) (fun cv _ => 3 - (intOf cv).toNat)
 case atStart => exact ⟨0, rfl, by omega, HSO, ⟨W, Kept.refl _ _⟩, rfl⟩
 case round =>
  obtain ⟨fc, rfl, hfc, HO, Z, rfl⟩ := hrel
  have hac := HAB.out.kept Z.2 (fun e => by have := (HLT.out T e).2; omega)
  have hbx := HBX.out.kept Z.2 (fun e => by have := (HLT.out _ e).1; have := HSW.out; omega)
  by_cases hltc : fc < 3
  · have t5 : decide ((fc : Int) < 3) = true := by rw [decide_eq_true_eq]; omega
    have HFC := Lib.hid (show fc ≤ 2 from by omega)
    have x3 := hbx.cell.2.2.2.1
    have HOL := Lib.hid (outC_len nn A.sm fc)
    have HOT := Lib.hid (outC_tm nn A.sm fc)
    have HON := Lib.hid (show outC nn A.sm (fc + 1) = (passN nn fc A.sm (outC nn A.sm fc) ns).1 from by rw [outC]; unfold passF; rw [HN.out])
    obtain ⟨out, hout⟩ : ∃ z, outC nn A.sm fc = z := ⟨_, rfl⟩
    rw [hout] at HOL HOT HON HO
    clear hac hbx hout
    go_upto_region 11 with (fail)
    go_wp2_with fail
    clear x3
    go_loopw [9, 32] (fun lv iv wr => ∃ (k : Nat) (R : List Sm) (la : Option Nat), iv = .int .i64 k ∧ k ≤ ns ∧ lv = .int .i64 (laI la) ∧ Hid (passN nn fc A.sm out k = (R, la)) ∧ Hid (Own smC 7 72 wr D0 (.slice a1 ns ca1) R) ∧ ∃ Z : ExtO (fun x => (Value.slice a1 ns ca1).ownBlock = some x) W, wr = Z.1) (fun _ iv _ => ns - (intOf iv).toNat)
    case atStart => exact ⟨0, out, none, rfl, by omega, rfl, Lib.hid rfl, HO, Z, rfl⟩
    case round =>
     clear HO Z
     obtain ⟨k, R, la, rfl, hk, rfl, HR, HO, Z, rfl⟩ := hrel
     have hRl : R.length = ns := by
      have := passN_len nn fc A.sm out k
      rw [HR.out, HOL.out, HN.out] at this
      exact this
     have HRL := Lib.hid hRl
     have HRT := Lib.hid (fun j : Nat => show (R[j]?).map Sm.tm = (A.sm[j]?).map Sm.tm from by
      have h := @passN_view Int Sm.tm nn fc (fun v s => setN_tm fc v s) A.sm out k j
      rw [HR.out] at h
      exact h.trans (HOT.out j))
     by_cases hlt : k < ns
     · have t6 : decide ((k : Int) < (ns : Int)) = true := by rw [decide_eq_true_eq]; omega
       have t6' : decide (k < ns) = true := by simpa using hlt
       obtain ⟨x, hx⟩ : ∃ x, A.sm[k]? = some x := ⟨_, List.getElem?_eq_getElem (by rw [HN.out]; exact hlt)⟩
       obtain ⟨b3, o3, rfl, hb3, hd⟩ := HIW.out.here (by rw [HN.out]; omega)
       obtain ⟨q, c', he, -, -⟩ := HO.out.open (by rw [hRl]; omega)
       injection he with he1 he2 he3
       subst he1
       subst he3
       have HC := Lib.hid (fun (X : ExtO (fun x => (Value.slice (some ⟨q, 0, none⟩) ns ca1).ownBlock = some x) W) (i : Nat) (y : Sm) (hy : A.sm[i]? = some y) (j : Nat) (v : Value) (hv : (smC y)[j]? = some v) => show X.1.cell? ⟨b3, o3 + i * 7 + j, none⟩ = some v from
        X.2.cell (fun e => by have := (HLT.out b3 e).1; have := HSW.out; omega) (below_cell HB2.out (hd i y hy j v hv)))
       have e0 : Z.1.cell? ⟨b3, o3 + k * 7, none⟩ = some (.int .i64 x.tm) := HC.out Z k x hx 0 _ rfl
       have e1 : Z.1.cell? ⟨b3, o3 + k * 7 + 1, none⟩ = some (.int .i64 x.x) := HC.out Z k x hx 1 _ rfl
       have e2 : Z.1.cell? ⟨b3, o3 + k * 7 + 2, none⟩ = some (.int .i64 x.y) := HC.out Z k x hx 2 _ rfl
       have e3 : Z.1.cell? ⟨b3, o3 + k * 7 + 3, none⟩ = some (.int .i64 x.z) := HC.out Z k x hx 3 _ rfl
       have e4 : Z.1.cell? ⟨b3, o3 + k * 7 + 4, none⟩ = some (.int .i64 x.pu) := HC.out Z k x hx 4 _ rfl
       have e5 : Z.1.cell? ⟨b3, o3 + k * 7 + 5, none⟩ = some (.int .i64 x.po) := HC.out Z k x hx 5 _ rfl
       have e6 : Z.1.cell? ⟨b3, o3 + k * 7 + 6, none⟩ = some (.int .i64 x.st) := HC.out Z k x hx 6 _ rfl
       have HX := Lib.hid hx
       obtain ⟨⟨rx0, rx1⟩, rx2, rx3⟩ := (HPK.out fc HFC.out).rng k x hx
       obtain ⟨V6, hV6, hb6, hs6, ha6⟩ := alloc_sm Z.1 x
       obtain ⟨G, hG⟩ : ∃ G, Z.1.heap.size = G := ⟨_, rfl⟩
       rw [hG] at ha6
       have HG := Lib.hid (show W.heap.size ≤ G from by have := Z.2.size; omega)
       have HS6 := Lib.hid ha6
       obtain ⟨Y, hY⟩ : ∃ Y : ExtO (fun x => (Value.slice (some ⟨q, 0, none⟩) ns ca1).ownBlock = some x) W, V6 = Y.1 := ⟨⟨V6, Z.2.trans (Kept.of_below hb6)⟩, rfl⟩
       have HOY := Lib.hid (show Own smC 7 72 Y.1 D0 (.slice (some ⟨q, 0, none⟩) ns ca1) R from hY ▸ HO.out.below hb6)
       rw [hY] at HS6
       have p := HS6.out.cell
       obtain ⟨p0, p1, p2, p3, p4, p5, p6⟩ := p
       have DF := Lib.hid (fun (s : Sm) W => rfield_any s fc HFC.out W)
       subst hY
       have hG2 : Z.1.heap.size = G := hG
       clear hx hd hb3 hb6 hs6 ha6 he2 hRl hltc
       go_upto_region 14 with (fail)
       clear hV6 e0 e1 e2 e3 e4 e5 e6 hG hG2
       go_wp2_with fail
       refine (DF.out x _).mono ?_
       rintro e w7 ⟨rfl, hb7⟩
       obtain ⟨nx, hnx⟩ : ∃ z, getN fc x = z := ⟨_, rfl⟩
       have HNX := Lib.hid hnx
       rw [hnx] at rx2 rx3 ⊢
       have HS7 := Lib.hid (HS6.out.below hb7)
       obtain ⟨Y7, hY7⟩ : ∃ Y' : ExtO (fun x => (Value.slice (some ⟨q, 0, none⟩) ns ca1).ownBlock = some x) W, w7 = Y'.1 := ⟨⟨w7, Y.2.trans (Kept.of_below hb7)⟩, rfl⟩
       have HO7 := Lib.hid (show Own smC 7 72 Y7.1 D0 (.slice (some ⟨q, 0, none⟩) ns ca1) R from hY7 ▸ HOY.out.below hb7)
       subst hY7
       clear hb7 hnx p0 p1 p2 p3 p4 p5 p6
       by_cases hneg : nx < 0
       · have t7 : decide (nx < 0) = true := by rw [decide_eq_true_eq]; exact hneg
         have HS := Lib.hid (show passN nn fc A.sm out (k + 1) = (R, la) from by rw [passN_low HX.out (by rw [HNX.out]; exact hneg)]; exact HR.out)
         clear hneg
         go_wp2_with fail
         go_roundw
         case rel => exact ⟨k + 1, R, la, by go_num, by omega, rfl, HS, HO7, Y7, rfl⟩
         case measure => simp [intOf]; omega
       · have t7 : decide (nx < 0) = false := by rw [decide_eq_false_iff_not]; exact hneg
         have HNG := Lib.hid (show ¬ getN fc x < 0 from by rw [HNX.out]; exact hneg)
         clear hneg
         obtain ⟨p0, p1, p2, p3, p4, p5, p6⟩ := HS7.out.cell
         have hbx := HBX.out.kept Y7.2 (fun e => by have := (HLT.out _ e).1; have := HSW.out; omega)
         have x3 := hbx.cell.2.2.2.1
         cases la with
         | none =>
          have HS := Lib.hid (passN_first HX.out HNG.out HR.out)
          unfold laI
          go_upto_region 15 with (fail)
          go_quiet (fail)
          obtain ⟨Z2, hZ'⟩ : ∃ Z' : ExtO (fun x => (Value.slice (some ⟨q, 0, none⟩) ns ca1).ownBlock = some x) W, Y7.1.drewN nq = Z'.1 := ⟨⟨Y7.1.drewN nq, Y7.2.trans ⟨rfl, rfl, rfl, Nat.le_refl _, fun _ _ _ => rfl⟩⟩, rfl⟩
          have HO' := Lib.hid (show Own smC 7 72 Z2.1 D0 (.slice (some ⟨q, 0, none⟩) ns ca1) R from hZ' ▸ HO7.out)
          rw [hZ']
          clear hZ' p0 p1 p2 p3 p4 p5 p6 hbx x3
          go_wp2_with fail
          go_roundw
          case rel => exact ⟨k + 1, R, some k, by go_num, by omega, rfl, HS, HO', Z2, rfl⟩
          case measure => simp [intOf]; omega
         | some l0 =>
          obtain ⟨hl0, p, hp, hpn⟩ := passN_last (show (passN nn fc A.sm out k).2 = some l0 by rw [HR.out])
          have HP := Lib.hid hp
          have htp : Y7.1.cell? ⟨b3, o3 + l0 * 7, none⟩ = some (.int .i64 p.tm) := HC.out Y7 l0 p hp 0 _ rfl
          obtain ⟨⟨rp0, rp1⟩, rp2, rp3⟩ := (HPK.out fc HFC.out).rng l0 p hp
          have hinc : p.tm < x.tm := (HPK.out fc HFC.out).inc l0 k p x hl0 hp HX.out
          have t8 : decide ((l0 : Int) ≥ 0) = true := by rw [decide_eq_true_eq]; omega
          have t8' : decide ((0 : Int) ≤ (l0 : Int)) = true := by rw [decide_eq_true_eq]; omega
          have w1' : IntKind.i64.wrap (x.tm - p.tm) = x.tm - p.tm := tm_wrap (by omega) (by omega)
          have hlk : l0 < ns := by omega
          unfold laI
          by_cases hg : x.tm - p.tm ≤ nn
          · have t9 : decide (x.tm - p.tm ≤ nn) = true := by rw [decide_eq_true_eq]; exact hg
            have HS := Lib.hid (passN_near HX.out HNG.out HR.out HP.out hg)
            clear hg hp hpn
            go_upto_region 15 with (fail)
            go_quiet (fail)
            obtain ⟨Z2, hZ'⟩ : ∃ Z' : ExtO (fun x => (Value.slice (some ⟨q, 0, none⟩) ns ca1).ownBlock = some x) W, Y7.1.drewN nq = Z'.1 := ⟨⟨Y7.1.drewN nq, Y7.2.trans ⟨rfl, rfl, rfl, Nat.le_refl _, fun _ _ _ => rfl⟩⟩, rfl⟩
            have HO2 := Lib.hid (show Own smC 7 72 Z2.1 D0 (.slice (some ⟨q, 0, none⟩) ns ca1) R from hZ' ▸ HO7.out)
            have HS2 := Lib.hid (show SmB Z2.1 G x from hZ' ▸ HS7.out)
            rw [hZ']
            clear hZ' p0 p1 p2 p3 p4 p5 p6 hbx x3 htp
            have hbx := HBX.out.kept Z2.2 (fun e => by have := (HLT.out _ e).1; have := HSW.out; omega)
            have x3 := hbx.cell.2.2.2.1
            have e0 : Z2.1.cell? ⟨b3, o3 + l0 * 7, none⟩ = some (.int .i64 p.tm) := HC.out Z2 l0 p HP.out 0 _ rfl
            have e1 : Z2.1.cell? ⟨b3, o3 + l0 * 7 + 1, none⟩ = some (.int .i64 p.x) := HC.out Z2 l0 p HP.out 1 _ rfl
            have e2 : Z2.1.cell? ⟨b3, o3 + l0 * 7 + 2, none⟩ = some (.int .i64 p.y) := HC.out Z2 l0 p HP.out 2 _ rfl
            have e3 : Z2.1.cell? ⟨b3, o3 + l0 * 7 + 3, none⟩ = some (.int .i64 p.z) := HC.out Z2 l0 p HP.out 3 _ rfl
            have e4 : Z2.1.cell? ⟨b3, o3 + l0 * 7 + 4, none⟩ = some (.int .i64 p.pu) := HC.out Z2 l0 p HP.out 4 _ rfl
            have e5 : Z2.1.cell? ⟨b3, o3 + l0 * 7 + 5, none⟩ = some (.int .i64 p.po) := HC.out Z2 l0 p HP.out 5 _ rfl
            have e6 : Z2.1.cell? ⟨b3, o3 + l0 * 7 + 6, none⟩ = some (.int .i64 p.st) := HC.out Z2 l0 p HP.out 6 _ rfl
            obtain ⟨V8, hV8, hb8, hs8, ha8⟩ := alloc_sm Z2.1 p
            obtain ⟨G8, hG8⟩ : ∃ G, Z2.1.heap.size = G := ⟨_, rfl⟩
            rw [hG8] at ha8
            have HG8 := Lib.hid (show W.heap.size ≤ G8 from by have := Z2.2.size; omega)
            have HP8 := Lib.hid ha8
            have HX8 := Lib.hid (HS2.out.below hb8)
            have HK8 := Lib.hid (Z2.2.trans (Kept.of_below hb8))
            have HO8 := Lib.hid (show Own smC 7 72 V8 D0 (.slice (some ⟨q, 0, none⟩) ns ca1) (mapR (l0 + 1) (l0 + 1) (fillB fc p x) R) from by rw [mapR_nil]; exact HO2.out.below hb8)
            have w2 : IntKind.i64.wrap ((l0 : Int) + 1) = ((l0 + 1 : Nat) : Int) := by rw [tm_wrap (by omega) (by omega)]; omega
            clear hb8 hs8 ha8 hbx HO2 HO7 HOY HO
            go_upto_region 17 with (fail)
            clear hV8 e0 e1 e2 e3 e4 e5 e6 x3 hG8
            go_wp2_with fail
            clear w2
            go_loopw [13] (fun kv wr => ∃ j : Nat, kv = .int .i64 j ∧ l0 + 1 ≤ j ∧ j ≤ k ∧ Hid (Own smC 7 72 wr D0 (.slice (some ⟨q, 0, none⟩) ns ca1) (mapR (l0 + 1) j (fillB fc p x) R)) ∧ ∃ Y' : ExtO (fun x => (Value.slice (some ⟨q, 0, none⟩) ns ca1).ownBlock = some x) V8, wr = Y'.1) (fun kv _ => k - (intOf kv).toNat)
            case atStart => exact ⟨l0 + 1, rfl, by omega, by omega, HO8, ⟨V8, Kept.refl _ _⟩, rfl⟩
            case round =>
             obtain ⟨j, rfl, hj1, hj2, HOJ, J, rfl⟩ := hrel
             by_cases hlt2 : j < k
             · have t10 : decide ((j : Int) < (k : Int)) = true := by rw [decide_eq_true_eq]; omega
               have t10' : decide (j < k) = true := by simpa using hlt2
               obtain ⟨s, hs⟩ : ∃ s, R[j]? = some s := ⟨_, List.getElem?_eq_getElem (by rw [HRL.out]; omega)⟩
               have htm := HRT.out j
               rw [hs] at htm
               obtain ⟨s0, hs0⟩ : ∃ s0, A.sm[j]? = some s0 := ⟨_, List.getElem?_eq_getElem (by rw [HN.out]; omega)⟩
               rw [hs0] at htm
               simp only [Option.map_some] at htm
               injection htm with htm
               have hps : p.tm < s.tm := by rw [htm]; exact (HPK.out fc HFC.out).inc l0 j p s0 (by omega) HP.out hs0
               have hsx : s.tm < x.tm := by rw [htm]; exact (HPK.out fc HFC.out).inc j k s0 x hlt2 hs0 HX.out
               have hm : (mapR (l0 + 1) j (fillB fc p x) R)[j]? = some s := by rw [mapR_here, hs]
               have HMS := Lib.hid (mapR_set (fillB fc p x) hj1 hs)
               have HM := Lib.hid hm
               have w3 : IntKind.i64.wrap (s.tm - p.tm) = s.tm - p.tm := tm_wrap (by omega) (by omega)
               have DB := Lib.hid (fun W => rbetween_any (getN fc p) (getN fc x) (s.tm - p.tm) (x.tm - p.tm) W ⟨by omega, by omega⟩ ⟨by have := HNX.out; omega, by have := HNX.out; omega⟩ (by omega) (by omega) (by omega) (by omega))
               have hj3 : j < ns := by omega
               have HBG := Lib.hid (fun g (hg : W.heap.size ≤ g) (e : (Value.slice (some ⟨q, 0, none⟩) ns ca1).ownBlock = some g) => show False from by have := (HLT.out g e).2; have := HSW.out; omega)
               have hst : J.1.cell? ⟨q, j * 7, none⟩ = some (.int .i64 s.tm) := by
                have h := (HOJ.out.rw_ smEl).1.on hm 0 _ rfl
                simpa using h
               have KP := Lib.hid (fun Y : KT (fun x => (Value.slice (some ⟨q, 0, none⟩) ns ca1).ownBlock = some x) V8 ⟨q, j * 7, none⟩ (.int .i64 s.tm) => (HP8.out.kept Y.2.1 (HBG.out G8 HG8.out)).cell)
               have KX := Lib.hid (fun Y : KT (fun x => (Value.slice (some ⟨q, 0, none⟩) ns ca1).ownBlock = some x) V8 ⟨q, j * 7, none⟩ (.int .i64 s.tm) => (HX8.out.kept Y.2.1 (HBG.out G HG.out)).cell)
               have T0 := fun Y : KT (fun x => (Value.slice (some ⟨q, 0, none⟩) ns ca1).ownBlock = some x) V8 ⟨q, j * 7, none⟩ (.int .i64 s.tm) => Y.2.2
               have T3 := fun Y : KT (fun x => (Value.slice (some ⟨q, 0, none⟩) ns ca1).ownBlock = some x) V8 ⟨q, j * 7, none⟩ (.int .i64 s.tm) => show Y.1.cell? ⟨T, 3, none⟩ = some (.slice (some ⟨q, 0, none⟩) ns ca1) from (HAB.out.kept (HK8.out.trans Y.2.1) (fun e => by have := (HLT.out T e).2; omega)).cell.2.2.2.1
               have P0 := fun Y : KT (fun x => (Value.slice (some ⟨q, 0, none⟩) ns ca1).ownBlock = some x) V8 ⟨q, j * 7, none⟩ (.int .i64 s.tm) => show Y.1.cell? ⟨G8, 0, none⟩ = some (.int .i64 p.tm) from (KP.out Y).1
               have P1 := fun Y : KT (fun x => (Value.slice (some ⟨q, 0, none⟩) ns ca1).ownBlock = some x) V8 ⟨q, j * 7, none⟩ (.int .i64 s.tm) => show Y.1.cell? ⟨G8, 1, none⟩ = some (.int .i64 p.x) from (KP.out Y).2.1
               have P2 := fun Y : KT (fun x => (Value.slice (some ⟨q, 0, none⟩) ns ca1).ownBlock = some x) V8 ⟨q, j * 7, none⟩ (.int .i64 s.tm) => show Y.1.cell? ⟨G8, 2, none⟩ = some (.int .i64 p.y) from (KP.out Y).2.2.1
               have P3 := fun Y : KT (fun x => (Value.slice (some ⟨q, 0, none⟩) ns ca1).ownBlock = some x) V8 ⟨q, j * 7, none⟩ (.int .i64 s.tm) => show Y.1.cell? ⟨G8, 3, none⟩ = some (.int .i64 p.z) from (KP.out Y).2.2.2.1
               have P4 := fun Y : KT (fun x => (Value.slice (some ⟨q, 0, none⟩) ns ca1).ownBlock = some x) V8 ⟨q, j * 7, none⟩ (.int .i64 s.tm) => show Y.1.cell? ⟨G8, 4, none⟩ = some (.int .i64 p.pu) from (KP.out Y).2.2.2.2.1
               have P5 := fun Y : KT (fun x => (Value.slice (some ⟨q, 0, none⟩) ns ca1).ownBlock = some x) V8 ⟨q, j * 7, none⟩ (.int .i64 s.tm) => show Y.1.cell? ⟨G8, 5, none⟩ = some (.int .i64 p.po) from (KP.out Y).2.2.2.2.2.1
               have P6 := fun Y : KT (fun x => (Value.slice (some ⟨q, 0, none⟩) ns ca1).ownBlock = some x) V8 ⟨q, j * 7, none⟩ (.int .i64 s.tm) => show Y.1.cell? ⟨G8, 6, none⟩ = some (.int .i64 p.st) from (KP.out Y).2.2.2.2.2.2
               have X0 := fun Y : KT (fun x => (Value.slice (some ⟨q, 0, none⟩) ns ca1).ownBlock = some x) V8 ⟨q, j * 7, none⟩ (.int .i64 s.tm) => show Y.1.cell? ⟨G, 0, none⟩ = some (.int .i64 x.tm) from (KX.out Y).1
               have X1 := fun Y : KT (fun x => (Value.slice (some ⟨q, 0, none⟩) ns ca1).ownBlock = some x) V8 ⟨q, j * 7, none⟩ (.int .i64 s.tm) => show Y.1.cell? ⟨G, 1, none⟩ = some (.int .i64 x.x) from (KX.out Y).2.1
               have X2 := fun Y : KT (fun x => (Value.slice (some ⟨q, 0, none⟩) ns ca1).ownBlock = some x) V8 ⟨q, j * 7, none⟩ (.int .i64 s.tm) => show Y.1.cell? ⟨G, 2, none⟩ = some (.int .i64 x.y) from (KX.out Y).2.2.1
               have X3 := fun Y : KT (fun x => (Value.slice (some ⟨q, 0, none⟩) ns ca1).ownBlock = some x) V8 ⟨q, j * 7, none⟩ (.int .i64 s.tm) => show Y.1.cell? ⟨G, 3, none⟩ = some (.int .i64 x.z) from (KX.out Y).2.2.2.1
               have X4 := fun Y : KT (fun x => (Value.slice (some ⟨q, 0, none⟩) ns ca1).ownBlock = some x) V8 ⟨q, j * 7, none⟩ (.int .i64 s.tm) => show Y.1.cell? ⟨G, 4, none⟩ = some (.int .i64 x.pu) from (KX.out Y).2.2.2.2.1
               have X5 := fun Y : KT (fun x => (Value.slice (some ⟨q, 0, none⟩) ns ca1).ownBlock = some x) V8 ⟨q, j * 7, none⟩ (.int .i64 s.tm) => show Y.1.cell? ⟨G, 5, none⟩ = some (.int .i64 x.po) from (KX.out Y).2.2.2.2.2.1
               have X6 := fun Y : KT (fun x => (Value.slice (some ⟨q, 0, none⟩) ns ca1).ownBlock = some x) V8 ⟨q, j * 7, none⟩ (.int .i64 s.tm) => show Y.1.cell? ⟨G, 6, none⟩ = some (.int .i64 x.st) from (KX.out Y).2.2.2.2.2.2
               clear hs htm hs0 hm
               go_upto_region 20 with (fail)
               refine held_start (C := fun w' => ∃ Y : KT (fun x => (Value.slice (some ⟨q, 0, none⟩) ns ca1).ownBlock = some x) V8 ⟨q, j * 7, none⟩ (.int .i64 s.tm), w' = Y.1) (by kernel_rfl) ?_
               obtain ⟨Q0, hQ0⟩ : ∃ Y : KT (fun x => (Value.slice (some ⟨q, 0, none⟩) ns ca1).ownBlock = some x) V8 ⟨q, j * 7, none⟩ (.int .i64 s.tm), ({ J.1 with drawn := J.1.drawn + 1 } : World) = Y.1 := ⟨⟨{ J.1 with drawn := J.1.drawn + 1 }, J.2.trans ⟨rfl, rfl, rfl, Nat.le_refl _, fun _ _ _ => rfl⟩, hst⟩, rfl⟩
               have HOQ := Lib.hid (show Own smC 7 72 Q0.1 D0 (.slice (some ⟨q, 0, none⟩) ns ca1) (mapR (l0 + 1) j (fillB fc p x) R) from hQ0 ▸ HOJ.out)
               rw [hQ0]
               clear hQ0
               haveI hne : Nonempty (KT (fun x => (Value.slice (some ⟨q, 0, none⟩) ns ca1).ownBlock = some x) V8 ⟨q, j * 7, none⟩ (.int .i64 s.tm)) := ⟨Q0⟩
               refine held_quiet (by kernel_rfl) (fun _ _ d _ _ h => by cases d <;> exact h) ⟨Q0, rfl⟩ [0, 1, 2, 3, 4, 5, 6, 8, 9, 11, 12, 13, 14, 15, 16, 17, 18, 19, 20, 21, 22, 23, 24] 4 _ _ (by kernel_rfl) ?_
               change wpQuiet _ _ _ _ (_ :: _ :: _ :: _ :: _ :: _ :: _ :: _ :: _ :: _ :: _ :: _ :: _ :: _ :: _ :: _ :: _ :: _ :: _ :: _ :: _ :: _ :: _ :: []) _
               repeat go_big_quiet_step (fail)
               refine wpQuiet_nil ?_
               refine held_do (i := 7) _ rfl (by kernel_rfl) rfl (fun K hK => ?_)
               go_simp
               refine (DF.out p _).mono ?_
               rintro e w6 ⟨rfl, hb6⟩
               obtain ⟨Q1, hQ1⟩ : ∃ Y : KT (fun x => (Value.slice (some ⟨q, 0, none⟩) ns ca1).ownBlock = some x) V8 ⟨q, j * 7, none⟩ (.int .i64 s.tm), w6 = Y.1 := ⟨⟨w6, Q0.2.1.trans (Kept.of_below hb6), below_cell hb6 Q0.2.2⟩, rfl⟩
               have HOQ1 := Lib.hid (show Own smC 7 72 Q1.1 D0 (.slice (some ⟨q, 0, none⟩) ns ca1) (mapR (l0 + 1) j (fillB fc p x) R) from hQ1 ▸ HOQ.out.below hb6)
               subst hQ1
               refine hK _ _ ⟨Q1, rfl⟩ ?_
               clear hK K hb6
               try simp only [Act.put, List.setIfInBounds_toArray, List.set_cons_zero, List.set_cons_succ]
               refine held_do (i := 10) _ rfl (by kernel_rfl) rfl (fun K hK => ?_)
               go_simp
               refine (DF.out x _).mono ?_
               rintro e w6 ⟨rfl, hb6⟩
               obtain ⟨Q2, hQ2⟩ : ∃ Y : KT (fun x => (Value.slice (some ⟨q, 0, none⟩) ns ca1).ownBlock = some x) V8 ⟨q, j * 7, none⟩ (.int .i64 s.tm), w6 = Y.1 := ⟨⟨w6, Q1.2.1.trans (Kept.of_below hb6), below_cell hb6 Q1.2.2⟩, rfl⟩
               have HOQ2 := Lib.hid (show Own smC 7 72 Q2.1 D0 (.slice (some ⟨q, 0, none⟩) ns ca1) (mapR (l0 + 1) j (fillB fc p x) R) from hQ2 ▸ HOQ1.out.below hb6)
               subst hQ2
               refine hK _ _ ⟨Q2, rfl⟩ ?_
               clear hK K hb6
               try simp only [Act.put, List.setIfInBounds_toArray, List.set_cons_zero, List.set_cons_succ]
               refine held_do (i := 25) _ rfl (by kernel_rfl) rfl (fun K hK => ?_)
               go_simp
               refine (DB.out _).mono ?_
               rintro e w6 ⟨rfl, hb6⟩
               obtain ⟨Q3, hQ3⟩ : ∃ Y : KT (fun x => (Value.slice (some ⟨q, 0, none⟩) ns ca1).ownBlock = some x) V8 ⟨q, j * 7, none⟩ (.int .i64 s.tm), w6 = Y.1 := ⟨⟨w6, Q2.2.1.trans (Kept.of_below hb6), below_cell hb6 Q2.2.2⟩, rfl⟩
               have HOQ3 := Lib.hid (show Own smC 7 72 Q3.1 D0 (.slice (some ⟨q, 0, none⟩) ns ca1) (mapR (l0 + 1) j (fillB fc p x) R) from hQ3 ▸ HOQ2.out.below hb6)
               subst hQ3
               refine hK _ _ ⟨Q3, rfl⟩ ?_
               clear hK K hb6
               try simp only [Act.put, List.setIfInBounds_toArray, List.set_cons_zero, List.set_cons_succ]
               have fq := HOQ3.out.free (j * 7 + (4 + fc))
               have cq : Q3.1.cell? ⟨q, j * 7 + (4 + fc), none⟩ = some (.int .i64 (getN fc s)) := by
                have h := (HOQ3.out.rw_ smEl).1.on HM.out (4 + fc) _ (smC_num HFC.out s)
                simpa using h
               obtain ⟨hos, hks⟩ := HOQ3.out.set smEl (j := 4 + fc) HM.out (by have := HFC.out; omega) (y := fillB fc p x s) (u := .int .i64 (betw (getN fc p) (getN fc x) (s.tm - p.tm) (x.tm - p.tm))) (by rw [smC_set HFC.out]; rfl)
               obtain ⟨W9, hW9⟩ : ∃ z, Q3.1.setCell ⟨q, j * 7 + (4 + fc), none⟩ (.int .i64 (betw (getN fc p) (getN fc x) (s.tm - p.tm) (x.tm - p.tm))) = z := ⟨_, rfl⟩
               rw [hW9] at hos hks
               have DS := Lib.hid (rset_any q (j * 7) fc HFC.out _ _ Q3.1 W9 cq fq hW9)
               rw [HMS.out] at hos
               have HOS := Lib.hid hos
               have HKS := Lib.hid (Q3.2.1.trans (show Kept (fun x => (Value.slice (some ⟨q, 0, none⟩) ns ca1).ownBlock = some x) Q3.1 W9 from ⟨hks.os, hks.tape, hks.output, hks.size, fun x hx ho => hks.block x hx (fun e => ho (by rw [e]; rfl))⟩))
               have hst9 : W9.cell? ⟨q, j * 7, none⟩ = some (.int .i64 s.tm) := by
                have hm9 : (mapR (l0 + 1) (j + 1) (fillB fc p x) R)[j]? = some (fillB fc p x s) := by
                 rw [← HMS.out, List.getElem?_set_self (by have := (List.getElem?_eq_some_iff.1 HM.out).1; exact this)]
                have h := (hos.rw_ smEl).1.on hm9 0 _ rfl
                rw [show (fillB fc p x s).tm = s.tm from setN_tm fc _ s] at h
                simpa using h
               clear hos hks cq fq hW9
               refine held_do (i := 26) _ rfl (by kernel_rfl) rfl (fun K hK => ?_)
               go_simp
               refine (DS.out).mono ?_
               rintro e w6 ⟨rfl, rfl⟩
               refine hK _ _ ⟨⟨w6, HKS.out, hst9⟩, rfl⟩ ?_
               clear hK K
               try simp only [Act.put, List.setIfInBounds_toArray, List.set_cons_zero, List.set_cons_succ]
               refine wpAnyH_done (by kernel_rfl) ?_ _
               clear w3 DB DS T0 T3 KP KX P0 P1 P2 P3 P4 P5 P6 X0 X1 X2 X3 X4 X5 X6 hst hst9
               go_wp2_with fail
               go_roundw
               case rel => exact ⟨j + 1, by go_num, by omega, by omega, HOS, ⟨w6, HKS.out⟩, rfl⟩
               case measure => simp [intOf]; omega
             · have t10 : decide ((j : Int) < (k : Int)) = false := by rw [decide_eq_false_iff_not]; omega
               have t10' : decide (j < k) = false := by simpa using hlt2
               obtain rfl : k = j := by omega
               clear hlt2
               go_wp2_with fail
               go_roundw
               case rel => exact ⟨k + 1, mapR (l0 + 1) k (fillB fc p x) R, some k, by go_num, by omega, rfl, HS, HOJ, ⟨J.1, HK8.out.trans J.2⟩, rfl⟩
               case measure => simp [intOf]; omega
          · have t9 : decide (x.tm - p.tm ≤ nn) = false := by rw [decide_eq_false_iff_not]; exact hg
            have HS := Lib.hid (passN_far HX.out HNG.out HR.out HP.out hg)
            clear hg hp hpn
            go_upto_region 15 with (fail)
            go_quiet (fail)
            obtain ⟨Z2, hZ'⟩ : ∃ Z' : ExtO (fun x => (Value.slice (some ⟨q, 0, none⟩) ns ca1).ownBlock = some x) W, Y7.1.drewN nq = Z'.1 := ⟨⟨Y7.1.drewN nq, Y7.2.trans ⟨rfl, rfl, rfl, Nat.le_refl _, fun _ _ _ => rfl⟩⟩, rfl⟩
            have HO' := Lib.hid (show Own smC 7 72 Z2.1 D0 (.slice (some ⟨q, 0, none⟩) ns ca1) R from hZ' ▸ HO7.out)
            rw [hZ']
            clear hZ' p0 p1 p2 p3 p4 p5 p6 hbx x3 htp
            go_wp2_with fail
            go_roundw
            case rel => exact ⟨k + 1, R, some k, by go_num, by omega, rfl, HS, HO', Z2, rfl⟩
            case measure => simp [intOf]; omega
     · have t6 : decide ((k : Int) < (ns : Int)) = false := by rw [decide_eq_false_iff_not]; omega
       have t6' : decide (k < ns) = false := by simpa using hlt
       obtain rfl : ns = k := by omega
       have HF := Lib.hid (show Own smC 7 72 Z.1 D0 (.slice a1 ns ca1) (outC nn A.sm (fc + 1)) from by
        rw [HON.out, HR.out]
        exact HO.out)
       clear hlt hk hRl
       go_wp2_with fail
       go_roundw
       case rel => exact ⟨fc + 1, by go_num, by omega, HF, Z, rfl⟩
       case measure => simp [intOf]; omega
  · have t5 : decide ((fc : Int) < 3) = false := by rw [decide_eq_false_iff_not]; omega
    obtain rfl : fc = 3 := by omega
    have HOF := Lib.hid (show Own smC 7 72 Z.1 D0 (.slice a1 ns ca1) (fillA nn A.sm) from by rw [← outC_fill]; exact HO.out)
    have HLEN := Lib.hid (show (fillA nn A.sm).length = ns from by rw [fillA_len, HN.out])
    obtain ⟨y0, y1, y2, y3, y4, y5⟩ := hac.cell
    have hR := (HA1.out.below HBV.out).kept Z.2 (fun e => by have := (HLT.out _ e).1; have := HSW.out; omega)
    obtain ⟨r0, r1, r2, r3, r4, r5⟩ := hR.cell
    have fr := hR.free
    obtain ⟨WF, hWF, haF, hkF⟩ := hR.store A.name A.sport A.start (.slice a1 ns ca1) (.slice b1 A.lp.length cb1) (.slice c1 A.tg.length cc1)
    have HAF := Lib.hid haF
    have HKF := Lib.hid (hkF (fun q => q = w.heap.size + 1) rfl)
    have HBF := Lib.hid (show Below w.heap.size w WF from by
     have h1 : Below w.heap.size w Z.1 := Kept.below HB2.out Z.2 HB2.out.size (fun q hq e => by have := (HLT.out q e).1; have := HSW.out; omega)
     exact Kept.below h1 HKF.out h1.size (fun k hk e => by omega))
    have HAI := Lib.hid (show ActIn WF { A with sm := fillA nn A.sm } a1 b1 c1 ∧ ∀ g, (a1 = some g ∨ b1 = some g ∨ c1 = some g) → D0 ≤ g.block from by
     obtain ⟨B1, B2, hB1, hB2, hos, hs, hol, hl, hot⟩ := HO3.out.ex
     obtain ⟨l1, _, l3⟩ := hol.rw_ lpEl
     obtain ⟨t1, _, t3⟩ := hot.rw_ tgEl
     have hof : Own smC 7 72 WF D0 (.slice a1 ns ca1) (fillA nn A.sm) := HOF.out.keepO HKF.out (fun q hq e => by have := (HLT.out q hq).1; have := HSW.out; omega)
     obtain ⟨s1, _, s3⟩ := hof.rw_ smEl
     have hsz := HSW.out
     have hl1 : ∀ bb off, b1 = some ⟨bb, off, none⟩ → B1 ≤ bb := fun bb off e => (l3 _ e).1
     have hl2 : ∀ bb off, c1 = some ⟨bb, off, none⟩ → B2 ≤ bb := fun bb off e => (t3 _ e).1
     have hap : ∀ q, (Value.slice a1 ns ca1).ownBlock = some q → q < B1 := fun q hq => hs q (by rw [HN.out]; exact hq)
     refine ⟨⟨s1, ((l1.below HBW.out).kept Z.2 (fun bb off e h => by have := hl1 bb off e; have := hap bb h; omega)).kept HKF.out (fun bb off e h => by have := hl1 bb off e; omega), ((t1.below HBW.out).kept Z.2 (fun bb off e h => by have := hl2 bb off e; have := hap bb h; omega)).kept HKF.out (fun bb off e h => by have := hl2 bb off e; omega), HIN.out.name, HIN.out.titles, HIN.out.tags, ?_, HIN.out.nlp, HIN.out.ntg⟩, ?_⟩
     · show ((fillA nn A.sm).length : Int) ≤ _
       rw [HLEN.out]
       omega
     · rintro g (e | e | e)
       · exact (s3 _ e).1
       · have := (l3 _ e).1
         omega
       · have := (t3 _ e).1
         omega)
    have HD0 := Lib.hid (show w.heap.size ≤ D0 from by have := HSW.out; omega)
    clear hltc hfc hac HO haF hkF hR hbx
    go_wp2_with fail
    have q := HAF.out.cell
    refine bodyPost_ret (v := .tuple #[.agg #[.string A.name, .int .i64 A.sport, .int .i64 A.start, .slice a1 ns ca1, .slice b1 A.lp.length cb1, .slice c1 A.tg.length cc1], .int .i64 0]) (by simp [results, Tryz.results73, go_sem, q]) rfl ⟨HBF.out, a1, b1, c1, ca1, cb1, cc1, ?_, HAI.out.1, fun g hg => Nat.le_trans HD0.out (HAI.out.2 g hg)⟩
    unfold actV
    simp only [HLEN.out]
end Go.Proofs.YtjnfccphodjfiaaGreat
