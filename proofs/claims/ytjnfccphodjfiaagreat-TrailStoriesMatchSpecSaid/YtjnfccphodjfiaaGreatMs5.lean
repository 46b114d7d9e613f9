/- Several texts of this claim in one. -/
import Derived.Test.YtjnfccphodjfiaaGreatMs4
import Derived.Test.YtjnfccphodjfiaaGreatMs2
import Derived.Test.YtjnfccphodjfiaaGreatShelf2
import Derived.Sort.Row
import Derived.Sort.Grow
import Derived.Lib.SlicesCompact
import Derived.Maps.RangeWalk
import Derived.Maps.OwnSet
import Derived.Laws.StructEq
import Derived.Deep.Draws
import Derived.Deep.RegionLaw
import Derived.Lib.AppendZeros
import Derived.Lib.Overlaps
import Derived.Lib.AppendZerosOnto
namespace Go.Proofs.YtjnfccphodjfiaaGreat
set_option maxHeartbeats 8000000
set_option maxRecDepth 100000
open Go.RowKit Go.BigFrame
def AcB (w : World) (g : Nat) (nm : ByteArray) (sp st : Int) (vs vl vt : Value) : Prop := w.heap[g]? = some (.cells #[.string nm, .int .i64 sp, .int .i64 st, vs, vl, vt] 26 (0, 0))
section
variable {w w' : World} {g : Nat} {nm : ByteArray} {sp st : Int} {vs vl vt : Value}
theorem AcB.cell (h : AcB w g nm sp st vs vl vt) : w.cell? ⟨g, 0, none⟩ = some (.string nm) ∧ w.cell? ⟨g, 1, none⟩ = some (.int .i64 sp) ∧ w.cell? ⟨g, 2, none⟩ = some (.int .i64 st) ∧ w.cell? ⟨g, 3, none⟩ = some vs ∧ w.cell? ⟨g, 4, none⟩ = some vl ∧ w.cell? ⟨g, 5, none⟩ = some vt := by
 unfold AcB at h; simp [World.cell?, h]
theorem AcB.free (h : AcB w g nm sp st vs vl vt) (i : Nat) : w.frozen? ⟨g, i, none⟩ = false := by
 unfold AcB at h; simp [World.frozen?, h]
theorem AcB.lt (h : AcB w g nm sp st vs vl vt) : g < w.heap.size := lt_of_block h
theorem AcB.below (h : AcB w g nm sp st vs vl vt) (hb : Below w.heap.size w w') : AcB w' g nm sp st vs vl vt := (hb.block g h.lt).trans h
theorem AcB.kept {O : Nat → Prop} (h : AcB w g nm sp st vs vl vt) (hk : Kept O w w') (ho : ¬ O g) : AcB w' g nm sp st vs vl vt := (hk.block g h.lt ho).trans h
theorem AcB.set2 (h : AcB w g nm sp st vs vl vt) (x : Int) : AcB (w.setCell ⟨g, 2, none⟩ (.int .i64 x)) g nm sp x vs vl vt := set_cells h
theorem AcB.set3 (h : AcB w g nm sp st vs vl vt) (x : Value) : AcB (w.setCell ⟨g, 3, none⟩ x) g nm sp st x vl vt := set_cells h
theorem AcB.set4 (h : AcB w g nm sp st vs vl vt) (x : Value) : AcB (w.setCell ⟨g, 4, none⟩ x) g nm sp st vs x vt := set_cells h
theorem AcB.set5 (h : AcB w g nm sp st vs vl vt) (x : Value) : AcB (w.setCell ⟨g, 5, none⟩ x) g nm sp st vs vl x := set_cells h
theorem AcB.store (h : AcB w g nm sp st vs vl vt) (nm' : ByteArray) (sp' st' : Int) (vs' vl' vt' : Value) :
 ∃ W, (((((w.setCell ⟨g, 0, none⟩ (.string nm')).setCell ⟨g, 1, none⟩ (.int .i64 sp')).setCell ⟨g, 2, none⟩ (.int .i64 st')).setCell ⟨g, 3, none⟩ vs').setCell ⟨g, 4, none⟩ vl').setCell ⟨g, 5, none⟩ vt' = W ∧
  AcB W g nm' sp' st' vs' vl' vt' ∧ ∀ O : Nat → Prop, O g → Kept O w W :=
 ⟨_, rfl, set_cells (set_cells (set_cells (set_cells (set_cells (set_cells h))))), fun _ ho => (keep_set ho).trans ((keep_set ho).trans ((keep_set ho).trans ((keep_set ho).trans ((keep_set ho).trans (keep_set ho)))))⟩
end
theorem alloc_ac (w : World) (nm : ByteArray) (sp st : Int) (vs vl vt : Value) : ∃ W, w.alloc (.cells #[.string nm, .int .i64 sp, .int .i64 st, vs, vl, vt] 26) = W ∧ Below w.heap.size w W ∧ W.heap.size = w.heap.size + 1 ∧ AcB W w.heap.size nm sp st vs vl vt :=
 ⟨_, rfl, below_al _ _, by simp, heap_alloc_new w _⟩
theorem alloc_a0 (w : World) : ∃ W, w.alloc (.cells #[.string ⟨#[]⟩, .int .i64 0, .int .i64 0, .slice none 0 0, .slice none 0 0, .slice none 0 0] 26) = W ∧ Below w.heap.size w W ∧ W.heap.size = w.heap.size + 1 ∧ AcB W w.heap.size ⟨#[]⟩ 0 0 (.slice none 0 0) (.slice none 0 0) (.slice none 0 0) := alloc_ac w _ _ _ _ _ _
theorem alloc_aA (w : World) (A : Acv) (a b c : Option Addr) (ca cb cc : Nat) : ∃ W, w.alloc (.cells #[.string A.name, .int .i64 A.sport, .int .i64 A.start, .slice a A.sm.length ca, .slice b A.lp.length cb, .slice c A.tg.length cc] 26) = W ∧ Below w.heap.size w W ∧ W.heap.size = w.heap.size + 1 ∧ AcB W w.heap.size A.name A.sport A.start (.slice a A.sm.length ca) (.slice b A.lp.length cb) (.slice c A.tg.length cc) := alloc_ac w _ _ _ _ _ _
theorem AcB.store0 {w : World} {g : Nat} {nm : ByteArray} {sp st : Int} {vs vl vt : Value} (h : AcB w g nm sp st vs vl vt) : ∃ W, (((((w.setCell ⟨g, 0, none⟩ (.string ⟨#[]⟩)).setCell ⟨g, 1, none⟩ (.int .i64 0)).setCell ⟨g, 2, none⟩ (.int .i64 0)).setCell ⟨g, 3, none⟩ (.slice none 0 0)).setCell ⟨g, 4, none⟩ (.slice none 0 0)).setCell ⟨g, 5, none⟩ (.slice none 0 0) = W ∧
  AcB W g ⟨#[]⟩ 0 0 (.slice none 0 0) (.slice none 0 0) (.slice none 0 0) ∧ ∀ O : Nat → Prop, O g → Kept O w W := h.store _ _ _ _ _ _
structure Own3 (w : World) (base : Nat) (A : Acv) (vs vl vt : Value) : Prop where
 ex : ∃ B1 B2, base ≤ B1 ∧ B1 ≤ B2 ∧ Own smC 7 72 w base vs A.sm ∧ (∀ b, vs.ownBlock = some b → b < B1) ∧ Own lpC 3 75 w B1 vl A.lp ∧ (∀ b, vl.ownBlock = some b → b < B2) ∧ Own tgC 1 9 w B2 vt A.tg
def CloneRet (A : Acv) (w : World) (e : Ending) (w' : World) : Prop :=
 (∃ a b c ca cb cc, e = .returned (actV A a b c ca cb cc) ∧ Own3 w' w.heap.size A (.slice a A.sm.length ca) (.slice b A.lp.length cb) (.slice c A.tg.length cc)) ∧ Below w.heap.size w w'
theorem cloneA_any (A : Acv) (a b c : Option Addr) (ca cb cc : Nat) (w : World) (h : ActIn w A a b c) (h1 : A.sm.length ≤ 1000000) (h2 : A.lp.length ≤ 1000000) (h3 : A.tg.length ≤ 1000000) :
 Calls Tryz.prog 33 #[actV A a b c ca cb cc] w fun e w' => CloneRet A w e w' := by
 unfold CloneRet actV; obtain ⟨V0, hV0, hb0, hs0, ha0⟩ := alloc_aA w A a b c ca cb cc; obtain ⟨V1, hV1, hb1, hs1, ha1⟩ := alloc_a0 V0; rw [hs0] at ha1; have ha0 := ha0.below hb1; obtain ⟨T, hT⟩ : ∃ T, w.heap.size = T := ⟨_, rfl⟩; rw [hT] at ha0 ha1 hs0; have HB := qH (bStp hb0 hb1); have DS := qH (fun Z : Ext V1 => cloneSm_any a A.sm ca Z.1 ((h.sm.below HB.out).below Z.2) h1); have DL := qH (fun Z : Ext V1 => cloneLp_any b A.lp cb Z.1 ((h.lp.below HB.out).below Z.2) h2); have DT := qH (fun Z : Ext V1 => cloneTg_any c A.tg cc Z.1 ((h.tg.below HB.out).below Z.2) h3); have HT := qH (And.intro hT (And.intro hs0 hs1)); have HA0 := qH ha0; have HA1 := qH ha1; obtain ⟨g0, g1, g2, g3, g4, g5⟩ := ha0.cell; have G3 := Ext.ex g3; have G4 := Ext.ex g4; have G5 := Ext.ex g5; have F0 : ∀ (Z : Ext V1) i, Z.1.frozen? ⟨T, i, none⟩ = false := fun Z i => (HA0.out.below Z.2).free i
 clear h h1 h2 h3 hb0 hb1 hs0 hs1 ha0 ha1 hT g0 g1 g2 g3 g4 g5; go_enter Tryz.func33, Tryz.ntmps33; go_upto_region 1 with (fail); rw [HT.out.1]; refine late_start (s := 10) (C := fun w' => ∃ Z : Ext V1, w' = Z.1) (by kernel_rfl) ?_; obtain ⟨Z0, hZ0⟩ : ∃ Z : Ext V1, ({ V1 with drawn := V1.drawn + 1 } : World) = Z.1 := ⟨⟨{ V1 with drawn := V1.drawn + 1 }, ⟨rfl, rfl, rfl, Nat.le_refl _, fun _ _ => rfl⟩⟩, rfl⟩; rw [hZ0]; clear hZ0; refine late_quiet (by kernel_rfl) (fun _ _ d _ _ h => by cases d <;> exact h) ⟨Z0, rfl⟩ [0, 1, 3, 4, 6, 7] 9 _ _ (by kernel_rfl) (by kernel_rfl) ?_; change wpQuiet _ _ _ _ (_ :: _ :: _ :: _ :: _ :: _ :: []) _
 repeat go_big_quiet_step (fail)
 refine wpQuiet_nil ?_; refine late_do (i := 2) _ rfl (by kernel_rfl) rfl (fun K hK => ?_); go_simp; refine (DS.out Z0).mono ?_; rintro e Y1 ⟨⟨v1, rfl, ho1⟩, hk1⟩; obtain ⟨a1, c1, rfl, _, _, _⟩ := ho1.row smEl; obtain ⟨Z1, rfl⟩ : ∃ Z : Ext V1, Y1 = Z.1 := ⟨⟨Y1, bStp Z0.2 hk1⟩, rfl⟩; have HO1 := qH ho1; refine hK _ _ (fun _ => ⟨Z1, rfl⟩) ?_; clear hK K hk1 ho1
 try simp only [pS]
 refine late_quiet (by kernel_rfl) (fun _ _ d _ _ h => by cases d <;> exact h) ⟨Z1, rfl⟩ [9] 7 _ _ (by kernel_rfl) (by kernel_rfl) ?_; change wpQuiet _ _ _ _ (_ :: []) _
 repeat go_big_quiet_step (fail)
 refine wpQuiet_nil ?_; refine late_do (i := 5) _ rfl (by kernel_rfl) rfl (fun K hK => ?_); go_simp; refine (DL.out Z1).mono ?_; rintro e Y2 ⟨⟨v2, rfl, ho2⟩, hk2⟩; obtain ⟨a2, c2, rfl, _, _, _⟩ := ho2.row lpEl; obtain ⟨Z2, rfl⟩ : ∃ Z : Ext V1, Y2 = Z.1 := ⟨⟨Y2, bStp Z1.2 hk2⟩, rfl⟩; have HO2 := qH ho2; have HK2 := qH hk2; refine hK _ _ (fun _ => ⟨Z2, rfl⟩) ?_; clear hK K hk2 ho2
 try simp only [pS]
 refine late_do (i := 8) _ rfl (by kernel_rfl) rfl (fun K hK => ?_); go_simp; refine (DT.out Z2).mono ?_; rintro e Y3 ⟨⟨v3, rfl, ho3⟩, hk3⟩; obtain ⟨a3, c3, rfl, _, _, _⟩ := ho3.row tgEl; obtain ⟨Z3, rfl⟩ : ∃ Z : Ext V1, Y3 = Z.1 := ⟨⟨Y3, bStp Z2.2 hk3⟩, rfl⟩; have HO3 := qH ho3; have HK3 := qH hk3; refine hK _ _ (fun _ => ⟨Z3, rfl⟩) ?_; clear hK K hk3 ho3
 try simp only [pS]
 have hA3 := HA0.out.below Z3.2; have hA4 := hA3.set3 (.slice a1 A.sm.length c1); have hA5 := hA4.set4 (.slice a2 A.lp.length c2); have hA6 := hA5.set5 (.slice a3 A.tg.length c3); obtain ⟨W4, hW4⟩ : ∃ W, Z3.1.setCell ⟨T, 3, none⟩ (.slice a1 A.sm.length c1) = W := ⟨_, rfl⟩; obtain ⟨W5, hW5⟩ : ∃ W, W4.setCell ⟨T, 4, none⟩ (.slice a2 A.lp.length c2) = W := ⟨_, rfl⟩; obtain ⟨W6, hW6⟩ : ∃ W, W5.setCell ⟨T, 5, none⟩ (.slice a3 A.tg.length c3) = W := ⟨_, rfl⟩; rw [hW4] at hA4 hA5 hA6; rw [hW5] at hA5 hA6; rw [hW6] at hA6; have hk4 : Kept (fun b => b = T) Z3.1 W6 := by
  rw [← hW6, ← hW5, ← hW4]; exact (keep_set (O := fun b => b = T) rfl).trans ((keep_set (O := fun b => b = T) rfl).trans (keep_set (O := fun b => b = T) rfl))
 have j3 := hA3.cell.2.2.2.1; have j4 := hA4.cell.2.2.2.2.1; have j5 := hA5.cell.2.2.2.2.2; have f3 := hA3.free 3; have f4 := hA4.free 4; have f5 := hA5.free 5; have HA6 := qH hA6; have HK4 := qH hk4; clear hA3 hA4 hA5 hA6 hk4; refine late_do (i := 10) _ rfl (by kernel_rfl) rfl (fun K hK => ?_); go_simp; refine hK _ _ (nOo rfl) ?_; clear hK K
 try simp only [pS]
 refine late_do (i := 11) _ rfl (by kernel_rfl) rfl (fun K hK => ?_); go_simp; refine hK _ _ (nOo rfl) ?_; clear hK K
 try simp only [pS]
 refine late_do (i := 12) _ rfl (by kernel_rfl) rfl (fun K hK => ?_); go_simp; refine hK _ _ (nOo rfl) ?_; clear hK K
 try simp only [pS]
 refine late_do (i := 13) _ rfl (by kernel_rfl) rfl (fun K hK => ?_); go_simp; refine hK _ _ (nOo rfl) ?_; clear hK K
 try simp only [pS]
 refine late_do (i := 14) _ rfl (by kernel_rfl) rfl (fun K hK => ?_); go_simp; refine hK _ _ (nOo rfl) ?_; clear hK K
 try simp only [pS]
 refine late_done (by kernel_rfl) ?_ _; clear j3 j4 j5 f3 f4 f5 hW4 hW5 hW6 G3 G4 G5 F0; obtain ⟨k0, k1, k2, k3, k4, k5⟩ := HA6.out.cell; have hT1 : ¬ (T + 1 = T) := by omega
 have hA7 := (HA1.out.below Z3.2).kept HK4.out hT1; obtain ⟨m0, m1, m2, m3, m4, m5⟩ := hA7.cell; have f7 := hA7.free; obtain ⟨W7, hW7, hA8, hk7⟩ := hA7.store A.name A.sport A.start (.slice a1 A.sm.length c1) (.slice a2 A.lp.length c2) (.slice a3 A.tg.length c3); have HA8 := qH hA8; have HK7 := qH hk7; clear hA7 hA8 hk7; rw [HT.out.2.1]; go_wp2_with fail; have r := HA8.out.cell; have HKO := qH (show Kept (fun b => b = T ∨ b = T + 1) Z3.1 W7 from Kept.trans (O := fun b => b = T ∨ b = T + 1) ⟨HK4.out.os, HK4.out.tape, HK4.out.output, HK4.out.size, fun k hk ho => HK4.out.block k hk (fun e => ho (Or.inl e))⟩ (HK7.out _ (Or.inr rfl))); have HWL := qH (show Below w.heap.size w W7 from
  have hk : Kept (fun b => b = T ∨ b = T + 1) Z3.1 W7 := Kept.trans (O := fun b => b = T ∨ b = T + 1) ⟨HK4.out.os, HK4.out.tape, HK4.out.output, HK4.out.size, fun k hk ho => HK4.out.block k hk (fun e => ho (Or.inl e))⟩ (HK7.out _ (Or.inr rfl))
  Kept.below (bStp HB.out Z3.2) hk (bStp HB.out Z3.2).size (fun k hk e => by have := HT.out.1; omega))
 refine bodyPost_ret (v := .agg #[.string A.name, .int .i64 A.sport, .int .i64 A.start, .slice a1 A.sm.length c1, .slice a2 A.lp.length c2, .slice a3 A.tg.length c3]) (by simp [results, Tryz.results33, go_sem, r]) rfl ⟨⟨a1, a2, a3, c1, c2, c3, rfl, ⟨Z1.1.heap.size, Z2.1.heap.size, ?_, HK2.out.size, ?_, ?_, ?_, ?_, ?_⟩⟩, HWL.out⟩
 · have := HB.out.size
   have := Z1.2.size; omega
 · refine (((HO1.out.weaken ?_).below HK2.out).below HK3.out).keepO HKO.out (fun b hb => ?_)
   · have := HB.out.size
     have := Z0.2.size; omega
   · have := (HO1.out.lt b hb).1
     have := Z0.2.size; have := HT.out.2; omega
 · exact fun b hb => (HO1.out.lt b hb).2
 · refine (HO2.out.below HK3.out).keepO HKO.out (fun b hb => ?_)
   have := (HO2.out.lt b hb).1; have := Z1.2.size; have := HT.out.2; omega
 · exact fun b hb => (HO2.out.lt b hb).2
 · refine HO3.out.keepO HKO.out (fun b hb => ?_)
   have := (HO3.out.lt b hb).1; have := Z2.2.size; have := HT.out.2; omega
theorem append_Sm {ops : Array Oper} {rest : List Oper} {o : Oper} {a : Act} {Q : Exit → Act → World → Prop} {w : World} (hgd : o.guard = none) (s x : Operand)
 (ho : o.op = .call { callee := .builtin .append, args := #[s, x], argTypes := #[22, 22] }) {base : Nat} {v : Value} {l : List Sm} (hs : a.eval s = v) (hown : Own smC 7 72 w base v l)
 {g : Nat} {p : Sm} (hx : a.eval x = .slice (some ⟨g, 0, none⟩) 1 1) (h0 : ∀ j u, (smC p)[j]? = some u → w.cell? ⟨g, j, none⟩ = some u) (hn : l.length ≤ 1000000) (hb : base ≤ w.heap.size)
 (h : ∀ g' c' w', Own smC 7 72 w' base (.slice (some ⟨g', 0, none⟩) (l.length + 1) c') (l ++ [p]) → w.grownBy w' v.ownBlock → (v.ownBlock = some g' ∨ g' = w.heap.size) → wpList Tryz.prog ops Q rest (a.put o.dst (.slice (some ⟨g', 0, none⟩) (l.length + 1) c')) w') : wpList Tryz.prog ops Q (o :: rest) a w := by
 obtain ⟨i0, hi0, hy0, hy1, hy2⟩ := info_parts infoSm.out; refine wpList_append_lies w hgd s x 22 ho base 72 i0 (.agg #[.int .i64 0, .int .i64 0, .int .i64 0, .int .i64 0, .int .i64 0, .int .i64 0, .int .i64 0]) 7 56 underSm.out hi0 hy0 hy1 hy2 rfl (by decide) v l.length (l.flatMap smC) hs hown ⟨g, 0, none⟩ 1 1 (smC p) hx rfl (fun j u hu => ?_) (smEl.one p) (by decide) (by unfold maxLen; omega) (by omega) hb _ rfl ?_
 · rw [addr_plus, Nat.zero_add]
   exact h0 j u hu
 · intro g' c' w' k1 k2 k3 _
   refine h g' c' w' ?_ k2 k3; unfold Own; rw [List.length_append, List.flatMap_append, show ([p].flatMap smC) = smC p from List.append_nil _]; exact k1
theorem append_Lp {ops : Array Oper} {rest : List Oper} {o : Oper} {a : Act} {Q : Exit → Act → World → Prop} {w : World} (hgd : o.guard = none) (s x : Operand)
 (ho : o.op = .call { callee := .builtin .append, args := #[s, x], argTypes := #[23, 23] }) {base : Nat} {v : Value} {l : List Lp} (hs : a.eval s = v) (hown : Own lpC 3 75 w base v l)
 {g : Nat} {p : Lp} (hx : a.eval x = .slice (some ⟨g, 0, none⟩) 1 1) (h0 : ∀ j u, (lpC p)[j]? = some u → w.cell? ⟨g, j, none⟩ = some u) (hn : l.length ≤ 1000000) (hb : base ≤ w.heap.size)
 (h : ∀ g' c' w', Own lpC 3 75 w' base (.slice (some ⟨g', 0, none⟩) (l.length + 1) c') (l ++ [p]) → w.grownBy w' v.ownBlock → (v.ownBlock = some g' ∨ g' = w.heap.size) → wpList Tryz.prog ops Q rest (a.put o.dst (.slice (some ⟨g', 0, none⟩) (l.length + 1) c')) w') : wpList Tryz.prog ops Q (o :: rest) a w := by
 obtain ⟨i0, hi0, hy0, hy1, hy2⟩ := info_parts infoLp.out; refine wpList_append_lies w hgd s x 23 ho base 75 i0 (.agg #[.int .i64 0, .int .i64 0, .string ⟨#[]⟩]) 3 32 underLp.out hi0 hy0 hy1 hy2 rfl (by decide) v l.length (l.flatMap lpC) hs hown ⟨g, 0, none⟩ 1 1 (lpC p) hx rfl (fun j u hu => ?_) (lpEl.one p) (by decide) (by unfold maxLen; omega) (by omega) hb _ rfl ?_
 · rw [addr_plus, Nat.zero_add]
   exact h0 j u hu
 · intro g' c' w' k1 k2 k3 _
   refine h g' c' w' ?_ k2 k3; unfold Own; rw [List.length_append, List.flatMap_append, show ([p].flatMap lpC) = lpC p from List.append_nil _]; exact k1
theorem tm_wrap {x : Int} (h1 : -9223372036854775808 ≤ x) (h2 : x ≤ 9223372036854775807) : IntKind.i64.wrap x = x := by rw [IntKind.wrap_i64]; omega
def mvL (by_ span : Int) (x : Lp) : Lp := ⟨min (max (x.f - by_) 0) span, min (max (x.t - by_) 0) span, x.s⟩
def movedF (l : List Lp) (by_ span : Int) : List Lp := (l.map (mvL by_ span)).filter fun x => decide (x.f < x.t)
theorem movedF_snoc {l : List Lp} {k : Nat} {x : Lp} {by_ span : Int} (hx : l[k]? = some x) : movedF (l.take (k + 1)) by_ span = if (mvL by_ span x).f < (mvL by_ span x).t then movedF (l.take k) by_ span ++ [mvL by_ span x] else movedF (l.take k) by_ span := by
 unfold movedF; rw [List.take_add_one, hx, List.map_append, List.filter_append]; simp only [Option.toList_some, List.map_cons, List.map_nil]
 split
 · rename_i h
   rw [List.filter_cons_of_pos (by simpa using h), List.filter_nil]
 · rename_i h
   rw [List.filter_cons_of_neg (by simpa using h), List.filter_nil, List.append_nil]
theorem movedF_len (l : List Lp) (by_ span : Int) : (movedF l by_ span).length ≤ l.length := by
 unfold movedF; exact Nat.le_trans (List.length_filter_le _ _) (by rw [List.length_map]; exact Nat.le_refl _)
theorem moved_any (l : List Lp) (a : Option Addr) (cp : Nat) (by_ span : Int) (w : World) (hr : Rw lpC 3 w a l) (hl : l.length ≤ 1000) (hx : ∀ x, x ∈ l → (0 ≤ x.f ∧ x.f ≤ 1000000) ∧ 0 ≤ x.t ∧ x.t ≤ 1000000) (h0 : 0 ≤ by_) (h1 : by_ ≤ 1000000) :
 Calls Tryz.prog 234 #[.slice a l.length cp, .int .i64 by_, .int .i64 span] w fun e w' => ∃ v, e = .returned v ∧ Own lpC 3 75 w' w.heap.size v (movedF l by_ span) ∧ Below w.heap.size w w' := by
 obtain ⟨n, hn⟩ : ∃ n, l.length = n := ⟨_, rfl⟩; have HR := qH hr; have HX := qH (fun (i : Nat) (hi : i < n) => show ∃ x, l[i]? = some x ∧ (0 ≤ x.f ∧ x.f ≤ 1000000) ∧ 0 ≤ x.t ∧ x.t ≤ 1000000 from by
  have hg : i < l.length := by rw [hn]; exact hi
  exact ⟨_, List.getElem?_eq_getElem hg, hx _ (List.getElem_mem hg)⟩)
 have HN := qH hn; rw [hn] at hl ⊢; clear hr hx hn; go_enter Tryz.func234, Tryz.ntmps234; go_wp2_with fail
 go_loopw [7, 12] (fun ov iv wr => ∃ (k : Nat), iv = .int .i64 k ∧ k ≤ n ∧ Hid (Own lpC 3 75 wr w.heap.size ov (movedF (l.take k) by_ span)) ∧ ∃ X : Ext w, wr = X.1) (fun _ iv _ => n - (intOf iv).toNat)
 case atStart => exact ⟨0, rfl, by omega, qH (Own.nil _ _ _ _ _), ⟨w, Below.refl _ _⟩, rfl⟩
 case round =>
  obtain ⟨k, rfl, hk, HO, X, rfl⟩ := hrel; by_cases hlt : k < n
  · have t2 : decide ((k : Int) < (n : Int)) = true := dTt (by omega)
    have t2' : decide (k < n) = true := by simpa using hlt
    obtain ⟨x, hx, ⟨x0, x1⟩, x2, x3⟩ := HX.out k hlt; obtain ⟨b3, o3, rfl, hb3, hd⟩ := (HR.out.below X.2).at hx; have e0 : X.1.cell? ⟨b3, o3 + k * 3, none⟩ = some (.int .i64 x.f) := hd 0 _ rfl; have e1 : X.1.cell? ⟨b3, o3 + k * 3 + 1, none⟩ = some (.int .i64 x.t) := hd 1 _ rfl; have e2 : X.1.cell? ⟨b3, o3 + k * 3 + 2, none⟩ = some (.string x.s) := hd 2 _ rfl; have HST := qH (movedF_snoc (by_ := by_) (span := span) hx); have hml : (movedF (l.take k) by_ span).length ≤ 1000 := by have := movedF_len (l.take k) by_ span; rw [List.length_take] at this; omega
    have HML := qH hml; obtain ⟨T, hT⟩ : ∃ T, X.1.heap.size = T := ⟨_, rfl⟩; obtain ⟨V0, hV0, hb0, hs0, hl0⟩ := alloc_cells X.1 #[.int .i64 x.f, .int .i64 x.t, .string x.s] 75; have hk0 : V0.heap[T]? = some (.cells #[.int .i64 x.f, .int .i64 x.t, .string x.s] 75 (0, 0)) := by rw [← hV0, ← hT]; exact heap_alloc_new X.1 _
    have hmv : mvL by_ span x = ⟨min (max (x.f - by_) 0) span, min (max (x.t - by_) 0) span, x.s⟩ := rfl; have w1 : IntKind.i64.wrap (x.f - by_) = x.f - by_ := tm_wrap (by omega) (by omega); have w2 : IntKind.i64.wrap (x.t - by_) = x.t - by_ := tm_wrap (by omega) (by omega); obtain ⟨f', hf'⟩ : ∃ z, min (max (x.f - by_) 0) span = z := ⟨_, rfl⟩; obtain ⟨t', ht'⟩ : ∃ z, min (max (x.t - by_) 0) span = z := ⟨_, rfl⟩; rw [hf', ht'] at hmv; have hk1 := set_cells (i := 0) (v := .int .i64 f') hk0; obtain ⟨W1, hW1⟩ : ∃ W, V0.setCell ⟨T, 0, none⟩ (.int .i64 f') = W := ⟨_, rfl⟩; rw [hW1] at hk1; have hk2 := set_cells (i := 1) (v := .int .i64 t') hk1; obtain ⟨W2, hW2⟩ : ∃ W, W1.setCell ⟨T, 1, none⟩ (.int .i64 t') = W := ⟨_, rfl⟩; rw [hW2] at hk2; have hkk : Kept (fun b => b = T) V0 W2 := by rw [← hW2, ← hW1]; exact (keep_set (O := fun b => b = T) rfl).trans (keep_set (O := fun b => b = T) rfl)
    have r0 : V0.cell? ⟨T, 0, none⟩ = some (.int .i64 x.f) := by simp [World.cell?, hk0]
    have r1 : V0.cell? ⟨T, 1, none⟩ = some (.int .i64 x.t) := by simp [World.cell?, hk0]
    have r2 : W1.cell? ⟨T, 1, none⟩ = some (.int .i64 x.t) := by simp [World.cell?, hk1]
    have f0 : V0.frozen? ⟨T, 0, none⟩ = false := by simp [World.frozen?, hk0]
    have f1 : W1.frozen? ⟨T, 1, none⟩ = false := by simp [World.frozen?, hk1]
    have p0 : W2.cell? ⟨T, 0, none⟩ = some (.int .i64 f') := by simp [World.cell?, hk2]
    have p1 : W2.cell? ⟨T, 1, none⟩ = some (.int .i64 t') := by simp [World.cell?, hk2]
    have p2 : W2.cell? ⟨T, 2, none⟩ = some (.string x.s) := by simp [World.cell?, hk2]
    have HB2 := qH (show Below X.1.heap.size X.1 W2 from Kept.below hb0 hkk hb0.size (fun k hk e => by omega)); rw [hmv] at HST; have HO2 := qH (HO.out.below HB2.out); clear hx hd hb3 hmv hb0 hs0 hl0 hk0 hk1 hk2 hkk hml HO x0 x1 x2 x3; generalize x.s = xs at *; by_cases hft : f' < t'
    · have t3 : decide (f' < t') = true := by rw [decide_eq_true_eq]; exact hft
      have HS2 := qH (show movedF (l.take (k + 1)) by_ span = movedF (l.take k) by_ span ++ [⟨f', t', xs⟩] by rw [HST.out, if_pos hft]); obtain ⟨V6, hV6, hb6, hs6, hl6⟩ := alloc_cells W2 #[.int .i64 f', .int .i64 t', .string xs] 75; have HC6 := qH (fun j u (hj : (lpC ⟨f', t', xs⟩)[j]? = some u) => show V6.cell? ⟨W2.heap.size, j, none⟩ = some u from hl6 j u (by rw [← hj]; simp [lpC])); have HO6 := qH (HO2.out.below hb6); have H6 := qH (bStp (bStp X.2 HB2.out) hb6); clear HST hb6 hs6 hl6 hft; go_wp2_with (at_builtin; refine append_Lp rfl _ _ rfl rfl HO6.out (p := ⟨f', t', xs⟩) rfl HC6.out (by have := HML.out; omega) H6.out.size (fun g' c' w7 ho7 hg7 hor => ?_)); have HO7 := qH ho7; have H7 := qH (Kept.below (O := fun b => w.heap.size ≤ b) H6.out (Kept.of_grown hg7 (fun g e _ => (HO6.out.lt g e).1)) H6.out.size (fun k hk e => by omega)); clear ho7 hg7 hor hV6 p0 p1 p2; go_wp2_with fail
      go_roundw
      case rel => exact ⟨k + 1, by go_num, by omega, qH (by rw [HS2.out]; exact HO7.out), ⟨w7, H7.out⟩, rfl⟩
      case measure => simp [intOf]; omega
    · have t3 : decide (f' < t') = false := by rw [decide_eq_false_iff_not]; exact hft
      have HS2 := qH (show movedF (l.take (k + 1)) by_ span = movedF (l.take k) by_ span by rw [HST.out, if_neg hft]); clear HST hft; go_wp2_with fail
      go_roundw
      case rel => exact ⟨k + 1, by go_num, by omega, qH (by rw [HS2.out]; exact HO2.out), ⟨W2, bStp X.2 HB2.out⟩, rfl⟩
      case measure => simp [intOf]; omega
  · have t2 : decide ((k : Int) < (n : Int)) = false := dFf (by omega)
    have t2' : decide (k < n) = false := by simpa using hlt
    obtain rfl : k = n := by omega
    have HF := qH (show l.take k = l from by rw [← HN.out]; exact List.take_length); clear hlt hk; go_wp2_with fail; go_ret; exact ⟨_, rfl, by rw [← HF.out]; exact HO.out, X.2⟩
open Tr (inR)
open Ft (Mt)
theorem orE_any (l : List Int) (g c : Nat) (w : World) (hl : l.length ≤ 1000) (hc : ∀ i v, l[i]? = some v → w.cell? ⟨g, i, none⟩ = some (.int .i64 v)) :
 Calls Tryz.prog 31 #[.slice (some ⟨g, 0, none⟩) l.length c] w fun e w' => e = .returned (.int .i64 (orL l)) ∧ w = w' := by
 obtain ⟨n, hn⟩ : ∃ n, l.length = n := ⟨_, rfl⟩; have HN := qH hn; have HC := qH hc; rw [hn] at hl ⊢; clear hn hc; go_enter Tryz.func31, Tryz.ntmps31; go_wp2_with fail
 go_loop [8] (fun iv => ∃ (k : Nat), iv = .int .i64 k ∧ k ≤ n ∧ Hid (orL l = orL (l.drop k))) (fun iv => n - (intOf iv).toNat)
 case atStart => exact ⟨0, rfl, by omega, qH rfl⟩
 case round =>
  obtain ⟨k, rfl, hk, HE⟩ := hrel; by_cases hlt : k < n
  · have t1 : decide ((k : Int) < (n : Int)) = true := dTt (by omega)
    have t1' : decide (k < n) = true := by simpa using hlt
    obtain ⟨x, hx⟩ : ∃ x, l[k]? = some x := ⟨_, List.getElem?_eq_getElem (by rw [HN.out]; exact hlt)⟩; have hcx := HC.out k x hx; obtain ⟨h1, h2⟩ := orL_drop hx HE.out; clear hx HE; by_cases h0 : x = 0
    · subst h0
      have HE := qH (h2 rfl); clear h1 h2; go_wp2_with fail
      go_round
      case rel => exact ⟨k + 1, by go_num, by omega, HE⟩
      case measure => simp [intOf]; omega
    · have HE := qH (h1 h0)
      have hb : (x != 0) = true := bTt h0; clear h1 h2 h0; go_wp2_with fail; go_ret; exact ⟨by rw [HE.out]; rfl, rfl⟩
  · have t1 : decide ((k : Int) < (n : Int)) = false := dFf (by omega)
    have t1' : decide (k < n) = false := by simpa using hlt
    have HF := qH (show orL l = 0 by rw [HE.out, List.drop_eq_nil_of_le (by rw [HN.out]; omega)]; rfl); clear hlt HE; go_wp2_with fail; go_ret; exact ⟨by rw [HF.out]; rfl, rfl⟩
end Go.Proofs.YtjnfccphodjfiaaGreat
namespace Go.Proofs.YtjnfccphodjfiaaGreat
open Go.RowKit Go.BigFrame
open Tr (inR)
open Ft (Mt)
theorem orL_two (a b : Int) : orL [a, b] = if a ≠ 0 then a else b := by
 by_cases h : a = 0
 · by_cases h2 : b = 0
   · simp [orL, h, h2]
   · simp [orL, h, h2]
 · simp [orL, h]
end Go.Proofs.YtjnfccphodjfiaaGreat
namespace Go.Proofs.YtjnfccphodjfiaaGreat
open Tr (inR)
structure LpOk (span : Int) (l : List Lp) : Prop where
 each : ∀ (i : Nat) (p : Lp), l[i]? = some p → 0 ≤ p.f ∧ p.f < p.t ∧ p.t ≤ span ∧ titleB p.s = true
 next : ∀ (i : Nat) (p q : Lp), l[i]? = some p → l[i + 1]? = some q → p.t ≤ q.f
structure TgOk (l : List ByteArray) : Prop where
 each : ∀ (i : Nat) (s : ByteArray), l[i]? = some s → nameB s = true
 next : ∀ (i : Nat) (p s : ByteArray), l[i]? = some p → l[i + 1]? = some s → Op.bytesLess p.toList s.toList = true
theorem errS_zero {start : Int} {l : List Sm} : firstE (errS start l) l.length 0 = 0 ↔ SmOk start l := by
 refine ⟨smOk_of, fun h => firstE_zero.2 fun i _ hi => ?_⟩; obtain ⟨s, hs⟩ : ∃ s, l[i]? = some s := ⟨_, List.getElem?_eq_getElem (by omega)⟩; obtain ⟨u1, u2, u3⟩ := h.upto i s hs; have ho : ordS l i s.tm = false := by
  unfold ordS; by_cases h0 : i = 0
  · subst h0
    rw [if_pos rfl, h.first s hs]
    rfl
  · rw [if_neg h0]
    obtain ⟨p, hp⟩ : ∃ p, l[i - 1]? = some p := ⟨_, List.getElem?_eq_getElem (by omega)⟩; rw [hp]; have := h.next (i - 1) p s hp (by rw [show i - 1 + 1 = i by omega]; exact hs); show decide (s.tm ≤ p.tm) = false; rw [decide_eq_false_iff_not]; omega
 unfold errS; rw [hs]; show (if ordS l i s.tm = true then (10 : Int) else _) = 0; rw [ho, if_neg (by decide), if_neg (fun hh => by rcases hh with h | h | h <;> first | omega | (rw [u3] at h; cases h))]
theorem errL_zero {span : Int} {l : List Lp} : firstE (errL span l) l.length 0 = 0 ↔ LpOk span l := by
 rw [firstE_zero]; have key : ∀ (i : Nat) (p : Lp), l[i]? = some p → (errL span l i = 0 ↔ (¬ (p.f < 0 ∨ p.t ≤ p.f ∨ span < p.t)) ∧ ordL l i p.f = false ∧ titleB p.s = true) := by
  intro i p hp; unfold errL; rw [hp]; show (if p.f < 0 ∨ p.t ≤ p.f ∨ span < p.t then (9 : Int) else if ordL l i p.f = true then 10 else if titleB p.s = true then 0 else 8) = 0 ↔ _; by_cases h1 : p.f < 0 ∨ p.t ≤ p.f ∨ span < p.t
  · rw [if_pos h1]
    exact ⟨fun h => absurd h (by decide), fun h => absurd h1 h.1⟩
  · rw [if_neg h1]
    cases h2 : ordL l i p.f
    · cases h3 : titleB p.s
      · simp
      · simp [h1]
    · simp
 constructor
 · intro h
   refine ⟨fun i p hp => ?_, fun i p q hp hq => ?_⟩
   · have := (key i p hp).1 (h i (Nat.zero_le _) (by have := (List.getElem?_eq_some_iff.1 hp).1; omega))
     exact ⟨by omega, by omega, by omega, this.2.2⟩
   · have := ((key (i + 1) q hq).1 (h (i + 1) (Nat.zero_le _) (by have := (List.getElem?_eq_some_iff.1 hq).1; omega))).2.1
     unfold ordL at this; rw [if_neg (by omega), Nat.add_sub_cancel, hp] at this; have : decide (q.f < p.t) = false := this; rw [decide_eq_false_iff_not] at this; omega
 · intro h i _ hi
   obtain ⟨p, hp⟩ : ∃ p, l[i]? = some p := ⟨_, List.getElem?_eq_getElem (by omega)⟩; obtain ⟨a1, a2, a3, a4⟩ := h.each i p hp; refine (key i p hp).2 ⟨by omega, ?_, a4⟩; unfold ordL; by_cases h0 : i = 0
   · rw [if_pos h0]
   · rw [if_neg h0]
     obtain ⟨q, hq⟩ : ∃ p, l[i - 1]? = some p := ⟨_, List.getElem?_eq_getElem (by omega)⟩; rw [hq]; have := h.next (i - 1) q p hq (by rw [show i - 1 + 1 = i by omega]; exact hp); show decide (p.f < q.t) = false; rw [decide_eq_false_iff_not]; omega
theorem errT_zero {l : List ByteArray} : firstE (errT l) l.length 0 = 0 ↔ TgOk l := by
 rw [firstE_zero]; have key : ∀ (i : Nat) (p : ByteArray), l[i]? = some p → (errT l i = 0 ↔ nameB p = true ∧ ordT l i p = false) := by
  intro i p hp; unfold errT; rw [hp]; show (if nameB p = false then (8 : Int) else if ordT l i p = true then 10 else 0) = 0 ↔ _
  cases nameB p
  · simp
  · cases ordT l i p
    · simp
    · simp
 constructor
 · intro h
   refine ⟨fun i p hp => ((key i p hp).1 (h i (Nat.zero_le _) (by have := (List.getElem?_eq_some_iff.1 hp).1; omega))).1, fun i p q hp hq => ?_⟩; have := ((key (i + 1) q hq).1 (h (i + 1) (Nat.zero_le _) (by have := (List.getElem?_eq_some_iff.1 hq).1; omega))).2; unfold ordT at this; rw [if_neg (by omega), Nat.add_sub_cancel, hp] at this; have : (!Op.bytesLess p.toList q.toList) = false := this
   simpa using this
 · intro h i _ hi
   obtain ⟨p, hp⟩ : ∃ p, l[i]? = some p := ⟨_, List.getElem?_eq_getElem (by omega)⟩; refine (key i p hp).2 ⟨h.each i p hp, ?_⟩; unfold ordT; by_cases h0 : i = 0
   · rw [if_pos h0]
   · rw [if_neg h0]
     obtain ⟨q, hq⟩ : ∃ p, l[i - 1]? = some p := ⟨_, List.getElem?_eq_getElem (by omega)⟩; rw [hq]; have := h.next (i - 1) q p hq (by rw [show i - 1 + 1 = i by omega]; exact hp); show (!Op.bytesLess q.toList p.toList) = false; rw [this]
     rfl
structure AcOk (A : Acv) : Prop where
 name : nameB A.name = true
 sport : 1 ≤ A.sport ∧ A.sport ≤ 5
 start : 0 ≤ A.start ∧ A.start ≤ 86399999999
 nsm : A.sm.length ≤ 20000
 nlp : A.lp.length ≤ 200
 ntg : A.tg.length ≤ 20
 sm : SmOk A.start A.sm
 lp : LpOk (spanS A.sm) A.lp
 tg : TgOk A.tg
theorem chkA_zero {A : Acv} : chkA A = 0 ↔ AcOk A := by
 constructor
 · intro h
   unfold chkA at h
   split at h
   · cases h
   rename_i h1
   split at h
   · cases h
   rename_i h2
   split at h
   · cases h
   rename_i h3
   split at h
   · cases h
   rename_i h4; unfold chkR at h
   split at h
   case isFalse h5 => exact absurd h h5
   rename_i h5
   split at h
   case isFalse h6 => exact absurd h h6
   rename_i h6; exact ⟨by simpa using h1, inR_iff.1 (by simpa using h2), inR_iff.1 (by simpa using h3), by omega, by omega, by omega, errS_zero.1 h5, errL_zero.1 h6, errT_zero.1 h⟩
 · intro h
   unfold chkA; rw [if_neg (by rw [h.name]; decide), if_neg (by rw [inR_iff.2 h.sport]; decide), if_neg (by rw [inR_iff.2 h.start]; decide), if_neg (by have := h.nsm; have := h.nlp; have := h.ntg; omega)]; unfold chkR; rw [if_pos (show chkSs A = 0 from errS_zero.2 h.sm), if_pos (show chkLs A = 0 from errL_zero.2 h.lp)]; exact errT_zero.2 h.tg
theorem spanS_range {start : Int} {l : List Sm} (h : SmOk start l) : 0 ≤ spanS l ∧ spanS l ≤ 1000000 := by
 unfold spanS
 cases hx : l[l.length - 1]? with
 | none => exact ⟨by decide, by decide⟩
 | some s => exact ⟨h.nonneg hx, (h.upto _ s hx).1⟩
set_option maxHeartbeats 8000000
set_option maxRecDepth 100000
open Go.RowKit Go.BigFrame
def ac0 : Value := .agg #[.string ⟨#[]⟩, .int .i64 0, .int .i64 0, .slice none 0 0, .slice none 0 0, .slice none 0 0]
def ActRet (Z : Acv) (w : World) (e : Ending) (w' : World) : Prop :=
 Below w.heap.size w w' ∧ ∃ er, chkA Z = er ∧ ((er ≠ 0 ∧ e = .returned (.tuple #[ac0, .int .i64 er])) ∨ (er = 0 ∧ ∃ a b c ca cb cc, e = .returned (.tuple #[actV Z a b c ca cb cc, .int .i64 0]) ∧ ActIn w' Z a b c ∧ ∀ g, (a = some g ∨ b = some g ∨ c = some g) → w.heap.size ≤ g.block))
def backS (d : Int) (s : Sm) : Sm := { s with tm := s.tm - d }
def partA (A : Acv) (l : List Sm) (d : Int) : Acv := ⟨A.name, A.sport, A.start + d, l.map (backS d), movedF A.lp d (spanS (l.map (backS d))), A.tg⟩
theorem ActIn.kept {O : Nat → Prop} {w w' : World} {A : Acv} {a b c : Option Addr} (h : ActIn w A a b c) (hk : Kept O w w') (ho : ∀ g, (a = some g ∨ b = some g ∨ c = some g) → ¬ O g.block) : ActIn w' A a b c :=
 ⟨h.sm.kept hk (fun b off e => ho ⟨b, off, none⟩ (Or.inl e)), h.lp.kept hk (fun b off e => ho ⟨b, off, none⟩ (Or.inr (Or.inl e))), h.tg.kept hk (fun b off e => ho ⟨b, off, none⟩ (Or.inr (Or.inr e))), h.name, h.titles, h.tags, h.nsm, h.nlp, h.ntg⟩
theorem movedF_mem {l : List Lp} {by_ span : Int} {x : Lp} (h : x ∈ movedF l by_ span) : ∃ y, y ∈ l ∧ x.s = y.s := by
 unfold movedF at h; obtain ⟨h1, _⟩ := List.mem_filter.1 h; obtain ⟨y, hy, rfl⟩ := List.mem_map.1 h1; exact ⟨y, hy, rfl⟩
theorem part_any (A : Acv) (a b c : Option Addr) (ca cb cc : Nat) (l : List Sm) (al : Option Addr) (cl : Nat) (d : Int) (w : World) (h : ActIn w A a b c) (hok : AcOk A) (hr : Rw smC 7 w al l) (hl : l.length ≤ 20000) (hx : ∀ s, s ∈ l → 0 ≤ s.tm ∧ s.tm ≤ 1000000) (h0 : 0 ≤ d) (h1 : d ≤ 1000000) :
 Calls Tryz.prog 228 #[actV A a b c ca cb cc, .slice al l.length cl, .int .i64 d] w fun e w' => ActRet (partA A l d) w e w' := by
 obtain ⟨n, hn⟩ : ∃ n, l.length = n := ⟨_, rfl⟩; have HLN := qH hn; rw [hn] at hl ⊢; obtain ⟨V0, hV0, hb0, hs0, ha0⟩ := alloc_aA w A a b c ca cb cc; obtain ⟨V1, hV1, hb1, hs1, ha1⟩ := alloc_a0 V0; rw [hs0] at ha1; have ha0 := ha0.below hb1; have HB := qH (bStp hb0 hb1); have HIN := qH (h.below HB.out); have HOK := qH hok; have HRL := qH (hr.below HB.out); have HXL := qH (fun (i : Nat) (hi : i < n) => show ∃ x, l[i]? = some x ∧ 0 ≤ x.tm ∧ x.tm ≤ 1000000 from by
  have hg : i < l.length := by rw [hn]; exact hi
  exact ⟨_, List.getElem?_eq_getElem hg, hx _ (List.getElem_mem hg)⟩)
 have HT := qH (And.intro hs0 hs1); have HA0 := qH ha0; have HA1 := qH ha1; have DC := qH (cloneA_any A a b c ca cb cc V1 HIN.out (by have := hok.nsm; omega) (by have := hok.nlp; omega) (by have := hok.ntg; omega)); obtain ⟨g0, g1, g2, g3, g4, g5⟩ := ha0.cell; clear h hok hr hx hb0 hb1 ha0 ha1 hn hs1; unfold actV at DC ⊢; go_enter Tryz.func228, Tryz.ntmps228; go_wp2_with fail; refine (DC.out).mono ?_; unfold CloneRet; rintro e w1 ⟨⟨a1, b1, c1, ca1, cb1, cc1, rfl, ho3⟩, hb1⟩; obtain ⟨V3, hV3, hb3, hs3, ha3⟩ := alloc_ac w1 A.name A.sport A.start (.slice a1 A.sm.length ca1) (.slice b1 A.lp.length cb1) (.slice c1 A.tg.length cc1); obtain ⟨B, hB⟩ : ∃ B, w1.heap.size = B := ⟨_, rfl⟩; have hA4 := ha3.set3 (.slice none 0 0); obtain ⟨W, hW⟩ : ∃ W, V3.setCell ⟨w1.heap.size, 3, none⟩ (.slice none 0 0) = W := ⟨_, rfl⟩; rw [hW] at hA4; have j3 := ha3.cell.2.2.2.1; have f3 := ha3.free 3; have HA4 := qH hA4; have HBW := qH (show Below w1.heap.size w1 W from Kept.below hb3 (by rw [← hW]; exact keep_set (O := fun b => b = w1.heap.size) rfl) hb3.size (fun k hk e => by omega)); have HB1 := qH hb1; have HO3 := qH ho3; have HBB := qH (And.intro hB hs3); clear hA4 ha3 hb3 hb1 ho3 hB; unfold actV; go_wp2_with fail; rw [HBB.out.1]; rw [HBB.out.1] at HA4; clear j3 f3 hV3 hW g0 g1 g2 g3 g4 g5; have HVB := qH (show w.heap.size + 2 ≤ B ∧ B < W.heap.size ∧ V1.heap.size ≤ B from by
  have := HB1.out.size; have := HT.out; have := HBB.out; have := HBW.out.size; have := HA4.out.lt; omega)
 have HC := qH (fun (X : ExtO (fun b => b = B) W) (p : Addr) (v : Value) (hp : p.block < V1.heap.size) (h : V1.cell? p = some v) => show X.1.cell? p = some v from X.2.cell (by have := HVB.out; omega) (bCel HBW.out (bCel HB1.out h))); clear hs3
 go_loopw [17] (fun iv wr => ∃ k : Nat, iv = .int .i64 k ∧ k ≤ n ∧ Hid (∃ vs, AcB wr B A.name A.sport A.start vs (.slice b1 A.lp.length cb1) (.slice c1 A.tg.length cc1) ∧ Own smC 7 72 wr W.heap.size vs ((l.take k).map (backS d))) ∧ ∃ X : ExtO (fun b => b = B) W, wr = X.1) (fun iv _ => n - (intOf iv).toNat)
 case atStart => exact ⟨0, rfl, by omega, qH ⟨_, HA4.out, Own.nil _ _ _ _ _⟩, ⟨W, Kept.refl _ _⟩, rfl⟩
 case round =>
  obtain ⟨k, rfl, hk, HST, X, rfl⟩ := hrel; obtain ⟨vs, hac, hown⟩ := HST.out; obtain ⟨a', c', rfl, _, _, _⟩ := hown.row smEl; rw [List.length_map, List.length_take, Nat.min_eq_left (by rw [HLN.out]; exact hk)] at hac hown; by_cases hlt : k < n
  · have t2 : decide ((k : Int) < (n : Int)) = true := dTt (by omega)
    have t2' : decide (k < n) = true := by simpa using hlt
    obtain ⟨x, hx, hx0, hx1⟩ := HXL.out k hlt; have HTK := qH (show (l.take (k + 1)).map (backS d) = (l.take k).map (backS d) ++ [backS d x] by rw [List.take_add_one, hx, List.map_append]; rfl); have HLK := qH (show ((l.take k).map (backS d)).length = k by rw [List.length_map, List.length_take, Nat.min_eq_left (by rw [HLN.out]; exact hk)]); obtain ⟨b3, o3, rfl, hb3, hd⟩ := HRL.out.at hx; have e0 := HC.out X ⟨b3, o3 + k * 7, none⟩ (.int .i64 x.tm) hb3 (hd 0 _ rfl); have e1 := HC.out X ⟨b3, o3 + k * 7 + 1, none⟩ (.int .i64 x.x) hb3 (hd 1 _ rfl); have e2 := HC.out X ⟨b3, o3 + k * 7 + 2, none⟩ (.int .i64 x.y) hb3 (hd 2 _ rfl); have e3 := HC.out X ⟨b3, o3 + k * 7 + 3, none⟩ (.int .i64 x.z) hb3 (hd 3 _ rfl); have e4 := HC.out X ⟨b3, o3 + k * 7 + 4, none⟩ (.int .i64 x.pu) hb3 (hd 4 _ rfl); have e5 := HC.out X ⟨b3, o3 + k * 7 + 5, none⟩ (.int .i64 x.po) hb3 (hd 5 _ rfl); have e6 := HC.out X ⟨b3, o3 + k * 7 + 6, none⟩ (.int .i64 x.st) hb3 (hd 6 _ rfl); have hy : smC (backS d x) = [.int .i64 (x.tm - d), .int .i64 x.x, .int .i64 x.y, .int .i64 x.z, .int .i64 x.pu, .int .i64 x.po, .int .i64 x.st] := rfl; have hw : IntKind.i64.wrap (x.tm - d) = x.tm - d := tm_wrap (by omega) (by omega); obtain ⟨V6, hV6, hb6, hs6, hl6⟩ := alloc_cells X.1 #[.int .i64 x.tm, .int .i64 x.x, .int .i64 x.y, .int .i64 x.z, .int .i64 x.pu, .int .i64 x.po, .int .i64 x.st] 72; have hk0 : V6.heap[X.1.heap.size]? = some (.cells #[.int .i64 x.tm, .int .i64 x.x, .int .i64 x.y, .int .i64 x.z, .int .i64 x.pu, .int .i64 x.po, .int .i64 x.st] 72 (0, 0)) := by rw [← hV6]; exact heap_alloc_new X.1 _
    have hk1 := set_cells (i := 0) (v := .int .i64 (x.tm - d)) hk0; obtain ⟨W6, hW6⟩ : ∃ W, V6.setCell ⟨X.1.heap.size, 0, none⟩ (.int .i64 (x.tm - d)) = W := ⟨_, rfl⟩; rw [hW6] at hk1; have hB6 : Below X.1.heap.size X.1 W6 := Kept.below hb6 (by rw [← hW6]; exact keep_set (O := fun b => b = X.1.heap.size) rfl) hb6.size (fun k hk e => by omega); have r0 : V6.cell? ⟨X.1.heap.size, 0, none⟩ = some (.int .i64 x.tm) := by simp [World.cell?, hk0]
    have f0 : V6.frozen? ⟨X.1.heap.size, 0, none⟩ = false := by simp [World.frozen?, hk0]
    have p0 : W6.cell? ⟨X.1.heap.size, 0, none⟩ = some (.int .i64 (x.tm - d)) := by simp [World.cell?, hk1]
    have p1 : W6.cell? ⟨X.1.heap.size, 1, none⟩ = some (.int .i64 x.x) := by simp [World.cell?, hk1]
    have p2 : W6.cell? ⟨X.1.heap.size, 2, none⟩ = some (.int .i64 x.y) := by simp [World.cell?, hk1]
    have p3 : W6.cell? ⟨X.1.heap.size, 3, none⟩ = some (.int .i64 x.z) := by simp [World.cell?, hk1]
    have p4 : W6.cell? ⟨X.1.heap.size, 4, none⟩ = some (.int .i64 x.pu) := by simp [World.cell?, hk1]
    have p5 : W6.cell? ⟨X.1.heap.size, 5, none⟩ = some (.int .i64 x.po) := by simp [World.cell?, hk1]
    have p6 : W6.cell? ⟨X.1.heap.size, 6, none⟩ = some (.int .i64 x.st) := by simp [World.cell?, hk1]
    have q3 : W6.cell? ⟨B, 3, none⟩ = some (.slice a' k c') := (hac.below hB6).cell.2.2.2.1; obtain ⟨V7, hV7, hb7, hs7, hl7⟩ := alloc_cells W6 #[.int .i64 (x.tm - d), .int .i64 x.x, .int .i64 x.y, .int .i64 x.z, .int .i64 x.pu, .int .i64 x.po, .int .i64 x.st] 72; have HC7 := qH (fun j u (hj : (smC (backS d x))[j]? = some u) => show V7.cell? ⟨W6.heap.size, j, none⟩ = some u from hl7 j u (by rw [← hj, hy]; simp)); have hB7 := bStp hB6 hb7; have HO7 := qH (hown.below hB7); have HA7 := qH (hac.below hB7); have HK7 := qH (X.2.trans (Kept.of_below hB7)); clear hac hown hb6 hs6 hl6 hk0 hk1 hB6 hb7 hs7 hl7 hB7 hx hd hb3 hy HST hx0 hx1; go_wp2_with (at_builtin; refine append_Sm rfl _ _ rfl rfl HO7.out (p := backS d x) rfl HC7.out (by rw [HLK.out]; omega) HK7.out.size (fun g' c2 w8 ho8 hg8 hor => ?_); rw [HLK.out] at ho8 ⊢; have HA8 := qH (HA7.out.kept (O := fun b => W.heap.size ≤ b) (Kept.of_grown hg8 (fun g e _ => (HO7.out.lt g e).1)) (by have := HVB.out; omega)); have j8 := HA8.out.cell.2.2.2.1; have f8 := HA8.out.free 3; obtain ⟨W9, hW9⟩ : ∃ z, w8.setCell ⟨B, 3, none⟩ (.slice (some ⟨g', 0, none⟩) (k + 1) c2) = z := ⟨_, rfl⟩); have ha9 := HA8.out.set3 (.slice (some ⟨g', 0, none⟩) (k + 1) c2); rw [hW9] at ha9; have hk9 : Kept (fun b => b = B) w8 W9 := by rw [← hW9]; exact keep_set (O := fun b => b = B) rfl
    have HO9 := qH (ho8.keepO hk9 (fun b hb e => by have := (ho8.lt b hb).1; have := HVB.out; omega)); have HA9 := qH ha9; have HK9 := qH ((HK7.out.grown hg8 (fun g e hlt => by have := (HO7.out.lt g e).1; omega)).trans hk9); clear ho8 hg8 hor ha9 hk9 hW9 j8 f8
    go_roundw
    case rel => exact ⟨k + 1, by go_num, by omega, qH ⟨_, HA9.out, by rw [HTK.out]; exact HO9.out⟩, ⟨W9, HK9.out⟩, rfl⟩
    case measure => simp [intOf]; omega
  · have t2 : decide ((k : Int) < (n : Int)) = false := dFf (by omega)
    have t2' : decide (k < n) = false := by simpa using hlt
    obtain rfl : k = n := by omega
    have hmap : l.take k = l := by rw [← HLN.out]; exact List.take_length
    rw [hmap] at hown; obtain ⟨L, hL⟩ : ∃ L, l.map (backS d) = L := ⟨_, rfl⟩; rw [hL] at hown; have HL := qH hL; have HLL := qH (show L.length = k by rw [← hL, List.length_map]; exact HLN.out); obtain ⟨u1, u2⟩ := HOK.out.start; have hws : IntKind.i64.wrap (A.start + d) = A.start + d := tm_wrap (by omega) (by omega); have j2 := hac.cell.2.2.1; have f2 := hac.free 2; have ha9 := hac.set2 (A.start + d); obtain ⟨W9, hW9⟩ : ∃ z, X.1.setCell ⟨B, 2, none⟩ (.int .i64 (A.start + d)) = z := ⟨_, rfl⟩; rw [hW9] at ha9; have hk9 : Kept (fun b => b = B) X.1 W9 := by rw [← hW9]; exact keep_set (O := fun b => b = B) rfl
    have ho9 := hown.keepO hk9 (fun b hb e => by have := (hown.lt b hb).1; have := HVB.out; omega); have HK9 := qH (X.2.trans hk9); have HA9 := qH ha9; have HO9 := qH ho9; have HC9 := qH (fun (p : Addr) (v : Value) (hp : p.block < V1.heap.size) (h : V1.cell? p = some v) => HC.out ⟨W9, HK9.out⟩ p v hp h); have HIN9 := qH (show ActIn W9 A a b c from by
     have hlt := HVB.out; have hv : ∀ {α : Type} {C : α → List Value} {m : Nat} {x : Option Addr} {ll : List α}, Rw C m V1 x ll → Rw C m W9 x ll := fun hr => ⟨fun hl => by
      obtain ⟨bb, off, e, hb, hc⟩ := hr.here hl; exact ⟨bb, off, e, by have := HK9.out.size; omega, fun i x hx j v hv => HC9.out ⟨bb, off + i * _ + j, none⟩ v hb (hc i x hx j v hv)⟩⟩
     exact ⟨hv HIN.out.sm, hv HIN.out.lp, hv HIN.out.tg, HIN.out.name, HIN.out.titles, HIN.out.tags, HIN.out.nsm, HIN.out.nlp, HIN.out.ntg⟩)
    have g4' := HC9.out ⟨w.heap.size, 4, none⟩ _ (by simp only; have := HT.out; omega) HA0.out.cell.2.2.2.2.1; have G4 := Ext.ex g4'; obtain ⟨y0, y1, y2, y3, y4, y5⟩ := ha9.cell; have Y0 := Ext.ex y0; have Y1 := Ext.ex y1; have Y2 := Ext.ex y2; have Y3 := Ext.ex y3; have Y4 := Ext.ex y4; have Y5 := Ext.ex y5; clear hmap hL hac hown ha9 hk9 ho9 HST g4' y0 y1 y2 y3 y4 y5 hlt hk; go_upto_region 10 with (fail); clear j2 f2 hW9; refine late_start (s := 7) (C := fun w' => ∃ Z : Ext W9, w' = Z.1) (by kernel_rfl) ?_; obtain ⟨Z0, hZ0⟩ : ∃ Z : Ext W9, ({ W9 with drawn := W9.drawn + 1 } : World) = Z.1 := ⟨⟨{ W9 with drawn := W9.drawn + 1 }, ⟨rfl, rfl, rfl, Nat.le_refl _, fun _ _ => rfl⟩⟩, rfl⟩; rw [hZ0]; clear hZ0; refine late_quiet (by kernel_rfl) (fun _ _ d _ _ h => by cases d <;> exact h) ⟨Z0, rfl⟩ [0, 1, 2, 3] 4 _ _ (by kernel_rfl) (by kernel_rfl) ?_; change wpQuiet _ _ _ _ (_ :: _ :: _ :: _ :: []) _
    repeat go_big_quiet_step (fail)
    refine wpQuiet_nil ?_; have DSP := qH (fun Z : Ext W9 => show Calls Tryz.prog 62 #[.agg #[.string A.name, .int .i64 A.sport, .int .i64 (A.start + d), .slice a' k c', .slice b1 A.lp.length cb1, .slice c1 A.tg.length cc1]] Z.1 fun e w' => e = .returned (.int .i64 (spanS L)) ∧ Below Z.1.heap.size Z.1 w' from by
     have h := span_any ⟨A.name, A.sport, A.start + d, L, A.lp, A.tg⟩ a' b1 c1 c' cb1 cc1 Z.1 ((HO9.out.rw_ smEl).1.below Z.2) (by show (L.length : Int) ≤ _; rw [HLL.out]; omega); unfold actV at h; simp only [HLL.out] at h; exact h)
    have hspan := spanS_range HOK.out.sm; have DMV := qH (fun Z : Ext W9 => moved_any A.lp b cb d (spanS L) Z.1 (HIN9.out.lp.below Z.2) (by have := HOK.out.nlp; omega) (fun x hx => by
     obtain ⟨i, hi, rfl⟩ := List.getElem_of_mem hx; obtain ⟨m1, m2, m3, _⟩ := HOK.out.lp.each i _ (List.getElem?_eq_getElem hi); omega) h0 h1)
    refine late_do (i := 4) _ rfl (by kernel_rfl) rfl (fun K hK => ?_); go_simp; refine (DSP.out Z0).mono ?_; rintro e Y1 ⟨rfl, hk1⟩; obtain ⟨Z1, rfl⟩ : ∃ Z : Ext W9, Y1 = Z.1 := ⟨⟨Y1, bStp Z0.2 hk1⟩, rfl⟩; refine hK _ _ (fun _ => ⟨Z1, rfl⟩) ?_; clear hK K hk1
    try simp only [pS]
    refine late_do (i := 5) _ rfl (by kernel_rfl) rfl (fun K hK => ?_); go_simp; refine (DMV.out Z1).mono ?_; rintro e Y2 ⟨v2, rfl, ho2, hk2⟩; obtain ⟨b2, cb2, rfl, _, _, _⟩ := ho2.row lpEl; obtain ⟨Z2, rfl⟩ : ∃ Z : Ext W9, Y2 = Z.1 := ⟨⟨Y2, bStp Z1.2 hk2⟩, rfl⟩; have HO2 := qH ho2; refine hK _ _ (fun _ => ⟨Z2, rfl⟩) ?_; clear hK K hk2 ho2
    try simp only [pS]
    refine late_do (i := 6) _ rfl (by kernel_rfl) rfl (fun K hK => ?_); go_simp; refine hK _ _ (fun _ => ⟨Z2, rfl⟩) ?_; clear hK K
    try simp only [pS]
    have hA2 := HA9.out.below Z2.2; have y4 := hA2.cell.2.2.2.2.1; have f4 := hA2.free 4; obtain ⟨ML, hML⟩ : ∃ q, movedF A.lp d (spanS L) = q := ⟨_, rfl⟩; rw [hML] at HO2 ⊢; have HMLE := qH hML; clear hML; have hA3 := hA2.set4 (.slice b2 ML.length cb2); obtain ⟨W11, hW11⟩ : ∃ z, Z2.1.setCell ⟨B, 4, none⟩ (.slice b2 ML.length cb2) = z := ⟨_, rfl⟩; rw [hW11] at hA3; have hk11 : Kept (fun b => b = B) Z2.1 W11 := by rw [← hW11]; exact keep_set (O := fun b => b = B) rfl
    have HINX := qH (fun (WX : World) (hkx : Kept (fun b => b = B ∨ b = w.heap.size + 1) Z2.1 WX) => show ActIn WX ⟨A.name, A.sport, A.start + d, L, ML, A.tg⟩ a' b2 c1 from by
     have hlt := HVB.out; obtain ⟨r1, _, r3⟩ := HO9.out.rw_ smEl; obtain ⟨l1, _, l3⟩ := HO2.out.rw_ lpEl; obtain ⟨B1, B2, hB1, hB2, _, _, _, _, hot⟩ := HO3.out.ex; obtain ⟨t1, _, t3⟩ := hot.rw_ tgEl; refine ⟨(r1.below Z2.2).kept hkx (fun b off e => by have hh : W.heap.size ≤ b := (r3 _ e).1; omega), l1.kept hkx (fun b off e => by have hh : Z1.1.heap.size ≤ b := (l3 _ e).1; have := Z1.2.size; have := HK9.out.size; omega), ?_, HIN.out.name, fun x hx => ?_, HIN.out.tags, ?_, ?_, HIN.out.ntg⟩
     · have hne : ∀ b off, c1 = some ⟨b, off, none⟩ → ¬ b = B := fun b off e => by have hh : b < w1.heap.size := (t3 _ e).2; have := HBB.out.1; omega
       exact (((t1.below HBW.out).kept HK9.out hne).below Z2.2).kept hkx (fun b off e => by have hh : B2 ≤ b := (t3 _ e).1; have := hne b off e; have := HT.out; omega)
     · rw [← HMLE.out] at hx
       obtain ⟨y, hy, e⟩ := movedF_mem hx; rw [e]; exact HIN.out.titles y hy
     · show (L.length : Int) ≤ _
       rw [HLL.out]; omega
     · have hm := movedF_len A.lp d (spanS L)
       have := HOK.out.nlp; rw [HMLE.out] at hm; show (ML.length : Int) ≤ _; omega)
    have HIN11 := qH (HINX.out W11 ⟨hk11.os, hk11.tape, hk11.output, hk11.size, fun k hk ho => hk11.block k hk (fun e => ho (Or.inl e))⟩); have HA11 := qH hA3; have HB11 := qH hk11; clear hA2 hA3 hk11; refine late_do (i := 7) _ rfl (by kernel_rfl) rfl (fun K hK => ?_); go_simp; refine hK _ _ (nOo rfl) ?_; clear hK K
    try simp only [pS]
    refine late_done (by kernel_rfl) ?_ _; clear y4 f4 hW11 G4 Y0 Y1 Y2 Y3 Y4 Y5 hspan; have DCK := qH (show Calls Tryz.prog 32 #[.agg #[.string A.name, .int .i64 A.sport, .int .i64 (A.start + d), .slice a' k c', .slice b2 ML.length cb2, .slice c1 A.tg.length cc1]] W11 fun e w' => e = .returned (.int .i64 (chkA ⟨A.name, A.sport, A.start + d, L, ML, A.tg⟩)) ∧ Below W11.heap.size W11 w' from by
     have h := check_any ⟨A.name, A.sport, A.start + d, L, ML, A.tg⟩ a' b2 c1 c' cb2 cc1 W11 HIN11.out; unfold ChkG actV at h; simp only [HLL.out] at h; exact h)
    have HPA := qH (show partA A l d = ⟨A.name, A.sport, A.start + d, L, ML, A.tg⟩ by unfold partA; rw [HL.out, HMLE.out]); obtain ⟨er, her⟩ : ∃ z, chkA ⟨A.name, A.sport, A.start + d, L, ML, A.tg⟩ = z := ⟨_, rfl⟩; have HER := qH her; rw [her] at DCK; clear her; have z := HA11.out.cell; obtain ⟨z0, z1, z2, z3, z4, z5⟩ := z; go_wp2_with fail; refine (DCK.out).mono ?_; rintro e W12 ⟨rfl, hb12⟩; have hA12 := HA11.out.below hb12; have HA12 := qH hA12; have HWL := qH (show Below w.heap.size w W12 from by
     have h1 := bStp (bStp HB.out HB1.out) HBW.out; have h2 : Below w.heap.size w W9 := Kept.below h1 HK9.out h1.size (fun k hk e => by have := HVB.out; omega); have h3 := bStp h2 Z2.2; exact bStp (Kept.below h3 HB11.out h3.size (fun k hk e => by have := HVB.out; omega)) hb12)
    have HR12 := qH (show AcB W12 (w.heap.size + 1) ⟨#[]⟩ 0 0 (.slice none 0 0) (.slice none 0 0) (.slice none 0 0) from by
     have hlt := HVB.out; have hne : ¬ (w.heap.size + 1 = B) := by omega
     exact ((((((HA1.out.below HB1.out).below HBW.out).kept HK9.out hne).below Z2.2).kept HB11.out hne).below hb12))
    have HK12 := qH (show Kept (fun b => b = B ∨ b = w.heap.size + 1) Z2.1 W12 from Kept.trans ⟨HB11.out.os, HB11.out.tape, HB11.out.output, HB11.out.size, fun k hk ho => HB11.out.block k hk (fun e => ho (Or.inl e))⟩ (Kept.of_below hb12)); obtain ⟨r0, r1, r2, r3, r4, r5⟩ := HR12.out.cell; have fr := HR12.out.free; clear hb12 hA12 z0 z1 z2 z3 z4 z5 DCK; by_cases h0' : er = 0
    · subst h0'
      obtain ⟨z0, z1, z2, z3, z4, z5⟩ := HA12.out.cell; obtain ⟨WF, hWF, haF, hkF⟩ := HR12.out.store A.name A.sport (A.start + d) (.slice a' k c') (.slice b2 ML.length cb2) (.slice c1 A.tg.length cc1); have HAF := qH haF; have HKF := qH hkF; clear haF hkF; go_wp2_with fail; have q := HAF.out.cell; have HBF := qH (show Below w.heap.size w WF from Kept.below HWL.out (HKF.out (fun b => b = w.heap.size + 1) rfl) HWL.out.size (fun k hk e => by omega)); refine bodyPost_ret (v := .tuple #[.agg #[.string A.name, .int .i64 A.sport, .int .i64 (A.start + d), .slice a' k c', .slice b2 ML.length cb2, .slice c1 A.tg.length cc1], .int .i64 0]) (by simp [results, Tryz.results228, go_sem, q]) rfl ⟨HBF.out, 0, by rw [HPA.out]; exact HER.out, Or.inr ⟨rfl, a', b2, c1, c', cb2, cc1, ?_, ?_, ?_⟩⟩
      · rw [HPA.out]
        unfold actV; simp only [HLL.out]
      · rw [HPA.out]
        exact HINX.out WF (HK12.out.trans (HKF.out _ (Or.inr rfl)))
      · obtain ⟨B1, B2, hB1, hB2, _, _, _, _, hot⟩ := HO3.out.ex
        have hlt := HVB.out; have hsz := HT.out; rintro g (e | e | e)
        · have := ((HO9.out.rw_ smEl).2.2 _ e).1
          omega
        · have := ((HO2.out.rw_ lpEl).2.2 _ e).1
          have := Z1.2.size; have := HK9.out.size; omega
        · have := ((hot.rw_ tgEl).2.2 _ e).1
          omega
    · have b0 : (er != 0) = true := by rw [bne_iff_ne]; exact h0'
      obtain ⟨WF, hWF, haF, hkF⟩ := HR12.out.store0; have HAF := qH haF; have HKF := qH hkF; have H0 := qH h0'; clear haF hkF h0'; go_wp2_with fail; have q := HAF.out.cell; have HBF := qH (show Below w.heap.size w WF from Kept.below HWL.out (HKF.out (fun b => b = w.heap.size + 1) rfl) HWL.out.size (fun k hk e => by omega)); refine bodyPost_ret (v := .tuple #[ac0, .int .i64 er]) (by simp [results, Tryz.results228, go_sem, q, ac0]) rfl ⟨HBF.out, er, by rw [HPA.out]; exact HER.out, Or.inl ⟨H0.out, rfl⟩⟩
theorem kin_any (n lo hi : Int) (w : World) : Calls Tryz.prog 186 #[.int .i64 n, .int .i64 lo, .int .i64 hi] w fun e w' => e = .returned (.bool (inR n lo hi)) ∧ w = w' := by
 cases h : decide (lo ≤ n)
 all_goals
  go_enter Tryz.func186, Tryz.ntmps186
  go_wp2
  go_ret; exact ⟨ret_bool (by unfold inR; simp [h]), rfl⟩
section sorted
open Go.Sort
variable {α : Type} {enc : α → List Value} {k : Nat}
variable [Inhabited α]
theorem heap_sortedK {w : World} {g n : Nat} {os : Array Obj} {cur F : Array Value} {e : TypeId} {fr : Nat × Nat} (hb : w.heap[g]? = some (.cells cur e fr)) :
 (grow (putRow id (Sort.ahead w n) g 0 F) os).heap[g]? = some (.cells (putCells id 0 F cur) e fr) := by
 have hg : g < w.heap.size := (Array.getElem?_eq_some_iff.1 hb).1; rw [heap_grow_old _ _ (by simpa using hg)]; simp [putRow, mapBlock, Sort.ahead, Array.getElem?_modify, hb, onCells]
theorem take_putCellsK (cur F : Array Value) (h : F.size ≤ cur.size) : (putCells id 0 F cur).toList.take F.size = F.toList := by
 apply List.ext_getElem?
 intro j; by_cases hj : j < F.size
 · rw [List.getElem?_take_of_lt hj, Array.getElem?_toList]
   simp [putCells, hj, show j < cur.size by omega]
 · rw [List.getElem?_take_eq_none (by omega), List.getElem?_eq_none (by simp; omega)]
end sorted
section
open Go.Sort
instance : Inhabited Sm := ⟨sm0⟩
end
end Go.Proofs.YtjnfccphodjfiaaGreat
namespace Go.Proofs.YtjnfccphodjfiaaGreat
open Go.RowKit Go.BigFrame
open Go.Sort Go.Lib
theorem putCells_map {α : Type} [Inhabited α] (enc : α → Value) (d : Array α) (c : Array Value) : putCells enc 0 d c = putCells id 0 (d.map enc) c := by
 unfold putCells
 apply Array.ext
 · simp
 · intro i h1 h2
   simp only [Array.getElem_mapIdx, Array.size_map]
   split
   · rename_i h
     have hi : i - 0 < d.size := by omega
     rw [getElem!_pos d _ hi, getElem!_pos (d.map enc) _ (by simpa using hi), Array.getElem_map]
     rfl
   · rfl
theorem putRow_map {α : Type} [Inhabited α] (enc : α → Value) (w : World) (b : Nat) (d : Array α) : putRow enc w b 0 d = putRow id w b 0 (d.map enc) := by
 unfold putRow
 congr 1
 funext c
 exact putCells_map enc d c
theorem own_put {w : World} {base g n cap : Nat} {e : TypeId} {xs : List Value} (h : w.ownsRow base e 1 (.slice (some ⟨g, 0, none⟩) n cap) n xs) (F : Array Value) (hF : F.size = n) (m : Nat) (os : Array Obj) :
 (grow (putRow id (Sort.ahead w m) g 0 F) os).ownsRow base e 1 (.slice (some ⟨g, 0, none⟩) n cap) n F.toList ∧ w.grownBy (grow (putRow id (Sort.ahead w m) g 0 F) os) (some g) := by
 refine ⟨⟨by rw [Array.length_toList, hF, Nat.mul_one], ?_⟩, ⟨rfl, rfl, rfl, by simp [size_grow], fun q hq hne => ?_⟩⟩
 · rcases h.2 with ⟨h0, _⟩ | ⟨g', cap', cur, hv, hg, hb, hn, hcap, hcs, _⟩
   · cases h0
   · injection hv with h1 h2 h3
     injection h1 with h1; injection h1 with h1; subst h1; subst h3; refine Or.inr ⟨g, cap, putCells id 0 F cur, rfl, hg, heap_sortedK hb, hn, hcap, by simp [putCells, hcs], ?_⟩; have := take_putCellsK cur F (by rw [hcs, hF]; omega); rw [hF] at this; rw [Nat.mul_one]; exact this
 · rw [heap_grow_old _ _ (by simpa using hq)]
   have : g ≠ q := fun e => hne (by rw [e])
   simp [putRow, mapBlock, Sort.ahead, Array.getElem?_modify, this]
theorem own_less {w : World} {base e k n n' cap q : Nat} {xs : List Value} (h : w.ownsRow base e k (.slice (some ⟨q, 0, none⟩) n cap) n xs) (hn : n' ≤ n) : w.ownsRow base e k (.slice (some ⟨q, 0, none⟩) n' cap) n' (xs.take (n' * k)) := by
 have hm : n' * k ≤ n * k := Nat.mul_le_mul_right _ hn; refine ⟨by rw [List.length_take, h.1]; omega, ?_⟩; rcases h.2 with ⟨h0, _⟩ | ⟨g', cap', cur, hv, hg, hb, h1, h2, h3, h4⟩
 · cases h0
 · injection hv with e1 e2 e3
   injection e1 with e1; injection e1 with e1; subst e1; subst e3; exact Or.inr ⟨q, cap, cur, rfl, hg, hb, Nat.le_trans hn h1, h2, h3, by rw [← h4, List.take_take, Nat.min_eq_left hm]⟩
def bL (s : ByteArray) : List UInt8 := s.data.toList
def lB (l : List UInt8) : ByteArray := ⟨l.toArray⟩
theorem lB_bL (s : ByteArray) : lB (bL s) = s := by cases s; simp [lB, bL]
theorem bL_inj {s t : ByteArray} (h : bL s = bL t) : s = t := by rw [← lB_bL s, ← lB_bL t, h]
theorem append_noneT {P : Program} {t e : TypeId} {i : TypeInfo} (ht : P.underlying t = some (.slice e)) (hi : P.info? e = some i) (ty : TypeId) (base : Option Addr) (l c : Nat) (hlc : l ≤ c) (a : Option Addr) (k : Nat) (w : World) :
 (Builtin.append_ #[t, t] ty #[.slice base l c, .slice a 0 k]).run P w = .ok (.slice base l c) w := by
 cases base <;> cases a <;> simp [Builtin.append_, run_underlying ht, sizeOf, typeInfo, hi, Builtin.lenOf, Builtin.firstCells, hlc, loadCells, loadCellsFrom, storeCells]
theorem append_Tgs {ops : Array Oper} {rest : List Oper} {o : Oper} {a : Act} {Q : Exit → Act → World → Prop} {w : World} (hgd : o.guard = none) (s x : Operand)
 (ho : o.op = .call { callee := .builtin .append, args := #[s, x], argTypes := #[24, 24] }) {base : Nat} {v : Value} {l : List ByteArray} (hs : a.eval s = v) (hown : Own tgC 1 9 w base v l)
 {ad : Option Addr} {m : List ByteArray} {n k : Nat} (hx : a.eval x = .slice ad n k) (hm : m.length = n) (hr : Rw tgC 1 w ad m) (hn : l.length + n ≤ 1000000) (hb : base ≤ w.heap.size)
 (h : ∀ v' w', Own tgC 1 9 w' base v' (l ++ m) → w.grownBy w' v.ownBlock → wpList Tryz.prog ops Q rest (a.put o.dst v') w') : wpList Tryz.prog ops Q (o :: rest) a w := by
 obtain ⟨i0, hi0, hy0, hy1, hy2⟩ := info_parts infoTg.out; rcases Nat.eq_zero_or_pos n with h0 | h0
 · subst h0
   have hm0 : m = [] := List.length_eq_zero_iff.1 hm; subst hm0; obtain ⟨av, cv, rfl, hlc, _, _⟩ := hown.row tgEl; refine Lib.wpList_append_run _ hgd s x _ _ ho _ _ hs hx _ _ (append_noneT underTg.out hi0 _ av l.length cv hlc ad k w) (h _ _ ?_ (grown_self _ _)); rw [List.append_nil]; exact hown
 · obtain ⟨b, off, rfl, _, _⟩ := hr.here (by omega)
   refine wpList_append_own w hgd s x 24 ho base 9 i0 (.string ⟨#[]⟩) 1 16 underTg.out hi0 hy0 hy1 hy2 rfl (by decide) v l.length (l.flatMap tgC) hs hown ⟨b, off, none⟩ n k (m.flatMap tgC) hx (by rw [tgEl.flat, hm]) (hr.flat tgEl) (tgEl.ones m) (by unfold maxLen; omega) (by omega) hb ?_; intro v' w' h1 h2 _; refine h v' w' ?_ h2; unfold Own; rw [List.length_append, List.flatMap_append, hm]; exact h1
end Go.Proofs.YtjnfccphodjfiaaGreat
namespace Go.Proofs.YtjnfccphodjfiaaGreat
open Go.RowKit Go.BigFrame
open Tr (inR)
theorem map_upto {α : Type} (f : α → α) (l : List α) (k : Nat) (x : α) (hx : l[k]? = some x) : ((l.take k).map f ++ l.drop k).set k (f x) = (l.take (k + 1)).map f ++ l.drop (k + 1) := by
 obtain ⟨hk, e⟩ := List.getElem?_eq_some_iff.1 hx; have hl : ((l.take k).map f).length = k := by rw [List.length_map, List.length_take]; omega
 rw [List.set_append_right _ _ (by rw [hl]; exact Nat.le_refl _), hl, Nat.sub_self, List.drop_eq_getElem_cons hk, List.set_cons_zero, List.take_add_one, hx, List.map_append, List.append_assoc]
 rfl
theorem at_upto {α : Type} (f : α → α) (l : List α) (k : Nat) (x : α) (hx : l[k]? = some x) : ((l.take k).map f ++ l.drop k)[k]? = some x := by
 obtain ⟨hk, e⟩ := List.getElem?_eq_some_iff.1 hx; have hl : ((l.take k).map f).length = k := by rw [List.length_map, List.length_take]; omega
 rw [List.getElem?_append_right (by rw [hl]; exact Nat.le_refl _), hl, Nat.sub_self, List.getElem?_drop]; exact hx
theorem len_upto {α : Type} (f : α → α) (l : List α) (k : Nat) (hk : k ≤ l.length) : ((l.take k).map f ++ l.drop k).length = l.length := by
 rw [List.length_append, List.length_map, List.length_take, List.length_drop]; omega
theorem Own.typed {α : Type} {C : α → List Value} {k : Nat} {e : TypeId} {w : World} {base : Nat} {v : Value} {l : List α} (h : Own C k e w base v l) {b : Nat} (hb : v.ownBlock = some b) : ∃ cs fz, w.heap[b]? = some (.cells cs e fz) := by
 rcases h.2 with ⟨h0, _⟩ | ⟨g, cap, cur, hv, _, hg, _⟩
 · rw [h0] at hb
   cases hb
 · rw [hv] at hb
   injection hb with hb; subst hb; exact ⟨_, _, hg⟩
theorem AcB.ne' {w : World} {g : Nat} {nm : ByteArray} {sp st : Int} {vs vl vt : Value} (h : AcB w g nm sp st vs vl vt) {α : Type} {C : α → List Value} {k : Nat} {e : TypeId} {base : Nat} {v : Value} {l : List α} (ho : Own C k e w base v l) (he : e ≠ 26) : ∀ b, v.ownBlock = some b → b ≠ g := fun b hb hbg => by
 subst hbg; obtain ⟨cs', fz', h1⟩ := ho.typed hb; unfold AcB at h; rw [h] at h1; injection h1 with h1; injection h1 with _ h1 _; exact he h1.symm
theorem tg_sorted {l : List ByteArray} (h : TgOk l) : l.Pairwise (fun x y => bL x < bL y) := by
 have h1 : ∀ i p s, l[i]? = some p → l[i + 1]? = some s → bL p < bL s := fun i p s hp hs => by
  have := h.next i p s hp hs; rw [ByteArray.toList_eq, ByteArray.toList_eq, bytesLess_eq, decide_eq_true_eq] at this; exact this
 have h2 : ∀ d i p s, l[i]? = some p → l[i + d + 1]? = some s → bL p < bL s := by
  intro d
  induction d with
  | zero => exact fun i p s hp hs => h1 i p s hp hs
  | succ d ih =>
   intro i p s hp hs; obtain ⟨t, ht⟩ : ∃ t, l[i + d + 1]? = some t := ⟨_, List.getElem?_eq_getElem (by have := (List.getElem?_eq_some_iff.1 hs).1; omega)⟩; exact List.lt_trans (ih i p t hp ht) (h1 _ t s ht hs)
 rw [List.pairwise_iff_getElem]; intro i j hi hj hij; exact h2 (j - i - 1) i _ _ (List.getElem?_eq_getElem hi) (by rw [show i + (j - i - 1) + 1 = j by omega]; exact List.getElem?_eq_getElem hj)
theorem bL_irr (x : ByteArray) : ¬ bL x < bL x := List.lt_irrefl _
def mergeT : List ByteArray → List ByteArray → List ByteArray
 | [], [] => []
 | a :: as_, [] => a :: mergeT as_ []
 | [], b :: bs => b :: mergeT [] bs
 | a :: as_, b :: bs => if Op.bytesLess (bL a) (bL b) = true then a :: mergeT as_ (b :: bs) else if a = b then b :: mergeT as_ bs else b :: mergeT (a :: as_) bs
termination_by as_ bs => as_.length + bs.length
theorem mergeT_mem : ∀ (n : Nat) (xs ys : List ByteArray), xs.length + ys.length = n → ∀ s, s ∈ mergeT xs ys ↔ s ∈ xs ∨ s ∈ ys := by
 intro n
 induction n using Nat.strongRecOn with
 | ind n ih =>
  intro xs ys hn s
  match xs, ys with
  | [], [] => rw [mergeT]; simp
  | x :: xs, [] =>
   rw [mergeT, List.mem_cons, ih (xs.length + 0) (by simp at hn; omega) xs [] rfl]; simp
  | [], y :: ys =>
   rw [mergeT, List.mem_cons, ih (0 + ys.length) (by simp at hn; omega) [] ys (by simp)]; simp
  | x :: xs, y :: ys =>
   simp only [List.length_cons] at hn; rw [mergeT]; by_cases h1 : Op.bytesLess (bL x) (bL y) = true
   · rw [if_pos h1, List.mem_cons, ih (xs.length + (y :: ys).length) (by simp; omega) xs (y :: ys) rfl]
     simp only [List.mem_cons]
     constructor
     · rintro (h | h | h) <;> simp [h]
     · rintro ((h | h) | h) <;> simp [h]
   · by_cases h2 : x = y
     · subst h2
       rw [if_neg h1, if_pos rfl, List.mem_cons, ih (xs.length + ys.length) (by omega) xs ys rfl]; simp only [List.mem_cons]
       constructor
       · rintro (h | h | h) <;> simp [h]
       · rintro ((h | h) | (h | h)) <;> simp [h]
     · rw [if_neg h1, if_neg h2, List.mem_cons, ih ((x :: xs).length + ys.length) (by simp; omega) (x :: xs) ys rfl]
       simp only [List.mem_cons]
       constructor
       · rintro (h | (h | h) | h) <;> simp [h]
       · rintro ((h | h) | (h | h)) <;> simp [h]
set_option maxHeartbeats 8000000
set_option maxRecDepth 100000
theorem append_Sms {ops : Array Oper} {rest : List Oper} {o : Oper} {a : Act} {Q : Exit → Act → World → Prop} {w : World} (hgd : o.guard = none) (s x : Operand)
 (ho : o.op = .call { callee := .builtin .append, args := #[s, x], argTypes := #[22, 22] }) {base : Nat} {v : Value} {l : List Sm} (hs : a.eval s = v) (hown : Own smC 7 72 w base v l)
 {ad : Option Addr} {m : List Sm} {n k : Nat} (hx : a.eval x = .slice ad n k) (hm : m.length = n) (hr : Rw smC 7 w ad m) (hn : l.length + n ≤ 1000000) (hb : base ≤ w.heap.size)
 (h : ∀ v' w', Own smC 7 72 w' base v' (l ++ m) → w.grownBy w' v.ownBlock → wpList Tryz.prog ops Q rest (a.put o.dst v') w') : wpList Tryz.prog ops Q (o :: rest) a w := by
 obtain ⟨i0, hi0, hy0, hy1, hy2⟩ := info_parts infoSm.out; rcases Nat.eq_zero_or_pos n with h0 | h0
 · subst h0
   have hm0 : m = [] := List.length_eq_zero_iff.1 hm; subst hm0; obtain ⟨av, cv, rfl, hlc, _, _⟩ := hown.row smEl; refine Lib.wpList_append_run _ hgd s x _ _ ho _ _ hs hx _ _ (append_noneT underSm.out hi0 _ av l.length cv hlc ad k w) (h _ _ ?_ (grown_self _ _)); rw [List.append_nil]; exact hown
 · obtain ⟨b, off, rfl, _, _⟩ := hr.here (by omega)
   refine wpList_append_own w hgd s x 22 ho base 72 i0 (.agg #[.int .i64 0, .int .i64 0, .int .i64 0, .int .i64 0, .int .i64 0, .int .i64 0, .int .i64 0]) 7 56 underSm.out hi0 hy0 hy1 hy2 rfl (by decide) v l.length (l.flatMap smC) hs hown ⟨b, off, none⟩ n k (m.flatMap smC) hx (by rw [smEl.flat, hm]) (hr.flat smEl) (smEl.ones m) (by unfold maxLen; omega) (by omega) hb ?_; intro v' w' h1 h2 _; refine h v' w' ?_ h2; unfold Own; rw [List.length_append, List.flatMap_append, hm]; exact h1
theorem append_Lps {ops : Array Oper} {rest : List Oper} {o : Oper} {a : Act} {Q : Exit → Act → World → Prop} {w : World} (hgd : o.guard = none) (s x : Operand)
 (ho : o.op = .call { callee := .builtin .append, args := #[s, x], argTypes := #[23, 23] }) {base : Nat} {v : Value} {l : List Lp} (hs : a.eval s = v) (hown : Own lpC 3 75 w base v l)
 {ad : Option Addr} {m : List Lp} {n k : Nat} (hx : a.eval x = .slice ad n k) (hm : m.length = n) (hr : Rw lpC 3 w ad m) (hn : l.length + n ≤ 1000000) (hb : base ≤ w.heap.size)
 (h : ∀ v' w', Own lpC 3 75 w' base v' (l ++ m) → w.grownBy w' v.ownBlock → wpList Tryz.prog ops Q rest (a.put o.dst v') w') : wpList Tryz.prog ops Q (o :: rest) a w := by
 obtain ⟨i0, hi0, hy0, hy1, hy2⟩ := info_parts infoLp.out; rcases Nat.eq_zero_or_pos n with h0 | h0
 · subst h0
   have hm0 : m = [] := List.length_eq_zero_iff.1 hm; subst hm0; obtain ⟨av, cv, rfl, hlc, _, _⟩ := hown.row lpEl; refine Lib.wpList_append_run _ hgd s x _ _ ho _ _ hs hx _ _ (append_noneT underLp.out hi0 _ av l.length cv hlc ad k w) (h _ _ ?_ (grown_self _ _)); rw [List.append_nil]; exact hown
 · obtain ⟨b, off, rfl, _, _⟩ := hr.here (by omega)
   refine wpList_append_own w hgd s x 23 ho base 75 i0 (.agg #[.int .i64 0, .int .i64 0, .string ⟨#[]⟩]) 3 32 underLp.out hi0 hy0 hy1 hy2 rfl (by decide) v l.length (l.flatMap lpC) hs hown ⟨b, off, none⟩ n k (m.flatMap lpC) hx (by rw [lpEl.flat, hm]) (hr.flat lpEl) (lpEl.ones m) (by unfold maxLen; omega) (by omega) hb ?_; intro v' w' h1 h2 _; refine h v' w' ?_ h2; unfold Own; rw [List.length_append, List.flatMap_append, hm]; exact h1
theorem rcopied_any (A : Acv) (a b c : Option Addr) (ca cb cc : Nat) (w : World) (h : ActIn w A a b c) (h1 : A.sm.length ≤ 20000) (h2 : A.lp.length ≤ 1000) (h3 : A.tg.length ≤ 1000) :
 Calls Tryz.prog 48 #[actV A a b c ca cb cc] w fun e w' => CloneRet A w e w' := by
 unfold CloneRet actV; obtain ⟨V0, hV0, hb0, hs0, ha0⟩ := alloc_aA w A a b c ca cb cc; obtain ⟨V1, hV1, hb1, hs1, ha1⟩ := alloc_a0 V0; rw [hs0] at ha1; have HB := qH (bStp hb0 hb1); have HS := qH (show V1.heap.size = w.heap.size + 2 from by omega); have HA0 := qH (ha0.below hb1); have HA1 := qH ha1; have HIN := qH (h.below HB.out); obtain ⟨g0, g1, g2, g3, g4, g5⟩ := (ha0.below hb1).cell; have HIW := qH h; clear h hb0 hb1 ha0 ha1 hs1 g0 g1 g2; obtain ⟨ns, hns⟩ : ∃ n, A.sm.length = n := ⟨_, rfl⟩; obtain ⟨nl, hnl⟩ : ∃ n, A.lp.length = n := ⟨_, rfl⟩; obtain ⟨nt, hnt⟩ : ∃ n, A.tg.length = n := ⟨_, rfl⟩; have HNS := qH hns; have HNL := qH hnl; have HNT := qH hnt; rw [hns] at h1 hV0 g3 HA0 ⊢; rw [hnl] at h2 hV0 g4 HA0 ⊢; rw [hnt] at h3 hV0 g5 HA0 ⊢; clear hns hnl hnt; go_enter Tryz.func48, Tryz.ntmps48; go_upto_region 1 with (fail); clear hV0 hV1; go_upto_region 2 with (at_builtin; refine append_Sms (l := []) (base := V1.heap.size) rfl _ _ rfl rfl (Own.nil _ _ _ _ _) rfl HNS.out HIN.out.sm (by show 0 + ns ≤ _; omega) (Nat.le_refl _) (fun v1 w1 ho1 hg1 => ?_); have hb1 : Below V1.heap.size V1 w1 := Kept.below (O := fun _ => False) (Below.refl _ _) (Kept.of_grown hg1 (fun g e _ => by cases e)) (Nat.le_refl _) (fun k hk e => e.elim); rw [List.nil_append] at ho1; have HO1 := qH ho1; obtain ⟨a1, c1, rfl, _, _, _⟩ := ho1.row smEl; rw [HNS.out]; have hA1 := HA0.out.below hb1; have j1 := hA1.cell.2.2.2.1; have f1 := hA1.free 3; have hB1 := hA1.set3 (.slice a1 ns c1); obtain ⟨W1, hW1⟩ : ∃ W, w1.setCell ⟨w.heap.size, 3, none⟩ (.slice a1 ns c1) = W := ⟨_, rfl⟩; rw [hW1] at hB1; have HAC1 := qH hB1; have HBL1 := qH hb1; have HK1 := qH (show Kept (fun b => b = w.heap.size) w1 W1 from by rw [← hW1]; exact keep_set (O := fun b => b = w.heap.size) rfl); obtain ⟨x10, x11, x12, x13, x14, x15⟩ := hB1.cell; clear hA1 hB1 hg1 ho1 hb1); have HE1 := qH (show Below w.heap.size w W1 from Kept.below (O := fun b => b = w.heap.size) (bStp HB.out HBL1.out) HK1.out (bStp HB.out HBL1.out).size (fun k hk e => by omega)); have hbx := HAC1.out.lt; clear g3 g4 g5; go_upto_region 3 with (at_builtin; refine append_Lps (l := []) (base := W1.heap.size) rfl _ _ rfl rfl (Own.nil _ _ _ _ _) rfl HNL.out (HIW.out.lp.below HE1.out) (by show 0 + nl ≤ _; omega) (Nat.le_refl _) (fun v2 w2 ho2 hg2 => ?_); have hb2 : Below W1.heap.size W1 w2 := Kept.below (O := fun _ => False) (Below.refl _ _) (Kept.of_grown hg2 (fun g e _ => by cases e)) (Nat.le_refl _) (fun k hk e => e.elim); rw [List.nil_append] at ho2; have HO2 := qH ho2; obtain ⟨a2, c2, rfl, _, _, _⟩ := ho2.row lpEl; rw [HNL.out]; have hA2 := HAC1.out.below hb2; have j2 := hA2.cell.2.2.2.2.1; have f2 := hA2.free 4; have hB2 := hA2.set4 (.slice a2 nl c2); obtain ⟨W2, hW2⟩ : ∃ W, w2.setCell ⟨w.heap.size, 4, none⟩ (.slice a2 nl c2) = W := ⟨_, rfl⟩; rw [hW2] at hB2; have HAC2 := qH hB2; have HBL2 := qH hb2; have HK2 := qH (show Kept (fun b => b = w.heap.size) w2 W2 from by rw [← hW2]; exact keep_set (O := fun b => b = w.heap.size) rfl); obtain ⟨x20, x21, x22, x23, x24, x25⟩ := hB2.cell; clear hA2 hB2 hg2 ho2 hb2); have HE2 := qH (show Below w.heap.size w W2 from Kept.below (O := fun b => b = w.heap.size) (bStp HE1.out HBL2.out) HK2.out (bStp HE1.out HBL2.out).size (fun k hk e => by omega)); clear x10 x11 x12 x13 x15; go_upto_region 4 with (at_builtin; refine append_Tgs (l := []) (base := W2.heap.size) rfl _ _ rfl rfl (Own.nil _ _ _ _ _) rfl HNT.out (HIW.out.tg.below HE2.out) (by show 0 + nt ≤ _; omega) (Nat.le_refl _) (fun v3 w3 ho3 hg3 => ?_); have hb3 : Below W2.heap.size W2 w3 := Kept.below (O := fun _ => False) (Below.refl _ _) (Kept.of_grown hg3 (fun g e _ => by cases e)) (Nat.le_refl _) (fun k hk e => e.elim); rw [List.nil_append] at ho3; have HO3 := qH ho3; obtain ⟨a3, c3, rfl, _, _, _⟩ := ho3.row tgEl; rw [HNT.out]; have hA3 := HAC2.out.below hb3; have j3 := hA3.cell.2.2.2.2.2; have f3 := hA3.free 5; have hB3 := hA3.set5 (.slice a3 nt c3); obtain ⟨W3, hW3⟩ : ∃ W, w3.setCell ⟨w.heap.size, 5, none⟩ (.slice a3 nt c3) = W := ⟨_, rfl⟩; rw [hW3] at hB3; have HAC3 := qH hB3; have HBL3 := qH hb3; have HK3 := qH (show Kept (fun b => b = w.heap.size) w3 W3 from by rw [← hW3]; exact keep_set (O := fun b => b = w.heap.size) rfl); obtain ⟨x30, x31, x32, x33, x34, x35⟩ := hB3.cell; clear hA3 hB3 hg3 ho3 hb3)
 have HE3 := qH (show Below w.heap.size w W3 from Kept.below (O := fun b => b = w.heap.size) (bStp HE2.out HBL3.out) HK3.out (bStp HE2.out HBL3.out).size (fun k hk e => by omega)); have HR3 := qH (((((((HA1.out.below HBL1.out).kept HK1.out (by omega)).below HBL2.out).kept HK2.out (by omega)).below HBL3.out).kept HK3.out (by omega))); obtain ⟨r0, r1, r2, r3, r4, r5⟩ := HR3.out.cell; have fr := HR3.out.free; obtain ⟨WF, hWF, haF, hkF⟩ := HR3.out.store A.name A.sport A.start (.slice a1 ns c1) (.slice a2 nl c2) (.slice a3 nt c3); have HAF := qH haF; have hlt3 := HR3.out.lt; have HBF := qH (show Below w.heap.size w WF from Kept.below HE3.out (hkF (fun b => b = w.heap.size + 1) rfl) HE3.out.size (fun k hk e => by omega)); have hkWF : Kept (fun b => b = w.heap.size + 1) W3 WF := hkF (fun b => b = w.heap.size + 1) rfl; have HOF := qH (show Own3 WF w.heap.size A (.slice a1 ns c1) (.slice a2 nl c2) (.slice a3 nt c3) from by
  have h1 := HO1.out; have h2 := HO2.out; have h3 := HO3.out; rw [HNS.out] at h1; rw [HNL.out] at h2; rw [HNT.out] at h3; have s1 := HB.out.size; have s2 := HS.out; have s3 := HBL1.out.size; have s4 := HK1.out.size; have s5 := HBL2.out.size; have s6 := HK2.out.size; have s7 := HBL3.out.size; refine ⟨W1.heap.size, W2.heap.size, by omega, by omega, ?_, fun b e => ?_, ?_, fun b e => ?_, ?_⟩
  · have hb : ∀ g, (Value.slice a1 ns c1).ownBlock = some g → g ≠ w.heap.size ∧ g ≠ w.heap.size + 1 := fun g e => by
     have := (h1.lt g e).1; omega
    have k1 := h1.keepO HK1.out (fun g e h => (hb g e).1 h); have k2 := (k1.below HBL2.out).keepO HK2.out (fun g e h => (hb g e).1 h); have k3 := (k2.below HBL3.out).keepO HK3.out (fun g e h => (hb g e).1 h); exact (k3.keepO hkWF (fun g e h => (hb g e).2 h)).weaken (by omega)
  · have := (h1.lt b e).2
    omega
  · have hb : ∀ g, (Value.slice a2 nl c2).ownBlock = some g → g ≠ w.heap.size ∧ g ≠ w.heap.size + 1 := fun g e => by
     have := (h2.lt g e).1; omega
    have k2 := h2.keepO HK2.out (fun g e h => (hb g e).1 h); have k3 := (k2.below HBL3.out).keepO HK3.out (fun g e h => (hb g e).1 h); exact k3.keepO hkWF (fun g e h => (hb g e).2 h)
  · have := (h2.lt b e).2
    omega
  · have hb : ∀ g, (Value.slice a3 nt c3).ownBlock = some g → g ≠ w.heap.size ∧ g ≠ w.heap.size + 1 := fun g e => by
     have := (h3.lt g e).1; omega
    have k3 := h3.keepO HK3.out (fun g e h => (hb g e).1 h); exact k3.keepO hkWF (fun g e h => (hb g e).2 h))
 clear haF hkF hkWF; go_wp2_with fail; have q := HAF.out.cell; exact bodyPost_ret (v := .agg #[.string A.name, .int .i64 A.sport, .int .i64 A.start, .slice a1 ns c1, .slice a2 nl c2, .slice a3 nt c3]) (by simp [results, Tryz.results48, go_sem, q]) rfl (by exact ⟨⟨a1, a2, a3, c1, c2, c3, rfl, HOF.out⟩, HBF.out⟩)
theorem Rw.tail {α : Type} {C : α → List Value} {k : Nat} {w : World} {b o : Nat} {x : α} {l : List α} (h : Rw C k w (some ⟨b, o, none⟩) (x :: l)) : Rw C k w (some ⟨b, o + k, none⟩) l :=
 ⟨fun _ => by
  obtain ⟨b', o', e, hb, hc⟩ := h.here (by simp); injection e with e; injection e with e1 e2; subst e1 e2; exact ⟨b, o + k, rfl, hb, fun i y hy j v hv => by
   have := hc (i + 1) y (by simpa using hy) j v hv; rw [Nat.succ_mul] at this; rw [show o + k + i * k + j = o + (i * k + k) + j by omega]; exact this⟩⟩
theorem Rw.head {α : Type} {C : α → List Value} {k : Nat} {w : World} {a : Option Addr} {x : α} {l : List α} (h : Rw C k w a (x :: l)) : ∃ b o, a = some ⟨b, o, none⟩ ∧ b < w.heap.size ∧ ∀ j v, (C x)[j]? = some v → w.cell? ⟨b, o + j, none⟩ = some v := by
 obtain ⟨b, o, e, hb, hc⟩ := h.here (by simp); exact ⟨b, o, e, hb, fun j v hv => by have := hc 0 x rfl j v hv; rw [Nat.zero_mul, Nat.add_zero] at this; exact this⟩
theorem Rw.step {α : Type} {C : α → List Value} {k : Nat} {w : World} {b o cx : Nat} {x : α} {l : List α} (h : Rw C k w (some ⟨b, o, none⟩) (x :: l)) (hc : l.length + 1 ≤ cx) : Rw C k w (if cx = 1 then some ⟨b, o, none⟩ else some ⟨b, o + k, none⟩) l := by
 by_cases e : cx = 1
 · rw [if_pos e]
   have : l = [] := List.length_eq_zero_iff.1 (by omega); subst this; exact ⟨fun h => absurd h (by simp)⟩
 · rw [if_neg e]
   exact h.tail
theorem one_row (s : ByteArray) (g : Nat) (w : World) (hg : g < w.heap.size) (h : w.cell? ⟨g, 0, none⟩ = some (.string s)) : Rw tgC 1 w (some ⟨g, 0, none⟩) [s] :=
 ⟨fun _ => ⟨g, 0, rfl, hg, fun i y hy j v hv => by
  match i, hy with
  | 0, hy =>
   injection hy with hy; subst hy
   match j, hv with
   | 0, hv => injection hv with hv; subst hv; exact h
   | n + 1, hv => cases hv
  | n + 1, hy => cases hy⟩⟩
def lenV : Value → Nat
 | .slice _ n _ => n
 | _ => 0
theorem rTags_any (as_ bs : List ByteArray) (a b : Option Addr) (ca cb : Nat) (w : World) (ha : Rw tgC 1 w a as_) (hb : Rw tgC 1 w b bs) (h1 : as_.length ≤ 1000) (h2 : bs.length ≤ 1000) (h3 : as_.length ≤ ca) (h4 : bs.length ≤ cb) :
 Calls Tryz.prog 56 #[.slice a as_.length ca, .slice b bs.length cb] w fun e w' => ∃ v, e = .returned v ∧ Own tgC 1 9 w' w.heap.size v (mergeT as_ bs) ∧ Below w.heap.size w w' := by
 obtain ⟨R, hR⟩ : ∃ R, mergeT as_ bs = R := ⟨_, rfl⟩; rw [hR]; have HR := qH hR; have HA := qH ha; have HB := qH hb; clear hR ha hb; go_enter Tryz.func56, Tryz.ntmps56; go_wp2_with fail
 go_loopw [0, 1, 5] (fun xv yv ov wr => ∃ (xs ys O : List ByteArray) (ax ay : Option Addr) (cx cy : Nat), xv = .slice ax xs.length cx ∧ yv = .slice ay ys.length cy ∧ xs.length ≤ cx ∧ ys.length ≤ cy ∧ O.length + xs.length + ys.length ≤ 2000 ∧ Hid (Rw tgC 1 w ax xs) ∧ Hid (Rw tgC 1 w ay ys) ∧ Hid (Own tgC 1 9 wr w.heap.size ov O) ∧ Hid (O ++ mergeT xs ys = R) ∧ ∃ X : Ext w, wr = X.1) (fun xv yv _ _ => lenV xv + lenV yv)
 case atStart => exact ⟨as_, bs, [], a, b, ca, cb, rfl, rfl, h3, h4, by simp; omega, HA, HB, qH (Own.nil _ _ _ _ _), qH (by rw [List.nil_append]; exact HR.out), ⟨w, Below.refl _ _⟩, rfl⟩
 case round =>
  clear HR HA HB h1 h2 h3 h4; obtain ⟨xs, ys, O, ax, ay, cx, cy, rfl, rfl, hcx, hcy, hlen, HX, HY, HO, HE, X, rfl⟩ := hrel
  match xs, ys with
  | [], [] =>
   have hown := HO.out; have he := HE.out; rw [mergeT, List.append_nil] at he; subst he; have HO2 := qH hown; obtain ⟨av, cv, rfl, _, _, _⟩ := hown.row tgEl; clear hown HE HO; simp only [List.length_nil] at *; go_wp2_with fail; go_ret; exact ⟨_, rfl, HO2.out, X.2⟩
  | x :: xs, [] =>
   obtain ⟨gx, ox, rfl, hbx, hcx0⟩ := (HX.out).head; have x0 : ∀ Z : Ext X.1, Z.1.cell? ⟨gx, ox, none⟩ = some (.string x) := Ext.ex (bCel X.2 (hcx0 0 _ rfl)); have HE2 := qH (show (O ++ [x]) ++ mergeT xs [] = R from by
    have he := HE.out; rw [mergeT] at he; rw [List.append_assoc]; exact he)
   obtain ⟨nx, hnx⟩ : ∃ n, xs.length = n := ⟨_, rfl⟩; rw [List.length_cons, hnx] at hcx hlen ⊢; have HNx := qH hnx; have px1 : decide ((0 : Int) < ((nx + 1 : Nat) : Int)) = true := dTt (by omega); have px2 : decide ((0 : Int) < (nx : Int) + 1) = true := dTt (by omega); have px3 : (((nx + 1 : Nat) : Int) == 0) = false := by simp; omega
   have px4 : (((nx : Int) + 1) == 0) = false := by simp; omega
   have HTx := qH (show Rw tgC 1 w (if cx = 1 then some ⟨gx, ox, none⟩ else some ⟨gx, ox + 1, none⟩) xs from HX.out.step (by omega)); rw [List.length_nil] at hcy hlen ⊢; have hol : O.length ≤ 2000 := by omega
   clear hcx0 hbx HX HE hnx; go_wp2_with fail; refine wp_region_ext (W := X.1) ⟨X.1, Below.refl _ _⟩ (by kernel_rfl) (by kernel_rfl) ?_
   repeat go_big_quiet_step (fail)
   refine wpQuiet_nil ?_; rintro _ ⟨Y, rfl⟩; obtain ⟨V7, hV7, hb7, hs7, hl7⟩ := alloc_cells Y.1 #[.string x] 9; have HR7 := qH (one_row x Y.1.heap.size V7 (by omega) (hl7 0 _ rfl)); have HO7 := qH ((HO.out.below Y.2).below hb7); have H7 := qH (bStp (bStp X.2 Y.2) hb7); clear hb7 hs7 hl7 HO; go_wp2_with (at_builtin; refine append_Tgs rfl _ _ rfl rfl HO7.out rfl (m := [x]) rfl HR7.out (by omega) H7.out.size (fun v8 w8 ho8 hg8 => ?_)); have HO8 := qH ho8; have H8 := qH (Kept.below (O := fun b => w.heap.size ≤ b) H7.out (Kept.of_grown hg8 (fun g e _ => (HO7.out.lt g e).1)) H7.out.size (fun k hk e => by omega)); clear ho8 hg8 hV7; exact ⟨⟨xs, [], O ++ [x], _, ay, cx - 1, cy, by rw [HNx.out], rfl, by rw [HNx.out]; omega, hcy, by rw [HNx.out, List.length_append]; show O.length + 1 + nx + 0 ≤ _; omega, HTx, HY, HO8, HE2, ⟨w8, H8.out⟩, rfl⟩, by show nx + 0 < nx + 1 + 0; omega⟩
  | [], y :: ys =>
   obtain ⟨gy, oy, rfl, hby, hcy0⟩ := (HY.out).head; have y0 : ∀ Z : Ext X.1, Z.1.cell? ⟨gy, oy, none⟩ = some (.string y) := Ext.ex (bCel X.2 (hcy0 0 _ rfl)); have HE2 := qH (show (O ++ [y]) ++ mergeT [] ys = R from by
    have he := HE.out; rw [mergeT] at he; rw [List.append_assoc]; exact he)
   obtain ⟨ny, hny⟩ : ∃ n, ys.length = n := ⟨_, rfl⟩; rw [List.length_cons, hny] at hcy hlen ⊢; have HNy := qH hny; have py1 : decide ((0 : Int) < ((ny + 1 : Nat) : Int)) = true := dTt (by omega); have py2 : decide ((0 : Int) < (ny : Int) + 1) = true := dTt (by omega); have py3 : (((ny + 1 : Nat) : Int) == 0) = false := by simp; omega
   have py4 : (((ny : Int) + 1) == 0) = false := by simp; omega
   have HTy := qH (show Rw tgC 1 w (if cy = 1 then some ⟨gy, oy, none⟩ else some ⟨gy, oy + 1, none⟩) ys from HY.out.step (by omega)); rw [List.length_nil] at hcx hlen ⊢; have hol : O.length ≤ 2000 := by omega
   clear hcy0 hby HY HE hny; go_wp2_with fail; refine wp_region_ext (W := X.1) ⟨X.1, Below.refl _ _⟩ (by kernel_rfl) (by kernel_rfl) ?_
   repeat go_big_quiet_step (fail)
   refine wpQuiet_nil ?_; rintro _ ⟨Y, rfl⟩; go_wp2_with fail; refine wp_region_ext (W := X.1) Y (by kernel_rfl) (by kernel_rfl) ?_
   repeat go_big_quiet_step (fail)
   refine wpQuiet_nil ?_; rintro _ ⟨Y2, rfl⟩; obtain ⟨V7, hV7, hb7, hs7, hl7⟩ := alloc_cells Y2.1 #[.string y] 9; have HR7 := qH (one_row y Y2.1.heap.size V7 (by omega) (hl7 0 _ rfl)); have HO7 := qH ((HO.out.below Y2.2).below hb7); have H7 := qH (bStp (bStp X.2 Y2.2) hb7); clear hb7 hs7 hl7 HO; go_wp2_with (at_builtin; refine append_Tgs rfl _ _ rfl rfl HO7.out rfl (m := [y]) rfl HR7.out (by omega) H7.out.size (fun v8 w8 ho8 hg8 => ?_)); have HO8 := qH ho8; have H8 := qH (Kept.below (O := fun b => w.heap.size ≤ b) H7.out (Kept.of_grown hg8 (fun g e _ => (HO7.out.lt g e).1)) H7.out.size (fun k hk e => by omega)); clear ho8 hg8 hV7; exact ⟨⟨[], ys, O ++ [y], ax, _, cx, cy - 1, rfl, by rw [HNy.out], hcx, by rw [HNy.out]; omega, by rw [HNy.out, List.length_append]; show O.length + 1 + 0 + ny ≤ _; omega, HX, HTy, HO8, HE2, ⟨w8, H8.out⟩, rfl⟩, by show 0 + ny < 0 + (ny + 1); omega⟩
  | x :: xs, y :: ys =>
   obtain ⟨gx, ox, rfl, hbx, hcx0⟩ := (HX.out).head; have x0 : ∀ Z : Ext X.1, Z.1.cell? ⟨gx, ox, none⟩ = some (.string x) := Ext.ex (bCel X.2 (hcx0 0 _ rfl)); obtain ⟨gy, oy, rfl, hby, hcy0⟩ := (HY.out).head; have y0 : ∀ Z : Ext X.1, Z.1.cell? ⟨gy, oy, none⟩ = some (.string y) := Ext.ex (bCel X.2 (hcy0 0 _ rfl)); have he := HE.out; rw [mergeT] at he; clear HE; obtain ⟨nx, hnx⟩ : ∃ n, xs.length = n := ⟨_, rfl⟩; rw [List.length_cons, hnx] at hcx hlen ⊢; have HNx := qH hnx; have px1 : decide ((0 : Int) < ((nx + 1 : Nat) : Int)) = true := dTt (by omega); have px2 : decide ((0 : Int) < (nx : Int) + 1) = true := dTt (by omega); have px3 : (((nx + 1 : Nat) : Int) == 0) = false := by simp; omega
   have px4 : (((nx : Int) + 1) == 0) = false := by simp; omega
   have HTx := qH (show Rw tgC 1 w (if cx = 1 then some ⟨gx, ox, none⟩ else some ⟨gx, ox + 1, none⟩) xs from HX.out.step (by omega)); obtain ⟨ny, hny⟩ : ∃ n, ys.length = n := ⟨_, rfl⟩; rw [List.length_cons, hny] at hcy hlen ⊢; have HNy := qH hny; have py1 : decide ((0 : Int) < ((ny + 1 : Nat) : Int)) = true := dTt (by omega); have py2 : decide ((0 : Int) < (ny : Int) + 1) = true := dTt (by omega); have py3 : (((ny + 1 : Nat) : Int) == 0) = false := by simp; omega
   have py4 : (((ny : Int) + 1) == 0) = false := by simp; omega
   have HTy := qH (show Rw tgC 1 w (if cy = 1 then some ⟨gy, oy, none⟩ else some ⟨gy, oy + 1, none⟩) ys from HY.out.step (by omega)); have hol : O.length ≤ 2000 := by omega
   have HXA := qH HX.out; have HYA := qH HY.out; clear hcx0 hbx HX hcy0 hby HY; by_cases hlt : Op.bytesLess (bL x) (bL y) = true
   · have HE2 := qH (show (O ++ [x]) ++ mergeT xs (y :: ys) = R from by
      rw [if_pos hlt] at he; rw [List.append_assoc]; exact he)
     have q1 : Op.bytesLess x.toList y.toList = true := by rw [ByteArray.toList_eq, ByteArray.toList_eq]; exact hlt
     clear he hlt hnx hny; go_wp2_with fail; refine wp_region_ext (W := X.1) ⟨X.1, Below.refl _ _⟩ (by kernel_rfl) (by kernel_rfl) ?_
     repeat go_big_quiet_step (fail)
     refine wpQuiet_nil ?_; rintro _ ⟨Y, rfl⟩; obtain ⟨V7, hV7, hb7, hs7, hl7⟩ := alloc_cells Y.1 #[.string x] 9; have HR7 := qH (one_row x Y.1.heap.size V7 (by omega) (hl7 0 _ rfl)); have HO7 := qH ((HO.out.below Y.2).below hb7); have H7 := qH (bStp (bStp X.2 Y.2) hb7); clear hb7 hs7 hl7 HO; go_wp2_with (at_builtin; refine append_Tgs rfl _ _ rfl rfl HO7.out rfl (m := [x]) rfl HR7.out (by omega) H7.out.size (fun v8 w8 ho8 hg8 => ?_)); have HO8 := qH ho8; have H8 := qH (Kept.below (O := fun b => w.heap.size ≤ b) H7.out (Kept.of_grown hg8 (fun g e _ => (HO7.out.lt g e).1)) H7.out.size (fun k hk e => by omega)); clear ho8 hg8 hV7; exact ⟨⟨xs, y :: ys, O ++ [x], _, _, cx - 1, cy, by rw [HNx.out], by rw [List.length_cons, HNy.out], by rw [HNx.out]; omega, by rw [List.length_cons, HNy.out]; omega, by rw [List.length_cons, HNx.out, HNy.out, List.length_append]; show O.length + 1 + nx + (ny + 1) ≤ _; omega, HTx, HYA, HO8, HE2, ⟨w8, H8.out⟩, rfl⟩, by show nx + (ny + 1) < nx + 1 + (ny + 1); omega⟩
   · have q1 : Op.bytesLess x.toList y.toList = false := by
      rw [ByteArray.toList_eq, ByteArray.toList_eq]
      cases h : Op.bytesLess x.data.toList y.data.toList with
      | false => rfl
      | true => exact absurd h hlt
     rw [if_neg hlt] at he; by_cases heq : x = y
     · have HE2 := qH (show (O ++ [y]) ++ mergeT xs ys = R from by
        rw [if_pos heq] at he; rw [List.append_assoc]; exact he)
       have q2 : (x.toList == y.toList) = true := by rw [heq]; simp
       clear he hlt heq hnx hny; go_wp2_with fail; refine wp_region_ext (W := X.1) ⟨X.1, Below.refl _ _⟩ (by kernel_rfl) (by kernel_rfl) ?_
       repeat go_big_quiet_step (fail)
       refine wpQuiet_nil ?_; rintro _ ⟨Y, rfl⟩; go_wp2_with fail; refine wp_region_ext (W := X.1) Y (by kernel_rfl) (by kernel_rfl) ?_
       repeat go_big_quiet_step (fail)
       refine wpQuiet_nil ?_; rintro _ ⟨Y2, rfl⟩; obtain ⟨V7, hV7, hb7, hs7, hl7⟩ := alloc_cells Y2.1 #[.string y] 9; have HR7 := qH (one_row y Y2.1.heap.size V7 (by omega) (hl7 0 _ rfl)); have HO7 := qH ((HO.out.below Y2.2).below hb7); have H7 := qH (bStp (bStp X.2 Y2.2) hb7); clear hb7 hs7 hl7 HO; go_wp2_with (at_builtin; refine append_Tgs rfl _ _ rfl rfl HO7.out rfl (m := [y]) rfl HR7.out (by omega) H7.out.size (fun v8 w8 ho8 hg8 => ?_)); have HO8 := qH ho8; have H8 := qH (Kept.below (O := fun b => w.heap.size ≤ b) H7.out (Kept.of_grown hg8 (fun g e _ => (HO7.out.lt g e).1)) H7.out.size (fun k hk e => by omega)); clear ho8 hg8 hV7; exact ⟨⟨xs, ys, O ++ [y], _, _, cx - 1, cy - 1, by rw [HNx.out], by rw [HNy.out], by rw [HNx.out]; omega, by rw [HNy.out]; omega, by rw [HNx.out, HNy.out, List.length_append]; show O.length + 1 + nx + ny ≤ _; omega, HTx, HTy, HO8, HE2, ⟨w8, H8.out⟩, rfl⟩, by show nx + ny < nx + 1 + (ny + 1); omega⟩
     · have HE2 := qH (show (O ++ [y]) ++ mergeT (x :: xs) ys = R from by
        rw [if_neg heq] at he; rw [List.append_assoc]; exact he)
       have q2 : (x.toList == y.toList) = false := by
        rw [ByteArray.toList_eq, ByteArray.toList_eq]; exact beq_eq_false_iff_ne.2 (fun h => heq (bL_inj h))
       clear he hlt heq hnx hny; go_wp2_with fail; refine wp_region_ext (W := X.1) ⟨X.1, Below.refl _ _⟩ (by kernel_rfl) (by kernel_rfl) ?_
       repeat go_big_quiet_step (fail)
       refine wpQuiet_nil ?_; rintro _ ⟨Y, rfl⟩; go_wp2_with fail; refine wp_region_ext (W := X.1) Y (by kernel_rfl) (by kernel_rfl) ?_
       repeat go_big_quiet_step (fail)
       refine wpQuiet_nil ?_; rintro _ ⟨Y2, rfl⟩; obtain ⟨V7, hV7, hb7, hs7, hl7⟩ := alloc_cells Y2.1 #[.string y] 9; have HR7 := qH (one_row y Y2.1.heap.size V7 (by omega) (hl7 0 _ rfl)); have HO7 := qH ((HO.out.below Y2.2).below hb7); have H7 := qH (bStp (bStp X.2 Y2.2) hb7); clear hb7 hs7 hl7 HO; go_wp2_with (at_builtin; refine append_Tgs rfl _ _ rfl rfl HO7.out rfl (m := [y]) rfl HR7.out (by omega) H7.out.size (fun v8 w8 ho8 hg8 => ?_)); have HO8 := qH ho8; have H8 := qH (Kept.below (O := fun b => w.heap.size ≤ b) H7.out (Kept.of_grown hg8 (fun g e _ => (HO7.out.lt g e).1)) H7.out.size (fun k hk e => by omega)); clear ho8 hg8 hV7; exact ⟨⟨x :: xs, ys, O ++ [y], _, _, cx, cy - 1, by rw [List.length_cons, HNx.out], by rw [HNy.out], by rw [List.length_cons, HNx.out]; omega, by rw [HNy.out]; omega, by rw [List.length_cons, HNx.out, HNy.out, List.length_append]; show O.length + 1 + (nx + 1) + ny ≤ _; omega, HXA, HTy, HO8, HE2, ⟨w8, H8.out⟩, rfl⟩, by show nx + 1 + ny < nx + 1 + (ny + 1); omega⟩
theorem eqSm_self (p : Sm) (w : World) : (Op.equalIn 10000 72 (.agg #[.int .i64 p.tm, .int .i64 p.x, .int .i64 p.y, .int .i64 p.z, .int .i64 p.pu, .int .i64 p.po, .int .i64 p.st]) (.agg #[.int .i64 p.tm, .int .i64 p.x, .int .i64 p.y, .int .i64 p.z, .int .i64 p.pu, .int .i64 p.po, .int .i64 p.st])).run Tryz.prog w = .ok true w := by
 have u3 := Tryz.underlying3; have a3 := Tryz.isAgg3; have z3 := Tryz.sizeOf3; have hS : Tryz.prog.underlying 72 = some (.struct (Tryz.prog.fieldsOf 72)) := by kernel_rfl
 have hp : Tryz.prog.stoodInHeld 72 = false := by kernel_rfl
 obtain ⟨a, b, c, d, e, f, g⟩ := p; simp only; rw [show (10000 : Nat) = 9999 + 1 from rfl, run_equalIn_agg w 9999 72 _ _ hS hp]; simp only [Program.fieldsOf, Tryz.underlying72]; have h1 : (a == a) = true := by simp
 have h2 : (b == b) = true := by simp
 have h3 : (c == c) = true := by simp
 have h4 : (d == d) = true := by simp
 have h5 : (e == e) = true := by simp
 have h6 : (f == f) = true := by simp
 have h7 : (g == g) = true := by simp
 go_simp
theorem equalSm_self (l : List Sm) (a b : Option Addr) (c d : Nat) (w : World) (hr : Rw smC 7 w a l) (hq : Rw smC 7 w b l) (hl : l.length ≤ 1000000) :
 Calls Tryz.prog 44 #[.slice a l.length c, .slice b l.length d] w fun e w' => e = .returned (.bool true) ∧ ∃ q, w' = w.drewN q := by
 have HR := qH hr; have HQ := qH hq; have HLT := qH (fun (i : Nat) (h : i < l.length) => show ∃ x, l[i]? = some x from ⟨_, List.getElem?_eq_getElem h⟩); obtain ⟨nl, hnl⟩ : ∃ n, l.length = n := ⟨_, rfl⟩; rw [hnl] at hl HLT ⊢; have hneq : ((nl : Int) != (nl : Int)) = false := by simp
 clear hr hq hnl; go_enter Tryz.func44, Tryz.ntmps44; go_wp2_with fail
 go_loopw [13] (fun iv wr => ∃ (k : Nat), iv = .int .i64 k ∧ k ≤ nl ∧ (∃ q, wr = w.drewN q)) (fun iv _ => nl - (intOf iv).toNat)
 case atStart => exact ⟨0, rfl, by omega, ⟨0, rfl⟩⟩
 case round =>
  obtain ⟨k, rfl, hk, ⟨q, rfl⟩⟩ := hrel; by_cases hlt : k < nl
  · have t1 : decide ((k : Int) < (nl : Int)) = true := dTt (by omega)
    have t1' : decide (k < nl) = true := by simpa using hlt
    obtain ⟨x, hx⟩ := HLT.out k hlt; obtain ⟨b1, o1, rfl, hb1, e⟩ := HR.out.at hx; obtain ⟨b2, o2, rfl, hb2, f⟩ := HQ.out.at hx; have e0 : w.cell? ⟨b1, o1 + k * 7, none⟩ = some (.int .i64 x.tm) := e 0 _ rfl; have e1 : w.cell? ⟨b1, o1 + k * 7 + 1, none⟩ = some (.int .i64 x.x) := e 1 _ rfl; have e2 : w.cell? ⟨b1, o1 + k * 7 + 2, none⟩ = some (.int .i64 x.y) := e 2 _ rfl; have e3 : w.cell? ⟨b1, o1 + k * 7 + 3, none⟩ = some (.int .i64 x.z) := e 3 _ rfl; have e4 : w.cell? ⟨b1, o1 + k * 7 + 4, none⟩ = some (.int .i64 x.pu) := e 4 _ rfl; have e5 : w.cell? ⟨b1, o1 + k * 7 + 5, none⟩ = some (.int .i64 x.po) := e 5 _ rfl; have e6 : w.cell? ⟨b1, o1 + k * 7 + 6, none⟩ = some (.int .i64 x.st) := e 6 _ rfl; have f0 : w.cell? ⟨b2, o2 + k * 7, none⟩ = some (.int .i64 x.tm) := f 0 _ rfl; have f1 : w.cell? ⟨b2, o2 + k * 7 + 1, none⟩ = some (.int .i64 x.x) := f 1 _ rfl; have f2 : w.cell? ⟨b2, o2 + k * 7 + 2, none⟩ = some (.int .i64 x.y) := f 2 _ rfl; have f3 : w.cell? ⟨b2, o2 + k * 7 + 3, none⟩ = some (.int .i64 x.z) := f 3 _ rfl; have f4 : w.cell? ⟨b2, o2 + k * 7 + 4, none⟩ = some (.int .i64 x.pu) := f 4 _ rfl; have f5 : w.cell? ⟨b2, o2 + k * 7 + 5, none⟩ = some (.int .i64 x.po) := f 5 _ rfl; have f6 : w.cell? ⟨b2, o2 + k * 7 + 6, none⟩ = some (.int .i64 x.st) := f 6 _ rfl; have hgd : Tryz.prog.eqGuardType Tryz.prog.depth 72 = false := by kernel_rfl
    have hq := fun W => eqSm_self x W
    clear hx e f; go_wp2_with fail
    go_quiet (fail)
    go_wp2_with fail
    go_roundw
    case rel => exact ⟨k + 1, by go_num, by omega, ⟨_, rfl⟩⟩
    case measure => simp [intOf]; omega
  · have t1 : decide ((k : Int) < (nl : Int)) = false := dFf (by omega)
    have t1' : decide (k < nl) = false := by simpa using hlt
    go_wp2_with fail; go_ret; exact ⟨rfl, _, rfl⟩
theorem eqLp_self (p : Lp) (w : World) : (Op.equalIn 10000 75 (.agg #[.int .i64 p.f, .int .i64 p.t, .string p.s]) (.agg #[.int .i64 p.f, .int .i64 p.t, .string p.s])).run Tryz.prog w = .ok true w := by
 have u3 := Tryz.underlying3; have a3 := Tryz.isAgg3; have z3 := Tryz.sizeOf3; have u9 := Tryz.underlying9; have a9 := Tryz.isAgg9; have z9 := Tryz.sizeOf9; have hS : Tryz.prog.underlying 75 = some (.struct (Tryz.prog.fieldsOf 75)) := by kernel_rfl
 have hp : Tryz.prog.stoodInHeld 75 = false := by kernel_rfl
 obtain ⟨a, b, c⟩ := p; simp only; rw [show (10000 : Nat) = 9999 + 1 from rfl, run_equalIn_agg w 9999 75 _ _ hS hp]; simp only [Program.fieldsOf, Tryz.underlying75]; have h1 : (a == a) = true := by simp
 have h2 : (b == b) = true := by simp
 have h3 : (c.toList == c.toList) = true := by simp
 go_simp
theorem equalLp_self (l : List Lp) (a b : Option Addr) (c d : Nat) (w : World) (hr : Rw lpC 3 w a l) (hq : Rw lpC 3 w b l) (hl : l.length ≤ 1000000) :
 Calls Tryz.prog 45 #[.slice a l.length c, .slice b l.length d] w fun e w' => e = .returned (.bool true) ∧ ∃ q, w' = w.drewN q := by
 have HR := qH hr; have HQ := qH hq; have HLT := qH (fun (i : Nat) (h : i < l.length) => show ∃ x, l[i]? = some x from ⟨_, List.getElem?_eq_getElem h⟩); obtain ⟨nl, hnl⟩ : ∃ n, l.length = n := ⟨_, rfl⟩; rw [hnl] at hl HLT ⊢; have hneq : ((nl : Int) != (nl : Int)) = false := by simp
 clear hr hq hnl; go_enter Tryz.func45, Tryz.ntmps45; go_wp2_with fail
 go_loopw [13] (fun iv wr => ∃ (k : Nat), iv = .int .i64 k ∧ k ≤ nl ∧ (∃ q, wr = w.drewN q)) (fun iv _ => nl - (intOf iv).toNat)
 case atStart => exact ⟨0, rfl, by omega, ⟨0, rfl⟩⟩
 case round =>
  obtain ⟨k, rfl, hk, ⟨q, rfl⟩⟩ := hrel; by_cases hlt : k < nl
  · have t1 : decide ((k : Int) < (nl : Int)) = true := dTt (by omega)
    have t1' : decide (k < nl) = true := by simpa using hlt
    obtain ⟨x, hx⟩ := HLT.out k hlt; obtain ⟨b1, o1, rfl, hb1, e⟩ := HR.out.at hx; obtain ⟨b2, o2, rfl, hb2, f⟩ := HQ.out.at hx; have e0 : w.cell? ⟨b1, o1 + k * 3, none⟩ = some (.int .i64 x.f) := e 0 _ rfl; have e1 : w.cell? ⟨b1, o1 + k * 3 + 1, none⟩ = some (.int .i64 x.t) := e 1 _ rfl; have e2 : w.cell? ⟨b1, o1 + k * 3 + 2, none⟩ = some (.string x.s) := e 2 _ rfl; have f0 : w.cell? ⟨b2, o2 + k * 3, none⟩ = some (.int .i64 x.f) := f 0 _ rfl; have f1 : w.cell? ⟨b2, o2 + k * 3 + 1, none⟩ = some (.int .i64 x.t) := f 1 _ rfl; have f2 : w.cell? ⟨b2, o2 + k * 3 + 2, none⟩ = some (.string x.s) := f 2 _ rfl; have hgd : Tryz.prog.eqGuardType Tryz.prog.depth 75 = false := by kernel_rfl
    have hq := fun W => eqLp_self x W
    clear hx e f; go_wp2_with fail
    go_quiet (fail)
    go_wp2_with fail
    go_roundw
    case rel => exact ⟨k + 1, by go_num, by omega, ⟨_, rfl⟩⟩
    case measure => simp [intOf]; omega
  · have t1 : decide ((k : Int) < (nl : Int)) = false := dFf (by omega)
    have t1' : decide (k < nl) = false := by simpa using hlt
    go_wp2_with fail; go_ret; exact ⟨rfl, _, rfl⟩
theorem equalTg_self (l : List ByteArray) (a b : Option Addr) (c d : Nat) (w : World) (hr : Rw tgC 1 w a l) (hq : Rw tgC 1 w b l) (hl : l.length ≤ 1000000) :
 Calls Tryz.prog 46 #[.slice a l.length c, .slice b l.length d] w fun e w' => e = .returned (.bool true) ∧ ∃ q, w' = w.drewN q := by
 have HR := qH hr; have HQ := qH hq; have HLT := qH (fun (i : Nat) (h : i < l.length) => show ∃ x, l[i]? = some x from ⟨_, List.getElem?_eq_getElem h⟩); obtain ⟨nl, hnl⟩ : ∃ n, l.length = n := ⟨_, rfl⟩; rw [hnl] at hl HLT ⊢; have hneq : ((nl : Int) != (nl : Int)) = false := by simp
 clear hr hq hnl; go_enter Tryz.func46, Tryz.ntmps46; go_wp2_with fail
 go_loopw [13] (fun iv wr => ∃ (k : Nat), iv = .int .i64 k ∧ k ≤ nl ∧ (∃ q, wr = w.drewN q)) (fun iv _ => nl - (intOf iv).toNat)
 case atStart => exact ⟨0, rfl, by omega, ⟨0, rfl⟩⟩
 case round =>
  obtain ⟨k, rfl, hk, ⟨q, rfl⟩⟩ := hrel; by_cases hlt : k < nl
  · have t1 : decide ((k : Int) < (nl : Int)) = true := dTt (by omega)
    have t1' : decide (k < nl) = true := by simpa using hlt
    obtain ⟨x, hx⟩ := HLT.out k hlt; obtain ⟨b1, o1, rfl, hb1, e⟩ := HR.out.at hx; obtain ⟨b2, o2, rfl, hb2, f⟩ := HQ.out.at hx; have e0 : w.cell? ⟨b1, o1 + k, none⟩ = some (.string x) := by have h := e 0 _ rfl; simpa using h
    have f0 : w.cell? ⟨b2, o2 + k, none⟩ = some (.string x) := by have h := f 0 _ rfl; simpa using h
    have s1 : (x.toList == x.toList) = true := by simp
    have s2 : (x.toList != x.toList) = false := by simp
    clear hx e f; go_wp2_with fail
    go_quiet (fail)
    go_wp2_with fail
    go_roundw
    case rel => exact ⟨k + 1, by go_num, by omega, ⟨_, rfl⟩⟩
    case measure => simp [intOf]; omega
  · have t1 : decide ((k : Int) < (nl : Int)) = false := dFf (by omega)
    have t1' : decide (k < nl) = false := by simpa using hlt
    go_wp2_with fail; go_ret; exact ⟨rfl, _, rfl⟩
theorem same_self (Z : Acv) (a b c a' b' c' : Option Addr) (ca cb cc ca' cb' cc' : Nat) (w : World) (h1 : Rw smC 7 w a Z.sm) (h2 : Rw lpC 3 w b Z.lp) (h3 : Rw tgC 1 w c Z.tg) (k1 : Rw smC 7 w a' Z.sm) (k2 : Rw lpC 3 w b' Z.lp) (k3 : Rw tgC 1 w c' Z.tg) (n1 : Z.sm.length ≤ 1000000) (n2 : Z.lp.length ≤ 1000000) (n3 : Z.tg.length ≤ 1000000) :
 Calls Tryz.prog 11 #[actV Z a b c ca cb cc, actV Z a' b' c' ca' cb' cc'] w fun e w' => e = .returned (.bool true) ∧ Below w.heap.size w w' := by
 obtain ⟨V0, hV0, hb0, hs0, ha0⟩ := alloc_ac w Z.name Z.sport Z.start (.slice a Z.sm.length ca) (.slice b Z.lp.length cb) (.slice c Z.tg.length cc); obtain ⟨V1, hV1, hb1, hs1, ha1⟩ := alloc_ac V0 Z.name Z.sport Z.start (.slice a' Z.sm.length ca') (.slice b' Z.lp.length cb') (.slice c' Z.tg.length cc'); rw [hs0] at ha1; have HB := qH (bStp hb0 hb1); have DS := qH (fun X : Ext V1 => X.calls ((equalSm_self Z.sm a a' ca ca' X.1 ((h1.below HB.out).below X.2) ((k1.below HB.out).below X.2) n1).mono fun _ _ h => ⟨h.1, by obtain ⟨_, q, rfl⟩ := h; exact (Below.refl _ _).trans ⟨rfl, rfl, rfl, Nat.le_refl _, fun _ _ => rfl⟩⟩)); have DL := qH (fun X : Ext V1 => X.calls ((equalLp_self Z.lp b b' cb cb' X.1 ((h2.below HB.out).below X.2) ((k2.below HB.out).below X.2) n2).mono fun _ _ h => ⟨h.1, by obtain ⟨_, q, rfl⟩ := h; exact (Below.refl _ _).trans ⟨rfl, rfl, rfl, Nat.le_refl _, fun _ _ => rfl⟩⟩)); have DT := qH (fun X : Ext V1 => X.calls ((equalTg_self Z.tg c c' cc cc' X.1 ((h3.below HB.out).below X.2) ((k3.below HB.out).below X.2) n3).mono fun _ _ h => ⟨h.1, by obtain ⟨_, q, rfl⟩ := h; exact (Below.refl _ _).trans ⟨rfl, rfl, rfl, Nat.le_refl _, fun _ _ => rfl⟩⟩)); obtain ⟨z0, z1, z2, z3, z4, z5⟩ := (ha0.below hb1).cell; obtain ⟨y0, y1, y2, y3, y4, y5⟩ := ha1.cell; have A0 := Ext.ex z0; have A1 := Ext.ex z1; have A2 := Ext.ex z2; have A3 := Ext.ex z3; have A4 := Ext.ex z4; have A5 := Ext.ex z5; have B0 := Ext.ex y0; have B1 := Ext.ex y1; have B2 := Ext.ex y2; have B3 := Ext.ex y3; have B4 := Ext.ex y4; have B5 := Ext.ex y5; have s1 : (Z.name.toList == Z.name.toList) = true := by simp
 have s3 : (Z.sport == Z.sport) = true := by simp
 have s4 : (Z.start == Z.start) = true := by simp
 unfold actV; clear h1 h2 h3 k1 k2 k3 hb0 hb1 hs1 ha0 ha1 z0 z1 z2 z3 z4 z5 y0 y1 y2 y3 y4 y5 n1 n2 n3; go_enter Tryz.func11, Tryz.ntmps11; go_upto_region 1 with (fail); clear hV0 hV1 hs0; refine ext_wp (W := V1) fun X => ?_
 go_wp2_with fail; refine (DS.out X).mono ?_; rintro e _ ⟨rfl, Y1, rfl⟩; go_wp2_with fail; refine (DL.out Y1).mono ?_; rintro e _ ⟨rfl, Y2, rfl⟩; go_wp2_with fail; refine (DT.out Y2).mono ?_; rintro e _ ⟨rfl, Y, rfl⟩; go_wp2_with fail; go_ret; exact ⟨rfl, bStp HB.out Y.2⟩
theorem wp_append_Sm {o : Oper} {a : Act} {K : Act → World → Prop} {Q : Exit → Act → World → Prop} {w : World} (s x : Operand)
 (ho : o.op = .call { callee := .builtin .append, args := #[s, x], argTypes := #[22, 22] }) {base : Nat} {v : Value} {l : List Sm} (hs : a.eval s = v) (hown : Own smC 7 72 w base v l)
 {g : Nat} {p : Sm} (hx : a.eval x = .slice (some ⟨g, 0, none⟩) 1 1) (h0 : ∀ j u, (smC p)[j]? = some u → w.cell? ⟨g, j, none⟩ = some u) (hn : l.length ≤ 1000000) (hb : base ≤ w.heap.size)
 (h : ∀ g' c' w', Own smC 7 72 w' base (.slice (some ⟨g', 0, none⟩) (l.length + 1) c') (l ++ [p]) → w.grownBy w' v.ownBlock → (v.ownBlock = some g' ∨ g' = w.heap.size) → K (a.put o.dst (.slice (some ⟨g', 0, none⟩) (l.length + 1) c')) w') : o.wp Tryz.prog a w K Q := by
 obtain ⟨i0, hi0, hy0, hy1, hy2⟩ := info_parts infoSm.out; refine wp_append_lies w s x 22 ho base 72 i0 (.agg #[.int .i64 0, .int .i64 0, .int .i64 0, .int .i64 0, .int .i64 0, .int .i64 0, .int .i64 0]) 7 56 underSm.out hi0 hy0 hy1 hy2 rfl (by decide) v l.length (l.flatMap smC) hs hown ⟨g, 0, none⟩ 1 1 (smC p) hx rfl (fun j u hu => ?_) (smEl.one p) (by decide) (by unfold maxLen; omega) (by omega) hb _ rfl ?_
 · rw [addr_plus, Nat.zero_add]
   exact h0 j u hu
 · intro g' c' w' k1 k2 k3 _
   refine h g' c' w' ?_ k2 k3; unfold Own; rw [List.length_append, List.flatMap_append, show ([p].flatMap smC) = smC p from List.append_nil _]; exact k1
theorem ok_each {start : Int} {l : List Sm} (h : SmOk start l) : ∀ s, s ∈ l → 0 ≤ s.tm ∧ s.tm ≤ 1000000 := fun s hs => by
 obtain ⟨i, hi⟩ := List.getElem?_of_mem hs; exact ⟨h.nonneg hi, (h.upto i s hi).1⟩
theorem mergeT_len (xs ys : List ByteArray) : ∀ n, xs.length + ys.length = n → (mergeT xs ys).length ≤ n := by
 intro n
 induction n using Nat.strongRecOn generalizing xs ys with
 | ind n ih =>
  intro hn
  match xs, ys with
  | [], [] => rw [mergeT]; simp
  | x :: xs, [] =>
   have := ih (xs.length + 0) (by simp at hn; omega) xs [] rfl; rw [mergeT]; simp at hn ⊢; omega
  | [], y :: ys =>
   have := ih (0 + ys.length) (by simp at hn; omega) [] ys (by simp); rw [mergeT]; simp at hn ⊢; omega
  | x :: xs, y :: ys =>
   simp only [List.length_cons] at hn; rw [mergeT]; by_cases h1 : Op.bytesLess (bL x) (bL y) = true
   · have := ih (xs.length + (y :: ys).length) (by simp; omega) xs (y :: ys) rfl
     rw [if_pos h1]; simp at this ⊢; omega
   · by_cases h2 : x = y
     · have := ih (xs.length + ys.length) (by omega) xs ys rfl
       rw [if_neg h1, if_pos h2]; simp; omega
     · have := ih ((x :: xs).length + ys.length) (by simp; omega) (x :: xs) ys rfl
       rw [if_neg h1, if_neg h2]; simp at this ⊢; omega
section
variable {α : Type} {C : α → List Value} {k : Nat} {e : TypeId} {w : World} {base q n cap : Nat} {l : List α}
theorem flat_take (E : El C k) : ∀ (l : List α) (i : Nat), (l.flatMap C).take (i * k) = (l.take i).flatMap C
 | _, 0 => by simp
 | [], _ + 1 => by simp
 | x :: l, i + 1 => by
  rw [List.take_succ_cons, List.flatMap_cons, List.flatMap_cons, ← flat_take E l i, List.take_append, List.take_of_length_le (by rw [E.len, Nat.succ_mul]; omega), E.len, show (i + 1) * k - k = i * k by rw [Nat.succ_mul]; omega]
theorem flat_drop (E : El C k) : ∀ (l : List α) (i : Nat), (l.flatMap C).drop (i * k) = (l.drop i).flatMap C
 | _, 0 => by simp
 | [], _ + 1 => by simp
 | x :: l, i + 1 => by
  rw [List.drop_succ_cons, List.flatMap_cons, ← flat_drop E l i, List.drop_append, List.drop_eq_nil_of_le (by rw [E.len, Nat.succ_mul]; omega), E.len, show (i + 1) * k - k = i * k by rw [Nat.succ_mul]; omega, List.nil_append]
theorem Own.facts (h : Own C k e w base (.slice (some ⟨q, 0, none⟩) n cap) l) : n = l.length ∧ n ≤ cap ∧ cap ≤ maxLen ∧ base ≤ q := by
 rcases h.2 with ⟨h0, _⟩ | ⟨g', cap', cur, hv, hg, hb, h1, h2, h3, h4⟩
 · cases h0
 · injection hv with e1 e2 e3
   injection e1 with e1; injection e1 with e1; subst e1; subst e3; exact ⟨e2, by omega, h2, hg⟩
theorem Own.cellE (h : Own C k e w base (.slice (some ⟨q, 0, none⟩) n cap) l) {i : Nat} (hi : i < cap * k) : (w.cell? ⟨q, i, none⟩).isSome = true ∧ w.frozen? ⟨q, i, none⟩ = false := by
 rcases h.2 with ⟨h0, _⟩ | ⟨g', cap', cur, hv, hg, hb, h1, h2, h3, h4⟩
 · cases h0
 · injection hv with e1 e2 e3
   injection e1 with e1; injection e1 with e1; subst e1; subst e3; have : i < cur.size := by rw [h3]; exact hi
   constructor
   · simp [World.cell?, hb, this]
   · simp [World.frozen?, hb]
theorem Own.at (_ : El C k) (h : Own C k e w base (.slice (some ⟨q, 0, none⟩) n cap) l) {i : Nat} {v : Value} (hv : (l.flatMap C)[i]? = some v) : w.cell? ⟨q, i, none⟩ = some v := by
 have hc := World.ownsRow.cells h (g := q) rfl i v hv
 rwa [addr_plus, Nat.zero_add] at hc
theorem Own.shape (h : Own C k e w base (.slice (some ⟨q, 0, none⟩) n cap) l) : w.shape? q = some (e, cap * k) := by
 rcases h.2 with ⟨h0, _⟩ | ⟨g', cap', cur, hv, hg, hb, h1, h2, h3, h4⟩
 · cases h0
 · injection hv with e1 e2 e3
   injection e1 with e1; injection e1 with e1; subst e1; subst e3; simp [World.shape?, hb, h3]
theorem own_more {xs : List Value} (h : w.ownsRow base e k (.slice (some ⟨q, 0, none⟩) n cap) n xs) {n' : Nat} (hn : n ≤ n') (hc : n' ≤ cap) : ∃ ys, ys.length = (n' - n) * k ∧ w.ownsRow base e k (.slice (some ⟨q, 0, none⟩) n' cap) n' (xs ++ ys) := by
 rcases h.2 with ⟨h0, _⟩ | ⟨g', cap', cur, hv, hg, hb, h1, h2, h3, h4⟩
 · cases h0
 · injection hv with e1 e2 e3
   injection e1 with e1; injection e1 with e1; subst e1; subst e3; have hm : n * k ≤ n' * k := Nat.mul_le_mul_right _ hn; have hm2 : n' * k ≤ cap * k := Nat.mul_le_mul_right _ hc; have he : xs ++ (cur.toList.take (n' * k)).drop (n * k) = cur.toList.take (n' * k) := by
    rw [← h4]
    conv => rhs; rw [← List.take_append_drop (n * k) (cur.toList.take (n' * k))]
    rw [List.take_take, Nat.min_eq_left hm]
   refine ⟨(cur.toList.take (n' * k)).drop (n * k), ?_, ?_, Or.inr ⟨q, cap, cur, rfl, hg, hb, hc, h2, h3, he.symm⟩⟩
   · rw [List.length_drop, List.length_take, Array.length_toList, h3, Nat.min_eq_left hm2, Nat.sub_mul]
   · rw [he, List.length_take, Array.length_toList, h3, Nat.min_eq_left hm2]
theorem own_cleared {xs : List Value} (h : w.ownsRow base e k (.slice (some ⟨q, 0, none⟩) n cap) n xs) : ∀ (vs : List Value) (o : Nat), xs.length ≤ o → (w.setCells q o vs).ownsRow base e k (.slice (some ⟨q, 0, none⟩) n cap) n xs := by
 intro vs
 induction vs generalizing w with
 | nil => intro o _; exact h
 | cons v vs ih =>
  intro o ho; have h1 := (World.ownsRow.stored h o v).1; rw [List.set_eq_of_length_le ho] at h1; exact ih h1 (o + 1) (by omega)
theorem own_flat (_ : El C k) {m : List α} (hm : m.length = n) (h : w.ownsRow base e k (.slice (some ⟨q, 0, none⟩) n cap) n (m.flatMap C)) : Own C k e w base (.slice (some ⟨q, 0, none⟩) n cap) m := by
 unfold Own; rw [hm]; exact h
end
theorem step_append_roomK {P : Program} {ops : Array Oper} {o : Oper} {a : Act} {w : World} {K : Act → World → Prop} {Q : Exit → Act → World → Prop} {E : Prop} (k : Nat)
 (hg : o.guard = none) (s x : Operand) (t : TypeId) (hop : o.op = Op.call { callee := Callee.builtin Builtin.append, args := #[s, x], argTypes := #[t, t] })
 (e : TypeId) (i : TypeInfo) (h1 : P.underlying t = some (.slice e)) (h2 : P.info? e = some i) (h4 : i.size = k)
 (b n cap : Nat) (hs : a.eval s = .slice (some ⟨b, 0, none⟩) n cap)
 (ad : Addr) (m c : Nat) (hx : a.eval x = .slice (some ad) m c) (news : List Value) (hn : news.length = m * k) (hc : ∀ j u, news[j]? = some u → w.cell? (ad.add j) = some u) (h1c : ∀ u ∈ news, u.oneCell' = true)
 (r : Nat) (hr : n + m = r) (hroom : r ≤ cap) (hspare : ∀ j, j < cap * k → (w.cell? ⟨b, j, none⟩).isSome = true ∧ w.frozen? ⟨b, j, none⟩ = false)
 (hK : K (a.put o.dst (.slice (some ⟨b, 0, none⟩) r cap)) (w.setCells b (n * k) news)) :
 if Region.wanted o (yielded ops a.tmps) = true then Oper.wp P o a w K Q else E := by
 subst hr; refine step_append_room hg s x t hop e i k h1 h2 h4 b 0 n cap hs ad m c news hx hn hc h1c hroom (fun j hj => ?_) ?_
 · rw [Nat.zero_add]
   rw [hn] at hj; refine hspare _ ?_; have h5 : (n + m) * k ≤ cap * k := Nat.mul_le_mul_right _ hroom; rw [Nat.add_mul] at h5; omega
 · rw [Nat.zero_add]
   exact hK
theorem sl_l {P : Program} {t e : TypeId} {k : Nat} (U : P.underlying t = some (.slice e)) (hel : P.elem t = e) (hso : ∀ w, (sizeOf e).run P w = .ok k w) (q n cap i : Nat) (x : Int) (hx : x = i) (h1 : i ≤ n) (_ : n ≤ cap) (W : World) :
 (Instr.slice t (.slice (some ⟨q, 0, none⟩) n cap) (some (.int .i64 x)) none none).run P W = .ok (.slice (some (if cap = i then ⟨q, 0, none⟩ else ⟨q, i * k, none⟩)) (n - i) (cap - i)) W := by
 subst hx; rw [run_slice_l (w := W) t _ n cap (by rw [hel]; exact U) .i64 (i : Int) (by omega) (by omega), hel, hso]; by_cases h : cap = i
 · simp [sliced, Result.andThen, h]
 · simp [sliced, Result.andThen, h, addr_plus]
theorem sl_h {P : Program} {t e : TypeId} {k : Nat} (U : P.underlying t = some (.slice e)) (hel : P.elem t = e) (hso : ∀ w, (sizeOf e).run P w = .ok k w) (q n cap i : Nat) (x : Int) (hx : x = i) (h2 : i ≤ cap) (h3 : 0 < cap) (W : World) :
 (Instr.slice t (.slice (some ⟨q, 0, none⟩) n cap) none (some (.int .i64 x)) none).run P W = .ok (.slice (some ⟨q, 0, none⟩) i cap) W := by
 subst hx; rw [run_slice_h (w := W) t _ n cap (by rw [hel]; exact U) .i64 (i : Int) (by omega) (by omega), hel, hso]; have : ¬ cap = 0 := by omega
 simp [sliced, Result.andThen, this, addr_plus]
theorem own_congr {w : World} {base e k n : Nat} {v : Value} {xs ys : List Value} (h : w.ownsRow base e k v n xs) (he : xs = ys) : w.ownsRow base e k v n ys := he ▸ h
theorem ins_list (F ys cs P : List Value) (a k : Nat) (hP : P.length = k) (hys : ys.length = k) (ha : a + k ≤ F.length) (hcs : cs = F.drop a) :
 ((F ++ ys).take (a + k) ++ cs ++ (F ++ ys).drop (a + k + cs.length)).take a ++ P ++ ((F ++ ys).take (a + k) ++ cs ++ (F ++ ys).drop (a + k + cs.length)).drop (a + P.length) = F.take a ++ P ++ F.drop a := by
 have hcl : cs.length = F.length - a := by rw [hcs, List.length_drop]
 rw [show (F ++ ys).drop (a + k + cs.length) = [] from List.drop_eq_nil_of_le (by rw [List.length_append, hcl]; omega), List.append_nil, List.take_append_of_le_length (l₁ := F) ha, hP]; have h1 : (F.take (a + k)).length = a + k := by rw [List.length_take]; omega
 rw [List.take_append_of_le_length (by rw [h1]; omega), List.take_take, Nat.min_eq_left (by omega), List.drop_append, h1, List.drop_eq_nil_of_le (by rw [h1]; omega), List.nil_append, Nat.sub_self, List.drop_zero, hcs]
theorem raw_cell {w : World} {base e k n cap q i : Nat} {xs : List Value} (h : w.ownsRow base e k (.slice (some ⟨q, 0, none⟩) n cap) n xs) (hi : i < cap * k) : (w.cell? ⟨q, i, none⟩).isSome = true ∧ w.frozen? ⟨q, i, none⟩ = false := by
 rcases h.2 with ⟨h0, _⟩ | ⟨g', cap', cur, hv, hg, hb, e1, e2, e3, e4⟩
 · cases h0
 · injection hv with f1 f2 f3
   injection f1 with f1; injection f1 with f1; subst f1; subst f3; have : i < cur.size := by rw [e3]; exact hi
   constructor
   · simp [World.cell?, hb, this]
   · simp [World.frozen?, hb]
theorem ins_list2 (X cs P F : List Value) (a k : Nat) (hP : P.length = k) (hX : X.length = F.length + k) (ha : a + k ≤ F.length) (hT : X.take a = F.take a) (hcs : cs = F.drop a) :
 (X.take a ++ P ++ X.drop (a + P.length)).take (a + k) ++ cs ++ (X.take a ++ P ++ X.drop (a + P.length)).drop (a + k + cs.length) = F.take a ++ P ++ F.drop a := by
 have hcl : cs.length = F.length - a := by rw [hcs, List.length_drop]
 have h1 : (F.take a ++ P).length = a + k := by rw [List.length_append, List.length_take, hP]; omega
 rw [hT, List.take_append_of_le_length (by rw [h1]; omega), List.take_of_length_le (by rw [h1]; omega), List.drop_eq_nil_of_le (by rw [List.length_append, h1, List.length_drop, hX, hcl, hP]; omega), List.append_nil, hcs]
theorem kept_setK {a b : World} {q : Nat} {p : Addr} {v : Value} (h : Kept (fun k => k = q) a b) (hp : p.block = q) : Kept (fun k => k = q) a (b.setCell p v) := by
 refine h.trans ⟨rfl, rfl, rfl, by simp [World.setCell], fun k hk hne => ?_⟩; simp only [World.setCell]; rw [Array.getElem?_modify, if_neg (fun e => hne (by rw [← hp, e]))]
theorem kept_layK (q : Nat) : ∀ (vs : List Value) (o : Nat) (w : World), Kept (fun k => k = q) w (w.setCells q o vs)
 | [], _, _ => Kept.refl _ _
 | v :: vs, o, w => (kept_setK (p := ⟨q, o, none⟩) (v := v) (Kept.refl _ w) rfl).trans (kept_layK q vs (o + 1) _)
theorem deleteLp_any (l : List Lp) (base q cap j p n n1 : Nat) (w : World) (hown : Own lpC 3 75 w base (.slice (some ⟨q, 0, none⟩) n cap) l) (hn : l.length ≤ 1000) (hj : j < n) (hp : p = j + 1) (h1 : n = n1 + 1) :
 Calls Tryz.prog 226 #[.slice (some ⟨q, 0, none⟩) n cap, .int .i64 j, .int .i64 p] w fun e w' =>
  e = .returned (.slice (some ⟨q, 0, none⟩) n1 cap) ∧ Own lpC 3 75 w' base (.slice (some ⟨q, 0, none⟩) n1 cap) (l.take j ++ l.drop (j + 1)) ∧ Kept (fun b => b = q) w w' := by
 obtain ⟨hln, hnc, hcm, hbq⟩ := hown.facts; unfold maxLen at hcm; obtain ⟨m, hm⟩ : ∃ m, n = p + m := ⟨n - p, by omega⟩; have hel : Tryz.prog.elem 23 = 75 := by kernel_rfl
 have hso := Tryz.sizeOf75; have U := underLp.out; have hne : ((j : Int) == (p : Int)) = false := bFf (by omega); obtain ⟨ad, had⟩ : ∃ ad : Addr, ad = if cap = p then ⟨q, 0, none⟩ else ⟨q, p * 3, none⟩ := ⟨_, rfl⟩; have s1 : ∀ W : World, (Instr.slice 23 (.slice (some ⟨q, 0, none⟩) n cap) (some (.int .i64 (j : Int))) (some (.int .i64 (p : Int))) (some (.int .i64 (n : Int)))).run Tryz.prog W = .ok (.slice (some ⟨q, j * 3, none⟩) 1 (n - j)) W := fun W => by
  rw [run_slice_lhm (w := W) 23 _ n cap U .i64 .i64 .i64 (j : Int) (p : Int) (n : Int) (by omega) (by omega) (by omega) (by omega), hel, hso]; have : ¬ n = j := by omega
  have h2 : p - j = 1 := by omega
  simp [sliced, Result.andThen, this, addr_plus, h2]
 have s2 : ∀ W : World, (Instr.slice 23 (.slice (some ⟨q, 0, none⟩) n cap) none (some (.int .i64 (j : Int))) none).run Tryz.prog W = .ok (.slice (some ⟨q, 0, none⟩) j cap) W := fun W => sl_h U hel hso q n cap j _ rfl (by omega) (by omega) W
 have s3 : ∀ W : World, (Instr.slice 23 (.slice (some ⟨q, 0, none⟩) n cap) (some (.int .i64 (p : Int))) none none).run Tryz.prog W = .ok (.slice (some ad) m (cap - p)) W := fun W => by
  rw [run_slice_l (w := W) 23 _ n cap U .i64 (p : Int) (by omega) (by omega), hel, hso, had]; have h2 : n - p = m := by omega
  by_cases h : cap = p
  · simp [sliced, Result.andThen, h, h2]
  · simp [sliced, Result.andThen, h, addr_plus, h2]
 have s4 : ∀ W : World, (Instr.slice 23 (.slice (some ⟨q, 0, none⟩) n1 cap) (some (.int .i64 (n1 : Int))) (some (.int .i64 (n : Int))) none).run Tryz.prog W = .ok (.slice (some ⟨q, n1 * 3, none⟩) 1 (cap - n1)) W := fun W => by
  rw [run_slice_lh (w := W) 23 _ n1 cap U .i64 .i64 (n1 : Int) (n : Int) (by omega) (by omega) (by omega), hel, hso]; have : ¬ cap = n1 := by omega
  have h2 : n - n1 = 1 := by omega
  simp [sliced, Result.andThen, this, addr_plus, h2]
 obtain ⟨news, hnews⟩ : ∃ news, news = (l.drop p).flatMap lpC := ⟨_, rfl⟩; have hnl : news.length = m * 3 := by rw [hnews, lpEl.flat, List.length_drop]; omega
 have hone : ∀ u ∈ news, u.oneCell' = true := by rw [hnews]; exact lpEl.ones _
 have hcc : ∀ i u, news[i]? = some u → w.cell? (ad.add i) = some u := fun i u hi => by
  have hi2 := (List.getElem?_eq_some_iff.1 hi).1; rw [hnl] at hi2; rw [had, if_neg (by omega), addr_plus]; refine hown.at lpEl ?_; rw [hnews, ← flat_drop lpEl, List.getElem?_drop] at hi; rw [show p * 3 + i = p * 3 + i by omega]; exact hi
 have hsp := fun (i : Nat) (hi : i < cap * 3) => hown.cellE hi
 have hlen := lpEl.flat l; obtain ⟨W1, hW1⟩ : ∃ W, w.drew.setCells q (j * 3) news = W := ⟨_, rfl⟩; have hro : W1.ownsRow base 75 3 (.slice (some ⟨q, 0, none⟩) n cap) n ((l.flatMap lpC).take (j * 3) ++ news ++ (l.flatMap lpC).drop (j * 3 + news.length)) := by
  rw [← hW1]; have h0 := hown.below (Below.refl _ w).drew; unfold Own at h0; rw [← hln] at h0; exact own_lay news (j * 3) h0 (by rw [hnl, hlen, ← hln]; omega)
 have hk1 : Kept (fun b => b = q) w W1 := by
  rw [← hW1]; exact (Kept.of_below (Below.refl _ w).drew).trans (kept_layK q news _ _)
 have hz : ∀ w, (zeroValue 75).run Tryz.prog w = .ok (.agg #[.int .i64 0, .int .i64 0, .string ⟨#[]⟩]) w := fun w => by kernel_rfl
 have hcell : ∀ i, i < cap * 3 → (W1.cell? ⟨q, i, none⟩).isSome = true ∧ W1.frozen? ⟨q, i, none⟩ = false := fun i hi => raw_cell hro hi
 obtain ⟨vs, hvs⟩ := run_clear_rowE (P := Tryz.prog) W1 23 75 0 (.agg #[.int .i64 0, .int .i64 0, .string ⟨#[]⟩]) U hz (by decide) q (n1 * 3) 1 (cap - n1) (by omega)
  (fun i (hi : i < 1 * 3) => (hcell (n1 * 3 + i) (by omega)).1) (fun i (hi : i < 1 * 3) => (hcell (n1 * 3 + i) (by omega)).2)
 obtain ⟨W2, hW2⟩ : ∃ W, W1.setCells q (n1 * 3) vs = W := ⟨_, rfl⟩; have hr2 : Own lpC 3 75 W2 base (.slice (some ⟨q, 0, none⟩) n1 cap) (l.take j ++ l.drop (j + 1)) := by
  have h3 := own_less hro (n' := n1) (by omega); have e : (((l.flatMap lpC).take (j * 3) ++ news ++ (l.flatMap lpC).drop (j * 3 + news.length)).take (n1 * 3)) = (l.take j ++ l.drop (j + 1)).flatMap lpC := by
   rw [List.take_append_of_le_length (by rw [List.length_append, List.length_take, hnl, hlen, ← hln]; omega), List.take_of_length_le (by rw [List.length_append, List.length_take, hnl, hlen, ← hln]; omega), flat_take lpEl, hnews, hp, List.flatMap_append]
  rw [e] at h3; rw [← hW2]; exact own_flat lpEl (by rw [List.length_append, List.length_take, List.length_drop]; omega) (own_cleared h3 vs (n1 * 3) (by rw [lpEl.flat, List.length_append, List.length_take, List.length_drop]; omega))
 have hk2 : Kept (fun b => b = q) w W2 := by
  rw [← hW2]; exact hk1.trans (kept_layK q vs _ _)
 rw [hW2] at hvs; obtain ⟨i0, hi0, hz0, hz1, hz2⟩ := info_parts infoLp.out; have hjm : j + m = n1 := by omega
 have HI := qH (And.intro hi0 hz1); have HN := qH (And.intro hnl (And.intro hcc hone)); have HS := qH hsp; have HW1 := qH (show w.drew.setCells q (j * 3) news = W1 from by first | exact hW1 | (rw [Nat.mul_one] at hW1; exact hW1)); have HR := qH (And.intro hr2 hk2); have HJ := qH hjm; have hn1c : n1 ≤ cap := by omega
 clear hown hnl hcc hone hsp hW1 hro hk1 hz hr2 hk2 hi0 hz0 hz1 hz2 hnews hjm hW2 had hn hln hbq hp h1 hm hlen hcell; go_enter Tryz.func226, Tryz.ntmps226; go_wp2_with fail
 go_region_law (refine step_append_roomK 3 rfl (.tmp 22) (.tmp 25) 23 rfl 75 i0 U HI.out.1 HI.out.2 q j cap rfl ad m (cap - p) rfl news HN.out.1 HN.out.2.1 HN.out.2.2 n1 HJ.out hn1c HS.out ?_)
 all_goals
  rw [HW1.out]; go_wp2_with fail; go_ret; exact ⟨rfl, HR.out.1, HR.out.2⟩
theorem insertEndLp (l : List Lp) (base : Nat) (a : Option Addr) (n cap : Nat) (p : Lp) (vb : Nat) (w : World) (hown : Own lpC 3 75 w base (.slice a n cap) l) (hln : l.length = n) (hl : n ≤ 1000) (hv : Rw lpC 3 w (some ⟨vb, 0, none⟩) [p]) (hb : base ≤ w.heap.size) :
 Calls Tryz.prog 225 #[.slice a n cap, .int .i64 n, .slice (some ⟨vb, 0, none⟩) 1 1] w fun e w' => ∃ v, e = .returned v ∧ Own lpC 3 75 w' base v (l.take n ++ [p] ++ l.drop n) ∧ w.grownBy w' (Value.slice a n cap).ownBlock := by
 have hel : Tryz.prog.elem 23 = 75 := by kernel_rfl
 have hso := Tryz.sizeOf75; have U := underLp.out; have he : l.take n ++ [p] ++ l.drop n = l ++ [p] := by rw [← hln, List.take_length, List.drop_length, List.append_nil]
 have HP := qH (And.intro hown (And.intro hv he)); have HLN := qH hln; have s1 : ∀ W : World, ∃ u, (Instr.slice 23 (.slice a n cap) (some (.int .i64 (n : Int))) none none).run Tryz.prog W = .ok u W := fun W => by
  rcases hown.2 with ⟨h0, h1⟩ | ⟨g, cap', cur, hv', hg, hb', e1, e2, e3, e4⟩
  · injection h0 with f1 f2 f3
    subst f1 f2 f3; exact ⟨.slice none 0 0, by kernel_rfl⟩
  · injection hv' with f1 f2 f3
    subst f1 f3; unfold maxLen at e2; exact ⟨_, sl_l U hel hso g n cap n _ rfl (Nat.le_refl _) (by omega) W⟩
 obtain ⟨u, hu⟩ := s1 w; have he2 : ((n : Int) == (n : Int)) = true := by simp
 clear s1 hown hv he hln; go_enter Tryz.func225, Tryz.ntmps225; go_wp2_with (at_builtin; refine append_Lps rfl _ _ rfl rfl HP.out.1 rfl (m := [p]) rfl HP.out.2.1 (by have := HLN.out; omega) hb (fun v' w' ho hg => ?_)); go_ret; exact ⟨v', rfl, HP.out.2.2 ▸ ho, hg⟩
theorem insertRoomLp (l : List Lp) (base q n cap i : Nat) (p : Lp) (vb : Nat) (w : World) (hown : Own lpC 3 75 w base (.slice (some ⟨q, 0, none⟩) n cap) l) (hl : n ≤ 1000) (hi : i < n) (hroom : n + 1 ≤ cap) (hv : w.heap[vb]? = some (.cells (lpC p).toArray 75 (0, 0))) (hne : vb ≠ q) :
 Calls Tryz.prog 225 #[.slice (some ⟨q, 0, none⟩) n cap, .int .i64 i, .slice (some ⟨vb, 0, none⟩) 1 1] w fun e w' => ∃ v, e = .returned v ∧ Own lpC 3 75 w' base v (l.take i ++ [p] ++ l.drop i) ∧ w.grownBy w' (Value.slice (some ⟨q, 0, none⟩) n cap).ownBlock := by
 obtain ⟨hln, hnc, hcm, hbq⟩ := hown.facts; unfold maxLen at hcm; have hel : Tryz.prog.elem 23 = 75 := by kernel_rfl
 have hso := Tryz.sizeOf75; have U := underLp.out; obtain ⟨i0, hi0, hz0, hz1, hz2⟩ := info_parts infoLp.out; have hlen := lpEl.flat l; have hpl := lpEl.len p
 -- the world behind both copies
 obtain ⟨cs, hcs⟩ : ∃ cs, cs = (l.drop i).flatMap lpC := ⟨_, rfl⟩; have hcl : cs.length = (n - i) * 3 := by rw [hcs, lpEl.flat, List.length_drop, ← hln]
 have hraw : w.ownsRow base 75 3 (.slice (some ⟨q, 0, none⟩) n cap) n (l.flatMap lpC) := by
  have h := hown; unfold Own at h; rw [← hln] at h; exact h
 obtain ⟨ys, hys, h0⟩ := own_more hraw (n' := n + 1) (by omega) hroom; rw [show (n + 1 - n) * 3 = 3 by omega] at hys; obtain ⟨W1, hW1⟩ : ∃ W, w.drew.setCells q ((i + 1) * 3) cs = W := ⟨_, rfl⟩; obtain ⟨W2, hW2⟩ : ∃ W, W1.setCells q (i * 3) (lpC p) = W := ⟨_, rfl⟩; have h1 : W1.ownsRow base 75 3 (.slice (some ⟨q, 0, none⟩) (n + 1) cap) (n + 1) ((l.flatMap lpC ++ ys).take ((i + 1) * 3) ++ cs ++ (l.flatMap lpC ++ ys).drop ((i + 1) * 3 + cs.length)) := by
  rw [← hW1]; exact own_lay cs _ (ownsRow_below h0 (Below.refl _ w).drew) (by rw [hcl, List.length_append, hlen, hys, ← hln]; omega)
 have h2 : W2.ownsRow base 75 3 (.slice (some ⟨q, 0, none⟩) (n + 1) cap) (n + 1) ((l.take i ++ [p] ++ l.drop i).flatMap lpC) := by
  have h3 := own_lay (lpC p) (i * 3) h1 (by rw [hpl, List.length_append, List.length_append, List.length_take, List.length_append, hlen, hys, hcl, ← hln]; omega); rw [hW2] at h3; refine own_congr h3 ?_; rw [show (i + 1) * 3 = i * 3 + 3 by omega, ins_list (l.flatMap lpC) ys cs (lpC p) (i * 3) 3 hpl hys (by rw [hlen, ← hln]; omega) (by rw [hcs, flat_drop lpEl]), flat_take lpEl, flat_drop lpEl, List.flatMap_append, List.flatMap_append, show ([p].flatMap lpC) = lpC p from List.append_nil _]
 have hk : Kept (fun b => b = q) w W2 := by
  rw [← hW2, ← hW1]; exact ((Kept.of_below (Below.refl _ w).drew).trans (kept_layK q cs _ _)).trans (kept_layK q (lpC p) _ _)
 have hvc : ∀ j v, (lpC p)[j]? = some v → w.cell? ⟨vb, j, none⟩ = some v := fun j v hj => by simp [World.cell?, hv, hj]
 have hov : ∀ (W : World), (∀ b : Nat, W.heap[b]? = w.heap[b]?) → ∀ o' lb cb, (callFunc 229 #[.slice (some ⟨vb, 0, none⟩) 1 1, .slice (some ⟨q, o', none⟩) lb cb]).run Tryz.prog W = .ok (.value (.bool false)) W := fun W hW o' lb cb => by
  have hsa : W.shape? vb = some (75, 3) := by simp [World.shape?, hW, hv, hpl]
  have hsb : W.shape? q = some (75, cap * 3) := by
   have h := hown.shape; simp only [World.shape?, hW] at h ⊢; exact h
  have hfr : ∀ x, W.frozen? ⟨vb, x, none⟩ = false := fun x => by simp [World.frozen?, hW, hv]
  rw [run_callFunc_extern Tryz.func229 (by kernel_rfl) (by kernel_rfl) (by kernel_rfl) (e := Extern.SlicesOverlaps.overlaps #[23, 23] #[4]) (by kernel_rfl),
   Lib.run_overlaps_apart W 23 4 75 U 3 hso ⟨vb, 0, none⟩ ⟨q, o', none⟩ 1 1 lb cb hne 75 75 3 (cap * 3) hsa hsb (by omega) (hfr 0) (hfr 3)]
  rfl
 have hsp := fun (i : Nat) (hi : i < cap * 3) => hown.cellE hi
 have HI := qH (And.intro hi0 hz1); have HOV := qH hov; have HD := qH (show W1.setCells q (i * 3) (lpC p) = W2 from (by have h := hW2; first | exact h | (rw [Nat.mul_one] at h; exact h) | (simp only [Nat.mul_one] at h; exact h))); have HD1 := qH (show w.drew.setCells q ((i + 1) * 3) cs = W1 from (by have h := hW1; first | exact h | (rw [Nat.mul_one] at h; exact h) | (simp only [Nat.mul_one] at h; exact h))); have HR := qH (And.intro (own_flat lpEl (by rw [List.length_append, List.length_append, List.length_take, List.length_drop, List.length_singleton]; omega) h2) hk); have HCS := qH (show cs.length = (n - i) * i0.size ∧ (∀ j v, cs[j]? = some v → w.cell? ⟨q, i * 3 + j, none⟩ = some v) ∧ (∀ v ∈ cs, v.oneCell' = true) from ⟨by rw [hcl, hz1], fun j v hj => by
  rw [hcs, ← flat_drop lpEl, List.getElem?_drop] at hj; exact (by have h := hown.at lpEl hj; first | exact h | (rw [Nat.mul_one] at h; exact h) | (simp only [Nat.mul_one] at h; exact h)), by rw [hcs]; exact lpEl.ones _⟩)
 have HSP := qH hsp; have HN := qH (show cs.length = (n - i) * 3 from hcl); have HV1 := qH (show (∀ j v, (lpC p)[j]? = some v → W1.cell? ⟨vb, j, none⟩ = some v) ∧ (∀ j, j < cap * 3 → (W1.cell? ⟨q, j, none⟩).isSome = true ∧ W1.frozen? ⟨q, j, none⟩ = false) ∧ (lpC p).length = i0.size from by
  have hk1 : Kept (fun b => b = q) w W1 := by
   rw [← hW1]; exact (Kept.of_below (Below.refl _ w).drew).trans (kept_layK q cs _ _)
  exact ⟨fun j v hj => hk1.cell (p := ⟨vb, j, none⟩) hne (hvc j v hj), fun j hj => raw_cell h1 hj, by rw [hpl, hz1]⟩)
 have s1 : ∀ W : World, (Instr.slice 23 (.slice (some ⟨q, 0, none⟩) n cap) (some (.int .i64 (i : Int))) none none).run Tryz.prog W = .ok (.slice (some ⟨q, i * 3, none⟩) (n - i) (cap - i)) W := fun W => by
  rw [sl_l U hel hso q n cap i _ rfl (by omega) (by omega) W, if_neg (by omega)]
 have s2 : ∀ W : World, (Instr.slice 23 (.slice (some ⟨q, 0, none⟩) n cap) none (some (.int .i64 ((n : Int) + 1))) none).run Tryz.prog W = .ok (.slice (some ⟨q, 0, none⟩) (n + 1) cap) W := fun W => sl_h U hel hso q n cap (n + 1) _ (by omega) (by omega) (by omega) W
 have s3 : ∀ W : World, (Instr.slice 23 (.slice (some ⟨q, 0, none⟩) (n + 1) cap) (some (.int .i64 ((i : Int) + 1))) none none).run Tryz.prog W = .ok (.slice (some ⟨q, (i + 1) * 3, none⟩) (n - i) (cap - (i + 1))) W := fun W => by
  rw [sl_l U hel hso q (n + 1) cap (i + 1) _ (by omega) (by omega) (by omega) W, if_neg (by omega), show n + 1 - (i + 1) = n - i by omega]
 have s4 : ∀ W : World, (Instr.slice 23 (.slice (some ⟨q, 0, none⟩) (n + 1) cap) (some (.int .i64 (i : Int))) none none).run Tryz.prog W = .ok (.slice (some ⟨q, i * 3, none⟩) (n + 1 - i) (cap - i)) W := fun W => by
  rw [sl_l U hel hso q (n + 1) cap i _ rfl (by omega) (by omega) W, if_neg (by omega)]
 have t1 : ((i : Int) == (n : Int)) = false := bFf (by omega); have t2 : decide ((cap : Int) < (n : Int) + 1) = false := dFf (by omega); have HU := qH U; have HONE := qH (lpEl.one p); have HPL := qH hpl; have HB := qH (And.intro hi hroom); have hk1000 : cap ≤ 9223372036854775807 := by omega
 have hi2 : i ≤ 1000 := by omega
 clear hown hln hnc hcm hbq hi0 hz0 hz1 hz2 hlen hpl hcs hcl hys h0 hW1 hW2 h1 h2 hk hvc hov hsp hv hi hroom U hso hel ys hraw; go_enter Tryz.func225, Tryz.ntmps225; have hov0 := fun o' lb cb => HOV.out w (fun _ => rfl) o' lb cb
 go_wp2_with (simp only [hov0]); refine held_start (C := fun _ => True) (by kernel_rfl) ?_; rw [show ({ w with drawn := w.drawn + 1 } : World) = w.drew from rfl]; refine held_quiet (by kernel_rfl) (fun _ _ d _ _ h => by cases d <;> exact h) trivial [0, 1, 2, 3, 4, 5, 6, 7] 1 _ _ (by kernel_rfl) ?_; change wpQuiet _ _ _ _ (_ :: _ :: _ :: _ :: _ :: _ :: _ :: _ :: []) _
 repeat go_big_quiet_step (fail)
 refine wpQuiet_nil ?_; refine held_do (i := 8) _ rfl (by kernel_rfl) rfl (fun K hK => ?_); refine wp_copyE (.tmp 73) (.tmp 76) 23 23 rfl 75 i0 HU.out HI.out.1 q ((i + 1) * 3) (n - i) (cap - (i + 1)) (some ⟨q, i * 3, none⟩) (n + 1 - i) (cap - i) (n - i) rfl rfl cs (by simp only [Nat.min_def]; split <;> omega) HCS.out.1 (fun _ => ⟨_, rfl, fun j v hj => by rw [addr_plus]; exact HCS.out.2.1 j v hj⟩) HCS.out.2.2 (fun j hj => (HSP.out _ (by rw [HN.out] at hj; have := HB.out; omega)).1) (fun j hj => (HSP.out _ (by rw [HN.out] at hj; have := HB.out; omega)).2) ?_
 try simp only [pS]
 refine hK _ _ trivial ?_; clear hK K
 try simp only [pS]
 refine wpAnyH_done (by kernel_rfl) ?_ _; rw [HD1.out]; have hcp : ∀ ty, (Builtin.copy_ #[23, 23] ty #[.slice (some ⟨q, i * 3, none⟩) (n + 1 - i) (cap - i), .slice (some ⟨vb, 0, none⟩) 1 1]).run Tryz.prog W1 = .ok (goInt 1) W2 := fun ty => by
  rw [← HD.out]; exact run_copyE (P := Tryz.prog) W1 23 23 ty 75 i0 q (i * 3) (n + 1 - i) (cap - i) (some ⟨vb, 0, none⟩) 1 1 1 (lpC p) HU.out HI.out.1 (by have := HB.out; simp only [Nat.min_def]; split <;> omega) (by rw [HV1.out.2.2, Nat.one_mul]) (fun _ => ⟨_, rfl, fun j v hj => by rw [addr_plus, Nat.zero_add]; exact HV1.out.1 j v hj⟩) HONE.out (fun j hj => (HV1.out.2.1 _ (by rw [HPL.out] at hj; have := HB.out; omega)).1) (fun j hj => (HV1.out.2.1 _ (by rw [HPL.out] at hj; have := HB.out; omega)).2)
 go_wp2_with fail; go_ret; exact ⟨_, rfl, HR.out.1, HR.out.2.os, HR.out.2.tape, HR.out.2.output, HR.out.2.size, fun x hx hne => HR.out.2.block x hx (fun e => hne (by rw [e]; rfl))⟩
theorem insertGrowLp (l : List Lp) (base q n i : Nat) (p : Lp) (vb : Nat) (w : World) (hown : Own lpC 3 75 w base (.slice (some ⟨q, 0, none⟩) n n) l) (hl : n ≤ 1000) (hi : i < n) (hv : w.heap[vb]? = some (.cells (lpC p).toArray 75 (0, 0))) (hb : base ≤ w.heap.size) :
 Calls Tryz.prog 225 #[.slice (some ⟨q, 0, none⟩) n n, .int .i64 i, .slice (some ⟨vb, 0, none⟩) 1 1] w fun e w' => ∃ v, e = .returned v ∧ Own lpC 3 75 w' base v (l.take i ++ [p] ++ l.drop i) ∧ w.grownBy w' (Value.slice (some ⟨q, 0, none⟩) n n).ownBlock := by
 obtain ⟨hln, _, _, hbq⟩ := hown.facts; have hel : Tryz.prog.elem 23 = 75 := by kernel_rfl
 have hso := Tryz.sizeOf75; have U := underLp.out; obtain ⟨i0, hi0, hz0, hz1, hz2⟩ := info_parts infoLp.out; have hlen := lpEl.flat l; have hpl := lpEl.len p; have hqw : q < w.heap.size := (hown.lt q rfl).2; have hvw : vb < w.heap.size := lt_of_block hv; obtain ⟨cs, hcs⟩ : ∃ cs, cs = (l.drop i).flatMap lpC := ⟨_, rfl⟩; have hcl : cs.length = (n - i) * 3 := by rw [hcs, lpEl.flat, List.length_drop, ← hln]
 obtain ⟨N, hN⟩ : ∃ N, w.heap.size = N := ⟨_, rfl⟩; obtain ⟨G, hG⟩ : ∃ G, grownCap w (n + 1) n 75 = G := ⟨_, rfl⟩; have hGn : n + 1 ≤ G := by rw [← hG]; exact grownCap_ge w _ _ _
 have hG63 : G ≤ maxLen := by rw [← hG]; exact grownCap_le_maxLen w _ _ _ (by unfold maxLen; omega)
 obtain ⟨ROW, hROW⟩ : ∃ ROW : Array Value, ((l.take i).flatMap lpC).toArray ++ Builtin.zeroCells (Value.cells (.agg #[.int .i64 0, .int .i64 0, .string ⟨#[]⟩])) (n + 1 - i) ++ Builtin.zeroCells (Value.cells (.agg #[.int .i64 0, .int .i64 0, .string ⟨#[]⟩])) (G - (n + 1)) = ROW := ⟨_, rfl⟩; have hzc : ∀ m, (Builtin.zeroCells (Value.cells (.agg #[.int .i64 0, .int .i64 0, .string ⟨#[]⟩])) m).size = m * 3 := fun m => by
  have : (Value.cells (.agg #[.int .i64 0, .int .i64 0, .string ⟨#[]⟩])).size = 3 := by rfl
  simp [Builtin.zeroCells, this]
 have hRs : ROW.size = G * 3 := by
  rw [← hROW, Array.size_append, Array.size_append, hzc, hzc, List.size_toArray, lpEl.flat, List.length_take, ← hln]; have : min i n = i := Nat.min_eq_left (by omega); rw [this]; omega
 obtain ⟨W1, hW1⟩ : ∃ W, w.drew.alloc (.cells ROW 75) = W := ⟨_, rfl⟩; have hB1 : Below w.heap.size w W1 := by
  rw [← hW1]; exact bStp (Below.refl _ w).drew (below_al _ _)
 have hS1 : W1.heap[N]? = some (.cells ROW 75 (0, 0)) := by
  rw [← hW1, ← hN]; exact heap_alloc_new w.drew _
 have h0 : W1.ownsRow base 75 3 (.slice (some ⟨N, 0, none⟩) (n + 1) G) (n + 1) (ROW.toList.take ((n + 1) * 3)) := ⟨by rw [List.length_take, Array.length_toList, hRs]; omega, Or.inr ⟨N, G, ROW, rfl, by omega, hS1, hGn, hG63, hRs, rfl⟩⟩; obtain ⟨W2, hW2⟩ : ∃ W, W1.setCells N (i * 3) (lpC p) = W := ⟨_, rfl⟩; obtain ⟨W3, hW3⟩ : ∃ W, W2.drew.setCells N ((i + 1) * 3) cs = W := ⟨_, rfl⟩; have hXl : (ROW.toList.take ((n + 1) * 3)).length = (n + 1) * 3 := by rw [List.length_take, Array.length_toList, hRs]; omega
 have hXt : (ROW.toList.take ((n + 1) * 3)).take (i * 3) = (l.flatMap lpC).take (i * 3) := by
  rw [List.take_take, Nat.min_eq_left (by omega), ← hROW, Array.toList_append, Array.toList_append, List.append_assoc, List.take_append_of_le_length (by rw [lpEl.flat, List.length_take, ← hln]; omega), ← flat_take lpEl, List.take_take, Nat.min_self]
 have h1 := own_lay (lpC p) (i * 3) h0 (by rw [hXl, hpl]; omega); rw [hW2] at h1; have h2 : W3.ownsRow base 75 3 (.slice (some ⟨N, 0, none⟩) (n + 1) G) (n + 1) ((l.take i ++ [p] ++ l.drop i).flatMap lpC) := by
  have h3 := own_lay cs ((i + 1) * 3) (ownsRow_below h1 (Below.refl _ W2).drew) (by simp only [List.length_append, List.length_take, List.length_drop, hXl, hpl, hcl]; omega); rw [hW3] at h3; refine own_congr h3 ?_; rw [show (i + 1) * 3 = i * 3 + 3 by omega, ins_list2 _ cs (lpC p) (l.flatMap lpC) (i * 3) 3 hpl (by rw [hXl, hlen, ← hln]; omega) (by rw [hlen, ← hln]; omega) hXt (by rw [hcs, flat_drop lpEl]), flat_take lpEl, flat_drop lpEl, List.flatMap_append, List.flatMap_append, show ([p].flatMap lpC) = lpC p from List.append_nil _]
 have hk12 : Kept (fun b => b = N) W1 W2 := by rw [← hW2]; exact kept_layK N (lpC p) _ _
 have hk : Kept (fun b => b = N) w W3 := by
  rw [← hW3]; exact (((Kept.of_below hB1).trans hk12).trans (Kept.of_below (Below.refl _ W2).drew)).trans (kept_layK N cs _ _)
 have hvc : ∀ j v, (lpC p)[j]? = some v → W1.cell? ⟨vb, j, none⟩ = some v := fun j v hj => bCel hB1 (by simp [World.cell?, hv, hj])
 have hqc : ∀ j v, cs[j]? = some v → W2.drew.cell? ⟨q, i * 3 + j, none⟩ = some v := fun j v hj => hk12.cell (p := ⟨q, i * 3 + j, none⟩) (fun e => by simp only at e; omega) (bCel hB1 (hown.at lpEl (by
  rw [hcs, ← flat_drop lpEl, List.getElem?_drop] at hj; exact hj)))
 have hold : (Builtin.firstCells i0.size i (.slice (some ⟨q, 0, none⟩) i n)).run Tryz.prog w.drew = .ok ((l.take i).flatMap lpC).toArray w.drew := by
  rw [hz1]; exact run_firstCells_some (w := w.drew) 3 i ⟨q, 0, none⟩ i n ((l.take i).flatMap lpC) (by rw [lpEl.flat, List.length_take, ← hln, Nat.min_eq_left (by omega)]) (fun j v hj => by
   rw [addr_plus, Nat.zero_add]; refine hown.at lpEl ?_; rw [← flat_take lpEl, List.getElem?_take] at hj
   split at hj
   · exact hj
   · cases hj)
 have hrz : ∀ ty, (Builtin.append_ #[23, 3] ty #[.slice (some ⟨q, 0, none⟩) i n, .int .i64 ((n : Int) + 1 - (i : Int))]).run Tryz.prog w = .ok (.slice (some ⟨N, 0, none⟩) (n + 1) G) W1 := fun ty => by
  have h := Lib.run_append_grow_zeros w 23 3 ty 75 i0 _ .i64 .i64 U Tryz.underlying3 hi0 hz0 (some ⟨q, 0, none⟩) i n ((l.take i).flatMap lpC) hold (n + 1 - i) (by omega) (by omega) (by omega) (by omega) (by rw [hz2]; omega) (by rw [hz2, show i + (n + 1 - i) = n + 1 by omega]; exact growslice_fits (by omega) (by omega)); rw [show i + (n + 1 - i) = n + 1 by omega, hN, hG, hROW, hW1] at h; rw [show (n : Int) + 1 - (i : Int) = ((n + 1 - i : Nat) : Int) by omega]; exact h
 have hcA : ∀ ty, (Builtin.copy_ #[23, 23] ty #[.slice (some ⟨N, i * 3, none⟩) (n + 1 - i) (G - i), .slice (some ⟨vb, 0, none⟩) 1 1]).run Tryz.prog W1 = .ok (goInt 1) W2 := fun ty => by
  rw [← show W1.setCells N (i * 3) (lpC p) = W2 from (by have h := hW2; first | exact h | (rw [Nat.mul_one] at h; exact h) | (simp only [Nat.mul_one] at h; exact h))]; exact run_copyE (P := Tryz.prog) W1 23 23 ty 75 i0 N (i * 3) (n + 1 - i) (G - i) (some ⟨vb, 0, none⟩) 1 1 1 (lpC p) U hi0 (by simp only [Nat.min_def]; split <;> omega) (by rw [hpl, hz1]) (fun _ => ⟨_, rfl, fun j v hj => by rw [addr_plus, Nat.zero_add]; exact hvc j v hj⟩) (lpEl.one p) (fun j hj => (raw_cell h0 (by rw [hpl] at hj; omega)).1) (fun j hj => (raw_cell h0 (by rw [hpl] at hj; omega)).2)
 have s1 : ∀ W : World, (Instr.slice 23 (.slice (some ⟨q, 0, none⟩) n n) (some (.int .i64 (i : Int))) none none).run Tryz.prog W = .ok (.slice (some ⟨q, i * 3, none⟩) (n - i) (n - i)) W := fun W => by
  rw [sl_l U hel hso q n n i _ rfl (by omega) (by omega) W, if_neg (by omega)]
 have s2 : ∀ W : World, (Instr.slice 23 (.slice (some ⟨q, 0, none⟩) n n) none (some (.int .i64 (i : Int))) none).run Tryz.prog W = .ok (.slice (some ⟨q, 0, none⟩) i n) W := fun W => sl_h U hel hso q n n i _ rfl (by omega) (by omega) W
 have s3 : ∀ W : World, (Instr.slice 23 (.slice (some ⟨N, 0, none⟩) (n + 1) G) (some (.int .i64 ((i : Int) + 1))) none none).run Tryz.prog W = .ok (.slice (some ⟨N, (i + 1) * 3, none⟩) (n - i) (G - (i + 1))) W := fun W => by
  rw [sl_l U hel hso N (n + 1) G (i + 1) _ (by omega) (by omega) (by omega) W, if_neg (by omega), show n + 1 - (i + 1) = n - i by omega]
 have s4 : ∀ W : World, (Instr.slice 23 (.slice (some ⟨N, 0, none⟩) (n + 1) G) (some (.int .i64 (i : Int))) none none).run Tryz.prog W = .ok (.slice (some ⟨N, i * 3, none⟩) (n + 1 - i) (G - i)) W := fun W => by
  rw [sl_l U hel hso N (n + 1) G i _ rfl (by omega) (by omega) W, if_neg (by omega)]
 have t1 : ((i : Int) == (n : Int)) = false := bFf (by omega); have t2 : decide ((n : Int) < (n : Int) + 1) = true := dTt (by omega); have HI := qH (And.intro hi0 hz1); have HU := qH U; have HW3 := qH (show W2.drew.setCells N ((i + 1) * 3) cs = W3 from (by have h := hW3; first | exact h | (rw [Nat.mul_one] at h; exact h) | (simp only [Nat.mul_one] at h; exact h))); have HR := qH (And.intro (own_flat lpEl (by rw [List.length_append, List.length_append, List.length_take, List.length_drop, List.length_singleton]; omega) h2) hk); have HCS := qH (show cs.length = (n - i) * i0.size ∧ (∀ v ∈ cs, v.oneCell' = true) ∧ cs.length = (n - i) * 3 from ⟨by rw [hcl, hz1], by rw [hcs]; exact lpEl.ones _, hcl⟩); have HQC := qH (show ∀ j v, cs[j]? = some v → W2.drew.cell? ⟨q, i * 3 + j, none⟩ = some v from fun j v hj => (by have h := hqc j v hj; first | exact h | (rw [Nat.mul_one] at h; exact h) | (simp only [Nat.mul_one] at h; exact h))); have HSP := qH (fun (j : Nat) (hj : j < G * 3) => raw_cell (ownsRow_below h1 (Below.refl _ W2).drew) hj); have HB := qH (And.intro hi (And.intro hGn hN)); have hi2 : i ≤ 1000 := by omega
 have hlt2 : decide ((i : Int) ≤ (n : Int)) = true := dTt (by omega); clear hown hln hbq hi0 hz0 hz1 hz2 hlen hpl hcs hcl h0 hW1 hW2 hW3 h1 h2 hk hk12 hvc hqc hold hv hi U hso hel hXl hXt hRs hzc hROW hB1 hS1 hGn hG63 hG hqw hvw hb hN; go_enter Tryz.func225, Tryz.ntmps225; go_wp2_with (at_builtin; refine Lib.wpList_append_run _ rfl _ _ _ _ rfl _ _ rfl rfl _ _ (hrz _) ?_); refine held_start (C := fun _ => True) (by kernel_rfl) ?_; rw [show ({ W2 with drawn := W2.drawn + 1 } : World) = W2.drew from rfl]; refine held_quiet (by kernel_rfl) (fun _ _ d _ _ h => by cases d <;> exact h) trivial [0, 1, 2, 3, 4, 5, 6, 7] 1 _ _ (by kernel_rfl) ?_; change wpQuiet _ _ _ _ (_ :: _ :: _ :: _ :: _ :: _ :: _ :: _ :: []) _
 repeat go_big_quiet_step (fail)
 refine wpQuiet_nil ?_; refine held_do (i := 8) _ rfl (by kernel_rfl) rfl (fun K hK => ?_); refine wp_copyE (.tmp 50) (.tmp 53) 23 23 rfl 75 i0 HU.out HI.out.1 N ((i + 1) * 3) (n - i) (G - (i + 1)) (some ⟨q, i * 3, none⟩) (n - i) (n - i) (n - i) rfl rfl cs (by simp only [Nat.min_def]; split <;> omega) HCS.out.1 (fun _ => ⟨_, rfl, fun j v hj => by rw [addr_plus]; exact HQC.out j v hj⟩) HCS.out.2.1 (fun j hj => (HSP.out _ (by rw [HCS.out.2.2] at hj; have := HB.out; omega)).1) (fun j hj => (HSP.out _ (by rw [HCS.out.2.2] at hj; have := HB.out; omega)).2) ?_
 try simp only [pS]
 refine hK _ _ trivial ?_; clear hK K
 try simp only [pS]
 refine wpAnyH_done (by kernel_rfl) ?_ _; rw [HW3.out]; go_wp2_with fail; go_ret; exact ⟨_, rfl, HR.out.1, HR.out.2.os, HR.out.2.tape, HR.out.2.output, HR.out.2.size, fun x hx _ => HR.out.2.block x hx (fun e => by have := HB.out.2.2; omega)⟩
theorem insertLp_any (l : List Lp) (base : Nat) (a : Option Addr) (n cap i : Nat) (p : Lp) (vb : Nat) (w : World) (hown : Own lpC 3 75 w base (.slice a n cap) l) (hl : n ≤ 1000) (hi : i ≤ n) (hv : w.heap[vb]? = some (.cells (lpC p).toArray 75 (0, 0))) (hne : (Value.slice a n cap).ownBlock ≠ some vb) (hb : base ≤ w.heap.size) :
 Calls Tryz.prog 225 #[.slice a n cap, .int .i64 i, .slice (some ⟨vb, 0, none⟩) 1 1] w fun e w' => ∃ v, e = .returned v ∧ Own lpC 3 75 w' base v (l.take i ++ [p] ++ l.drop i) ∧ w.grownBy w' (Value.slice a n cap).ownBlock := by
 obtain ⟨a', c', he, hlc, hr, _⟩ := hown.row lpEl; injection he with e1 e2 e3; subst e1 e3; have hln : l.length = n := e2.symm; by_cases hin : i = n
 · subst hin
   refine insertEndLp l base a i cap p vb w hown hln hl ⟨fun _ => ⟨vb, 0, rfl, lt_of_block hv, fun j x hj t u hu => ?_⟩⟩ hb
   match j, hj with
   | 0, hj =>
    injection hj with hj; subst hj; simp [World.cell?, hv, hu]
 · obtain ⟨q, c2, he2, _, _⟩ := hown.open (by omega)
   injection he2 with f1 f2 f3; subst f1; by_cases hroom : n + 1 ≤ cap
   · exact insertRoomLp l base q n cap i p vb w hown hl (by omega) hroom hv (fun e => hne (by rw [e]; rfl))
   · obtain rfl : n = cap := by omega
     exact insertGrowLp l base q n i p vb w hown hl (by omega) hv hb
theorem deleteTg_any (l : List ByteArray) (base q cap j p n n1 : Nat) (w : World) (hown : Own tgC 1 9 w base (.slice (some ⟨q, 0, none⟩) n cap) l) (hn : l.length ≤ 1000) (hj : j < n) (hp : p = j + 1) (h1 : n = n1 + 1) :
 Calls Tryz.prog 171 #[.slice (some ⟨q, 0, none⟩) n cap, .int .i64 j, .int .i64 p] w fun e w' =>
  e = .returned (.slice (some ⟨q, 0, none⟩) n1 cap) ∧ Own tgC 1 9 w' base (.slice (some ⟨q, 0, none⟩) n1 cap) (l.take j ++ l.drop (j + 1)) ∧ Kept (fun b => b = q) w w' := by
 obtain ⟨hln, hnc, hcm, hbq⟩ := hown.facts; unfold maxLen at hcm; obtain ⟨m, hm⟩ : ∃ m, n = p + m := ⟨n - p, by omega⟩; have hel : Tryz.prog.elem 24 = 9 := by kernel_rfl
 have hso := Tryz.sizeOf9; have U := underTg.out; have hne : ((j : Int) == (p : Int)) = false := bFf (by omega); obtain ⟨ad, had⟩ : ∃ ad : Addr, ad = if cap = p then ⟨q, 0, none⟩ else ⟨q, p, none⟩ := ⟨_, rfl⟩; have s1 : ∀ W : World, (Instr.slice 24 (.slice (some ⟨q, 0, none⟩) n cap) (some (.int .i64 (j : Int))) (some (.int .i64 (p : Int))) (some (.int .i64 (n : Int)))).run Tryz.prog W = .ok (.slice (some ⟨q, j, none⟩) 1 (n - j)) W := fun W => by
  rw [run_slice_lhm (w := W) 24 _ n cap U .i64 .i64 .i64 (j : Int) (p : Int) (n : Int) (by omega) (by omega) (by omega) (by omega), hel, hso]; have : ¬ n = j := by omega
  have h2 : p - j = 1 := by omega
  simp [sliced, Result.andThen, this, addr_plus, h2]
 have s2 : ∀ W : World, (Instr.slice 24 (.slice (some ⟨q, 0, none⟩) n cap) none (some (.int .i64 (j : Int))) none).run Tryz.prog W = .ok (.slice (some ⟨q, 0, none⟩) j cap) W := fun W => sl_h U hel hso q n cap j _ rfl (by omega) (by omega) W
 have s3 : ∀ W : World, (Instr.slice 24 (.slice (some ⟨q, 0, none⟩) n cap) (some (.int .i64 (p : Int))) none none).run Tryz.prog W = .ok (.slice (some ad) m (cap - p)) W := fun W => by
  rw [run_slice_l (w := W) 24 _ n cap U .i64 (p : Int) (by omega) (by omega), hel, hso, had]; have h2 : n - p = m := by omega
  by_cases h : cap = p
  · simp [sliced, Result.andThen, h, h2]
  · simp [sliced, Result.andThen, h, addr_plus, h2]
 have s4 : ∀ W : World, (Instr.slice 24 (.slice (some ⟨q, 0, none⟩) n1 cap) (some (.int .i64 (n1 : Int))) (some (.int .i64 (n : Int))) none).run Tryz.prog W = .ok (.slice (some ⟨q, n1, none⟩) 1 (cap - n1)) W := fun W => by
  rw [run_slice_lh (w := W) 24 _ n1 cap U .i64 .i64 (n1 : Int) (n : Int) (by omega) (by omega) (by omega), hel, hso]; have : ¬ cap = n1 := by omega
  have h2 : n - n1 = 1 := by omega
  simp [sliced, Result.andThen, this, addr_plus, h2]
 obtain ⟨news, hnews⟩ : ∃ news, news = (l.drop p).flatMap tgC := ⟨_, rfl⟩; have hnl : news.length = m * 1 := by rw [hnews, tgEl.flat, List.length_drop]; omega
 have hone : ∀ u ∈ news, u.oneCell' = true := by rw [hnews]; exact tgEl.ones _
 have hcc : ∀ i u, news[i]? = some u → w.cell? (ad.add i) = some u := fun i u hi => by
  have hi2 := (List.getElem?_eq_some_iff.1 hi).1; rw [hnl] at hi2; rw [had, if_neg (by omega), addr_plus]; refine hown.at tgEl ?_; rw [hnews, ← flat_drop tgEl, List.getElem?_drop] at hi; rw [show p + i = p * 1 + i by omega]; exact hi
 have hsp := fun (i : Nat) (hi : i < cap * 1) => hown.cellE hi
 have hlen := tgEl.flat l; obtain ⟨W1, hW1⟩ : ∃ W, w.drew.setCells q (j * 1) news = W := ⟨_, rfl⟩; have hro : W1.ownsRow base 9 1 (.slice (some ⟨q, 0, none⟩) n cap) n ((l.flatMap tgC).take (j * 1) ++ news ++ (l.flatMap tgC).drop (j * 1 + news.length)) := by
  rw [← hW1]; have h0 := hown.below (Below.refl _ w).drew; unfold Own at h0; rw [← hln] at h0; exact own_lay news (j * 1) h0 (by rw [hnl, hlen, ← hln]; omega)
 have hk1 : Kept (fun b => b = q) w W1 := by
  rw [← hW1]; exact (Kept.of_below (Below.refl _ w).drew).trans (kept_layK q news _ _)
 have hz : ∀ w, (zeroValue 9).run Tryz.prog w = .ok (.string ⟨#[]⟩) w := fun w => by kernel_rfl
 have hcell : ∀ i, i < cap * 1 → (W1.cell? ⟨q, i, none⟩).isSome = true ∧ W1.frozen? ⟨q, i, none⟩ = false := fun i hi => raw_cell hro hi
 obtain ⟨vs, hvs⟩ := run_clear_rowE (P := Tryz.prog) W1 24 9 0 (.string ⟨#[]⟩) U hz (by decide) q (n1) 1 (cap - n1) (by omega)
  (fun i (hi : i < 1 * 1) => (hcell (n1 + i) (by omega)).1) (fun i (hi : i < 1 * 1) => (hcell (n1 + i) (by omega)).2)
 obtain ⟨W2, hW2⟩ : ∃ W, W1.setCells q (n1) vs = W := ⟨_, rfl⟩; have hr2 : Own tgC 1 9 W2 base (.slice (some ⟨q, 0, none⟩) n1 cap) (l.take j ++ l.drop (j + 1)) := by
  have h3 := own_less hro (n' := n1) (by omega); have e : (((l.flatMap tgC).take (j * 1) ++ news ++ (l.flatMap tgC).drop (j * 1 + news.length)).take (n1 * 1)) = (l.take j ++ l.drop (j + 1)).flatMap tgC := by
   rw [List.take_append_of_le_length (by rw [List.length_append, List.length_take, hnl, hlen, ← hln]; omega), List.take_of_length_le (by rw [List.length_append, List.length_take, hnl, hlen, ← hln]; omega), flat_take tgEl, hnews, hp, List.flatMap_append]
  rw [e] at h3; rw [← hW2]; exact own_flat tgEl (by rw [List.length_append, List.length_take, List.length_drop]; omega) (own_cleared h3 vs (n1) (by rw [tgEl.flat, List.length_append, List.length_take, List.length_drop]; omega))
 have hk2 : Kept (fun b => b = q) w W2 := by
  rw [← hW2]; exact hk1.trans (kept_layK q vs _ _)
 rw [hW2] at hvs; obtain ⟨i0, hi0, hz0, hz1, hz2⟩ := info_parts infoTg.out; have hjm : j + m = n1 := by omega
 have HI := qH (And.intro hi0 hz1); have HN := qH (And.intro hnl (And.intro hcc hone)); have HS := qH hsp; have HW1 := qH (show w.drew.setCells q (j) news = W1 from by first | exact hW1 | (rw [Nat.mul_one] at hW1; exact hW1)); have HR := qH (And.intro hr2 hk2); have HJ := qH hjm; have hn1c : n1 ≤ cap := by omega
 clear hown hnl hcc hone hsp hW1 hro hk1 hz hr2 hk2 hi0 hz0 hz1 hz2 hnews hjm hW2 had hn hln hbq hp h1 hm hlen hcell; go_enter Tryz.func171, Tryz.ntmps171; go_wp2_with fail
 go_region_law (refine step_append_roomK 1 rfl (.tmp 22) (.tmp 25) 24 rfl 9 i0 U HI.out.1 HI.out.2 q j cap rfl ad m (cap - p) rfl news HN.out.1 HN.out.2.1 HN.out.2.2 n1 HJ.out hn1c HS.out ?_)
 all_goals
  rw [HW1.out]; go_wp2_with fail; go_ret; exact ⟨rfl, HR.out.1, HR.out.2⟩
theorem insertEndTg (l : List ByteArray) (base : Nat) (a : Option Addr) (n cap : Nat) (p : ByteArray) (vb : Nat) (w : World) (hown : Own tgC 1 9 w base (.slice a n cap) l) (hln : l.length = n) (hl : n ≤ 1000) (hv : Rw tgC 1 w (some ⟨vb, 0, none⟩) [p]) (hb : base ≤ w.heap.size) :
 Calls Tryz.prog 170 #[.slice a n cap, .int .i64 n, .slice (some ⟨vb, 0, none⟩) 1 1] w fun e w' => ∃ v, e = .returned v ∧ Own tgC 1 9 w' base v (l.take n ++ [p] ++ l.drop n) ∧ w.grownBy w' (Value.slice a n cap).ownBlock := by
 have hel : Tryz.prog.elem 24 = 9 := by kernel_rfl
 have hso := Tryz.sizeOf9; have U := underTg.out; have he : l.take n ++ [p] ++ l.drop n = l ++ [p] := by rw [← hln, List.take_length, List.drop_length, List.append_nil]
 have HP := qH (And.intro hown (And.intro hv he)); have HLN := qH hln; have s1 : ∀ W : World, ∃ u, (Instr.slice 24 (.slice a n cap) (some (.int .i64 (n : Int))) none none).run Tryz.prog W = .ok u W := fun W => by
  rcases hown.2 with ⟨h0, h1⟩ | ⟨g, cap', cur, hv', hg, hb', e1, e2, e3, e4⟩
  · injection h0 with f1 f2 f3
    subst f1 f2 f3; exact ⟨.slice none 0 0, by kernel_rfl⟩
  · injection hv' with f1 f2 f3
    subst f1 f3; unfold maxLen at e2; exact ⟨_, sl_l U hel hso g n cap n _ rfl (Nat.le_refl _) (by omega) W⟩
 obtain ⟨u, hu⟩ := s1 w; have he2 : ((n : Int) == (n : Int)) = true := by simp
 clear s1 hown hv he hln; go_enter Tryz.func170, Tryz.ntmps170; go_wp2_with (at_builtin; refine append_Tgs rfl _ _ rfl rfl HP.out.1 rfl (m := [p]) rfl HP.out.2.1 (by have := HLN.out; omega) hb (fun v' w' ho hg => ?_)); go_ret; exact ⟨v', rfl, HP.out.2.2 ▸ ho, hg⟩
theorem insertRoomTg (l : List ByteArray) (base q n cap i : Nat) (p : ByteArray) (vb : Nat) (w : World) (hown : Own tgC 1 9 w base (.slice (some ⟨q, 0, none⟩) n cap) l) (hl : n ≤ 1000) (hi : i < n) (hroom : n + 1 ≤ cap) (hv : w.heap[vb]? = some (.cells (tgC p).toArray 9 (0, 0))) (hne : vb ≠ q) :
 Calls Tryz.prog 170 #[.slice (some ⟨q, 0, none⟩) n cap, .int .i64 i, .slice (some ⟨vb, 0, none⟩) 1 1] w fun e w' => ∃ v, e = .returned v ∧ Own tgC 1 9 w' base v (l.take i ++ [p] ++ l.drop i) ∧ w.grownBy w' (Value.slice (some ⟨q, 0, none⟩) n cap).ownBlock := by
 obtain ⟨hln, hnc, hcm, hbq⟩ := hown.facts; unfold maxLen at hcm; have hel : Tryz.prog.elem 24 = 9 := by kernel_rfl
 have hso := Tryz.sizeOf9; have U := underTg.out; obtain ⟨i0, hi0, hz0, hz1, hz2⟩ := info_parts infoTg.out; have hlen := tgEl.flat l; have hpl := tgEl.len p
 -- the world behind both copies
 obtain ⟨cs, hcs⟩ : ∃ cs, cs = (l.drop i).flatMap tgC := ⟨_, rfl⟩; have hcl : cs.length = (n - i) * 1 := by rw [hcs, tgEl.flat, List.length_drop, ← hln]
 have hraw : w.ownsRow base 9 1 (.slice (some ⟨q, 0, none⟩) n cap) n (l.flatMap tgC) := by
  have h := hown; unfold Own at h; rw [← hln] at h; exact h
 obtain ⟨ys, hys, h0⟩ := own_more hraw (n' := n + 1) (by omega) hroom; rw [show (n + 1 - n) * 1 = 1 by omega] at hys; obtain ⟨W1, hW1⟩ : ∃ W, w.drew.setCells q ((i + 1) * 1) cs = W := ⟨_, rfl⟩; obtain ⟨W2, hW2⟩ : ∃ W, W1.setCells q (i * 1) (tgC p) = W := ⟨_, rfl⟩; have h1 : W1.ownsRow base 9 1 (.slice (some ⟨q, 0, none⟩) (n + 1) cap) (n + 1) ((l.flatMap tgC ++ ys).take ((i + 1) * 1) ++ cs ++ (l.flatMap tgC ++ ys).drop ((i + 1) * 1 + cs.length)) := by
  rw [← hW1]; exact own_lay cs _ (ownsRow_below h0 (Below.refl _ w).drew) (by rw [hcl, List.length_append, hlen, hys, ← hln]; omega)
 have h2 : W2.ownsRow base 9 1 (.slice (some ⟨q, 0, none⟩) (n + 1) cap) (n + 1) ((l.take i ++ [p] ++ l.drop i).flatMap tgC) := by
  have h3 := own_lay (tgC p) (i * 1) h1 (by rw [hpl, List.length_append, List.length_append, List.length_take, List.length_append, hlen, hys, hcl, ← hln]; omega); rw [hW2] at h3; refine own_congr h3 ?_; rw [show (i + 1) * 1 = i * 1 + 1 by omega, ins_list (l.flatMap tgC) ys cs (tgC p) (i * 1) 1 hpl hys (by rw [hlen, ← hln]; omega) (by rw [hcs, flat_drop tgEl]), flat_take tgEl, flat_drop tgEl, List.flatMap_append, List.flatMap_append, show ([p].flatMap tgC) = tgC p from List.append_nil _]
 have hk : Kept (fun b => b = q) w W2 := by
  rw [← hW2, ← hW1]; exact ((Kept.of_below (Below.refl _ w).drew).trans (kept_layK q cs _ _)).trans (kept_layK q (tgC p) _ _)
 have hvc : ∀ j v, (tgC p)[j]? = some v → w.cell? ⟨vb, j, none⟩ = some v := fun j v hj => by simp [World.cell?, hv, hj]
 have hov : ∀ (W : World), (∀ b : Nat, W.heap[b]? = w.heap[b]?) → ∀ o' lb cb, (callFunc 173 #[.slice (some ⟨vb, 0, none⟩) 1 1, .slice (some ⟨q, o', none⟩) lb cb]).run Tryz.prog W = .ok (.value (.bool false)) W := fun W hW o' lb cb => by
  have hsa : W.shape? vb = some (9, 1) := by simp [World.shape?, hW, hv, hpl]
  have hsb : W.shape? q = some (9, cap * 1) := by
   have h := hown.shape; simp only [World.shape?, hW] at h ⊢; exact h
  have hfr : ∀ x, W.frozen? ⟨vb, x, none⟩ = false := fun x => by simp [World.frozen?, hW, hv]
  rw [run_callFunc_extern Tryz.func173 (by kernel_rfl) (by kernel_rfl) (by kernel_rfl) (e := Extern.SlicesOverlaps.overlaps #[24, 24] #[4]) (by kernel_rfl),
   Lib.run_overlaps_apart W 24 4 9 U 1 hso ⟨vb, 0, none⟩ ⟨q, o', none⟩ 1 1 lb cb hne 9 9 1 (cap * 1) hsa hsb (by omega) (hfr 0) (hfr 1)]
  rfl
 have hsp := fun (i : Nat) (hi : i < cap * 1) => hown.cellE hi
 have HI := qH (And.intro hi0 hz1); have HOV := qH hov; have HD := qH (show W1.setCells q (i) (tgC p) = W2 from (by have h := hW2; first | exact h | (rw [Nat.mul_one] at h; exact h) | (simp only [Nat.mul_one] at h; exact h))); have HD1 := qH (show w.drew.setCells q ((i + 1)) cs = W1 from (by have h := hW1; first | exact h | (rw [Nat.mul_one] at h; exact h) | (simp only [Nat.mul_one] at h; exact h))); have HR := qH (And.intro (own_flat tgEl (by rw [List.length_append, List.length_append, List.length_take, List.length_drop, List.length_singleton]; omega) h2) hk); have HCS := qH (show cs.length = (n - i) * i0.size ∧ (∀ j v, cs[j]? = some v → w.cell? ⟨q, i + j, none⟩ = some v) ∧ (∀ v ∈ cs, v.oneCell' = true) from ⟨by rw [hcl, hz1], fun j v hj => by
  rw [hcs, ← flat_drop tgEl, List.getElem?_drop] at hj; exact (by have h := hown.at tgEl hj; first | exact h | (rw [Nat.mul_one] at h; exact h) | (simp only [Nat.mul_one] at h; exact h)), by rw [hcs]; exact tgEl.ones _⟩)
 have HSP := qH hsp; have HN := qH (show cs.length = (n - i) * 1 from hcl); have HV1 := qH (show (∀ j v, (tgC p)[j]? = some v → W1.cell? ⟨vb, j, none⟩ = some v) ∧ (∀ j, j < cap * 1 → (W1.cell? ⟨q, j, none⟩).isSome = true ∧ W1.frozen? ⟨q, j, none⟩ = false) ∧ (tgC p).length = i0.size from by
  have hk1 : Kept (fun b => b = q) w W1 := by
   rw [← hW1]; exact (Kept.of_below (Below.refl _ w).drew).trans (kept_layK q cs _ _)
  exact ⟨fun j v hj => hk1.cell (p := ⟨vb, j, none⟩) hne (hvc j v hj), fun j hj => raw_cell h1 hj, by rw [hpl, hz1]⟩)
 have s1 : ∀ W : World, (Instr.slice 24 (.slice (some ⟨q, 0, none⟩) n cap) (some (.int .i64 (i : Int))) none none).run Tryz.prog W = .ok (.slice (some ⟨q, i, none⟩) (n - i) (cap - i)) W := fun W => by
  rw [sl_l U hel hso q n cap i _ rfl (by omega) (by omega) W, if_neg (by omega)]; simp only [Nat.mul_one]
 have s2 : ∀ W : World, (Instr.slice 24 (.slice (some ⟨q, 0, none⟩) n cap) none (some (.int .i64 ((n : Int) + 1))) none).run Tryz.prog W = .ok (.slice (some ⟨q, 0, none⟩) (n + 1) cap) W := fun W => sl_h U hel hso q n cap (n + 1) _ (by omega) (by omega) (by omega) W
 have s3 : ∀ W : World, (Instr.slice 24 (.slice (some ⟨q, 0, none⟩) (n + 1) cap) (some (.int .i64 ((i : Int) + 1))) none none).run Tryz.prog W = .ok (.slice (some ⟨q, (i + 1), none⟩) (n - i) (cap - (i + 1))) W := fun W => by
  rw [sl_l U hel hso q (n + 1) cap (i + 1) _ (by omega) (by omega) (by omega) W, if_neg (by omega), show n + 1 - (i + 1) = n - i by omega]; simp only [Nat.mul_one]
 have s4 : ∀ W : World, (Instr.slice 24 (.slice (some ⟨q, 0, none⟩) (n + 1) cap) (some (.int .i64 (i : Int))) none none).run Tryz.prog W = .ok (.slice (some ⟨q, i, none⟩) (n + 1 - i) (cap - i)) W := fun W => by
  rw [sl_l U hel hso q (n + 1) cap i _ rfl (by omega) (by omega) W, if_neg (by omega)]; simp only [Nat.mul_one]
 have t1 : ((i : Int) == (n : Int)) = false := bFf (by omega); have t2 : decide ((cap : Int) < (n : Int) + 1) = false := dFf (by omega); have HU := qH U; have HONE := qH (tgEl.one p); have HPL := qH hpl; have HB := qH (And.intro hi hroom); have hk1000 : cap ≤ 9223372036854775807 := by omega
 have hi2 : i ≤ 1000 := by omega
 clear hown hln hnc hcm hbq hi0 hz0 hz1 hz2 hlen hpl hcs hcl hys h0 hW1 hW2 h1 h2 hk hvc hov hsp hv hi hroom U hso hel ys hraw; go_enter Tryz.func170, Tryz.ntmps170; have hov0 := fun o' lb cb => HOV.out w (fun _ => rfl) o' lb cb
 go_wp2_with (simp only [hov0]); refine held_start (C := fun _ => True) (by kernel_rfl) ?_; rw [show ({ w with drawn := w.drawn + 1 } : World) = w.drew from rfl]; refine held_quiet (by kernel_rfl) (fun _ _ d _ _ h => by cases d <;> exact h) trivial [0, 1, 2, 3, 4, 5, 6, 7] 1 _ _ (by kernel_rfl) ?_; change wpQuiet _ _ _ _ (_ :: _ :: _ :: _ :: _ :: _ :: _ :: _ :: []) _
 repeat go_big_quiet_step (fail)
 refine wpQuiet_nil ?_; refine held_do (i := 8) _ rfl (by kernel_rfl) rfl (fun K hK => ?_); refine wp_copyE (.tmp 73) (.tmp 76) 24 24 rfl 9 i0 HU.out HI.out.1 q ((i + 1)) (n - i) (cap - (i + 1)) (some ⟨q, i, none⟩) (n + 1 - i) (cap - i) (n - i) rfl rfl cs (by simp only [Nat.min_def]; split <;> omega) HCS.out.1 (fun _ => ⟨_, rfl, fun j v hj => by rw [addr_plus]; exact HCS.out.2.1 j v hj⟩) HCS.out.2.2 (fun j hj => (HSP.out _ (by rw [HN.out] at hj; have := HB.out; omega)).1) (fun j hj => (HSP.out _ (by rw [HN.out] at hj; have := HB.out; omega)).2) ?_
 try simp only [pS]
 refine hK _ _ trivial ?_; clear hK K
 try simp only [pS]
 refine wpAnyH_done (by kernel_rfl) ?_ _; rw [HD1.out]; have hcp : ∀ ty, (Builtin.copy_ #[24, 24] ty #[.slice (some ⟨q, i, none⟩) (n + 1 - i) (cap - i), .slice (some ⟨vb, 0, none⟩) 1 1]).run Tryz.prog W1 = .ok (goInt 1) W2 := fun ty => by
  rw [← HD.out]; exact run_copyE (P := Tryz.prog) W1 24 24 ty 9 i0 q (i) (n + 1 - i) (cap - i) (some ⟨vb, 0, none⟩) 1 1 1 (tgC p) HU.out HI.out.1 (by have := HB.out; simp only [Nat.min_def]; split <;> omega) (by rw [HV1.out.2.2, Nat.one_mul]) (fun _ => ⟨_, rfl, fun j v hj => by rw [addr_plus, Nat.zero_add]; exact HV1.out.1 j v hj⟩) HONE.out (fun j hj => (HV1.out.2.1 _ (by rw [HPL.out] at hj; have := HB.out; omega)).1) (fun j hj => (HV1.out.2.1 _ (by rw [HPL.out] at hj; have := HB.out; omega)).2)
 go_wp2_with fail; go_ret; exact ⟨_, rfl, HR.out.1, HR.out.2.os, HR.out.2.tape, HR.out.2.output, HR.out.2.size, fun x hx hne => HR.out.2.block x hx (fun e => hne (by rw [e]; rfl))⟩
theorem insertGrowTg (l : List ByteArray) (base q n i : Nat) (p : ByteArray) (vb : Nat) (w : World) (hown : Own tgC 1 9 w base (.slice (some ⟨q, 0, none⟩) n n) l) (hl : n ≤ 1000) (hi : i < n) (hv : w.heap[vb]? = some (.cells (tgC p).toArray 9 (0, 0))) (hb : base ≤ w.heap.size) :
 Calls Tryz.prog 170 #[.slice (some ⟨q, 0, none⟩) n n, .int .i64 i, .slice (some ⟨vb, 0, none⟩) 1 1] w fun e w' => ∃ v, e = .returned v ∧ Own tgC 1 9 w' base v (l.take i ++ [p] ++ l.drop i) ∧ w.grownBy w' (Value.slice (some ⟨q, 0, none⟩) n n).ownBlock := by
 obtain ⟨hln, _, _, hbq⟩ := hown.facts; have hel : Tryz.prog.elem 24 = 9 := by kernel_rfl
 have hso := Tryz.sizeOf9; have U := underTg.out; obtain ⟨i0, hi0, hz0, hz1, hz2⟩ := info_parts infoTg.out; have hlen := tgEl.flat l; have hpl := tgEl.len p; have hqw : q < w.heap.size := (hown.lt q rfl).2; have hvw : vb < w.heap.size := lt_of_block hv; obtain ⟨cs, hcs⟩ : ∃ cs, cs = (l.drop i).flatMap tgC := ⟨_, rfl⟩; have hcl : cs.length = (n - i) * 1 := by rw [hcs, tgEl.flat, List.length_drop, ← hln]
 obtain ⟨N, hN⟩ : ∃ N, w.heap.size = N := ⟨_, rfl⟩; obtain ⟨G, hG⟩ : ∃ G, grownCap w (n + 1) n 9 = G := ⟨_, rfl⟩; have hGn : n + 1 ≤ G := by rw [← hG]; exact grownCap_ge w _ _ _
 have hG63 : G ≤ maxLen := by rw [← hG]; exact grownCap_le_maxLen w _ _ _ (by unfold maxLen; omega)
 obtain ⟨ROW, hROW⟩ : ∃ ROW : Array Value, ((l.take i).flatMap tgC).toArray ++ Builtin.zeroCells (Value.cells (.string ⟨#[]⟩)) (n + 1 - i) ++ Builtin.zeroCells (Value.cells (.string ⟨#[]⟩)) (G - (n + 1)) = ROW := ⟨_, rfl⟩; have hzc : ∀ m, (Builtin.zeroCells (Value.cells (.string ⟨#[]⟩)) m).size = m * 1 := fun m => by
  have : (Value.cells (.string ⟨#[]⟩)).size = 1 := by rfl
  simp [Builtin.zeroCells, this]
 have hRs : ROW.size = G * 1 := by
  rw [← hROW, Array.size_append, Array.size_append, hzc, hzc, List.size_toArray, tgEl.flat, List.length_take, ← hln]; have : min i n = i := Nat.min_eq_left (by omega); rw [this]; omega
 obtain ⟨W1, hW1⟩ : ∃ W, w.drew.alloc (.cells ROW 9) = W := ⟨_, rfl⟩; have hB1 : Below w.heap.size w W1 := by
  rw [← hW1]; exact bStp (Below.refl _ w).drew (below_al _ _)
 have hS1 : W1.heap[N]? = some (.cells ROW 9 (0, 0)) := by
  rw [← hW1, ← hN]; exact heap_alloc_new w.drew _
 have h0 : W1.ownsRow base 9 1 (.slice (some ⟨N, 0, none⟩) (n + 1) G) (n + 1) (ROW.toList.take ((n + 1) * 1)) := ⟨by rw [List.length_take, Array.length_toList, hRs]; omega, Or.inr ⟨N, G, ROW, rfl, by omega, hS1, hGn, hG63, hRs, rfl⟩⟩; obtain ⟨W2, hW2⟩ : ∃ W, W1.setCells N (i * 1) (tgC p) = W := ⟨_, rfl⟩; obtain ⟨W3, hW3⟩ : ∃ W, W2.drew.setCells N ((i + 1) * 1) cs = W := ⟨_, rfl⟩; have hXl : (ROW.toList.take ((n + 1) * 1)).length = (n + 1) * 1 := by rw [List.length_take, Array.length_toList, hRs]; omega
 have hXt : (ROW.toList.take ((n + 1) * 1)).take (i * 1) = (l.flatMap tgC).take (i * 1) := by
  rw [List.take_take, Nat.min_eq_left (by omega), ← hROW, Array.toList_append, Array.toList_append, List.append_assoc, List.take_append_of_le_length (by rw [tgEl.flat, List.length_take, ← hln]; omega), ← flat_take tgEl, List.take_take, Nat.min_self]
 have h1 := own_lay (tgC p) (i * 1) h0 (by rw [hXl, hpl]; omega); rw [hW2] at h1; have h2 : W3.ownsRow base 9 1 (.slice (some ⟨N, 0, none⟩) (n + 1) G) (n + 1) ((l.take i ++ [p] ++ l.drop i).flatMap tgC) := by
  have h3 := own_lay cs ((i + 1) * 1) (ownsRow_below h1 (Below.refl _ W2).drew) (by simp only [List.length_append, List.length_take, List.length_drop, hXl, hpl, hcl]; omega); rw [hW3] at h3; refine own_congr h3 ?_; rw [show (i + 1) * 1 = i * 1 + 1 by omega, ins_list2 _ cs (tgC p) (l.flatMap tgC) (i * 1) 1 hpl (by rw [hXl, hlen, ← hln]; omega) (by rw [hlen, ← hln]; omega) hXt (by rw [hcs, flat_drop tgEl]), flat_take tgEl, flat_drop tgEl, List.flatMap_append, List.flatMap_append, show ([p].flatMap tgC) = tgC p from List.append_nil _]
 have hk12 : Kept (fun b => b = N) W1 W2 := by rw [← hW2]; exact kept_layK N (tgC p) _ _
 have hk : Kept (fun b => b = N) w W3 := by
  rw [← hW3]; exact (((Kept.of_below hB1).trans hk12).trans (Kept.of_below (Below.refl _ W2).drew)).trans (kept_layK N cs _ _)
 have hvc : ∀ j v, (tgC p)[j]? = some v → W1.cell? ⟨vb, j, none⟩ = some v := fun j v hj => bCel hB1 (by simp [World.cell?, hv, hj])
 have hqc : ∀ j v, cs[j]? = some v → W2.drew.cell? ⟨q, i * 1 + j, none⟩ = some v := fun j v hj => hk12.cell (p := ⟨q, i * 1 + j, none⟩) (fun e => by simp only at e; omega) (bCel hB1 (hown.at tgEl (by
  rw [hcs, ← flat_drop tgEl, List.getElem?_drop] at hj; exact hj)))
 have hold : (Builtin.firstCells i0.size i (.slice (some ⟨q, 0, none⟩) i n)).run Tryz.prog w.drew = .ok ((l.take i).flatMap tgC).toArray w.drew := by
  rw [hz1]; exact run_firstCells_some (w := w.drew) 1 i ⟨q, 0, none⟩ i n ((l.take i).flatMap tgC) (by rw [tgEl.flat, List.length_take, ← hln, Nat.min_eq_left (by omega)]) (fun j v hj => by
   rw [addr_plus, Nat.zero_add]; refine hown.at tgEl ?_; rw [← flat_take tgEl, List.getElem?_take] at hj
   split at hj
   · exact hj
   · cases hj)
 have hrz : ∀ ty, (Builtin.append_ #[24, 3] ty #[.slice (some ⟨q, 0, none⟩) i n, .int .i64 ((n : Int) + 1 - (i : Int))]).run Tryz.prog w = .ok (.slice (some ⟨N, 0, none⟩) (n + 1) G) W1 := fun ty => by
  have h := Lib.run_append_grow_zeros w 24 3 ty 9 i0 _ .i64 .i64 U Tryz.underlying3 hi0 hz0 (some ⟨q, 0, none⟩) i n ((l.take i).flatMap tgC) hold (n + 1 - i) (by omega) (by omega) (by omega) (by omega) (by rw [hz2]; omega) (by rw [hz2, show i + (n + 1 - i) = n + 1 by omega]; exact growslice_fits (by omega) (by omega)); rw [show i + (n + 1 - i) = n + 1 by omega, hN, hG, hROW, hW1] at h; rw [show (n : Int) + 1 - (i : Int) = ((n + 1 - i : Nat) : Int) by omega]; exact h
 have hcA : ∀ ty, (Builtin.copy_ #[24, 24] ty #[.slice (some ⟨N, i, none⟩) (n + 1 - i) (G - i), .slice (some ⟨vb, 0, none⟩) 1 1]).run Tryz.prog W1 = .ok (goInt 1) W2 := fun ty => by
  rw [← show W1.setCells N (i) (tgC p) = W2 from (by have h := hW2; first | exact h | (rw [Nat.mul_one] at h; exact h) | (simp only [Nat.mul_one] at h; exact h))]; exact run_copyE (P := Tryz.prog) W1 24 24 ty 9 i0 N (i) (n + 1 - i) (G - i) (some ⟨vb, 0, none⟩) 1 1 1 (tgC p) U hi0 (by simp only [Nat.min_def]; split <;> omega) (by rw [hpl, hz1]) (fun _ => ⟨_, rfl, fun j v hj => by rw [addr_plus, Nat.zero_add]; exact hvc j v hj⟩) (tgEl.one p) (fun j hj => (raw_cell h0 (by rw [hpl] at hj; omega)).1) (fun j hj => (raw_cell h0 (by rw [hpl] at hj; omega)).2)
 have s1 : ∀ W : World, (Instr.slice 24 (.slice (some ⟨q, 0, none⟩) n n) (some (.int .i64 (i : Int))) none none).run Tryz.prog W = .ok (.slice (some ⟨q, i, none⟩) (n - i) (n - i)) W := fun W => by
  rw [sl_l U hel hso q n n i _ rfl (by omega) (by omega) W, if_neg (by omega)]; simp only [Nat.mul_one]
 have s2 : ∀ W : World, (Instr.slice 24 (.slice (some ⟨q, 0, none⟩) n n) none (some (.int .i64 (i : Int))) none).run Tryz.prog W = .ok (.slice (some ⟨q, 0, none⟩) i n) W := fun W => sl_h U hel hso q n n i _ rfl (by omega) (by omega) W
 have s3 : ∀ W : World, (Instr.slice 24 (.slice (some ⟨N, 0, none⟩) (n + 1) G) (some (.int .i64 ((i : Int) + 1))) none none).run Tryz.prog W = .ok (.slice (some ⟨N, (i + 1), none⟩) (n - i) (G - (i + 1))) W := fun W => by
  rw [sl_l U hel hso N (n + 1) G (i + 1) _ (by omega) (by omega) (by omega) W, if_neg (by omega), show n + 1 - (i + 1) = n - i by omega]; simp only [Nat.mul_one]
 have s4 : ∀ W : World, (Instr.slice 24 (.slice (some ⟨N, 0, none⟩) (n + 1) G) (some (.int .i64 (i : Int))) none none).run Tryz.prog W = .ok (.slice (some ⟨N, i, none⟩) (n + 1 - i) (G - i)) W := fun W => by
  rw [sl_l U hel hso N (n + 1) G i _ rfl (by omega) (by omega) W, if_neg (by omega)]; simp only [Nat.mul_one]
 have t1 : ((i : Int) == (n : Int)) = false := bFf (by omega); have t2 : decide ((n : Int) < (n : Int) + 1) = true := dTt (by omega); have HI := qH (And.intro hi0 hz1); have HU := qH U; have HW3 := qH (show W2.drew.setCells N ((i + 1)) cs = W3 from (by have h := hW3; first | exact h | (rw [Nat.mul_one] at h; exact h) | (simp only [Nat.mul_one] at h; exact h))); have HR := qH (And.intro (own_flat tgEl (by rw [List.length_append, List.length_append, List.length_take, List.length_drop, List.length_singleton]; omega) h2) hk); have HCS := qH (show cs.length = (n - i) * i0.size ∧ (∀ v ∈ cs, v.oneCell' = true) ∧ cs.length = (n - i) * 1 from ⟨by rw [hcl, hz1], by rw [hcs]; exact tgEl.ones _, hcl⟩); have HQC := qH (show ∀ j v, cs[j]? = some v → W2.drew.cell? ⟨q, i + j, none⟩ = some v from fun j v hj => (by have h := hqc j v hj; first | exact h | (rw [Nat.mul_one] at h; exact h) | (simp only [Nat.mul_one] at h; exact h))); have HSP := qH (fun (j : Nat) (hj : j < G * 1) => raw_cell (ownsRow_below h1 (Below.refl _ W2).drew) hj); have HB := qH (And.intro hi (And.intro hGn hN)); have hi2 : i ≤ 1000 := by omega
 have hlt2 : decide ((i : Int) ≤ (n : Int)) = true := dTt (by omega); clear hown hln hbq hi0 hz0 hz1 hz2 hlen hpl hcs hcl h0 hW1 hW2 hW3 h1 h2 hk hk12 hvc hqc hold hv hi U hso hel hXl hXt hRs hzc hROW hB1 hS1 hGn hG63 hG hqw hvw hb hN; go_enter Tryz.func170, Tryz.ntmps170; go_wp2_with (at_builtin; refine Lib.wpList_append_run _ rfl _ _ _ _ rfl _ _ rfl rfl _ _ (hrz _) ?_); refine held_start (C := fun _ => True) (by kernel_rfl) ?_; rw [show ({ W2 with drawn := W2.drawn + 1 } : World) = W2.drew from rfl]; refine held_quiet (by kernel_rfl) (fun _ _ d _ _ h => by cases d <;> exact h) trivial [0, 1, 2, 3, 4, 5, 6, 7] 1 _ _ (by kernel_rfl) ?_; change wpQuiet _ _ _ _ (_ :: _ :: _ :: _ :: _ :: _ :: _ :: _ :: []) _
 repeat go_big_quiet_step (fail)
 refine wpQuiet_nil ?_; refine held_do (i := 8) _ rfl (by kernel_rfl) rfl (fun K hK => ?_); refine wp_copyE (.tmp 50) (.tmp 53) 24 24 rfl 9 i0 HU.out HI.out.1 N ((i + 1)) (n - i) (G - (i + 1)) (some ⟨q, i, none⟩) (n - i) (n - i) (n - i) rfl rfl cs (by simp only [Nat.min_def]; split <;> omega) HCS.out.1 (fun _ => ⟨_, rfl, fun j v hj => by rw [addr_plus]; exact HQC.out j v hj⟩) HCS.out.2.1 (fun j hj => (HSP.out _ (by rw [HCS.out.2.2] at hj; have := HB.out; omega)).1) (fun j hj => (HSP.out _ (by rw [HCS.out.2.2] at hj; have := HB.out; omega)).2) ?_
 try simp only [pS]
 refine hK _ _ trivial ?_; clear hK K
 try simp only [pS]
 refine wpAnyH_done (by kernel_rfl) ?_ _; rw [HW3.out]; go_wp2_with fail; go_ret; exact ⟨_, rfl, HR.out.1, HR.out.2.os, HR.out.2.tape, HR.out.2.output, HR.out.2.size, fun x hx _ => HR.out.2.block x hx (fun e => by have := HB.out.2.2; omega)⟩
theorem insertTg_any (l : List ByteArray) (base : Nat) (a : Option Addr) (n cap i : Nat) (p : ByteArray) (vb : Nat) (w : World) (hown : Own tgC 1 9 w base (.slice a n cap) l) (hl : n ≤ 1000) (hi : i ≤ n) (hv : w.heap[vb]? = some (.cells (tgC p).toArray 9 (0, 0))) (hne : (Value.slice a n cap).ownBlock ≠ some vb) (hb : base ≤ w.heap.size) :
 Calls Tryz.prog 170 #[.slice a n cap, .int .i64 i, .slice (some ⟨vb, 0, none⟩) 1 1] w fun e w' => ∃ v, e = .returned v ∧ Own tgC 1 9 w' base v (l.take i ++ [p] ++ l.drop i) ∧ w.grownBy w' (Value.slice a n cap).ownBlock := by
 obtain ⟨a', c', he, hlc, hr, _⟩ := hown.row tgEl; injection he with e1 e2 e3; subst e1 e3; have hln : l.length = n := e2.symm; by_cases hin : i = n
 · subst hin
   refine insertEndTg l base a i cap p vb w hown hln hl ⟨fun _ => ⟨vb, 0, rfl, lt_of_block hv, fun j x hj t u hu => ?_⟩⟩ hb
   match j, hj with
   | 0, hj =>
    injection hj with hj; subst hj; simp [World.cell?, hv, hu]
 · obtain ⟨q, c2, he2, _, _⟩ := hown.open (by omega)
   injection he2 with f1 f2 f3; subst f1; by_cases hroom : n + 1 ≤ cap
   · exact insertRoomTg l base q n cap i p vb w hown hl (by omega) hroom hv (fun e => hne (by rw [e]; rfl))
   · obtain rfl : n = cap := by omega
     exact insertGrowTg l base q n i p vb w hown hl (by omega) hv hb
end Go.Proofs.YtjnfccphodjfiaaGreat
