/- Several texts of this claim in one. -/
import Derived.Test.YtjnfccphodjfiaaGreatMs9
import Derived.Test.YtjnfccphodjfiaaGreatMs2
import Derived.Test.YtjnfccphodjfiaaGreatMs6
import Derived.Test.YtjnfccphodjfiaaGreatMs3
import Derived.Test.YtjnfccphodjfiaaGreatRows
import Derived.ProofKit
import Derived.OpenShut
import Derived.Lib.SmallJoins
import Derived.Carry
import Derived.ChangeMaps5
namespace Go.Proofs.YtjnfccphodjfiaaGreat
set_option maxHeartbeats 8000000
set_option maxRecDepth 100000
open Go.RowKit Go.BigFrame
open Tr (inR Ed)
def UndoRet (S : World → (Nat → Prop) → Nat → Acv → List Ed → List Ed → Prop) (P : Nat → Prop) (s : Nat) (A : Acv) (L U : List Ed) (w : World) (e : Ending) (w' : World) : Prop :=
 Kept P w w' ∧ ((L = [] ∧ e = .returned (.bool false) ∧ S w' P s A L U) ∨ (∃ M x, L = M ++ [x] ∧ e = .returned (.bool true) ∧ S w' (Wider P w w') s A M (U ++ [x])))
def RedoRet (S : World → (Nat → Prop) → Nat → Acv → List Ed → List Ed → Prop) (P : Nat → Prop) (s : Nat) (A : Acv) (L U : List Ed) (w : World) (e : Ending) (w' : World) : Prop :=
 Kept P w w' ∧ ((U = [] ∧ e = .returned (.bool false) ∧ S w' P s A L U) ∨ (∃ V x, U = V ++ [x] ∧ e = .returned (.bool true) ∧ S w' (Wider P w w') s A (L ++ [x]) V))
theorem list_last {α : Type} (L : List α) : L = [] ∨ ∃ M x, L = M ++ [x] := by
 rcases List.eq_nil_or_concat L with h | ⟨M, x, h⟩
 · exact Or.inl h
 · exact Or.inr ⟨M, x, by rw [h, List.concat_eq_append]⟩
theorem StOk.undo {A : Acv} {M U : List Ed} {x : Ed} (h : StOk A (M ++ [x]) U) : StOk A M (U ++ [x]) := by
 have hl := h.len; rw [List.length_append] at hl; simp only [List.length_cons, List.length_nil] at hl; refine ⟨h.chk, by rw [List.length_append]; simp only [List.length_cons, List.length_nil]; omega, fun y hy => h.tl y (List.mem_append.2 (Or.inl hy)), fun y hy => ?_⟩; rcases List.mem_append.1 hy with hy | hy
 · exact h.tu y hy
 · exact h.tl y (List.mem_append.2 (Or.inr hy))
theorem StOk.redo {A : Acv} {L V : List Ed} {x : Ed} (h : StOk A L (V ++ [x])) : StOk A (L ++ [x]) V := by
 have hl := h.len; rw [List.length_append] at hl; simp only [List.length_cons, List.length_nil] at hl; refine ⟨h.chk, by rw [List.length_append]; simp only [List.length_cons, List.length_nil]; omega, fun y hy => ?_, fun y hy => h.tu y (List.mem_append.2 (Or.inl hy))⟩; rcases List.mem_append.1 hy with hy | hy
 · exact h.tl y hy
 · exact h.tu y (List.mem_append.2 (Or.inr hy))
theorem EdOwn.lastCell {w : World} {g n cap : Nat} {M : List Ed} {x : Ed} (h : EdOwn w 0 (.slice (some ⟨g, 0, none⟩) (n + 1) cap) (M ++ [x])) (hn : M.length = n) : ∀ j u, (edC x)[j]? = some u → w.cell? ⟨g, n * 5 + j, none⟩ = some u := by
 intro j u hj; obtain ⟨a, c, e, _, hr, _⟩ := h.row; injection e with e1 _ _; subst e1; obtain ⟨b, off, e2, _, hc⟩ := hr.here (by rw [List.length_append]; simp); injection e2 with e2; injection e2 with e3 e4; subst e3 e4; have := hc n x (by rw [← hn]; simp) j u hj
 rwa [Nat.zero_add] at this
theorem last_i (n : Nat) (h : n ≤ 200) : IntKind.i64.wrap (((n + 1 : Nat) : Int) - 1) = (n : Int) := by
 rw [show ((n + 1 : Nat) : Int) - 1 = (n : Int) by omega]; exact tm_wrap (by omega) (by omega)
theorem undoP_any (P : Nat → Prop) (s : Nat) (A : Acv) (L U : List Ed) (w : World) (h : StP w P s A L U) (hP : ∀ g, P g → g < w.heap.size) :
 Calls Tryz.prog 21 #[.pointer (some ⟨s, 0, none⟩)] w fun e w' => UndoRet StP P s A L U w e w' := by
 have HST0 := qH h; obtain ⟨hok, a, b, c, a', b', c', ca, cb, cc, ca', cb', cc', ve, vu, hst, hIA, hIZ, hOE, hOU, hS⟩ := id h; rcases list_last L with rfl | ⟨M, x, rfl⟩
 · obtain ⟨av, cv, rfl, hcv, _, _⟩ := id hOE.row
   unfold spC at hst; have z12 := st_cell hst (i := 12) rfl; clear hok hst hIA hIZ hOE hOU hS hcv h hP; go_enter Tryz.func21, Tryz.ntmps21; go_wp2_with fail; go_ret; unfold UndoRet; exact ⟨Kept.refl _ _, Or.inl ⟨rfl, rfl, HST0.out⟩⟩
 obtain ⟨g, cap, rfl, hOM, hcap, _⟩ := hOE.cutLast; obtain ⟨n, hn⟩ : ∃ n, M.length = n := ⟨_, rfl⟩; have hnb : n ≤ 200 := by
  have := hok.len; rw [List.length_append, hn] at this; omega
 have HN := qH hn; rw [hn] at hst hOE hOM hS hcap; obtain ⟨av, cv, rfl, hcv, _, _⟩ := id hOU.row; obtain ⟨nu, hnu⟩ : ∃ n, U.length = n := ⟨_, rfl⟩; have HNU := qH hnu; rw [hnu] at hst hOU hS; have HUB := qH (show nu ≤ 200 from by have := hok.len; omega); have hlast := hOE.lastCell hn; have HOK := qH hok.undo; have HOK0 := qH hok; have HP := qH hP; have HS := qH hS; have HSL := qH (lt_of_block hst); have HST := qH hst; have HIA := qH hIA; have HOM := qH hOM; have HOU := qH hOU; obtain ⟨U1, hU1⟩ : ∃ V, U ++ [x] = V := ⟨_, rfl⟩; have HU1 := qH hU1; rw [hU1] at HOK; have HU2 := qH (show UndoRet StP P s A (M ++ [x]) U w = UndoRet StP P s A (M ++ [x]) U w from rfl); obtain ⟨kx, nx, fx, tx, sx⟩ := x; unfold spC at hst; have e0 : w.cell? ⟨g, n * 5, none⟩ = some (.int .i64 kx) := hlast 0 _ rfl; have e1 : w.cell? ⟨g, n * 5 + 1, none⟩ = some (.int .i64 nx) := hlast 1 _ rfl; have e2 : w.cell? ⟨g, n * 5 + 2, none⟩ = some (.int .i64 fx) := hlast 2 _ rfl; have e3 : w.cell? ⟨g, n * 5 + 3, none⟩ = some (.int .i64 tx) := hlast 3 _ rfl; have e4 : w.cell? ⟨g, n * 5 + 4, none⟩ = some (.string sx) := hlast 4 _ rfl; have z12 := st_cell hst (i := 12) rfl; have z13 := st_cell hst (i := 13) rfl; have hgu : (Value.slice av nu cv).ownBlock ≠ some g := (hS.eb g rfl).2.2; have hsu : (Value.slice av nu cv).ownBlock ≠ some s := fun e => (hS.ub s e).2 rfl
 have hsg : g ≠ s := (hS.eb g rfl).2.1; have E0 := ExtO.cell (O := fun b => (Value.slice av nu cv).ownBlock = some b) hgu e0; have E1 := ExtO.cell (O := fun b => (Value.slice av nu cv).ownBlock = some b) hgu e1; have E2 := ExtO.cell (O := fun b => (Value.slice av nu cv).ownBlock = some b) hgu e2; have E3 := ExtO.cell (O := fun b => (Value.slice av nu cv).ownBlock = some b) hgu e3; have E4 := ExtO.cell (O := fun b => (Value.slice av nu cv).ownBlock = some b) hgu e4; have E12 := ExtO.cell (O := fun b => (Value.slice av nu cv).ownBlock = some b) hsu z12; have E13 := ExtO.cell (O := fun b => (Value.slice av nu cv).ownBlock = some b) hsu z13; have HGU := qH (And.intro hgu (And.intro hsu hsg)); have q1 := last_i n hnb; have hc1 : n ≤ cap := by omega
 have hc2 : decide (n ≤ cap) = true := by simpa using hc1
 have t1 : decide ((n : Int) < 0) = false := dFf (by omega); clear hok hst hIA hIZ hOE hOM hOU hS hlast hcap hcv hP h hn hnu hU1 e0 e1 e2 e3 e4 z13 hgu hsu hsg HU2; go_enter Tryz.func21, Tryz.ntmps21; go_upto_region 4 with (fail); clear z12; refine late_start (s := 16) (C := fun w' => ∃ Z : ExtO (fun b => (Value.slice av nu cv).ownBlock = some b) w, w' = Z.1) (by kernel_rfl) ?_; obtain ⟨Z0, hZ0⟩ : ∃ Z : ExtO (fun b => (Value.slice av nu cv).ownBlock = some b) w, ({ w with drawn := w.drawn + 1 } : World) = Z.1 := ⟨⟨{ w with drawn := w.drawn + 1 }, ⟨rfl, rfl, rfl, Nat.le_refl _, fun _ _ _ => rfl⟩⟩, rfl⟩; rw [hZ0]; have HO0 := qH (show EdOwn Z0.1 0 (.slice av nu cv) U from hZ0 ▸ (show EdOwn { w with drawn := w.drawn + 1 } 0 (.slice av nu cv) U from (show EdOwn w 0 (.slice av nu cv) U from HOU.out))); clear hZ0; refine late_quiet (by kernel_rfl) (fun _ _ d _ _ h => by cases d <;> exact h) ⟨Z0, rfl⟩ [0, 1, 2, 3, 4, 5, 6, 7, 8, 9, 10, 11] 5 _ _ (by kernel_rfl) (by kernel_rfl) ?_; change wpQuiet _ _ _ _ (_ :: _ :: _ :: _ :: _ :: _ :: _ :: _ :: _ :: _ :: _ :: _ :: []) _
 repeat go_big_quiet_step (fail)
 refine wpQuiet_nil ?_; refine late_do (i := 12) _ rfl (by kernel_rfl) rfl (fun K hK => ?_); go_simp; obtain ⟨W9, hW9, hwb9, hws9, hwl9⟩ := alloc_cells Z0.1 #[.int .i64 kx, .int .i64 nx, .int .i64 fx, .int .i64 tx, .string sx] 28; rw [hW9]; have HO1 := qH (HO0.out.below hwb9); have HZ0 := qH Z0.2.size; obtain ⟨Z1, rfl⟩ : ∃ Z : ExtO (fun b => (Value.slice av nu cv).ownBlock = some b) w, W9 = Z.1 := ⟨⟨W9, Z0.2.trans (Kept.of_below hwb9)⟩, rfl⟩; have HWL := qH (fun j u (hj : (edC ⟨kx, nx, fx, tx, sx⟩)[j]? = some u) => show Z1.1.cell? ⟨Z0.1.heap.size, j, none⟩ = some u from hwl9 j u (by rw [← hj]; unfold edC; simp)); have HZS := qH hws9; clear hW9 hwb9 hws9 hwl9; refine hK _ _ (fun _ => ⟨Z1, rfl⟩) ?_; clear hK K
 try simp only [pS]
 refine late_do (i := 13) _ rfl (by kernel_rfl) rfl (fun K hK => ?_); refine wp_append_ed (.tmp 16) (.tmp 24) rfl rfl HO1.out rfl HWL.out (by have := HUB.out; rw [HNU.out]; omega) (fun a3 n3 c3 w3 ho3 hn3 hg3 hb3 => ?_); obtain ⟨Z2, rfl⟩ : ∃ Z : ExtO (fun b => (Value.slice av nu cv).ownBlock = some b) w, w3 = Z.1 := ⟨⟨w3, Z1.2.trans (Kept.of_grown hg3 (fun g e _ => e))⟩, rfl⟩; rw [HU1.out] at ho3; have HO3 := qH ho3; have HB3 := qH hb3; have HZ12 := qH hg3.size; refine hK _ _ (fun _ => ⟨Z2, rfl⟩) ?_; clear hK K ho3 hg3 hb3 hn3 HO0 HO1
 try simp only [pS]
 refine late_free (by kernel_rfl) (fun _ _ d _ _ h => by cases d <;> exact h) (Or.inr ⟨Z2, rfl⟩) [14, 15] 1 _ (by kernel_rfl) (by kernel_rfl) ?_; change wpQuiet _ _ _ _ (_ :: _ :: []) _
 repeat go_big_quiet_step (fail)
 refine wpQuiet_nil ?_; have hs2 : Z2.1.heap[s]? = some (.cells (spC A (nowA A (M ++ [⟨kx, nx, fx, tx, sx⟩])) a b c a' b' c' ca cb cc ca' cb' cc' (.slice (some ⟨g, 0, none⟩) (n + 1) cap) (.slice av nu cv)) 89 (0, 0)) := (Z2.2.block s HSL.out HGU.out.2.1).trans HST.out; obtain ⟨W3, hW3, hs3, hk3⟩ := st_vu hs2 (.slice a3 n3 c3); have HS3 := qH hs3; have HK3 := qH hk3; have fr3 := st_free hs2; unfold spC at hs2; have m13 := st_cell (i := 13) hs2 rfl; clear hs2 hs3 hk3; refine late_do (i := 16) _ rfl (by kernel_rfl) rfl (fun K hK => ?_); go_simp; refine hK _ _ (nOo rfl) ?_; clear hK K
 try simp only [pS]
 clear hW3 fr3 m13 E0 E1 E2 E3 E4 E12 E13; refine late_done (by kernel_rfl) ?_ _; have hs4 := HS3.out; obtain ⟨W4, hW4, hs4', hk4⟩ := st_ve HS3.out (.slice (some ⟨g, 0, none⟩) n cap); have HS4 := qH hs4'; have HK4 := qH hk4; have fr4 := st_free HS3.out; unfold spC at hs4; have m12 := st_cell (i := 12) hs4 rfl; clear hs4 hs4' hk4; have hIA4 : ActIn W4 A a b c := ((HIA.out.keptN Z2.2 (fun q hq e => (HS.out.rows q (Or.inl hq)).2.2.2 e)).keptN HK3.out (fun q hq e => (HS.out.rows q (Or.inl hq)).2.1 e)).keptN HK4.out (fun q hq e => (HS.out.rows q (Or.inl hq)).2.1 e); have hOM4 : EdOwn W4 0 (.slice (some ⟨g, 0, none⟩) n cap) M := ((HOM.out.keptO Z2.2 (fun q hq e => by cases hq; exact HGU.out.1 e)).keptO HK3.out (fun q hq e => by cases hq; exact HGU.out.2.2 e)).keptO HK4.out (fun q hq e => by cases hq; exact HGU.out.2.2 e); have HIA4 := qH hIA4; have HOM4 := qH hOM4; obtain ⟨Y, hY⟩ : ∃ Y, nowA A M = Y := ⟨_, rfl⟩; have HY := qH hY; obtain ⟨i2, er2, hq2⟩ : ∃ i e, allQ A M = (Y, i, e) := ⟨_, _, by rw [← hY, ← allQ_now HOK0.out.chk (show M.length ≤ 200 by rw [HN.out]; exact hnb)]⟩; have DAL := qH (fun X : Ext W4 => show Calls Tryz.prog 13 #[.agg #[.string A.name, .int .i64 A.sport, .int .i64 A.start, .slice a A.sm.length ca, .slice b A.lp.length cb, .slice c A.tg.length cc], .slice (some ⟨g, 0, none⟩) n cap] X.1 fun e w' => AllRes (Y, i2, er2) X.1 e w' from by
  obtain ⟨ra, rc, re, _, hr, _⟩ := HOM4.out.row; injection re with re _ _; subst re; have h := all_any A a b c ca cb cc M (some ⟨g, 0, none⟩) cap X.1 (HIA4.out.below X.2) (hr.below X.2) (fun y hy => HOK.out.tl y hy); rw [hq2, HN.out] at h; exact h)
 unfold AllRes at DAL; simp only at DAL; unfold actV at DAL; clear hIA4 hOM4 hY hq2; go_upto_region 6 with (fail); clear hW4 fr4 m12; have hs4 := HS4.out; unfold spC at hs4; have A0 := Ext.ex (st_cell hs4 (i := 0) rfl); have A1 := Ext.ex (st_cell hs4 (i := 1) rfl); have A2 := Ext.ex (st_cell hs4 (i := 2) rfl); have A3 := Ext.ex (st_cell hs4 (i := 3) rfl); have A4 := Ext.ex (st_cell hs4 (i := 4) rfl); have A5 := Ext.ex (st_cell hs4 (i := 5) rfl); have A12 := Ext.ex (st_cell hs4 (i := 12) rfl); clear hs4; refine late_start (s := 16) (C := fun w' => ∃ Z : Ext W4, w' = Z.1) (by kernel_rfl) ?_; obtain ⟨Z0, hZ0⟩ : ∃ Z : Ext W4, ({ W4 with drawn := W4.drawn + 1 } : World) = Z.1 := ⟨⟨{ W4 with drawn := W4.drawn + 1 }, ⟨rfl, rfl, rfl, Nat.le_refl _, fun _ _ => rfl⟩⟩, rfl⟩; rw [hZ0]; clear hZ0; refine late_quiet (by kernel_rfl) (fun _ _ d _ _ h => by cases d <;> exact h) ⟨Z0, rfl⟩ [0, 1, 2, 3, 4, 5, 6, 7, 8] 8 _ _ (by kernel_rfl) (by kernel_rfl) ?_; change wpQuiet _ _ _ _ (_ :: _ :: _ :: _ :: _ :: _ :: _ :: _ :: _ :: []) _
 repeat go_big_quiet_step (fail)
 refine wpQuiet_nil ?_; refine late_do (i := 9) _ rfl (by kernel_rfl) rfl (fun K hK => ?_); go_simp; refine (DAL.out Z0).mono ?_; rintro e w5 ⟨hb5, ya, yb, yc, yca, ycb, ycc, rfl, hy5, hyq⟩; obtain ⟨Z5, rfl⟩ : ∃ Z : Ext W4, w5 = Z.1 := ⟨⟨w5, bStp Z0.2 hb5⟩, rfl⟩; have HY5 := qH hy5; have HYQ := qH (fun q hq => Nat.le_trans Z0.2.size (hyq q hq)); clear hb5 hy5 hyq; refine hK _ _ (fun _ => ⟨Z5, rfl⟩) ?_; clear hK K
 try simp only [pS]
 refine late_quiet (by kernel_rfl) (fun _ _ d _ _ h => by cases d <;> exact h) ⟨Z5, rfl⟩ [10, 11] 5 _ _ (by kernel_rfl) (by kernel_rfl) ?_; change wpQuiet _ _ _ _ (_ :: _ :: []) _
 repeat go_big_quiet_step (fail)
 refine wpQuiet_nil ?_; refine late_free (by kernel_rfl) (fun _ _ d _ _ h => by cases d <;> exact h) (Or.inr ⟨Z5, rfl⟩) [12, 13, 14, 15] 1 _ (by kernel_rfl) (by kernel_rfl) ?_; change wpQuiet _ _ _ _ (_ :: _ :: _ :: _ :: []) _
 repeat go_big_quiet_step (fail)
 refine wpQuiet_nil ?_; have hs5 := (Z5.2.block s (lt_of_block HS4.out)).trans HS4.out; obtain ⟨WF, hWF, hsF, hkF⟩ := st_now hs5 Y ya yb yc yca ycb ycc; have HSF := qH hsF; have HKF := qH hkF; have frF := st_free hs5; unfold spC at hs5; have m6 := st_cell (i := 6) hs5 rfl; have m7 := st_cell (i := 7) hs5 rfl; have m8 := st_cell (i := 8) hs5 rfl; have m9 := st_cell (i := 9) hs5 rfl; have m10 := st_cell (i := 10) hs5 rfl; have m11 := st_cell (i := 11) hs5 rfl; clear hs5 hsF hkF; refine late_do (i := 16) _ rfl (by kernel_rfl) rfl (fun K hK => ?_); go_simp; refine hK _ _ (nOo rfl) ?_; clear hK K
 try simp only [pS]
 clear hWF frF m6 m7 m8 m9 m10 m11; refine late_done (by kernel_rfl) ?_ _; go_wp2_with fail; go_ret; have hz0 := HZ0.out; have hz12 := HZ12.out; have hzs := HZS.out; have hsl := HSL.out; have hK5 : Kept (fun _ => False) W4 Z5.1 := Kept.of_below Z5.2; have hK34 : Kept (fun b => b = s) Z2.1 WF := HK3.out.trans (HK4.out.trans ((hK5.wide (fun _ h => h.elim)).trans HKF.out)); have hK2 : Kept (fun b => (Value.slice av nu cv).ownBlock = some b) w Z2.1 := Z2.2; have hs34 := hK34.size; have hs4F := HKF.out.size; have hs24 : Z2.1.heap.size ≤ W4.heap.size := (HK3.out.trans HK4.out).size; have hlt3 := HO3.out.lt; have hgl : g < w.heap.size := HP.out g (HS.out.eb g rfl).1; have hE : EdOwn WF 0 (.slice a3 n3 c3) U1 := HO3.out.keptO hK34 (fun q hq e => by
  rcases HB3.out q hq with h | h
  · exact (HS.out.ub q h).2 e
  · omega)
 have hOld : ∀ q, q < w.heap.size → (Value.slice av nu cv).ownBlock ≠ some q → (Value.slice a3 n3 c3).ownBlock ≠ some q := fun q hq hne e => by
  rcases HB3.out q e with h | h
  · exact hne h
  · omega
 have hM : EdOwn WF 0 (.slice (some ⟨g, 0, none⟩) n cap) M := (HOM4.out.below Z5.2).keptO HKF.out (fun q hq e => by cases hq; exact HGU.out.2.2 e); have hIAF : ActIn WF A a b c := (HIA4.out.below Z5.2).keptN HKF.out (fun q hq e => (HS.out.rows q (Or.inl hq)).2.1 e); have hIYF : ActIn WF Y ya yb yc := HY5.out.keptN HKF.out (fun q hq e => by have := hq.of (O := fun k => W4.heap.size ≤ k) HYQ.out; omega); have hZ5 := Z5.2.size; unfold UndoRet; refine ⟨?_, Or.inr ⟨M, ⟨kx, nx, fx, tx, sx⟩, rfl, rfl, ?_⟩⟩
 · exact (hK2.wide (fun q hq => (HS.out.ub q hq).1)).trans (hK34.wide (fun q hq => by subst hq; exact HS.out.st))
 · rw [HU1.out]
   refine ⟨HOK.out, a, b, c, ya, yb, yc, ca, cb, cc, yca, ycb, ycc, .slice (some ⟨g, 0, none⟩) n cap, .slice a3 n3 c3, by rw [HY.out]; exact HSF.out, hIAF, by rw [HY.out]; exact hIYF, hM, hE, ?_⟩; rw [HY.out]; refine ⟨Or.inl HS.out.st, fun q hq => ?_, fun q hq => ?_, fun q hq => ?_⟩
   · cases hq
     exact ⟨Or.inl (HS.out.eb g rfl).1, HGU.out.2.2, hOld g hgl HGU.out.1⟩
   · have hl := (hlt3 q hq).2
     rcases HB3.out q hq with h | h
     · exact ⟨Or.inl (HS.out.ub q h).1, (HS.out.ub q h).2⟩
     · exact ⟨Or.inr ⟨by omega, by omega⟩, by omega⟩
   · rcases hq with hq | hq
     · obtain ⟨q1, q2, q3, q4⟩ := HS.out.rows q (Or.inl hq)
       exact ⟨Or.inl q1, q2, q3, hOld q (HP.out q q1) q4⟩
     · have h1 := hq.of (O := fun k => W4.heap.size ≤ k) HYQ.out
       have h2 := HY5.out.ltN hq; refine ⟨Or.inr ⟨by omega, by omega⟩, by omega, fun e => ?_, fun e => ?_⟩
       · have e2 : g = q := Option.some.inj e
         omega
       · have := (hlt3 q e).2
         omega
theorem redoP_any (P : Nat → Prop) (s : Nat) (A : Acv) (L U : List Ed) (w : World) (h : StP w P s A L U) (hP : ∀ g, P g → g < w.heap.size) :
 Calls Tryz.prog 23 #[.pointer (some ⟨s, 0, none⟩)] w fun e w' => RedoRet StP P s A L U w e w' := by
 have HST0 := qH h; obtain ⟨hok, a, b, c, a', b', c', ca, cb, cc, ca', cb', cc', ve, vu, hst, hIA, hIZ, hOE, hOU, hS⟩ := id h; rcases list_last U with rfl | ⟨V, x, rfl⟩
 · obtain ⟨av, cv, rfl, hcv, _, _⟩ := id hOU.row
   unfold spC at hst; have z13 := st_cell hst (i := 13) rfl; clear hok hst hIA hIZ hOE hOU hS hcv h hP; go_enter Tryz.func23, Tryz.ntmps23; go_wp2_with fail; go_ret; unfold RedoRet; exact ⟨Kept.refl _ _, Or.inl ⟨rfl, rfl, HST0.out⟩⟩
 obtain ⟨g, cap, rfl, hOV, hcap, _⟩ := hOU.cutLast; obtain ⟨n, hn⟩ : ∃ n, V.length = n := ⟨_, rfl⟩; have hnb : n ≤ 200 := by
  have := hok.len; rw [List.length_append, hn] at this; omega
 have HN := qH hn; rw [hn] at hst hOU hOV hS hcap; obtain ⟨av, cv, rfl, hcv, _, _⟩ := id hOE.row; obtain ⟨nl, hnl⟩ : ∃ n, L.length = n := ⟨_, rfl⟩; have HNL := qH hnl; rw [hnl] at hst hOE hS; have HLB := qH (show nl ≤ 200 from by have := hok.len; omega); have hlast := hOU.lastCell hn; have HOK := qH hok.redo; have hxs : x.s.size ≤ maxLen := hok.tu x (List.mem_append.2 (Or.inr (List.mem_singleton.2 rfl))); have HP := qH hP; have HS := qH hS; have HSL := qH (lt_of_block hst); obtain ⟨Z, hZ⟩ : ∃ Z, nowA A L = Z := ⟨_, rfl⟩; rw [hZ] at hst hIZ HS hS; obtain ⟨Y, hY⟩ : ∃ Y, apZ Z x = Y := ⟨_, rfl⟩; have HNX := qH (show nowA A (L ++ [x]) = Y by rw [nowA_snoc, hZ, hY]); have HST := qH hst; have HIA := qH hIA; have HIZ := qH hIZ; have HOV := qH hOV; have HOE := qH hOE; have HAP := qH (fun (X : World) (hX : ActIn X Z a' b' c') => apply_f x Z a' b' c' ca' cb' cc' X hX hxs); obtain ⟨er, her⟩ : ∃ e, apE Z x = e := ⟨_, rfl⟩; rw [hY, her] at HAP; obtain ⟨L1, hL1⟩ : ∃ M, L ++ [x] = M := ⟨_, rfl⟩; have HL1 := qH hL1; rw [hL1] at HOK HNX; obtain ⟨kx, nx, fx, tx, sx⟩ := x; unfold spC at hst; have e0 : w.cell? ⟨g, n * 5, none⟩ = some (.int .i64 kx) := hlast 0 _ rfl; have e1 : w.cell? ⟨g, n * 5 + 1, none⟩ = some (.int .i64 nx) := hlast 1 _ rfl; have e2 : w.cell? ⟨g, n * 5 + 2, none⟩ = some (.int .i64 fx) := hlast 2 _ rfl; have e3 : w.cell? ⟨g, n * 5 + 3, none⟩ = some (.int .i64 tx) := hlast 3 _ rfl; have e4 : w.cell? ⟨g, n * 5 + 4, none⟩ = some (.string sx) := hlast 4 _ rfl; have z13 := st_cell hst (i := 13) rfl; have HEG := qH (show (Value.slice av nl cv).ownBlock ≠ some g ∧ (Value.slice av nl cv).ownBlock ≠ some s ∧ g ≠ s from ⟨fun e => (hS.eb g e).2.2 rfl, fun e => (hS.eb s e).2.1 rfl, (hS.ub g rfl).2⟩); have HEW := qH (show ∀ q, (Value.slice av nl cv).ownBlock = some q → q < w.heap.size ∧ q ≠ s from fun q hq => ⟨hP q (hS.eb q hq).1, (hS.eb q hq).2.1⟩); have q1 := last_i n hnb; have hc1 : n ≤ cap := by omega
 have hc2 : decide (n ≤ cap) = true := by simpa using hc1
 have t1 : decide ((n : Int) < 0) = false := dFf (by omega); obtain ⟨V1, hV1, hb1, hs1, hl1⟩ := alloc_cells w #[.int .i64 kx, .int .i64 nx, .int .i64 fx, .int .i64 tx, .string sx] 28; have HB1 := qH hb1; have HS1 := qH hs1; have x0 : V1.cell? ⟨w.heap.size, 0, none⟩ = some (.int .i64 kx) := hl1 0 _ rfl; have x1 : V1.cell? ⟨w.heap.size, 1, none⟩ = some (.int .i64 nx) := hl1 1 _ rfl; have x2 : V1.cell? ⟨w.heap.size, 2, none⟩ = some (.int .i64 fx) := hl1 2 _ rfl; have x3 : V1.cell? ⟨w.heap.size, 3, none⟩ = some (.int .i64 tx) := hl1 3 _ rfl; have x4 : V1.cell? ⟨w.heap.size, 4, none⟩ = some (.string sx) := hl1 4 _ rfl; have hst1 := (hb1.block s HSL.out).trans HST.out; obtain ⟨W2, hW2, hs2, hk2⟩ := st_vu hst1 (.slice (some ⟨g, 0, none⟩) n cap); have HS2 := qH hs2; have HK2 := qH hk2; have fr2 := st_free hst1; unfold spC at hst1; have m13 := st_cell (i := 13) hst1 rfl; have hne : w.heap.size ≠ s := by have := HSL.out; omega
 have y0 := hk2.cell (p := ⟨w.heap.size, 0, none⟩) hne x0; have y1 := hk2.cell (p := ⟨w.heap.size, 1, none⟩) hne x1; have y2 := hk2.cell (p := ⟨w.heap.size, 2, none⟩) hne x2; have y3 := hk2.cell (p := ⟨w.heap.size, 3, none⟩) hne x3; have y4 := hk2.cell (p := ⟨w.heap.size, 4, none⟩) hne x4; have HXC := qH (And.intro y0 (And.intro y1 (And.intro y2 (And.intro y3 y4)))); have HIZ2 := qH ((HIZ.out.below hb1).keptN hk2 (fun q hq e => (HS.out.rows q (Or.inr hq)).2.1 e)); have DAP := qH (fun X : Ext W2 => HAP.out X.1 (HIZ2.out.below X.2)); unfold actV edV at DAP; clear hok hst hIA hIZ hOE hOU hOV hS hlast hcap hcv hP h hn hnl hb1 hs1 hl1 hst1 hs2 hk2 x0 x1 x2 x3 x4 HAP her hxs hL1; go_enter Tryz.func23, Tryz.ntmps23; go_upto_region 5 with (fail); clear hV1 e0 e1 e2 e3 e4 z13; go_upto_region 6 with (fail); clear hW2 fr2 m13; have hs2 := HS2.out; unfold spC at hs2; have A6 := Ext.ex (st_cell hs2 (i := 6) rfl); have A7 := Ext.ex (st_cell hs2 (i := 7) rfl); have A8 := Ext.ex (st_cell hs2 (i := 8) rfl); have A9 := Ext.ex (st_cell hs2 (i := 9) rfl); have A10 := Ext.ex (st_cell hs2 (i := 10) rfl); have A11 := Ext.ex (st_cell hs2 (i := 11) rfl); have X0 := Ext.ex y0; have X1 := Ext.ex y1; have X2 := Ext.ex y2; have X3 := Ext.ex y3; have X4 := Ext.ex y4; clear hs2 y0 y1 y2 y3 y4; refine late_start (s := 12) (C := fun w' => ∃ Z : Ext W2, w' = Z.1) (by kernel_rfl) ?_; obtain ⟨Z0, hZ0⟩ : ∃ Z : Ext W2, ({ W2 with drawn := W2.drawn + 1 } : World) = Z.1 := ⟨⟨{ W2 with drawn := W2.drawn + 1 }, ⟨rfl, rfl, rfl, Nat.le_refl _, fun _ _ => rfl⟩⟩, rfl⟩; rw [hZ0]; clear hZ0; refine late_quiet (by kernel_rfl) (fun _ _ d _ _ h => by cases d <;> exact h) ⟨Z0, rfl⟩ [0, 1, 2, 3, 4, 5] 7 _ _ (by kernel_rfl) (by kernel_rfl) ?_; change wpQuiet _ _ _ _ (_ :: _ :: _ :: _ :: _ :: _ :: []) _
 repeat go_big_quiet_step (fail)
 refine wpQuiet_nil ?_; refine late_do (i := 6) _ rfl (by kernel_rfl) rfl (fun K hK => ?_); go_simp; refine (DAP.out Z0).mono ?_; rintro e w5 ⟨hb5, ya, yb, yc, yca, ycb, ycc, rfl, hy5, hyq⟩; unfold actV; obtain ⟨Z5, rfl⟩ : ∃ Z : Ext W2, w5 = Z.1 := ⟨⟨w5, bStp Z0.2 hb5⟩, rfl⟩; have HY5 := qH hy5; have HYQ := qH (fun q hq => Nat.le_trans Z0.2.size (hyq q hq)); clear hb5 hy5 hyq; refine hK _ _ (fun _ => ⟨Z5, rfl⟩) ?_; clear hK K
 try simp only [pS]
 refine late_quiet (by kernel_rfl) (fun _ _ d _ _ h => by cases d <;> exact h) ⟨Z5, rfl⟩ [7, 8] 4 _ _ (by kernel_rfl) (by kernel_rfl) ?_; change wpQuiet _ _ _ _ (_ :: _ :: []) _
 repeat go_big_quiet_step (fail)
 refine wpQuiet_nil ?_; refine late_free (by kernel_rfl) (fun _ _ d _ _ h => by cases d <;> exact h) (Or.inr ⟨Z5, rfl⟩) [9, 10, 11] 1 _ (by kernel_rfl) (by kernel_rfl) ?_; change wpQuiet _ _ _ _ (_ :: _ :: _ :: []) _
 repeat go_big_quiet_step (fail)
 refine wpQuiet_nil ?_; have hs5 := (Z5.2.block s (lt_of_block HS2.out)).trans HS2.out; obtain ⟨W6, hW6, hs6, hk6⟩ := st_now hs5 Y ya yb yc yca ycb ycc; have HS6 := qH hs6; have HK6 := qH hk6; have frF := st_free hs5; unfold spC at hs5; have m6 := st_cell (i := 6) hs5 rfl; have m7 := st_cell (i := 7) hs5 rfl; have m8 := st_cell (i := 8) hs5 rfl; have m9 := st_cell (i := 9) hs5 rfl; have m10 := st_cell (i := 10) hs5 rfl; have m11 := st_cell (i := 11) hs5 rfl; clear hs5 hs6 hk6; refine late_do (i := 12) _ rfl (by kernel_rfl) rfl (fun K hK => ?_); go_simp; refine hK _ _ (nOo rfl) ?_; clear hK K
 try simp only [pS]
 clear hW6 frF m6 m7 m8 m9 m10 m11; refine late_done (by kernel_rfl) ?_ _; have HSZ6 := qH (show w.heap.size + 1 ≤ W6.heap.size from by have h1 := HS1.out; have h2 := HK2.out.size; have h3 := Z5.2.size; have h4 := HK6.out.size; omega); have hne6 : ∀ q, (Value.slice av nl cv).ownBlock = some q → q ≠ w.heap.size := fun q hq => by have := (HEW.out q hq).1; omega
 have hs6 := HS6.out; unfold spC at hs6; have x0 : W6.cell? ⟨w.heap.size, 0, none⟩ = some (.int .i64 kx) := HK6.out.cell (p := ⟨w.heap.size, 0, none⟩) (by have := HSL.out; omega) (X0 Z5); have E0 := ExtO.cell (O := fun b => (Value.slice av nl cv).ownBlock = some b) (fun e => hne6 _ e rfl) x0; have x1 : W6.cell? ⟨w.heap.size, 1, none⟩ = some (.int .i64 nx) := HK6.out.cell (p := ⟨w.heap.size, 1, none⟩) (by have := HSL.out; omega) (X1 Z5); have E1 := ExtO.cell (O := fun b => (Value.slice av nl cv).ownBlock = some b) (fun e => hne6 _ e rfl) x1; have x2 : W6.cell? ⟨w.heap.size, 2, none⟩ = some (.int .i64 fx) := HK6.out.cell (p := ⟨w.heap.size, 2, none⟩) (by have := HSL.out; omega) (X2 Z5); have E2 := ExtO.cell (O := fun b => (Value.slice av nl cv).ownBlock = some b) (fun e => hne6 _ e rfl) x2; have x3 : W6.cell? ⟨w.heap.size, 3, none⟩ = some (.int .i64 tx) := HK6.out.cell (p := ⟨w.heap.size, 3, none⟩) (by have := HSL.out; omega) (X3 Z5); have E3 := ExtO.cell (O := fun b => (Value.slice av nl cv).ownBlock = some b) (fun e => hne6 _ e rfl) x3; have x4 : W6.cell? ⟨w.heap.size, 4, none⟩ = some (.string sx) := HK6.out.cell (p := ⟨w.heap.size, 4, none⟩) (by have := HSL.out; omega) (X4 Z5); have E4 := ExtO.cell (O := fun b => (Value.slice av nl cv).ownBlock = some b) (fun e => hne6 _ e rfl) x4; have E12 := ExtO.cell (O := fun b => (Value.slice av nl cv).ownBlock = some b) (fun e => (HEW.out _ e).2 rfl) (st_cell hs6 (i := 12) rfl); have HOE6 := qH (show EdOwn W6 0 (.slice av nl cv) L from ((((HOE.out.below HB1.out).keptO HK2.out (fun q hq e => (HEW.out q hq).2 e)).below Z5.2).keptO HK6.out (fun q hq e => (HEW.out q hq).2 e))); clear X0 X1 X2 X3 X4 A6 A7 A8 A9 A10 A11 x0 x1 x2 x3 x4 hs6 hne6 DAP; go_upto_region 7 with (fail); refine late_start (s := 10) (C := fun w' => ∃ Z : ExtO (fun b => (Value.slice av nl cv).ownBlock = some b) W6, w' = Z.1) (by kernel_rfl) ?_; obtain ⟨Z0, hZ0⟩ : ∃ Z : ExtO (fun b => (Value.slice av nl cv).ownBlock = some b) W6, ({ W6 with drawn := W6.drawn + 1 } : World) = Z.1 := ⟨⟨{ W6 with drawn := W6.drawn + 1 }, ⟨rfl, rfl, rfl, Nat.le_refl _, fun _ _ _ => rfl⟩⟩, rfl⟩; rw [hZ0]; have HO0 := qH (show EdOwn Z0.1 0 (.slice av nl cv) L from hZ0 ▸ (show EdOwn { W6 with drawn := W6.drawn + 1 } 0 (.slice av nl cv) L from (show EdOwn W6 0 (.slice av nl cv) L from HOE6.out))); clear hZ0; refine late_quiet (by kernel_rfl) (fun _ _ d _ _ h => by cases d <;> exact h) ⟨Z0, rfl⟩ [0, 1, 2, 3, 4, 5] 5 _ _ (by kernel_rfl) (by kernel_rfl) ?_; change wpQuiet _ _ _ _ (_ :: _ :: _ :: _ :: _ :: _ :: []) _
 repeat go_big_quiet_step (fail)
 refine wpQuiet_nil ?_; refine late_do (i := 6) _ rfl (by kernel_rfl) rfl (fun K hK => ?_); go_simp; obtain ⟨W9, hW9, hwb9, hws9, hwl9⟩ := alloc_cells Z0.1 #[.int .i64 kx, .int .i64 nx, .int .i64 fx, .int .i64 tx, .string sx] 28; rw [hW9]; have HO1 := qH (HO0.out.below hwb9); have HZ0 := qH Z0.2.size; obtain ⟨Z1, rfl⟩ : ∃ Z : ExtO (fun b => (Value.slice av nl cv).ownBlock = some b) W6, W9 = Z.1 := ⟨⟨W9, Z0.2.trans (Kept.of_below hwb9)⟩, rfl⟩; have HWL := qH (fun j u (hj : (edC ⟨kx, nx, fx, tx, sx⟩)[j]? = some u) => show Z1.1.cell? ⟨Z0.1.heap.size, j, none⟩ = some u from hwl9 j u (by rw [← hj]; unfold edC; simp)); have HZS := qH hws9; clear hW9 hwb9 hws9 hwl9; refine hK _ _ (fun _ => ⟨Z1, rfl⟩) ?_; clear hK K
 try simp only [pS]
 refine late_do (i := 7) _ rfl (by kernel_rfl) rfl (fun K hK => ?_); refine wp_append_ed (.tmp 45) (.tmp 47) rfl rfl HO1.out rfl HWL.out (by have := HLB.out; rw [HNL.out]; omega) (fun a3 n3 c3 w3 ho3 hn3 hg3 hb3 => ?_); obtain ⟨Z2, rfl⟩ : ∃ Z : ExtO (fun b => (Value.slice av nl cv).ownBlock = some b) W6, w3 = Z.1 := ⟨⟨w3, Z1.2.trans (Kept.of_grown hg3 (fun g e _ => e))⟩, rfl⟩; rw [HL1.out] at ho3; have HO3 := qH ho3; have HB3 := qH hb3; have HZ12 := qH hg3.size; refine hK _ _ (fun _ => ⟨Z2, rfl⟩) ?_; clear hK K ho3 hg3 hb3 hn3 HO0 HO1
 try simp only [pS]
 refine late_free (by kernel_rfl) (fun _ _ d _ _ h => by cases d <;> exact h) (Or.inr ⟨Z2, rfl⟩) [8, 9] 1 _ (by kernel_rfl) (by kernel_rfl) ?_; change wpQuiet _ _ _ _ (_ :: _ :: []) _
 repeat go_big_quiet_step (fail)
 refine wpQuiet_nil ?_; have hs7 := (Z2.2.block s (lt_of_block HS6.out) (fun e => (HEW.out _ e).2 rfl)).trans HS6.out; obtain ⟨WF, hWF, hsF, hkF⟩ := st_ve hs7 (.slice a3 n3 c3); have HSF := qH hsF; have HKF := qH hkF; have frF := st_free hs7; unfold spC at hs7; have m12 := st_cell (i := 12) hs7 rfl; clear hs7 hsF hkF; refine late_do (i := 10) _ rfl (by kernel_rfl) rfl (fun K hK => ?_); go_simp; refine hK _ _ (nOo rfl) ?_; clear hK K
 try simp only [pS]
 clear hWF frF m12; refine late_done (by kernel_rfl) ?_ _; go_wp2_with fail; go_ret; have h1 := HS1.out; have h2 := HK2.out.size; have h3 := Z5.2.size; have h4 := HK6.out.size; have h5 := HZ0.out; have h6 := HZ12.out; have h7 := HZS.out; have h8 := HKF.out.size; have hsl := HSL.out; have hgl : g < w.heap.size := HP.out g (HS.out.ub g rfl).1; have hK7 : Kept (fun b => (Value.slice av nl cv).ownBlock = some b) W6 Z2.1 := Z2.2; have hlt3 := HO3.out.lt; have hE : EdOwn WF 0 (.slice a3 n3 c3) L1 := HO3.out.keptO HKF.out (fun q hq e => by
  rcases HB3.out q hq with h | h
  · exact (HEW.out q h).2 e
  · omega)
 have hOld : ∀ q, q < W6.heap.size → (Value.slice av nl cv).ownBlock ≠ some q → (Value.slice a3 n3 c3).ownBlock ≠ some q := fun q hq hne e => by
  rcases HB3.out q e with h | h
  · exact hne h
  · omega
 have hV : EdOwn WF 0 (.slice (some ⟨g, 0, none⟩) n cap) V := (((((HOV.out.below HB1.out).keptO HK2.out (fun q hq e => by cases hq; exact HEG.out.2.2 e)).below Z5.2).keptO HK6.out (fun q hq e => by cases hq; exact HEG.out.2.2 e)).keptO hK7 (fun q hq e => by cases hq; exact HEG.out.1 e)).keptO HKF.out (fun q hq e => by cases hq; exact HEG.out.2.2 e); have hIAF : ActIn WF A a b c := (((((HIA.out.below HB1.out).keptN HK2.out (fun q hq e => (HS.out.rows q (Or.inl hq)).2.1 e)).below Z5.2).keptN HK6.out (fun q hq e => (HS.out.rows q (Or.inl hq)).2.1 e)).keptN hK7 (fun q hq e => (HS.out.rows q (Or.inl hq)).2.2.1 e)).keptN HKF.out (fun q hq e => (HS.out.rows q (Or.inl hq)).2.1 e); have hrow : ∀ q, RowOf Y ya yb yc q → W2.heap.size ≤ q ∧ q < Z5.1.heap.size := fun q hq => ⟨hq.of (O := fun k => W2.heap.size ≤ k) HYQ.out, HY5.out.ltN hq⟩
 have hIYF : ActIn WF Y ya yb yc := ((HY5.out.keptN HK6.out (fun q hq e => by have := (hrow q hq).1; omega)).keptN hK7 (fun q hq e => by have := (hrow q hq).1; have := (HEW.out q e).1; omega)).keptN HKF.out (fun q hq e => by have := (hrow q hq).1; omega); unfold RedoRet; refine ⟨?_, Or.inr ⟨V, ⟨kx, nx, fx, tx, sx⟩, rfl, rfl, ?_⟩⟩
 · have hs : ∀ q, q = s → P q := fun q hq => by subst hq; exact HS.out.st
   have k1 : Kept P w W6 := (Kept.of_below HB1.out).trans ((HK2.out.wide hs).trans ((Kept.of_below Z5.2).trans (HK6.out.wide hs))); exact k1.trans ((hK7.wide (fun q hq => (HS.out.eb q hq).1)).trans (HKF.out.wide hs))
 · rw [HL1.out]
   refine ⟨HOK.out, a, b, c, ya, yb, yc, ca, cb, cc, yca, ycb, ycc, .slice a3 n3 c3, .slice (some ⟨g, 0, none⟩) n cap, by rw [HNX.out]; exact HSF.out, hIAF, by rw [HNX.out]; exact hIYF, hE, hV, ?_⟩; rw [HNX.out]; refine ⟨Or.inl HS.out.st, fun q hq => ?_, fun q hq => ?_, fun q hq => ?_⟩
   · have hl := (hlt3 q hq).2
     have hgq : ¬ (Value.slice (some ⟨g, 0, none⟩) n cap).ownBlock = some q := fun e => by
      have e2 : g = q := Option.some.inj e; subst e2; exact hOld g (by omega) HEG.out.1 hq
     rcases HB3.out q hq with h | h
     · exact ⟨Or.inl (HS.out.eb q h).1, (HEW.out q h).2, hgq⟩
     · exact ⟨Or.inr ⟨by omega, by omega⟩, by omega, hgq⟩
   · have e2 : g = q := Option.some.inj hq
     subst e2; exact ⟨Or.inl (HS.out.ub g rfl).1, HEG.out.2.2⟩
   · rcases hq with hq | hq
     · obtain ⟨q1, q2, q3, q4⟩ := HS.out.rows q (Or.inl hq)
       exact ⟨Or.inl q1, q2, hOld q (by have := HP.out q q1; omega) q3, q4⟩
     · obtain ⟨r1, r2⟩ := hrow q hq
       refine ⟨Or.inr ⟨by omega, by omega⟩, by omega, hOld q (by omega) (fun e => by have := (HEW.out q e).1; omega), fun e => ?_⟩; have e2 : g = q := Option.some.inj e; omega
theorem ERow.keptE {O : Nat → Prop} {w w' : World} {a : Option Addr} {l : List Ed} (h : ERow w a l) (hk : Kept O w w') (ho : ∀ q : Addr, 0 < l.length → a = some q → ¬ O q.block) : ERow w' a l :=
 ⟨fun hl => by
  obtain ⟨b, off, e, hbl, hc⟩ := h.here hl; exact ⟨b, off, e, Nat.lt_of_lt_of_le hbl hk.size, fun i x hx j v hv => hk.cell (ho ⟨b, off, none⟩ hl e) (hc i x hx j v hv)⟩⟩
def ViewRet (Z : Acv) (w : World) (e : Ending) (w' : World) : Prop :=
 Below w.heap.size w w' ∧ ∃ a b c ca cb cc, e = .returned (actV Z a b c ca cb cc) ∧ ActIn w' Z a b c
def EdView (L : List Ed) (w : World) (e : Ending) (w' : World) : Prop :=
 Below w.heap.size w w' ∧ ∃ a c, e = .returned (.slice a L.length c) ∧ ERow w' a L
theorem own3_in {w : World} {base : Nat} {A : Acv} {a b c : Option Addr} {ca cb cc : Nat} (h : Own3 w base A (.slice a A.sm.length ca) (.slice b A.lp.length cb) (.slice c A.tg.length cc)) (ht : ActText A) (hl : A.sm.length ≤ 20000 ∧ A.lp.length ≤ 200 ∧ A.tg.length ≤ 20) :
 ActIn w A a b c ∧ ∀ q, (a = some q ∨ b = some q ∨ c = some q) → base ≤ q.block := by
 obtain ⟨B1, B2, hB1, hB2, h1, _, h2, _, h3⟩ := h.ex; obtain ⟨_, _, e1, k1, r1, q1⟩ := h1.row smEl; obtain ⟨_, _, e2, k2, r2, q2⟩ := h2.row lpEl; obtain ⟨_, _, e3, k3, r3, q3⟩ := h3.row tgEl; injection e1 with e1 _ _; injection e2 with e2 _ _; injection e3 with e3 _ _; subst e1 e2 e3; refine ⟨⟨r1, r2, r3, ht.name, ht.titles, ht.tags, by omega, by omega, by omega⟩, fun q hq => ?_⟩; rcases hq with hq | hq | hq
 · exact (q1 q hq).1
 · exact Nat.le_trans hB1 (q2 q hq).1
 · exact Nat.le_trans hB1 (Nat.le_trans hB2 (q3 q hq).1)
theorem nowP_any (P : Nat → Prop) (s : Nat) (A : Acv) (L U : List Ed) (w : World) (h : StP w P s A L U) :
 Calls Tryz.prog 25 #[.pointer (some ⟨s, 0, none⟩)] w fun e w' => ViewRet (nowA A L) w e w' := by
 obtain ⟨hok, a, b, c, a', b', c', ca, cb, cc, ca', cb', cc', ve, vu, hst, hIA, hIZ, hOE, hOU, hS⟩ := h; have hln := nowA_len hok.chk L; generalize nowA A L = Z at hst hIZ hS hln ⊢; obtain ⟨V1, hV1, hb1, hs1, ha1⟩ := alloc_a0 w; have HB1 := qH hb1; have HA1 := qH ha1; have hst1 := (hb1.block s (lt_of_block hst)).trans hst; have DCL := qH (show Calls Tryz.prog 33 #[.agg #[.string Z.name, .int .i64 Z.sport, .int .i64 Z.start, .slice a' Z.sm.length ca', .slice b' Z.lp.length cb', .slice c' Z.tg.length cc']] V1 fun e w'' => CloneRet Z V1 e w'' from by
  have h := cloneA_any Z a' b' c' ca' cb' cc' V1 (hIZ.below hb1) (by omega) (by omega) (by omega); unfold actV at h; exact h)
 have HTX := qH hIZ.text; have HLN := qH hln; unfold spC at hst1; have z0 := st_cell hst1 (i := 6) rfl; have z1 := st_cell hst1 (i := 7) rfl; have z2 := st_cell hst1 (i := 8) rfl; have z3 := st_cell hst1 (i := 9) rfl; have z4 := st_cell hst1 (i := 10) rfl; have z5 := st_cell hst1 (i := 11) rfl; clear hok hst hst1 hIA hIZ hOE hOU hS hb1 hs1 ha1 hln; go_enter Tryz.func25, Tryz.ntmps25; go_upto_region 1 with (fail); clear hV1; go_wp2_with fail; refine (DCL.out).mono ?_; unfold CloneRet; rintro e w2 ⟨⟨a1, b1, c1, ca1, cb1, cc1, rfl, ho2⟩, hb2⟩; unfold actV; have hI2 : ActIn w2 Z a1 b1 c1 ∧ ∀ q, (a1 = some q ∨ b1 = some q ∨ c1 = some q) → V1.heap.size ≤ q.block := own3_in ho2 HTX.out HLN.out; have hR := HA1.out.below hb2; obtain ⟨r0, r1, r2, r3, r4, r5⟩ := hR.cell; have fr := hR.free; obtain ⟨WF, hWF, haF, hkF⟩ := hR.store Z.name Z.sport Z.start (.slice a1 Z.sm.length ca1) (.slice b1 Z.lp.length cb1) (.slice c1 Z.tg.length cc1); have hkF' := hkF (fun q => q = w.heap.size) rfl; have HAF := qH haF; have HBF := qH (show Below w.heap.size w WF from Below.of_kept (bStp HB1.out hb2) hkF' (fun k hk e => by omega)); have HIF := qH (hI2.1.kept hkF' (fun q hq e => by have := hI2.2 q hq; have := HA1.out.lt; omega)); clear hI2 hR haF hkF hkF' ho2 hb2 DCL z0 z1 z2 z3 z4 z5; go_wp2_with fail; have q := HAF.out.cell; exact bodyPost_ret (v := .agg #[.string Z.name, .int .i64 Z.sport, .int .i64 Z.start, .slice a1 Z.sm.length ca1, .slice b1 Z.lp.length cb1, .slice c1 Z.tg.length cc1]) (by simp [results, Tryz.results25, go_sem, q]) rfl (by unfold ViewRet; exact ⟨HBF.out, a1, b1, c1, ca1, cb1, cc1, rfl, HIF.out⟩)
theorem firstP_any (P : Nat → Prop) (s : Nat) (A : Acv) (L U : List Ed) (w : World) (h : StP w P s A L U) :
 Calls Tryz.prog 27 #[.pointer (some ⟨s, 0, none⟩)] w fun e w' => ViewRet A w e w' := by
 obtain ⟨hok, a, b, c, a', b', c', ca, cb, cc, ca', cb', cc', ve, vu, hst, hIA, hIZ, hOE, hOU, hS⟩ := h; have hln : A.sm.length ≤ 20000 ∧ A.lp.length ≤ 200 ∧ A.tg.length ≤ 20 := nowA_len hok.chk []; generalize nowA A L = Z0 at hst hIZ hS; obtain ⟨V1, hV1, hb1, hs1, ha1⟩ := alloc_a0 w; have HB1 := qH hb1; have HA1 := qH ha1; have hst1 := (hb1.block s (lt_of_block hst)).trans hst; have DCL := qH (show Calls Tryz.prog 33 #[.agg #[.string A.name, .int .i64 A.sport, .int .i64 A.start, .slice a A.sm.length ca, .slice b A.lp.length cb, .slice c A.tg.length cc]] V1 fun e w'' => CloneRet A V1 e w'' from by
  have h := cloneA_any A a b c ca cb cc V1 (hIA.below hb1) (by omega) (by omega) (by omega); unfold actV at h; exact h)
 have HTX := qH hIA.text; have HLN := qH hln; unfold spC at hst1; have z0 := st_cell hst1 (i := 0) rfl; have z1 := st_cell hst1 (i := 1) rfl; have z2 := st_cell hst1 (i := 2) rfl; have z3 := st_cell hst1 (i := 3) rfl; have z4 := st_cell hst1 (i := 4) rfl; have z5 := st_cell hst1 (i := 5) rfl; clear hok hst hst1 hIA hIZ hOE hOU hS hb1 hs1 ha1 hln; go_enter Tryz.func27, Tryz.ntmps27; go_upto_region 1 with (fail); clear hV1; go_wp2_with fail; refine (DCL.out).mono ?_; unfold CloneRet; rintro e w2 ⟨⟨a1, b1, c1, ca1, cb1, cc1, rfl, ho2⟩, hb2⟩; unfold actV; have hI2 : ActIn w2 A a1 b1 c1 ∧ ∀ q, (a1 = some q ∨ b1 = some q ∨ c1 = some q) → V1.heap.size ≤ q.block := own3_in ho2 HTX.out HLN.out; have hR := HA1.out.below hb2; obtain ⟨r0, r1, r2, r3, r4, r5⟩ := hR.cell; have fr := hR.free; obtain ⟨WF, hWF, haF, hkF⟩ := hR.store A.name A.sport A.start (.slice a1 A.sm.length ca1) (.slice b1 A.lp.length cb1) (.slice c1 A.tg.length cc1); have hkF' := hkF (fun q => q = w.heap.size) rfl; have HAF := qH haF; have HBF := qH (show Below w.heap.size w WF from Below.of_kept (bStp HB1.out hb2) hkF' (fun k hk e => by omega)); have HIF := qH (hI2.1.kept hkF' (fun q hq e => by have := hI2.2 q hq; have := HA1.out.lt; omega)); clear hI2 hR haF hkF hkF' ho2 hb2 DCL z0 z1 z2 z3 z4 z5; go_wp2_with fail; have q := HAF.out.cell; exact bodyPost_ret (v := .agg #[.string A.name, .int .i64 A.sport, .int .i64 A.start, .slice a1 A.sm.length ca1, .slice b1 A.lp.length cb1, .slice c1 A.tg.length cc1]) (by simp [results, Tryz.results27, go_sem, q]) rfl (by unfold ViewRet; exact ⟨HBF.out, a1, b1, c1, ca1, cb1, cc1, rfl, HIF.out⟩)
theorem editsP_any (P : Nat → Prop) (s : Nat) (A : Acv) (L U : List Ed) (w : World) (h : StP w P s A L U) :
 Calls Tryz.prog 29 #[.pointer (some ⟨s, 0, none⟩)] w fun e w' => EdView L w e w' := by
 obtain ⟨hok, a, b, c, a', b', c', ca, cb, cc, ca', cb', cc', ve, vu, hst, hIA, hIZ, hOE, hOU, hS⟩ := h; obtain ⟨av, cv, rfl, hcv, hr, _⟩ := id hOE.row; have DC := qH (cloneE_any av L cv w hr (by have := hok.len; omega)); unfold spC at hst; have z := st_cell hst (i := 12) rfl; clear hok hst hIA hIZ hOE hOU hS hr hcv; go_enter Tryz.func29, Tryz.ntmps29; go_wp2_with fail; refine (DC.out).mono ?_; rintro e w2 ⟨⟨v, rfl, ho⟩, hb⟩; obtain ⟨a2, c2, rfl, _, hr2, _⟩ := ho.row; have HR := qH hr2; have HB := qH hb; clear ho hr2 hb DC z; go_wp2_with fail; go_ret; exact ⟨HB.out, a2, c2, rfl, HR.out⟩
theorem editsR_any (P : Nat → Prop) (s : Nat) (A : Acv) (L U : List Ed) (w : World) (h : StR w P s A L U) :
 Calls Tryz.prog 30 #[.pointer (some ⟨s, 0, none⟩)] w fun e w' => EdView L w e w' := by
 obtain ⟨hok, a, b, c, ca, cb, cc, ve, vu, hst, hIA, hOE, hOU, hS⟩ := h; obtain ⟨av, cv, rfl, hcv, hr, _⟩ := id hOE.row; have HR := qH hr; have HL := qH hok.len; obtain ⟨n, hn⟩ : ∃ n, L.length = n := ⟨_, rfl⟩; have HN := qH hn; rw [hn] at hst; unfold srC at hst; have z := st_cell hst (i := 6) rfl; clear hok hst hIA hOE hOU hS hr hcv hn; go_enter Tryz.func30, Tryz.ntmps30; go_wp2_with (at_builtin; refine append_eds (l := []) (base := w.heap.size) rfl _ _ rfl rfl (EdOwn.nil _ _) rfl HN.out HR.out (by have := HL.out; have := HN.out; show 0 + n ≤ _; omega) (Nat.le_refl _) (fun v1 w1 ho1 hg1 => ?_)); rw [List.nil_append] at ho1; obtain ⟨a2, c2, rfl, _, hr2, _⟩ := ho1.row; have HR2 := qH hr2; have HB := qH (show Below w.heap.size w w1 from Kept.below (O := fun _ => False) (Below.refl _ _) (Kept.of_grown hg1 (fun g e _ => by cases e)) (Nat.le_refl _) (fun k hk e => e.elim)); clear ho1 hr2 hg1 z; go_wp2_with fail; go_ret; exact ⟨HB.out, a2, c2, rfl, HR2.out⟩
theorem nowA_take (A : Acv) (L : List Ed) (k : Nat) (x : Ed) (hx : L[k]? = some x) : nowA A (L.take (k + 1)) = apZ (nowA A (L.take k)) x := by
 rw [List.take_add_one, hx]; exact nowA_snoc A _ x
theorem nowR_any (P : Nat → Prop) (s : Nat) (A : Acv) (L U : List Ed) (w : World) (h : StR w P s A L U) :
 Calls Tryz.prog 26 #[.pointer (some ⟨s, 0, none⟩)] w fun e w' => ViewRet (nowA A L) w e w' := by
 obtain ⟨hok, a, b, c, ca, cb, cc, ve, vu, hst, hIA, hOE, hOU, hS⟩ := h; obtain ⟨av, cv, rfl, hcv, hr, _⟩ := id hOE.row; obtain ⟨n, hn⟩ : ∃ n, L.length = n := ⟨_, rfl⟩; have HN := qH hn; have hnb : n ≤ 200 := by have := hok.len; omega
 have HTL := qH hok.tl; have HTX := qH hIA.text; have hln : A.sm.length ≤ 20000 ∧ A.lp.length ≤ 200 ∧ A.tg.length ≤ 20 := nowA_len hok.chk []; have HLN := qH hln; rw [hn] at hst; obtain ⟨V1, hV1, hb1, hs1, ha1⟩ := alloc_a0 w; have HB1 := qH hb1; have HS1 := qH hs1; have HA1 := qH ha1; have HR1 := qH (hr.below hb1); have hst1 := (hb1.block s (lt_of_block hst)).trans hst; have HSL := qH (lt_of_block hst); have DCL := qH (show Calls Tryz.prog 48 #[.agg #[.string A.name, .int .i64 A.sport, .int .i64 A.start, .slice a A.sm.length ca, .slice b A.lp.length cb, .slice c A.tg.length cc]] V1 fun e w'' => CloneRet A V1 e w'' from by
  have h := rcopied_any A a b c ca cb cc V1 (hIA.below hb1) (by omega) (by omega) (by omega); unfold actV at h; exact h)
 have HST1 := qH hst1; unfold srC at hst1; have z0 := st_cell hst1 (i := 0) rfl; have z1 := st_cell hst1 (i := 1) rfl; have z2 := st_cell hst1 (i := 2) rfl; have z3 := st_cell hst1 (i := 3) rfl; have z4 := st_cell hst1 (i := 4) rfl; have z5 := st_cell hst1 (i := 5) rfl; have z6 := st_cell hst1 (i := 6) rfl; clear hok hst hst1 hIA hOE hOU hS hb1 hs1 ha1 hln hr hcv hn; go_enter Tryz.func26, Tryz.ntmps26; go_upto_region 1 with (fail); clear hV1; go_wp2_with fail; refine (DCL.out).mono ?_; unfold CloneRet; rintro e w4 ⟨⟨a1, b1, c1, ca1, cb1, cc1, rfl, ho4⟩, hb4⟩; unfold actV; have hI4 : ActIn w4 A a1 b1 c1 ∧ ∀ q, (a1 = some q ∨ b1 = some q ∨ c1 = some q) → V1.heap.size ≤ q.block := own3_in ho4 HTX.out HLN.out; have hl4 := ho4.lt; obtain ⟨W5, hW5, hb5, hs5, ha5⟩ := alloc_ac w4 A.name A.sport A.start (.slice a1 A.sm.length ca1) (.slice b1 A.lp.length cb1) (.slice c1 A.tg.length cc1); obtain ⟨T, hT⟩ : ∃ T, w4.heap.size = T := ⟨_, rfl⟩; rw [hT] at ha5; have HA5 := qH ha5; have HB5 := qH (show Below V1.heap.size V1 W5 from bStp hb4 hb5); have HT := qH (show w.heap.size + 1 ≤ T ∧ W5.heap.size = T + 1 from by
  have h2 := HS1.out; have h4 := hb4.size; omega)
 have HI5 := qH (show ActIn W5 A a1 b1 c1 ∧ ∀ q, (a1 = some q ∨ b1 = some q ∨ c1 = some q) → w.heap.size + 1 ≤ q.block ∧ q.block ≠ T from by
  have h2 := HS1.out; exact ⟨hI4.1.below hb5, fun q hq => ⟨by have := hI4.2 q hq; omega, by have := hl4 q hq; omega⟩⟩)
 have HBW5 := qH (bStp HB1.out HB5.out); have HRX := qH (fun X : ExtO (fun b => b = T) W5 => show ERow X.1 av L from (HR1.out.below HB5.out).keptE X.2 (fun q hl e => by
  obtain ⟨b0, o0, e0, hb0, _⟩ := HR1.out.here hl; rw [e] at e0; injection e0 with e0; rw [e0]; have := HT.out; have := HS1.out; have := hb4.size; show ¬ b0 = T; omega))
 have HBX := qH (fun X : ExtO (fun b => b = T) W5 => show Below w.heap.size w X.1 from Below.of_kept HBW5.out X.2 (fun k hk e => by have := HT.out; omega)); have HZX := qH (fun X : ExtO (fun b => b = T) W5 => (HA1.out.below HB5.out).kept X.2 (by have := HT.out; omega)); have y6 := bCel HB5.out z6; clear hI4 hl4 ho4 hb4 hb5 ha5 DCL z0 z1 z2 z3 z4 z5; go_wp2_with fail; clear hW5 hT hs5
 go_loopw [16] (fun iv wr => ∃ k : Nat, iv = .int .i64 k ∧ k ≤ n ∧ Hid (∃ B xa xb xc xca xcb xcc, AcB wr T B.name B.sport B.start (.slice xa B.sm.length xca) (.slice xb B.lp.length xcb) (.slice xc B.tg.length xcc) ∧ ActIn wr B xa xb xc ∧ (∀ q, (xa = some q ∨ xb = some q ∨ xc = some q) → w.heap.size + 1 ≤ q.block ∧ q.block ≠ T) ∧ nowA A (L.take k) = B) ∧ ∃ X : ExtO (fun b => b = T) W5, wr = X.1) (fun iv _ => n - (intOf iv).toNat)
 case atStart => exact ⟨0, rfl, by omega, qH ⟨A, a1, b1, c1, ca1, cb1, cc1, HA5.out, HI5.out.1, HI5.out.2, rfl⟩, ⟨W5, Kept.refl _ _⟩, rfl⟩
 case round =>
  obtain ⟨k, rfl, hk, HST, X, rfl⟩ := hrel; obtain ⟨B, xa, xb, xc, xca, xcb, xcc, hac, hin, hqs, heq⟩ := HST.out; by_cases hlt : k < n
  · have t2 : decide ((k : Int) < (n : Int)) = true := dTt (by omega)
    have t2' : decide (k < n) = true := by simpa using hlt
    obtain ⟨x, hx⟩ : ∃ x, L[k]? = some x := ⟨_, List.getElem?_eq_getElem (by rw [HN.out]; exact hlt)⟩; obtain ⟨bb, off, rfl, hbl, e0, e1, e2, e3, e4⟩ := (HRX.out X).at hx; have hxs := HTL.out x (List.mem_of_getElem? hx); have hst := nowA_take A L k x hx; rw [heq] at hst; obtain ⟨V6, hV6, hb6, hs6, hl6⟩ := alloc_cells X.1 #[.int .i64 x.k, .int .i64 x.n, .int .i64 x.f, .int .i64 x.t, .string x.s] 28; have u0 := hl6 0 _ rfl; have u1 := hl6 1 _ rfl; have u2 := hl6 2 _ rfl; have u3 := hl6 3 _ rfl; have u4 := hl6 4 _ rfl; have HA6 := qH (hac.below hb6); have HI6 := qH (hin.below hb6); have HB6 := qH hb6; obtain ⟨p0, p1, p2, p3, p4, p5⟩ := HA6.out.cell; have DAP := qH (show Calls Tryz.prog 8 #[.agg #[.string B.name, .int .i64 B.sport, .int .i64 B.start, .slice xa B.sm.length xca, .slice xb B.lp.length xcb, .slice xc B.tg.length xcc], .agg #[.int .i64 x.k, .int .i64 x.n, .int .i64 x.f, .int .i64 x.t, .string x.s]] V6 fun e w' => ActResF (apZ B x) (apE B x) V6 e w' from by
     have h := rapply_f x B xa xb xc xca xcb xcc V6 HI6.out hxs; unfold actV edV at h; exact h)
    obtain ⟨Z, hZ⟩ : ∃ z, apZ B x = z := ⟨_, rfl⟩; obtain ⟨er, her⟩ : ∃ z, apE B x = z := ⟨_, rfl⟩; rw [hZ, her] at DAP; rw [hZ] at hst; have HSTEP := qH hst; have HS6 := qH (show V6.heap.size = X.1.heap.size + 1 from hs6); clear hx hxs hst hl6 hac hin hqs heq HST hb6 hs6 hZ her hbl; go_upto_region 5 with (fail); clear hV6 e0 e1 e2 e3 e4; go_wp2_with fail; refine (DAP.out).mono ?_; rintro e w7 ⟨hb7, ya, yb, yc, yca, ycb, ycc, rfl, hy7, hyq⟩; unfold actV; have hR := HA6.out.below hb7; obtain ⟨r0, r1, r2, r3, r4, r5⟩ := hR.cell; have fr := hR.free; obtain ⟨W8, hW8, ha8, hk8⟩ := hR.store Z.name Z.sport Z.start (.slice ya Z.sm.length yca) (.slice yb Z.lp.length ycb) (.slice yc Z.tg.length ycc); have hk8' := hk8 (fun q => q = T) rfl; obtain ⟨X8, rfl⟩ : ∃ Y : ExtO (fun b => b = T) W5, W8 = Y.1 := ⟨⟨W8, X.2.trans ((Kept.of_below (bStp HB6.out hb7)).trans hk8')⟩, rfl⟩; have HA8 := qH ha8; have HI8 := qH (show ActIn X8.1 Z ya yb yc ∧ ∀ q, (ya = some q ∨ yb = some q ∨ yc = some q) → w.heap.size + 1 ≤ q.block ∧ q.block ≠ T from by
     have h2 := HT.out; have h3 := X.2.size; have h4 := HS6.out; exact ⟨hy7.kept hk8' (fun q hq e => by have := hyq q hq; omega), fun q hq => by have := hyq q hq; exact ⟨by omega, by omega⟩⟩)
    clear hR ha8 hk8 hk8' hb7 hy7 hyq DAP p0 p1 p2 p3 p4 p5; go_upto_region 6 with (fail); clear hW8 r0 r1 r2 r3 r4 r5 fr u0 u1 u2 u3 u4; go_wp2_with fail
    go_roundw
    case rel => exact ⟨k + 1, by go_num, by omega, qH ⟨Z, ya, yb, yc, yca, ycb, ycc, HA8.out, HI8.out.1, HI8.out.2, HSTEP.out⟩, X8, rfl⟩
    case measure => simp [intOf]; omega
  · have t2 : decide ((k : Int) < (n : Int)) = false := dFf (by omega)
    have t2' : decide (k < n) = false := by simpa using hlt
    have HQ3 := qH (show nowA A L = B by rw [← heq, List.take_of_length_le (by rw [HN.out]; omega)]); have HB8 := qH (HBX.out X); obtain ⟨q0, q1, q2, q3, q4, q5⟩ := hac.cell; have hR := HZX.out X; obtain ⟨r0, r1, r2, r3, r4, r5⟩ := hR.cell; have fr := hR.free; obtain ⟨WF, hWF, haF, hkF⟩ := hR.store B.name B.sport B.start (.slice xa B.sm.length xca) (.slice xb B.lp.length xcb) (.slice xc B.tg.length xcc); have HAF := qH haF; have hkF' := hkF (fun q => q = w.heap.size) rfl; have HBF := qH (show Below w.heap.size w WF from Below.of_kept HB8.out hkF' (fun k hk e => by omega)); have HIF := qH (hin.kept hkF' (fun q hq e => by have := (hqs q hq).1; omega)); clear haF hkF hkF' hac hin hqs heq HST hR; go_wp2_with fail; have q := HAF.out.cell; exact bodyPost_ret (v := .agg #[.string B.name, .int .i64 B.sport, .int .i64 B.start, .slice xa B.sm.length xca, .slice xb B.lp.length xcb, .slice xc B.tg.length xcc]) (by simp [results, Tryz.results26, go_sem, q]) rfl (by rw [HQ3.out]; unfold ViewRet; exact ⟨HBF.out, xa, xb, xc, xca, xcb, xcc, rfl, HIF.out⟩)
theorem undoR_any (P : Nat → Prop) (s : Nat) (A : Acv) (L U : List Ed) (w : World) (h : StR w P s A L U) (hP : ∀ g, P g → g < w.heap.size) :
 Calls Tryz.prog 22 #[.pointer (some ⟨s, 0, none⟩)] w fun e w' => UndoRet StR P s A L U w e w' := by
 have HST0 := qH h; obtain ⟨hok, a, b, c, ca, cb, cc, ve, vu, hst, hIA, hOE, hOU, hS⟩ := id h; rcases list_last L with rfl | ⟨M, x, rfl⟩
 · obtain ⟨av, cv, rfl, hcv, _, _⟩ := id hOE.row
   unfold srC at hst; have z := st_cell hst (i := 6) rfl; clear hok hst hIA hOE hOU hS hcv h hP; go_enter Tryz.func22, Tryz.ntmps22; go_wp2_with fail; go_ret; unfold UndoRet; exact ⟨Kept.refl _ _, Or.inl ⟨rfl, rfl, HST0.out⟩⟩
 obtain ⟨g, cap, rfl, hOM, hcap, _⟩ := hOE.cutLast; obtain ⟨n, hn⟩ : ∃ n, M.length = n := ⟨_, rfl⟩; have hnb : n ≤ 200 := by
  have := hok.len; rw [List.length_append, hn] at this; omega
 have HN := qH hn; rw [hn] at hst hOE hOM hS hcap; obtain ⟨av, cv, rfl, hcv, _, _⟩ := id hOU.row; obtain ⟨nu, hnu⟩ : ∃ n, U.length = n := ⟨_, rfl⟩; have HNU := qH hnu; rw [hnu] at hst hOU hS; have HUB := qH (show nu ≤ 200 from by have := hok.len; omega); have hlast := hOE.lastCell hn; have HOK := qH hok.undo; have HP := qH hP; have HS := qH hS; have HSL := qH (lt_of_block hst); have HST := qH hst; have HIA := qH hIA; have HOM := qH hOM; have HOU := qH hOU; obtain ⟨U1, hU1⟩ : ∃ V, U ++ [x] = V := ⟨_, rfl⟩; have HU1 := qH hU1; rw [hU1] at HOK; obtain ⟨kx, nx, fx, tx, sx⟩ := x; unfold srC at hst; have e0 : w.cell? ⟨g, n * 5, none⟩ = some (.int .i64 kx) := hlast 0 _ rfl; have e1 : w.cell? ⟨g, n * 5 + 1, none⟩ = some (.int .i64 nx) := hlast 1 _ rfl; have e2 : w.cell? ⟨g, n * 5 + 2, none⟩ = some (.int .i64 fx) := hlast 2 _ rfl; have e3 : w.cell? ⟨g, n * 5 + 3, none⟩ = some (.int .i64 tx) := hlast 3 _ rfl; have e4 : w.cell? ⟨g, n * 5 + 4, none⟩ = some (.string sx) := hlast 4 _ rfl; have z6 := st_cell hst (i := 6) rfl; have z7 := st_cell hst (i := 7) rfl; have hgu : (Value.slice av nu cv).ownBlock ≠ some g := (hS.eb g rfl).2.2; have hsu : (Value.slice av nu cv).ownBlock ≠ some s := (fun e => (hS.ub s e).2 rfl); have hsg : g ≠ s := (hS.eb g rfl).2.1; have E0 := ExtO.cell (O := fun b => (Value.slice av nu cv).ownBlock = some b) hgu e0; have E1 := ExtO.cell (O := fun b => (Value.slice av nu cv).ownBlock = some b) hgu e1; have E2 := ExtO.cell (O := fun b => (Value.slice av nu cv).ownBlock = some b) hgu e2; have E3 := ExtO.cell (O := fun b => (Value.slice av nu cv).ownBlock = some b) hgu e3; have E4 := ExtO.cell (O := fun b => (Value.slice av nu cv).ownBlock = some b) hgu e4; have E6 := ExtO.cell (O := fun b => (Value.slice av nu cv).ownBlock = some b) hsu z6; have E7 := ExtO.cell (O := fun b => (Value.slice av nu cv).ownBlock = some b) hsu z7; have HGU := qH (And.intro hgu (And.intro hsu hsg)); have HEW := qH (show ∀ q, (Value.slice av nu cv).ownBlock = some q → P q ∧ q ≠ s from fun q hq => hS.ub q hq); have HRW := qH (show ∀ q, RowOf A a b c q → P q ∧ q ≠ s ∧ q ≠ g ∧ (Value.slice av nu cv).ownBlock ≠ some q from fun q hq => ⟨(hS.rows q hq).1, (hS.rows q hq).2.1, fun e => (hS.rows q hq).2.2.1 (by rw [e]; rfl), (hS.rows q hq).2.2.2⟩); have HPG := qH (show P g from (hS.eb g rfl).1); have q1 := last_i n hnb; have hc1 : n ≤ cap := by omega
 have hc2 : decide (n ≤ cap) = true := by simpa using hc1
 have t1 : decide ((n : Int) < 0) = false := dFf (by omega); clear hok hst hIA hOE hOM hOU hS hlast hcap hcv hP h hn hnu hU1 e0 e1 e2 e3 e4 z7 hgu hsu hsg; go_enter Tryz.func22, Tryz.ntmps22; go_upto_region 4 with (fail); clear z6; refine late_start (s := 16) (C := fun w' => ∃ Z : ExtO (fun b => (Value.slice av nu cv).ownBlock = some b) w, w' = Z.1) (by kernel_rfl) ?_; obtain ⟨Z0, hZ0⟩ : ∃ Z : ExtO (fun b => (Value.slice av nu cv).ownBlock = some b) w, ({ w with drawn := w.drawn + 1 } : World) = Z.1 := ⟨⟨{ w with drawn := w.drawn + 1 }, ⟨rfl, rfl, rfl, Nat.le_refl _, fun _ _ _ => rfl⟩⟩, rfl⟩; rw [hZ0]; have HO0 := qH (show EdOwn Z0.1 0 (.slice av nu cv) U from hZ0 ▸ (show EdOwn { w with drawn := w.drawn + 1 } 0 (.slice av nu cv) U from (show EdOwn w 0 (.slice av nu cv) U from HOU.out))); clear hZ0; refine late_quiet (by kernel_rfl) (fun _ _ d _ _ h => by cases d <;> exact h) ⟨Z0, rfl⟩ [0, 1, 2, 3, 4, 5, 6, 7, 8, 9, 10, 11] 5 _ _ (by kernel_rfl) (by kernel_rfl) ?_; change wpQuiet _ _ _ _ (_ :: _ :: _ :: _ :: _ :: _ :: _ :: _ :: _ :: _ :: _ :: _ :: []) _
 repeat go_big_quiet_step (fail)
 refine wpQuiet_nil ?_; refine late_do (i := 12) _ rfl (by kernel_rfl) rfl (fun K hK => ?_); go_simp; obtain ⟨W9, hW9, hwb9, hws9, hwl9⟩ := alloc_cells Z0.1 #[.int .i64 kx, .int .i64 nx, .int .i64 fx, .int .i64 tx, .string sx] 28; rw [hW9]; have HO1 := qH (HO0.out.below hwb9); have HZ0 := qH Z0.2.size; obtain ⟨Z1, rfl⟩ : ∃ Z : ExtO (fun b => (Value.slice av nu cv).ownBlock = some b) w, W9 = Z.1 := ⟨⟨W9, Z0.2.trans (Kept.of_below hwb9)⟩, rfl⟩; have HWL := qH (fun j u (hj : (edC ⟨kx, nx, fx, tx, sx⟩)[j]? = some u) => show Z1.1.cell? ⟨Z0.1.heap.size, j, none⟩ = some u from hwl9 j u (by rw [← hj]; unfold edC; simp)); have HZS := qH hws9; clear hW9 hwb9 hws9 hwl9; refine hK _ _ (fun _ => ⟨Z1, rfl⟩) ?_; clear hK K
 try simp only [pS]
 refine late_do (i := 13) _ rfl (by kernel_rfl) rfl (fun K hK => ?_); refine wp_append_ed (.tmp 16) (.tmp 24) rfl rfl HO1.out rfl HWL.out (by have := HUB.out; rw [HNU.out]; omega) (fun a3 n3 c3 w3 ho3 hn3 hg3 hb3 => ?_); obtain ⟨Z2, rfl⟩ : ∃ Z : ExtO (fun b => (Value.slice av nu cv).ownBlock = some b) w, w3 = Z.1 := ⟨⟨w3, Z1.2.trans (Kept.of_grown hg3 (fun g e _ => e))⟩, rfl⟩; rw [HU1.out] at ho3; have HO3 := qH ho3; have HB3 := qH hb3; have HZ12 := qH hg3.size; refine hK _ _ (fun _ => ⟨Z2, rfl⟩) ?_; clear hK K ho3 hg3 hb3 hn3 HO0 HO1
 try simp only [pS]
 refine late_free (by kernel_rfl) (fun _ _ d _ _ h => by cases d <;> exact h) (Or.inr ⟨Z2, rfl⟩) [14, 15] 1 _ (by kernel_rfl) (by kernel_rfl) ?_; change wpQuiet _ _ _ _ (_ :: _ :: []) _
 repeat go_big_quiet_step (fail)
 refine wpQuiet_nil ?_; have hs2 : Z2.1.heap[s]? = some (.cells (srC A a b c ca cb cc (.slice (some ⟨g, 0, none⟩) (n + 1) cap) (.slice av nu cv)) 91 (0, 0)) := (Z2.2.block s HSL.out HGU.out.2.1).trans HST.out; obtain ⟨W3, hW3, hs3, hk3⟩ := sr_vu hs2 (.slice a3 n3 c3); have HS3 := qH hs3; have HK3 := qH hk3; have fr3 := st_free hs2; unfold srC at hs2; have m := st_cell (i := 7) hs2 rfl; clear hs2 hs3 hk3; refine late_do (i := 16) _ rfl (by kernel_rfl) rfl (fun K hK => ?_); go_simp; refine hK _ _ (nOo rfl) ?_; clear hK K
 try simp only [pS]
 clear hW3 fr3 m E0 E1 E2 E3 E4 E6 E7; refine late_done (by kernel_rfl) ?_ _; have hs4 := HS3.out; obtain ⟨W4, hW4, hs4', hk4⟩ := sr_ve HS3.out (.slice (some ⟨g, 0, none⟩) n cap); have HS4 := qH hs4'; have HK4 := qH hk4; have fr4 := st_free HS3.out; unfold srC at hs4; have m := st_cell (i := 6) hs4 rfl; clear hs4 hs4' hk4; go_wp2_with fail; go_ret; have hz0 := HZ0.out; have hz12 := HZ12.out; have hzs := HZS.out; have hsl := HSL.out; have hK34 : Kept (fun b => b = s) Z2.1 W4 := HK3.out.trans HK4.out; have hK2 : Kept (fun b => (Value.slice av nu cv).ownBlock = some b) w Z2.1 := Z2.2; have hs34 := hK34.size; have hlt3 := HO3.out.lt; have hgl : g < w.heap.size := HP.out g HPG.out; have hE : EdOwn W4 0 (.slice a3 n3 c3) U1 := HO3.out.keptO hK34 (fun q hq e => by
  rcases HB3.out q hq with h | h
  · exact (HEW.out q h).2 e
  · omega)
 have hOld : ∀ q, q < w.heap.size → (Value.slice av nu cv).ownBlock ≠ some q → (Value.slice a3 n3 c3).ownBlock ≠ some q := fun q hq hne e => by
  rcases HB3.out q e with h | h
  · exact hne h
  · omega
 have hM : EdOwn W4 0 (.slice (some ⟨g, 0, none⟩) n cap) M := (HOM.out.keptO hK2 (fun q hq e => by cases hq; exact HGU.out.1 e)).keptO hK34 (fun q hq e => by cases hq; exact HGU.out.2.2 e); have hIAF : ActIn W4 A a b c := (HIA.out.keptN hK2 (fun q hq e => (HRW.out q hq).2.2.2 e)).keptN hK34 (fun q hq e => (HRW.out q hq).2.1 e); have hcutB : ∀ q, (Value.slice (some ⟨g, 0, none⟩) n cap).ownBlock = some q → Wider P w W4 q ∧ q ≠ s ∧ (Value.slice a3 n3 c3).ownBlock ≠ some q := fun q hq => by
  have e2 : g = q := Option.some.inj hq; subst e2; exact ⟨Or.inl HPG.out, HGU.out.2.2, hOld g hgl HGU.out.1⟩
 have hgrowB : ∀ q, (Value.slice a3 n3 c3).ownBlock = some q → Wider P w W4 q ∧ q ≠ s ∧ (Value.slice (some ⟨g, 0, none⟩) n cap).ownBlock ≠ some q := fun q hq => by
  have hl := (hlt3 q hq).2; have hgq : ¬ (Value.slice (some ⟨g, 0, none⟩) n cap).ownBlock = some q := fun e => by
   have e2 : g = q := Option.some.inj e; subst e2; exact hOld g hgl HGU.out.1 hq
  rcases HB3.out q hq with h | h
  · exact ⟨Or.inl (HEW.out q h).1, (HEW.out q h).2, hgq⟩
  · exact ⟨Or.inr ⟨by omega, by omega⟩, by omega, hgq⟩
 have hrowB : ∀ q, RowOf A a b c q → Wider P w W4 q ∧ q ≠ s ∧ (Value.slice (some ⟨g, 0, none⟩) n cap).ownBlock ≠ some q ∧ (Value.slice a3 n3 c3).ownBlock ≠ some q := fun q hq => by
  obtain ⟨q1, q2, q3, q4⟩ := HRW.out q hq; exact ⟨Or.inl q1, q2, fun e => q3 (Option.some.inj e).symm, hOld q (HP.out q q1) q4⟩
 unfold UndoRet; refine ⟨?_, Or.inr ⟨M, ⟨kx, nx, fx, tx, sx⟩, rfl, rfl, ?_⟩⟩
 · exact (hK2.wide (fun q hq => (HEW.out q hq).1)).trans (hK34.wide (fun q hq => by subst hq; exact HS.out.st))
 · rw [HU1.out]
   exact ⟨HOK.out, a, b, c, ca, cb, cc, .slice (some ⟨g, 0, none⟩) n cap, .slice a3 n3 c3, HS4.out, hIAF, hM, hE, ⟨Or.inl HS.out.st, hcutB, fun q hq => ⟨(hgrowB q hq).1, (hgrowB q hq).2.1⟩, fun q hq => ⟨(hrowB q hq).1, (hrowB q hq).2.1, (hrowB q hq).2.2.1, (hrowB q hq).2.2.2⟩⟩⟩
theorem redoR_any (P : Nat → Prop) (s : Nat) (A : Acv) (L U : List Ed) (w : World) (h : StR w P s A L U) (hP : ∀ g, P g → g < w.heap.size) :
 Calls Tryz.prog 24 #[.pointer (some ⟨s, 0, none⟩)] w fun e w' => RedoRet StR P s A L U w e w' := by
 have HST0 := qH h; obtain ⟨hok, a, b, c, ca, cb, cc, ve, vu, hst, hIA, hOE, hOU, hS⟩ := id h; rcases list_last U with rfl | ⟨V, x, rfl⟩
 · obtain ⟨av, cv, rfl, hcv, _, _⟩ := id hOU.row
   unfold srC at hst; have z := st_cell hst (i := 7) rfl; clear hok hst hIA hOE hOU hS hcv h hP; go_enter Tryz.func24, Tryz.ntmps24; go_wp2_with fail; go_ret; unfold RedoRet; exact ⟨Kept.refl _ _, Or.inl ⟨rfl, rfl, HST0.out⟩⟩
 obtain ⟨g, cap, rfl, hOM, hcap, _⟩ := hOU.cutLast; obtain ⟨n, hn⟩ : ∃ n, V.length = n := ⟨_, rfl⟩; have hnb : n ≤ 200 := by
  have := hok.len; rw [List.length_append, hn] at this; omega
 have HN := qH hn; rw [hn] at hst hOU hOM hS hcap; obtain ⟨av, cv, rfl, hcv, _, _⟩ := id hOE.row; obtain ⟨nu, hnu⟩ : ∃ n, L.length = n := ⟨_, rfl⟩; have HNU := qH hnu; rw [hnu] at hst hOE hS; have HUB := qH (show nu ≤ 200 from by have := hok.len; omega); have hlast := hOU.lastCell hn; have HOK := qH hok.redo; have HP := qH hP; have HS := qH hS; have HSL := qH (lt_of_block hst); have HST := qH hst; have HIA := qH hIA; have HOM := qH hOM; have HOU := qH hOE; obtain ⟨U1, hU1⟩ : ∃ V, L ++ [x] = V := ⟨_, rfl⟩; have HU1 := qH hU1; rw [hU1] at HOK; obtain ⟨kx, nx, fx, tx, sx⟩ := x; unfold srC at hst; have e0 : w.cell? ⟨g, n * 5, none⟩ = some (.int .i64 kx) := hlast 0 _ rfl; have e1 : w.cell? ⟨g, n * 5 + 1, none⟩ = some (.int .i64 nx) := hlast 1 _ rfl; have e2 : w.cell? ⟨g, n * 5 + 2, none⟩ = some (.int .i64 fx) := hlast 2 _ rfl; have e3 : w.cell? ⟨g, n * 5 + 3, none⟩ = some (.int .i64 tx) := hlast 3 _ rfl; have e4 : w.cell? ⟨g, n * 5 + 4, none⟩ = some (.string sx) := hlast 4 _ rfl; have z6 := st_cell hst (i := 6) rfl; have z7 := st_cell hst (i := 7) rfl; have hgu : (Value.slice av nu cv).ownBlock ≠ some g := (fun e => (hS.eb g e).2.2 rfl); have hsu : (Value.slice av nu cv).ownBlock ≠ some s := (fun e => (hS.eb s e).2.1 rfl); have hsg : g ≠ s := (hS.ub g rfl).2; have E0 := ExtO.cell (O := fun b => (Value.slice av nu cv).ownBlock = some b) hgu e0; have E1 := ExtO.cell (O := fun b => (Value.slice av nu cv).ownBlock = some b) hgu e1; have E2 := ExtO.cell (O := fun b => (Value.slice av nu cv).ownBlock = some b) hgu e2; have E3 := ExtO.cell (O := fun b => (Value.slice av nu cv).ownBlock = some b) hgu e3; have E4 := ExtO.cell (O := fun b => (Value.slice av nu cv).ownBlock = some b) hgu e4; have E6 := ExtO.cell (O := fun b => (Value.slice av nu cv).ownBlock = some b) hsu z6; have E7 := ExtO.cell (O := fun b => (Value.slice av nu cv).ownBlock = some b) hsu z7; have HGU := qH (And.intro hgu (And.intro hsu hsg)); have HEW := qH (show ∀ q, (Value.slice av nu cv).ownBlock = some q → P q ∧ q ≠ s from fun q hq => ⟨(hS.eb q hq).1, (hS.eb q hq).2.1⟩); have HRW := qH (show ∀ q, RowOf A a b c q → P q ∧ q ≠ s ∧ q ≠ g ∧ (Value.slice av nu cv).ownBlock ≠ some q from fun q hq => ⟨(hS.rows q hq).1, (hS.rows q hq).2.1, fun e => (hS.rows q hq).2.2.2 (by rw [e]; rfl), (hS.rows q hq).2.2.1⟩); have HPG := qH (show P g from (hS.ub g rfl).1); have q1 := last_i n hnb; have hc1 : n ≤ cap := by omega
 have hc2 : decide (n ≤ cap) = true := by simpa using hc1
 have t1 : decide ((n : Int) < 0) = false := dFf (by omega); clear hok hst hIA hOE hOM hOU hS hlast hcap hcv hP h hn hnu hU1 e0 e1 e2 e3 e4 z6 hgu hsu hsg; go_enter Tryz.func24, Tryz.ntmps24; go_upto_region 4 with (fail); clear z7; refine late_start (s := 16) (C := fun w' => ∃ Z : ExtO (fun b => (Value.slice av nu cv).ownBlock = some b) w, w' = Z.1) (by kernel_rfl) ?_; obtain ⟨Z0, hZ0⟩ : ∃ Z : ExtO (fun b => (Value.slice av nu cv).ownBlock = some b) w, ({ w with drawn := w.drawn + 1 } : World) = Z.1 := ⟨⟨{ w with drawn := w.drawn + 1 }, ⟨rfl, rfl, rfl, Nat.le_refl _, fun _ _ _ => rfl⟩⟩, rfl⟩; rw [hZ0]; have HO0 := qH (show EdOwn Z0.1 0 (.slice av nu cv) L from hZ0 ▸ (show EdOwn { w with drawn := w.drawn + 1 } 0 (.slice av nu cv) L from (show EdOwn w 0 (.slice av nu cv) L from HOU.out))); clear hZ0; refine late_quiet (by kernel_rfl) (fun _ _ d _ _ h => by cases d <;> exact h) ⟨Z0, rfl⟩ [0, 1, 2, 3, 4, 5, 6, 7, 8, 9, 10, 11] 5 _ _ (by kernel_rfl) (by kernel_rfl) ?_; change wpQuiet _ _ _ _ (_ :: _ :: _ :: _ :: _ :: _ :: _ :: _ :: _ :: _ :: _ :: _ :: []) _
 repeat go_big_quiet_step (fail)
 refine wpQuiet_nil ?_; refine late_do (i := 12) _ rfl (by kernel_rfl) rfl (fun K hK => ?_); go_simp; obtain ⟨W9, hW9, hwb9, hws9, hwl9⟩ := alloc_cells Z0.1 #[.int .i64 kx, .int .i64 nx, .int .i64 fx, .int .i64 tx, .string sx] 28; rw [hW9]; have HO1 := qH (HO0.out.below hwb9); have HZ0 := qH Z0.2.size; obtain ⟨Z1, rfl⟩ : ∃ Z : ExtO (fun b => (Value.slice av nu cv).ownBlock = some b) w, W9 = Z.1 := ⟨⟨W9, Z0.2.trans (Kept.of_below hwb9)⟩, rfl⟩; have HWL := qH (fun j u (hj : (edC ⟨kx, nx, fx, tx, sx⟩)[j]? = some u) => show Z1.1.cell? ⟨Z0.1.heap.size, j, none⟩ = some u from hwl9 j u (by rw [← hj]; unfold edC; simp)); have HZS := qH hws9; clear hW9 hwb9 hws9 hwl9; refine hK _ _ (fun _ => ⟨Z1, rfl⟩) ?_; clear hK K
 try simp only [pS]
 refine late_do (i := 13) _ rfl (by kernel_rfl) rfl (fun K hK => ?_); refine wp_append_ed (.tmp 16) (.tmp 24) rfl rfl HO1.out rfl HWL.out (by have := HUB.out; rw [HNU.out]; omega) (fun a3 n3 c3 w3 ho3 hn3 hg3 hb3 => ?_); obtain ⟨Z2, rfl⟩ : ∃ Z : ExtO (fun b => (Value.slice av nu cv).ownBlock = some b) w, w3 = Z.1 := ⟨⟨w3, Z1.2.trans (Kept.of_grown hg3 (fun g e _ => e))⟩, rfl⟩; rw [HU1.out] at ho3; have HO3 := qH ho3; have HB3 := qH hb3; have HZ12 := qH hg3.size; refine hK _ _ (fun _ => ⟨Z2, rfl⟩) ?_; clear hK K ho3 hg3 hb3 hn3 HO0 HO1
 try simp only [pS]
 refine late_free (by kernel_rfl) (fun _ _ d _ _ h => by cases d <;> exact h) (Or.inr ⟨Z2, rfl⟩) [14, 15] 1 _ (by kernel_rfl) (by kernel_rfl) ?_; change wpQuiet _ _ _ _ (_ :: _ :: []) _
 repeat go_big_quiet_step (fail)
 refine wpQuiet_nil ?_; have hs2 : Z2.1.heap[s]? = some (.cells (srC A a b c ca cb cc (.slice av nu cv) (.slice (some ⟨g, 0, none⟩) (n + 1) cap)) 91 (0, 0)) := (Z2.2.block s HSL.out HGU.out.2.1).trans HST.out; obtain ⟨W3, hW3, hs3, hk3⟩ := sr_ve hs2 (.slice a3 n3 c3); have HS3 := qH hs3; have HK3 := qH hk3; have fr3 := st_free hs2; unfold srC at hs2; have m := st_cell (i := 6) hs2 rfl; clear hs2 hs3 hk3; refine late_do (i := 16) _ rfl (by kernel_rfl) rfl (fun K hK => ?_); go_simp; refine hK _ _ (nOo rfl) ?_; clear hK K
 try simp only [pS]
 clear hW3 fr3 m E0 E1 E2 E3 E4 E6 E7; refine late_done (by kernel_rfl) ?_ _; have hs4 := HS3.out; obtain ⟨W4, hW4, hs4', hk4⟩ := sr_vu HS3.out (.slice (some ⟨g, 0, none⟩) n cap); have HS4 := qH hs4'; have HK4 := qH hk4; have fr4 := st_free HS3.out; unfold srC at hs4; have m := st_cell (i := 7) hs4 rfl; clear hs4 hs4' hk4; go_wp2_with fail; go_ret; have hz0 := HZ0.out; have hz12 := HZ12.out; have hzs := HZS.out; have hsl := HSL.out; have hK34 : Kept (fun b => b = s) Z2.1 W4 := HK3.out.trans HK4.out; have hK2 : Kept (fun b => (Value.slice av nu cv).ownBlock = some b) w Z2.1 := Z2.2; have hs34 := hK34.size; have hlt3 := HO3.out.lt; have hgl : g < w.heap.size := HP.out g HPG.out; have hE : EdOwn W4 0 (.slice a3 n3 c3) U1 := HO3.out.keptO hK34 (fun q hq e => by
  rcases HB3.out q hq with h | h
  · exact (HEW.out q h).2 e
  · omega)
 have hOld : ∀ q, q < w.heap.size → (Value.slice av nu cv).ownBlock ≠ some q → (Value.slice a3 n3 c3).ownBlock ≠ some q := fun q hq hne e => by
  rcases HB3.out q e with h | h
  · exact hne h
  · omega
 have hM : EdOwn W4 0 (.slice (some ⟨g, 0, none⟩) n cap) V := (HOM.out.keptO hK2 (fun q hq e => by cases hq; exact HGU.out.1 e)).keptO hK34 (fun q hq e => by cases hq; exact HGU.out.2.2 e); have hIAF : ActIn W4 A a b c := (HIA.out.keptN hK2 (fun q hq e => (HRW.out q hq).2.2.2 e)).keptN hK34 (fun q hq e => (HRW.out q hq).2.1 e); have hcutB : ∀ q, (Value.slice (some ⟨g, 0, none⟩) n cap).ownBlock = some q → Wider P w W4 q ∧ q ≠ s ∧ (Value.slice a3 n3 c3).ownBlock ≠ some q := fun q hq => by
  have e2 : g = q := Option.some.inj hq; subst e2; exact ⟨Or.inl HPG.out, HGU.out.2.2, hOld g hgl HGU.out.1⟩
 have hgrowB : ∀ q, (Value.slice a3 n3 c3).ownBlock = some q → Wider P w W4 q ∧ q ≠ s ∧ (Value.slice (some ⟨g, 0, none⟩) n cap).ownBlock ≠ some q := fun q hq => by
  have hl := (hlt3 q hq).2; have hgq : ¬ (Value.slice (some ⟨g, 0, none⟩) n cap).ownBlock = some q := fun e => by
   have e2 : g = q := Option.some.inj e; subst e2; exact hOld g hgl HGU.out.1 hq
  rcases HB3.out q hq with h | h
  · exact ⟨Or.inl (HEW.out q h).1, (HEW.out q h).2, hgq⟩
  · exact ⟨Or.inr ⟨by omega, by omega⟩, by omega, hgq⟩
 have hrowB : ∀ q, RowOf A a b c q → Wider P w W4 q ∧ q ≠ s ∧ (Value.slice (some ⟨g, 0, none⟩) n cap).ownBlock ≠ some q ∧ (Value.slice a3 n3 c3).ownBlock ≠ some q := fun q hq => by
  obtain ⟨q1, q2, q3, q4⟩ := HRW.out q hq; exact ⟨Or.inl q1, q2, fun e => q3 (Option.some.inj e).symm, hOld q (HP.out q q1) q4⟩
 unfold RedoRet; refine ⟨?_, Or.inr ⟨V, ⟨kx, nx, fx, tx, sx⟩, rfl, rfl, ?_⟩⟩
 · exact (hK2.wide (fun q hq => (HEW.out q hq).1)).trans (hK34.wide (fun q hq => by subst hq; exact HS.out.st))
 · rw [HU1.out]
   exact ⟨HOK.out, a, b, c, ca, cb, cc, .slice a3 n3 c3, .slice (some ⟨g, 0, none⟩) n cap, HS4.out, hIAF, hE, hM, ⟨Or.inl HS.out.st, hgrowB, fun q hq => ⟨(hcutB q hq).1, (hcutB q hq).2.1⟩, fun q hq => ⟨(hrowB q hq).1, (hrowB q hq).2.1, (hrowB q hq).2.2.2, (hrowB q hq).2.2.1⟩⟩⟩
theorem doR_any (P : Nat → Prop) (s : Nat) (A : Acv) (L U : List Ed) (x : Ed) (w : World) (h : StR w P s A L U) (hs : x.s.size ≤ maxLen) (hP : ∀ g, P g → g < w.heap.size) :
 Calls Tryz.prog 20 #[.pointer (some ⟨s, 0, none⟩), edV x] w fun e w' => DoRet StR P s A L U x w e w' := by
 unfold DoRet; obtain ⟨hok, a, b, c, ca, cb, cc, ve, vu, hst, hIA, hOE, hOU, hS⟩ := id h; have HST0 := qH h; have HP := qH hP; obtain ⟨n1, hn1⟩ : ∃ n, L.length = n := ⟨_, rfl⟩; have HN := qH hn1; obtain ⟨av, cv, rfl, hcv, _, _⟩ := id hOE.row; rw [hn1] at hst hOE hS; obtain ⟨Z, hZ⟩ : ∃ Z, nowA A L = Z := ⟨_, rfl⟩; obtain ⟨er, her⟩ : ∃ e, apE Z x = e := ⟨_, rfl⟩; have HDB := qH (fun h0 => doE_bad (show apE (nowA A L) x = er by rw [hZ]; exact her) h0); have HDF := qH (fun (h0 : er = 0) => And.intro (fun h => doE_full (L := L) (A := A) (x := x) (by rw [hZ, her]; exact h0) h) (fun h => doE_ok (L := L) (A := A) (x := x) (by rw [hZ, her]; exact h0) h)); have HMO := qH (fun hl => hok.more (x := x) hl hs); obtain ⟨dE, hdE⟩ : ∃ d, doE A L x = d := ⟨_, rfl⟩; rw [hdE] at HDB HDF ⊢; obtain ⟨Y, hY⟩ : ∃ Y, apZ Z x = Y := ⟨_, rfl⟩; have HAP := qH (fun (X : World) (a' b' c' : Option Addr) (ca' cb' cc' : Nat) (hX : ActIn X Z a' b' c') => rapply_f x Z a' b' c' ca' cb' cc' X hX hs); rw [hY, her] at HAP; obtain ⟨L1, hL1⟩ : ∃ M, L ++ [x] = M := ⟨_, rfl⟩; have HL1 := qH hL1; rw [hL1] at HMO ⊢; obtain ⟨k, n, f, t, sx⟩ := x; clear hdE her hY hok hP hs hn1 h hL1; obtain ⟨V1, hV1, hb1, hs1, hl1⟩ := alloc_cells w #[.int .i64 k, .int .i64 n, .int .i64 f, .int .i64 t, .string sx] 28; have HB1 := qH hb1; have HS1 := qH hs1; have x0 : V1.cell? ⟨w.heap.size, 0, none⟩ = some (.int .i64 k) := hl1 0 _ rfl; have x1 : V1.cell? ⟨w.heap.size, 1, none⟩ = some (.int .i64 n) := hl1 1 _ rfl; have x2 : V1.cell? ⟨w.heap.size, 2, none⟩ = some (.int .i64 f) := hl1 2 _ rfl; have x3 : V1.cell? ⟨w.heap.size, 3, none⟩ = some (.int .i64 t) := hl1 3 _ rfl; have x4 : V1.cell? ⟨w.heap.size, 4, none⟩ = some (.string sx) := hl1 4 _ rfl; have HST := qH ((hb1.block s (lt_of_block hst)).trans hst); have HSL := qH (lt_of_block hst); have HIA := qH (hIA.below hb1); have HOE := qH (hOE.below hb1); have HOE0 := qH hOE; have HS := qH hS; have DN := qH (fun X : Ext V1 => nowR_any P s A L U X.1 (HST0.out.kept (O := fun _ => False) (Kept.of_below (bStp hb1 X.2)) (fun _ _ e => e))); rw [hZ] at DN; unfold ViewRet actV at DN; unfold actV edV at HAP; have hst' := HST.out; unfold srC at hst'; have z6 := Ext.ex (st_cell hst' (i := 6) rfl); have X0 := Ext.ex x0; have X1 := Ext.ex x1; have X2 := Ext.ex x2; have X3 := Ext.ex x3; have X4 := Ext.ex x4; clear hst hst' hIA hOE hOU hS hb1 hs1 hl1 x0 x1 x2 x3 x4 hZ; unfold edV; go_enter Tryz.func20, Tryz.ntmps20; go_upto_region 1 with (fail); clear hV1
 go_cut [5, 6] (fun p q wx => ∃ T : Nat, p = .pointer (some ⟨T, 0, none⟩) ∧ q = .int .i64 er ∧ ∃ X : Ext V1, wx = X.1)
 case first =>
  refine held_start (C := fun w' => ∃ Z : Ext V1, w' = Z.1) (by kernel_rfl) ?_; obtain ⟨Z0, hZ0⟩ : ∃ Z : Ext V1, ({ V1 with drawn := V1.drawn + 1 } : World) = Z.1 := ⟨⟨{ V1 with drawn := V1.drawn + 1 }, ⟨rfl, rfl, rfl, Nat.le_refl _, fun _ _ => rfl⟩⟩, rfl⟩; rw [hZ0]; clear hZ0; refine held_quiet5 (by kernel_rfl) (fun _ _ d _ _ h => by cases d <;> exact h) ⟨Z0, rfl⟩ [0, 2] 8 _ _ (by kernel_rfl) ?_; change wpQuiet _ _ _ _ (_ :: _ :: []) _
  repeat go_big_quiet_step (fail)
  refine wpQuiet_nil ?_; refine held_two (i := 1) (j := 7) _ _ rfl rfl (by kernel_rfl) rfl rfl (fun K hK => ?_) (fun K hK => ?_)
  · go_simp
    refine (DN.out Z0).mono ?_; rintro e w2 ⟨hb2, ya, yb, yc, yca, ycb, ycc, rfl, hy2⟩; have HY := qH hy2; obtain ⟨Z1, rfl⟩ : ∃ Z : Ext V1, w2 = Z.1 := ⟨⟨w2, bStp Z0.2 hb2⟩, rfl⟩; refine hK _ _ ⟨Z1, rfl⟩ ?_; clear hK K hb2 hy2
    try simp only [pS]
    refine held_two (i := 3) (j := 7) _ _ rfl rfl (by kernel_rfl) rfl rfl (fun K hK => ?_) (fun K hK => ?_)
    · go_simp
      refine (HAP.out Z1.1 ya yb yc yca ycb ycc HY.out).mono ?_; rintro e w4 ⟨hb4, pa, pb, pc, pca, pcb, pcc, rfl, _, _⟩; unfold actV; obtain ⟨Z2, rfl⟩ : ∃ Z : Ext V1, w4 = Z.1 := ⟨⟨w4, bStp Z1.2 hb4⟩, rfl⟩; refine hK _ _ ⟨Z2, rfl⟩ ?_; clear hK K hb4 HY
      try simp only [pS]
      refine held_quiet5 (by kernel_rfl) (fun _ _ d _ _ h => by cases d <;> exact h) ⟨Z2, rfl⟩ [4, 5, 6] 3 _ _ (by kernel_rfl) ?_; change wpQuiet _ _ _ _ (_ :: _ :: _ :: []) _
      repeat go_big_quiet_step (fail)
      refine wpQuiet_nil ?_; refine held_do (i := 7) _ rfl (by kernel_rfl) rfl (fun K hK => ?_); go_simp; obtain ⟨W3, hW3, hwb3, hws3, hac3⟩ := alloc_ac Z2.1 ⟨#[]⟩ 0 0 (.slice none 0 0) (.slice none 0 0) (.slice none 0 0); rw [hW3]; obtain ⟨T, hT⟩ : ∃ T, Z2.1.heap.size = T := ⟨_, rfl⟩; have HTT := qH (show V1.heap.size ≤ T from hT ▸ Z2.2.size); rw [hT] at hac3 ⊢; have HAC := qH hac3; obtain ⟨Z3, rfl⟩ : ∃ Z : Ext V1, W3 = Z.1 := ⟨⟨W3, bStp Z2.2 hwb3⟩, rfl⟩; clear hW3 hwb3 hws3 hac3 hT; refine hK _ _ ⟨Z3, rfl⟩ ?_; clear hK K
      try simp only [pS]
      obtain ⟨r0, r1, r2, r3, r4, r5⟩ := HAC.out.cell; have fr := HAC.out.free; obtain ⟨WF, hWF, haF, hkF⟩ := HAC.out.store Y.name Y.sport Y.start (.slice pa Y.sm.length pca) (.slice pb Y.lp.length pcb) (.slice pc Y.tg.length pcc); have hkF' := hkF (fun q => q = T) rfl; have hbF : Below V1.heap.size V1 WF := Kept.below Z3.2 hkF' Z3.2.size (fun k hk e => by have := HTT.out; omega); obtain ⟨ZF, rfl⟩ : ∃ Z : Ext V1, WF = Z.1 := ⟨⟨WF, hbF⟩, rfl⟩; clear haF hkF hkF' hbF; refine held_do (i := 8) _ rfl (by kernel_rfl) rfl (fun K hK => ?_); go_simp; refine hK _ _ ⟨ZF, rfl⟩ ?_; clear hK K
      try simp only [pS]
      clear hWF r0 r1 r2 r3 r4 r5 fr; refine held_quiet5 (by kernel_rfl) (fun _ _ d _ _ h => by cases d <;> exact h) ⟨ZF, rfl⟩ [9] 0 _ _ (by kernel_rfl) ?_; change wpQuiet _ _ _ _ (_ :: []) _
      repeat go_big_quiet_step (fail)
      refine wpQuiet_nil ?_; refine wpAnyH_done (by kernel_rfl) ?_ _; go_wp2_with fail
      go_meet
      exact ⟨_, rfl, rfl, ZF, rfl⟩
    · go_simp
      obtain ⟨W3, hW3, hwb3, hws3, hac3⟩ := alloc_ac Z1.1 ⟨#[]⟩ 0 0 (.slice none 0 0) (.slice none 0 0) (.slice none 0 0); rw [hW3]; obtain ⟨T, hT⟩ : ∃ T, Z1.1.heap.size = T := ⟨_, rfl⟩; have HTT := qH (show V1.heap.size ≤ T from hT ▸ Z1.2.size); rw [hT] at hac3 ⊢; have HAC0 := qH hac3; have HY2 := qH (HY.out.below hwb3); clear HY; have HY := HY2; obtain ⟨Z2, rfl⟩ : ∃ Z : Ext V1, W3 = Z.1 := ⟨⟨W3, bStp Z1.2 hwb3⟩, rfl⟩; refine hK _ _ ⟨Z2, rfl⟩ ?_; clear hK K hW3 hwb3 hws3 hac3 hT
      try simp only [pS]
      refine held_do (i := 3) _ rfl (by kernel_rfl) rfl (fun K hK => ?_); go_simp; refine (HAP.out Z2.1 ya yb yc yca ycb ycc HY.out).mono ?_; rintro e w4 ⟨hb4, pa, pb, pc, pca, pcb, pcc, rfl, _, _⟩; unfold actV; have HAC := qH (HAC0.out.below hb4); obtain ⟨Z3, rfl⟩ : ∃ Z : Ext V1, w4 = Z.1 := ⟨⟨w4, bStp Z2.2 hb4⟩, rfl⟩; clear hb4 HY HY2 HAC0; refine hK _ _ ⟨Z3, rfl⟩ ?_; clear hK K
      try simp only [pS]
      refine held_quiet5 (by kernel_rfl) (fun _ _ d _ _ h => by cases d <;> exact h) ⟨Z3, rfl⟩ [4, 5, 6] 2 _ _ (by kernel_rfl) ?_; change wpQuiet _ _ _ _ (_ :: _ :: _ :: []) _
      repeat go_big_quiet_step (fail)
      refine wpQuiet_nil ?_; obtain ⟨r0, r1, r2, r3, r4, r5⟩ := HAC.out.cell; have fr := HAC.out.free; obtain ⟨WF, hWF, haF, hkF⟩ := HAC.out.store Y.name Y.sport Y.start (.slice pa Y.sm.length pca) (.slice pb Y.lp.length pcb) (.slice pc Y.tg.length pcc); have hkF' := hkF (fun q => q = T) rfl; have hbF : Below V1.heap.size V1 WF := Kept.below Z3.2 hkF' Z3.2.size (fun k hk e => by have := HTT.out; omega); obtain ⟨ZF, rfl⟩ : ∃ Z : Ext V1, WF = Z.1 := ⟨⟨WF, hbF⟩, rfl⟩; clear haF hkF hkF' hbF; refine held_do (i := 8) _ rfl (by kernel_rfl) rfl (fun K hK => ?_); go_simp; refine hK _ _ ⟨ZF, rfl⟩ ?_; clear hK K
      try simp only [pS]
      clear hWF r0 r1 r2 r3 r4 r5 fr; refine held_quiet5 (by kernel_rfl) (fun _ _ d _ _ h => by cases d <;> exact h) ⟨ZF, rfl⟩ [9] 0 _ _ (by kernel_rfl) ?_; change wpQuiet _ _ _ _ (_ :: []) _
      repeat go_big_quiet_step (fail)
      refine wpQuiet_nil ?_; refine wpAnyH_done (by kernel_rfl) ?_ _; go_wp2_with fail
      go_meet
      exact ⟨_, rfl, rfl, ZF, rfl⟩
  · go_simp
    obtain ⟨W3, hW3, hwb3, hws3, hac3⟩ := alloc_ac Z0.1 ⟨#[]⟩ 0 0 (.slice none 0 0) (.slice none 0 0) (.slice none 0 0); rw [hW3]; obtain ⟨T, hT⟩ : ∃ T, Z0.1.heap.size = T := ⟨_, rfl⟩; have HTT := qH (show V1.heap.size ≤ T from hT ▸ Z0.2.size); rw [hT] at hac3 ⊢; have HAC0 := qH hac3; obtain ⟨Z1, rfl⟩ : ∃ Z : Ext V1, W3 = Z.1 := ⟨⟨W3, bStp Z0.2 hwb3⟩, rfl⟩; refine hK _ _ ⟨Z1, rfl⟩ ?_; clear hK K hW3 hwb3 hws3 hac3 hT
    try simp only [pS]
    refine held_do (i := 1) _ rfl (by kernel_rfl) rfl (fun K hK => ?_); go_simp; refine (DN.out Z1).mono ?_; rintro e w2 ⟨hb2, ya, yb, yc, yca, ycb, ycc, rfl, hy2⟩; have HY := qH hy2; have HAC1 := qH (HAC0.out.below hb2); obtain ⟨Z2, rfl⟩ : ∃ Z : Ext V1, w2 = Z.1 := ⟨⟨w2, bStp Z1.2 hb2⟩, rfl⟩; clear hb2 hy2 HAC0; refine hK _ _ ⟨Z2, rfl⟩ ?_; clear hK K
    try simp only [pS]
    refine held_do (i := 3) _ rfl (by kernel_rfl) rfl (fun K hK => ?_); go_simp; refine (HAP.out Z2.1 ya yb yc yca ycb ycc HY.out).mono ?_; rintro e w4 ⟨hb4, pa, pb, pc, pca, pcb, pcc, rfl, _, _⟩; unfold actV; have HAC := qH (HAC1.out.below hb4); obtain ⟨Z3, rfl⟩ : ∃ Z : Ext V1, w4 = Z.1 := ⟨⟨w4, bStp Z2.2 hb4⟩, rfl⟩; clear hb4 HY HAC1; refine hK _ _ ⟨Z3, rfl⟩ ?_; clear hK K
    try simp only [pS]
    refine held_quiet5 (by kernel_rfl) (fun _ _ d _ _ h => by cases d <;> exact h) ⟨Z3, rfl⟩ [4, 5, 6] 2 _ _ (by kernel_rfl) ?_; change wpQuiet _ _ _ _ (_ :: _ :: _ :: []) _
    repeat go_big_quiet_step (fail)
    refine wpQuiet_nil ?_; obtain ⟨r0, r1, r2, r3, r4, r5⟩ := HAC.out.cell; have fr := HAC.out.free; obtain ⟨WF, hWF, haF, hkF⟩ := HAC.out.store Y.name Y.sport Y.start (.slice pa Y.sm.length pca) (.slice pb Y.lp.length pcb) (.slice pc Y.tg.length pcc); have hkF' := hkF (fun q => q = T) rfl; have hbF : Below V1.heap.size V1 WF := Kept.below Z3.2 hkF' Z3.2.size (fun k hk e => by have := HTT.out; omega); obtain ⟨ZF, rfl⟩ : ∃ Z : Ext V1, WF = Z.1 := ⟨⟨WF, hbF⟩, rfl⟩; clear haF hkF hkF' hbF; refine held_do (i := 8) _ rfl (by kernel_rfl) rfl (fun K hK => ?_); go_simp; refine hK _ _ ⟨ZF, rfl⟩ ?_; clear hK K
    try simp only [pS]
    clear hWF r0 r1 r2 r3 r4 r5 fr; refine held_quiet5 (by kernel_rfl) (fun _ _ d _ _ h => by cases d <;> exact h) ⟨ZF, rfl⟩ [9] 0 _ _ (by kernel_rfl) ?_; change wpQuiet _ _ _ _ (_ :: []) _
    repeat go_big_quiet_step (fail)
    refine wpQuiet_nil ?_; refine wpAnyH_done (by kernel_rfl) ?_ _; go_wp2_with fail
    go_meet
    exact ⟨_, rfl, rfl, ZF, rfl⟩
 case rest =>
  obtain ⟨T, rfl, rfl, X, rfl⟩ := hcut; clear DN HAP; by_cases h0 : er = 0
  case neg =>
   have u1 : (er != 0) = true := bTt h0; have HNE := qH h0; have HXX := qH (bStp HB1.out X.2); clear h0; go_wp2_with fail; go_ret; exact ⟨Kept.of_below HXX.out, by rw [HDB.out HNE.out]; rfl, Or.inl ⟨by rw [HDB.out HNE.out]; exact HNE.out, HST0.out.kept (O := fun _ => False) (Kept.of_below HXX.out) (fun _ _ e => e)⟩⟩
  have HD2 := qH (HDF.out h0); subst h0; clear HDF HDB; have z6x := z6 X; by_cases hl : 200 ≤ n1
  · have t1 : decide ((200 : Int) ≤ (n1 : Int)) = true := dTt (by omega)
    have t1' : decide (200 ≤ n1) = true := by simpa using hl
    have HD3 := qH (HD2.out.1 (by rw [HN.out]; exact hl)); have HXX := qH (bStp HB1.out X.2); clear hl HD2; go_wp2_with fail; go_ret; exact ⟨Kept.of_below HXX.out, by rw [HD3.out]; rfl, Or.inl ⟨by rw [HD3.out]; decide, HST0.out.kept (O := fun _ => False) (Kept.of_below HXX.out) (fun _ _ e => e)⟩⟩
  have t1 : decide ((200 : Int) ≤ (n1 : Int)) = false := dFf (by omega); have t1' : decide (200 ≤ n1) = false := by simpa using hl
  have HL := qH (show n1 < 200 from by omega); have HD3 := qH (HD2.out.2 (by rw [HN.out]; exact hl)); have HM2 := qH (HMO.out (by rw [HN.out]; exact hl)); have hne : ∀ p : Nat, (Value.slice av n1 cv).ownBlock = some p → p < w.heap.size ∧ p ≠ s := fun p hp => ⟨(HOE0.out.lt p hp).2, (HS.out.eb p hp).2.1⟩
  have HNE := qH hne; have E0 := ExtO.cell (O := fun b => (Value.slice av n1 cv).ownBlock = some b) (fun e => by have := (hne _ e).1; simp only at this; omega) (X0 X); have E1 := ExtO.cell (O := fun b => (Value.slice av n1 cv).ownBlock = some b) (fun e => by have := (hne _ e).1; simp only at this; omega) (X1 X); have E2 := ExtO.cell (O := fun b => (Value.slice av n1 cv).ownBlock = some b) (fun e => by have := (hne _ e).1; simp only at this; omega) (X2 X); have E3 := ExtO.cell (O := fun b => (Value.slice av n1 cv).ownBlock = some b) (fun e => by have := (hne _ e).1; simp only at this; omega) (X3 X); have E4 := ExtO.cell (O := fun b => (Value.slice av n1 cv).ownBlock = some b) (fun e => by have := (hne _ e).1; simp only at this; omega) (X4 X); have E6 := ExtO.cell (O := fun b => (Value.slice av n1 cv).ownBlock = some b) (fun e => (hne _ e).2 rfl) z6x; clear X0 X1 X2 X3 X4 z6 hl hne HD2 HMO; go_upto_region 6 with (fail); clear z6x; refine late_start (s := 11) (C := fun w' => ∃ Z : ExtO (fun b => (Value.slice av n1 cv).ownBlock = some b) X.1, w' = Z.1) (by kernel_rfl) ?_; obtain ⟨Z0, hZ0⟩ : ∃ Z : ExtO (fun b => (Value.slice av n1 cv).ownBlock = some b) X.1, ({ X.1 with drawn := X.1.drawn + 1 } : World) = Z.1 := ⟨⟨{ X.1 with drawn := X.1.drawn + 1 }, ⟨rfl, rfl, rfl, Nat.le_refl _, fun _ _ _ => rfl⟩⟩, rfl⟩; rw [hZ0]; have HO0 := qH (show EdOwn Z0.1 0 (.slice av n1 cv) L from hZ0 ▸ (show EdOwn { X.1 with drawn := X.1.drawn + 1 } 0 (.slice av n1 cv) L from (show EdOwn X.1 0 (.slice av n1 cv) L from HOE.out.below X.2))); clear hZ0; refine late_free (by kernel_rfl) (fun _ _ d _ _ h => by cases d <;> exact h) (Or.inr ⟨Z0, rfl⟩) [1] 14 _ (by kernel_rfl) (by kernel_rfl) ?_; change wpQuiet _ _ _ _ (_ :: []) _
  repeat go_big_quiet_step (fail)
  refine wpQuiet_nil ?_; refine late_quiet (by kernel_rfl) (fun _ _ d _ _ h => by cases d <;> exact h) ⟨Z0, rfl⟩ [0, 2, 3, 4, 5, 6] 8 _ _ (by kernel_rfl) (by kernel_rfl) ?_; change wpQuiet _ _ _ _ (_ :: _ :: _ :: _ :: _ :: _ :: []) _
  repeat go_big_quiet_step (fail)
  refine wpQuiet_nil ?_; refine late_do (i := 7) _ rfl (by kernel_rfl) rfl (fun K hK => ?_); go_simp; obtain ⟨W9, hW9, hwb9, hws9, hwl9⟩ := alloc_cells Z0.1 #[.int .i64 k, .int .i64 n, .int .i64 f, .int .i64 t, .string sx] 28; rw [hW9]; have HO1 := qH (HO0.out.below hwb9); have HZ0 := qH Z0.2.size; obtain ⟨Z1, rfl⟩ : ∃ Z : ExtO (fun b => (Value.slice av n1 cv).ownBlock = some b) X.1, W9 = Z.1 := ⟨⟨W9, Z0.2.trans (Kept.of_below hwb9)⟩, rfl⟩; have HWL := qH (fun j u (hj : (edC ⟨k, n, f, t, sx⟩)[j]? = some u) => show Z1.1.cell? ⟨Z0.1.heap.size, j, none⟩ = some u from hwl9 j u (by rw [← hj]; unfold edC; simp)); have HZS := qH hws9; clear hW9 hwb9 hws9 hwl9; refine hK _ _ (fun _ => ⟨Z1, rfl⟩) ?_; clear hK K
  try simp only [pS]
  refine late_do (i := 8) _ rfl (by kernel_rfl) rfl (fun K hK => ?_); refine wp_append_ed (.tmp 28) (.tmp 30) rfl rfl HO1.out rfl HWL.out (by have := HL.out; rw [HN.out]; omega) (fun a3 n3 c3 w3 ho3 hn3 hg3 hb3 => ?_); obtain ⟨Z2, rfl⟩ : ∃ Z : ExtO (fun b => (Value.slice av n1 cv).ownBlock = some b) X.1, w3 = Z.1 := ⟨⟨w3, Z1.2.trans (Kept.of_grown hg3 (fun g e _ => e))⟩, rfl⟩; rw [HL1.out] at ho3; have HO3 := qH ho3; have HB3 := qH hb3; have HZ12 := qH hg3.size; refine hK _ _ (fun _ => ⟨Z2, rfl⟩) ?_; clear hK K ho3 hg3 hb3 hn3 HO0 HO1
  try simp only [pS]
  refine late_free (by kernel_rfl) (fun _ _ d _ _ h => by cases d <;> exact h) (Or.inr ⟨Z2, rfl⟩) [9, 10] 4 _ (by kernel_rfl) (by kernel_rfl) ?_; change wpQuiet _ _ _ _ (_ :: _ :: []) _
  repeat go_big_quiet_step (fail)
  refine wpQuiet_nil ?_; have hs2 := (Z2.2.block s (by have := HSL.out; have := X.2.size; have := HS1.out; omega) (fun e => (HNE.out _ e).2 rfl)).trans ((X.2.block s (by have := HSL.out; have := HS1.out; omega)).trans HST.out); obtain ⟨W5, hW5, hs5, hk5⟩ := sr_ve hs2 (.slice a3 n3 c3); have HS5 := qH hs5; have HK5 := qH hk5; have fr5 := st_free hs2; unfold srC at hs2; have m6 := st_cell (i := 6) hs2 rfl; clear hs2 hs5 hk5; refine late_do (i := 11) _ rfl (by kernel_rfl) rfl (fun K hK => ?_); go_simp; refine hK _ _ (nOo rfl) ?_; clear hK K
  try simp only [pS]
  clear hW5 fr5 m6; refine late_free (by kernel_rfl) (fun _ _ d _ _ h => by cases d <;> exact h) (Or.inl (by kernel_rfl)) [12, 13] 1 _ (by kernel_rfl) (by kernel_rfl) ?_; change wpQuiet _ _ _ _ (_ :: _ :: []) _
  repeat go_big_quiet_step (fail)
  refine wpQuiet_nil ?_; have hs5 := HS5.out; obtain ⟨W6, hW6, hs6, hk6⟩ := sr_vu HS5.out (.slice none 0 0); have HS6 := qH hs6; have HK6 := qH hk6; have fr6 := st_free HS5.out; unfold srC at hs5; have m7 := st_cell (i := 7) hs5 rfl; clear hs5 hs6 hk6; refine late_do (i := 14) _ rfl (by kernel_rfl) rfl (fun K hK => ?_); go_simp; refine hK _ _ (nOo rfl) ?_; clear hK K
  try simp only [pS]
  clear hW6 fr6 m7; refine late_done (by kernel_rfl) ?_ _; go_wp2_with fail; go_ret; have hsz1 := HS1.out; have hxs := X.2.size; have hz0 := HZ0.out; have hz12 := HZ12.out; have hzs := HZS.out; have hsl := HSL.out; have hK3 : Kept (fun b => b = s) Z2.1 W6 := HK5.out.trans HK6.out; have hK2 : Kept (fun b => (Value.slice av n1 cv).ownBlock = some b) X.1 Z2.1 := Z2.2; have hsz3 := hK3.size; have hE : EdOwn W6 0 (.slice a3 n3 c3) L1 := HO3.out.keptO hK3 (fun g hg e => by
   rcases HB3.out g hg with h | h
   · exact (HNE.out g h).2 e
   · omega)
  have hlt3 := HO3.out.lt; have hOld : ∀ g, g < w.heap.size → (Value.slice av n1 cv).ownBlock ≠ some g → (Value.slice a3 n3 c3).ownBlock ≠ some g := fun g hg hne e => by
   rcases HB3.out g e with h | h
   · exact hne h
   · omega
  have hIA : ActIn W6 A a b c := ((HIA.out.below X.2).keptN hK2 (fun g hg e => (HS.out.rows g hg).2.2.1 e)).keptN hK3 (fun g hg e => (HS.out.rows g hg).2.1 e); refine ⟨?_, by rw [HD3.out]; rfl, Or.inr ⟨HD3.out, HM2.out, a, b, c, ca, cb, cc, .slice a3 n3 c3, .slice none 0 0, HS6.out, hIA, hE, EdOwn.nil _ _, ?_⟩⟩
  · refine (Kept.of_below (bStp HB1.out X.2)).trans ((hK2.wide (fun g hg => (HS.out.eb g hg).1)).trans (hK3.wide (fun g hg => by subst hg; exact HS.out.st)))
  · refine ⟨Or.inl HS.out.st, fun g hg => ?_, fun g hg => (by cases hg), fun g hg => ?_⟩
    · have hl := (hlt3 g hg).2
      rcases HB3.out g hg with h | h
      · exact ⟨Or.inl (HS.out.eb g h).1, (HNE.out g h).2, fun e => (by cases e)⟩
      · exact ⟨Or.inr ⟨by omega, by omega⟩, by omega, fun e => (by cases e)⟩
    · obtain ⟨q1, q2, q3, _⟩ := HS.out.rows g hg
      exact ⟨Or.inl q1, q2, hOld g (HP.out g q1) q3, fun e => (by cases e)⟩
structure Stp where
 k : Int
 x : Ed
def stpC (p : Stp) : List Value := .int .i64 p.k :: edC p.x
structure Both (base : Nat) (w : World) (s r : Nat) (A : Acv) (P Q : Nat → Prop) (L U : List Ed) : Prop where
 p : StP w P s A L U
 q : StR w Q r A L U
 hp : ∀ g, P g → base ≤ g ∧ g < w.heap.size
 hq : ∀ g, Q g → base ≤ g ∧ g < w.heap.size
 ne : ∀ g, P g → ¬ Q g
theorem Both.below {base : Nat} {w w' : World} {s r : Nat} {A : Acv} {P Q : Nat → Prop} {L U : List Ed} (h : Both base w s r A P Q L U) (hb : Below w.heap.size w w') : Both base w' s r A P Q L U :=
 ⟨h.p.kept (O := fun _ => False) (Kept.of_below hb) (fun _ _ e => e), h.q.kept (O := fun _ => False) (Kept.of_below hb) (fun _ _ e => e), fun g hg => ⟨(h.hp g hg).1, Nat.lt_of_lt_of_le (h.hp g hg).2 hb.size⟩, fun g hg => ⟨(h.hq g hg).1, Nat.lt_of_lt_of_le (h.hq g hg).2 hb.size⟩, h.ne⟩
theorem Both.goP {base : Nat} {w w' : World} {s r : Nat} {A : Acv} {P Q : Nat → Prop} {L U L' U' : List Ed} (h : Both base w s r A P Q L U) (hb : base ≤ w.heap.size) (hk : Kept P w w') (_ : StP w' (Wider P w w') s A L' U') :
 StR w' Q r A L U ∧ (∀ g, Wider P w w' g → base ≤ g ∧ g < w'.heap.size) ∧ (∀ g, Wider P w w' g → ¬ Q g) :=
 ⟨h.q.kept hk (fun g hg e => h.ne g e hg), fun g hg => by
  rcases hg with hg | hg
  · exact ⟨(h.hp g hg).1, Nat.lt_of_lt_of_le (h.hp g hg).2 hk.size⟩
  · exact ⟨Nat.le_trans hb hg.1, hg.2⟩, fun g hg e => by
  rcases hg with hg | hg
  · exact h.ne g hg e
  · have := (h.hq g e).2
    omega⟩
def After (base : Nat) (s r : Nat) (A : Acv) (w w' : World) : Prop := ∃ P Q L U, Both base w' s r A P Q L U ∧ Below base w w'
theorem both_go {base : Nat} {w w1 w2 : World} {s r : Nat} {A : Acv} {P P1 Q Q1 : Nat → Prop} {L U L' U' : List Ed} (h : Both base w s r A P Q L U) (hb : base ≤ w.heap.size) (hk : Kept P w w1)
 (hp : StP w1 P1 s A L' U') (hP1 : ∀ g, P1 g → Wider P w w1 g) (hk2 : Kept Q w1 w2) (hq : StR w2 Q1 r A L' U') (hQ1 : ∀ g, Q1 g → Wider Q w1 w2 g) : After base s r A w w2 := by
 have hw : ∀ g, P1 g → base ≤ g ∧ g < w1.heap.size := fun g hg => by
  rcases hP1 g hg with hg | hg
  · exact ⟨(h.hp g hg).1, Nat.lt_of_lt_of_le (h.hp g hg).2 hk.size⟩
  · exact ⟨Nat.le_trans hb hg.1, hg.2⟩
 have hPQ : ∀ g, P1 g → ¬ Q g := fun g hg e => by
  rcases hP1 g hg with hg | hg
  · exact h.ne g hg e
  · have := (h.hq g e).2
    omega
 refine ⟨P1, Q1, L', U', ⟨hp.kept hk2 hPQ, hq, fun g hg => ⟨(hw g hg).1, Nat.lt_of_lt_of_le (hw g hg).2 hk2.size⟩, fun g hg => ?_, fun g hg e => ?_⟩, ?_⟩
 · rcases hQ1 g hg with hg | hg
   · exact ⟨(h.hq g hg).1, Nat.lt_of_lt_of_le (h.hq g hg).2 (Nat.le_trans hk.size hk2.size)⟩
   · exact ⟨Nat.le_trans hb (Nat.le_trans hk.size hg.1), hg.2⟩
 · rcases hQ1 g e with hq' | hq'
   · exact hPQ g hg hq'
   · have := (hw g hg).2
     omega
 · have k1 : Below base w w1 := Kept.below (Below.refl _ _) hk hb (fun g hg e => by have := (h.hp g e).1; omega)
   exact Kept.below k1 hk2 (Nat.le_trans hb hk.size) (fun g hg e => by have := (h.hq g e).1; omega)
theorem After.from {base : Nat} {s r : Nat} {A : Acv} {w0 w w' : World} (h : After base s r A w w') (hb : Below base w0 w) : After base s r A w0 w' := by
 obtain ⟨P, Q, L, U, h1, h2⟩ := h; exact ⟨P, Q, L, U, h1, hb.trans h2⟩
theorem Both.keptBelow {base : Nat} {w w' : World} {s r : Nat} {A : Acv} {P Q : Nat → Prop} {L U : List Ed} (h : Both base w s r A P Q L U) (hb : base ≤ w.heap.size) (hk : Kept (fun g => P g ∨ Q g) w w') : Below base w w' :=
 Kept.below (Below.refl _ _) hk hb (fun g hg e => by
  rcases e with e | e
  · have := (h.hp g e).1; omega
  · have := (h.hq g e).1; omega)
theorem DoRet.is {S : World → (Nat → Prop) → Nat → Acv → List Ed → List Ed → Prop} {P : Nat → Prop} {s : Nat} {A : Acv} {L U : List Ed} {x : Ed} {w : World} {e : Ending} {w' : World} (h : DoRet S P s A L U x w e w') :
 Kept P w w' ∧ e = .returned (.int .i64 (doE A L x)) ∧ ∃ P1, (∀ g, P1 g → Wider P w w' g) ∧ S w' P1 s A (if doE A L x = 0 then L ++ [x] else L) (if doE A L x = 0 then [] else U) := by
 obtain ⟨h1, h2, h3⟩ := h; refine ⟨h1, h2, ?_⟩; rcases h3 with ⟨h0, h3⟩ | ⟨h0, h3⟩
 · exact ⟨P, fun g hg => Or.inl hg, by rw [if_neg h0, if_neg h0]; exact h3⟩
 · exact ⟨_, fun g hg => hg, by rw [if_pos h0, if_pos h0]; exact h3⟩
theorem below_drewN0 (w : World) (q : Nat) : Below w.heap.size w (w.drewN q) := ⟨rfl, rfl, rfl, Nat.le_refl _, fun _ _ => rfl⟩
def isNil : List Ed → Bool
 | [] => true
 | _ => false
theorem isNil_snoc (M : List Ed) (x : Ed) : isNil (M ++ [x]) = false := by cases M <;> rfl
def undoM (L U : List Ed) : List Ed × List Ed := if L = [] then (L, U) else (L.dropLast, U ++ [L.getLast?.getD ⟨0, 0, 0, 0, ⟨#[]⟩⟩])
theorem undoM_snoc (M U : List Ed) (x : Ed) : undoM (M ++ [x]) U = (M, U ++ [x]) := by
 unfold undoM; rw [if_neg (by simp)]; simp
theorem UndoRet.is {S : World → (Nat → Prop) → Nat → Acv → List Ed → List Ed → Prop} {P : Nat → Prop} {s : Nat} {A : Acv} {L U : List Ed} {w : World} {e : Ending} {w' : World} (h : UndoRet S P s A L U w e w') :
 Kept P w w' ∧ e = .returned (.bool (!isNil L)) ∧ ∃ P1, (∀ g, P1 g → Wider P w w' g) ∧ S w' P1 s A (undoM L U).1 (undoM L U).2 := by
 obtain ⟨h1, h3⟩ := h; rcases h3 with ⟨rfl, h0, h3⟩ | ⟨M, x, rfl, h0, h3⟩
 · exact ⟨h1, h0, P, fun g hg => Or.inl hg, h3⟩
 · exact ⟨h1, by rw [isNil_snoc]; exact h0, _, fun g hg => hg, by rw [undoM_snoc]; exact h3⟩
theorem RedoRet.is {S : World → (Nat → Prop) → Nat → Acv → List Ed → List Ed → Prop} {P : Nat → Prop} {s : Nat} {A : Acv} {L U : List Ed} {w : World} {e : Ending} {w' : World} (h : RedoRet S P s A L U w e w') :
 Kept P w w' ∧ e = .returned (.bool (!isNil U)) ∧ ∃ P1, (∀ g, P1 g → Wider P w w' g) ∧ S w' P1 s A (undoM U L).2 (undoM U L).1 := by
 obtain ⟨h1, h3⟩ := h; rcases h3 with ⟨rfl, h0, h3⟩ | ⟨V, x, rfl, h0, h3⟩
 · exact ⟨h1, h0, P, fun g hg => Or.inl hg, h3⟩
 · exact ⟨h1, by rw [isNil_snoc]; exact h0, _, fun g hg => hg, by rw [undoM_snoc]; exact h3⟩
theorem stories_law (A : Acv) (a b c : Option Addr) (ca cb cc : Nat) (l : List Stp) (al : Option Addr) (cl : Nat) (w : World) (hA : ActIn w A a b c) (hr : Rw stpC 6 w al l) (hs : ∀ p, p ∈ l → p.x.s.size ≤ maxLen) (hcap : (l.length : Int) ≤ 9223372036854775807) :
 Calls Tryz.prog 6 #[actV A a b c ca cb cc, .slice al l.length cl] w fun e w' => e = .returned (.bool true) ∧ Below w.heap.size w w' := by
 obtain ⟨n, hn⟩ : ∃ n, l.length = n := ⟨_, rfl⟩; have HN := qH hn; rw [hn] at hcap ⊢; have HSZ := qH hs; obtain ⟨V1, hV1, hb1, hs1, ha1⟩ := alloc_aA w A a b c ca cb cc; have HB1 := qH hb1; have HS1 := qH hs1; have HIA := qH (hA.below hb1); have HRL := qH (hr.below hb1); obtain ⟨er, her⟩ : ∃ e, chkA A = e := ⟨_, rfl⟩; have HER := qH her; have DN := qH (fun X : Ext V1 => newP_any A a b c ca cb cc X.1 (HIA.out.below X.2)); have DR := qH (fun X : Ext V1 => newR_any A a b c ca cb cc X.1 (HIA.out.below X.2)); rw [her] at DN DR; unfold NewRet actV at DN DR; obtain ⟨z0, z1, z2, z3, z4, z5⟩ := ha1.cell; have A0 := Ext.ex z0; have A1 := Ext.ex z1; have A2 := Ext.ex z2; have A3 := Ext.ex z3; have A4 := Ext.ex z4; have A5 := Ext.ex z5; have be : (er != er) = false := by simp
 clear hA hr hs hb1 hs1 ha1 her hn z0 z1 z2 z3 z4 z5; unfold actV; go_enter Tryz.func6, Tryz.ntmps6; go_upto_region 1 with (fail); clear hV1; refine ext_wp (W := V1) fun X => ?_
 go_wp2_with fail; refine (DN.out X).mono ?_; rintro e w2 ⟨hb2, hp2⟩; by_cases h0 : er = 0
 case neg =>
  obtain rfl : e = .returned (.tuple #[.pointer none, .int .i64 er]) := by
   rcases hp2 with h | h
   · exact h.2
   · exact absurd h.1 h0
  obtain ⟨X2, rfl⟩ : ∃ Y : Ext V1, w2 = Y.1 := ⟨⟨w2, bStp X.2 hb2⟩, rfl⟩; have u1 : (er != 0) = true := bTt h0; have HNE := qH h0; clear hb2 hp2 h0; go_wp2_with fail; refine (DR.out X2).mono ?_; rintro e w3 ⟨hb3, hp3⟩; obtain rfl : e = .returned (.tuple #[.pointer none, .int .i64 er]) := by
   rcases hp3 with h | h
   · exact h.2
   · exact absurd h.1 HNE.out
  have HB3 := qH (bStp HB1.out (bStp X2.2 hb3)); clear hb3 hp3; go_wp2_with fail; refine (told2_any _).mono ?_; rintro e w7 ⟨rfl, hb7⟩; have HB7 := qH (bStp HB3.out hb7); clear hb7; go_wp2_with fail; go_ret; exact ⟨rfl, HB7.out⟩
 obtain ⟨s, rfl, hS2⟩ : ∃ s, e = .returned (.tuple #[.pointer (some ⟨s, 0, none⟩), .int .i64 0]) ∧ StP w2 (fun g => X.1.heap.size ≤ g ∧ g < w2.heap.size) s A [] [] := by
  rcases hp2 with h | h
  · exact absurd h0 h.1
  · exact h.2
 subst h0; obtain ⟨X2, rfl⟩ : ∃ Y : Ext V1, w2 = Y.1 := ⟨⟨w2, bStp X.2 hb2⟩, rfl⟩; have HS2 := qH hS2; have HX2 := qH (And.intro X.2.size hb2.size); clear hb2 hp2 hS2; go_wp2_with fail; refine (DR.out X2).mono ?_; rintro e w3 ⟨hb3, hp3⟩; obtain ⟨r, rfl, hS3⟩ : ∃ r, e = .returned (.tuple #[.pointer (some ⟨r, 0, none⟩), .int .i64 0]) ∧ StR w3 (fun g => X2.1.heap.size ≤ g ∧ g < w3.heap.size) r A [] [] := by
  rcases hp3 with h | h
  · exact absurd rfl h.1
  · exact h.2
 have hBoth : Both V1.heap.size w3 s r A (fun g => X.1.heap.size ≤ g ∧ g < X2.1.heap.size) (fun g => X2.1.heap.size ≤ g ∧ g < w3.heap.size) [] [] :=
  ⟨HS2.out.kept (O := fun _ => False) (Kept.of_below hb3) (fun _ _ e => e), hS3, fun g hg => ⟨Nat.le_trans HX2.out.1 hg.1, Nat.lt_of_lt_of_le hg.2 hb3.size⟩, fun g hg => ⟨Nat.le_trans X2.2.size hg.1, hg.2⟩, fun g hg e => by have := hg.2; have := e.1; omega⟩
 obtain ⟨X3, rfl⟩ : ∃ Y : Ext V1, w3 = Y.1 := ⟨⟨w3, bStp X2.2 hb3⟩, rfl⟩; have HBO := qH hBoth; clear hb3 hp3 hS3 hBoth DN DR; go_wp2_with fail
 go_loopw [35] (fun iv wr => ∃ k : Nat, iv = .int .i64 k ∧ k ≤ n ∧ Hid (∃ P Q L U, Both V1.heap.size wr s r A P Q L U) ∧ ∃ X : Ext V1, wr = X.1) (fun iv _ => n - (intOf iv).toNat)
 case atStart => exact ⟨0, rfl, by omega, qH ⟨_, _, _, _, HBO.out⟩, X3, rfl⟩
 case round =>
  obtain ⟨k, rfl, hk, HST, X, rfl⟩ := hrel; clear HBO; by_cases hlt : k < n
  case neg =>
   have t2 : decide ((k : Int) < (n : Int)) = false := dFf (by omega); have t2' : decide (k < n) = false := by simpa using hlt
   have HXX := qH (bStp HB1.out X.2); go_wp2_with fail; refine (told2_any _).mono ?_; rintro e w7 ⟨rfl, hb7⟩; have HB7 := qH (bStp HXX.out hb7); clear hb7; go_wp2_with fail; go_ret; exact ⟨rfl, HB7.out⟩
  have t2 : decide ((k : Int) < (n : Int)) = true := dTt (by omega); have t2' : decide (k < n) = true := by simpa using hlt
  obtain ⟨p, hp⟩ : ∃ p, l[k]? = some p := ⟨_, List.getElem?_eq_getElem (by rw [HN.out]; exact hlt)⟩; obtain ⟨bb, off, rfl, hbl, hc⟩ := (HRL.out.below X.2).at hp; have e0 : X.1.cell? ⟨bb, off + k * 6, none⟩ = some (.int .i64 p.k) := hc 0 _ rfl; have e1 : X.1.cell? ⟨bb, off + k * 6 + 1, none⟩ = some (.int .i64 p.x.k) := hc 1 _ rfl; have e2 : X.1.cell? ⟨bb, off + k * 6 + 2, none⟩ = some (.int .i64 p.x.n) := hc 2 _ rfl; have e3 : X.1.cell? ⟨bb, off + k * 6 + 3, none⟩ = some (.int .i64 p.x.f) := hc 3 _ rfl; have e4 : X.1.cell? ⟨bb, off + k * 6 + 4, none⟩ = some (.int .i64 p.x.t) := hc 4 _ rfl; have e5 : X.1.cell? ⟨bb, off + k * 6 + 5, none⟩ = some (.string p.x.s) := hc 5 _ rfl; have hxs := HSZ.out p (List.mem_of_getElem? hp); obtain ⟨kd, x⟩ := p; simp only at e0 e1 e2 e3 e4 e5 hxs; have HXS := qH hxs; obtain ⟨V6, hV6, hb6, hs6, hl6⟩ := alloc_cells X.1 #[.int .i64 kd, .int .i64 x.k, .int .i64 x.n, .int .i64 x.f, .int .i64 x.t, .string x.s] 50; have u0 : V6.cell? ⟨X.1.heap.size, 0, none⟩ = some (.int .i64 kd) := hl6 0 _ rfl; have u1 : V6.cell? ⟨X.1.heap.size, 1, none⟩ = some (.int .i64 x.k) := hl6 1 _ rfl; have u2 : V6.cell? ⟨X.1.heap.size, 2, none⟩ = some (.int .i64 x.n) := hl6 2 _ rfl; have u3 : V6.cell? ⟨X.1.heap.size, 3, none⟩ = some (.int .i64 x.f) := hl6 3 _ rfl; have u4 : V6.cell? ⟨X.1.heap.size, 4, none⟩ = some (.int .i64 x.t) := hl6 4 _ rfl; have u5 : V6.cell? ⟨X.1.heap.size, 5, none⟩ = some (.string x.s) := hl6 5 _ rfl; obtain ⟨P, Q, L, U, hBo⟩ := HST.out; have HBO := qH (hBo.below hb6); have HB6 := qH (bStp X.2 hb6); have HT := qH (show ∀ g, (P g ∨ Q g) → g ≠ X.1.heap.size from fun g hg e => by
   rcases hg with hg | hg
   · have := (hBo.hp g hg).2; omega
   · have := (hBo.hq g hg).2; omega)
  obtain ⟨T, hT⟩ : ∃ T, X.1.heap.size = T := ⟨_, rfl⟩; rw [hT] at u0 u1 u2 u3 u4 u5 HT; clear hp hbl hc hxs hb6 hs6 hl6 hBo HST; go_upto_region 12 with (fail); clear hV6 e0 e1 e2 e3 e4 e5; have hV1X := X.2.size; have HT2 := qH (And.intro HT.out (show V1.heap.size ≤ T from hT ▸ X.2.size)); clear hT
  go_cut [40] (fun kv wx => kv = .int .i64 kd ∧ V6 = wx)
  case first =>
   go_wp2_with fail
   go_meet
   exact ⟨rfl, rfl⟩
  case rest =>
   obtain ⟨rfl, rfl⟩ := hcut; refine ‹∀ (a : Act) (w : World), Code.wp _ _ _ a w → _› _ _ ?_
   go_cut [] (fun wx => Hid (After V1.heap.size s r A V6 wx))
   case first =>
    have PQ := qH (fun g (hg : P g ∨ Q g) => (show g ≠ T from HT.out g hg)); by_cases k0 : kd = 0
    · subst k0
      have c0 : ((0 : Int) == 0) = true := by simp
      have DP := qH (fun Z : ExtO (fun g => P g ∨ Q g) V6 => fun (W : World) (hW : W = Z.1) => trivial); obtain ⟨dE, hdE⟩ : ∃ d, doE A L x = d := ⟨_, rfl⟩; have HDE := qH hdE; have D1 := qH (fun (W : World) (hW : Both V1.heap.size W s r A P Q L U) => show Calls Tryz.prog 19 #[.pointer (some ⟨s, 0, none⟩), .agg #[.int .i64 x.k, .int .i64 x.n, .int .i64 x.f, .int .i64 x.t, .string x.s]] W fun e w' => DoRet StP P s A L U x W e w' from by
       have h := doP_any P s A L U x W hW.p HXS.out (fun g hg => (hW.hp g hg).2); unfold edV at h; exact h)
      have D2 := qH (fun (W : World) (hW : StR W Q r A L U) (hq : ∀ g, Q g → g < W.heap.size) => show Calls Tryz.prog 20 #[.pointer (some ⟨r, 0, none⟩), .agg #[.int .i64 x.k, .int .i64 x.n, .int .i64 x.f, .int .i64 x.t, .string x.s]] W fun e w' => DoRet StR Q r A L U x W e w' from by
       have h := doR_any Q r A L U x W hW HXS.out hq; unfold edV at h; exact h)
      have U1 := ExtO.cell (O := fun g => P g ∨ Q g) (fun e => PQ.out _ e rfl) u1; have U2 := ExtO.cell (O := fun g => P g ∨ Q g) (fun e => PQ.out _ e rfl) u2; have U3 := ExtO.cell (O := fun g => P g ∨ Q g) (fun e => PQ.out _ e rfl) u3; have U4 := ExtO.cell (O := fun g => P g ∨ Q g) (fun e => PQ.out _ e rfl) u4; have U5 := ExtO.cell (O := fun g => P g ∨ Q g) (fun e => PQ.out _ e rfl) u5; clear hdE DP; go_upto_region 14 with (fail); refine held_start (C := fun w' => ∃ Z : ExtO (fun g => P g ∨ Q g) V6, w' = Z.1) (by kernel_rfl) ?_; obtain ⟨Z0, hZ0⟩ : ∃ Z : ExtO (fun g => P g ∨ Q g) V6, ({ V6 with drawn := V6.drawn + 1 } : World) = Z.1 := ⟨⟨{ V6 with drawn := V6.drawn + 1 }, ⟨rfl, rfl, rfl, Nat.le_refl _, fun _ _ _ => rfl⟩⟩, rfl⟩; rw [hZ0]; have HB0 := qH (show Both V1.heap.size Z0.1 s r A P Q L U from hZ0 ▸ (HBO.out.below ⟨rfl, rfl, rfl, Nat.le_refl _, fun _ _ => rfl⟩)); clear hZ0; refine held_quiet5 (by kernel_rfl) (fun _ _ d _ _ h => by cases d <;> exact h) ⟨Z0, rfl⟩ [0, 1, 2, 4, 5, 6] 3 _ _ (by kernel_rfl) ?_; change wpQuiet _ _ _ _ (_ :: _ :: _ :: _ :: _ :: _ :: []) _
      repeat go_big_quiet_step (fail)
      refine wpQuiet_nil ?_; refine held_do (i := 3) _ rfl (by kernel_rfl) rfl (fun K hK => ?_); go_simp; refine (D1.out _ HB0.out).mono ?_; rintro e w7 h7; obtain ⟨k7, rfl, P1, hP1, hs7⟩ := h7.is; have HW7 := qH (And.intro k7 (And.intro hP1 hs7)); have HR7 := qH (show StR w7 Q r A L U ∧ ∀ g, Q g → g < w7.heap.size from ⟨HB0.out.q.kept k7 (fun g hg e => HB0.out.ne g e hg), fun g hg => Nat.lt_of_lt_of_le (HB0.out.hq g hg).2 k7.size⟩); obtain ⟨Z7, rfl⟩ : ∃ Z : ExtO (fun g => P g ∨ Q g) V6, w7 = Z.1 := ⟨⟨w7, Z0.2.trans (k7.wide (fun g hg => Or.inl hg))⟩, rfl⟩; clear h7 k7 hP1 hs7; rw [HDE.out]; refine hK _ _ ⟨Z7, rfl⟩ ?_; clear hK K
      try simp only [pS]
      refine held_do (i := 7) _ rfl (by kernel_rfl) rfl (fun K hK => ?_); go_simp; refine (D2.out _ HR7.out.1 HR7.out.2).mono ?_; rintro e w8 h8; obtain ⟨k8, rfl, Q1, hQ1, hs8⟩ := h8.is; have HAF := qH (both_go HB0.out (show V1.heap.size ≤ Z0.1.heap.size from Nat.le_trans HB6.out.size Z0.2.size) HW7.out.1 HW7.out.2.2 HW7.out.2.1 k8 hs8 hQ1); obtain ⟨Z8, rfl⟩ : ∃ Z : ExtO (fun g => P g ∨ Q g) V6, w8 = Z.1 := ⟨⟨w8, Z7.2.trans (k8.wide (fun g hg => Or.inr hg))⟩, rfl⟩; clear h8 k8 hQ1 hs8; rw [HDE.out]; refine hK _ _ ⟨Z8, rfl⟩ ?_; clear hK K
      try simp only [pS]
      refine held_quiet5 (by kernel_rfl) (fun _ _ d _ _ h => by cases d <;> exact h) ⟨Z8, rfl⟩ [8] 0 _ _ (by kernel_rfl) ?_; change wpQuiet _ _ _ _ (_ :: []) _
      repeat go_big_quiet_step (fail)
      refine wpQuiet_nil ?_; refine wpAnyH_done (by kernel_rfl) ?_ _; have d2 : (dE != dE) = false := by simp
      go_wp2_with fail
      go_meet
      exact qH (HAF.out.from (HBO.out.keptBelow HB6.out.size Z0.2))
    have c0 : (kd == 0) = false := bFf k0; clear k0; by_cases k1 : kd = 1
    · subst k1
      have c1 : ((1 : Int) == 1) = true := by simp
      have D1 := qH (fun (W : World) (hW : Both V1.heap.size W s r A P Q L U) => undoP_any P s A L U W hW.p (fun g hg => (hW.hp g hg).2)); have D2 := qH (fun (W : World) (hW : StR W Q r A L U) (hq : ∀ g, Q g → g < W.heap.size) => undoR_any Q r A L U W hW hq); obtain ⟨bu, hbu⟩ : ∃ d, (!isNil L) = d := ⟨_, rfl⟩; have HDE := qH hbu; clear hbu; go_upto_region 17 with (fail); go_wp2_with fail; refine (D1.out _ HBO.out).mono ?_; rintro e w7 h7; obtain ⟨k7, rfl, P1, hP1, hs7⟩ := h7.is; rw [HDE.out]; have HW7 := qH (And.intro k7 (And.intro hP1 hs7)); have HR7 := qH (show StR w7 Q r A L U ∧ ∀ g, Q g → g < w7.heap.size from ⟨HBO.out.q.kept k7 (fun g hg e => HBO.out.ne g e hg), fun g hg => Nat.lt_of_lt_of_le (HBO.out.hq g hg).2 k7.size⟩); clear h7 k7 hP1 hs7; go_wp2_with fail; refine (D2.out _ HR7.out.1 HR7.out.2).mono ?_; rintro e w8 h8; obtain ⟨k8, rfl, Q1, hQ1, hs8⟩ := h8.is; rw [HDE.out]; have HAF := qH (both_go HBO.out HB6.out.size HW7.out.1 HW7.out.2.2 HW7.out.2.1 k8 hs8 hQ1); have d2 : (bu != bu) = false := by simp
      clear h8 k8 hQ1 hs8; go_wp2_with fail
      go_meet
      exact HAF
    have c1 : (kd == 1) = false := bFf k1; clear k1; by_cases k2 : kd = 2
    · subst k2
      have c2 : ((2 : Int) == 2) = true := by simp
      have D1 := qH (fun (W : World) (hW : Both V1.heap.size W s r A P Q L U) => redoP_any P s A L U W hW.p (fun g hg => (hW.hp g hg).2)); have D2 := qH (fun (W : World) (hW : StR W Q r A L U) (hq : ∀ g, Q g → g < W.heap.size) => redoR_any Q r A L U W hW hq); obtain ⟨bu, hbu⟩ : ∃ d, (!isNil U) = d := ⟨_, rfl⟩; have HDE := qH hbu; clear hbu; go_upto_region 20 with (fail); go_wp2_with fail; refine (D1.out _ HBO.out).mono ?_; rintro e w7 h7; obtain ⟨k7, rfl, P1, hP1, hs7⟩ := h7.is; rw [HDE.out]; have HW7 := qH (And.intro k7 (And.intro hP1 hs7)); have HR7 := qH (show StR w7 Q r A L U ∧ ∀ g, Q g → g < w7.heap.size from ⟨HBO.out.q.kept k7 (fun g hg e => HBO.out.ne g e hg), fun g hg => Nat.lt_of_lt_of_le (HBO.out.hq g hg).2 k7.size⟩); clear h7 k7 hP1 hs7; go_wp2_with fail; refine (D2.out _ HR7.out.1 HR7.out.2).mono ?_; rintro e w8 h8; obtain ⟨k8, rfl, Q1, hQ1, hs8⟩ := h8.is; rw [HDE.out]; have HAF := qH (both_go HBO.out HB6.out.size HW7.out.1 HW7.out.2.2 HW7.out.2.1 k8 hs8 hQ1); have d2 : (bu != bu) = false := by simp
      clear h8 k8 hQ1 hs8; go_wp2_with fail
      go_meet
      exact HAF
    have c2 : (kd == 2) = false := bFf k2; clear k2; go_wp2_with fail
    go_meet
    exact qH ⟨P, Q, L, U, HBO.out, Below.refl _ _⟩
   case rest =>
    obtain ⟨P1, Q1, L1, U1, hB1, hbl1⟩ := hcut.out; have HBW := qH hB1; have HX9 := qH (HB6.out.trans hbl1); have hck := hB1.p.ok.chk; have HLA := qH (show A.sm.length ≤ 20000 ∧ A.lp.length ≤ 200 ∧ A.tg.length ≤ 20 from nowA_len hck []); have HLN := qH (nowA_len hck L1); have HLE := qH hB1.p.ok.len; have N1 := qH (fun Z : Ext wc => nowP_any P1 s A L1 U1 Z.1 (HBW.out.below Z.2).p); have N2 := qH (fun Z : Ext wc => nowR_any Q1 r A L1 U1 Z.1 (HBW.out.below Z.2).q); have N3 := qH (fun Z : Ext wc => firstP_any P1 s A L1 U1 Z.1 (HBW.out.below Z.2).p); have N4 := qH (fun Z : Ext wc => editsP_any P1 s A L1 U1 Z.1 (HBW.out.below Z.2).p); have N5 := qH (fun Z : Ext wc => editsR_any Q1 r A L1 U1 Z.1 (HBW.out.below Z.2).q); have HIW := qH (HIA.out.below HX9.out); generalize nowA A L1 = N at N1 N2 HLN; obtain ⟨ne, hne⟩ : ∃ n, L1.length = n := ⟨_, rfl⟩; have HNE := qH hne; unfold EdView at N4 N5; rw [hne] at N4 N5; unfold ViewRet actV at N1 N2 N3; have A0c := Ext.ex (A0 ⟨wc, HX9.out⟩); have A1c := Ext.ex (A1 ⟨wc, HX9.out⟩); have A2c := Ext.ex (A2 ⟨wc, HX9.out⟩); have A3c := Ext.ex (A3 ⟨wc, HX9.out⟩); have A4c := Ext.ex (A4 ⟨wc, HX9.out⟩); have A5c := Ext.ex (A5 ⟨wc, HX9.out⟩); clear hB1 hbl1 hck hne A0 A1 A2 A3 A4 A5 hcut; refine ‹∀ (a : Act) (w : World), Code.wp _ _ _ a w → _› _ _ ?_; go_upto_region 22 with (fail); refine held_start (C := fun w' => ∃ Z : Ext wc, w' = Z.1) (by kernel_rfl) ?_; obtain ⟨Z0, hZ0⟩ : ∃ Z : Ext wc, ({ wc with drawn := wc.drawn + 1 } : World) = Z.1 := ⟨⟨{ wc with drawn := wc.drawn + 1 }, ⟨rfl, rfl, rfl, Nat.le_refl _, fun _ _ => rfl⟩⟩, rfl⟩; rw [hZ0]; clear hZ0; refine held_quiet5 (by kernel_rfl) (fun _ _ d _ _ h => by cases d <;> exact h) ⟨Z0, rfl⟩ [0, 2] 19 _ _ (by kernel_rfl) ?_; change wpQuiet _ _ _ _ (_ :: _ :: []) _
    repeat go_big_quiet_step (fail)
    refine wpQuiet_nil ?_; refine held_do (i := 1) _ rfl (by kernel_rfl) rfl (fun K hK => ?_); go_simp; refine (N1.out Z0).mono ?_; rintro e w1 ⟨hb1, a1, b1, c1, ca1, cb1, cc1, rfl, hi1⟩; have HV1 := qH hi1; obtain ⟨Z1, rfl⟩ : ∃ Z : Ext wc, w1 = Z.1 := ⟨⟨w1, bStp Z0.2 hb1⟩, rfl⟩; clear hb1 hi1; refine hK _ _ ⟨Z1, rfl⟩ ?_; clear hK K
    try simp only [pS]
    refine held_do (i := 3) _ rfl (by kernel_rfl) rfl (fun K hK => ?_); go_simp; refine (N2.out Z1).mono ?_; rintro e w2 ⟨hb2, a2, b2, c2, ca2, cb2, cc2, rfl, hi2⟩; have HV2 := qH hi2; have HV1b := qH (HV1.out.below hb2); obtain ⟨Z2, rfl⟩ : ∃ Z : Ext wc, w2 = Z.1 := ⟨⟨w2, bStp Z1.2 hb2⟩, rfl⟩; clear hb2 hi2; refine hK _ _ ⟨Z2, rfl⟩ ?_; clear hK K
    try simp only [pS]
    have DS3 := qH (same_self N a1 b1 c1 a2 b2 c2 ca1 cb1 cc1 ca2 cb2 cc2 Z2.1 HV1b.out.sm HV1b.out.lp HV1b.out.tg HV2.out.sm HV2.out.lp HV2.out.tg (by have := HLN.out.1; omega) (by have := HLN.out.2.1; omega) (by have := HLN.out.2.2; omega)); unfold actV at DS3; refine held_do (i := 4) _ rfl (by kernel_rfl) rfl (fun K hK => ?_); go_simp; refine (DS3.out).mono ?_; rintro e w3 ⟨rfl, hb3⟩; obtain ⟨Z3, rfl⟩ : ∃ Z : Ext wc, w3 = Z.1 := ⟨⟨w3, bStp Z2.2 hb3⟩, rfl⟩; clear hb3 DS3; refine hK _ _ ⟨Z3, rfl⟩ ?_; clear hK K
    try simp only [pS]
    refine held_quiet5 (by kernel_rfl) (fun _ _ d _ _ h => by cases d <;> exact h) ⟨Z3, rfl⟩ [5, 6] 14 _ _ (by kernel_rfl) ?_; change wpQuiet _ _ _ _ (_ :: _ :: []) _
    repeat go_big_quiet_step (fail)
    refine wpQuiet_nil ?_; refine held_quiet5 (by kernel_rfl) (fun _ _ d _ _ h => by cases d <;> exact h) ⟨Z3, rfl⟩ [7, 9] 12 _ _ (by kernel_rfl) ?_; change wpQuiet _ _ _ _ (_ :: _ :: []) _
    repeat go_big_quiet_step (fail)
    refine wpQuiet_nil ?_; refine held_do (i := 8) _ rfl (by kernel_rfl) rfl (fun K hK => ?_); go_simp; refine (N3.out Z3).mono ?_; rintro e w4 ⟨hb4, a4, b4, c4, ca4, cb4, cc4, rfl, hi4⟩; have HV4 := qH hi4; obtain ⟨Z4, rfl⟩ : ∃ Z : Ext wc, w4 = Z.1 := ⟨⟨w4, bStp Z3.2 hb4⟩, rfl⟩; clear hb4 hi4; refine hK _ _ ⟨Z4, rfl⟩ ?_; clear hK K
    try simp only [pS]
    have DS5 := qH (same_self A a4 b4 c4 a b c ca4 cb4 cc4 ca cb cc Z4.1 HV4.out.sm HV4.out.lp HV4.out.tg (HIW.out.below Z4.2).sm (HIW.out.below Z4.2).lp (HIW.out.below Z4.2).tg (by have := HLA.out.1; omega) (by have := HLA.out.2.1; omega) (by have := HLA.out.2.2; omega)); unfold actV at DS5; refine held_do (i := 10) _ rfl (by kernel_rfl) rfl (fun K hK => ?_); go_simp; refine (DS5.out).mono ?_; rintro e w5 ⟨rfl, hb5⟩; obtain ⟨Z5, rfl⟩ : ∃ Z : Ext wc, w5 = Z.1 := ⟨⟨w5, bStp Z4.2 hb5⟩, rfl⟩; clear hb5 DS5; refine hK _ _ ⟨Z5, rfl⟩ ?_; clear hK K
    try simp only [pS]
    refine held_quiet5 (by kernel_rfl) (fun _ _ d _ _ h => by cases d <;> exact h) ⟨Z5, rfl⟩ [11, 12, 13] 7 _ _ (by kernel_rfl) ?_; change wpQuiet _ _ _ _ (_ :: _ :: _ :: []) _
    repeat go_big_quiet_step (fail)
    refine wpQuiet_nil ?_; refine held_quiet5 (by kernel_rfl) (fun _ _ d _ _ h => by cases d <;> exact h) ⟨Z5, rfl⟩ [14, 16] 5 _ _ (by kernel_rfl) ?_; change wpQuiet _ _ _ _ (_ :: _ :: []) _
    repeat go_big_quiet_step (fail)
    refine wpQuiet_nil ?_; refine held_do (i := 15) _ rfl (by kernel_rfl) rfl (fun K hK => ?_); go_simp; refine (N4.out Z5).mono ?_; rintro e w6 ⟨hb6, a6, c6, rfl, hi6⟩; have HV6 := qH hi6; obtain ⟨Z6, rfl⟩ : ∃ Z : Ext wc, w6 = Z.1 := ⟨⟨w6, bStp Z5.2 hb6⟩, rfl⟩; clear hb6 hi6; refine hK _ _ ⟨Z6, rfl⟩ ?_; clear hK K
    try simp only [pS]
    refine held_do (i := 17) _ rfl (by kernel_rfl) rfl (fun K hK => ?_); go_simp; refine (N5.out Z6).mono ?_; rintro e w7 ⟨hb7, a7, c7, rfl, hi7⟩; have HV7 := qH hi7; have HV6b := qH (HV6.out.below hb7); obtain ⟨Z7, rfl⟩ : ∃ Z : Ext wc, w7 = Z.1 := ⟨⟨w7, bStp Z6.2 hb7⟩, rfl⟩; clear hb7 hi7; refine hK _ _ ⟨Z7, rfl⟩ ?_; clear hK K
    try simp only [pS]
    have DE := qH (equalE_any L1 L1 a6 a7 c6 c7 Z7.1 HV6b.out HV7.out (by have := HLE.out; omega)); rw [HNE.out, eqEs_self] at DE; refine held_do (i := 18) _ rfl (by kernel_rfl) rfl (fun K hK => ?_); go_simp; refine (DE.out).mono ?_; rintro e w8 ⟨rfl, q8, rfl⟩; obtain ⟨Z8, hZ8⟩ : ∃ Z : Ext wc, Z7.1.drewN q8 = Z.1 := ⟨⟨Z7.1.drewN q8, bStp Z7.2 (below_drewN0 _ _)⟩, rfl⟩; rw [hZ8]; clear hZ8 DE; refine hK _ _ ⟨Z8, rfl⟩ ?_; clear hK K
    try simp only [pS]
    refine held_quiet5 (by kernel_rfl) (fun _ _ d _ _ h => by cases d <;> exact h) ⟨Z8, rfl⟩ [19, 20] 0 _ _ (by kernel_rfl) ?_; change wpQuiet _ _ _ _ (_ :: _ :: []) _
    repeat go_big_quiet_step (fail)
    refine wpQuiet_nil ?_; refine wpAnyH_done (by kernel_rfl) ?_ _; go_wp2_with fail
    go_roundw
    case rel => exact ⟨k + 1, by go_num, by omega, qH ⟨P1, Q1, L1, U1, HBW.out.below Z8.2⟩, ⟨Z8.1, bStp HX9.out Z8.2⟩, rfl⟩
    case measure => simp [intOf]; omega
open Go.ChangeShapes Go.WideShapes Go.ChangeAt Go.RowKit Go.Deep
theorem laidOut : laidOutB Tryz.prog = true := by kernel_rfl
theorem readAct : Tryz.prog.readableRec 26 = true := by kernel_rfl
theorem rowAct : 26 < Tryz.prog.types.size := of_decide_eq_true (by kernel_rfl)
def intV : Value → Int
 | .int _ n => n
 | _ => 0
def strV : Value → ByteArray
 | .string s => s
 | _ => ByteArray.empty
section
variable {H : Type} {enc : TypeId × Value → H} {P : Program} {w : World} {base : Nat}
theorem field_str {V : List Value} {j : Nat} {t : TypeId} (ht : P.underlying t = some .string) (h : ∃ u n y, V[j]? = some u ∧ DataW.trod enc P w base (fun _ => true) true n t [u] = some y) :
 V[j]? = some (.string (strV (V.getD j (.bool false)))) ∧ (strV (V.getD j (.bool false))).size ≤ maxLen := by
 obtain ⟨u, n, y, hu, hd⟩ := h; obtain ⟨s, e, _, hs⟩ := DataW.trod_string ht hd; simp only [List.cons.injEq, and_true] at e; subst e; rw [List.getD_eq_getElem?_getD, hu]; exact ⟨rfl, hs⟩
theorem field_int {V : List Value} {j : Nat} {t : TypeId} (ht : P.underlying t = some (.int .i64)) (h : ∃ u n y, V[j]? = some u ∧ DataW.trod enc P w base (fun _ => true) true n t [u] = some y) :
 V[j]? = some (.int .i64 (intV (V.getD j (.bool false)))) := by
 obtain ⟨u, n, y, hu, hd⟩ := h; obtain ⟨s, e, _, hs⟩ := DataW.trod_int ht hd; simp only [List.cons.injEq, and_true] at e; subst e; rw [List.getD_eq_getElem?_getD, hu]
 rfl
end
theorem list3 {V : List Value} {a b c : Value} (hl : V.length = 3) (h0 : V[0]? = some a) (h1 : V[1]? = some b) (h2 : V[2]? = some c) : V = [a, b, c] := by
 match V, hl with
 | [x, y, z], _ => simp at h0 h1 h2; rw [h0, h1, h2]
theorem list7 {V : List Value} {a b c d e f g : Value} (hl : V.length = 7) (h0 : V[0]? = some a) (h1 : V[1]? = some b) (h2 : V[2]? = some c) (h3 : V[3]? = some d) (h4 : V[4]? = some e) (h5 : V[5]? = some f) (h6 : V[6]? = some g) : V = [a, b, c, d, e, f, g] := by
 match V, hl with
 | [x0, x1, x2, x3, x4, x5, x6], _ => simp at h0 h1 h2 h3 h4 h5 h6; rw [h0, h1, h2, h3, h4, h5, h6]
theorem list6 {V : List Value} {a b c d e f : Value} (hl : V.length = 6) (h0 : V[0]? = some a) (h1 : V[1]? = some b) (h2 : V[2]? = some c) (h3 : V[3]? = some d) (h4 : V[4]? = some e) (h5 : V[5]? = some f) : V = [a, b, c, d, e, f] := by
 match V, hl with
 | [x0, x1, x2, x3, x4, x5], _ => simp at h0 h1 h2 h3 h4 h5; rw [h0, h1, h2, h3, h4, h5]
def smOf (V : List Value) : Sm := ⟨intV (V.getD 0 (.bool false)), intV (V.getD 1 (.bool false)), intV (V.getD 2 (.bool false)), intV (V.getD 3 (.bool false)), intV (V.getD 4 (.bool false)), intV (V.getD 5 (.bool false)), intV (V.getD 6 (.bool false))⟩
def lpOf (V : List Value) : Lp := ⟨intV (V.getD 0 (.bool false)), intV (V.getD 1 (.bool false)), strV (V.getD 2 (.bool false))⟩
theorem range_get {α : Type} (f : Nat → α) {n i : Nat} {x : α} (h : ((List.range n).map f)[i]? = some x) : i < n ∧ x = f i := by
 rw [List.getElem?_map] at h
 cases hr : (List.range n)[i]? with
 | none => rw [hr] at h; cases h
 | some y =>
  rw [hr] at h; obtain ⟨h1, h2⟩ := List.getElem?_eq_some_iff.1 hr; simp only [List.length_range] at h1; simp only [List.getElem_range] at h2; subst h2; simp only [Option.map_some, Option.some.injEq] at h; exact ⟨h1, h.symm⟩
theorem rw_of {α : Type} {C : α → List Value} {k : Nat} {w : World} {a : Option Addr} {n : Nat} {V : Nat → List Value} {f : Nat → α} (hC : ∀ x, (C x).length = k) (h : RowK w a n k V) (he : ∀ i, i < n → V i = C (f i)) : Rw C k w a ((List.range n).map f) := by
 refine ⟨fun hl => ?_⟩; rw [List.length_map, List.length_range] at hl; obtain ⟨b, off, e, hb, hc⟩ := h.here hl; refine ⟨b, off, e, hb, fun i x hx j u hu => ?_⟩; obtain ⟨hi, rfl⟩ := range_get f hx; have hj : j < k := by have := (List.getElem?_eq_some_iff.1 hu).1; rwa [hC] at this
 rw [← hu, ← he i hi]; exact hc i hi j hj
section
variable {H : Type} {enc : TypeId × Value → H} {P : Program} {w : World} {base : Nat}
theorem open_sms {t e : TypeId} (I : P.underlying t = some (.slice e)) {fs : Array Field} (hs : P.underlying e = some (.struct fs)) (hC : P.cellsOf e = fs.size) (h7 : fs.size = 7) (hone : ∀ (i : Nat) (f : Field), fs[i]? = some f → f.offset = i ∧ P.cellsOf f.type = 1)
 (hi : ∀ (j : Nat) (f : Field), fs[j]? = some f → P.underlying f.type = some (.int .i64)) {n : Nat} {v : Value} {y : DataW H × List MemPlace} (h : DataW.trod enc P w base (fun _ => true) true n t [v] = some y) :
 ∃ (l : List Sm) (a : Option Addr) (c : Nat), v = .slice a l.length c ∧ l.length ≤ c ∧ c ≤ maxLen ∧ Rw smC 7 w a l := by
 obtain ⟨a0, n0, c0, V0, rfl, l0, m0, R0, F0⟩ := open_rowK I hs hC (by omega) hone h; rw [h7] at R0 F0; refine ⟨(List.range n0).map fun i => smOf (V0 i), a0, c0, by rw [List.length_map, List.length_range], by rw [List.length_map, List.length_range]; exact l0, m0, rw_of (fun _ => rfl) R0 fun i hi' => ?_⟩; have F := F0 i hi'; have g : ∀ (j : Nat) (_ : j < 7), (V0 i)[j]? = some (.int .i64 (intV ((V0 i).getD j (.bool false)))) := fun j hj => by
  obtain ⟨f, hf⟩ : ∃ f, fs[j]? = some f := ⟨_, Array.getElem?_eq_getElem (by omega)⟩; exact field_int (hi j f hf) (F.2 j f hf)
 exact list7 F.1 (g 0 (by omega)) (g 1 (by omega)) (g 2 (by omega)) (g 3 (by omega)) (g 4 (by omega)) (g 5 (by omega)) (g 6 (by omega))
theorem open_tags {t e : TypeId} (I : P.underlying t = some (.slice e)) (hs : P.underlying e = some .string) (hC : P.cellsOf e = 1) {n : Nat} {v : Value} {y : DataW H × List MemPlace} (h : DataW.trod enc P w base (fun _ => true) true n t [v] = some y) :
 ∃ (l : List ByteArray) (a : Option Addr) (c : Nat), v = .slice a l.length c ∧ l.length ≤ c ∧ c ≤ maxLen ∧ Rw tgC 1 w a l ∧ ∀ s, s ∈ l → s.size ≤ maxLen := by
 rcases open_slice I h with ⟨hc, _⟩ | ⟨a, len, cap, m, n', D, Pl, hc, _, hl, hm, hmm, _, hx⟩
 · simp only [List.cons.injEq, and_true] at hc
   exact ⟨[], none, 0, hc, Nat.le_refl _, Nat.zero_le _, ⟨fun h => absurd h (by simp)⟩, fun s hs => by cases hs⟩
 · simp only [List.cons.injEq, and_true] at hc
   simp only [if_true] at hmm; subst hmm; have each : ∀ i, i < m → ∃ s : ByteArray, w.cell? (a.add i) = some (.string s) ∧ s.size ≤ maxLen := by
    intro i hi; obtain ⟨cs, h1, h2⟩ := hx i hi; rw [hC] at h1; obtain ⟨_, hlen, hcell⟩ := World.cells?_some h1; obtain ⟨s, e1, _, hs1⟩ := DataW.trod_string hs h2; have h3 := hcell 0 (by omega); rw [e1, add_add] at h3; refine ⟨s, ?_, hs1⟩
    simpa using h3
   obtain ⟨V, hV⟩ := choose_lt each; refine ⟨(List.range len).map V, some a, m, by rw [List.length_map, List.length_range]; exact hc, by rw [List.length_map, List.length_range]; exact hl, hm, ⟨fun hl0 => ?_⟩, fun s hs => ?_⟩
   · rw [List.length_map, List.length_range] at hl0
     obtain ⟨b, o, sp⟩ := a; have h0 := (hV 0 (by omega)).1; have hspot : sp = none := by simpa [Addr.add] using World.cell?_spot h0
     subst hspot; refine ⟨b, o, rfl, by simpa [Addr.add] using World.block_lt_of_cell? w _ h0, fun i x hx' j u hu => ?_⟩; obtain ⟨hi, rfl⟩ := range_get V hx'; have hj : j < 1 := (List.getElem?_eq_some_iff.1 hu).1; obtain rfl : j = 0 := by omega
     injection hu with hu; subst hu; have := (hV i (by omega)).1; rw [add_plain] at this; rw [Nat.mul_one, Nat.add_zero]; exact this
   · obtain ⟨i, hi, rfl⟩ := List.mem_map.1 hs
     exact (hV i (by have := List.mem_range.1 hi; omega)).2
theorem open_lps {t e : TypeId} {f0 f1 f2 : Field} (I : P.underlying t = some (.slice e)) (hs : P.underlying e = some (.struct #[f0, f1, f2])) (hC : P.cellsOf e = 3) (hone : ∀ (i : Nat) (f : Field), (#[f0, f1, f2] : Array Field)[i]? = some f → f.offset = i ∧ P.cellsOf f.type = 1)
 (i0 : P.underlying f0.type = some (.int .i64)) (i1 : P.underlying f1.type = some (.int .i64)) (i2 : P.underlying f2.type = some .string) {n : Nat} {v : Value} {y : DataW H × List MemPlace} (h : DataW.trod enc P w base (fun _ => true) true n t [v] = some y) :
 ∃ (l : List Lp) (a : Option Addr) (c : Nat), v = .slice a l.length c ∧ l.length ≤ c ∧ c ≤ maxLen ∧ Rw lpC 3 w a l ∧ ∀ p, p ∈ l → p.s.size ≤ maxLen := by
 obtain ⟨a0, n0, c0, V0, rfl, l0, m0, R0, F0⟩ := open_rowK I hs hC (show 0 < 3 by decide) hone h; have F : ∀ i, i < n0 → V0 i = lpC (lpOf (V0 i)) ∧ (lpOf (V0 i)).s.size ≤ maxLen := fun i hi =>
  ⟨list3 (F0 i hi).1 (field_int i0 ((F0 i hi).2 0 _ rfl)) (field_int i1 ((F0 i hi).2 1 _ rfl)) (field_str i2 ((F0 i hi).2 2 _ rfl)).1, (field_str i2 ((F0 i hi).2 2 _ rfl)).2⟩
 refine ⟨(List.range n0).map fun i => lpOf (V0 i), a0, c0, by rw [List.length_map, List.length_range], by rw [List.length_map, List.length_range]; exact l0, m0, rw_of (fun _ => rfl) R0 fun i hi => (F i hi).1, fun p hp => ?_⟩; obtain ⟨i, hi, rfl⟩ := List.mem_map.1 hp; exact (F i (List.mem_range.1 hi)).2
end
theorem act_cells {H : Type} {enc : TypeId × Value → H} {W : World} {base : Nat} {V : List Value} (hl : V.length = 6) (F : ∀ (j : Nat) (f : Field), (Tryz.prog.fieldsOf 26)[j]? = some f → ∃ u n y, V[j]? = some u ∧ DataW.trod enc Tryz.prog W base (fun _ => true) true n f.type [u] = some y) :
 ∃ (A : Acv) (a b c : Option Addr) (ca cb cc : Nat), V = [.string A.name, .int .i64 A.sport, .int .i64 A.start, .slice a A.sm.length ca, .slice b A.lp.length cb, .slice c A.tg.length cc] ∧ ActIn W A a b c ∧ A.sm.length ≤ ca ∧ A.lp.length ≤ cb ∧ A.tg.length ≤ cc := by
 have S := Tryz.underlying9; have I := Tryz.underlying3; have hm : maxLen = 9223372036854775807 := rfl; simp only [Program.fieldsOf, Tryz.underlying26] at F; obtain ⟨e0, z0⟩ := field_str S (F 0 _ rfl); have e1 := field_int I (F 1 _ rfl); have e2 := field_int I (F 2 _ rfl); obtain ⟨u3, n3, y3, e3, t3⟩ := F 3 _ rfl; obtain ⟨u4, n4, y4, e4, t4⟩ := F 4 _ rfl; obtain ⟨u5, n5, y5, e5, t5⟩ := F 5 _ rfl; obtain ⟨l, a, ca, rfl, la, ma, ra⟩ := open_sms (P := Tryz.prog) Tryz.underlying22 Tryz.underlying72 (by kernel_rfl) rfl (hone_of (by kernel_rfl)) (fun j f hf => by
  match j, hf with
  | 0, h => injection h with h; subst h; exact I
  | 1, h => injection h with h; subst h; exact I
  | 2, h => injection h with h; subst h; exact I
  | 3, h => injection h with h; subst h; exact I
  | 4, h => injection h with h; subst h; exact I
  | 5, h => injection h with h; subst h; exact I
  | 6, h => injection h with h; subst h; exact I
  | n + 7, h => cases h) t3
 obtain ⟨p, b, cb, rfl, lb, mb, rb, hb⟩ := open_lps (P := Tryz.prog) Tryz.underlying23 Tryz.underlying75 (by kernel_rfl) (hone_of (by kernel_rfl)) I I S t4; obtain ⟨g, c, cc, rfl, lc, mc, rc, hc⟩ := open_tags (P := Tryz.prog) Tryz.underlying24 S (by kernel_rfl) t5; refine ⟨⟨strV (V.getD 0 (.bool false)), intV (V.getD 1 (.bool false)), intV (V.getD 2 (.bool false)), l, p, g⟩, a, b, c, ca, cb, cc, list6 hl e0 e1 e2 e3 e4 e5, ⟨ra, rb, rc, z0, hb, hc, by show ((l.length : Nat) : Int) ≤ _; omega, by show ((p.length : Nat) : Int) ≤ _; omega, by show ((g.length : Nat) : Int) ≤ _; omega⟩, la, lb, lc⟩
theorem open_act {H : Type} {enc : TypeId × Value → H} {W : World} {r : Reach} {b0 base : Nat} {v : Value} {d : DataW H} {p : List MemPlace}
 (hv : Value.okWide Tryz.prog W r b0 26 v) (h : DataW.Trod enc Tryz.prog W base (fun _ => true) true 26 v d p) :
 ∃ (A : Acv) (a b c : Option Addr) (ca cb cc : Nat), v = actV A a b c ca cb cc ∧ ActIn W A a b c ∧ A.sm.length ≤ ca ∧ A.lp.length ≤ cb ∧ A.tg.length ≤ cc := by
 have hs := Tryz.underlying26; obtain ⟨cs, rfl, hsz⟩ := okWide_struct hs hv; have h6 : cs.size = 6 := hsz.trans (by kernel_rfl); obtain ⟨fuel, hf⟩ := h; obtain ⟨xs, n, _, _, _, hlen, hg⟩ := DataW.trod_struct hs hf; have hlen6 : xs.length = 6 := hlen; have e : cs.toList.length = 6 := by simpa using h6
 have fld : ∀ (j : Nat) (f : Field), (Tryz.prog.fieldsOf 26)[j]? = some f → ∃ u n y, cs.toList[j]? = some u ∧ DataW.trod enc Tryz.prog W base (fun _ => true) true n f.type [u] = some y := fun j f hj => by
  simp only [Program.fieldsOf, Tryz.underlying26] at hj; obtain ⟨o, k⟩ := hone_of (P := Tryz.prog) (by kernel_rfl) j f hj; have h1 := hg j f hj; rw [o, k] at h1; have hlt : j < 6 := (Array.getElem?_eq_some_iff.1 hj).1; have hjl : j < cs.toList.length := by omega
  have e1 : (cs.toList.drop j).take 1 = [cs.toList[j]] := by rw [List.drop_eq_getElem_cons hjl]; rfl
  rw [show (Value.agg cs).cells.toList = cs.toList from rfl, e1, List.getElem?_eq_getElem (by omega)] at h1; exact ⟨_, _, _, List.getElem?_eq_getElem hjl, h1⟩
 obtain ⟨A, a, b, c, ca, cb, cc, he, ha, l1, l2, l3⟩ := act_cells e fld; refine ⟨A, a, b, c, ca, cb, cc, ?_, ha, l1, l2, l3⟩; unfold actV
 congr 1
 rw [← Array.toList_inj, he]
end Go.Proofs.YtjnfccphodjfiaaGreat
namespace Go.Proofs.YtjnfccphodjfiaaGreat
open Go.ChangeShapes Go.WideShapes Go.ChangeAt Go.RowKit Go.Deep
open Tr (Ed)
theorem list5 {V : List Value} {a b c d e : Value} (hl : V.length = 5) (h0 : V[0]? = some a) (h1 : V[1]? = some b) (h2 : V[2]? = some c) (h3 : V[3]? = some d) (h4 : V[4]? = some e) : V = [a, b, c, d, e] := by
 match V, hl with
 | [x, y, z, u, v], _ => simp at h0 h1 h2 h3 h4; rw [h0, h1, h2, h3, h4]
theorem slice_one {P : Program} {W : World} {r : Reach} {b0 : Nat} {t e : TypeId} {v : Value} (hu : P.underlying t = some (.slice e)) (hv : Value.okWide P W r b0 t v) : v.cells.toList = [v] := by
 obtain ⟨a, l, c, rfl⟩ := okWide_slice hu hv
 rfl
def edOf (V : List Value) : Ed := ⟨intV (V.getD 0 (.bool false)), intV (V.getD 1 (.bool false)), intV (V.getD 2 (.bool false)), intV (V.getD 3 (.bool false)), strV (V.getD 4 (.bool false))⟩
end Go.Proofs.YtjnfccphodjfiaaGreat
namespace Go.Proofs.YtjnfccphodjfiaaGreat
set_option maxHeartbeats 8000000
set_option maxRecDepth 100000
open Go.ChangeShapes Go.WideShapes Go.ChangeAt Go.RowKit Go.Deep
open Tr (Ed)
instance : Inhabited Stp := ⟨⟨0, ⟨0, 0, 0, 0, ⟨#[]⟩⟩⟩⟩
theorem readSteps : Tryz.prog.readableRec 42 = true := by kernel_rfl
theorem rowSteps : 42 < Tryz.prog.types.size := of_decide_eq_true (by kernel_rfl)
section
variable {H : Type} {enc : TypeId × Value → H} {P : Program} {w : World} {base : Nat}
theorem open_rowS {t e : TypeId} {fuel : Nat} {v : Value} {x : DataW H × List MemPlace} {k : Nat} (ht : P.underlying t = some (.slice e)) (hC : P.cellsOf e = k) (hk : 0 < k) (h : DataW.trod enc P w base (fun _ => true) true fuel t [v] = some x) :
 ∃ (a : Option Addr) (len cap : Nat) (V : Nat → List Value), v = .slice a len cap ∧ len ≤ cap ∧ cap ≤ maxLen ∧ RowK w a len k V ∧ ∀ i, i < len → (V i).length = k ∧ ∃ n y, DataW.trod enc P w base (fun _ => true) true n e (V i) = some y := by
 rcases open_slice ht h with ⟨hc, _⟩ | ⟨a, len, cap, m, n, D, Pl, hc, _, hl, hm, hmm, _, hx⟩
 · simp only [List.cons.injEq, and_true] at hc
   exact ⟨none, 0, 0, fun _ => [], hc, Nat.le_refl _, Nat.zero_le _, ⟨fun h => absurd h (by omega)⟩, fun i hi => absurd hi (by omega)⟩
 · simp only [List.cons.injEq, and_true] at hc
   simp only [if_true] at hmm; subst hmm; have each : ∀ i, i < m → ∃ cs : List Value, cs.length = k ∧ (∀ j, j < k → w.cell? (a.add (i * k + j)) = cs[j]?) ∧ ∃ n y, DataW.trod enc P w base (fun _ => true) true n e cs = some y := by
    intro i hi; obtain ⟨cs, h1, h2⟩ := hx i hi; rw [hC] at h1; obtain ⟨_, hlen, hcell⟩ := World.cells?_some h1; exact ⟨cs, hlen, fun j hj => by rw [← add_add]; exact hcell j (by omega), _, _, h2⟩
   obtain ⟨V, hV⟩ := choose_lt each; refine ⟨some a, len, m, V, hc, hl, hm, ⟨fun hl0 => ?_⟩, fun i hi => ⟨(hV i (by omega)).1, (hV i (by omega)).2.2⟩⟩; obtain ⟨b, o, sp⟩ := a; have hc0 : ∃ u, w.cell? ((⟨b, o, sp⟩ : Addr).add (0 * k + 0)) = some u := by
    obtain ⟨g1, g2, g3⟩ := hV 0 (by omega); exact ⟨(V 0)[0]'(by omega), by rw [g2 0 hk, List.getElem?_eq_getElem]⟩
   obtain ⟨u, hu⟩ := hc0; have hspot : sp = none := by simpa [Addr.add] using World.cell?_spot hu
   subst hspot; rw [Nat.zero_mul, add_plain] at hu; refine ⟨b, o, rfl, World.block_lt_of_cell? w _ hu, fun i hi j hj => ?_⟩; have := (hV i (by omega)).2.1 j hj; rw [add_plain, ← Nat.add_assoc] at this; exact this
end
theorem edit_cells {H : Type} {enc : TypeId × Value → H} {W : World} {base n : Nat} {cs : List Value} {y : DataW H × List MemPlace} (hl : cs.length = 5) (h : DataW.trod enc Tryz.prog W base (fun _ => true) true n 28 cs = some y) :
 cs = edC (edOf cs) ∧ (edOf cs).s.size ≤ maxLen := by
 have hs := Tryz.underlying28; obtain ⟨xs, n, _, _, _, hlen, hg⟩ := DataW.trod_struct hs h; have hlen5 : xs.length = 5 := hlen; have fld : ∀ (j : Nat) (f : Field), (Tryz.prog.fieldsOf 28)[j]? = some f → ∃ u n y, cs[j]? = some u ∧ DataW.trod enc Tryz.prog W base (fun _ => true) true n f.type [u] = some y := fun j f hj => by
  simp only [Program.fieldsOf, Tryz.underlying28] at hj; obtain ⟨o, k⟩ := hone_of (P := Tryz.prog) (by kernel_rfl) j f hj; have h1 := hg j f hj; rw [o, k] at h1; have hlt : j < 5 := (Array.getElem?_eq_some_iff.1 hj).1; have hjl : j < cs.length := by omega
  have e1 : (cs.drop j).take 1 = [cs[j]] := by rw [List.drop_eq_getElem_cons hjl]; rfl
  rw [e1, List.getElem?_eq_getElem (by omega)] at h1; exact ⟨_, _, _, List.getElem?_eq_getElem hjl, h1⟩
 have S := Tryz.underlying9; have I := Tryz.underlying3; have f4 := field_str S (fld 4 _ rfl); exact ⟨list5 hl (field_int I (fld 0 _ rfl)) (field_int I (fld 1 _ rfl)) (field_int I (fld 2 _ rfl)) (field_int I (fld 3 _ rfl)) f4.1, f4.2⟩
theorem step_cells {H : Type} {enc : TypeId × Value → H} {W : World} {base n : Nat} {cs : List Value} {y : DataW H × List MemPlace} (hl : cs.length = 6) (h : DataW.trod enc Tryz.prog W base (fun _ => true) true n 50 cs = some y) :
 ∃ p : Stp, cs = stpC p ∧ p.x.s.size ≤ maxLen := by
 have hs := Tryz.underlying50; obtain ⟨xs, n, _, _, _, hlen, hg⟩ := DataW.trod_struct hs h; have hlen2 : xs.length = 2 := hlen
 match cs, hl with
 | [v0, v1, v2, v3, v4, v5], _ =>
  have g0 : DataW.trod enc Tryz.prog W base (fun _ => true) true n 3 (([v0, v1, v2, v3, v4, v5].drop 0).take (Tryz.prog.cellsOf 3)) = some xs[0] := by
   have := hg 0 _ rfl; rw [List.getElem?_eq_getElem (by omega)] at this; exact this
  have g1 : DataW.trod enc Tryz.prog W base (fun _ => true) true n 28 (([v0, v1, v2, v3, v4, v5].drop 1).take (Tryz.prog.cellsOf 28)) = some xs[1] := by
   have := hg 1 _ rfl; rw [List.getElem?_eq_getElem (by omega)] at this; exact this
  have c0 : Tryz.prog.cellsOf 3 = 1 := by kernel_rfl
  have c1 : Tryz.prog.cellsOf 28 = 5 := by kernel_rfl
  rw [c0] at g0; rw [c1] at g1; have k0 := field_int (V := [v0]) (j := 0) Tryz.underlying3 ⟨v0, _, _, rfl, g0⟩; obtain ⟨e1, e2⟩ := edit_cells (cs := [v1, v2, v3, v4, v5]) rfl g1; refine ⟨⟨intV ([v0].getD 0 (.bool false)), edOf [v1, v2, v3, v4, v5]⟩, ?_, e2⟩; have k1 : v0 = .int .i64 (intV ([v0].getD 0 (.bool false))) := by injection k0
  unfold stpC; rw [← e1, ← k1]
theorem open_steps {H : Type} {enc : TypeId × Value → H} {W : World} {r : Reach} {b0 base : Nat} {v : Value} {d : DataW H} {p : List MemPlace}
 (hv : Value.okWide Tryz.prog W r b0 42 v) (h : DataW.Trod enc Tryz.prog W base (fun _ => true) true 42 v d p) :
 ∃ (l : List Stp) (a : Option Addr) (c : Nat), v = .slice a l.length c ∧ l.length ≤ c ∧ c ≤ maxLen ∧ Rw stpC 6 W a l ∧ ∀ x, x ∈ l → x.x.s.size ≤ maxLen := by
 obtain ⟨fuel, hf⟩ := h; rw [slice_one Tryz.underlying42 hv] at hf; obtain ⟨a0, n0, c0, V0, rfl, l0, m0, R0, F0⟩ := open_rowS (k := 6) Tryz.underlying42 (by kernel_rfl) (by decide) hf; have each : ∀ i, i < n0 → ∃ x : Stp, V0 i = stpC x ∧ x.x.s.size ≤ maxLen := fun i hi => by
  obtain ⟨h1, n, y, h2⟩ := F0 i hi; exact step_cells h1 h2
 obtain ⟨X, hX⟩ := choose_lt each; refine ⟨(List.range n0).map X, a0, c0, by rw [List.length_map, List.length_range], by rw [List.length_map, List.length_range]; exact l0, m0, rw_of (fun _ => rfl) R0 (fun i hi => (hX i hi).1), fun x hx => ?_⟩; obtain ⟨i, hi, rfl⟩ := List.mem_map.1 hx; exact (hX i (List.mem_range.1 hi)).2
end Go.Proofs.YtjnfccphodjfiaaGreat
