/- Several texts of this claim in one. -/
import Derived.Test.YtgdepcnfjmobjaaGreatMg7
import Derived.Test.YtgdepcnfjmobjaaGreatMg3
import Derived.Test.YtgdepcnfjmobjaaGreatMg2
import Derived.Laws.StructEq
import Derived.Deep.Draws
import Derived.Test.YtgdepcnfjmobjaaGreatProg
import Derived.Deep.Slices
import Derived.ChangeSame
import Derived.Below
import Derived.Lib.SmallJoins
import Derived.Test.YtgdepcnfjmobjaaGreatRows
import Derived.ProofKit
import Derived.OpenShut
import Derived.Carry
import Derived.ChangeMaps5
/- A text of this claim. -/
namespace Go.Proofs.YtgdepcnfjmobjaaGreat
open Go.RowKit Go.BigFrame
open Tr (inR Ed)
def UndoRet (S : World → (Nat → Prop) → Nat → Acv → List Ed → List Ed → Prop) (P : Nat → Prop) (s : Nat) (A : Acv) (L U : List Ed) (w : World) (e : Ending) (w' : World) : Prop :=
 Kept P w w' ∧ ((L = [] ∧ e = .returned (.bool false) ∧ S w' P s A L U) ∨ (∃ M x, L = M ++ [x] ∧ e = .returned (.bool true) ∧ S w' (Wider P w w') s A M (U ++ [x])))
def RedoRet (S : World → (Nat → Prop) → Nat → Acv → List Ed → List Ed → Prop) (P : Nat → Prop) (s : Nat) (A : Acv) (L U : List Ed) (w : World) (e : Ending) (w' : World) : Prop :=
 Kept P w w' ∧ ((U = [] ∧ e = .returned (.bool false) ∧ S w' P s A L U) ∨ (∃ V x, U = V ++ [x] ∧ e = .returned (.bool true) ∧ S w' (Wider P w w') s A (L ++ [x]) V))
theorem list_last {α : Type} (L : List α) : L = [] ∨ ∃ M x, L = M ++ [x] := by
 rcases List.eq_nil_or_concat L with h | ⟨M, x, h⟩
 · exact Or.inl h
 · exact Or.inr ⟨M, x, by rw [h, List.concat_eq_append]⟩
theorem StOk.undo {A : Acv} {M U : List Ed} {x : Ed} (h : StOk A (M ++ [x]) U) : StOk A M (U ++ [x]) := by
 have hl := h.len
 rw [List.length_append] at hl
 simp only [List.length_cons, List.length_nil] at hl
 refine ⟨h.chk, by rw [List.length_append]; simp only [List.length_cons, List.length_nil]; omega, fun y hy => h.tl y (List.mem_append.2 (Or.inl hy)), fun y hy => ?_⟩
 rcases List.mem_append.1 hy with hy | hy
 · exact h.tu y hy
 · exact h.tl y (List.mem_append.2 (Or.inr hy))
theorem StOk.redo {A : Acv} {L V : List Ed} {x : Ed} (h : StOk A L (V ++ [x])) : StOk A (L ++ [x]) V := by
 have hl := h.len
 rw [List.length_append] at hl
 simp only [List.length_cons, List.length_nil] at hl
 refine ⟨h.chk, by rw [List.length_append]; simp only [List.length_cons, List.length_nil]; omega, fun y hy => ?_, fun y hy => h.tu y (List.mem_append.2 (Or.inl hy))⟩
 rcases List.mem_append.1 hy with hy | hy
 · exact h.tl y hy
 · exact h.tu y (List.mem_append.2 (Or.inr hy))
theorem EdOwn.lastCell {w : World} {g n cap : Nat} {M : List Ed} {x : Ed} (h : EdOwn w 0 (.slice (some ⟨g, 0, none⟩) (n + 1) cap) (M ++ [x])) (hn : M.length = n) : ∀ j u, (edC x)[j]? = some u → w.cell? ⟨g, n * 5 + j, none⟩ = some u := by
 intro j u hj
 obtain ⟨a, c, e, _, hr, _⟩ := h.row
 injection e with e1 _ _
 subst e1
 obtain ⟨b, off, e2, _, hc⟩ := hr.here (by rw [List.length_append]; simp)
 injection e2 with e2
 injection e2 with e3 e4
 subst e3 e4
 have := hc n x (by rw [← hn]; simp) j u hj
 rwa [Nat.zero_add] at this
theorem last_i (n : Nat) (h : n ≤ 200) : IntKind.i64.wrap (((n + 1 : Nat) : Int) - 1) = (n : Int) := by
 rw [show ((n + 1 : Nat) : Int) - 1 = (n : Int) by omega]
 exact tm_wrap (by omega) (by omega)
set_option maxHeartbeats 8000000 in
set_option maxRecDepth 100000 in
theorem undoP_any (P : Nat → Prop) (s : Nat) (A : Acv) (L U : List Ed) (w : World) (h : StP w P s A L U) (hP : ∀ g, P g → g < w.heap.size) :
 Calls Tryz.prog 10 #[.pointer (some ⟨s, 0, none⟩)] w fun e w' => UndoRet StP P s A L U w e w' := by
 have HST0 := Lib.hid h
 obtain ⟨hok, a, b, c, a', b', c', ca, cb, cc, ca', cb', cc', ve, vu, hst, hIA, hIZ, hOE, hOU, hS⟩ := id h
 rcases list_last L with rfl | ⟨M, x, rfl⟩
 · obtain ⟨av, cv, rfl, hcv, _, _⟩ := id hOE.row
   unfold spC at hst
   have z12 := st_cell hst (i := 12) rfl
   clear hok hst hIA hIZ hOE hOU hS hcv h hP
   go_enter Tryz.func10, Tryz.ntmps10
   go_wp2_with fail
   go_ret
   unfold UndoRet
   exact ⟨Kept.refl _ _, Or.inl ⟨rfl, rfl, HST0.out⟩⟩
 obtain ⟨g, cap, rfl, hOM, hcap, _⟩ := hOE.cutLast
 obtain ⟨n, hn⟩ : ∃ n, M.length = n := ⟨_, rfl⟩
 have hnb : n ≤ 200 := by
  have := hok.len
  rw [List.length_append, hn] at this
  omega
 have HN := Lib.hid hn
 rw [hn] at hst hOE hOM hS hcap
 obtain ⟨av, cv, rfl, hcv, _, _⟩ := id hOU.row
 obtain ⟨nu, hnu⟩ : ∃ n, U.length = n := ⟨_, rfl⟩
 have HNU := Lib.hid hnu
 rw [hnu] at hst hOU hS
 have HUB := Lib.hid (show nu ≤ 200 from by have := hok.len; omega)
 have hlast := hOE.lastCell hn
 have HOK := Lib.hid hok.undo
 have HOK0 := Lib.hid hok
 have HP := Lib.hid hP
 have HS := Lib.hid hS
 have HSL := Lib.hid (lt_of_block hst)
 have HST := Lib.hid hst
 have HIA := Lib.hid hIA
 have HOM := Lib.hid hOM
 have HOU := Lib.hid hOU
 obtain ⟨U1, hU1⟩ : ∃ V, U ++ [x] = V := ⟨_, rfl⟩
 have HU1 := Lib.hid hU1
 rw [hU1] at HOK
 have HU2 := Lib.hid (show UndoRet StP P s A (M ++ [x]) U w = UndoRet StP P s A (M ++ [x]) U w from rfl)
 obtain ⟨kx, nx, fx, tx, sx⟩ := x
 unfold spC at hst
 have e0 : w.cell? ⟨g, n * 5, none⟩ = some (.int .i64 kx) := hlast 0 _ rfl
 have e1 : w.cell? ⟨g, n * 5 + 1, none⟩ = some (.int .i64 nx) := hlast 1 _ rfl
 have e2 : w.cell? ⟨g, n * 5 + 2, none⟩ = some (.int .i64 fx) := hlast 2 _ rfl
 have e3 : w.cell? ⟨g, n * 5 + 3, none⟩ = some (.int .i64 tx) := hlast 3 _ rfl
 have e4 : w.cell? ⟨g, n * 5 + 4, none⟩ = some (.string sx) := hlast 4 _ rfl
 have z12 := st_cell hst (i := 12) rfl
 have z13 := st_cell hst (i := 13) rfl
 have hgu : (Value.slice av nu cv).ownBlock ≠ some g := (hS.eb g rfl).2.2
 have hsu : (Value.slice av nu cv).ownBlock ≠ some s := fun e => (hS.ub s e).2 rfl
 have hsg : g ≠ s := (hS.eb g rfl).2.1
 have E0 := ExtO.cell (O := fun b => (Value.slice av nu cv).ownBlock = some b) hgu e0
 have E1 := ExtO.cell (O := fun b => (Value.slice av nu cv).ownBlock = some b) hgu e1
 have E2 := ExtO.cell (O := fun b => (Value.slice av nu cv).ownBlock = some b) hgu e2
 have E3 := ExtO.cell (O := fun b => (Value.slice av nu cv).ownBlock = some b) hgu e3
 have E4 := ExtO.cell (O := fun b => (Value.slice av nu cv).ownBlock = some b) hgu e4
 have E12 := ExtO.cell (O := fun b => (Value.slice av nu cv).ownBlock = some b) hsu z12
 have E13 := ExtO.cell (O := fun b => (Value.slice av nu cv).ownBlock = some b) hsu z13
 have HGU := Lib.hid (And.intro hgu (And.intro hsu hsg))
 have q1 := last_i n hnb
 have hc1 : n ≤ cap := by omega
 have hc2 : decide (n ≤ cap) = true := by simpa using hc1
 have t1 : decide ((n : Int) < 0) = false := by rw [decide_eq_false_iff_not]; omega
 clear hok hst hIA hIZ hOE hOM hOU hS hlast hcap hcv hP h hn hnu hU1 e0 e1 e2 e3 e4 z13 hgu hsu hsg HU2
 go_enter Tryz.func10, Tryz.ntmps10
 go_upto_region 4 with (fail)
 clear z12
 refine late_start (s := 16) (C := fun w' => ∃ Z : ExtO (fun b => (Value.slice av nu cv).ownBlock = some b) w, w' = Z.1) (by kernel_rfl) ?_
 obtain ⟨Z0, hZ0⟩ : ∃ Z : ExtO (fun b => (Value.slice av nu cv).ownBlock = some b) w, ({ w with drawn := w.drawn + 1 } : World) = Z.1 := ⟨⟨{ w with drawn := w.drawn + 1 }, ⟨rfl, rfl, rfl, Nat.le_refl _, fun _ _ _ => rfl⟩⟩, rfl⟩
 rw [hZ0]
 have HO0 := Lib.hid (show EdOwn Z0.1 0 (.slice av nu cv) U from hZ0 ▸ (show EdOwn { w with drawn := w.drawn + 1 } 0 (.slice av nu cv) U from (show EdOwn w 0 (.slice av nu cv) U from HOU.out)))
 clear hZ0
 refine late_quiet (by kernel_rfl) (fun _ _ d _ _ h => by cases d <;> exact h) ⟨Z0, rfl⟩ [0, 1, 2, 3, 4, 5, 6, 7, 8, 9, 10, 11] 5 _ _ (by kernel_rfl) (by kernel_rfl) ?_
 change wpQuiet _ _ _ _ (_ :: _ :: _ :: _ :: _ :: _ :: _ :: _ :: _ :: _ :: _ :: _ :: []) _
 repeat go_big_quiet_step (fail)
 refine wpQuiet_nil ?_
 refine late_do (i := 12) _ rfl (by kernel_rfl) rfl (fun K hK => ?_)
 go_simp
 obtain ⟨W9, hW9, hwb9, hws9, hwl9⟩ := alloc_cells Z0.1 #[.int .i64 kx, .int .i64 nx, .int .i64 fx, .int .i64 tx, .string sx] 36
 rw [hW9]
 have HO1 := Lib.hid (HO0.out.below hwb9)
 have HZ0 := Lib.hid Z0.2.size
 obtain ⟨Z1, rfl⟩ : ∃ Z : ExtO (fun b => (Value.slice av nu cv).ownBlock = some b) w, W9 = Z.1 := ⟨⟨W9, Z0.2.trans (Kept.of_below hwb9)⟩, rfl⟩
 have HWL := Lib.hid (fun j u (hj : (edC ⟨kx, nx, fx, tx, sx⟩)[j]? = some u) => show Z1.1.cell? ⟨Z0.1.heap.size, j, none⟩ = some u from hwl9 j u (by rw [← hj]; unfold edC; simp))
 have HZS := Lib.hid hws9
 clear hW9 hwb9 hws9 hwl9
 refine hK _ _ (fun _ => ⟨Z1, rfl⟩) ?_
 clear hK K
 try simp only [Act.put, List.setIfInBounds_toArray, List.set_cons_zero, List.set_cons_succ]
 refine late_do (i := 13) _ rfl (by kernel_rfl) rfl (fun K hK => ?_)
 refine wp_append_ed (.tmp 16) (.tmp 24) rfl rfl HO1.out rfl HWL.out (by have := HUB.out; rw [HNU.out]; omega) (fun a3 n3 c3 w3 ho3 hn3 hg3 hb3 => ?_)
 obtain ⟨Z2, rfl⟩ : ∃ Z : ExtO (fun b => (Value.slice av nu cv).ownBlock = some b) w, w3 = Z.1 := ⟨⟨w3, Z1.2.trans (Kept.of_grown hg3 (fun g e _ => e))⟩, rfl⟩
 rw [HU1.out] at ho3
 have HO3 := Lib.hid ho3
 have HB3 := Lib.hid hb3
 have HZ12 := Lib.hid hg3.size
 refine hK _ _ (fun _ => ⟨Z2, rfl⟩) ?_
 clear hK K ho3 hg3 hb3 hn3 HO0 HO1
 try simp only [Act.put, List.setIfInBounds_toArray, List.set_cons_zero, List.set_cons_succ]
 refine late_free (by kernel_rfl) (fun _ _ d _ _ h => by cases d <;> exact h) (Or.inr ⟨Z2, rfl⟩) [14, 15] 1 _ (by kernel_rfl) (by kernel_rfl) ?_
 change wpQuiet _ _ _ _ (_ :: _ :: []) _
 repeat go_big_quiet_step (fail)
 refine wpQuiet_nil ?_
 have hs2 : Z2.1.heap[s]? = some (.cells (spC A (nowA A (M ++ [⟨kx, nx, fx, tx, sx⟩])) a b c a' b' c' ca cb cc ca' cb' cc' (.slice (some ⟨g, 0, none⟩) (n + 1) cap) (.slice av nu cv)) 46 (0, 0)) := (Z2.2.block s HSL.out HGU.out.2.1).trans HST.out
 obtain ⟨W3, hW3, hs3, hk3⟩ := st_vu hs2 (.slice a3 n3 c3)
 have HS3 := Lib.hid hs3
 have HK3 := Lib.hid hk3
 have fr3 := st_free hs2
 unfold spC at hs2
 have m13 := st_cell (i := 13) hs2 rfl
 clear hs2 hs3 hk3
 refine late_do (i := 16) _ rfl (by kernel_rfl) rfl (fun K hK => ?_)
 go_simp
 refine hK _ _ (fun h => nomatch (show true = false from h)) ?_
 clear hK K
 try simp only [Act.put, List.setIfInBounds_toArray, List.set_cons_zero, List.set_cons_succ]
 clear hW3 fr3 m13 E0 E1 E2 E3 E4 E12 E13
 refine late_done (by kernel_rfl) ?_ _
 have hs4 := HS3.out
 obtain ⟨W4, hW4, hs4', hk4⟩ := st_ve HS3.out (.slice (some ⟨g, 0, none⟩) n cap)
 have HS4 := Lib.hid hs4'
 have HK4 := Lib.hid hk4
 have fr4 := st_free HS3.out
 unfold spC at hs4
 have m12 := st_cell (i := 12) hs4 rfl
 clear hs4 hs4' hk4
 have hIA4 : ActIn W4 A a b c := ((HIA.out.keptN Z2.2 (fun q hq e => (HS.out.rows q (Or.inl hq)).2.2.2 e)).keptN HK3.out (fun q hq e => (HS.out.rows q (Or.inl hq)).2.1 e)).keptN HK4.out (fun q hq e => (HS.out.rows q (Or.inl hq)).2.1 e)
 have hOM4 : EdOwn W4 0 (.slice (some ⟨g, 0, none⟩) n cap) M := ((HOM.out.keptO Z2.2 (fun q hq e => by cases hq; exact HGU.out.1 e)).keptO HK3.out (fun q hq e => by cases hq; exact HGU.out.2.2 e)).keptO HK4.out (fun q hq e => by cases hq; exact HGU.out.2.2 e)
 have HIA4 := Lib.hid hIA4
 have HOM4 := Lib.hid hOM4
 obtain ⟨Y, hY⟩ : ∃ Y, nowA A M = Y := ⟨_, rfl⟩
 have HY := Lib.hid hY
 obtain ⟨i2, er2, hq2⟩ : ∃ i e, allQ A M = (Y, i, e) := ⟨_, _, by rw [← hY, ← allQ_now HOK0.out.chk (show M.length ≤ 200 by rw [HN.out]; exact hnb)]⟩
 have DAL := Lib.hid (fun X : Ext W4 => show Calls Tryz.prog 5 #[.agg #[.string A.name, .int .i64 A.sport, .int .i64 A.start, .slice a A.sm.length ca, .slice b A.lp.length cb, .slice c A.tg.length cc], .slice (some ⟨g, 0, none⟩) n cap] X.1 fun e w' => AllRes (Y, i2, er2) X.1 e w' from by
  obtain ⟨ra, rc, re, _, hr, _⟩ := HOM4.out.row
  injection re with re _ _
  subst re
  have h := all_any A a b c ca cb cc M (some ⟨g, 0, none⟩) cap X.1 (HIA4.out.below X.2) (hr.below X.2) (fun y hy => HOK.out.tl y hy)
  rw [hq2, HN.out] at h
  exact h)
 unfold AllRes at DAL
 simp only at DAL
 unfold actV at DAL
 clear hIA4 hOM4 hY hq2
 go_upto_region 6 with (fail)
 clear hW4 fr4 m12
 have hs4 := HS4.out
 unfold spC at hs4
 have A0 := Ext.ex (st_cell hs4 (i := 0) rfl)
 have A1 := Ext.ex (st_cell hs4 (i := 1) rfl)
 have A2 := Ext.ex (st_cell hs4 (i := 2) rfl)
 have A3 := Ext.ex (st_cell hs4 (i := 3) rfl)
 have A4 := Ext.ex (st_cell hs4 (i := 4) rfl)
 have A5 := Ext.ex (st_cell hs4 (i := 5) rfl)
 have A12 := Ext.ex (st_cell hs4 (i := 12) rfl)
 clear hs4
 refine late_start (s := 16) (C := fun w' => ∃ Z : Ext W4, w' = Z.1) (by kernel_rfl) ?_
 obtain ⟨Z0, hZ0⟩ : ∃ Z : Ext W4, ({ W4 with drawn := W4.drawn + 1 } : World) = Z.1 := ⟨⟨{ W4 with drawn := W4.drawn + 1 }, ⟨rfl, rfl, rfl, Nat.le_refl _, fun _ _ => rfl⟩⟩, rfl⟩
 rw [hZ0]
 clear hZ0
 refine late_quiet (by kernel_rfl) (fun _ _ d _ _ h => by cases d <;> exact h) ⟨Z0, rfl⟩ [0, 1, 2, 3, 4, 5, 6, 7, 8] 8 _ _ (by kernel_rfl) (by kernel_rfl) ?_
 change wpQuiet _ _ _ _ (_ :: _ :: _ :: _ :: _ :: _ :: _ :: _ :: _ :: []) _
 repeat go_big_quiet_step (fail)
 refine wpQuiet_nil ?_
 refine late_do (i := 9) _ rfl (by kernel_rfl) rfl (fun K hK => ?_)
 go_simp
 refine (DAL.out Z0).mono ?_
 rintro e w5 ⟨hb5, ya, yb, yc, yca, ycb, ycc, rfl, hy5, hyq⟩
 obtain ⟨Z5, rfl⟩ : ∃ Z : Ext W4, w5 = Z.1 := ⟨⟨w5, below_step Z0.2 hb5⟩, rfl⟩
 have HY5 := Lib.hid hy5
 have HYQ := Lib.hid (fun q hq => Nat.le_trans Z0.2.size (hyq q hq))
 clear hb5 hy5 hyq
 refine hK _ _ (fun _ => ⟨Z5, rfl⟩) ?_
 clear hK K
 try simp only [Act.put, List.setIfInBounds_toArray, List.set_cons_zero, List.set_cons_succ]
 refine late_quiet (by kernel_rfl) (fun _ _ d _ _ h => by cases d <;> exact h) ⟨Z5, rfl⟩ [10, 11] 5 _ _ (by kernel_rfl) (by kernel_rfl) ?_
 change wpQuiet _ _ _ _ (_ :: _ :: []) _
 repeat go_big_quiet_step (fail)
 refine wpQuiet_nil ?_
 refine late_free (by kernel_rfl) (fun _ _ d _ _ h => by cases d <;> exact h) (Or.inr ⟨Z5, rfl⟩) [12, 13, 14, 15] 1 _ (by kernel_rfl) (by kernel_rfl) ?_
 change wpQuiet _ _ _ _ (_ :: _ :: _ :: _ :: []) _
 repeat go_big_quiet_step (fail)
 refine wpQuiet_nil ?_
 have hs5 := (Z5.2.block s (lt_of_block HS4.out)).trans HS4.out
 obtain ⟨WF, hWF, hsF, hkF⟩ := st_now hs5 Y ya yb yc yca ycb ycc
 have HSF := Lib.hid hsF
 have HKF := Lib.hid hkF
 have frF := st_free hs5
 unfold spC at hs5
 have m6 := st_cell (i := 6) hs5 rfl
 have m7 := st_cell (i := 7) hs5 rfl
 have m8 := st_cell (i := 8) hs5 rfl
 have m9 := st_cell (i := 9) hs5 rfl
 have m10 := st_cell (i := 10) hs5 rfl
 have m11 := st_cell (i := 11) hs5 rfl
 clear hs5 hsF hkF
 refine late_do (i := 16) _ rfl (by kernel_rfl) rfl (fun K hK => ?_)
 go_simp
 refine hK _ _ (fun h => nomatch (show true = false from h)) ?_
 clear hK K
 try simp only [Act.put, List.setIfInBounds_toArray, List.set_cons_zero, List.set_cons_succ]
 clear hWF frF m6 m7 m8 m9 m10 m11
 refine late_done (by kernel_rfl) ?_ _
 go_wp2_with fail
 go_ret
 have hz0 := HZ0.out
 have hz12 := HZ12.out
 have hzs := HZS.out
 have hsl := HSL.out
 have hK5 : Kept (fun _ => False) W4 Z5.1 := Kept.of_below Z5.2
 have hK34 : Kept (fun b => b = s) Z2.1 WF := HK3.out.trans (HK4.out.trans ((hK5.wide (fun _ h => h.elim)).trans HKF.out))
 have hK2 : Kept (fun b => (Value.slice av nu cv).ownBlock = some b) w Z2.1 := Z2.2
 have hs34 := hK34.size
 have hs4F := HKF.out.size
 have hs24 : Z2.1.heap.size ≤ W4.heap.size := (HK3.out.trans HK4.out).size
 have hlt3 := HO3.out.lt
 have hgl : g < w.heap.size := HP.out g (HS.out.eb g rfl).1
 have hE : EdOwn WF 0 (.slice a3 n3 c3) U1 := HO3.out.keptO hK34 (fun q hq e => by
  rcases HB3.out q hq with h | h
  · exact (HS.out.ub q h).2 e
  · omega)
 have hOld : ∀ q, q < w.heap.size → (Value.slice av nu cv).ownBlock ≠ some q → (Value.slice a3 n3 c3).ownBlock ≠ some q := fun q hq hne e => by
  rcases HB3.out q e with h | h
  · exact hne h
  · omega
 have hM : EdOwn WF 0 (.slice (some ⟨g, 0, none⟩) n cap) M := (HOM4.out.below Z5.2).keptO HKF.out (fun q hq e => by cases hq; exact HGU.out.2.2 e)
 have hIAF : ActIn WF A a b c := (HIA4.out.below Z5.2).keptN HKF.out (fun q hq e => (HS.out.rows q (Or.inl hq)).2.1 e)
 have hIYF : ActIn WF Y ya yb yc := HY5.out.keptN HKF.out (fun q hq e => by have := hq.of (O := fun k => W4.heap.size ≤ k) HYQ.out; omega)
 have hZ5 := Z5.2.size
 unfold UndoRet
 refine ⟨?_, Or.inr ⟨M, ⟨kx, nx, fx, tx, sx⟩, rfl, rfl, ?_⟩⟩
 · exact (hK2.wide (fun q hq => (HS.out.ub q hq).1)).trans (hK34.wide (fun q hq => by subst hq; exact HS.out.st))
 · rw [HU1.out]
   refine ⟨HOK.out, a, b, c, ya, yb, yc, ca, cb, cc, yca, ycb, ycc, .slice (some ⟨g, 0, none⟩) n cap, .slice a3 n3 c3, by rw [HY.out]; exact HSF.out, hIAF, by rw [HY.out]; exact hIYF, hM, hE, ?_⟩
   rw [HY.out]
   refine ⟨Or.inl HS.out.st, fun q hq => ?_, fun q hq => ?_, fun q hq => ?_⟩
   · cases hq
     exact ⟨Or.inl (HS.out.eb g rfl).1, HGU.out.2.2, hOld g hgl HGU.out.1⟩
   · have hl := (hlt3 q hq).2
     rcases HB3.out q hq with h | h
     · exact ⟨Or.inl (HS.out.ub q h).1, (HS.out.ub q h).2⟩
     · exact ⟨Or.inr ⟨by omega, by omega⟩, by omega⟩
   · rcases hq with hq | hq
     · obtain ⟨q1, q2, q3, q4⟩ := HS.out.rows q (Or.inl hq)
       exact ⟨Or.inl q1, q2, q3, hOld q (HP.out q q1) q4⟩
     · have h1 := hq.of (O := fun k => W4.heap.size ≤ k) HYQ.out
       have h2 := HY5.out.ltN hq
       refine ⟨Or.inr ⟨by omega, by omega⟩, by omega, fun e => ?_, fun e => ?_⟩
       · have e2 : g = q := Option.some.inj e
         omega
       · have := (hlt3 q e).2
         omega
set_option maxHeartbeats 8000000 in
set_option maxRecDepth 100000 in
theorem redoP_any (P : Nat → Prop) (s : Nat) (A : Acv) (L U : List Ed) (w : World) (h : StP w P s A L U) (hP : ∀ g, P g → g < w.heap.size) :
 Calls Tryz.prog 12 #[.pointer (some ⟨s, 0, none⟩)] w fun e w' => RedoRet StP P s A L U w e w' := by
 have HST0 := Lib.hid h
 obtain ⟨hok, a, b, c, a', b', c', ca, cb, cc, ca', cb', cc', ve, vu, hst, hIA, hIZ, hOE, hOU, hS⟩ := id h
 rcases list_last U with rfl | ⟨V, x, rfl⟩
 · obtain ⟨av, cv, rfl, hcv, _, _⟩ := id hOU.row
   unfold spC at hst
   have z13 := st_cell hst (i := 13) rfl
   clear hok hst hIA hIZ hOE hOU hS hcv h hP
   go_enter Tryz.func12, Tryz.ntmps12
   go_wp2_with fail
   go_ret
   unfold RedoRet
   exact ⟨Kept.refl _ _, Or.inl ⟨rfl, rfl, HST0.out⟩⟩
 obtain ⟨g, cap, rfl, hOV, hcap, _⟩ := hOU.cutLast
 obtain ⟨n, hn⟩ : ∃ n, V.length = n := ⟨_, rfl⟩
 have hnb : n ≤ 200 := by
  have := hok.len
  rw [List.length_append, hn] at this
  omega
 have HN := Lib.hid hn
 rw [hn] at hst hOU hOV hS hcap
 obtain ⟨av, cv, rfl, hcv, _, _⟩ := id hOE.row
 obtain ⟨nl, hnl⟩ : ∃ n, L.length = n := ⟨_, rfl⟩
 have HNL := Lib.hid hnl
 rw [hnl] at hst hOE hS
 have HLB := Lib.hid (show nl ≤ 200 from by have := hok.len; omega)
 have hlast := hOU.lastCell hn
 have HOK := Lib.hid hok.redo
 have hxs : x.s.size ≤ maxLen := hok.tu x (List.mem_append.2 (Or.inr (List.mem_singleton.2 rfl)))
 have HP := Lib.hid hP
 have HS := Lib.hid hS
 have HSL := Lib.hid (lt_of_block hst)
 obtain ⟨Z, hZ⟩ : ∃ Z, nowA A L = Z := ⟨_, rfl⟩
 rw [hZ] at hst hIZ HS hS
 obtain ⟨Y, hY⟩ : ∃ Y, apZ Z x = Y := ⟨_, rfl⟩
 have HNX := Lib.hid (show nowA A (L ++ [x]) = Y by rw [nowA_snoc, hZ, hY])
 have HST := Lib.hid hst
 have HIA := Lib.hid hIA
 have HIZ := Lib.hid hIZ
 have HOV := Lib.hid hOV
 have HOE := Lib.hid hOE
 have HAP := Lib.hid (fun (X : World) (hX : ActIn X Z a' b' c') => apply_f x Z a' b' c' ca' cb' cc' X hX hxs)
 obtain ⟨er, her⟩ : ∃ e, apE Z x = e := ⟨_, rfl⟩
 rw [hY, her] at HAP
 obtain ⟨L1, hL1⟩ : ∃ M, L ++ [x] = M := ⟨_, rfl⟩
 have HL1 := Lib.hid hL1
 rw [hL1] at HOK HNX
 obtain ⟨kx, nx, fx, tx, sx⟩ := x
 unfold spC at hst
 have e0 : w.cell? ⟨g, n * 5, none⟩ = some (.int .i64 kx) := hlast 0 _ rfl
 have e1 : w.cell? ⟨g, n * 5 + 1, none⟩ = some (.int .i64 nx) := hlast 1 _ rfl
 have e2 : w.cell? ⟨g, n * 5 + 2, none⟩ = some (.int .i64 fx) := hlast 2 _ rfl
 have e3 : w.cell? ⟨g, n * 5 + 3, none⟩ = some (.int .i64 tx) := hlast 3 _ rfl
 have e4 : w.cell? ⟨g, n * 5 + 4, none⟩ = some (.string sx) := hlast 4 _ rfl
 have z13 := st_cell hst (i := 13) rfl
 have HEG := Lib.hid (show (Value.slice av nl cv).ownBlock ≠ some g ∧ (Value.slice av nl cv).ownBlock ≠ some s ∧ g ≠ s from ⟨fun e => (hS.eb g e).2.2 rfl, fun e => (hS.eb s e).2.1 rfl, (hS.ub g rfl).2⟩)
 have HEW := Lib.hid (show ∀ q, (Value.slice av nl cv).ownBlock = some q → q < w.heap.size ∧ q ≠ s from fun q hq => ⟨hP q (hS.eb q hq).1, (hS.eb q hq).2.1⟩)
 have q1 := last_i n hnb
 have hc1 : n ≤ cap := by omega
 have hc2 : decide (n ≤ cap) = true := by simpa using hc1
 have t1 : decide ((n : Int) < 0) = false := by rw [decide_eq_false_iff_not]; omega
 obtain ⟨V1, hV1, hb1, hs1, hl1⟩ := alloc_cells w #[.int .i64 kx, .int .i64 nx, .int .i64 fx, .int .i64 tx, .string sx] 36
 have HB1 := Lib.hid hb1
 have HS1 := Lib.hid hs1
 have x0 : V1.cell? ⟨w.heap.size, 0, none⟩ = some (.int .i64 kx) := hl1 0 _ rfl
 have x1 : V1.cell? ⟨w.heap.size, 1, none⟩ = some (.int .i64 nx) := hl1 1 _ rfl
 have x2 : V1.cell? ⟨w.heap.size, 2, none⟩ = some (.int .i64 fx) := hl1 2 _ rfl
 have x3 : V1.cell? ⟨w.heap.size, 3, none⟩ = some (.int .i64 tx) := hl1 3 _ rfl
 have x4 : V1.cell? ⟨w.heap.size, 4, none⟩ = some (.string sx) := hl1 4 _ rfl
 have hst1 := (hb1.block s HSL.out).trans HST.out
 obtain ⟨W2, hW2, hs2, hk2⟩ := st_vu hst1 (.slice (some ⟨g, 0, none⟩) n cap)
 have HS2 := Lib.hid hs2
 have HK2 := Lib.hid hk2
 have fr2 := st_free hst1
 unfold spC at hst1
 have m13 := st_cell (i := 13) hst1 rfl
 have hne : w.heap.size ≠ s := by have := HSL.out; omega
 have y0 := hk2.cell (p := ⟨w.heap.size, 0, none⟩) hne x0
 have y1 := hk2.cell (p := ⟨w.heap.size, 1, none⟩) hne x1
 have y2 := hk2.cell (p := ⟨w.heap.size, 2, none⟩) hne x2
 have y3 := hk2.cell (p := ⟨w.heap.size, 3, none⟩) hne x3
 have y4 := hk2.cell (p := ⟨w.heap.size, 4, none⟩) hne x4
 have HXC := Lib.hid (And.intro y0 (And.intro y1 (And.intro y2 (And.intro y3 y4))))
 have HIZ2 := Lib.hid ((HIZ.out.below hb1).keptN hk2 (fun q hq e => (HS.out.rows q (Or.inr hq)).2.1 e))
 have DAP := Lib.hid (fun X : Ext W2 => HAP.out X.1 (HIZ2.out.below X.2))
 unfold actV edV at DAP
 clear hok hst hIA hIZ hOE hOU hOV hS hlast hcap hcv hP h hn hnl hb1 hs1 hl1 hst1 hs2 hk2 x0 x1 x2 x3 x4 HAP her hxs hL1
 go_enter Tryz.func12, Tryz.ntmps12
 go_upto_region 5 with (fail)
 clear hV1 e0 e1 e2 e3 e4 z13
 go_upto_region 6 with (fail)
 clear hW2 fr2 m13
 have hs2 := HS2.out
 unfold spC at hs2
 have A6 := Ext.ex (st_cell hs2 (i := 6) rfl)
 have A7 := Ext.ex (st_cell hs2 (i := 7) rfl)
 have A8 := Ext.ex (st_cell hs2 (i := 8) rfl)
 have A9 := Ext.ex (st_cell hs2 (i := 9) rfl)
 have A10 := Ext.ex (st_cell hs2 (i := 10) rfl)
 have A11 := Ext.ex (st_cell hs2 (i := 11) rfl)
 have X0 := Ext.ex y0
 have X1 := Ext.ex y1
 have X2 := Ext.ex y2
 have X3 := Ext.ex y3
 have X4 := Ext.ex y4
 clear hs2 y0 y1 y2 y3 y4
 refine late_start (s := 12) (C := fun w' => ∃ Z : Ext W2, w' = Z.1) (by kernel_rfl) ?_
 obtain ⟨Z0, hZ0⟩ : ∃ Z : Ext W2, ({ W2 with drawn := W2.drawn + 1 } : World) = Z.1 := ⟨⟨{ W2 with drawn := W2.drawn + 1 }, ⟨rfl, rfl, rfl, Nat.le_refl _, fun _ _ => rfl⟩⟩, rfl⟩
 rw [hZ0]
 clear hZ0
 refine late_quiet (by kernel_rfl) (fun _ _ d _ _ h => by cases d <;> exact h) ⟨Z0, rfl⟩ [0, 1, 2, 3, 4, 5] 7 _ _ (by kernel_rfl) (by kernel_rfl) ?_
 change wpQuiet _ _ _ _ (_ :: _ :: _ :: _ :: _ :: _ :: []) _
 repeat go_big_quiet_step (fail)
 refine wpQuiet_nil ?_
 refine late_do (i := 6) _ rfl (by kernel_rfl) rfl (fun K hK => ?_)
 go_simp
 refine (DAP.out Z0).mono ?_
 rintro e w5 ⟨hb5, ya, yb, yc, yca, ycb, ycc, rfl, hy5, hyq⟩
 unfold actV
 obtain ⟨Z5, rfl⟩ : ∃ Z : Ext W2, w5 = Z.1 := ⟨⟨w5, below_step Z0.2 hb5⟩, rfl⟩
 have HY5 := Lib.hid hy5
 have HYQ := Lib.hid (fun q hq => Nat.le_trans Z0.2.size (hyq q hq))
 clear hb5 hy5 hyq
 refine hK _ _ (fun _ => ⟨Z5, rfl⟩) ?_
 clear hK K
 try simp only [Act.put, List.setIfInBounds_toArray, List.set_cons_zero, List.set_cons_succ]
 refine late_quiet (by kernel_rfl) (fun _ _ d _ _ h => by cases d <;> exact h) ⟨Z5, rfl⟩ [7, 8] 4 _ _ (by kernel_rfl) (by kernel_rfl) ?_
 change wpQuiet _ _ _ _ (_ :: _ :: []) _
 repeat go_big_quiet_step (fail)
 refine wpQuiet_nil ?_
 refine late_free (by kernel_rfl) (fun _ _ d _ _ h => by cases d <;> exact h) (Or.inr ⟨Z5, rfl⟩) [9, 10, 11] 1 _ (by kernel_rfl) (by kernel_rfl) ?_
 change wpQuiet _ _ _ _ (_ :: _ :: _ :: []) _
 repeat go_big_quiet_step (fail)
 refine wpQuiet_nil ?_
 have hs5 := (Z5.2.block s (lt_of_block HS2.out)).trans HS2.out
 obtain ⟨W6, hW6, hs6, hk6⟩ := st_now hs5 Y ya yb yc yca ycb ycc
 have HS6 := Lib.hid hs6
 have HK6 := Lib.hid hk6
 have frF := st_free hs5
 unfold spC at hs5
 have m6 := st_cell (i := 6) hs5 rfl
 have m7 := st_cell (i := 7) hs5 rfl
 have m8 := st_cell (i := 8) hs5 rfl
 have m9 := st_cell (i := 9) hs5 rfl
 have m10 := st_cell (i := 10) hs5 rfl
 have m11 := st_cell (i := 11) hs5 rfl
 clear hs5 hs6 hk6
 refine late_do (i := 12) _ rfl (by kernel_rfl) rfl (fun K hK => ?_)
 go_simp
 refine hK _ _ (fun h => nomatch (show true = false from h)) ?_
 clear hK K
 try simp only [Act.put, List.setIfInBounds_toArray, List.set_cons_zero, List.set_cons_succ]
 clear hW6 frF m6 m7 m8 m9 m10 m11
 refine late_done (by kernel_rfl) ?_ _
 have HSZ6 := Lib.hid (show w.heap.size + 1 ≤ W6.heap.size from by have h1 := HS1.out; have h2 := HK2.out.size; have h3 := Z5.2.size; have h4 := HK6.out.size; omega)
 have hne6 : ∀ q, (Value.slice av nl cv).ownBlock = some q → q ≠ w.heap.size := fun q hq => by have := (HEW.out q hq).1; omega
 have hs6 := HS6.out
 unfold spC at hs6
 have x0 : W6.cell? ⟨w.heap.size, 0, none⟩ = some (.int .i64 kx) := HK6.out.cell (p := ⟨w.heap.size, 0, none⟩) (by have := HSL.out; omega) (X0 Z5)
 have E0 := ExtO.cell (O := fun b => (Value.slice av nl cv).ownBlock = some b) (fun e => hne6 _ e rfl) x0
 have x1 : W6.cell? ⟨w.heap.size, 1, none⟩ = some (.int .i64 nx) := HK6.out.cell (p := ⟨w.heap.size, 1, none⟩) (by have := HSL.out; omega) (X1 Z5)
 have E1 := ExtO.cell (O := fun b => (Value.slice av nl cv).ownBlock = some b) (fun e => hne6 _ e rfl) x1
 have x2 : W6.cell? ⟨w.heap.size, 2, none⟩ = some (.int .i64 fx) := HK6.out.cell (p := ⟨w.heap.size, 2, none⟩) (by have := HSL.out; omega) (X2 Z5)
 have E2 := ExtO.cell (O := fun b => (Value.slice av nl cv).ownBlock = some b) (fun e => hne6 _ e rfl) x2
 have x3 : W6.cell? ⟨w.heap.size, 3, none⟩ = some (.int .i64 tx) := HK6.out.cell (p := ⟨w.heap.size, 3, none⟩) (by have := HSL.out; omega) (X3 Z5)
 have E3 := ExtO.cell (O := fun b => (Value.slice av nl cv).ownBlock = some b) (fun e => hne6 _ e rfl) x3
 have x4 : W6.cell? ⟨w.heap.size, 4, none⟩ = some (.string sx) := HK6.out.cell (p := ⟨w.heap.size, 4, none⟩) (by have := HSL.out; omega) (X4 Z5)
 have E4 := ExtO.cell (O := fun b => (Value.slice av nl cv).ownBlock = some b) (fun e => hne6 _ e rfl) x4
 have E12 := ExtO.cell (O := fun b => (Value.slice av nl cv).ownBlock = some b) (fun e => (HEW.out _ e).2 rfl) (st_cell hs6 (i := 12) rfl)
 have HOE6 := Lib.hid (show EdOwn W6 0 (.slice av nl cv) L from ((((HOE.out.below HB1.out).keptO HK2.out (fun q hq e => (HEW.out q hq).2 e)).below Z5.2).keptO HK6.out (fun q hq e => (HEW.out q hq).2 e)))
 clear X0 X1 X2 X3 X4 A6 A7 A8 A9 A10 A11 x0 x1 x2 x3 x4 hs6 hne6 DAP
 go_upto_region 7 with (fail)
 refine late_start (s := 10) (C := fun w' => ∃ Z : ExtO (fun b => (Value.slice av nl cv).ownBlock = some b) W6, w' = Z.1) (by kernel_rfl) ?_
 obtain ⟨Z0, hZ0⟩ : ∃ Z : ExtO (fun b => (Value.slice av nl cv).ownBlock = some b) W6, ({ W6 with drawn := W6.drawn + 1 } : World) = Z.1 := ⟨⟨{ W6 with drawn := W6.drawn + 1 }, ⟨rfl, rfl, rfl, Nat.le_refl _, fun _ _ _ => rfl⟩⟩, rfl⟩
 rw [hZ0]
 have HO0 := Lib.hid (show EdOwn Z0.1 0 (.slice av nl cv) L from hZ0 ▸ (show EdOwn { W6 with drawn := W6.drawn + 1 } 0 (.slice av nl cv) L from (show EdOwn W6 0 (.slice av nl cv) L from HOE6.out)))
 clear hZ0
 refine late_quiet (by kernel_rfl) (fun _ _ d _ _ h => by cases d <;> exact h) ⟨Z0, rfl⟩ [0, 1, 2, 3, 4, 5] 5 _ _ (by kernel_rfl) (by kernel_rfl) ?_
 change wpQuiet _ _ _ _ (_ :: _ :: _ :: _ :: _ :: _ :: []) _
 repeat go_big_quiet_step (fail)
 refine wpQuiet_nil ?_
 refine late_do (i := 6) _ rfl (by kernel_rfl) rfl (fun K hK => ?_)
 go_simp
 obtain ⟨W9, hW9, hwb9, hws9, hwl9⟩ := alloc_cells Z0.1 #[.int .i64 kx, .int .i64 nx, .int .i64 fx, .int .i64 tx, .string sx] 36
 rw [hW9]
 have HO1 := Lib.hid (HO0.out.below hwb9)
 have HZ0 := Lib.hid Z0.2.size
 obtain ⟨Z1, rfl⟩ : ∃ Z : ExtO (fun b => (Value.slice av nl cv).ownBlock = some b) W6, W9 = Z.1 := ⟨⟨W9, Z0.2.trans (Kept.of_below hwb9)⟩, rfl⟩
 have HWL := Lib.hid (fun j u (hj : (edC ⟨kx, nx, fx, tx, sx⟩)[j]? = some u) => show Z1.1.cell? ⟨Z0.1.heap.size, j, none⟩ = some u from hwl9 j u (by rw [← hj]; unfold edC; simp))
 have HZS := Lib.hid hws9
 clear hW9 hwb9 hws9 hwl9
 refine hK _ _ (fun _ => ⟨Z1, rfl⟩) ?_
 clear hK K
 try simp only [Act.put, List.setIfInBounds_toArray, List.set_cons_zero, List.set_cons_succ]
 refine late_do (i := 7) _ rfl (by kernel_rfl) rfl (fun K hK => ?_)
 refine wp_append_ed (.tmp 45) (.tmp 47) rfl rfl HO1.out rfl HWL.out (by have := HLB.out; rw [HNL.out]; omega) (fun a3 n3 c3 w3 ho3 hn3 hg3 hb3 => ?_)
 obtain ⟨Z2, rfl⟩ : ∃ Z : ExtO (fun b => (Value.slice av nl cv).ownBlock = some b) W6, w3 = Z.1 := ⟨⟨w3, Z1.2.trans (Kept.of_grown hg3 (fun g e _ => e))⟩, rfl⟩
 rw [HL1.out] at ho3
 have HO3 := Lib.hid ho3
 have HB3 := Lib.hid hb3
 have HZ12 := Lib.hid hg3.size
 refine hK _ _ (fun _ => ⟨Z2, rfl⟩) ?_
 clear hK K ho3 hg3 hb3 hn3 HO0 HO1
 try simp only [Act.put, List.setIfInBounds_toArray, List.set_cons_zero, List.set_cons_succ]
 refine late_free (by kernel_rfl) (fun _ _ d _ _ h => by cases d <;> exact h) (Or.inr ⟨Z2, rfl⟩) [8, 9] 1 _ (by kernel_rfl) (by kernel_rfl) ?_
 change wpQuiet _ _ _ _ (_ :: _ :: []) _
 repeat go_big_quiet_step (fail)
 refine wpQuiet_nil ?_
 have hs7 := (Z2.2.block s (lt_of_block HS6.out) (fun e => (HEW.out _ e).2 rfl)).trans HS6.out
 obtain ⟨WF, hWF, hsF, hkF⟩ := st_ve hs7 (.slice a3 n3 c3)
 have HSF := Lib.hid hsF
 have HKF := Lib.hid hkF
 have frF := st_free hs7
 unfold spC at hs7
 have m12 := st_cell (i := 12) hs7 rfl
 clear hs7 hsF hkF
 refine late_do (i := 10) _ rfl (by kernel_rfl) rfl (fun K hK => ?_)
 go_simp
 refine hK _ _ (fun h => nomatch (show true = false from h)) ?_
 clear hK K
 try simp only [Act.put, List.setIfInBounds_toArray, List.set_cons_zero, List.set_cons_succ]
 clear hWF frF m12
 refine late_done (by kernel_rfl) ?_ _
 go_wp2_with fail
 go_ret
 have h1 := HS1.out
 have h2 := HK2.out.size
 have h3 := Z5.2.size
 have h4 := HK6.out.size
 have h5 := HZ0.out
 have h6 := HZ12.out
 have h7 := HZS.out
 have h8 := HKF.out.size
 have hsl := HSL.out
 have hgl : g < w.heap.size := HP.out g (HS.out.ub g rfl).1
 have hK7 : Kept (fun b => (Value.slice av nl cv).ownBlock = some b) W6 Z2.1 := Z2.2
 have hlt3 := HO3.out.lt
 have hE : EdOwn WF 0 (.slice a3 n3 c3) L1 := HO3.out.keptO HKF.out (fun q hq e => by
  rcases HB3.out q hq with h | h
  · exact (HEW.out q h).2 e
  · omega)
 have hOld : ∀ q, q < W6.heap.size → (Value.slice av nl cv).ownBlock ≠ some q → (Value.slice a3 n3 c3).ownBlock ≠ some q := fun q hq hne e => by
  rcases HB3.out q e with h | h
  · exact hne h
  · omega
 have hV : EdOwn WF 0 (.slice (some ⟨g, 0, none⟩) n cap) V := (((((HOV.out.below HB1.out).keptO HK2.out (fun q hq e => by cases hq; exact HEG.out.2.2 e)).below Z5.2).keptO HK6.out (fun q hq e => by cases hq; exact HEG.out.2.2 e)).keptO hK7 (fun q hq e => by cases hq; exact HEG.out.1 e)).keptO HKF.out (fun q hq e => by cases hq; exact HEG.out.2.2 e)
 have hIAF : ActIn WF A a b c := (((((HIA.out.below HB1.out).keptN HK2.out (fun q hq e => (HS.out.rows q (Or.inl hq)).2.1 e)).below Z5.2).keptN HK6.out (fun q hq e => (HS.out.rows q (Or.inl hq)).2.1 e)).keptN hK7 (fun q hq e => (HS.out.rows q (Or.inl hq)).2.2.1 e)).keptN HKF.out (fun q hq e => (HS.out.rows q (Or.inl hq)).2.1 e)
 have hrow : ∀ q, RowOf Y ya yb yc q → W2.heap.size ≤ q ∧ q < Z5.1.heap.size := fun q hq => ⟨hq.of (O := fun k => W2.heap.size ≤ k) HYQ.out, HY5.out.ltN hq⟩
 have hIYF : ActIn WF Y ya yb yc := ((HY5.out.keptN HK6.out (fun q hq e => by have := (hrow q hq).1; omega)).keptN hK7 (fun q hq e => by have := (hrow q hq).1; have := (HEW.out q e).1; omega)).keptN HKF.out (fun q hq e => by have := (hrow q hq).1; omega)
 unfold RedoRet
 refine ⟨?_, Or.inr ⟨V, ⟨kx, nx, fx, tx, sx⟩, rfl, rfl, ?_⟩⟩
 · have hs : ∀ q, q = s → P q := fun q hq => by subst hq; exact HS.out.st
   have k1 : Kept P w W6 := (Kept.of_below HB1.out).trans ((HK2.out.wide hs).trans ((Kept.of_below Z5.2).trans (HK6.out.wide hs)))
   exact k1.trans ((hK7.wide (fun q hq => (HS.out.eb q hq).1)).trans (HKF.out.wide hs))
 · rw [HL1.out]
   refine ⟨HOK.out, a, b, c, ya, yb, yc, ca, cb, cc, yca, ycb, ycc, .slice a3 n3 c3, .slice (some ⟨g, 0, none⟩) n cap, by rw [HNX.out]; exact HSF.out, hIAF, by rw [HNX.out]; exact hIYF, hE, hV, ?_⟩
   rw [HNX.out]
   refine ⟨Or.inl HS.out.st, fun q hq => ?_, fun q hq => ?_, fun q hq => ?_⟩
   · have hl := (hlt3 q hq).2
     have hgq : ¬ (Value.slice (some ⟨g, 0, none⟩) n cap).ownBlock = some q := fun e => by
      have e2 : g = q := Option.some.inj e
      subst e2
      exact hOld g (by omega) HEG.out.1 hq
     rcases HB3.out q hq with h | h
     · exact ⟨Or.inl (HS.out.eb q h).1, (HEW.out q h).2, hgq⟩
     · exact ⟨Or.inr ⟨by omega, by omega⟩, by omega, hgq⟩
   · have e2 : g = q := Option.some.inj hq
     subst e2
     exact ⟨Or.inl (HS.out.ub g rfl).1, HEG.out.2.2⟩
   · rcases hq with hq | hq
     · obtain ⟨q1, q2, q3, q4⟩ := HS.out.rows q (Or.inl hq)
       exact ⟨Or.inl q1, q2, hOld q (by have := HP.out q q1; omega) q3, q4⟩
     · obtain ⟨r1, r2⟩ := hrow q hq
       refine ⟨Or.inr ⟨by omega, by omega⟩, by omega, hOld q (by omega) (fun e => by have := (HEW.out q e).1; omega), fun e => ?_⟩
       have e2 : g = q := Option.some.inj e
       omega
end Go.Proofs.YtgdepcnfjmobjaaGreat

/- A text of this claim. -/
namespace Go.Proofs.YtgdepcnfjmobjaaGreat
open Go.RowKit Go.BigFrame
open Tr (inR Ed)
def ViewRet (Z : Acv) (w : World) (e : Ending) (w' : World) : Prop :=
 Below w.heap.size w w' ∧ ∃ a b c ca cb cc, e = .returned (actV Z a b c ca cb cc) ∧ ActIn w' Z a b c
theorem own3_in {w : World} {base : Nat} {A : Acv} {a b c : Option Addr} {ca cb cc : Nat} (h : Own3 w base A (.slice a A.sm.length ca) (.slice b A.lp.length cb) (.slice c A.tg.length cc)) (ht : ActText A) (hl : A.sm.length ≤ 20000 ∧ A.lp.length ≤ 200 ∧ A.tg.length ≤ 20) :
 ActIn w A a b c ∧ ∀ q, (a = some q ∨ b = some q ∨ c = some q) → base ≤ q.block := by
 obtain ⟨B1, B2, hB1, hB2, h1, _, h2, _, h3⟩ := h.ex
 obtain ⟨_, _, e1, k1, r1, q1⟩ := h1.row smEl
 obtain ⟨_, _, e2, k2, r2, q2⟩ := h2.row lpEl
 obtain ⟨_, _, e3, k3, r3, q3⟩ := h3.row tgEl
 injection e1 with e1 _ _
 injection e2 with e2 _ _
 injection e3 with e3 _ _
 subst e1 e2 e3
 refine ⟨⟨r1, r2, r3, ht.name, ht.titles, ht.tags, by omega, by omega, by omega⟩, fun q hq => ?_⟩
 rcases hq with hq | hq | hq
 · exact (q1 q hq).1
 · exact Nat.le_trans hB1 (q2 q hq).1
 · exact Nat.le_trans hB1 (Nat.le_trans hB2 (q3 q hq).1)
set_option maxHeartbeats 8000000 in
set_option maxRecDepth 100000 in
theorem nowP_any (P : Nat → Prop) (s : Nat) (A : Acv) (L U : List Ed) (w : World) (h : StP w P s A L U) :
 Calls Tryz.prog 9 #[.pointer (some ⟨s, 0, none⟩)] w fun e w' => ViewRet (nowA A L) w e w' := by
 obtain ⟨hok, a, b, c, a', b', c', ca, cb, cc, ca', cb', cc', ve, vu, hst, hIA, hIZ, hOE, hOU, hS⟩ := h
 have hln := nowA_len hok.chk L
 generalize nowA A L = Z at hst hIZ hS hln ⊢
 obtain ⟨V1, hV1, hb1, hs1, ha1⟩ := alloc_ac w ⟨#[]⟩ 0 0 (.slice none 0 0) (.slice none 0 0) (.slice none 0 0)
 have HB1 := Lib.hid hb1
 have HA1 := Lib.hid ha1
 have hst1 := (hb1.block s (lt_of_block hst)).trans hst
 have DCL := Lib.hid (show Calls Tryz.prog 15 #[.agg #[.string Z.name, .int .i64 Z.sport, .int .i64 Z.start, .slice a' Z.sm.length ca', .slice b' Z.lp.length cb', .slice c' Z.tg.length cc']] V1 fun e w'' => CloneRet Z V1 e w'' from by
  have h := cloneA_any Z a' b' c' ca' cb' cc' V1 (hIZ.below hb1) (by omega) (by omega) (by omega)
  unfold actV at h
  exact h)
 have HTX := Lib.hid hIZ.text
 have HLN := Lib.hid hln
 unfold spC at hst1
 have z0 := st_cell hst1 (i := 6) rfl
 have z1 := st_cell hst1 (i := 7) rfl
 have z2 := st_cell hst1 (i := 8) rfl
 have z3 := st_cell hst1 (i := 9) rfl
 have z4 := st_cell hst1 (i := 10) rfl
 have z5 := st_cell hst1 (i := 11) rfl
 clear hok hst hst1 hIA hIZ hOE hOU hS hb1 hs1 ha1 hln
 go_enter Tryz.func9, Tryz.ntmps9
 go_upto_region 1 with (fail)
 clear hV1
 go_wp2_with fail
 refine (DCL.out).mono ?_
 unfold CloneRet
 rintro e w2 ⟨⟨a1, b1, c1, ca1, cb1, cc1, rfl, ho2⟩, hb2⟩
 unfold actV
 have hI2 : ActIn w2 Z a1 b1 c1 ∧ ∀ q, (a1 = some q ∨ b1 = some q ∨ c1 = some q) → V1.heap.size ≤ q.block := own3_in ho2 HTX.out HLN.out
 have hR := HA1.out.below hb2
 obtain ⟨r0, r1, r2, r3, r4, r5⟩ := hR.cell
 have fr := hR.free
 obtain ⟨WF, hWF, haF, hkF⟩ := hR.store Z.name Z.sport Z.start (.slice a1 Z.sm.length ca1) (.slice b1 Z.lp.length cb1) (.slice c1 Z.tg.length cc1)
 have hkF' := hkF (fun q => q = w.heap.size) rfl
 have HAF := Lib.hid haF
 have HBF := Lib.hid (show Below w.heap.size w WF from Below.of_kept (below_step HB1.out hb2) hkF' (fun k hk e => by omega))
 have HIF := Lib.hid (hI2.1.kept hkF' (fun q hq e => by have := hI2.2 q hq; have := HA1.out.lt; omega))
 clear hI2 hR haF hkF hkF' ho2 hb2 DCL z0 z1 z2 z3 z4 z5
 go_wp2_with fail
 have q := HAF.out.cell
 exact bodyPost_ret (v := .agg #[.string Z.name, .int .i64 Z.sport, .int .i64 Z.start, .slice a1 Z.sm.length ca1, .slice b1 Z.lp.length cb1, .slice c1 Z.tg.length cc1]) (by simp [results, Tryz.results9, go_sem, q]) rfl (by unfold ViewRet; exact ⟨HBF.out, a1, b1, c1, ca1, cb1, cc1, rfl, HIF.out⟩)
set_option maxHeartbeats 8000000 in
set_option maxRecDepth 100000 in
theorem firstP_any (P : Nat → Prop) (s : Nat) (A : Acv) (L U : List Ed) (w : World) (h : StP w P s A L U) :
 Calls Tryz.prog 11 #[.pointer (some ⟨s, 0, none⟩)] w fun e w' => ViewRet A w e w' := by
 obtain ⟨hok, a, b, c, a', b', c', ca, cb, cc, ca', cb', cc', ve, vu, hst, hIA, hIZ, hOE, hOU, hS⟩ := h
 have hln : A.sm.length ≤ 20000 ∧ A.lp.length ≤ 200 ∧ A.tg.length ≤ 20 := nowA_len hok.chk []
 generalize nowA A L = Z0 at hst hIZ hS
 obtain ⟨V1, hV1, hb1, hs1, ha1⟩ := alloc_ac w ⟨#[]⟩ 0 0 (.slice none 0 0) (.slice none 0 0) (.slice none 0 0)
 have HB1 := Lib.hid hb1
 have HA1 := Lib.hid ha1
 have hst1 := (hb1.block s (lt_of_block hst)).trans hst
 have DCL := Lib.hid (show Calls Tryz.prog 15 #[.agg #[.string A.name, .int .i64 A.sport, .int .i64 A.start, .slice a A.sm.length ca, .slice b A.lp.length cb, .slice c A.tg.length cc]] V1 fun e w'' => CloneRet A V1 e w'' from by
  have h := cloneA_any A a b c ca cb cc V1 (hIA.below hb1) (by omega) (by omega) (by omega)
  unfold actV at h
  exact h)
 have HTX := Lib.hid hIA.text
 have HLN := Lib.hid hln
 unfold spC at hst1
 have z0 := st_cell hst1 (i := 0) rfl
 have z1 := st_cell hst1 (i := 1) rfl
 have z2 := st_cell hst1 (i := 2) rfl
 have z3 := st_cell hst1 (i := 3) rfl
 have z4 := st_cell hst1 (i := 4) rfl
 have z5 := st_cell hst1 (i := 5) rfl
 clear hok hst hst1 hIA hIZ hOE hOU hS hb1 hs1 ha1 hln
 go_enter Tryz.func11, Tryz.ntmps11
 go_upto_region 1 with (fail)
 clear hV1
 go_wp2_with fail
 refine (DCL.out).mono ?_
 unfold CloneRet
 rintro e w2 ⟨⟨a1, b1, c1, ca1, cb1, cc1, rfl, ho2⟩, hb2⟩
 unfold actV
 have hI2 : ActIn w2 A a1 b1 c1 ∧ ∀ q, (a1 = some q ∨ b1 = some q ∨ c1 = some q) → V1.heap.size ≤ q.block := own3_in ho2 HTX.out HLN.out
 have hR := HA1.out.below hb2
 obtain ⟨r0, r1, r2, r3, r4, r5⟩ := hR.cell
 have fr := hR.free
 obtain ⟨WF, hWF, haF, hkF⟩ := hR.store A.name A.sport A.start (.slice a1 A.sm.length ca1) (.slice b1 A.lp.length cb1) (.slice c1 A.tg.length cc1)
 have hkF' := hkF (fun q => q = w.heap.size) rfl
 have HAF := Lib.hid haF
 have HBF := Lib.hid (show Below w.heap.size w WF from Below.of_kept (below_step HB1.out hb2) hkF' (fun k hk e => by omega))
 have HIF := Lib.hid (hI2.1.kept hkF' (fun q hq e => by have := hI2.2 q hq; have := HA1.out.lt; omega))
 clear hI2 hR haF hkF hkF' ho2 hb2 DCL z0 z1 z2 z3 z4 z5
 go_wp2_with fail
 have q := HAF.out.cell
 exact bodyPost_ret (v := .agg #[.string A.name, .int .i64 A.sport, .int .i64 A.start, .slice a1 A.sm.length ca1, .slice b1 A.lp.length cb1, .slice c1 A.tg.length cc1]) (by simp [results, Tryz.results11, go_sem, q]) rfl (by unfold ViewRet; exact ⟨HBF.out, a1, b1, c1, ca1, cb1, cc1, rfl, HIF.out⟩)
theorem nowA_take (A : Acv) (L : List Ed) (k : Nat) (x : Ed) (hx : L[k]? = some x) : nowA A (L.take (k + 1)) = apZ (nowA A (L.take k)) x := by
 rw [List.take_add_one, hx]
 exact nowA_snoc A _ x
end Go.Proofs.YtgdepcnfjmobjaaGreat

/- A text of this claim. -/
namespace Go.Proofs.YtgdepcnfjmobjaaGreat
open Go.RowKit Go.BigFrame
open Tr (inR Ed)
end Go.Proofs.YtgdepcnfjmobjaaGreat

/- What the laws of harriertop tell besides. -/
namespace Go.Proofs.YtgdepcnfjmobjaaGreat
open Go.RowKit Go.BigFrame

theorem hTold_any (w : World) : Calls Tryz.prog 6 #[] w fun e w' => e = .returned (.bool true) ∧ Below w.heap.size w w' := by
  have D1 := Lib.hid (show Calls Tryz.prog 17 #[.int .i64 (-7), .int .i64 2, .int .i64 5] w fun e w' => e = .returned (.tuple #[.int .i64 (-4), .int .i64 0]) ∧ Below w.heap.size w w' from by
    have h := div_any (-7) 2 5 w (by decide) (by decide) (by decide)
    have e : scRet (Sc.sc (-7) 1 2 5) = .returned (.tuple #[.int .i64 (-4), .int .i64 0]) := by kernel_rfl
    rw [e] at h
    exact h)
  have e1 : nameB ⟨#[97, 46, 66, 45, 49]⟩ = true := by kernel_rfl
  have e2 : nameB ⟨#[]⟩ = false := by kernel_rfl
  have D2 := Lib.hid (fun W => isName_any ⟨#[97, 46, 66, 45, 49]⟩ W (by decide))
  have D3 := Lib.hid (fun W => isName_any ⟨#[]⟩ W (by decide))
  rw [e1] at D2
  rw [e2] at D3
  clear e1 e2
  go_enter Tryz.func6, Tryz.ntmps6
  go_wp2_with fail
  refine (D1.out).mono ?_
  rintro e w1 ⟨rfl, hb1⟩
  have HB1 := Lib.hid hb1
  clear hb1
  go_wp2_with fail
  refine (D2.out _).mono ?_
  rintro e w2 ⟨rfl, rfl⟩
  go_wp2_with fail
  refine (D3.out _).mono ?_
  rintro e w3 ⟨rfl, rfl⟩
  go_wp2_with fail
  go_ret
  exact ⟨rfl, HB1.out⟩
end Go.Proofs.YtgdepcnfjmobjaaGreat

/- The law TopEditsGoBack, walked. (printed by wip/t/gen_tqv.py) -/
namespace Go.Proofs.YtgdepcnfjmobjaaGreat
open Go.RowKit Go.BigFrame
open Tr (inR Ed)

/-- the story in a world that comes behind W1: its blocks are those of O, or new -/
structure One (O : Nat → Prop) (W1 w : World) (P : Nat → Prop) (s : Nat) (A : Acv) (L U : List Ed) : Prop where
  st : StP w P s A L U
  inP : ∀ g, P g → (O g ∨ W1.heap.size ≤ g) ∧ g < w.heap.size
theorem One.below {O : Nat → Prop} {W1 w w' : World} {P : Nat → Prop} {s : Nat} {A : Acv} {L U : List Ed} (h : One O W1 w P s A L U) (hb : Below w.heap.size w w') : One O W1 w' P s A L U :=
  ⟨h.st.kept (O := fun _ => False) (Kept.of_below hb) (fun _ _ e => e), fun g hg => ⟨(h.inP g hg).1, Nat.lt_of_lt_of_le (h.inP g hg).2 hb.size⟩⟩
theorem One.go {O : Nat → Prop} {W1 w w' : World} {P P1 : Nat → Prop} {s : Nat} {A : Acv} {L U L' U' : List Ed} (h : One O W1 w P s A L U) (hX : Kept O W1 w) (hk : Kept P w w') (hp : StP w' P1 s A L' U') (hP1 : ∀ g, P1 g → Wider P w w' g) :
    One O W1 w' P1 s A L' U' ∧ Kept O W1 w' := by
  refine ⟨⟨hp, fun g hg => ?_⟩, ⟨hk.os.trans hX.os, hk.tape.trans hX.tape, hk.output.trans hX.output, Nat.le_trans hX.size hk.size, fun k hk1 ho => ?_⟩⟩
  · rcases hP1 g hg with hg | hg
    · exact ⟨(h.inP g hg).1, Nat.lt_of_lt_of_le (h.inP g hg).2 hk.size⟩
    · exact ⟨Or.inr (Nat.le_trans hX.size hg.1), hg.2⟩
  · refine (hk.block k (Nat.lt_of_lt_of_le hk1 hX.size) (fun e => ?_)).trans (hX.block k hk1 ho)
    rcases (h.inP k e).1 with e | e
    · exact ho e
    · omega
theorem DoRet.at {P : Nat → Prop} {s : Nat} {A : Acv} {L U : List Ed} {x : Ed} {w : World} {e : Ending} {w' : World} (h : DoRet StP P s A L U x w e w') (h0 : doE A L x = 0) :
    Kept P w w' ∧ e = .returned (.int .i64 0) ∧ ∃ P1, (∀ g, P1 g → Wider P w w' g) ∧ StP w' P1 s A (L ++ [x]) [] := by
  obtain ⟨h1, h2, h3⟩ := h
  rw [h0] at h2
  rcases h3 with ⟨k, _⟩ | ⟨_, h3⟩
  · exact absurd h0 k
  · exact ⟨h1, h2, _, fun g hg => hg, h3⟩
theorem UndoRet.none {P : Nat → Prop} {s : Nat} {A : Acv} {U : List Ed} {w : World} {e : Ending} {w' : World} (h : UndoRet StP P s A [] U w e w') : Kept P w w' ∧ e = .returned (.bool false) ∧ ∃ P1, (∀ g, P1 g → Wider P w w' g) ∧ StP w' P1 s A [] U := by
  obtain ⟨h1, ⟨_, h2, h3⟩ | ⟨M, x, h2, _⟩⟩ := h
  · exact ⟨h1, h2, P, fun g hg => Or.inl hg, h3⟩
  · exact absurd h2 (by simp)
theorem UndoRet.some {P : Nat → Prop} {s : Nat} {A : Acv} {M U : List Ed} {x : Ed} {w : World} {e : Ending} {w' : World} (h : UndoRet StP P s A (M ++ [x]) U w e w') : Kept P w w' ∧ e = .returned (.bool true) ∧ ∃ P1, (∀ g, P1 g → Wider P w w' g) ∧ StP w' P1 s A M (U ++ [x]) := by
  obtain ⟨h1, ⟨h2, _⟩ | ⟨M', x', h2, h3, h4⟩⟩ := h
  · exact absurd h2 (by simp)
  · obtain ⟨rfl, rfl⟩ := List.append_singleton_inj.1 h2
    exact ⟨h1, h3, _, fun g hg => hg, h4⟩
theorem RedoRet.none {P : Nat → Prop} {s : Nat} {A : Acv} {L : List Ed} {w : World} {e : Ending} {w' : World} (h : RedoRet StP P s A L [] w e w') : Kept P w w' ∧ e = .returned (.bool false) ∧ ∃ P1, (∀ g, P1 g → Wider P w w' g) ∧ StP w' P1 s A L [] := by
  obtain ⟨h1, ⟨_, h2, h3⟩ | ⟨M, x, h2, _⟩⟩ := h
  · exact ⟨h1, h2, P, fun g hg => Or.inl hg, h3⟩
  · exact absurd h2 (by simp)
theorem RedoRet.some {P : Nat → Prop} {s : Nat} {A : Acv} {L V : List Ed} {x : Ed} {w : World} {e : Ending} {w' : World} (h : RedoRet StP P s A L (V ++ [x]) w e w') : Kept P w w' ∧ e = .returned (.bool true) ∧ ∃ P1, (∀ g, P1 g → Wider P w w' g) ∧ StP w' P1 s A (L ++ [x]) V := by
  obtain ⟨h1, ⟨h2, _⟩ | ⟨M', x', h2, h3, h4⟩⟩ := h
  · exact absurd h2 (by simp)
  · obtain ⟨rfl, rfl⟩ := List.append_singleton_inj.1 h2
    exact ⟨h1, h3, _, fun g hg => hg, h4⟩
theorem allR_at : ∀ (l : List Ed) (A : Acv) (i : Nat), (allR A l i).2.2 = 0 → ∀ k x, l[k]? = some x → apE (nowA A (l.take k)) x = 0
  | [], _, _, _, k, x, h => by simp at h
  | y :: l, A, i, h, k, x, hx => by
    rw [allR] at h
    by_cases h0 : apE A y = 0
    · rw [if_pos h0] at h
      cases k with
      | zero => injection hx with hx; subst hx; exact h0
      | succ k => exact allR_at l (apZ A y) (i + 1) h k x hx
    · rw [if_neg h0] at h
      exact absurd h h0
theorem do_fine {A : Acv} {l : List Ed} (h : (allQ A l).2.2 = 0) {k : Nat} {x : Ed} (hx : l[k]? = some x) : doE A (l.take k) x = 0 := by
  obtain ⟨h0, hl, e⟩ := allQ_fine h
  rw [e] at h
  refine doE_ok (allR_at l A 0 h k x hx) ?_
  have := (List.getElem?_eq_some_iff.1 hx).1
  rw [List.length_take]
  omega
theorem text_united (x y : Ed) (m : List Ed) (_ : x.s.size ≤ maxLen) (hy : y.s.size ≤ maxLen) (h : Tr.united x y = some m) : ∀ z, z ∈ m → z.s.size ≤ maxLen := by
  unfold Tr.united at h
  repeat' split at h
  all_goals first
    | (cases h; done)
    | (injection h with h
       subst h
       intro z hz
       first
         | (cases hz; done)
         | (rw [List.mem_singleton.1 hz]; exact hy))
theorem tidyL_text {l : List Ed} (h : ∀ x, x ∈ l → x.s.size ≤ maxLen) : ∀ x, x ∈ Tr.tidyL l → x.s.size ≤ maxLen := by
  have g : ∀ (f : Nat) (l : List Ed), (∀ x, x ∈ l → x.s.size ≤ maxLen) → ∀ x, x ∈ Tr.tidy f l → x.s.size ≤ maxLen := fun f => by
    induction f with
    | zero => exact fun l h => h
    | succ f ih =>
      intro l hl
      rw [Tr.tidy]
      cases hs : Tr.step l with
      | none => exact hl
      | some m => exact ih m (Tr.step_all text_united hs hl)
  exact g _ l h
theorem chkEL_fine {A : Acv} {l : List Ed} (h : (allQ A l).2.2 = 0) : chkEL l = 0 := by
  obtain ⟨_, hl, e⟩ := allQ_fine h
  rw [e] at h
  obtain ⟨_, _, a3⟩ := allR_keeps l A 0 h
  unfold chkEL
  rw [if_neg (by omega)]
  exact chkEs_zero.2 a3
theorem rev_drop (l : List Ed) {m : Nat} {x : Ed} (hx : l[m]? = some x) : (l.drop m).reverse = (l.drop (m + 1)).reverse ++ [x] := by
  obtain ⟨h1, e1⟩ := List.getElem?_eq_some_iff.1 hx
  rw [List.drop_eq_getElem_cons h1, e1, List.reverse_cons]
theorem take_one (l : List Ed) {m : Nat} {x : Ed} (hx : l[m]? = some x) : l.take (m + 1) = l.take m ++ [x] := by
  rw [List.take_add_one, hx]
  rfl
set_option maxHeartbeats 8000000 in
set_option maxRecDepth 100000 in
theorem goBack_law (A : Acv) (a b c : Option Addr) (ca cb cc : Nat) (l : List Ed) (al : Option Addr) (cl : Nat) (w : World) (hA : ActIn w A a b c) (hr : ERow w al l) (hs : ∀ x, x ∈ l → x.s.size ≤ maxLen) :
    Calls Tryz.prog 3 #[actV A a b c ca cb cc, .slice al l.length cl] w fun e w' => e = .returned (.bool true) ∧ Below w.heap.size w w' := by
  obtain ⟨n, hn⟩ : ∃ n, l.length = n := ⟨_, rfl⟩
  have HN := Lib.hid hn
  have HSZ := Lib.hid hs
  obtain ⟨V1, hV1, hb1, hs1, ha1⟩ := alloc_ac w A.name A.sport A.start (.slice a A.sm.length ca) (.slice b A.lp.length cb) (.slice c A.tg.length cc)
  have HB1 := Lib.hid hb1
  have HS1 := Lib.hid hs1
  have HIA := Lib.hid (hA.below hb1)
  have HRL := Lib.hid (hr.below hb1)
  have HRW := Lib.hid hr
  have HIW := Lib.hid hA
  have HAB := Lib.hid ha1
  obtain ⟨eA, heA⟩ : ∃ e, chkA A = e := ⟨_, rfl⟩
  have HEA := Lib.hid heA
  have DN := Lib.hid (fun X : Ext V1 => newP_any A a b c ca cb cc X.1 (HIA.out.below X.2))
  rw [heA] at DN
  unfold NewRet actV at DN
  obtain ⟨B, iQ, eQ, hQ⟩ : ∃ B i e, allQ A l = (B, i, e) := ⟨_, _, _, rfl⟩
  have HQ := Lib.hid hQ
  have DA := Lib.hid (fun X : Ext V1 => show Calls Tryz.prog 5 #[.agg #[.string A.name, .int .i64 A.sport, .int .i64 A.start, .slice a A.sm.length ca, .slice b A.lp.length cb, .slice c A.tg.length cc], .slice al n cl] X.1 fun e w' => AllRes (B, iQ, eQ) X.1 e w' from by
    have h := all_any A a b c ca cb cc l al cl X.1 (HIA.out.below X.2) (HRL.out.below X.2) hs
    rw [hQ, hn] at h
    unfold actV at h
    exact h)
  unfold AllRes at DA
  simp only at DA
  unfold actV at DA
  rw [hn]
  obtain ⟨z0, z1, z2, z3, z4, z5⟩ := ha1.cell
  have A0 := Ext.ex z0
  have A1 := Ext.ex z1
  have A2 := Ext.ex z2
  have A3 := Ext.ex z3
  have A4 := Ext.ex z4
  have A5 := Ext.ex z5
  clear hA hr hs hb1 hs1 ha1 heA hQ hn z0 z1 z2 z3 z4 z5
  unfold actV
  go_enter Tryz.func3, Tryz.ntmps3
  go_upto_region 1 with (fail)
  clear hV1
  refine ext_wp (W := V1) fun X => ?_
  go_wp2_with fail
  refine (DN.out X).mono ?_
  rintro e w2 ⟨hb2, hp2⟩
  obtain ⟨pv, rfl, hpv⟩ : ∃ pv, e = .returned (.tuple #[pv, .int .i64 eA]) ∧ (eA = 0 → ∃ s, pv = .pointer (some ⟨s, 0, none⟩) ∧ StP w2 (fun g => X.1.heap.size ≤ g ∧ g < w2.heap.size) s A [] []) := by
    rcases hp2 with h | ⟨h0, s, h1, h2⟩
    · exact ⟨_, h.2, fun e => absurd e h.1⟩
    · exact ⟨_, by rw [h0]; exact h1, fun _ => ⟨s, rfl, h2⟩⟩
  obtain ⟨X2, rfl⟩ : ∃ Y : Ext V1, w2 = Y.1 := ⟨⟨w2, below_step X.2 hb2⟩, rfl⟩
  have HPV := Lib.hid hpv
  have HX2 := Lib.hid (And.intro X.2.size hb2.size)
  clear hb2 hp2 hpv DN
  go_wp2_with fail
  refine (DA.out X2).mono ?_
  rintro e w3 ⟨hb3, ba, bb, bc, bca, bcb, bcc, rfl, hi3, hq3⟩
  have HROW4 := Lib.hid (show ∀ g, RowOf B ba bb bc g → ¬ (V1.heap.size ≤ g ∧ g < X2.1.heap.size) from fun g hg e => by have := hg.of (O := fun k => X2.1.heap.size ≤ k) hq3; omega)
  obtain ⟨W4, hW4, hwb4, hws4, hac4⟩ := alloc_ac w3 B.name B.sport B.start (.slice ba B.sm.length bca) (.slice bb B.lp.length bcb) (.slice bc B.tg.length bcc)
  have HI4 := Lib.hid (hi3.below hwb4)
  obtain ⟨T4, hT4⟩ : ∃ T, w3.heap.size = T := ⟨_, rfl⟩
  rw [hT4] at hac4 hws4
  have HAC4 := Lib.hid hac4
  have HB4 := Lib.hid (show Below X2.1.heap.size X2.1 W4 from below_step hb3 hwb4)
  have HT4 := Lib.hid (show X2.1.heap.size ≤ T4 ∧ W4.heap.size = T4 + 1 from ⟨hT4 ▸ hb3.size, hws4⟩)
  clear hb3 hi3 hq3 hwb4 hws4 hac4 DA
  go_upto_region 3 with (fail)
  clear hW4 hT4
  by_cases hbad : eA ≠ 0 ∨ eQ ≠ 0
  · have HBW := Lib.hid (below_step HB1.out (below_step X2.2 HB4.out))
    by_cases h0 : eA = 0
    · have u0 : (eA != 0) = false := by rw [h0]; rfl
      have u1 : (eQ != 0) = true := by rw [bne_iff_ne]; exact hbad.resolve_left (fun e => e h0)
      clear hbad h0
      go_wp2_with fail
      refine (hTold_any _).mono ?_
      rintro e w7 ⟨rfl, hb7⟩
      have HB7 := Lib.hid (below_step HBW.out hb7)
      clear hb7
      go_wp2_with fail
      go_ret
      exact ⟨rfl, HB7.out⟩
    · have u0 : (eA != 0) = true := by rw [bne_iff_ne]; exact h0
      clear hbad h0
      go_wp2_with fail
      refine (hTold_any _).mono ?_
      rintro e w7 ⟨rfl, hb7⟩
      have HB7 := Lib.hid (below_step HBW.out hb7)
      clear hb7
      go_wp2_with fail
      go_ret
      exact ⟨rfl, HB7.out⟩
  obtain ⟨hA0, hQ0⟩ : eA = 0 ∧ eQ = 0 := by omega
  obtain ⟨s, rfl, hSt⟩ := HPV.out hA0
  subst hA0
  subst hQ0
  have HQE := Lib.hid (show (allQ A l).2.2 = 0 by rw [HQ.out])
  obtain ⟨_, hl200, _⟩ := allQ_fine HQE.out
  rw [HN.out] at hl200
  have HLT := Lib.hid hl200
  have HBN := Lib.hid (show nowA A l = B by rw [← allQ_now HEA.out (by rw [HN.out]; exact hl200), HQ.out])
  have HLB := Lib.hid (show B.sm.length ≤ 20000 ∧ B.lp.length ≤ 200 ∧ B.tg.length ≤ 20 from HBN.out ▸ nowA_len HEA.out l)
  have HLA := Lib.hid (show A.sm.length ≤ 20000 ∧ A.lp.length ≤ 200 ∧ A.tg.length ≤ 20 from nowA_len HEA.out [])
  obtain ⟨O, hO⟩ : ∃ O : Nat → Prop, O = fun g => V1.heap.size ≤ g ∧ g < X2.1.heap.size := ⟨_, rfl⟩
  have HOD := Lib.hid (show ∀ g, O g ↔ (V1.heap.size ≤ g ∧ g < X2.1.heap.size) from fun g => by rw [hO])
  have HON := Lib.hid (One.mk (O := O) (W1 := W4) (hSt.kept (O := fun _ => False) (Kept.of_below HB4.out) (fun _ _ e => e)) (fun g hg => ⟨Or.inl ((HOD.out g).2 ⟨Nat.le_trans X.2.size hg.1, hg.2⟩), Nat.lt_of_lt_of_le hg.2 HB4.out.size⟩))
  have HBX := Lib.hid (fun Y : ExtO O W4 => show Below w.heap.size w Y.1 from Below.of_kept (below_step HB1.out (below_step X2.2 HB4.out)) Y.2 (fun k hk e => by have := (HOD.out k).1 e; have := HS1.out; omega))
  have HVX := Lib.hid (fun Y : ExtO O W4 => show Below V1.heap.size V1 Y.1 from Below.of_kept (below_step X2.2 HB4.out) Y.2 (fun k hk e => by have := (HOD.out k).1 e; omega))
  have HAX := Lib.hid (fun Y : ExtO O W4 => HIW.out.below (HBX.out Y))
  have HRX := Lib.hid (fun Y : ExtO O W4 => HRW.out.below (HBX.out Y))
  have HABX := Lib.hid (fun Y : ExtO O W4 => HAB.out.below (HVX.out Y))
  have hnO : ¬ O T4 := fun e => by have := (HOD.out T4).1 e; have := HT4.out; omega
  have HBB := Lib.hid (fun Y : ExtO O W4 => HAC4.out.kept Y.2 hnO)
  have HBI := Lib.hid (fun Y : ExtO O W4 => show ActIn Y.1 B ba bb bc from HI4.out.keptN Y.2 (fun g hg e => HROW4.out g hg ((HOD.out g).1 e)))
  clear hSt hO hnO HPV hbad A0 A1 A2 A3 A4 A5
  have t4 : True := trivial
  go_wp2_with fail
  go_loopw [40] (fun iv wr => ∃ k : Nat, iv = .int .i64 k ∧ k ≤ n ∧ Hid (∃ P, One O W4 wr P s A (l.take k) []) ∧ ∃ Y : ExtO O W4, wr = Y.1) (fun iv _ => n - (intOf iv).toNat)
  case atStart => exact ⟨0, rfl, by omega, Lib.hid ⟨_, HON.out⟩, ⟨W4, Kept.refl _ _⟩, rfl⟩
  case round =>
    obtain ⟨k, rfl, hk, HST, Y, rfl⟩ := hrel
    by_cases hlt : k < n
    case pos =>
      have t2 : decide ((k : Int) < (n : Int)) = true := by rw [decide_eq_true_eq]; omega
      have t2' : decide (k < n) = true := by simpa using hlt
      obtain ⟨x, hx⟩ : ∃ x, l[k]? = some x := ⟨_, List.getElem?_eq_getElem (by rw [HN.out]; exact hlt)⟩
      obtain ⟨bb0, off, rfl, hbl, e0, e1, e2, e3, e4⟩ := (HRX.out Y).at hx
      have hxs := HSZ.out x (List.mem_of_getElem? hx)
      have hde := do_fine HQE.out hx
      have htk := take_one l hx
      obtain ⟨V6, hV6, hb6, hs6, hl6⟩ := alloc_cells Y.1 #[.int .i64 x.k, .int .i64 x.n, .int .i64 x.f, .int .i64 x.t, .string x.s] 36
      have u0 := hl6 0 _ rfl
      have u1 := hl6 1 _ rfl
      have u2 := hl6 2 _ rfl
      have u3 := hl6 3 _ rfl
      have u4 := hl6 4 _ rfl
      obtain ⟨P, hone⟩ := HST.out
      have HO6 := Lib.hid (hone.below hb6)
      have HK6 := Lib.hid (Y.2.trans (Kept.of_below hb6))
      have DD := Lib.hid (show Calls Tryz.prog 7 #[.pointer (some ⟨s, 0, none⟩), .agg #[.int .i64 x.k, .int .i64 x.n, .int .i64 x.f, .int .i64 x.t, .string x.s]] V6 fun e w' => DoRet StP P s A (l.take k) [] x V6 e w' from by
        have h := doP_any P s A (l.take k) [] x V6 HO6.out.st hxs (fun g hg => (HO6.out.inP g hg).2)
        unfold edV at h
        exact h)
      have HDE := Lib.hid hde
      have HTK := Lib.hid htk
      clear hx hbl hxs hde htk hb6 hs6 hl6 hone HST
      go_upto_region 10 with (fail)
      clear hV6 e0 e1 e2 e3 e4
      go_wp2_with fail
      refine (DD.out).mono ?_
      rintro e w7 h7
      obtain ⟨k7, rfl, P1, hP1, hs7⟩ := h7.at HDE.out
      obtain ⟨h8, h9⟩ := HO6.out.go HK6.out k7 hs7 hP1
      rw [← HTK.out] at h8
      have H8 := Lib.hid h8
      obtain ⟨Y7, rfl⟩ : ∃ Y : ExtO O W4, w7 = Y.1 := ⟨⟨w7, h9⟩, rfl⟩
      clear h7 k7 hP1 hs7 h8 h9 DD u0 u1 u2 u3 u4
      go_wp2_with fail
      go_roundw
      case rel => exact ⟨k + 1, by go_num, by omega, Lib.hid ⟨_, H8.out⟩, Y7, rfl⟩
      case measure => simp [intOf]; omega
    have t2 : decide ((k : Int) < (n : Int)) = false := by rw [decide_eq_false_iff_not]; omega
    have t2' : decide (k < n) = false := by simpa using hlt
    obtain ⟨P, hone⟩ := HST.out
    rw [List.take_of_length_le (show l.length ≤ k by rw [HN.out]; omega)] at hone
    have HL1 := Lib.hid (show ∃ P, One O W4 Y.1 P s A l [] from ⟨P, hone⟩)
    clear hone HST hlt hk P
    go_upto_region 13 with (fail)
    clear t2 t2'
    obtain ⟨P, hone⟩ := HL1.out
    have HO1 := Lib.hid hone
    clear hone HL1
    have B0X := fun Z : ExtO O W4 => (HBB.out Z).cell.1
    have B1X := fun Z : ExtO O W4 => (HBB.out Z).cell.2.1
    have B2X := fun Z : ExtO O W4 => (HBB.out Z).cell.2.2.1
    have B3X := fun Z : ExtO O W4 => (HBB.out Z).cell.2.2.2.1
    have B4X := fun Z : ExtO O W4 => (HBB.out Z).cell.2.2.2.2.1
    have B5X := fun Z : ExtO O W4 => (HBB.out Z).cell.2.2.2.2.2
    refine held_start (C := fun w' => ∃ Z : ExtO O W4, w' = Z.1) (by kernel_rfl) ?_
    obtain ⟨Z0, hZ0⟩ : ∃ Z : ExtO O W4, ({ Y.1 with drawn := Y.1.drawn + 1 } : World) = Z.1 := ⟨⟨{ Y.1 with drawn := Y.1.drawn + 1 }, Y.2.trans ⟨rfl, rfl, rfl, Nat.le_refl _, fun _ _ _ => rfl⟩⟩, rfl⟩
    rw [hZ0]
    have HO0 := Lib.hid (show One O W4 Z0.1 P s A l [] from hZ0 ▸ (HO1.out.below ⟨rfl, rfl, rfl, Nat.le_refl _, fun _ _ => rfl⟩))
    clear hZ0
    refine held_quiet5 (by kernel_rfl) (fun _ _ d _ _ h => by cases d <;> exact h) ⟨Z0, rfl⟩ [0, 2] 3 _ _ (by kernel_rfl) ?_
    change wpQuiet _ _ _ _ (_ :: _ :: []) _
    repeat go_big_quiet_step (fail)
    refine wpQuiet_nil ?_
    have DN5 := Lib.hid (show Calls Tryz.prog 9 #[.pointer (some ⟨s, 0, none⟩)] Z0.1 fun e w => ViewRet B Z0.1 e w from by
      have h := nowP_any _ s A l [] Z0.1 HO0.out.st
      rw [HBN.out] at h
      exact h)
    unfold ViewRet actV at DN5
    refine held_do (i := 1) _ rfl (by kernel_rfl) rfl (fun K hK => ?_)
    go_simp
    refine (DN5.out).mono ?_
    rintro e w5 ⟨hb5, a5, b5, c5, ca5, cb5, cc5, rfl, hi5⟩
    have HV5 := Lib.hid hi5
    obtain ⟨Z1, rfl⟩ : ∃ Z : ExtO O W4, w5 = Z.1 := ⟨⟨w5, Z0.2.trans (Kept.of_below hb5)⟩, rfl⟩
    have HBL5 := Lib.hid hb5
    clear hb5 hi5 DN5
    refine hK _ _ ⟨Z1, rfl⟩ ?_
    clear hK K
    try simp only [Act.put, List.setIfInBounds_toArray, List.set_cons_zero, List.set_cons_succ]
    have DS6 := Lib.hid (same_self B a5 b5 c5 ba bb bc ca5 cb5 cc5 bca bcb bcc Z1.1 HV5.out.sm HV5.out.lp HV5.out.tg (HBI.out Z1).sm (HBI.out Z1).lp (HBI.out Z1).tg (by have := HLB.out.1; omega) (by have := HLB.out.2.1; omega) (by have := HLB.out.2.2; omega))
    unfold actV at DS6
    refine held_do (i := 3) _ rfl (by kernel_rfl) rfl (fun K hK => ?_)
    go_simp
    refine (DS6.out).mono ?_
    rintro e w6 ⟨rfl, hb6⟩
    obtain ⟨Z2, rfl⟩ : ∃ Z : ExtO O W4, w6 = Z.1 := ⟨⟨w6, Z1.2.trans (Kept.of_below hb6)⟩, rfl⟩
    have HBL6 := Lib.hid hb6
    clear hb6 DS6
    refine hK _ _ ⟨Z2, rfl⟩ ?_
    clear hK K
    try simp only [Act.put, List.setIfInBounds_toArray, List.set_cons_zero, List.set_cons_succ]
    refine held_quiet5 (by kernel_rfl) (fun _ _ d _ _ h => by cases d <;> exact h) ⟨Z2, rfl⟩ [4] 0 _ _ (by kernel_rfl) ?_
    change wpQuiet _ _ _ _ (_ :: []) _
    repeat go_big_quiet_step (fail)
    refine wpQuiet_nil ?_
    refine wpAnyH_done (by kernel_rfl) ?_ _
    clear B0X B1X B2X B3X B4X B5X
    have HL2 := Lib.hid (show ∃ P, One O W4 Z2.1 P s A (l.take (n - 0)) (l.drop (n - 0)).reverse from ⟨P, by
      rw [Nat.sub_zero, List.take_of_length_le (by rw [HN.out]; omega), List.drop_eq_nil_of_le (by rw [HN.out]; omega)]
      exact (HO0.out.below HBL5.out).below HBL6.out⟩)
    clear HO0 HO1 HBL5 HBL6 HV5 Y Z0 Z1
    go_upto_region 15 with (fail)
    go_wp2_with fail
    go_loopw [56] (fun iv wr => ∃ k : Nat, iv = .int .i64 k ∧ k ≤ n ∧ Hid (∃ P, One O W4 wr P s A (l.take (n - k)) (l.drop (n - k)).reverse) ∧ ∃ Y : ExtO O W4, wr = Y.1) (fun iv _ => n - (intOf iv).toNat)
    case atStart => exact ⟨0, rfl, by omega, HL2, Z2, rfl⟩
    case round =>
      obtain ⟨k, rfl, hk, HST, Y, rfl⟩ := hrel
      by_cases hlt : k < n
      case pos =>
        have t2 : decide ((k : Int) < (n : Int)) = true := by rw [decide_eq_true_eq]; omega
        have t2' : decide (k < n) = true := by simpa using hlt
        obtain ⟨P, hone⟩ := HST.out
        obtain ⟨x, hx⟩ : ∃ x, l[n - (k + 1)]? = some x := ⟨_, List.getElem?_eq_getElem (by rw [HN.out]; omega)⟩
        rw [show n - k = n - (k + 1) + 1 by omega, take_one l hx] at hone
        have HRD := Lib.hid (rev_drop l hx)
        have HO6 := Lib.hid hone
        have DD := Lib.hid (undoP_any P s A (l.take (n - (k + 1)) ++ [x]) (l.drop (n - (k + 1) + 1)).reverse Y.1 HO6.out.st (fun g hg => (HO6.out.inP g hg).2))
        clear hx hone HST HL2
        go_wp2_with fail
        refine (DD.out).mono ?_
        rintro e w7 h7
        obtain ⟨k7, rfl, P1, hP1, hs7⟩ := h7.some
        obtain ⟨h8, h9⟩ := HO6.out.go Y.2 k7 hs7 hP1
        rw [← HRD.out] at h8
        have H8 := Lib.hid h8
        obtain ⟨Y7, rfl⟩ : ∃ Y : ExtO O W4, w7 = Y.1 := ⟨⟨w7, h9⟩, rfl⟩
        clear h7 k7 hP1 hs7 h8 h9 DD
        go_wp2_with fail
        go_roundw
        case rel => exact ⟨k + 1, by go_num, by omega, Lib.hid ⟨_, H8.out⟩, Y7, rfl⟩
        case measure => simp [intOf]; omega
      have t2 : decide ((k : Int) < (n : Int)) = false := by rw [decide_eq_false_iff_not]; omega
      have t2' : decide (k < n) = false := by simpa using hlt
      obtain ⟨P, hone⟩ := HST.out
      rw [show n - k = 0 by omega, List.take_zero, List.drop_zero] at hone
      have HO1 := Lib.hid hone
      clear hone HST hlt hk HL2
      go_upto_region 20 with (fail)
      clear t2 t2'
      have A0X := fun Z : ExtO O W4 => (HABX.out Z).cell.1
      have A1X := fun Z : ExtO O W4 => (HABX.out Z).cell.2.1
      have A2X := fun Z : ExtO O W4 => (HABX.out Z).cell.2.2.1
      have A3X := fun Z : ExtO O W4 => (HABX.out Z).cell.2.2.2.1
      have A4X := fun Z : ExtO O W4 => (HABX.out Z).cell.2.2.2.2.1
      have A5X := fun Z : ExtO O W4 => (HABX.out Z).cell.2.2.2.2.2
      refine held_start (C := fun w' => ∃ Z : ExtO O W4, w' = Z.1) (by kernel_rfl) ?_
      obtain ⟨Z0, hZ0⟩ : ∃ Z : ExtO O W4, ({ Y.1 with drawn := Y.1.drawn + 1 } : World) = Z.1 := ⟨⟨{ Y.1 with drawn := Y.1.drawn + 1 }, Y.2.trans ⟨rfl, rfl, rfl, Nat.le_refl _, fun _ _ _ => rfl⟩⟩, rfl⟩
      rw [hZ0]
      have HO0 := Lib.hid (show One O W4 Z0.1 P s A [] l.reverse from hZ0 ▸ (HO1.out.below ⟨rfl, rfl, rfl, Nat.le_refl _, fun _ _ => rfl⟩))
      clear hZ0
      refine held_quiet5 (by kernel_rfl) (fun _ _ d _ _ h => by cases d <;> exact h) ⟨Z0, rfl⟩ [0] 15 _ _ (by kernel_rfl) ?_
      change wpQuiet _ _ _ _ (_ :: []) _
      repeat go_big_quiet_step (fail)
      refine wpQuiet_nil ?_
      have DD := Lib.hid (undoP_any P s A [] l.reverse Z0.1 HO0.out.st (fun g hg => (HO0.out.inP g hg).2))
      refine held_do (i := 1) _ rfl (by kernel_rfl) rfl (fun K hK => ?_)
      go_simp
      refine (DD.out).mono ?_
      rintro e w7 h7
      obtain ⟨k7, rfl, P1, hP1, hs7⟩ := h7.none
      obtain ⟨h8, h9⟩ := HO0.out.go Z0.2 k7 hs7 hP1
      have H8 := Lib.hid h8
      obtain ⟨Z1, rfl⟩ : ∃ Y : ExtO O W4, w7 = Y.1 := ⟨⟨w7, h9⟩, rfl⟩
      clear h7 k7 hP1 hs7 h8 h9 DD
      refine hK _ _ ⟨Z1, rfl⟩ ?_
      clear hK K
      try simp only [Act.put, List.setIfInBounds_toArray, List.set_cons_zero, List.set_cons_succ]
      refine held_quiet5 (by kernel_rfl) (fun _ _ d _ _ h => by cases d <;> exact h) ⟨Z1, rfl⟩ [2] 13 _ _ (by kernel_rfl) ?_
      change wpQuiet _ _ _ _ (_ :: []) _
      repeat go_big_quiet_step (fail)
      refine wpQuiet_nil ?_
      refine held_quiet5 (by kernel_rfl) (fun _ _ d _ _ h => by cases d <;> exact h) ⟨Z1, rfl⟩ [3, 5] 11 _ _ (by kernel_rfl) ?_
      change wpQuiet _ _ _ _ (_ :: _ :: []) _
      repeat go_big_quiet_step (fail)
      refine wpQuiet_nil ?_
      have DN5 := Lib.hid (show Calls Tryz.prog 9 #[.pointer (some ⟨s, 0, none⟩)] Z1.1 fun e w => ViewRet A Z1.1 e w from by
        have h := nowP_any _ s A [] l.reverse Z1.1 H8.out.st
        exact h)
      unfold ViewRet actV at DN5
      refine held_do (i := 4) _ rfl (by kernel_rfl) rfl (fun K hK => ?_)
      go_simp
      refine (DN5.out).mono ?_
      rintro e w5 ⟨hb5, a5, b5, c5, ca5, cb5, cc5, rfl, hi5⟩
      have HV5 := Lib.hid hi5
      obtain ⟨Z3, rfl⟩ : ∃ Z : ExtO O W4, w5 = Z.1 := ⟨⟨w5, Z1.2.trans (Kept.of_below hb5)⟩, rfl⟩
      have HBL5 := Lib.hid hb5
      clear hb5 hi5 DN5
      refine hK _ _ ⟨Z3, rfl⟩ ?_
      clear hK K
      try simp only [Act.put, List.setIfInBounds_toArray, List.set_cons_zero, List.set_cons_succ]
      have DS6 := Lib.hid (same_self A a5 b5 c5 a b c ca5 cb5 cc5 ca cb cc Z3.1 HV5.out.sm HV5.out.lp HV5.out.tg (HAX.out Z3).sm (HAX.out Z3).lp (HAX.out Z3).tg (by have := HLA.out.1; omega) (by have := HLA.out.2.1; omega) (by have := HLA.out.2.2; omega))
      unfold actV at DS6
      refine held_do (i := 6) _ rfl (by kernel_rfl) rfl (fun K hK => ?_)
      go_simp
      refine (DS6.out).mono ?_
      rintro e w6 ⟨rfl, hb6⟩
      obtain ⟨Z4, rfl⟩ : ∃ Z : ExtO O W4, w6 = Z.1 := ⟨⟨w6, Z3.2.trans (Kept.of_below hb6)⟩, rfl⟩
      have HBL6 := Lib.hid hb6
      clear hb6 DS6
      refine hK _ _ ⟨Z4, rfl⟩ ?_
      clear hK K
      try simp only [Act.put, List.setIfInBounds_toArray, List.set_cons_zero, List.set_cons_succ]
      refine held_quiet5 (by kernel_rfl) (fun _ _ d _ _ h => by cases d <;> exact h) ⟨Z4, rfl⟩ [7, 8, 9] 6 _ _ (by kernel_rfl) ?_
      change wpQuiet _ _ _ _ (_ :: _ :: _ :: []) _
      repeat go_big_quiet_step (fail)
      refine wpQuiet_nil ?_
      refine held_quiet5 (by kernel_rfl) (fun _ _ d _ _ h => by cases d <;> exact h) ⟨Z4, rfl⟩ [10, 12] 4 _ _ (by kernel_rfl) ?_
      change wpQuiet _ _ _ _ (_ :: _ :: []) _
      repeat go_big_quiet_step (fail)
      refine wpQuiet_nil ?_
      have DN15 := Lib.hid (show Calls Tryz.prog 11 #[.pointer (some ⟨s, 0, none⟩)] Z4.1 fun e w => ViewRet A Z4.1 e w from by
        have h := firstP_any _ s A [] l.reverse Z4.1 ((H8.out.below HBL5.out).below HBL6.out).st
        exact h)
      unfold ViewRet actV at DN15
      refine held_do (i := 11) _ rfl (by kernel_rfl) rfl (fun K hK => ?_)
      go_simp
      refine (DN15.out).mono ?_
      rintro e w15 ⟨hb15, a15, b15, c15, ca15, cb15, cc15, rfl, hi15⟩
      have HV15 := Lib.hid hi15
      obtain ⟨Z5, rfl⟩ : ∃ Z : ExtO O W4, w15 = Z.1 := ⟨⟨w15, Z4.2.trans (Kept.of_below hb15)⟩, rfl⟩
      have HBL15 := Lib.hid hb15
      clear hb15 hi15 DN15
      refine hK _ _ ⟨Z5, rfl⟩ ?_
      clear hK K
      try simp only [Act.put, List.setIfInBounds_toArray, List.set_cons_zero, List.set_cons_succ]
      have DS16 := Lib.hid (same_self A a15 b15 c15 a b c ca15 cb15 cc15 ca cb cc Z5.1 HV15.out.sm HV15.out.lp HV15.out.tg (HAX.out Z5).sm (HAX.out Z5).lp (HAX.out Z5).tg (by have := HLA.out.1; omega) (by have := HLA.out.2.1; omega) (by have := HLA.out.2.2; omega))
      unfold actV at DS16
      refine held_do (i := 13) _ rfl (by kernel_rfl) rfl (fun K hK => ?_)
      go_simp
      refine (DS16.out).mono ?_
      rintro e w16 ⟨rfl, hb16⟩
      obtain ⟨Z6, rfl⟩ : ∃ Z : ExtO O W4, w16 = Z.1 := ⟨⟨w16, Z5.2.trans (Kept.of_below hb16)⟩, rfl⟩
      have HBL16 := Lib.hid hb16
      clear hb16 DS16
      refine hK _ _ ⟨Z6, rfl⟩ ?_
      clear hK K
      try simp only [Act.put, List.setIfInBounds_toArray, List.set_cons_zero, List.set_cons_succ]
      refine held_quiet5 (by kernel_rfl) (fun _ _ d _ _ h => by cases d <;> exact h) ⟨Z6, rfl⟩ [14, 15] 0 _ _ (by kernel_rfl) ?_
      change wpQuiet _ _ _ _ (_ :: _ :: []) _
      repeat go_big_quiet_step (fail)
      refine wpQuiet_nil ?_
      refine wpAnyH_done (by kernel_rfl) ?_ _
      clear A0X A1X A2X A3X A4X A5X
      have HL3 := Lib.hid (show ∃ P, One O W4 Z6.1 P s A (l.take 0) (l.drop 0).reverse from ⟨_, (((H8.out.below HBL5.out).below HBL6.out).below HBL15.out).below HBL16.out⟩)
      clear HO0 HO1 H8 HBL5 HBL6 HBL15 HBL16 HV5 HV15 Y Z0 Z1 Z3 Z4 Z5
      go_upto_region 22 with (fail)
      go_wp2_with fail
      go_loopw [80] (fun iv wr => ∃ k : Nat, iv = .int .i64 k ∧ k ≤ n ∧ Hid (∃ P, One O W4 wr P s A (l.take k) (l.drop k).reverse) ∧ ∃ Y : ExtO O W4, wr = Y.1) (fun iv _ => n - (intOf iv).toNat)
      case atStart => exact ⟨0, rfl, by omega, HL3, Z6, rfl⟩
      case round =>
        obtain ⟨k, rfl, hk, HST, Y, rfl⟩ := hrel
        by_cases hlt : k < n
        case pos =>
          have t2 : decide ((k : Int) < (n : Int)) = true := by rw [decide_eq_true_eq]; omega
          have t2' : decide (k < n) = true := by simpa using hlt
          obtain ⟨P, hone⟩ := HST.out
          obtain ⟨x, hx⟩ : ∃ x, l[k]? = some x := ⟨_, List.getElem?_eq_getElem (by rw [HN.out]; omega)⟩
          rw [rev_drop l hx] at hone
          have HTK := Lib.hid (take_one l hx)
          have HO6 := Lib.hid hone
          have DD := Lib.hid (redoP_any P s A (l.take k) ((l.drop (k + 1)).reverse ++ [x]) Y.1 HO6.out.st (fun g hg => (HO6.out.inP g hg).2))
          clear hx hone HST HL3
          go_wp2_with fail
          refine (DD.out).mono ?_
          rintro e w7 h7
          obtain ⟨k7, rfl, P1, hP1, hs7⟩ := h7.some
          obtain ⟨h8, h9⟩ := HO6.out.go Y.2 k7 hs7 hP1
          rw [← HTK.out] at h8
          have H8 := Lib.hid h8
          obtain ⟨Y7, rfl⟩ : ∃ Y : ExtO O W4, w7 = Y.1 := ⟨⟨w7, h9⟩, rfl⟩
          clear h7 k7 hP1 hs7 h8 h9 DD
          go_wp2_with fail
          go_roundw
          case rel => exact ⟨k + 1, by go_num, by omega, Lib.hid ⟨_, H8.out⟩, Y7, rfl⟩
          case measure => simp [intOf]; omega
        have t2 : decide ((k : Int) < (n : Int)) = false := by rw [decide_eq_false_iff_not]; omega
        have t2' : decide (k < n) = false := by simpa using hlt
        obtain ⟨P, hone⟩ := HST.out
        rw [List.take_of_length_le (by rw [HN.out]; omega), List.drop_eq_nil_of_le (by rw [HN.out]; omega), List.reverse_nil] at hone
        have HO1 := Lib.hid hone
        clear hone HST hlt hk HL3
        go_upto_region 27 with (fail)
        clear t2 t2'
        have B0X := fun Z : ExtO O W4 => (HBB.out Z).cell.1
        have B1X := fun Z : ExtO O W4 => (HBB.out Z).cell.2.1
        have B2X := fun Z : ExtO O W4 => (HBB.out Z).cell.2.2.1
        have B3X := fun Z : ExtO O W4 => (HBB.out Z).cell.2.2.2.1
        have B4X := fun Z : ExtO O W4 => (HBB.out Z).cell.2.2.2.2.1
        have B5X := fun Z : ExtO O W4 => (HBB.out Z).cell.2.2.2.2.2
        refine held_start (C := fun w' => ∃ Z : ExtO O W4, w' = Z.1) (by kernel_rfl) ?_
        obtain ⟨Z0, hZ0⟩ : ∃ Z : ExtO O W4, ({ Y.1 with drawn := Y.1.drawn + 1 } : World) = Z.1 := ⟨⟨{ Y.1 with drawn := Y.1.drawn + 1 }, Y.2.trans ⟨rfl, rfl, rfl, Nat.le_refl _, fun _ _ _ => rfl⟩⟩, rfl⟩
        rw [hZ0]
        have HO0 := Lib.hid (show One O W4 Z0.1 P s A l [] from hZ0 ▸ (HO1.out.below ⟨rfl, rfl, rfl, Nat.le_refl _, fun _ _ => rfl⟩))
        clear hZ0
        refine held_quiet5 (by kernel_rfl) (fun _ _ d _ _ h => by cases d <;> exact h) ⟨Z0, rfl⟩ [0, 2] 7 _ _ (by kernel_rfl) ?_
        change wpQuiet _ _ _ _ (_ :: _ :: []) _
        repeat go_big_quiet_step (fail)
        refine wpQuiet_nil ?_
        have DN5 := Lib.hid (show Calls Tryz.prog 9 #[.pointer (some ⟨s, 0, none⟩)] Z0.1 fun e w => ViewRet B Z0.1 e w from by
          have h := nowP_any _ s A l [] Z0.1 HO0.out.st
          rw [HBN.out] at h
          exact h)
        unfold ViewRet actV at DN5
        refine held_do (i := 1) _ rfl (by kernel_rfl) rfl (fun K hK => ?_)
        go_simp
        refine (DN5.out).mono ?_
        rintro e w5 ⟨hb5, a5, b5, c5, ca5, cb5, cc5, rfl, hi5⟩
        have HV5 := Lib.hid hi5
        obtain ⟨Z1, rfl⟩ : ∃ Z : ExtO O W4, w5 = Z.1 := ⟨⟨w5, Z0.2.trans (Kept.of_below hb5)⟩, rfl⟩
        have HBL5 := Lib.hid hb5
        clear hb5 hi5 DN5
        refine hK _ _ ⟨Z1, rfl⟩ ?_
        clear hK K
        try simp only [Act.put, List.setIfInBounds_toArray, List.set_cons_zero, List.set_cons_succ]
        have DS6 := Lib.hid (same_self B a5 b5 c5 ba bb bc ca5 cb5 cc5 bca bcb bcc Z1.1 HV5.out.sm HV5.out.lp HV5.out.tg (HBI.out Z1).sm (HBI.out Z1).lp (HBI.out Z1).tg (by have := HLB.out.1; omega) (by have := HLB.out.2.1; omega) (by have := HLB.out.2.2; omega))
        unfold actV at DS6
        refine held_do (i := 3) _ rfl (by kernel_rfl) rfl (fun K hK => ?_)
        go_simp
        refine (DS6.out).mono ?_
        rintro e w6 ⟨rfl, hb6⟩
        obtain ⟨Z2, rfl⟩ : ∃ Z : ExtO O W4, w6 = Z.1 := ⟨⟨w6, Z1.2.trans (Kept.of_below hb6)⟩, rfl⟩
        have HBL6 := Lib.hid hb6
        clear hb6 DS6
        refine hK _ _ ⟨Z2, rfl⟩ ?_
        clear hK K
        try simp only [Act.put, List.setIfInBounds_toArray, List.set_cons_zero, List.set_cons_succ]
        refine held_quiet5 (by kernel_rfl) (fun _ _ d _ _ h => by cases d <;> exact h) ⟨Z2, rfl⟩ [4, 5] 3 _ _ (by kernel_rfl) ?_
        change wpQuiet _ _ _ _ (_ :: _ :: []) _
        repeat go_big_quiet_step (fail)
        refine wpQuiet_nil ?_
        refine held_quiet5 (by kernel_rfl) (fun _ _ d _ _ h => by cases d <;> exact h) ⟨Z2, rfl⟩ [6] 2 _ _ (by kernel_rfl) ?_
        change wpQuiet _ _ _ _ (_ :: []) _
        repeat go_big_quiet_step (fail)
        refine wpQuiet_nil ?_
        have HO2 := Lib.hid ((HO0.out.below HBL5.out).below HBL6.out)
        have DD := Lib.hid (redoP_any P s A l [] Z2.1 HO2.out.st (fun g hg => (HO2.out.inP g hg).2))
        refine held_do (i := 7) _ rfl (by kernel_rfl) rfl (fun K hK => ?_)
        go_simp
        refine (DD.out).mono ?_
        rintro e w7 h7
        obtain ⟨k7, rfl, P1, hP1, hs7⟩ := h7.none
        obtain ⟨h8, h9⟩ := HO2.out.go Z2.2 k7 hs7 hP1
        obtain ⟨Z3, rfl⟩ : ∃ Y : ExtO O W4, w7 = Y.1 := ⟨⟨w7, h9⟩, rfl⟩
        clear h7 k7 hP1 hs7 h8 h9 DD
        refine hK _ _ ⟨Z3, rfl⟩ ?_
        clear hK K
        try simp only [Act.put, List.setIfInBounds_toArray, List.set_cons_zero, List.set_cons_succ]
        refine held_quiet5 (by kernel_rfl) (fun _ _ d _ _ h => by cases d <;> exact h) ⟨Z3, rfl⟩ [8] 0 _ _ (by kernel_rfl) ?_
        change wpQuiet _ _ _ _ (_ :: []) _
        repeat go_big_quiet_step (fail)
        refine wpQuiet_nil ?_
        refine wpAnyH_done (by kernel_rfl) ?_ _
        clear HO0 HO1 HO2 HBL5 HBL6 HV5 Y Z0 Z1 Z2
        have HCL := Lib.hid (chkEL_fine HQE.out)
        have HTX := Lib.hid (tidyL_text HSZ.out)
        have DT := Lib.hid (show Calls Tryz.prog 13 #[.slice al n cl] Z3.1 fun e w' => (∃ v, e = .returned (.tuple #[v, .int .i64 0]) ∧ EdOwn w' Z3.1.heap.size v (Tr.tidyL l)) ∧ Below Z3.1.heap.size Z3.1 w' from by
          have h := tidy_any al l cl Z3.1 (HRX.out Z3) HSZ.out
          unfold tidyR at h
          rw [HCL.out, if_pos rfl, HN.out] at h
          exact h)
        go_upto_region 29 with (fail)
        go_wp2_with fail
        refine (DT.out).mono ?_
        rintro e w8 ⟨⟨v, rfl, ho8⟩, hb8⟩
        obtain ⟨ta, tc, rfl, _, hr8, _⟩ := ho8.row
        obtain ⟨Z4, rfl⟩ : ∃ Z : ExtO O W4, w8 = Z.1 := ⟨⟨w8, Z3.2.trans (Kept.of_below hb8)⟩, rfl⟩
        obtain ⟨C, jQ, eC, hQ2⟩ : ∃ B i e, allQ A (Tr.tidyL l) = (B, i, e) := ⟨_, _, _, rfl⟩
        have HC := Lib.hid (show eC = 0 → C = B from fun e => by
          have h := (tidy_same (A := A) (l := l) HQE.out (by rw [hQ2]; exact e)).1
          rw [hQ2, HQ.out] at h
          exact h)
        obtain ⟨nt, hnt⟩ : ∃ n, (Tr.tidyL l).length = n := ⟨_, rfl⟩
        have DA := Lib.hid (show Calls Tryz.prog 5 #[.agg #[.string A.name, .int .i64 A.sport, .int .i64 A.start, .slice a A.sm.length ca, .slice b A.lp.length cb, .slice c A.tg.length cc], .slice ta nt tc] Z4.1 fun e w' => AllRes (C, jQ, eC) Z4.1 e w' from by
          have h := all_any A a b c ca cb cc (Tr.tidyL l) ta tc Z4.1 (HAX.out Z4) hr8 HTX.out
          rw [hQ2, hnt] at h
          unfold actV at h
          exact h)
        unfold AllRes at DA
        simp only at DA
        unfold actV at DA
        rw [hnt]
        obtain ⟨a0, a1, a2, a3, a4, a5⟩ := (HABX.out Z4).cell
        clear ho8 hr8 hb8 hQ2 hnt DT
        go_wp2_with fail
        refine (DA.out).mono ?_
        rintro e w9 ⟨hb9, da, db, dc, dca, dcb, dcc, rfl, hi9, _⟩
        obtain ⟨W5, hW5, hwb5, hws5, hac5⟩ := alloc_ac w9 C.name C.sport C.start (.slice da C.sm.length dca) (.slice db C.lp.length dcb) (.slice dc C.tg.length dcc)
        obtain ⟨T5, hT5⟩ : ∃ T, w9.heap.size = T := ⟨_, rfl⟩
        rw [hT5] at hac5
        have HAC5 := Lib.hid hac5
        have HI5 := Lib.hid (hi9.below hwb5)
        obtain ⟨Z5, rfl⟩ : ∃ Z : ExtO O W4, W5 = Z.1 := ⟨⟨W5, Z4.2.trans (Kept.of_below (below_step hb9 hwb5))⟩, rfl⟩
        clear hb9 hi9 hwb5 hws5 hac5 DA a0 a1 a2 a3 a4 a5
        go_upto_region 31 with (fail)
        clear hW5 hT5
        by_cases hc : eC = 0
        · obtain rfl := HC.out hc
          subst hc
          obtain ⟨b0, b1, b2, b3, b4, b5⟩ := (HBB.out Z5).cell
          obtain ⟨c0, c1, c2, c3, c4, c5⟩ := HAC5.out.cell
          have DS := Lib.hid (same_self C ba bb bc da db dc bca bcb bcc dca dcb dcc Z5.1 (HBI.out Z5).sm (HBI.out Z5).lp (HBI.out Z5).tg HI5.out.sm HI5.out.lp HI5.out.tg (by have := HLB.out.1; omega) (by have := HLB.out.2.1; omega) (by have := HLB.out.2.2; omega))
          unfold actV at DS
          go_wp2_with fail
          refine (DS.out).mono ?_
          rintro e w10 ⟨rfl, hb10⟩
          have HB10 := Lib.hid (below_step (HBX.out Z5) hb10)
          clear hb10 b0 b1 b2 b3 b4 b5 c0 c1 c2 c3 c4 c5
          go_wp2_with fail
          refine (hTold_any _).mono ?_
          rintro e w11 ⟨rfl, hb11⟩
          have HB11 := Lib.hid (below_step HB10.out hb11)
          clear hb11
          go_wp2_with fail
          go_ret
          exact ⟨rfl, HB11.out⟩
        · have u1 : (eC != 0) = true := by rw [bne_iff_ne]; exact hc
          have HB10 := Lib.hid (HBX.out Z5)
          clear hc HC
          go_wp2_with fail
          refine (hTold_any _).mono ?_
          rintro e w11 ⟨rfl, hb11⟩
          have HB11 := Lib.hid (below_step HB10.out hb11)
          clear hb11
          go_wp2_with fail
          go_ret
          exact ⟨rfl, HB11.out⟩
end Go.Proofs.YtgdepcnfjmobjaaGreat

/- Slices of structs of one-cell fields that came in: how they read (any program). -/
namespace Go.Proofs.YtgdepcnfjmobjaaGreat
open Go.RowKit Go.ChangeShapes Go.WideShapes Go.Deep

/-- a slice of structs of k one-cell fields, as it lies in memory: element i has the cells V i -/
structure RowK (w : World) (a : Option Addr) (len k : Nat) (V : Nat → List Value) : Prop where
  here : 0 < len → ∃ b off, a = some ⟨b, off, none⟩ ∧ b < w.heap.size ∧ ∀ i, i < len → ∀ j, j < k → w.cell? ⟨b, off + i * k + j, none⟩ = (V i)[j]?
theorem RowK.below {w w' : World} {a : Option Addr} {len k B : Nat} {V : Nat → List Value} (h : RowK w a len k V) (hb : Below B w w') (hB : w.heap.size ≤ B) : RowK w' a len k V := by
  refine ⟨fun hl => ?_⟩
  obtain ⟨b, off, rfl, hlt, hc⟩ := h.here hl
  exact ⟨b, off, rfl, Nat.lt_of_lt_of_le hlt hb.size, fun i hi j hj => (hb.cell (p := ⟨b, off + i * k + j, none⟩) (Nat.lt_of_lt_of_le hlt hB)).trans (hc i hi j hj)⟩

theorem RowK.at {w : World} {b off len k : Nat} {V : Nat → List Value} (h : RowK w (some ⟨b, off, none⟩) len k V) {i j : Nat} (hi : i < len) (hj : j < k) : w.cell? ⟨b, off + i * k + j, none⟩ = (V i)[j]? := by
  obtain ⟨b', off', he, _, hc⟩ := h.here (by omega)
  injection he with he
  injection he with h1 h2
  subst h1
  subst h2
  exact hc i hi j hj

section
variable {H : Type} {enc : TypeId × Value → H} {P : Program} {w : World} {base : Nat}
theorem open_rowK {t e : TypeId} {fs : Array Field} {fuel : Nat} {v : Value} {x : DataW H × List MemPlace} (ht : P.underlying t = some (.slice e)) (he : P.underlying e = some (.struct fs)) (hC : P.cellsOf e = fs.size) (hfs : 0 < fs.size)
    (hone : ∀ (i : Nat) (f : Field), fs[i]? = some f → f.offset = i ∧ P.cellsOf f.type = 1) (h : DataW.trod enc P w base (fun _ => true) true fuel t [v] = some x) :
    ∃ (a : Option Addr) (len cap : Nat) (V : Nat → List Value), v = .slice a len cap ∧ len ≤ cap ∧ cap ≤ maxLen ∧ RowK w a len fs.size V ∧
      ∀ i, i < len → (V i).length = fs.size ∧ ∀ (j : Nat) (f : Field), fs[j]? = some f → ∃ u n y, (V i)[j]? = some u ∧ DataW.trod enc P w base (fun _ => true) true n f.type [u] = some y := by
  rcases open_slice ht h with ⟨hc, _⟩ | ⟨a, len, cap, m, n, D, Pl, hc, _, hl, hm, hmm, _, hx⟩
  · simp only [List.cons.injEq, and_true] at hc
    exact ⟨none, 0, 0, fun _ => [], hc, Nat.le_refl _, Nat.zero_le _, ⟨fun h => absurd h (by omega)⟩, fun i hi => absurd hi (by omega)⟩
  · simp only [List.cons.injEq, and_true] at hc
    simp only [if_true] at hmm
    subst hmm
    have each : ∀ i, i < m → ∃ cs : List Value, cs.length = fs.size ∧ (∀ j, j < fs.size → w.cell? (a.add (i * fs.size + j)) = cs[j]?) ∧ ∀ (j : Nat) (f : Field), fs[j]? = some f → ∃ u n y, cs[j]? = some u ∧ DataW.trod enc P w base (fun _ => true) true n f.type [u] = some y := by
      intro i hi
      obtain ⟨cs, h1, h2⟩ := hx i hi
      rw [hC] at h1
      obtain ⟨_, hlen, hcell⟩ := World.cells?_some h1
      obtain ⟨xs, k, _, _, _, hxl, hf⟩ := DataW.trod_struct he h2
      refine ⟨cs, hlen, fun j hj => by rw [← add_add]; exact hcell j (by omega), fun j f hj => ?_⟩
      obtain ⟨o1, o2⟩ := hone j f hj
      have g := hf j f hj
      rw [o1, o2] at g
      have hjl : j < cs.length := by
        rw [hlen]
        exact (Array.getElem?_eq_some_iff.1 hj).1
      have hjx : j < xs.length := by rw [hxl]; rw [hlen] at hjl; exact hjl
      have e1 : (cs.drop j).take 1 = [cs[j]] := by rw [List.drop_eq_getElem_cons hjl]; rfl
      rw [e1, List.getElem?_eq_getElem hjx] at g
      exact ⟨cs[j], k, xs[j], List.getElem?_eq_getElem hjl, g⟩
    obtain ⟨V, hV⟩ := choose_lt each
    refine ⟨some a, len, m, V, hc, hl, hm, ⟨fun hl0 => ?_⟩, fun i hi => ⟨(hV i (by omega)).1, (hV i (by omega)).2.2⟩⟩
    obtain ⟨b, o, sp⟩ := a
    have hc0 : ∃ u, w.cell? ((⟨b, o, sp⟩ : Addr).add (0 * fs.size + 0)) = some u := by
      obtain ⟨g1, g2, g3⟩ := hV 0 (by omega)
      exact ⟨(V 0)[0]'(by omega), by rw [g2 0 hfs, List.getElem?_eq_getElem]⟩
    obtain ⟨u, hu⟩ := hc0
    have hspot : sp = none := by simpa [Addr.add] using World.cell?_spot hu
    subst hspot
    rw [Nat.zero_mul, add_plain] at hu
    refine ⟨b, o, rfl, World.block_lt_of_cell? w _ hu, fun i hi j hj => ?_⟩
    have := (hV i (by omega)).2.1 j hj
    rw [add_plain, ← Nat.add_assoc] at this
    exact this
end
end Go.Proofs.YtgdepcnfjmobjaaGreat

/- An activity that came in: how it reads. (printed by wip/t/gen_tfp.py) -/
namespace Go.Proofs.YtgdepcnfjmobjaaGreat
open Go.ChangeShapes Go.WideShapes Go.ChangeAt Go.RowKit Go.Deep

theorem laidOut : laidOutB Tryz.prog = true := by kernel_rfl
theorem readAct : Tryz.prog.readableRec 26 = true := by kernel_rfl
theorem rowAct : 26 < Tryz.prog.types.size := of_decide_eq_true (by kernel_rfl)
def intV : Value → Int
  | .int _ n => n
  | _ => 0
def strV : Value → ByteArray
  | .string s => s
  | _ => ByteArray.empty
theorem RowK.congr {w : World} {a : Option Addr} {len k : Nat} {V V' : Nat → List Value} (h : RowK w a len k V) (he : ∀ i, i < len → V i = V' i) : RowK w a len k V' :=
  ⟨fun h0 => by
    obtain ⟨b, off, e, hb, hc⟩ := h.here h0
    exact ⟨b, off, e, hb, fun i hi j hj => by rw [hc i hi j hj, he i hi]⟩⟩
section
variable {H : Type} {enc : TypeId × Value → H} {P : Program} {w : World} {base : Nat}
theorem field_str {V : List Value} {j : Nat} {t : TypeId} (ht : P.underlying t = some .string) (h : ∃ u n y, V[j]? = some u ∧ DataW.trod enc P w base (fun _ => true) true n t [u] = some y) :
    V[j]? = some (.string (strV (V.getD j (.bool false)))) ∧ (strV (V.getD j (.bool false))).size ≤ maxLen := by
  obtain ⟨u, n, y, hu, hd⟩ := h
  obtain ⟨s, e, _, hs⟩ := DataW.trod_string ht hd
  simp only [List.cons.injEq, and_true] at e
  subst e
  rw [List.getD_eq_getElem?_getD, hu]
  exact ⟨rfl, hs⟩
theorem field_int {V : List Value} {j : Nat} {t : TypeId} (ht : P.underlying t = some (.int .i64)) (h : ∃ u n y, V[j]? = some u ∧ DataW.trod enc P w base (fun _ => true) true n t [u] = some y) :
    V[j]? = some (.int .i64 (intV (V.getD j (.bool false)))) := by
  obtain ⟨u, n, y, hu, hd⟩ := h
  obtain ⟨s, e, _, hs⟩ := DataW.trod_int ht hd
  simp only [List.cons.injEq, and_true] at e
  subst e
  rw [List.getD_eq_getElem?_getD, hu]
  rfl
end
theorem list3 {V : List Value} {a b c : Value} (hl : V.length = 3) (h0 : V[0]? = some a) (h1 : V[1]? = some b) (h2 : V[2]? = some c) : V = [a, b, c] := by
  match V, hl with
  | [x, y, z], _ => simp at h0 h1 h2; rw [h0, h1, h2]
theorem list7 {V : List Value} {a b c d e f g : Value} (hl : V.length = 7) (h0 : V[0]? = some a) (h1 : V[1]? = some b) (h2 : V[2]? = some c) (h3 : V[3]? = some d) (h4 : V[4]? = some e) (h5 : V[5]? = some f) (h6 : V[6]? = some g) : V = [a, b, c, d, e, f, g] := by
  match V, hl with
  | [x0, x1, x2, x3, x4, x5, x6], _ => simp at h0 h1 h2 h3 h4 h5 h6; rw [h0, h1, h2, h3, h4, h5, h6]
theorem list6 {V : List Value} {a b c d e f : Value} (hl : V.length = 6) (h0 : V[0]? = some a) (h1 : V[1]? = some b) (h2 : V[2]? = some c) (h3 : V[3]? = some d) (h4 : V[4]? = some e) (h5 : V[5]? = some f) : V = [a, b, c, d, e, f] := by
  match V, hl with
  | [x0, x1, x2, x3, x4, x5], _ => simp at h0 h1 h2 h3 h4 h5; rw [h0, h1, h2, h3, h4, h5]
def smOf (V : List Value) : Sm := ⟨intV (V.getD 0 (.bool false)), intV (V.getD 1 (.bool false)), intV (V.getD 2 (.bool false)), intV (V.getD 3 (.bool false)), intV (V.getD 4 (.bool false)), intV (V.getD 5 (.bool false)), intV (V.getD 6 (.bool false))⟩
def lpOf (V : List Value) : Lp := ⟨intV (V.getD 0 (.bool false)), intV (V.getD 1 (.bool false)), strV (V.getD 2 (.bool false))⟩
theorem range_get {α : Type} (f : Nat → α) {n i : Nat} {x : α} (h : ((List.range n).map f)[i]? = some x) : i < n ∧ x = f i := by
  rw [List.getElem?_map] at h
  cases hr : (List.range n)[i]? with
  | none => rw [hr] at h; cases h
  | some y =>
    rw [hr] at h
    obtain ⟨h1, h2⟩ := List.getElem?_eq_some_iff.1 hr
    simp only [List.length_range] at h1
    simp only [List.getElem_range] at h2
    subst h2
    simp only [Option.map_some, Option.some.injEq] at h
    exact ⟨h1, h.symm⟩
theorem rw_of {α : Type} {C : α → List Value} {k : Nat} {w : World} {a : Option Addr} {n : Nat} {V : Nat → List Value} {f : Nat → α} (hC : ∀ x, (C x).length = k) (h : RowK w a n k V) (he : ∀ i, i < n → V i = C (f i)) : Rw C k w a ((List.range n).map f) := by
  refine ⟨fun hl => ?_⟩
  rw [List.length_map, List.length_range] at hl
  obtain ⟨b, off, e, hb, hc⟩ := h.here hl
  refine ⟨b, off, e, hb, fun i x hx j u hu => ?_⟩
  obtain ⟨hi, rfl⟩ := range_get f hx
  have hj : j < k := by have := (List.getElem?_eq_some_iff.1 hu).1; rwa [hC] at this
  rw [← hu, ← he i hi]
  exact hc i hi j hj
section
variable {H : Type} {enc : TypeId × Value → H} {P : Program} {w : World} {base : Nat}
theorem open_sms {t e : TypeId} (I : P.underlying t = some (.slice e)) {fs : Array Field} (hs : P.underlying e = some (.struct fs)) (hC : P.cellsOf e = fs.size) (h7 : fs.size = 7) (hone : ∀ (i : Nat) (f : Field), fs[i]? = some f → f.offset = i ∧ P.cellsOf f.type = 1)
    (hi : ∀ (j : Nat) (f : Field), fs[j]? = some f → P.underlying f.type = some (.int .i64)) {n : Nat} {v : Value} {y : DataW H × List MemPlace} (h : DataW.trod enc P w base (fun _ => true) true n t [v] = some y) :
    ∃ (l : List Sm) (a : Option Addr) (c : Nat), v = .slice a l.length c ∧ l.length ≤ c ∧ c ≤ maxLen ∧ Rw smC 7 w a l := by
  obtain ⟨a0, n0, c0, V0, rfl, l0, m0, R0, F0⟩ := open_rowK I hs hC (by omega) hone h
  rw [h7] at R0 F0
  refine ⟨(List.range n0).map fun i => smOf (V0 i), a0, c0, by rw [List.length_map, List.length_range], by rw [List.length_map, List.length_range]; exact l0, m0, rw_of (fun _ => rfl) R0 fun i hi' => ?_⟩
  have F := F0 i hi'
  have g : ∀ (j : Nat) (_ : j < 7), (V0 i)[j]? = some (.int .i64 (intV ((V0 i).getD j (.bool false)))) := fun j hj => by
    obtain ⟨f, hf⟩ : ∃ f, fs[j]? = some f := ⟨_, Array.getElem?_eq_getElem (by omega)⟩
    exact field_int (hi j f hf) (F.2 j f hf)
  exact list7 F.1 (g 0 (by omega)) (g 1 (by omega)) (g 2 (by omega)) (g 3 (by omega)) (g 4 (by omega)) (g 5 (by omega)) (g 6 (by omega))
theorem open_tags {t e : TypeId} (I : P.underlying t = some (.slice e)) (hs : P.underlying e = some .string) (hC : P.cellsOf e = 1) {n : Nat} {v : Value} {y : DataW H × List MemPlace} (h : DataW.trod enc P w base (fun _ => true) true n t [v] = some y) :
    ∃ (l : List ByteArray) (a : Option Addr) (c : Nat), v = .slice a l.length c ∧ l.length ≤ c ∧ c ≤ maxLen ∧ Rw tgC 1 w a l ∧ ∀ s, s ∈ l → s.size ≤ maxLen := by
  rcases open_slice I h with ⟨hc, _⟩ | ⟨a, len, cap, m, n', D, Pl, hc, _, hl, hm, hmm, _, hx⟩
  · simp only [List.cons.injEq, and_true] at hc
    exact ⟨[], none, 0, hc, Nat.le_refl _, Nat.zero_le _, ⟨fun h => absurd h (by simp)⟩, fun s hs => by cases hs⟩
  · simp only [List.cons.injEq, and_true] at hc
    simp only [if_true] at hmm
    subst hmm
    have each : ∀ i, i < m → ∃ s : ByteArray, w.cell? (a.add i) = some (.string s) ∧ s.size ≤ maxLen := by
      intro i hi
      obtain ⟨cs, h1, h2⟩ := hx i hi
      rw [hC] at h1
      obtain ⟨_, hlen, hcell⟩ := World.cells?_some h1
      obtain ⟨s, e1, _, hs1⟩ := DataW.trod_string hs h2
      have h3 := hcell 0 (by omega)
      rw [e1, add_add] at h3
      refine ⟨s, ?_, hs1⟩
      simpa using h3
    obtain ⟨V, hV⟩ := choose_lt each
    refine ⟨(List.range len).map V, some a, m, by rw [List.length_map, List.length_range]; exact hc, by rw [List.length_map, List.length_range]; exact hl, hm, ⟨fun hl0 => ?_⟩, fun s hs => ?_⟩
    · rw [List.length_map, List.length_range] at hl0
      obtain ⟨b, o, sp⟩ := a
      have h0 := (hV 0 (by omega)).1
      have hspot : sp = none := by simpa [Addr.add] using World.cell?_spot h0
      subst hspot
      refine ⟨b, o, rfl, by simpa [Addr.add] using World.block_lt_of_cell? w _ h0, fun i x hx' j u hu => ?_⟩
      obtain ⟨hi, rfl⟩ := range_get V hx'
      have hj : j < 1 := (List.getElem?_eq_some_iff.1 hu).1
      obtain rfl : j = 0 := by omega
      injection hu with hu
      subst hu
      have := (hV i (by omega)).1
      rw [add_plain] at this
      rw [Nat.mul_one, Nat.add_zero]
      exact this
    · obtain ⟨i, hi, rfl⟩ := List.mem_map.1 hs
      exact (hV i (by have := List.mem_range.1 hi; omega)).2
theorem open_lps {t e : TypeId} {f0 f1 f2 : Field} (I : P.underlying t = some (.slice e)) (hs : P.underlying e = some (.struct #[f0, f1, f2])) (hC : P.cellsOf e = 3) (hone : ∀ (i : Nat) (f : Field), (#[f0, f1, f2] : Array Field)[i]? = some f → f.offset = i ∧ P.cellsOf f.type = 1)
    (i0 : P.underlying f0.type = some (.int .i64)) (i1 : P.underlying f1.type = some (.int .i64)) (i2 : P.underlying f2.type = some .string) {n : Nat} {v : Value} {y : DataW H × List MemPlace} (h : DataW.trod enc P w base (fun _ => true) true n t [v] = some y) :
    ∃ (l : List Lp) (a : Option Addr) (c : Nat), v = .slice a l.length c ∧ l.length ≤ c ∧ c ≤ maxLen ∧ Rw lpC 3 w a l ∧ ∀ p, p ∈ l → p.s.size ≤ maxLen := by
  obtain ⟨a0, n0, c0, V0, rfl, l0, m0, R0, F0⟩ := open_rowK I hs hC (show 0 < 3 by decide) hone h
  have F : ∀ i, i < n0 → V0 i = lpC (lpOf (V0 i)) ∧ (lpOf (V0 i)).s.size ≤ maxLen := fun i hi =>
    ⟨list3 (F0 i hi).1 (field_int i0 ((F0 i hi).2 0 _ rfl)) (field_int i1 ((F0 i hi).2 1 _ rfl)) (field_str i2 ((F0 i hi).2 2 _ rfl)).1, (field_str i2 ((F0 i hi).2 2 _ rfl)).2⟩
  refine ⟨(List.range n0).map fun i => lpOf (V0 i), a0, c0, by rw [List.length_map, List.length_range], by rw [List.length_map, List.length_range]; exact l0, m0, rw_of (fun _ => rfl) R0 fun i hi => (F i hi).1, fun p hp => ?_⟩
  obtain ⟨i, hi, rfl⟩ := List.mem_map.1 hp
  exact (F i (List.mem_range.1 hi)).2
end
set_option maxRecDepth 100000 in
/-- six cells that read as an activity -/
theorem act_cells {H : Type} {enc : TypeId × Value → H} {W : World} {base : Nat} {V : List Value} (hl : V.length = 6) (F : ∀ (j : Nat) (f : Field), (Tryz.prog.fieldsOf 26)[j]? = some f → ∃ u n y, V[j]? = some u ∧ DataW.trod enc Tryz.prog W base (fun _ => true) true n f.type [u] = some y) :
    ∃ (A : Acv) (a b c : Option Addr) (ca cb cc : Nat), V = [.string A.name, .int .i64 A.sport, .int .i64 A.start, .slice a A.sm.length ca, .slice b A.lp.length cb, .slice c A.tg.length cc] ∧ ActIn W A a b c ∧ A.sm.length ≤ ca ∧ A.lp.length ≤ cb ∧ A.tg.length ≤ cc := by
  have S := Tryz.underlying9
  have I := Tryz.underlying3
  have hm : maxLen = 9223372036854775807 := rfl
  simp only [Program.fieldsOf, Tryz.underlying26] at F
  obtain ⟨e0, z0⟩ := field_str S (F 0 _ rfl)
  have e1 := field_int I (F 1 _ rfl)
  have e2 := field_int I (F 2 _ rfl)
  obtain ⟨u3, n3, y3, e3, t3⟩ := F 3 _ rfl
  obtain ⟨u4, n4, y4, e4, t4⟩ := F 4 _ rfl
  obtain ⟨u5, n5, y5, e5, t5⟩ := F 5 _ rfl
  obtain ⟨l, a, ca, rfl, la, ma, ra⟩ := open_sms (P := Tryz.prog) Tryz.underlying22 Tryz.underlying54 (by kernel_rfl) rfl (hone_of (by kernel_rfl)) (fun j f hf => by
    match j, hf with
    | 0, h => injection h with h; subst h; exact I
    | 1, h => injection h with h; subst h; exact I
    | 2, h => injection h with h; subst h; exact I
    | 3, h => injection h with h; subst h; exact I
    | 4, h => injection h with h; subst h; exact I
    | 5, h => injection h with h; subst h; exact I
    | 6, h => injection h with h; subst h; exact I
    | n + 7, h => cases h) t3
  obtain ⟨p, b, cb, rfl, lb, mb, rb, hb⟩ := open_lps (P := Tryz.prog) Tryz.underlying23 Tryz.underlying57 (by kernel_rfl) (hone_of (by kernel_rfl)) I I S t4
  obtain ⟨g, c, cc, rfl, lc, mc, rc, hc⟩ := open_tags (P := Tryz.prog) Tryz.underlying24 S (by kernel_rfl) t5
  refine ⟨⟨strV (V.getD 0 (.bool false)), intV (V.getD 1 (.bool false)), intV (V.getD 2 (.bool false)), l, p, g⟩, a, b, c, ca, cb, cc, list6 hl e0 e1 e2 e3 e4 e5, ⟨ra, rb, rc, z0, hb, hc, by show ((l.length : Nat) : Int) ≤ _; omega, by show ((p.length : Nat) : Int) ≤ _; omega, by show ((g.length : Nat) : Int) ≤ _; omega⟩, la, lb, lc⟩
set_option maxRecDepth 100000 in
theorem open_act {H : Type} {enc : TypeId × Value → H} {W : World} {r : Reach} {b0 base : Nat} {v : Value} {d : DataW H} {p : List MemPlace}
    (hv : Value.okWide Tryz.prog W r b0 26 v) (h : DataW.Trod enc Tryz.prog W base (fun _ => true) true 26 v d p) :
    ∃ (A : Acv) (a b c : Option Addr) (ca cb cc : Nat), v = actV A a b c ca cb cc ∧ ActIn W A a b c ∧ A.sm.length ≤ ca ∧ A.lp.length ≤ cb ∧ A.tg.length ≤ cc := by
  have hs := Tryz.underlying26
  obtain ⟨cs, rfl, hsz⟩ := okWide_struct hs hv
  have h6 : cs.size = 6 := hsz.trans (by kernel_rfl)
  obtain ⟨fuel, hf⟩ := h
  obtain ⟨xs, n, _, _, _, hlen, hg⟩ := DataW.trod_struct hs hf
  have hlen6 : xs.length = 6 := hlen
  have e : cs.toList.length = 6 := by simpa using h6
  have fld : ∀ (j : Nat) (f : Field), (Tryz.prog.fieldsOf 26)[j]? = some f → ∃ u n y, cs.toList[j]? = some u ∧ DataW.trod enc Tryz.prog W base (fun _ => true) true n f.type [u] = some y := fun j f hj => by
    simp only [Program.fieldsOf, Tryz.underlying26] at hj
    obtain ⟨o, k⟩ := hone_of (P := Tryz.prog) (by kernel_rfl) j f hj
    have h1 := hg j f hj
    rw [o, k] at h1
    have hlt : j < 6 := (Array.getElem?_eq_some_iff.1 hj).1
    have hjl : j < cs.toList.length := by omega
    have e1 : (cs.toList.drop j).take 1 = [cs.toList[j]] := by rw [List.drop_eq_getElem_cons hjl]; rfl
    rw [show (Value.agg cs).cells.toList = cs.toList from rfl, e1, List.getElem?_eq_getElem (by omega)] at h1
    exact ⟨_, _, _, List.getElem?_eq_getElem hjl, h1⟩
  obtain ⟨A, a, b, c, ca, cb, cc, he, ha, l1, l2, l3⟩ := act_cells e fld
  refine ⟨A, a, b, c, ca, cb, cc, ?_, ha, l1, l2, l3⟩
  unfold actV
  congr 1
  rw [← Array.toList_inj, he]
end Go.Proofs.YtgdepcnfjmobjaaGreat

/- A list of edits that came in: how it reads (beside an activity that came in). -/
namespace Go.Proofs.YtgdepcnfjmobjaaGreat
open Go.ChangeShapes Go.WideShapes Go.ChangeAt Go.RowKit Go.Deep
open Tr (Ed)

theorem readEdits : Tryz.prog.readableRec 27 = true := by kernel_rfl
theorem rowEdits : 27 < Tryz.prog.types.size := of_decide_eq_true (by kernel_rfl)
theorem list5 {V : List Value} {a b c d e : Value} (hl : V.length = 5) (h0 : V[0]? = some a) (h1 : V[1]? = some b) (h2 : V[2]? = some c) (h3 : V[3]? = some d) (h4 : V[4]? = some e) : V = [a, b, c, d, e] := by
  match V, hl with
  | [x, y, z, u, v], _ => simp at h0 h1 h2 h3 h4; rw [h0, h1, h2, h3, h4]

theorem slice_one {P : Program} {W : World} {r : Reach} {b0 : Nat} {t e : TypeId} {v : Value} (hu : P.underlying t = some (.slice e)) (hv : Value.okWide P W r b0 t v) : v.cells.toList = [v] := by
  obtain ⟨a, l, c, rfl⟩ := okWide_slice hu hv
  rfl
/-- cells as an edit -/
def edOf (V : List Value) : Ed := ⟨intV (V.getD 0 (.bool false)), intV (V.getD 1 (.bool false)), intV (V.getD 2 (.bool false)), intV (V.getD 3 (.bool false)), strV (V.getD 4 (.bool false))⟩
theorem range_map_get {α : Type} (f : Nat → α) {n i : Nat} {x : α} (h : ((List.range n).map f)[i]? = some x) : i < n ∧ x = f i := by
  rw [List.getElem?_map] at h
  cases hr : (List.range n)[i]? with
  | none => rw [hr] at h; cases h
  | some y =>
    rw [hr] at h
    obtain ⟨h1, h2⟩ := List.getElem?_eq_some_iff.1 hr
    simp only [List.length_range] at h1
    simp only [List.getElem_range] at h2
    subst h2
    simp only [Option.map_some, Option.some.injEq] at h
    exact ⟨h1, h.symm⟩
set_option maxRecDepth 100000 in
theorem open_edits {H : Type} {enc : TypeId × Value → H} {W : World} {r : Reach} {b0 base : Nat} {v : Value} {d : DataW H} {p : List MemPlace}
    (hv : Value.okWide Tryz.prog W r b0 27 v) (h : DataW.Trod enc Tryz.prog W base (fun _ => true) true 27 v d p) :
    ∃ (l : List Ed) (a : Option Addr) (c : Nat), v = .slice a l.length c ∧ l.length ≤ c ∧ ERow W a l ∧ ∀ x, x ∈ l → x.s.size ≤ maxLen := by
  obtain ⟨fuel, hf⟩ := h
  rw [slice_one Tryz.underlying27 hv] at hf
  obtain ⟨a0, n0, c0, V0, rfl, l0, m0, R0, F0⟩ := open_rowK Tryz.underlying27 Tryz.underlying36 (by kernel_rfl) (by decide) (hone_of (by kernel_rfl)) hf
  have S := Tryz.underlying9
  have I := Tryz.underlying3
  have F : ∀ i, i < n0 → V0 i = edC (edOf (V0 i)) ∧ (edOf (V0 i)).s.size ≤ maxLen := fun i hi =>
    ⟨list5 (F0 i hi).1 (field_int I ((F0 i hi).2 0 _ rfl)) (field_int I ((F0 i hi).2 1 _ rfl)) (field_int I ((F0 i hi).2 2 _ rfl)) (field_int I ((F0 i hi).2 3 _ rfl)) (field_str S ((F0 i hi).2 4 _ rfl)).1, (field_str S ((F0 i hi).2 4 _ rfl)).2⟩
  refine ⟨(List.range n0).map fun i => edOf (V0 i), a0, c0, by rw [List.length_map, List.length_range], by rw [List.length_map, List.length_range]; exact l0, ⟨fun hl => ?_⟩, fun x hx => ?_⟩
  · rw [List.length_map, List.length_range] at hl
    obtain ⟨b, off, e, hb, hc⟩ := R0.here hl
    refine ⟨b, off, e, hb, fun i x hx j u hu => ?_⟩
    obtain ⟨hi, rfl⟩ := range_map_get _ hx
    have hj : j < 5 := (List.getElem?_eq_some_iff.1 hu).1
    rw [← (F i hi).1] at hu
    rw [← hu]
    exact hc i hi j hj
  · obtain ⟨i, hi, rfl⟩ := List.mem_map.1 hx
    exact (F i (List.mem_range.1 hi)).2
end Go.Proofs.YtgdepcnfjmobjaaGreat
