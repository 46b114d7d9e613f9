/- Several texts of this claim in one. -/
import Derived.Test.YtjnfccphodjfiaaGreatMm4
import Derived.Test.YtjnfccphodjfiaaGreatShelf2
import Derived.Test.YtjnfccphodjfiaaGreatShelfS
import Derived.Shelf.SlSortCmp.WholeK
import Derived.Shelf.SlSortCmp.NoneTotal
import Derived.Lib.SlicesCompact
import Derived.Maps.RangeWalk
import Derived.Maps.OwnSet
/- tidied of the program. -/
namespace Go.Proofs.YtjnfccphodjfiaaGreat
open Go.RowKit Go.BigFrame
open Tr (Ed isZero united bef rule1 rule2 rule3 fstIdx)

/-- what tidied returns -/
def TidR (base : Nat) (w : World) (l : List Ed) (e : Ending) (w' : World) : Prop :=
  ∃ v b l', e = .returned (.tuple #[v, .bool b]) ∧ EdOwn w' base v l' ∧ Kept (fun k => base ≤ k) w w' ∧ (Tr.step l = if b = true then Option.some l' else Option.none) ∧ (b = false → l' = l)
theorem Kept.wide {O O' : Nat → Prop} {w w' : World} (h : Kept O w w') (hO : ∀ k, O k → O' k) : Kept O' w w' := ⟨h.os, h.tape, h.output, h.size, fun k hk hn => h.block k hk (fun e => hn (hO k e))⟩
theorem step1 {l m : List Ed} (h : rule1 l = some m) : Tr.step l = some m := by unfold Tr.step; rw [h]; rfl
theorem step2 {l m : List Ed} (h1 : rule1 l = none) (h : rule2 l = some m) : Tr.step l = some m := by unfold Tr.step; rw [h1, h]; rfl
theorem step3 {l : List Ed} (h1 : rule1 l = none) (h2 : rule2 l = none) : Tr.step l = rule3 l := by unfold Tr.step; rw [h1, h2]; rfl
theorem EdOwn.cells {w : World} {base q n cap : Nat} {l : List Ed} (h : EdOwn w base (.slice (some ⟨q, 0, none⟩) n cap) l) {i : Nat} {x : Ed} (hx : l[i]? = some x) :
    w.cell? ⟨q, i * 5, none⟩ = some (.int .i64 x.k) ∧ w.cell? ⟨q, i * 5 + 1, none⟩ = some (.int .i64 x.n) ∧ w.cell? ⟨q, i * 5 + 2, none⟩ = some (.int .i64 x.f) ∧ w.cell? ⟨q, i * 5 + 3, none⟩ = some (.int .i64 x.t) ∧ w.cell? ⟨q, i * 5 + 4, none⟩ = some (.string x.s) :=
  ⟨h.at (flatEd_get l i x hx 0 _ rfl), h.at (flatEd_get l i x hx 1 _ rfl), h.at (flatEd_get l i x hx 2 _ rfl), h.at (flatEd_get l i x hx 3 _ rfl), h.at (flatEd_get l i x hx 4 _ rfl)⟩
theorem swap_list : ∀ {l : List Ed} (k : Nat) {x y : Ed}, l[k]? = some x → l[k + 1]? = some y → (l.set k y).set (k + 1) x = l.take k ++ (y :: x :: l.drop (k + 2))
  | [], _, _, _, h, _ => by simp at h
  | [_], 0, _, _, _, h => by simp at h
  | a :: b :: l, 0, x, y, h1, h2 => by
    simp only [List.getElem?_cons_zero, Option.some.injEq] at h1
    simp only [Nat.zero_add, List.getElem?_cons_succ, List.getElem?_cons_zero, Option.some.injEq] at h2
    subst h1 h2
    rfl
  | a :: l, k + 1, x, y, h1, h2 => by
    have ih := swap_list (l := l) k (by simpa using h1) (by simpa using h2)
    rw [List.set_cons_succ, List.set_cons_succ, ih]
    rfl
set_option maxHeartbeats 4000000 in
set_option maxRecDepth 100000 in
theorem tidied_any (l : List Ed) (base q cap n : Nat) (w : World) (hown : EdOwn w base (.slice (some ⟨q, 0, none⟩) n cap) l) (hl : l.length ≤ 200) (hn0 : 0 < n) (hc : ∀ x, x ∈ l → chkE x = 0) :
    Calls Tryz.prog 77 #[.slice (some ⟨q, 0, none⟩) n cap] w fun e w' => TidR base w l e w' := by
  obtain ⟨hln, hnc, hcm, hbq⟩ := hown.facts
  unfold maxLen at hcm
  obtain ⟨a0, c0, e0, hlc, hrow, _⟩ := hown.row
  injection e0 with e1 e2 e3
  subst e1 e3
  have DI := indexE_any (some ⟨q, 0, none⟩) l cap w hrow (by omega)
  rw [← hln] at DI
  have HO := Lib.hid hown
  have HC := Lib.hid hc
  have hq : ∀ b, b = q → base ≤ b := fun b e => by omega
  have HQ := Lib.hid hq
  rcases Tr.rule1_idx l 0 with ⟨i1, r1⟩ | ⟨j, hj, i1, r1⟩
  case inr =>
    rw [i1, Nat.zero_add] at DI
    have HDI := Lib.hid DI
    have hst := Lib.hid (step1 r1)
    obtain ⟨n1, hn1⟩ : ∃ n1, n = n1 + 1 := ⟨n - 1, by omega⟩
    have DD := fun (W : World) (hb : Below w.heap.size w W) => deleteE_any l base q cap j (j + 1) n n1 W (hown.below hb) hl (by omega) rfl hn1
    simp only [Int.natCast_add, Int.natCast_one] at DD
    have HDD := Lib.hid DD
    have t0 : decide ((0 : Int) ≤ (j : Int)) = true := by rw [decide_eq_true_eq]; omega
    have hj2 : (j : Int) ≤ 200 := by omega
    clear hown hc DI DD i1 r1 hn1 hj hl hln hrow hlc e2 hq
    go_enter Tryz.func77, Tryz.ntmps77
    go_wp2_with fail
    refine HDI.out.mono ?_
    rintro e w1 ⟨rfl, hb1⟩
    have HB1 := Lib.hid hb1
    clear hb1
    go_wp2_with fail
    refine (HDD.out w1 HB1.out).mono ?_
    rintro e w2 ⟨rfl, ho2, hk2⟩
    have HO2 := Lib.hid (And.intro ho2 hk2)
    clear ho2 hk2
    go_wp2_with fail
    go_ret2
    exact ⟨_, true, _, rfl, HO2.out.1, (Kept.of_below HB1.out).trans (HO2.out.2.wide HQ.out), hst.out, fun h => by cases h⟩
  case inl =>
    rw [i1] at DI
    have HDI := Lib.hid DI
    have HR1 := Lib.hid r1
    have HLN := Lib.hid (And.intro hln hl)
    clear DI i1 r1 hown hc hq hln hrow hlc e2 hl
    go_enter Tryz.func77, Tryz.ntmps77
    go_wp2_with fail
    refine HDI.out.mono ?_
    rintro e w1 ⟨rfl, hb1⟩
    obtain ⟨X0, rfl⟩ : ∃ X : Ext w, w1 = X.1 := ⟨⟨w1, hb1⟩, rfl⟩
    clear hb1
    go_wp2_with fail
    go_loopw [5] (fun iv wr => ∃ (k : Nat), iv = .int .i64 ((k : Int) + 1) ∧ k + 1 ≤ n ∧ Hid (rule2 l = (rule2 (l.drop k)).map (l.take k ++ ·)) ∧ ∃ X : Ext w, wr = X.1) (fun iv _ => n - (intOf iv).toNat)
    case atStart => exact ⟨0, rfl, by omega, Lib.hid (Tr.rule2_start l), X0, rfl⟩
    case round =>
      obtain ⟨k, rfl, hk, HE, X, rfl⟩ := hrel
      by_cases hlt : k + 1 < n
      · have t1 : decide ((k : Int) + 1 < (n : Int)) = true := by rw [decide_eq_true_eq]; omega
        obtain ⟨x, hx⟩ : ∃ x, l[k]? = some x := ⟨_, List.getElem?_eq_getElem (by have := HLN.out.1; omega)⟩
        obtain ⟨y, hy⟩ : ∃ y, l[k + 1]? = some y := ⟨_, List.getElem?_eq_getElem (by have := HLN.out.1; omega)⟩
        obtain ⟨hg1, hg2⟩ := Tr.rule2_go hx hy HE.out
        obtain ⟨x0, x1, x2, x3, x4⟩ := (HO.out.below X.2).cells hx
        obtain ⟨y0, y1, y2, y3, y4⟩ := (HO.out.below X.2).cells hy
        have X0 := Ext.ex x0
        have X1 := Ext.ex x1
        have X2 := Ext.ex x2
        have X3 := Ext.ex x3
        have X4 := Ext.ex x4
        have Y0 := Ext.ex y0
        have Y1 := Ext.ex y1
        have Y2 := Ext.ex y2
        have Y3 := Ext.ex y3
        have Y4 := Ext.ex y4
        have DU := Lib.hid (fun W => united_any x y W (HC.out x (List.mem_of_getElem? hx)) (HC.out y (List.mem_of_getElem? hy)))
        have hn200 : n ≤ 200 := by have := HLN.out; omega
        have hwr : IntKind.i64.wrap ((k : Int) + 1 - 1) = (k : Int) := by rw [IntKind.wrap_i64]; omega
        have hsub : (k : Int) + 1 - 1 = (k : Int) := by omega
        have HG := Lib.hid (And.intro hg1 hg2)
        clear x0 x1 x2 x3 x4 y0 y1 y2 y3 y4 hx hy hg1 hg2 HE
        unfold edV at DU
        go_wp2_with fail
        refine held_start (C := fun w' => ∃ Z : Ext X.1, w' = Z.1) (by kernel_rfl) ?_
        obtain ⟨Z0, hZ0⟩ : ∃ Z : Ext X.1, ({ X.1 with drawn := X.1.drawn + 1 } : World) = Z.1 := ⟨⟨{ X.1 with drawn := X.1.drawn + 1 }, ⟨rfl, rfl, rfl, Nat.le_refl _, fun _ _ => rfl⟩⟩, rfl⟩
        rw [hZ0]
        clear hZ0
        refine held_quiet (by kernel_rfl) (fun _ _ d _ _ h => by cases d <;> exact h) ⟨Z0, rfl⟩ [0, 1, 2, 3, 4, 5, 6, 7, 8] 6 _ _ (by kernel_rfl) ?_
        change wpQuiet _ _ _ _ (_ :: _ :: _ :: _ :: _ :: _ :: _ :: _ :: _ :: []) _
        repeat go_big_quiet_step (fail)
        refine wpQuiet_nil ?_
        refine held_do (i := 9) _ rfl (by kernel_rfl) rfl (fun K hK => ?_)
        go_simp
        refine (DU.out _).mono ?_
        rintro e w2 ⟨⟨v, rfl, hv⟩, hb2⟩
        have HB2 := Lib.hid (below_step (below_step X.2 Z0.2) hb2)
        have HV := Lib.hid hv
        obtain ⟨Z2, rfl⟩ : ∃ Z : Ext X.1, w2 = Z.1 := ⟨⟨w2, below_step Z0.2 hb2⟩, rfl⟩
        refine hK _ _ ⟨Z2, rfl⟩ ?_
        clear hK K hb2 hv
        try simp only [Act.put, List.setIfInBounds_toArray, List.set_cons_zero, List.set_cons_succ]
        refine held_quiet (by kernel_rfl) (fun _ _ d _ _ h => by cases d <;> exact h) ⟨Z2, rfl⟩ [10, 11, 12, 13, 14] 0 _ _ (by kernel_rfl) ?_
        change wpQuiet _ _ _ _ (_ :: _ :: _ :: _ :: _ :: []) _
        repeat go_big_quiet_step (fail)
        refine wpQuiet_nil ?_
        refine wpAnyH_done (by kernel_rfl) ?_ _
        cases hu : united x y with
        | none =>
          have HN := Lib.hid (HG.out.2 hu)
          clear hu
          simp only [Option.isSome]
          go_wp2_with fail
          go_roundw
          case rel => exact ⟨k + 1, by go_num, by omega, HN, ⟨Z2.1, HB2.out⟩, rfl⟩
          case measure => simp [intOf]; omega
        | some m =>
          have HS := Lib.hid (step2 HR1.out (HG.out.1 m hu))
          obtain ⟨am, cm, rfl, _, hrm, _⟩ := (HV.out m hu).row
          have hml := Tr.united_len hu
          have DR := replaceE_any l m base q cap k (k + 2) n m.length cm am Z2.1 (HO.out.below HB2.out) hrm rfl hml rfl (by omega) HLN.out.2
          simp only [Int.natCast_add, Int.cast_ofNat_Int] at DR
          have HDR := Lib.hid DR
          have hwr2 : IntKind.i64.wrap ((k : Int) + 1 + 1) = (k : Int) + 2 := by rw [IntKind.wrap_i64]; omega
          clear hu hrm DR
          simp only [Option.isSome]
          go_wp2_with fail
          refine HDR.out.mono ?_
          rintro e w3 ⟨r, rfl, ho3, hk3⟩
          have HO3 := Lib.hid (And.intro ho3 hk3)
          clear ho3 hk3
          go_wp2_with fail
          go_ret2
          exact ⟨_, true, _, rfl, HO3.out.1, (Kept.of_below HB2.out).trans (HO3.out.2.wide HQ.out), HS.out, fun h => by cases h⟩
      · have t1 : decide ((k : Int) + 1 < (n : Int)) = false := by rw [decide_eq_false_iff_not]; omega
        have HR2 := Lib.hid (Tr.rule2_end (by have := HLN.out.1; omega) HE.out)
        clear HE hlt
        go_wp2_with fail
        go_loopw [8] (fun iv wr => ∃ (k : Nat), iv = .int .i64 ((k : Int) + 1) ∧ k + 1 ≤ n ∧ Hid (rule3 l = (rule3 (l.drop k)).map (l.take k ++ ·)) ∧ ∃ X : Ext w, wr = X.1) (fun iv _ => n - (intOf iv).toNat)
        case atStart => exact ⟨0, rfl, by omega, Lib.hid (Tr.rule3_start l), X, rfl⟩
        case round =>
          obtain ⟨k, rfl, hk, HE, X, rfl⟩ := hrel
          by_cases hlt : k + 1 < n
          · have t2 : decide ((k : Int) + 1 < (n : Int)) = true := by rw [decide_eq_true_eq]; omega
            obtain ⟨x, hx⟩ : ∃ x, l[k]? = some x := ⟨_, List.getElem?_eq_getElem (by have := HLN.out.1; omega)⟩
            obtain ⟨y, hy⟩ : ∃ y, l[k + 1]? = some y := ⟨_, List.getElem?_eq_getElem (by have := HLN.out.1; omega)⟩
            obtain ⟨hg1, hg2⟩ := Tr.rule3_go hx hy HE.out
            obtain ⟨x0, x1, x2, x3, x4⟩ := (HO.out.below X.2).cells hx
            obtain ⟨y0, y1, y2, y3, y4⟩ := (HO.out.below X.2).cells hy
            have X0 := Ext.ex x0
            have X1 := Ext.ex x1
            have X2 := Ext.ex x2
            have X3 := Ext.ex x3
            have X4 := Ext.ex x4
            have Y0 := Ext.ex y0
            have Y1 := Ext.ex y1
            have Y2 := Ext.ex y2
            have Y3 := Ext.ex y3
            have Y4 := Ext.ex y4
            have DO := Lib.hid (fun (Z : Ext X.1) => Z.calls (order_any y x Z.1 (chkE_kind (HC.out y (List.mem_of_getElem? hy))) (chkE_kind (HC.out x (List.mem_of_getElem? hx)))))
            have hn200 : n ≤ 200 := by have := HLN.out; omega
            have hwr : IntKind.i64.wrap ((k : Int) + 1 - 1) = (k : Int) := by rw [IntKind.wrap_i64]; omega
            have hsub : (k : Int) + 1 - 1 = (k : Int) := by omega
            have HG := Lib.hid (And.intro hg1 hg2)
            have hov := ordV_neg y x
            have HXY := Lib.hid (And.intro hx hy)
            generalize ordV y x = ov at *
            clear x0 x1 x2 x3 x4 y0 y1 y2 y3 y4 hx hy hg1 hg2 HE
            unfold edV at DO
            cases hb : bef y x
            · rw [hb] at hov
              have HN := Lib.hid (HG.out.2 hb)
              clear hb
              go_wp2_with fail
              refine wp_region_ext (W := X.1) ⟨X.1, Below.refl _ _⟩ (by kernel_rfl) (by kernel_rfl) ?_
              repeat go_big_quiet_step (exact DO.out _)
              refine wpQuiet_nil ?_
              intro _ hw'
              obtain ⟨Z2, rfl⟩ := hw'
              have HB2 := Lib.hid (below_step X.2 Z2.2)
              go_wp2_with fail
              go_roundw
              case rel => exact ⟨k + 1, by go_num, by omega, HN, ⟨Z2.1, HB2.out⟩, rfl⟩
              case measure => simp [intOf]; omega
            · rw [hb] at hov
              have HS := Lib.hid (HG.out.1 hb)
              have fz : ∀ (Z : Ext X.1) (t : Nat), t < cap * 5 → (Z.1.frozen? ⟨q, t, none⟩ = false) := fun Z t ht => ((HO.out.below (below_step X.2 Z.2)).cellE ht).2
              have HFZ := Lib.hid fz
              clear hb fz
              go_wp2_with fail
              refine wp_region_ext (W := X.1) ⟨X.1, Below.refl _ _⟩ (by kernel_rfl) (by kernel_rfl) ?_
              repeat go_big_quiet_step (exact DO.out _)
              refine wpQuiet_nil ?_
              intro _ hw'
              obtain ⟨Z2, rfl⟩ := hw'
              have HB2 := Lib.hid (below_step X.2 Z2.2)
              have f0 := HFZ.out Z2 (k * 5) (by omega)
              have f1 := HFZ.out Z2 (k * 5 + 1) (by omega)
              have f2 := HFZ.out Z2 (k * 5 + 2) (by omega)
              have f3 := HFZ.out Z2 (k * 5 + 3) (by omega)
              have f4 := HFZ.out Z2 (k * 5 + 4) (by omega)
              have g0 := HFZ.out Z2 ((k + 1) * 5) (by omega)
              have g1 := HFZ.out Z2 ((k + 1) * 5 + 1) (by omega)
              have g2 := HFZ.out Z2 ((k + 1) * 5 + 2) (by omega)
              have g3 := HFZ.out Z2 ((k + 1) * 5 + 3) (by omega)
              have g4 := HFZ.out Z2 ((k + 1) * 5 + 4) (by omega)
              go_wp2_with fail
              go_region
              obtain ⟨V1, hV1, ho1, hk1⟩ := (HO.out.below HB2.out).set k (by have := HLN.out.1; omega) y
              obtain ⟨V2, hV2, ho2, hk2⟩ := ho1.set (k + 1) (by rw [List.length_set]; have := HLN.out.1; omega) x
              rw [hV1, hV2]
              rw [swap_list k HXY.out.1 HXY.out.2] at ho2
              have HO2 := Lib.hid (And.intro ho2 (hk1.trans hk2))
              clear hV1 ho1 hk1 hV2 ho2 hk2
              go_wp2_with fail
              go_ret2
              exact ⟨_, true, _, rfl, HO2.out.1.below (Below.refl _ _).drew, ((Kept.of_below HB2.out).trans (HO2.out.2.wide HQ.out)).trans (Kept.of_below (Below.refl _ _).drew), by rw [step3 HR1.out HR2.out, HS.out]; rfl, fun h => by cases h⟩
          · have t2 : decide ((k : Int) + 1 < (n : Int)) = false := by rw [decide_eq_false_iff_not]; omega
            have HR3 := Lib.hid (Tr.rule3_end (by have := HLN.out.1; omega) HE.out)
            have HX := Lib.hid X.2
            clear HE hlt
            go_wp2_with fail
            go_ret2
            exact ⟨_, false, l, rfl, HO.out.below HX.out, Kept.of_below HX.out, by rw [step3 HR1.out HR2.out, HR3.out]; rfl, fun _ => rfl⟩
end Go.Proofs.YtjnfccphodjfiaaGreat

/- tidied at an empty row; the list that a row holds. -/
namespace Go.Proofs.YtjnfccphodjfiaaGreat
open Go.RowKit Go.BigFrame
open Tr (Ed isZero united bef rule1 rule2 rule3 fstIdx)

theorem edC_inj {x y : Ed} (h : edC x = edC y) : x = y := by
  unfold edC at h
  simp only [List.cons.injEq, Value.int.injEq, Value.string.injEq, true_and, and_true] at h
  exact Tr.Ed.ext' h.1 h.2.1 h.2.2.1 h.2.2.2.1 h.2.2.2.2
theorem flatEd_inj : ∀ {l m : List Ed}, l.flatMap edC = m.flatMap edC → l = m
  | [], [], _ => rfl
  | [], y :: m, h => by simp [edC] at h
  | x :: l, [], h => by simp [edC] at h
  | x :: l, y :: m, h => by
    rw [List.flatMap_cons, List.flatMap_cons] at h
    obtain ⟨h1, h2⟩ := List.append_inj h rfl
    rw [edC_inj h1, flatEd_inj h2]
theorem EdOwn.uniq {w : World} {base base' : Nat} {v : Value} {l m : List Ed} (h : EdOwn w base v l) (k : EdOwn w base' v m) : l = m := by
  rcases h.2 with ⟨e, h0⟩ | ⟨g, cap, cur, e, _, hg, _, _, _, ht⟩
  · subst e
    rcases k.2 with ⟨_, k0⟩ | ⟨g', cap', cur', e', _⟩
    · rw [List.length_eq_zero_iff.1 h0, List.length_eq_zero_iff.1 k0]
    · cases e'
  · subst e
    rcases k.2 with ⟨e', _⟩ | ⟨g', cap', cur', e', _, kg, _, _, _, kt⟩
    · cases e'
    · injection e' with e1 e2 e3
      injection e1 with e1
      injection e1 with e1
      subst e1
      rw [hg] at kg
      injection kg with kg
      injection kg with kg
      subst kg
      rw [← e2, ht] at kt
      exact flatEd_inj kt
set_option maxHeartbeats 1000000 in
theorem tidied_nil (a : Option Addr) (c base : Nat) (w : World) (hown : EdOwn w base (.slice a 0 c) []) :
    Calls Tryz.prog 77 #[.slice a 0 c] w fun e w' => TidR base w [] e w' := by
  have DI := indexE_any a [] c w ⟨fun h => by simp at h⟩ (by simp)
  change Calls _ _ _ _ (fun e w' => e = .returned (.int .i64 (-1)) ∧ _) at DI
  have HDI := Lib.hid DI
  have HO := Lib.hid hown
  clear DI hown
  simp only [List.length_nil] at HDI
  go_enter Tryz.func77, Tryz.ntmps77
  go_wp2_with fail
  refine HDI.out.mono ?_
  rintro e w1 ⟨rfl, hb1⟩
  have HB := Lib.hid hb1
  clear hb1
  go_wp2_with fail
  go_loopw [5] (fun iv wr => iv = .int .i64 1 ∧ w1 = wr) (fun _ _ => 0)
  case atStart => exact ⟨rfl, rfl⟩
  case round =>
    obtain ⟨rfl, rfl⟩ := hrel
    go_wp2_with fail
    go_loopw [8] (fun iv wr => iv = .int .i64 1 ∧ w1 = wr) (fun _ _ => 0)
    case atStart => exact ⟨rfl, rfl⟩
    case round =>
      obtain ⟨rfl, rfl⟩ := hrel
      go_wp2_with fail
      go_ret2
      exact ⟨_, false, [], rfl, HO.out.below HB.out, Kept.of_below HB.out, rfl, fun _ => rfl⟩
end Go.Proofs.YtjnfccphodjfiaaGreat

/- Tidy of the program. -/
namespace Go.Proofs.YtjnfccphodjfiaaGreat
open Go.RowKit Go.BigFrame
open Tr (Ed)

/-- what Tidy returns -/
def tidyR (l : List Ed) : List Ed := if chkEL l = 0 then Tr.tidyL l else []
theorem eps_own {w : World} {b : Nat} {v : Value} {l : List Ed} (h : EdOwn w b v l) : Classical.epsilon (fun l => ∃ b, EdOwn w b v l) = l := by
  obtain ⟨b', h'⟩ := Classical.epsilon_spec (p := fun l => ∃ b, EdOwn w b v l) ⟨l, b, h⟩
  exact h'.uniq h
/-- tidied at any row of one's own -/
theorem tidied_own (l : List Ed) (base : Nat) (v : Value) (w : World) (hown : EdOwn w base v l) (hl : l.length ≤ 200) (hc : ∀ x, x ∈ l → chkE x = 0) : Calls Tryz.prog 77 #[v] w fun e w' => TidR base w l e w' := by
  rcases hown.2 with ⟨rfl, h0⟩ | ⟨q, cap, cur, rfl, _⟩
  · obtain rfl := List.length_eq_zero_iff.1 h0
    exact tidied_nil none 0 base w hown
  · cases l with
    | nil => exact tidied_nil _ cap base w hown
    | cons x l => exact tidied_any (x :: l) base q cap _ w hown hl (by simp) hc
theorem kept_from {base : Nat} {w w1 w2 : World} (h : Below w.heap.size w w1) (hb : w.heap.size ≤ base) (hk : Kept (fun k => base ≤ k) w1 w2) : Below w.heap.size w w2 :=
  Kept.below h hk h.size (fun k hk e => by omega)
theorem tidy_next {l m m' : List Ed} {w wr w3 : World} {v v3 : Value} {b3 : Bool}
    (h : EdOwn wr w.heap.size v m ∧ Below w.heap.size w wr ∧ m.length ≤ 200 ∧ (∀ x, x ∈ m → chkE x = 0) ∧ Tr.tidyL l = Tr.tidyL m ∧ (true = false → Tr.step m = none))
    (k : EdOwn w3 w.heap.size v3 m' ∧ Kept (fun k => w.heap.size ≤ k) wr w3 ∧ (Tr.step m = if b3 = true then some m' else none) ∧ (b3 = false → m' = m)) :
    EdOwn w3 w.heap.size v3 m' ∧ Below w.heap.size w w3 ∧ m'.length ≤ 200 ∧ (∀ x, x ∈ m' → chkE x = 0) ∧ Tr.tidyL l = Tr.tidyL m' ∧ (b3 = false → Tr.step m' = none) := by
  obtain ⟨_, h2, h3, h4, h5, _⟩ := h
  obtain ⟨k1, k2, k3, k4⟩ := k
  refine ⟨k1, kept_from h2 (Nat.le_refl _) k2, ?_⟩
  cases b3
  · obtain rfl := k4 rfl
    exact ⟨h3, h4, h5, fun _ => k3⟩
  · exact ⟨Nat.le_trans (Tr.step_mu h3 k3).2 h3, Tr.step_all united_ok k3 h4, by rw [h5, Tr.tidyL_step h3 k3], fun h => by cases h⟩
set_option maxHeartbeats 2000000 in
theorem tidy_any (a : Option Addr) (l : List Ed) (c : Nat) (w : World) (hr : ERow w a l) (hs : ∀ x, x ∈ l → x.s.size ≤ maxLen) :
    Calls Tryz.prog 47 #[.slice a l.length c] w fun e w' => (∃ v, e = .returned (.tuple #[v, .int .i64 (chkEL l)]) ∧ EdOwn w' w.heap.size v (tidyR l)) ∧ Below w.heap.size w w' := by
  have DC := Lib.hid (checkEdits_any a l c w hr hs)
  have DK := Lib.hid (fun (hn : l.length ≤ 1000000) (X : Ext w) => cloneE_any a l c X.1 (hr.below X.2) hn)
  have HT : Hid (tidyR l = if chkEL l = 0 then Tr.tidyL l else []) := Lib.hid rfl
  have HCK := Lib.hid (fun (h : chkEL l = 0) => show l.length ≤ 200 ∧ ∀ x, x ∈ l → chkE x = 0 from by
    unfold chkEL at h
    split at h
    · cases h
    · exact ⟨by omega, chkEs_zero.1 h⟩)
  obtain ⟨n, hnn⟩ : ∃ n, l.length = n := ⟨_, rfl⟩
  rw [hnn] at DC DK ⊢
  have HNN := Lib.hid hnn
  generalize chkEL l = r at *
  clear hr hs hnn
  by_cases h0 : r = 0
  · subst h0
    have HT2 := Lib.hid (HT.out.trans (if_pos rfl))
    have HC := Lib.hid (HCK.out rfl)
    clear HT HCK
    go_enter Tryz.func47, Tryz.ntmps47
    go_wp2_with fail
    refine DC.out.mono ?_
    rintro e w1 ⟨rfl, hb1⟩
    obtain ⟨X, rfl⟩ : ∃ X : Ext w, w1 = X.1 := ⟨⟨w1, hb1⟩, rfl⟩
    clear hb1
    go_wp2_with fail
    refine (DK.out (by have := HC.out.1; have := HNN.out; omega) X).mono ?_
    rintro e w2 ⟨⟨v, rfl, ho⟩, hb2⟩
    have HO := Lib.hid (ho.weaken X.2.size)
    have HB := Lib.hid (X.2.trans (hb2.mono X.2.size))
    clear ho hb2 DC DK
    go_wp2_with fail
    go_loopw [5, 6] (fun vv bv wr => ∃ (b : Bool) (m : List Ed), bv = .bool b ∧ Hid (EdOwn wr w.heap.size vv m ∧ Below w.heap.size w wr ∧ m.length ≤ 200 ∧ (∀ x, x ∈ m → chkE x = 0) ∧ Tr.tidyL l = Tr.tidyL m ∧ (b = false → Tr.step m = none)))
      (fun vv bv wr => 2 * Tr.mu (Classical.epsilon (fun l => ∃ b, EdOwn wr b vv l)) + (match bv with | .bool true => 1 | _ => 0))
    case atStart => exact ⟨true, l, rfl, Lib.hid ⟨HO.out, HB.out, HC.out.1, HC.out.2, rfl, fun h => by cases h⟩⟩
    case round =>
      obtain ⟨b, m, rfl, HH⟩ := hrel
      cases b
      · have HF := Lib.hid (show tidyR l = m by
          obtain ⟨_, _, _, _, h5, h6⟩ := HH.out
          rw [HT2.out, h5, Tr.tidyL_none (h6 rfl)])
        go_wp2_with fail
        go_ret2
        exact ⟨⟨_, rfl, by rw [HF.out]; exact HH.out.1⟩, HH.out.2.1⟩
      · have DT := Lib.hid (tidied_own m w.heap.size _ wr HH.out.1 HH.out.2.2.1 HH.out.2.2.2.1)
        go_wp2_with fail
        refine DT.out.mono ?_
        rintro e w3 ⟨v3, b3, m3, rfl, ho3, hk3, hst3, hsm3⟩
        have HR3 := Lib.hid (And.intro ho3 (And.intro hk3 (And.intro hst3 hsm3)))
        clear ho3 hk3 hst3 hsm3
        go_wp2_with fail
        go_roundw
        case rel => exact ⟨b3, m3, rfl, Lib.hid (tidy_next HH.out HR3.out)⟩
        case measure =>
          obtain ⟨ho3, _, hst3, hsm3⟩ := HR3.out
          rw [eps_own HH.out.1, eps_own ho3]
          cases b3
          · rw [hsm3 rfl]
            simp
          · have := (Tr.step_mu HH.out.2.2.1 hst3).1
            simp only
            omega
  · have hne : (r != 0) = true := by rw [bne_iff_ne]; exact h0
    have HT2 := Lib.hid (HT.out.trans (if_neg h0))
    clear HT HCK DK h0
    go_enter Tryz.func47, Tryz.ntmps47
    go_wp2_with fail
    refine DC.out.mono ?_
    rintro e w1 ⟨rfl, hb1⟩
    have HB := Lib.hid hb1
    clear hb1
    go_wp2_with fail
    go_ret2
    exact ⟨⟨_, rfl, by rw [HT2.out]; exact EdOwn.nil _ _⟩, HB.out⟩
end Go.Proofs.YtjnfccphodjfiaaGreat

/- Edits: small functions of the reference. -/
namespace Go.Proofs.YtjnfccphodjfiaaGreat
open Go.RowKit Go.BigFrame
open Tr (Ed inR)

theorem rout_any (n lo hi : Int) (w : World) : Calls Tryz.prog 37 #[.int .i64 n, .int .i64 lo, .int .i64 hi] w fun e w' => e = .returned (.bool (!inR n lo hi)) ∧ w = w' := by
  by_cases h1 : n < lo
  · have t1 : decide (n < lo) = true := by simpa using h1
    have HV := Lib.hid (show (!inR n lo hi) = true by simp [inR]; omega)
    clear h1
    go_enter Tryz.func37, Tryz.ntmps37
    go_wp2_with fail
    go_ret
    exact ⟨ret_bool HV.out.symm, rfl⟩
  · have t1 : decide (n < lo) = false := by simpa using h1
    have HV := Lib.hid (show (!inR n lo hi) = decide (hi < n) by
      unfold inR
      rw [decide_eq_true (show lo ≤ n by omega), Bool.true_and]
      by_cases h : hi < n
      · rw [decide_eq_true h, decide_eq_false (by omega)]; rfl
      · rw [decide_eq_false h, decide_eq_true (by omega)]; rfl)
    clear h1
    go_enter Tryz.func37, Tryz.ntmps37
    go_wp2_with fail
    go_ret
    exact ⟨ret_bool HV.out.symm, rfl⟩
def usesT (k : Int) : Bool := decide (k = 1) || decide (k = 3) || decide (k = 4) || decide (k = 11)
def usesS (k : Int) : Bool := decide (k = 8) || decide (k = 11)
theorem rspan_any (k : Int) (w : World) : Calls Tryz.prog 40 #[.int .i64 k] w fun e w' => e = .returned (.bool (usesS k)) ∧ w = w' := by
  by_cases h1 : k = 8
  · subst h1
    go_enter Tryz.func40, Tryz.ntmps40
    go_wp2_with fail
    go_ret
    exact ⟨rfl, rfl⟩
  · have b1 := beqF h1
    have HV := Lib.hid (show usesS k = decide (k = 11) by unfold usesS; rw [decide_eq_false h1, Bool.false_or])
    clear h1
    go_enter Tryz.func40, Tryz.ntmps40
    go_wp2_with fail
    go_ret
    exact ⟨ret_bool HV.out.symm, rfl⟩
theorem rtext_any (k : Int) (w : World) : Calls Tryz.prog 38 #[.int .i64 k] w fun e w' => e = .returned (.bool (usesT k)) ∧ w = w' := by
  by_cases h : k = 1 ∨ k = 3 ∨ k = 4
  · rcases h with rfl | rfl | rfl
    all_goals
      go_enter Tryz.func38, Tryz.ntmps38
      go_wp2_with fail
      go_ret
      exact ⟨rfl, rfl⟩
  · have b1 : (k == 1) = false := beqF (by omega)
    have b3 : (k == 3) = false := beqF (by omega)
    have b4 : (k == 4) = false := beqF (by omega)
    have HV := Lib.hid (show usesT k = decide (k = 11) by unfold usesT; rw [decide_eq_false (by omega), decide_eq_false (by omega), decide_eq_false (by omega)]; rfl)
    clear h
    go_enter Tryz.func38, Tryz.ntmps38
    go_wp2_with fail
    go_ret
    exact ⟨ret_bool HV.out.symm, rfl⟩
end Go.Proofs.YtjnfccphodjfiaaGreat

/- How well a shift fits, of both. (printed by wip/t/gen_tfl.py) -/
namespace Go.Proofs.YtjnfccphodjfiaaGreat
open Go.RowKit Go.BigFrame
open Tr (inR)
open Ft (Mt)

/-- two operations that may come up -/
theorem held_two {P : Program} {Q : Exit → Act → World → Prop} {C : World → Prop} {l : List Oper} {i j fuel : Nat} {listed : Array Bool} {a : Act} {w : World} (oi oj : Oper) (hi : nth l i = some oi) (hj : nth l j = some oj) (hr : Region.ready .any l.toArray listed = [i, j])
    (hwi : Region.wanted oi (yielded l.toArray a.tmps) = true) (hwj : Region.wanted oj (yielded l.toArray a.tmps) = true)
    (h1 : ∀ K : Act → World → Prop, (∀ a' w', C w' → wpAnyH P .any l.toArray Q C fuel (listed.setIfInBounds i true) a' w' → K a' w') → oi.wp P a w K Q)
    (h2 : ∀ K : Act → World → Prop, (∀ a' w', C w' → wpAnyH P .any l.toArray Q C fuel (listed.setIfInBounds j true) a' w' → K a' w') → oj.wp P a w K Q) : wpAnyH P .any l.toArray Q C (fuel + 1) listed a w := by
  rw [nth_eq] at hi hj
  refine wpAnyH_all hr (by simp) fun q hq => ?_
  simp only [List.mem_cons, List.not_mem_nil, or_false] at hq
  rcases hq with rfl | rfl
  · unfold wpOp
    simp only [hi, hwi, if_true]
    exact Or.inl (h1 _ fun a' w' h3 h4 => ⟨h3, h4⟩)
  · unfold wpOp
    simp only [hj, hwj, if_true]
    exact Or.inl (h2 _ fun a' w' h3 h4 => ⟨h3, h4⟩)
def dist2 (s t : Sm) : Int := min ((s.x - t.x) * (s.x - t.x) + (s.y - t.y) * (s.y - t.y)) 1000000000000
def secOf (A : Acv) (bs shift : Int) (s : Sm) : Int := bs + s.tm - shift - A.start
def mtStep (A : Acv) (bs shift : Int) (m : Mt) (s : Sm) : Mt :=
  if A.sm.length = 0 then m else if inR (secOf A bs shift s) 0 (spanS A.sm) = true then ⟨m.shift, m.many + 1, m.sum + dist2 s (whereS A.sm (secOf A bs shift s))⟩ else m
def mtFold (A : Acv) (bs shift : Int) (l : List Sm) : Mt := l.foldl (mtStep A bs shift) ⟨shift, 0, 0⟩
theorem mtFold_succ {A : Acv} {bs shift : Int} {l : List Sm} {k : Nat} {s : Sm} (hs : l[k]? = some s) : mtFold A bs shift (l.take (k + 1)) = mtStep A bs shift (mtFold A bs shift (l.take k)) s := by
  obtain ⟨h1, e1⟩ := List.getElem?_eq_some_iff.1 hs
  unfold mtFold
  rw [List.take_succ_eq_append_getElem h1, e1, List.foldl_append]
  rfl
theorem sq_nonneg (a : Int) : 0 ≤ a * a := by
  rw [← Int.natAbs_mul_self]
  exact Int.natCast_nonneg _
theorem sq_le {a : Int} (h1 : -400000001 ≤ a) (h2 : a ≤ 400000001) : a * a ≤ 160000000800000001 := by
  rw [← Int.natAbs_mul_self]
  have : a.natAbs * a.natAbs ≤ 400000001 * 400000001 := Nat.mul_le_mul (by omega) (by omega)
  omega
theorem dist2_bounds (s t : Sm) : 0 ≤ dist2 s t ∧ dist2 s t ≤ 1000000000000 := by
  unfold dist2
  have h1 := sq_nonneg (s.x - t.x)
  have h2 := sq_nonneg (s.y - t.y)
  generalize (s.x - t.x) * (s.x - t.x) = a at *
  generalize (s.y - t.y) * (s.y - t.y) = b at *
  omega
/-- bounds behind k samples -/
structure MtAt (shift : Int) (k : Nat) (m : Mt) : Prop where
  s : m.shift = shift
  m1 : 0 ≤ m.many
  m2 : m.many ≤ k
  u1 : 0 ≤ m.sum
  u2 : m.sum ≤ 1000000000000 * k
theorem MtAt.step {A : Acv} {bs shift : Int} {k : Nat} {m : Mt} (h : MtAt shift k m) (s : Sm) : MtAt shift (k + 1) (mtStep A bs shift m s) := by
  have hd := dist2_bounds s (whereS A.sm (secOf A bs shift s))
  unfold mtStep
  split
  · exact ⟨h.s, h.m1, by have := h.m2; omega, h.u1, by have := h.u2; omega⟩
  · split
    · exact ⟨h.s, by have := h.m1; simp only; omega, by have := h.m2; simp only; omega, by have := h.u1; simp only; omega, by have := h.u2; simp only; omega⟩
    · exact ⟨h.s, h.m1, by have := h.m2; omega, h.u1, by have := h.u2; omega⟩
theorem mtFold_at (A : Acv) (bs shift : Int) (l : List Sm) : ∀ k, k ≤ l.length → MtAt shift k (mtFold A bs shift (l.take k)) := by
  intro k
  induction k with
  | zero => exact fun _ => ⟨rfl, Int.le_refl _, Int.le_refl _, Int.le_refl _, by show (0 : Int) ≤ 1000000000000 * ((0 : Nat) : Int); simp⟩
  | succ k ih =>
    intro hk
    obtain ⟨s, hs⟩ : ∃ s, l[k]? = some s := ⟨_, List.getElem?_eq_getElem (by omega)⟩
    rw [mtFold_succ hs]
    exact (ih (by omega)).step s
def shiftedF (A B : Acv) (shift : Int) : Mt := mtFold A B.start shift B.sm
theorem shiftedF_at (A B : Acv) (shift : Int) : MtAt shift B.sm.length (shiftedF A B shift) := by
  have := mtFold_at A B.start shift B.sm B.sm.length (Nat.le_refl _)
  rwa [List.take_length] at this
theorem MtAt.ok {shift : Int} {k : Nat} {m : Mt} (h : MtAt shift k m) (hk : k ≤ 400) (h1 : -3600 ≤ shift) (h2 : shift ≤ 3600) : MtOk m :=
  ⟨by have := h.s; omega, by have := h.s; omega, h.m1, by have := h.m2; omega, h.u1, by have := h.u2; omega⟩
/-- activities that Fit takes -/
structure FitOk (A : Acv) : Prop where
  sm : SmOk A.start A.sm
  n : A.sm.length ≤ 400
  st1 : 0 ≤ A.start
  st2 : A.start ≤ 86399999999
theorem where_near {A : Acv} (h : FitOk A) (hne : 0 < A.sm.length) {n : Int} (h0 : 0 ≤ n) (h1 : n ≤ spanS A.sm) :
    (-300000001 ≤ (whereS A.sm n).x ∧ (whereS A.sm n).x ≤ 300000001) ∧ (-300000001 ≤ (whereS A.sm n).y ∧ (whereS A.sm n).y ≤ 300000001) := by
  obtain ⟨q, hq, hw⟩ := where_cases h.sm hne h0 h1
  rcases hw with ⟨_, e, _⟩ | ⟨_, _, j, p, _, _, hb, e⟩
  · have := range_xyz (h.sm.upto _ q hq).2.2
    rw [e]
    omega
  · obtain ⟨px, py, _⟩ := range_xyz hb.rp
    obtain ⟨qx, qy, _⟩ := range_xyz hb.rq
    have a0 := hb.h0
    have a1 := hb.h1
    have a2 := hb.h2
    have a3 := hb.h3
    have a4 := hb.h4
    have bx := betw_near px qx (part := n - p.tm) (whole := q.tm - p.tm) (by omega) (by omega) (by omega) (by omega)
    have by_ := betw_near py qy (part := n - p.tm) (whole := q.tm - p.tm) (by omega) (by omega) (by omega) (by omega)
    rw [e]
    exact ⟨bx, by_⟩
end Go.Proofs.YtjnfccphodjfiaaGreat

/- A drawn region's operations one by one: as in Kp, min, max and nil checks among the calm ones. (Kp's own lines, turned by a program.) -/
namespace Go.Proofs.YtjnfccphodjfiaaGreat
open Go.RowKit Go.BigFrame
/-- operations that yield a value, or panic, and do nothing else -/
def isCalm4 : Op → Bool
  | .nilCheck _ => true
  | op => isCalm3 op
theorem calm_value4 {P : Program} {o : Oper} {ρ : Operand → Value} {w w' : World} {n : Next} (hc : isCalm4 o.op = true) (h : (execOp ρ o).run P w = .ok n w') : n ≠ .skip ∧ ∀ f args, n ≠ .enter f args := by
  obtain ⟨dst, op, type, pos, after, guard⟩ := o
  cases op
  case nilCheck x =>
    simp only [execOp] at h
    split at h
    · simp [go_sem, goPanic] at h
    · simp [go_sem, goPanic] at h
    · simp [go_sem, goPanic] at h
    · split at h
      · simp [go_sem, goPanic] at h
      · simp only [Sem.run_bind] at h
        rename_i name first captured _ _ t v hf
        simp only [go_sem] at h
        rw [show Sem.run P program w = .ok P w from rfl] at h
        simp only [Result.andThen_ok] at h
        cases hr : (nilAhead (P.types.size + 100) t v name).run P w with
        | ok b w1 =>
          rw [hr] at h
          simp only [Result.andThen_ok] at h
          split at h
          · simp [go_sem, unsupported] at h
          · simp at h
            exact ⟨by rw [← h.1]; simp, by rw [← h.1]; simp⟩
        | halt e w1 =>
          rw [hr] at h
          simp at h
      · simp at h
        exact ⟨by rw [← h.1]; simp, by rw [← h.1]; simp⟩
    · simp at h
      exact ⟨by rw [← h.1]; simp, by rw [← h.1]; simp⟩
  all_goals
    obtain ⟨x, rfl⟩ := calm_value3 (by exact hc) h
    exact ⟨by simp, by simp⟩
section
variable {P : Program} {ops : Array Oper} {Q : Exit → Act → World → Prop} {C : World → Prop}
theorem yieldsIf_of_quiet4 {o : Oper} {a : Act} {v : Value} (hc : isCalm4 o.op = true) (hw : Region.wanted o (yielded ops a.tmps) = true) (h : ∀ w, C w → o.quietAt P a C w v) : YieldsIf P ops C o v a := by
  refine Or.inl ⟨hw, fun w hC => ?_⟩
  have h1 := h w hC
  unfold Oper.quietAt at h1
  cases hr : (execOp a.eval o).run P w with
  | ok n w' =>
    rw [hr] at h1
    obtain ⟨n1, n2⟩ := calm_value4 hc hr
    cases n with
    | value x =>
      simp only [Oper.quietUpon] at h1
      rw [h1.1, h1.2]
    | skip => exact absurd rfl n1
    | enter f args => exact absurd rfl (n2 f args)
    | _ => simp [Oper.quietUpon] at h1
  | halt e w' => rw [hr] at h1; simp [Oper.quietUpon] at h1
/-- may these come up now, one behind the other, and is each apart from all that could come before it? -/
def calmB4 (ops : Array Oper) : List Nat → Array Bool → Bool
  | [], _ => true
  | i :: is, listed => ((ops[i]?).map fun o => isCalm4 o.op).getD false && Region.free .any ops listed i && (Region.ready .any ops listed).contains i && calmB4 ops is (listed.setIfInBounds i true)
theorem held_calm4 (hsel : Region.noSelect ops = true) (hQ : ∀ c a d v w, Q (.panic c) (Act.put a d v) w → Q (.panic c) a w) {w : World} (hC : C w) : ∀ (is : List Nat) (fuel : Nat) (listed : Array Bool) (a : Act),
    calmB4 ops is listed = true → wpQuiet P ops C (fun a' => wpAnyH P .any ops Q C fuel (listAll is listed) a' w) (is.filterMap fun i => ops[i]?) a → wpAnyH P .any ops Q C (fuel + is.length) listed a w
  | [], _, _, _, _, h => h
  | i :: is, fuel, listed, a, hB, h => by
    simp only [calmB4, Bool.and_eq_true] at hB
    obtain ⟨⟨⟨h1, h2⟩, h3⟩, h4⟩ := hB
    cases ho : ops[i]? with
    | none => rw [ho] at h1; simp at h1
    | some o =>
      rw [ho] at h1
      simp only [Option.map_some, Option.getD_some] at h1
      rw [List.filterMap_cons, ho] at h
      simp only [wpQuiet] at h
      have e : fuel + (i :: is).length = (fuel + is.length) + 1 := by simp; omega
      rw [e]
      by_cases hw : Region.wanted o (yielded ops a.tmps) = true
      · rw [if_pos hw] at h
        obtain ⟨v, hv, hn⟩ := h
        exact wpAnyH_take ho hsel h2 h3 (fun c a w => hQ c a _ _ w) (yieldsIf_of_quiet4 h1 hw hv) hC (held_calm4 hsel hQ hC is fuel _ _ h4 hn)
      · rw [if_neg hw] at h
        exact wpAnyH_take ho hsel h2 h3 (fun c a w => hQ c a _ _ w) (Or.inr ⟨by simpa using hw, rfl⟩) hC (held_calm4 hsel hQ hC is fuel _ _ h4 h)
theorem held_quiet4 {l : List Oper} (hsel : Region.noSelect l.toArray = true) (hQ : ∀ c a d v w, Q (.panic c) (Act.put a d v) w → Q (.panic c) a w) {w : World} (hC : C w) (is : List Nat) (fuel : Nat) (listed : Array Bool) (a : Act)
    (hB : calmB4 l.toArray is listed = true) (h : wpQuiet P l.toArray C (fun a' => wpAnyH P .any l.toArray Q C fuel (listAll is listed) a' w) (is.filterMap (nth l)) a) : wpAnyH P .any l.toArray Q C (fuel + is.length) listed a w :=
  held_calm4 hsel hQ hC is fuel listed a hB (by rw [show (fun i => l.toArray[i]?) = nth l from funext fun i => (nth_eq l i).symm]; exact h)
end
end Go.Proofs.YtjnfccphodjfiaaGreat

/- A drawn region whose stores come behind all that is read: what is read is as it was till the first store (number s) comes. (The kit's wpAnyH, its condition asked only till then.) -/
namespace Go.Proofs.YtjnfccphodjfiaaGreat
open Go.RowKit Go.BigFrame
section
variable {P : Program} {ops : Array Oper} {Q : Exit → Act → World → Prop} {C : World → Prop} {s : Nat}
/-- as wpAnyH; C is asked while number s has not come -/
def wpAnyS (P : Program) (ops : Array Oper) (Q : Exit → Act → World → Prop) (s : Nat) (C : World → Prop) : Nat → Array Bool → Act → World → Prop
  | 0, listed, a, w => Region.ready .any ops listed = [] ∧ Q .normal a w
  | fuel + 1, listed, a, w =>
    (Region.ready .any ops listed = [] → Q .normal a w) ∧
    ∀ i ∈ Region.ready .any ops listed, wpOp P ops Q i (fun a' w' => ((listed.setIfInBounds i true).getD s true = false → C w') ∧ wpAnyS P ops Q s C fuel (listed.setIfInBounds i true) a' w') a w
theorem wpAny_of_S : ∀ (fuel : Nat) (listed : Array Bool) (a : Act) (w : World), wpAnyS P ops Q s C fuel listed a w → wpAny P .any ops Q fuel listed a w
  | 0, _, _, _, h => h
  | fuel + 1, _, _, _, h => ⟨h.1, fun i hi => wpOp_mono (fun a' w' h' => wpAny_of_S fuel _ a' w' h'.2) (h.2 i hi)⟩
/-- what has come had all that it waits for come ahead of it -/
def Cl (ops : Array Oper) (listed : Array Bool) : Prop := ∀ j, listed.getD j true = true → ∀ oj, ops[j]? = some oj → ∀ e ∈ oj.after, Region.binds .any e = true → listed.getD e.on false = true
theorem Cl.step {listed : Array Bool} (h : Cl ops listed) {j : Nat} (hj : j ∈ Region.ready .any ops listed) : Cl ops (listed.setIfInBounds j true) := by
  intro s hs os ho e he hb
  obtain ⟨_, oj, hoj, hall⟩ := mem_ready.1 hj
  by_cases e1 : j = s
  · subst e1
    rw [ho] at hoj
    injection hoj with hoj
    subst hoj
    exact getD_set_true (hall e he hb)
  · rw [getD_set_ne true e1] at hs
    exact getD_set_true (h s hs os ho e he hb)
def waitsD (ops : Array Oper) (s i : Nat) : Bool := ((ops[s]?).map fun o => o.after.any fun e => Region.binds .any e && (e.on == i)).getD false
def waits (ops : Array Oper) (s i : Nat) : Bool := waitsD ops s i || (List.range ops.size).any fun m => waitsD ops s m && waitsD ops m i
theorem Cl.dep {listed : Array Bool} (h : Cl ops listed) {j i : Nat} (hw : waitsD ops j i = true) (hi : listed.getD i true = false) : listed.getD j true = false := by
  cases hs : listed.getD j true with
  | false => rfl
  | true =>
    unfold waitsD at hw
    cases ho : ops[j]? with
    | none => rw [ho] at hw; simp at hw
    | some os =>
      rw [ho] at hw
      simp only [Option.map_some, Option.getD_some] at hw
      obtain ⟨e, he, h2⟩ := Array.any_eq_true'.1 hw
      rw [Bool.and_eq_true, beq_iff_eq] at h2
      have h3 := h j hs os ho e he h2.1
      rw [h2.2] at h3
      rw [Array.getD_eq_getD_getElem?] at hi h3
      cases hx : listed[i]? with
      | none => rw [hx] at hi; cases hi
      | some b => rw [hx] at hi h3; simp at hi h3; rw [hi] at h3; cases h3
theorem Cl.not {listed : Array Bool} (h : Cl ops listed) {i : Nat} (hw : waits ops s i = true) (hi : listed.getD i true = false) : listed.getD s true = false := by
  unfold waits at hw
  rw [Bool.or_eq_true] at hw
  rcases hw with hw | hw
  · exact h.dep hw hi
  · obtain ⟨m, _, h2⟩ := List.any_eq_true.1 hw
    rw [Bool.and_eq_true] at h2
    exact h.dep h2.1 (h.dep h2.2 hi)
theorem wpAnyS_first {i : Nat} {oi : Oper} {v : Value} (hi : ops[i]? = some oi) (hsel : ∀ (j : Nat) (o : Oper) cs b, ops[j]? = some o → o.op ≠ .select cs b) (his : i ≠ s) (hwt : waits ops s i = true)
    (hQ : ∀ c a w, Q (.panic c) (a.put oi.dst v) w → Q (.panic c) a w) :
    ∀ (fuel : Nat) (listed : Array Bool) (a : Act) (w : World), Cl ops listed →
      (∀ j oj, ops[j]? = some oj → j ≠ i → listed.getD j true = false → (∀ e ∈ oj.after, Region.binds .any e = true → e.on ≠ i) → oi.apart ops oj = true) →
      i ∈ Region.ready .any ops listed → YieldsIf P ops C oi v a → (listed.getD s true = false → C w) →
      wpAnyS P ops Q s C fuel (listed.setIfInBounds i true) (a.put oi.dst v) w → wpAnyS P ops Q s C (fuel + 1) listed a w := by
  intro fuel
  induction fuel with
  | zero =>
    intro listed a w hcl _ hr hy hS H
    have h0 := hcl.not hwt (mem_ready.1 hr).1
    refine ⟨fun h => (by rw [h] at hr; cases hr), fun j hj => ?_⟩
    by_cases hji : j = i
    · subst hji; exact hy.wpOp hi (hS h0) ⟨fun _ => hS h0, H⟩
    · have := ready_mono hj hji
      rw [H.1] at this
      cases this
  | succ fuel ih =>
    intro listed a w hcl hfree hr hy hS H
    have h0 := hcl.not hwt (mem_ready.1 hr).1
    refine ⟨fun h => (by rw [h] at hr; cases hr), fun j hj => ?_⟩
    by_cases hji : j = i
    · subst hji; exact hy.wpOp hi (hS h0) ⟨fun _ => hS h0, H⟩
    · have h1 := H.2 j (ready_mono hj hji)
      obtain ⟨hjun, oj, hoj, hall⟩ := mem_ready.1 hj
      have hnot : ∀ e ∈ oj.after, Region.binds .any e = true → e.on ≠ i := fun e he hb heq => by
        have h1 := hall e he hb
        have h0 := (mem_ready.1 hr).1
        rw [heq] at h1
        rcases Nat.lt_or_ge i listed.size with h' | h'
        · simp [h'] at h0 h1; rw [h0] at h1; cases h1
        · simp [Array.getElem?_eq_none h'] at h1
      have h2 := wpOp_putIf hoj (hfree j oj hoj hji hjun hnot) (fun cs b => hsel i oi cs b hi) (fun cs b => hsel j oj cs b hoj) hQ hy h1
      have hfree' : ∀ k ok, ops[k]? = some ok → k ≠ i → (listed.setIfInBounds j true).getD k true = false →
          (∀ e ∈ ok.after, Region.binds .any e = true → e.on ≠ i) → oi.apart ops ok = true := fun k ok hk hki hun hno => by
        refine hfree k ok hk hki ?_ hno
        by_cases hjk : j = k
        · subst hjk; exact hjun
        · rw [getD_set_ne true hjk] at hun; exact hun
      refine wpOp_mono (fun a' w' h3 => ?_) h2
      have hS' : (listed.setIfInBounds j true).getD s true = false → C w' := fun hs => h3.2.1 (by rw [Array.setIfInBounds_comm _ _ (Ne.symm hji), getD_set_ne true his]; exact hs)
      refine ⟨hS', ih (listed.setIfInBounds j true) a' w' (hcl.step hj) hfree' (ready_mono hr (Ne.symm hji)) h3.1 hS' ?_⟩
      rw [Array.setIfInBounds_comm _ _ hji]
      exact h3.2.2
def calmS (ops : Array Oper) (s : Nat) : List Nat → Array Bool → Bool
  | [], _ => true
  | i :: is, listed => (((ops[i]?).map fun o => isCalm4 o.op).getD false && Region.free .any ops listed i && (Region.ready .any ops listed).contains i && (i != s) && waits ops s i) && calmS ops s is (listed.setIfInBounds i true)
def clB (ops : Array Oper) (_s : Nat) (listed : Array Bool) : Bool := (List.range ops.size).all fun j => !listed.getD j true || ((ops[j]?).map fun o => o.after.all fun e => !Region.binds .any e || listed.getD e.on false).getD true
theorem cl_of {listed : Array Bool} (h : clB ops s listed = true) : Cl ops listed := fun j hj oj ho e he hb => by
  have hlt : j < ops.size := (Array.getElem?_eq_some_iff.1 ho).1
  have h1 := List.all_eq_true.1 h j (List.mem_range.2 hlt)
  rw [hj, ho] at h1
  simp only [Bool.not_true, Bool.false_or, Option.map_some, Option.getD_some] at h1
  have h2 := Array.all_eq_true'.1 h1 e he
  rw [hb] at h2
  simpa using h2
theorem held_calmS (hsel : Region.noSelect ops = true) (hQ : ∀ c a d v w, Q (.panic c) (Act.put a d v) w → Q (.panic c) a w) {w : World} (hC : C w) : ∀ (is : List Nat) (fuel : Nat) (listed : Array Bool) (a : Act), Cl ops listed →
    calmS ops s is listed = true → wpQuiet P ops C (fun a' => wpAnyS P ops Q s C fuel (listAll is listed) a' w) (is.filterMap fun i => ops[i]?) a → wpAnyS P ops Q s C (fuel + is.length) listed a w
  | [], _, _, _, _, _, h => h
  | i :: is, fuel, listed, a, hcl, hB, h => by
    simp only [calmS, Bool.and_eq_true] at hB
    obtain ⟨⟨⟨⟨⟨h1, h2⟩, h3⟩, h5⟩, h6⟩, h4⟩ := hB
    have hr : i ∈ Region.ready .any ops listed := by simpa using h3
    cases ho : ops[i]? with
    | none => rw [ho] at h1; simp at h1
    | some o =>
      rw [ho] at h1
      simp only [Option.map_some, Option.getD_some] at h1
      rw [List.filterMap_cons, ho] at h
      simp only [wpQuiet] at h
      have e : fuel + (i :: is).length = (fuel + is.length) + 1 := by simp; omega
      rw [e]
      by_cases hw : Region.wanted o (yielded ops a.tmps) = true
      · rw [if_pos hw] at h
        obtain ⟨v, hv, hn⟩ := h
        exact wpAnyS_first ho (Region.noSelect_spec hsel) (by simpa using h5) h6 (fun c a w => hQ c a _ _ w) _ _ _ _ hcl (Region.free_spec ho h2) hr (yieldsIf_of_quiet4 h1 hw hv) (fun _ => hC) (held_calmS hsel hQ hC is fuel _ _ (hcl.step hr) h4 hn)
      · rw [if_neg hw] at h
        exact wpAnyS_first ho (Region.noSelect_spec hsel) (by simpa using h5) h6 (fun c a w => hQ c a _ _ w) _ _ _ _ hcl (Region.free_spec ho h2) hr (Or.inr ⟨by simpa using hw, rfl⟩) (fun _ => hC) (held_calmS hsel hQ hC is fuel _ _ (hcl.step hr) h4 h)
/-- calm operations that s waits for, one behind the other -/
theorem late_quiet {l : List Oper} (hsel : Region.noSelect l.toArray = true) (hQ : ∀ c a d v w, Q (.panic c) (Act.put a d v) w → Q (.panic c) a w) {w : World} (hC : C w) (is : List Nat) (fuel : Nat) (listed : Array Bool) (a : Act)
    (hcl : clB l.toArray s listed = true) (hB : calmS l.toArray s is listed = true) (h : wpQuiet P l.toArray C (fun a' => wpAnyS P l.toArray Q s C fuel (listAll is listed) a' w) (is.filterMap (nth l)) a) : wpAnyS P l.toArray Q s C (fuel + is.length) listed a w :=
  held_calmS hsel hQ hC is fuel listed a (cl_of hcl) hB (by rw [show (fun i => l.toArray[i]?) = nth l from funext fun i => (nth_eq l i).symm]; exact h)
/-- one operation that alone may come up -/
theorem late_do {l : List Oper} {i fuel : Nat} {listed : Array Bool} {a : Act} {w : World} (o : Oper) (hi : nth l i = some o) (hr : Region.ready .any l.toArray listed = [i]) (hw : Region.wanted o (yielded l.toArray a.tmps) = true)
    (h : ∀ K : Act → World → Prop, (∀ a' w', ((listed.setIfInBounds i true).getD s true = false → C w') → wpAnyS P l.toArray Q s C fuel (listed.setIfInBounds i true) a' w' → K a' w') → o.wp P a w K Q) : wpAnyS P l.toArray Q s C (fuel + 1) listed a w := by
  rw [nth_eq] at hi
  refine ⟨fun h0 => absurd (hr ▸ h0) (by simp), fun j hj => ?_⟩
  rw [hr] at hj
  simp only [List.mem_singleton] at hj
  subst hj
  unfold wpOp
  simp only [hi, hw, if_true]
  exact Or.inl (h _ fun a' w' h1 h2 => ⟨h1, h2⟩)
theorem late_done {listed : Array Bool} {a : Act} {w : World} (hr : Region.ready .any ops listed = []) (h : Q .normal a w) : ∀ fuel, wpAnyS P ops Q s C fuel listed a w
  | 0 => ⟨hr, h⟩
  | _ + 1 => ⟨fun _ => h, by rw [hr]; simp⟩
theorem late_start {id : Nat} {a : Act} {w : World} {l : List Oper} (hm : P.follows .mixedOrders = true)
    (h : wpAnyS P l.toArray Q s C l.length (Array.replicate l.length false) a { w with drawn := w.drawn + 1 }) : (Code.region id l.toArray true).wp P Q a w :=
  wp_region_any hm (by simpa using wpAny_of_S _ _ _ _ h)
end
end Go.Proofs.YtjnfccphodjfiaaGreat

/- A block that holds an activity; record.Clone. -/
namespace Go.Proofs.YtjnfccphodjfiaaGreat
open Go.RowKit Go.BigFrame

/-- block g holds an activity -/
def AcB (w : World) (g : Nat) (nm : ByteArray) (sp st : Int) (vs vl vt : Value) : Prop := w.heap[g]? = some (.cells #[.string nm, .int .i64 sp, .int .i64 st, vs, vl, vt] 26 (0, 0))
section
variable {w w' : World} {g : Nat} {nm : ByteArray} {sp st : Int} {vs vl vt : Value}
theorem AcB.cell (h : AcB w g nm sp st vs vl vt) : w.cell? ⟨g, 0, none⟩ = some (.string nm) ∧ w.cell? ⟨g, 1, none⟩ = some (.int .i64 sp) ∧ w.cell? ⟨g, 2, none⟩ = some (.int .i64 st) ∧ w.cell? ⟨g, 3, none⟩ = some vs ∧ w.cell? ⟨g, 4, none⟩ = some vl ∧ w.cell? ⟨g, 5, none⟩ = some vt := by
  unfold AcB at h
  simp [World.cell?, h]
theorem AcB.free (h : AcB w g nm sp st vs vl vt) (i : Nat) : w.frozen? ⟨g, i, none⟩ = false := by
  unfold AcB at h
  simp [World.frozen?, h]
theorem AcB.lt (h : AcB w g nm sp st vs vl vt) : g < w.heap.size := lt_of_block h
theorem AcB.below (h : AcB w g nm sp st vs vl vt) (hb : Below w.heap.size w w') : AcB w' g nm sp st vs vl vt := (hb.block g h.lt).trans h
theorem AcB.kept {O : Nat → Prop} (h : AcB w g nm sp st vs vl vt) (hk : Kept O w w') (ho : ¬ O g) : AcB w' g nm sp st vs vl vt := (hk.block g h.lt ho).trans h
theorem AcB.set2 (h : AcB w g nm sp st vs vl vt) (x : Int) : AcB (w.setCell ⟨g, 2, none⟩ (.int .i64 x)) g nm sp x vs vl vt := set_cells h
theorem AcB.set3 (h : AcB w g nm sp st vs vl vt) (x : Value) : AcB (w.setCell ⟨g, 3, none⟩ x) g nm sp st x vl vt := set_cells h
theorem AcB.set4 (h : AcB w g nm sp st vs vl vt) (x : Value) : AcB (w.setCell ⟨g, 4, none⟩ x) g nm sp st vs x vt := set_cells h
theorem AcB.set5 (h : AcB w g nm sp st vs vl vt) (x : Value) : AcB (w.setCell ⟨g, 5, none⟩ x) g nm sp st vs vl x := set_cells h
theorem AcB.store (h : AcB w g nm sp st vs vl vt) (nm' : ByteArray) (sp' st' : Int) (vs' vl' vt' : Value) :
    ∃ W, (((((w.setCell ⟨g, 0, none⟩ (.string nm')).setCell ⟨g, 1, none⟩ (.int .i64 sp')).setCell ⟨g, 2, none⟩ (.int .i64 st')).setCell ⟨g, 3, none⟩ vs').setCell ⟨g, 4, none⟩ vl').setCell ⟨g, 5, none⟩ vt' = W ∧
      AcB W g nm' sp' st' vs' vl' vt' ∧ ∀ O : Nat → Prop, O g → Kept O w W :=
  ⟨_, rfl, set_cells (set_cells (set_cells (set_cells (set_cells (set_cells h))))), fun _ ho => (keep_set ho).trans ((keep_set ho).trans ((keep_set ho).trans ((keep_set ho).trans ((keep_set ho).trans (keep_set ho)))))⟩
end
theorem alloc_ac (w : World) (nm : ByteArray) (sp st : Int) (vs vl vt : Value) : ∃ W, w.alloc (.cells #[.string nm, .int .i64 sp, .int .i64 st, vs, vl, vt] 26) = W ∧ Below w.heap.size w W ∧ W.heap.size = w.heap.size + 1 ∧ AcB W w.heap.size nm sp st vs vl vt :=
  ⟨_, rfl, below_al _ _, by simp, heap_alloc_new w _⟩
/-- the three rows of an activity, each a call's own, in blocks one behind the other -/
structure Own3 (w : World) (base : Nat) (A : Acv) (vs vl vt : Value) : Prop where
  ex : ∃ B1 B2, base ≤ B1 ∧ B1 ≤ B2 ∧ Own smC 7 72 w base vs A.sm ∧ (∀ b, vs.ownBlock = some b → b < B1) ∧ Own lpC 3 75 w B1 vl A.lp ∧ (∀ b, vl.ownBlock = some b → b < B2) ∧ Own tgC 1 9 w B2 vt A.tg
def CloneRet (A : Acv) (w : World) (e : Ending) (w' : World) : Prop :=
  (∃ a b c ca cb cc, e = .returned (actV A a b c ca cb cc) ∧ Own3 w' w.heap.size A (.slice a A.sm.length ca) (.slice b A.lp.length cb) (.slice c A.tg.length cc)) ∧ Below w.heap.size w w'
set_option maxHeartbeats 4000000 in
set_option maxRecDepth 100000 in
theorem cloneA_any (A : Acv) (a b c : Option Addr) (ca cb cc : Nat) (w : World) (h : ActIn w A a b c) (h1 : A.sm.length ≤ 1000000) (h2 : A.lp.length ≤ 1000000) (h3 : A.tg.length ≤ 1000000) :
    Calls Tryz.prog 33 #[actV A a b c ca cb cc] w fun e w' => CloneRet A w e w' := by
  unfold CloneRet actV
  obtain ⟨V0, hV0, hb0, hs0, ha0⟩ := alloc_ac w A.name A.sport A.start (.slice a A.sm.length ca) (.slice b A.lp.length cb) (.slice c A.tg.length cc)
  obtain ⟨V1, hV1, hb1, hs1, ha1⟩ := alloc_ac V0 ⟨#[]⟩ 0 0 (.slice none 0 0) (.slice none 0 0) (.slice none 0 0)
  rw [hs0] at ha1
  have ha0 := ha0.below hb1
  obtain ⟨T, hT⟩ : ∃ T, w.heap.size = T := ⟨_, rfl⟩
  rw [hT] at ha0 ha1 hs0
  have HB := Lib.hid (below_step hb0 hb1)
  have DS := Lib.hid (fun Z : Ext V1 => cloneSm_any a A.sm ca Z.1 ((h.sm.below HB.out).below Z.2) h1)
  have DL := Lib.hid (fun Z : Ext V1 => cloneLp_any b A.lp cb Z.1 ((h.lp.below HB.out).below Z.2) h2)
  have DT := Lib.hid (fun Z : Ext V1 => cloneTg_any c A.tg cc Z.1 ((h.tg.below HB.out).below Z.2) h3)
  have HT := Lib.hid (And.intro hT (And.intro hs0 hs1))
  have HA0 := Lib.hid ha0
  have HA1 := Lib.hid ha1
  obtain ⟨g0, g1, g2, g3, g4, g5⟩ := ha0.cell
  have G3 := Ext.ex g3
  have G4 := Ext.ex g4
  have G5 := Ext.ex g5
  have F0 : ∀ (Z : Ext V1) i, Z.1.frozen? ⟨T, i, none⟩ = false := fun Z i => (HA0.out.below Z.2).free i
  clear h h1 h2 h3 hb0 hb1 hs0 hs1 ha0 ha1 hT g0 g1 g2 g3 g4 g5
  go_enter Tryz.func33, Tryz.ntmps33
  go_upto_region 1 with (fail)
  rw [HT.out.1]
  refine late_start (s := 10) (C := fun w' => ∃ Z : Ext V1, w' = Z.1) (by kernel_rfl) ?_
  obtain ⟨Z0, hZ0⟩ : ∃ Z : Ext V1, ({ V1 with drawn := V1.drawn + 1 } : World) = Z.1 := ⟨⟨{ V1 with drawn := V1.drawn + 1 }, ⟨rfl, rfl, rfl, Nat.le_refl _, fun _ _ => rfl⟩⟩, rfl⟩
  rw [hZ0]
  clear hZ0
  refine late_quiet (by kernel_rfl) (fun _ _ d _ _ h => by cases d <;> exact h) ⟨Z0, rfl⟩ [0, 1, 3, 4, 6, 7] 9 _ _ (by kernel_rfl) (by kernel_rfl) ?_
  change wpQuiet _ _ _ _ (_ :: _ :: _ :: _ :: _ :: _ :: []) _
  repeat go_big_quiet_step (fail)
  refine wpQuiet_nil ?_
  refine late_do (i := 2) _ rfl (by kernel_rfl) rfl (fun K hK => ?_)
  go_simp
  refine (DS.out Z0).mono ?_
  rintro e Y1 ⟨⟨v1, rfl, ho1⟩, hk1⟩
  obtain ⟨a1, c1, rfl, _, _, _⟩ := ho1.row smEl
  obtain ⟨Z1, rfl⟩ : ∃ Z : Ext V1, Y1 = Z.1 := ⟨⟨Y1, below_step Z0.2 hk1⟩, rfl⟩
  have HO1 := Lib.hid ho1
  refine hK _ _ (fun _ => ⟨Z1, rfl⟩) ?_
  clear hK K hk1 ho1
  try simp only [Act.put, List.setIfInBounds_toArray, List.set_cons_zero, List.set_cons_succ]
  refine late_quiet (by kernel_rfl) (fun _ _ d _ _ h => by cases d <;> exact h) ⟨Z1, rfl⟩ [9] 7 _ _ (by kernel_rfl) (by kernel_rfl) ?_
  change wpQuiet _ _ _ _ (_ :: []) _
  repeat go_big_quiet_step (fail)
  refine wpQuiet_nil ?_
  refine late_do (i := 5) _ rfl (by kernel_rfl) rfl (fun K hK => ?_)
  go_simp
  refine (DL.out Z1).mono ?_
  rintro e Y2 ⟨⟨v2, rfl, ho2⟩, hk2⟩
  obtain ⟨a2, c2, rfl, _, _, _⟩ := ho2.row lpEl
  obtain ⟨Z2, rfl⟩ : ∃ Z : Ext V1, Y2 = Z.1 := ⟨⟨Y2, below_step Z1.2 hk2⟩, rfl⟩
  have HO2 := Lib.hid ho2
  have HK2 := Lib.hid hk2
  refine hK _ _ (fun _ => ⟨Z2, rfl⟩) ?_
  clear hK K hk2 ho2
  try simp only [Act.put, List.setIfInBounds_toArray, List.set_cons_zero, List.set_cons_succ]
  refine late_do (i := 8) _ rfl (by kernel_rfl) rfl (fun K hK => ?_)
  go_simp
  refine (DT.out Z2).mono ?_
  rintro e Y3 ⟨⟨v3, rfl, ho3⟩, hk3⟩
  obtain ⟨a3, c3, rfl, _, _, _⟩ := ho3.row tgEl
  obtain ⟨Z3, rfl⟩ : ∃ Z : Ext V1, Y3 = Z.1 := ⟨⟨Y3, below_step Z2.2 hk3⟩, rfl⟩
  have HO3 := Lib.hid ho3
  have HK3 := Lib.hid hk3
  refine hK _ _ (fun _ => ⟨Z3, rfl⟩) ?_
  clear hK K hk3 ho3
  try simp only [Act.put, List.setIfInBounds_toArray, List.set_cons_zero, List.set_cons_succ]
  have hA3 := HA0.out.below Z3.2
  have hA4 := hA3.set3 (.slice a1 A.sm.length c1)
  have hA5 := hA4.set4 (.slice a2 A.lp.length c2)
  have hA6 := hA5.set5 (.slice a3 A.tg.length c3)
  obtain ⟨W4, hW4⟩ : ∃ W, Z3.1.setCell ⟨T, 3, none⟩ (.slice a1 A.sm.length c1) = W := ⟨_, rfl⟩
  obtain ⟨W5, hW5⟩ : ∃ W, W4.setCell ⟨T, 4, none⟩ (.slice a2 A.lp.length c2) = W := ⟨_, rfl⟩
  obtain ⟨W6, hW6⟩ : ∃ W, W5.setCell ⟨T, 5, none⟩ (.slice a3 A.tg.length c3) = W := ⟨_, rfl⟩
  rw [hW4] at hA4 hA5 hA6
  rw [hW5] at hA5 hA6
  rw [hW6] at hA6
  have hk4 : Kept (fun b => b = T) Z3.1 W6 := by
    rw [← hW6, ← hW5, ← hW4]
    exact (keep_set (O := fun b => b = T) rfl).trans ((keep_set (O := fun b => b = T) rfl).trans (keep_set (O := fun b => b = T) rfl))
  have j3 := hA3.cell.2.2.2.1
  have j4 := hA4.cell.2.2.2.2.1
  have j5 := hA5.cell.2.2.2.2.2
  have f3 := hA3.free 3
  have f4 := hA4.free 4
  have f5 := hA5.free 5
  have HA6 := Lib.hid hA6
  have HK4 := Lib.hid hk4
  clear hA3 hA4 hA5 hA6 hk4
  refine late_do (i := 10) _ rfl (by kernel_rfl) rfl (fun K hK => ?_)
  go_simp
  refine hK _ _ (fun h => nomatch (show true = false from h)) ?_
  clear hK K
  try simp only [Act.put, List.setIfInBounds_toArray, List.set_cons_zero, List.set_cons_succ]
  refine late_do (i := 11) _ rfl (by kernel_rfl) rfl (fun K hK => ?_)
  go_simp
  refine hK _ _ (fun h => nomatch (show true = false from h)) ?_
  clear hK K
  try simp only [Act.put, List.setIfInBounds_toArray, List.set_cons_zero, List.set_cons_succ]
  refine late_do (i := 12) _ rfl (by kernel_rfl) rfl (fun K hK => ?_)
  go_simp
  refine hK _ _ (fun h => nomatch (show true = false from h)) ?_
  clear hK K
  try simp only [Act.put, List.setIfInBounds_toArray, List.set_cons_zero, List.set_cons_succ]
  refine late_do (i := 13) _ rfl (by kernel_rfl) rfl (fun K hK => ?_)
  go_simp
  refine hK _ _ (fun h => nomatch (show true = false from h)) ?_
  clear hK K
  try simp only [Act.put, List.setIfInBounds_toArray, List.set_cons_zero, List.set_cons_succ]
  refine late_do (i := 14) _ rfl (by kernel_rfl) rfl (fun K hK => ?_)
  go_simp
  refine hK _ _ (fun h => nomatch (show true = false from h)) ?_
  clear hK K
  try simp only [Act.put, List.setIfInBounds_toArray, List.set_cons_zero, List.set_cons_succ]
  refine late_done (by kernel_rfl) ?_ _
  clear j3 j4 j5 f3 f4 f5 hW4 hW5 hW6 G3 G4 G5 F0
  obtain ⟨k0, k1, k2, k3, k4, k5⟩ := HA6.out.cell
  have hT1 : ¬ (T + 1 = T) := by omega
  have hA7 := (HA1.out.below Z3.2).kept HK4.out hT1
  obtain ⟨m0, m1, m2, m3, m4, m5⟩ := hA7.cell
  have f7 := hA7.free
  obtain ⟨W7, hW7, hA8, hk7⟩ := hA7.store A.name A.sport A.start (.slice a1 A.sm.length c1) (.slice a2 A.lp.length c2) (.slice a3 A.tg.length c3)
  have HA8 := Lib.hid hA8
  have HK7 := Lib.hid hk7
  clear hA7 hA8 hk7
  rw [HT.out.2.1]
  go_wp2_with fail
  have r := HA8.out.cell
  have HKO := Lib.hid (show Kept (fun b => b = T ∨ b = T + 1) Z3.1 W7 from Kept.trans (O := fun b => b = T ∨ b = T + 1) ⟨HK4.out.os, HK4.out.tape, HK4.out.output, HK4.out.size, fun k hk ho => HK4.out.block k hk (fun e => ho (Or.inl e))⟩ (HK7.out _ (Or.inr rfl)))
  have HWL := Lib.hid (show Below w.heap.size w W7 from
    have hk : Kept (fun b => b = T ∨ b = T + 1) Z3.1 W7 := Kept.trans (O := fun b => b = T ∨ b = T + 1) ⟨HK4.out.os, HK4.out.tape, HK4.out.output, HK4.out.size, fun k hk ho => HK4.out.block k hk (fun e => ho (Or.inl e))⟩ (HK7.out _ (Or.inr rfl))
    Kept.below (below_step HB.out Z3.2) hk (below_step HB.out Z3.2).size (fun k hk e => by have := HT.out.1; omega))
  refine bodyPost_ret (v := .agg #[.string A.name, .int .i64 A.sport, .int .i64 A.start, .slice a1 A.sm.length c1, .slice a2 A.lp.length c2, .slice a3 A.tg.length c3]) (by simp [results, Tryz.results33, go_sem, r]) rfl ⟨⟨a1, a2, a3, c1, c2, c3, rfl, ⟨Z1.1.heap.size, Z2.1.heap.size, ?_, HK2.out.size, ?_, ?_, ?_, ?_, ?_⟩⟩, HWL.out⟩
  · have := HB.out.size
    have := Z1.2.size
    omega
  · refine (((HO1.out.weaken ?_).below HK2.out).below HK3.out).keepO HKO.out (fun b hb => ?_)
    · have := HB.out.size
      have := Z0.2.size
      omega
    · have := (HO1.out.lt b hb).1
      have := Z0.2.size
      have := HT.out.2
      omega
  · exact fun b hb => (HO1.out.lt b hb).2
  · refine (HO2.out.below HK3.out).keepO HKO.out (fun b hb => ?_)
    have := (HO2.out.lt b hb).1
    have := Z1.2.size
    have := HT.out.2
    omega
  · exact fun b hb => (HO2.out.lt b hb).2
  · refine HO3.out.keepO HKO.out (fun b hb => ?_)
    have := (HO3.out.lt b hb).1
    have := Z2.2.size
    have := HT.out.2
    omega
end Go.Proofs.YtjnfccphodjfiaaGreat

/- One element appended to a row of a call's own; laps that are moved along (track.moved). (printed by wip/t/gen_tme.py) -/
namespace Go.Proofs.YtjnfccphodjfiaaGreat
open Go.RowKit Go.BigFrame
theorem append_Sm {ops : Array Oper} {rest : List Oper} {o : Oper} {a : Act} {Q : Exit → Act → World → Prop} {w : World} (hgd : o.guard = none) (s x : Operand)
    (ho : o.op = .call { callee := .builtin .append, args := #[s, x], argTypes := #[22, 22] }) {base : Nat} {v : Value} {l : List Sm} (hs : a.eval s = v) (hown : Own smC 7 72 w base v l)
    {g : Nat} {p : Sm} (hx : a.eval x = .slice (some ⟨g, 0, none⟩) 1 1) (h0 : ∀ j u, (smC p)[j]? = some u → w.cell? ⟨g, j, none⟩ = some u) (hn : l.length ≤ 1000000) (hb : base ≤ w.heap.size)
    (h : ∀ g' c' w', Own smC 7 72 w' base (.slice (some ⟨g', 0, none⟩) (l.length + 1) c') (l ++ [p]) → w.grownBy w' v.ownBlock → (v.ownBlock = some g' ∨ g' = w.heap.size) → wpList Tryz.prog ops Q rest (a.put o.dst (.slice (some ⟨g', 0, none⟩) (l.length + 1) c')) w') : wpList Tryz.prog ops Q (o :: rest) a w := by
  obtain ⟨i0, hi0, hy0, hy1, hy2⟩ := info_parts infoSm.out
  refine wpList_append_lies w hgd s x 22 ho base 72 i0 (.agg #[.int .i64 0, .int .i64 0, .int .i64 0, .int .i64 0, .int .i64 0, .int .i64 0, .int .i64 0]) 7 56 underSm.out hi0 hy0 hy1 hy2 rfl (by decide) v l.length (l.flatMap smC) hs hown ⟨g, 0, none⟩ 1 1 (smC p) hx rfl (fun j u hu => ?_) (smEl.one p) (by decide) (by unfold maxLen; omega) (by omega) hb _ rfl ?_
  · rw [addr_plus, Nat.zero_add]
    exact h0 j u hu
  · intro g' c' w' k1 k2 k3 _
    refine h g' c' w' ?_ k2 k3
    unfold Own
    rw [List.length_append, List.flatMap_append, show ([p].flatMap smC) = smC p from List.append_nil _]
    exact k1
theorem append_Lp {ops : Array Oper} {rest : List Oper} {o : Oper} {a : Act} {Q : Exit → Act → World → Prop} {w : World} (hgd : o.guard = none) (s x : Operand)
    (ho : o.op = .call { callee := .builtin .append, args := #[s, x], argTypes := #[23, 23] }) {base : Nat} {v : Value} {l : List Lp} (hs : a.eval s = v) (hown : Own lpC 3 75 w base v l)
    {g : Nat} {p : Lp} (hx : a.eval x = .slice (some ⟨g, 0, none⟩) 1 1) (h0 : ∀ j u, (lpC p)[j]? = some u → w.cell? ⟨g, j, none⟩ = some u) (hn : l.length ≤ 1000000) (hb : base ≤ w.heap.size)
    (h : ∀ g' c' w', Own lpC 3 75 w' base (.slice (some ⟨g', 0, none⟩) (l.length + 1) c') (l ++ [p]) → w.grownBy w' v.ownBlock → (v.ownBlock = some g' ∨ g' = w.heap.size) → wpList Tryz.prog ops Q rest (a.put o.dst (.slice (some ⟨g', 0, none⟩) (l.length + 1) c')) w') : wpList Tryz.prog ops Q (o :: rest) a w := by
  obtain ⟨i0, hi0, hy0, hy1, hy2⟩ := info_parts infoLp.out
  refine wpList_append_lies w hgd s x 23 ho base 75 i0 (.agg #[.int .i64 0, .int .i64 0, .string ⟨#[]⟩]) 3 32 underLp.out hi0 hy0 hy1 hy2 rfl (by decide) v l.length (l.flatMap lpC) hs hown ⟨g, 0, none⟩ 1 1 (lpC p) hx rfl (fun j u hu => ?_) (lpEl.one p) (by decide) (by unfold maxLen; omega) (by omega) hb _ rfl ?_
  · rw [addr_plus, Nat.zero_add]
    exact h0 j u hu
  · intro g' c' w' k1 k2 k3 _
    refine h g' c' w' ?_ k2 k3
    unfold Own
    rw [List.length_append, List.flatMap_append, show ([p].flatMap lpC) = lpC p from List.append_nil _]
    exact k1
theorem tm_wrap {x : Int} (h1 : -9223372036854775808 ≤ x) (h2 : x ≤ 9223372036854775807) : IntKind.i64.wrap x = x := by rw [IntKind.wrap_i64]; omega
/-! ### laps moved along -/
def mvL (by_ span : Int) (x : Lp) : Lp := ⟨min (max (x.f - by_) 0) span, min (max (x.t - by_) 0) span, x.s⟩
def movedF (l : List Lp) (by_ span : Int) : List Lp := (l.map (mvL by_ span)).filter fun x => decide (x.f < x.t)
theorem movedF_snoc {l : List Lp} {k : Nat} {x : Lp} {by_ span : Int} (hx : l[k]? = some x) : movedF (l.take (k + 1)) by_ span = if (mvL by_ span x).f < (mvL by_ span x).t then movedF (l.take k) by_ span ++ [mvL by_ span x] else movedF (l.take k) by_ span := by
  unfold movedF
  rw [List.take_add_one, hx, List.map_append, List.filter_append]
  simp only [Option.toList_some, List.map_cons, List.map_nil]
  split
  · rename_i h
    rw [List.filter_cons_of_pos (by simpa using h), List.filter_nil]
  · rename_i h
    rw [List.filter_cons_of_neg (by simpa using h), List.filter_nil, List.append_nil]
theorem movedF_len (l : List Lp) (by_ span : Int) : (movedF l by_ span).length ≤ l.length := by
  unfold movedF
  exact Nat.le_trans (List.length_filter_le _ _) (by rw [List.length_map]; exact Nat.le_refl _)
set_option maxHeartbeats 4000000 in
set_option maxRecDepth 100000 in
theorem moved_any (l : List Lp) (a : Option Addr) (cp : Nat) (by_ span : Int) (w : World) (hr : Rw lpC 3 w a l) (hl : l.length ≤ 1000) (hx : ∀ x, x ∈ l → (0 ≤ x.f ∧ x.f ≤ 1000000) ∧ 0 ≤ x.t ∧ x.t ≤ 1000000) (h0 : 0 ≤ by_) (h1 : by_ ≤ 1000000) :
    Calls Tryz.prog 234 #[.slice a l.length cp, .int .i64 by_, .int .i64 span] w fun e w' => ∃ v, e = .returned v ∧ Own lpC 3 75 w' w.heap.size v (movedF l by_ span) ∧ Below w.heap.size w w' := by
  obtain ⟨n, hn⟩ : ∃ n, l.length = n := ⟨_, rfl⟩
  have HR := Lib.hid hr
  have HX := Lib.hid (fun (i : Nat) (hi : i < n) => show ∃ x, l[i]? = some x ∧ (0 ≤ x.f ∧ x.f ≤ 1000000) ∧ 0 ≤ x.t ∧ x.t ≤ 1000000 from by
    have hg : i < l.length := by rw [hn]; exact hi
    exact ⟨_, List.getElem?_eq_getElem hg, hx _ (List.getElem_mem hg)⟩)
  have HN := Lib.hid hn
  rw [hn] at hl ⊢
  clear hr hx hn
  go_enter Tryz.func234, Tryz.ntmps234
  go_wp2_with fail
  go_loopw [7, 12] (fun ov iv wr => ∃ (k : Nat), iv = .int .i64 k ∧ k ≤ n ∧ Hid (Own lpC 3 75 wr w.heap.size ov (movedF (l.take k) by_ span)) ∧ ∃ X : Ext w, wr = X.1) (fun _ iv _ => n - (intOf iv).toNat)
  case atStart => exact ⟨0, rfl, by omega, Lib.hid (Own.nil _ _ _ _ _), ⟨w, Below.refl _ _⟩, rfl⟩
  case round =>
    obtain ⟨k, rfl, hk, HO, X, rfl⟩ := hrel
    by_cases hlt : k < n
    · have t2 : decide ((k : Int) < (n : Int)) = true := by rw [decide_eq_true_eq]; omega
      have t2' : decide (k < n) = true := by simpa using hlt
      obtain ⟨x, hx, ⟨x0, x1⟩, x2, x3⟩ := HX.out k hlt
      obtain ⟨b3, o3, rfl, hb3, hd⟩ := (HR.out.below X.2).at hx
      have e0 : X.1.cell? ⟨b3, o3 + k * 3, none⟩ = some (.int .i64 x.f) := hd 0 _ rfl
      have e1 : X.1.cell? ⟨b3, o3 + k * 3 + 1, none⟩ = some (.int .i64 x.t) := hd 1 _ rfl
      have e2 : X.1.cell? ⟨b3, o3 + k * 3 + 2, none⟩ = some (.string x.s) := hd 2 _ rfl
      have HST := Lib.hid (movedF_snoc (by_ := by_) (span := span) hx)
      have hml : (movedF (l.take k) by_ span).length ≤ 1000 := by have := movedF_len (l.take k) by_ span; rw [List.length_take] at this; omega
      have HML := Lib.hid hml
      obtain ⟨T, hT⟩ : ∃ T, X.1.heap.size = T := ⟨_, rfl⟩
      obtain ⟨V0, hV0, hb0, hs0, hl0⟩ := alloc_cells X.1 #[.int .i64 x.f, .int .i64 x.t, .string x.s] 75
      have hk0 : V0.heap[T]? = some (.cells #[.int .i64 x.f, .int .i64 x.t, .string x.s] 75 (0, 0)) := by rw [← hV0, ← hT]; exact heap_alloc_new X.1 _
      have hmv : mvL by_ span x = ⟨min (max (x.f - by_) 0) span, min (max (x.t - by_) 0) span, x.s⟩ := rfl
      have w1 : IntKind.i64.wrap (x.f - by_) = x.f - by_ := tm_wrap (by omega) (by omega)
      have w2 : IntKind.i64.wrap (x.t - by_) = x.t - by_ := tm_wrap (by omega) (by omega)
      obtain ⟨f', hf'⟩ : ∃ z, min (max (x.f - by_) 0) span = z := ⟨_, rfl⟩
      obtain ⟨t', ht'⟩ : ∃ z, min (max (x.t - by_) 0) span = z := ⟨_, rfl⟩
      rw [hf', ht'] at hmv
      have hk1 := set_cells (i := 0) (v := .int .i64 f') hk0
      obtain ⟨W1, hW1⟩ : ∃ W, V0.setCell ⟨T, 0, none⟩ (.int .i64 f') = W := ⟨_, rfl⟩
      rw [hW1] at hk1
      have hk2 := set_cells (i := 1) (v := .int .i64 t') hk1
      obtain ⟨W2, hW2⟩ : ∃ W, W1.setCell ⟨T, 1, none⟩ (.int .i64 t') = W := ⟨_, rfl⟩
      rw [hW2] at hk2
      have hkk : Kept (fun b => b = T) V0 W2 := by rw [← hW2, ← hW1]; exact (keep_set (O := fun b => b = T) rfl).trans (keep_set (O := fun b => b = T) rfl)
      have r0 : V0.cell? ⟨T, 0, none⟩ = some (.int .i64 x.f) := by simp [World.cell?, hk0]
      have r1 : V0.cell? ⟨T, 1, none⟩ = some (.int .i64 x.t) := by simp [World.cell?, hk0]
      have r2 : W1.cell? ⟨T, 1, none⟩ = some (.int .i64 x.t) := by simp [World.cell?, hk1]
      have f0 : V0.frozen? ⟨T, 0, none⟩ = false := by simp [World.frozen?, hk0]
      have f1 : W1.frozen? ⟨T, 1, none⟩ = false := by simp [World.frozen?, hk1]
      have p0 : W2.cell? ⟨T, 0, none⟩ = some (.int .i64 f') := by simp [World.cell?, hk2]
      have p1 : W2.cell? ⟨T, 1, none⟩ = some (.int .i64 t') := by simp [World.cell?, hk2]
      have p2 : W2.cell? ⟨T, 2, none⟩ = some (.string x.s) := by simp [World.cell?, hk2]
      have HB2 := Lib.hid (show Below X.1.heap.size X.1 W2 from Kept.below hb0 hkk hb0.size (fun k hk e => by omega))
      rw [hmv] at HST
      have HO2 := Lib.hid (HO.out.below HB2.out)
      clear hx hd hb3 hmv hb0 hs0 hl0 hk0 hk1 hk2 hkk hml HO x0 x1 x2 x3
      generalize x.s = xs at *
      by_cases hft : f' < t'
      · have t3 : decide (f' < t') = true := by rw [decide_eq_true_eq]; exact hft
        have HS2 := Lib.hid (show movedF (l.take (k + 1)) by_ span = movedF (l.take k) by_ span ++ [⟨f', t', xs⟩] by rw [HST.out, if_pos hft])
        obtain ⟨V6, hV6, hb6, hs6, hl6⟩ := alloc_cells W2 #[.int .i64 f', .int .i64 t', .string xs] 75
        have HC6 := Lib.hid (fun j u (hj : (lpC ⟨f', t', xs⟩)[j]? = some u) => show V6.cell? ⟨W2.heap.size, j, none⟩ = some u from hl6 j u (by rw [← hj]; simp [lpC]))
        have HO6 := Lib.hid (HO2.out.below hb6)
        have H6 := Lib.hid (below_step (below_step X.2 HB2.out) hb6)
        clear HST hb6 hs6 hl6 hft
        go_wp2_with (at_builtin; refine append_Lp rfl _ _ rfl rfl HO6.out (p := ⟨f', t', xs⟩) rfl HC6.out (by have := HML.out; omega) H6.out.size (fun g' c' w7 ho7 hg7 hor => ?_))
        have HO7 := Lib.hid ho7
        have H7 := Lib.hid (Kept.below (O := fun b => w.heap.size ≤ b) H6.out (Kept.of_grown hg7 (fun g e _ => (HO6.out.lt g e).1)) H6.out.size (fun k hk e => by omega))
        clear ho7 hg7 hor hV6 p0 p1 p2
        go_wp2_with fail
        go_roundw
        case rel => exact ⟨k + 1, by go_num, by omega, Lib.hid (by rw [HS2.out]; exact HO7.out), ⟨w7, H7.out⟩, rfl⟩
        case measure => simp [intOf]; omega
      · have t3 : decide (f' < t') = false := by rw [decide_eq_false_iff_not]; exact hft
        have HS2 := Lib.hid (show movedF (l.take (k + 1)) by_ span = movedF (l.take k) by_ span by rw [HST.out, if_neg hft])
        clear HST hft
        go_wp2_with fail
        go_roundw
        case rel => exact ⟨k + 1, by go_num, by omega, Lib.hid (by rw [HS2.out]; exact HO2.out), ⟨W2, below_step X.2 HB2.out⟩, rfl⟩
        case measure => simp [intOf]; omega
    · have t2 : decide ((k : Int) < (n : Int)) = false := by rw [decide_eq_false_iff_not]; omega
      have t2' : decide (k < n) = false := by simpa using hlt
      obtain rfl : k = n := by omega
      have HF := Lib.hid (show l.take k = l from by rw [← HN.out]; exact List.take_length)
      clear hlt hk
      go_wp2_with fail
      go_ret
      exact ⟨_, rfl, by rw [← HF.out]; exact HO.out, X.2⟩
end Go.Proofs.YtjnfccphodjfiaaGreat

/- fit of both; cmp.Or at error numbers; bounds. (printed by wip/t/gen_tfm.py) -/
namespace Go.Proofs.YtjnfccphodjfiaaGreat
open Go.RowKit Go.BigFrame
open Tr (inR)
open Ft (Mt)
set_option maxHeartbeats 1000000 in
theorem orE_any (l : List Int) (g c : Nat) (w : World) (hl : l.length ≤ 1000) (hc : ∀ i v, l[i]? = some v → w.cell? ⟨g, i, none⟩ = some (.int .i64 v)) :
    Calls Tryz.prog 31 #[.slice (some ⟨g, 0, none⟩) l.length c] w fun e w' => e = .returned (.int .i64 (orL l)) ∧ w = w' := by
  obtain ⟨n, hn⟩ : ∃ n, l.length = n := ⟨_, rfl⟩
  have HN := Lib.hid hn
  have HC := Lib.hid hc
  rw [hn] at hl ⊢
  clear hn hc
  go_enter Tryz.func31, Tryz.ntmps31
  go_wp2_with fail
  go_loop [8] (fun iv => ∃ (k : Nat), iv = .int .i64 k ∧ k ≤ n ∧ Hid (orL l = orL (l.drop k))) (fun iv => n - (intOf iv).toNat)
  case atStart => exact ⟨0, rfl, by omega, Lib.hid rfl⟩
  case round =>
    obtain ⟨k, rfl, hk, HE⟩ := hrel
    by_cases hlt : k < n
    · have t1 : decide ((k : Int) < (n : Int)) = true := by rw [decide_eq_true_eq]; omega
      have t1' : decide (k < n) = true := by simpa using hlt
      obtain ⟨x, hx⟩ : ∃ x, l[k]? = some x := ⟨_, List.getElem?_eq_getElem (by rw [HN.out]; exact hlt)⟩
      have hcx := HC.out k x hx
      obtain ⟨h1, h2⟩ := orL_drop hx HE.out
      clear hx HE
      by_cases h0 : x = 0
      · subst h0
        have HE := Lib.hid (h2 rfl)
        clear h1 h2
        go_wp2_with fail
        go_round
        case rel => exact ⟨k + 1, by go_num, by omega, HE⟩
        case measure => simp [intOf]; omega
      · have HE := Lib.hid (h1 h0)
        have hb : (x != 0) = true := by rw [bne_iff_ne]; exact h0
        clear h1 h2 h0
        go_wp2_with fail
        go_ret
        exact ⟨by rw [HE.out]; rfl, rfl⟩
    · have t1 : decide ((k : Int) < (n : Int)) = false := by rw [decide_eq_false_iff_not]; omega
      have t1' : decide (k < n) = false := by simpa using hlt
      have HF := Lib.hid (show orL l = 0 by rw [HE.out, List.drop_eq_nil_of_le (by rw [HN.out]; omega)]; rfl)
      clear hlt HE
      go_wp2_with fail
      go_ret
      exact ⟨by rw [HF.out]; rfl, rfl⟩
def bndE (most least : Int) : Int := if inR most 0 3600 = true ∧ inR least 1 400 = true then 0 else 9
def mt0 : Mt := ⟨0, 0, 0⟩
theorem fitF_go {D : Int → Mt} {least most s : Int} {E bo : Option Mt} (hs : s ≤ most) (h : E = Ft.fitF D least (most + 1 - s).toNat s bo) : E = Ft.fitF D least (most + 1 - (s + 1)).toNat (s + 1) (Ft.take least bo (D s)) := by
  obtain ⟨n, hn⟩ : ∃ n, (most + 1 - s).toNat = n + 1 := ⟨(most + 1 - s).toNat - 1, by omega⟩
  rw [hn, Ft.fitF] at h
  rw [show (most + 1 - (s + 1)).toNat = n by omega]
  exact h
theorem fitF_end {D : Int → Mt} {least most s : Int} {E bo : Option Mt} (hs : ¬ s ≤ most) (h : E = Ft.fitF D least (most + 1 - s).toNat s bo) : E = bo := by
  rw [show (most + 1 - s).toNat = 0 by omega, Ft.fitF] at h
  exact h
theorem fitF_start (D : Int → Mt) (most least : Int) : Ft.fitM D most least = Ft.fitF D least (most + 1 - (-most)).toNat (-most) none := by
  unfold Ft.fitM
  congr 2
  omega
theorem take_less {least : Int} {bo : Option Mt} {m : Mt} (h : ¬ least ≤ m.many) : Ft.take least bo m = bo := by
  unfold Ft.take
  rw [if_pos (by omega)]
theorem take_none {least : Int} {m : Mt} (h : least ≤ m.many) : Ft.take least none m = some m := by
  unfold Ft.take
  rw [if_neg (by omega)]
theorem take_some {least : Int} {m b : Mt} (h : least ≤ m.many) : Ft.take least (some b) m = if Ft.better m b = true then some m else some b := by
  unfold Ft.take
  rw [if_neg (by omega)]
end Go.Proofs.YtjnfccphodjfiaaGreat

/- Fit of both. (printed by wip/t/gen_tfn.py) -/
namespace Go.Proofs.YtjnfccphodjfiaaGreat
open Go.RowKit Go.BigFrame
open Tr (inR)
open Ft (Mt)

/-- the error of Fit's arguments -/
def fitE (A B : Acv) (most least : Int) : Int :=
  if chkA A ≠ 0 then chkA A else if chkA B ≠ 0 then chkA B else if 400 < A.sm.length ∨ 400 < B.sm.length then 3 else bndE most least
/-- Fit's match; none -/
def fitO (A B : Acv) (most least : Int) : Option Mt := if fitE A B most least = 0 then Ft.fitM (shiftedF A B) most least else none
theorem orL_two (a b : Int) : orL [a, b] = if a ≠ 0 then a else b := by
  by_cases h : a = 0
  · by_cases h2 : b = 0
    · simp [orL, h, h2]
    · simp [orL, h, h2]
  · simp [orL, h]
theorem bad_two {a b x : Int} (h : (if a ≠ 0 then a else b) ≠ 0) : (if a ≠ 0 then a else if b ≠ 0 then b else x) = if a ≠ 0 then a else b := by
  by_cases h1 : a = 0
  · by_cases h2 : b = 0
    · simp [h1, h2] at h
    · simp [h1, h2]
  · simp [h1]
theorem zero_two {a b : Int} (h : (if a ≠ 0 then a else b) = 0) : a = 0 ∧ b = 0 := by
  by_cases h1 : a = 0
  · simpa [h1] using h
  · simp [h1] at h
theorem chkA_start {A : Acv} (h : chkA A = 0) : 0 ≤ A.start ∧ A.start ≤ 86399999999 := by
  unfold chkA at h
  split at h
  · cases h
  · split at h
    · cases h
    · split at h
      · cases h
      · rename_i hs
        have : inR A.start 0 86399999999 = true := by simpa using hs
        exact inR_iff.1 this
theorem chkA_sm {A : Acv} (h : chkA A = 0) : SmOk A.start A.sm := by
  unfold chkA at h
  split at h
  · cases h
  · split at h
    · cases h
    · split at h
      · cases h
      · split at h
        · cases h
        · unfold chkR at h
          split at h
          · rename_i h0
            exact smOk_of h0
          · rename_i h0
            exact absurd h h0
theorem fitOk_of {A : Acv} (h : chkA A = 0) (hn : A.sm.length ≤ 400) : FitOk A := ⟨chkA_sm h, hn, (chkA_start h).1, (chkA_start h).2⟩
theorem bndE_zero {most least : Int} (h : bndE most least = 0) : (0 ≤ most ∧ most ≤ 3600) ∧ 1 ≤ least ∧ least ≤ 400 := by
  unfold bndE at h
  split at h
  · rename_i hh
    exact ⟨inR_iff.1 hh.1, inR_iff.1 hh.2⟩
  · cases h
theorem bndE_ne {most least : Int} (h : bndE most least ≠ 0) : bndE most least = 9 := by
  unfold bndE at h ⊢
  split
  · rename_i hh
    rw [if_pos hh] at h
    exact absurd rfl h
  · rfl
def FitRet (A B : Acv) (most least : Int) (w : World) (e : Ending) (w' : World) : Prop :=
  e = .returned (.tuple #[mtV ((fitO A B most least).getD mt0), .bool (fitO A B most least).isSome, .int .i64 (fitE A B most least)]) ∧ Below w.heap.size w w'
theorem FitRet.bad {A B : Acv} {most least er : Int} {w w' : World} (he : fitE A B most least = er) (h0 : er ≠ 0) (hb : Below w.heap.size w w') : FitRet A B most least w (.returned (.tuple #[.agg #[.int .i64 0, .int .i64 0, .int .i64 0], .bool false, .int .i64 er])) w' := by
  unfold FitRet
  have : fitO A B most least = none := by unfold fitO; rw [if_neg (by rw [he]; exact h0)]
  rw [this, he]
  exact ⟨rfl, hb⟩
end Go.Proofs.YtjnfccphodjfiaaGreat

/- What a right activity is, both ways (plain). -/
namespace Go.Proofs.YtjnfccphodjfiaaGreat
open Tr (inR)

structure LpOk (span : Int) (l : List Lp) : Prop where
  each : ∀ (i : Nat) (p : Lp), l[i]? = some p → 0 ≤ p.f ∧ p.f < p.t ∧ p.t ≤ span ∧ titleB p.s = true
  next : ∀ (i : Nat) (p q : Lp), l[i]? = some p → l[i + 1]? = some q → p.t ≤ q.f
structure TgOk (l : List ByteArray) : Prop where
  each : ∀ (i : Nat) (s : ByteArray), l[i]? = some s → nameB s = true
  next : ∀ (i : Nat) (p s : ByteArray), l[i]? = some p → l[i + 1]? = some s → Op.bytesLess p.toList s.toList = true
theorem errS_zero {start : Int} {l : List Sm} : firstE (errS start l) l.length 0 = 0 ↔ SmOk start l := by
  refine ⟨smOk_of, fun h => firstE_zero.2 fun i _ hi => ?_⟩
  obtain ⟨s, hs⟩ : ∃ s, l[i]? = some s := ⟨_, List.getElem?_eq_getElem (by omega)⟩
  obtain ⟨u1, u2, u3⟩ := h.upto i s hs
  have ho : ordS l i s.tm = false := by
    unfold ordS
    by_cases h0 : i = 0
    · subst h0
      rw [if_pos rfl, h.first s hs]
      rfl
    · rw [if_neg h0]
      obtain ⟨p, hp⟩ : ∃ p, l[i - 1]? = some p := ⟨_, List.getElem?_eq_getElem (by omega)⟩
      rw [hp]
      have := h.next (i - 1) p s hp (by rw [show i - 1 + 1 = i by omega]; exact hs)
      show decide (s.tm ≤ p.tm) = false
      rw [decide_eq_false_iff_not]
      omega
  unfold errS
  rw [hs]
  show (if ordS l i s.tm = true then (10 : Int) else _) = 0
  rw [ho, if_neg (by decide), if_neg (fun hh => by rcases hh with h | h | h <;> first | omega | (rw [u3] at h; cases h))]
theorem errL_zero {span : Int} {l : List Lp} : firstE (errL span l) l.length 0 = 0 ↔ LpOk span l := by
  rw [firstE_zero]
  have key : ∀ (i : Nat) (p : Lp), l[i]? = some p → (errL span l i = 0 ↔ (¬ (p.f < 0 ∨ p.t ≤ p.f ∨ span < p.t)) ∧ ordL l i p.f = false ∧ titleB p.s = true) := by
    intro i p hp
    unfold errL
    rw [hp]
    show (if p.f < 0 ∨ p.t ≤ p.f ∨ span < p.t then (9 : Int) else if ordL l i p.f = true then 10 else if titleB p.s = true then 0 else 8) = 0 ↔ _
    by_cases h1 : p.f < 0 ∨ p.t ≤ p.f ∨ span < p.t
    · rw [if_pos h1]
      exact ⟨fun h => absurd h (by decide), fun h => absurd h1 h.1⟩
    · rw [if_neg h1]
      cases h2 : ordL l i p.f
      · cases h3 : titleB p.s
        · simp
        · simp [h1]
      · simp
  constructor
  · intro h
    refine ⟨fun i p hp => ?_, fun i p q hp hq => ?_⟩
    · have := (key i p hp).1 (h i (Nat.zero_le _) (by have := (List.getElem?_eq_some_iff.1 hp).1; omega))
      exact ⟨by omega, by omega, by omega, this.2.2⟩
    · have := ((key (i + 1) q hq).1 (h (i + 1) (Nat.zero_le _) (by have := (List.getElem?_eq_some_iff.1 hq).1; omega))).2.1
      unfold ordL at this
      rw [if_neg (by omega), Nat.add_sub_cancel, hp] at this
      have : decide (q.f < p.t) = false := this
      rw [decide_eq_false_iff_not] at this
      omega
  · intro h i _ hi
    obtain ⟨p, hp⟩ : ∃ p, l[i]? = some p := ⟨_, List.getElem?_eq_getElem (by omega)⟩
    obtain ⟨a1, a2, a3, a4⟩ := h.each i p hp
    refine (key i p hp).2 ⟨by omega, ?_, a4⟩
    unfold ordL
    by_cases h0 : i = 0
    · rw [if_pos h0]
    · rw [if_neg h0]
      obtain ⟨q, hq⟩ : ∃ p, l[i - 1]? = some p := ⟨_, List.getElem?_eq_getElem (by omega)⟩
      rw [hq]
      have := h.next (i - 1) q p hq (by rw [show i - 1 + 1 = i by omega]; exact hp)
      show decide (p.f < q.t) = false
      rw [decide_eq_false_iff_not]
      omega
theorem errT_zero {l : List ByteArray} : firstE (errT l) l.length 0 = 0 ↔ TgOk l := by
  rw [firstE_zero]
  have key : ∀ (i : Nat) (p : ByteArray), l[i]? = some p → (errT l i = 0 ↔ nameB p = true ∧ ordT l i p = false) := by
    intro i p hp
    unfold errT
    rw [hp]
    show (if nameB p = false then (8 : Int) else if ordT l i p = true then 10 else 0) = 0 ↔ _
    cases nameB p
    · simp
    · cases ordT l i p
      · simp
      · simp
  constructor
  · intro h
    refine ⟨fun i p hp => ((key i p hp).1 (h i (Nat.zero_le _) (by have := (List.getElem?_eq_some_iff.1 hp).1; omega))).1, fun i p q hp hq => ?_⟩
    have := ((key (i + 1) q hq).1 (h (i + 1) (Nat.zero_le _) (by have := (List.getElem?_eq_some_iff.1 hq).1; omega))).2
    unfold ordT at this
    rw [if_neg (by omega), Nat.add_sub_cancel, hp] at this
    have : (!Op.bytesLess p.toList q.toList) = false := this
    simpa using this
  · intro h i _ hi
    obtain ⟨p, hp⟩ : ∃ p, l[i]? = some p := ⟨_, List.getElem?_eq_getElem (by omega)⟩
    refine (key i p hp).2 ⟨h.each i p hp, ?_⟩
    unfold ordT
    by_cases h0 : i = 0
    · rw [if_pos h0]
    · rw [if_neg h0]
      obtain ⟨q, hq⟩ : ∃ p, l[i - 1]? = some p := ⟨_, List.getElem?_eq_getElem (by omega)⟩
      rw [hq]
      have := h.next (i - 1) q p hq (by rw [show i - 1 + 1 = i by omega]; exact hp)
      show (!Op.bytesLess q.toList p.toList) = false
      rw [this]
      rfl
/-- a right activity -/
structure AcOk (A : Acv) : Prop where
  name : nameB A.name = true
  sport : 1 ≤ A.sport ∧ A.sport ≤ 5
  start : 0 ≤ A.start ∧ A.start ≤ 86399999999
  nsm : A.sm.length ≤ 20000
  nlp : A.lp.length ≤ 200
  ntg : A.tg.length ≤ 20
  sm : SmOk A.start A.sm
  lp : LpOk (spanS A.sm) A.lp
  tg : TgOk A.tg
theorem chkA_zero {A : Acv} : chkA A = 0 ↔ AcOk A := by
  constructor
  · intro h
    unfold chkA at h
    split at h
    · cases h
    rename_i h1
    split at h
    · cases h
    rename_i h2
    split at h
    · cases h
    rename_i h3
    split at h
    · cases h
    rename_i h4
    unfold chkR at h
    split at h
    case isFalse h5 => exact absurd h h5
    rename_i h5
    split at h
    case isFalse h6 => exact absurd h h6
    rename_i h6
    exact ⟨by simpa using h1, inR_iff.1 (by simpa using h2), inR_iff.1 (by simpa using h3), by omega, by omega, by omega, errS_zero.1 h5, errL_zero.1 h6, errT_zero.1 h⟩
  · intro h
    unfold chkA
    rw [if_neg (by rw [h.name]; decide), if_neg (by rw [inR_iff.2 h.sport]; decide), if_neg (by rw [inR_iff.2 h.start]; decide), if_neg (by have := h.nsm; have := h.nlp; have := h.ntg; omega)]
    unfold chkR
    rw [if_pos (show chkSs A = 0 from errS_zero.2 h.sm), if_pos (show chkLs A = 0 from errL_zero.2 h.lp)]
    exact errT_zero.2 h.tg
theorem spanS_range {start : Int} {l : List Sm} (h : SmOk start l) : 0 ≤ spanS l ∧ spanS l ≤ 1000000 := by
  unfold spanS
  cases hx : l[l.length - 1]? with
  | none => exact ⟨by decide, by decide⟩
  | some s => exact ⟨h.nonneg hx, (h.upto _ s hx).1⟩
end Go.Proofs.YtjnfccphodjfiaaGreat

/- track.part: an activity with other samples. -/
namespace Go.Proofs.YtjnfccphodjfiaaGreat
open Go.RowKit Go.BigFrame
def ac0 : Value := .agg #[.string ⟨#[]⟩, .int .i64 0, .int .i64 0, .slice none 0 0, .slice none 0 0, .slice none 0 0]
/-- an activity, if it is right; else an error -/
def ActRet (Z : Acv) (w : World) (e : Ending) (w' : World) : Prop :=
  Below w.heap.size w w' ∧ ∃ er, chkA Z = er ∧ ((er ≠ 0 ∧ e = .returned (.tuple #[ac0, .int .i64 er])) ∨ (er = 0 ∧ ∃ a b c ca cb cc, e = .returned (.tuple #[actV Z a b c ca cb cc, .int .i64 0]) ∧ ActIn w' Z a b c ∧ ∀ g, (a = some g ∨ b = some g ∨ c = some g) → w.heap.size ≤ g.block))
def backS (d : Int) (s : Sm) : Sm := { s with tm := s.tm - d }
def partA (A : Acv) (l : List Sm) (d : Int) : Acv := ⟨A.name, A.sport, A.start + d, l.map (backS d), movedF A.lp d (spanS (l.map (backS d))), A.tg⟩
theorem ActIn.kept {O : Nat → Prop} {w w' : World} {A : Acv} {a b c : Option Addr} (h : ActIn w A a b c) (hk : Kept O w w') (ho : ∀ g, (a = some g ∨ b = some g ∨ c = some g) → ¬ O g.block) : ActIn w' A a b c :=
  ⟨h.sm.kept hk (fun b off e => ho ⟨b, off, none⟩ (Or.inl e)), h.lp.kept hk (fun b off e => ho ⟨b, off, none⟩ (Or.inr (Or.inl e))), h.tg.kept hk (fun b off e => ho ⟨b, off, none⟩ (Or.inr (Or.inr e))), h.name, h.titles, h.tags, h.nsm, h.nlp, h.ntg⟩
theorem movedF_mem {l : List Lp} {by_ span : Int} {x : Lp} (h : x ∈ movedF l by_ span) : ∃ y, y ∈ l ∧ x.s = y.s := by
  unfold movedF at h
  obtain ⟨h1, _⟩ := List.mem_filter.1 h
  obtain ⟨y, hy, rfl⟩ := List.mem_map.1 h1
  exact ⟨y, hy, rfl⟩
set_option maxHeartbeats 8000000 in
set_option maxRecDepth 100000 in
theorem part_any (A : Acv) (a b c : Option Addr) (ca cb cc : Nat) (l : List Sm) (al : Option Addr) (cl : Nat) (d : Int) (w : World) (h : ActIn w A a b c) (hok : AcOk A) (hr : Rw smC 7 w al l) (hl : l.length ≤ 20000) (hx : ∀ s, s ∈ l → 0 ≤ s.tm ∧ s.tm ≤ 1000000) (h0 : 0 ≤ d) (h1 : d ≤ 1000000) :
    Calls Tryz.prog 228 #[actV A a b c ca cb cc, .slice al l.length cl, .int .i64 d] w fun e w' => ActRet (partA A l d) w e w' := by
  obtain ⟨n, hn⟩ : ∃ n, l.length = n := ⟨_, rfl⟩
  have HLN := Lib.hid hn
  rw [hn] at hl ⊢
  obtain ⟨V0, hV0, hb0, hs0, ha0⟩ := alloc_ac w A.name A.sport A.start (.slice a A.sm.length ca) (.slice b A.lp.length cb) (.slice c A.tg.length cc)
  obtain ⟨V1, hV1, hb1, hs1, ha1⟩ := alloc_ac V0 ⟨#[]⟩ 0 0 (.slice none 0 0) (.slice none 0 0) (.slice none 0 0)
  rw [hs0] at ha1
  have ha0 := ha0.below hb1
  have HB := Lib.hid (below_step hb0 hb1)
  have HIN := Lib.hid (h.below HB.out)
  have HOK := Lib.hid hok
  have HRL := Lib.hid (hr.below HB.out)
  have HXL := Lib.hid (fun (i : Nat) (hi : i < n) => show ∃ x, l[i]? = some x ∧ 0 ≤ x.tm ∧ x.tm ≤ 1000000 from by
    have hg : i < l.length := by rw [hn]; exact hi
    exact ⟨_, List.getElem?_eq_getElem hg, hx _ (List.getElem_mem hg)⟩)
  have HT := Lib.hid (And.intro hs0 hs1)
  have HA0 := Lib.hid ha0
  have HA1 := Lib.hid ha1
  have DC := Lib.hid (cloneA_any A a b c ca cb cc V1 HIN.out (by have := hok.nsm; omega) (by have := hok.nlp; omega) (by have := hok.ntg; omega))
  obtain ⟨g0, g1, g2, g3, g4, g5⟩ := ha0.cell
  clear h hok hr hx hb0 hb1 ha0 ha1 hn hs1
  unfold actV at DC ⊢
  go_enter Tryz.func228, Tryz.ntmps228
  go_wp2_with fail
  refine (DC.out).mono ?_
  unfold CloneRet
  rintro e w1 ⟨⟨a1, b1, c1, ca1, cb1, cc1, rfl, ho3⟩, hb1⟩
  obtain ⟨V3, hV3, hb3, hs3, ha3⟩ := alloc_ac w1 A.name A.sport A.start (.slice a1 A.sm.length ca1) (.slice b1 A.lp.length cb1) (.slice c1 A.tg.length cc1)
  obtain ⟨B, hB⟩ : ∃ B, w1.heap.size = B := ⟨_, rfl⟩
  have hA4 := ha3.set3 (.slice none 0 0)
  obtain ⟨W, hW⟩ : ∃ W, V3.setCell ⟨w1.heap.size, 3, none⟩ (.slice none 0 0) = W := ⟨_, rfl⟩
  rw [hW] at hA4
  have j3 := ha3.cell.2.2.2.1
  have f3 := ha3.free 3
  have HA4 := Lib.hid hA4
  have HBW := Lib.hid (show Below w1.heap.size w1 W from Kept.below hb3 (by rw [← hW]; exact keep_set (O := fun b => b = w1.heap.size) rfl) hb3.size (fun k hk e => by omega))
  have HB1 := Lib.hid hb1
  have HO3 := Lib.hid ho3
  have HBB := Lib.hid (And.intro hB hs3)
  clear hA4 ha3 hb3 hb1 ho3 hB
  unfold actV
  go_wp2_with fail
  rw [HBB.out.1]
  rw [HBB.out.1] at HA4
  clear j3 f3 hV3 hW g0 g1 g2 g3 g4 g5
  have HVB := Lib.hid (show w.heap.size + 2 ≤ B ∧ B < W.heap.size ∧ V1.heap.size ≤ B from by
    have := HB1.out.size
    have := HT.out
    have := HBB.out
    have := HBW.out.size
    have := HA4.out.lt
    omega)
  have HC := Lib.hid (fun (X : ExtO (fun b => b = B) W) (p : Addr) (v : Value) (hp : p.block < V1.heap.size) (h : V1.cell? p = some v) => show X.1.cell? p = some v from X.2.cell (by have := HVB.out; omega) (below_cell HBW.out (below_cell HB1.out h)))
  clear hs3
  go_loopw [17] (fun iv wr => ∃ k : Nat, iv = .int .i64 k ∧ k ≤ n ∧ Hid (∃ vs, AcB wr B A.name A.sport A.start vs (.slice b1 A.lp.length cb1) (.slice c1 A.tg.length cc1) ∧ Own smC 7 72 wr W.heap.size vs ((l.take k).map (backS d))) ∧ ∃ X : ExtO (fun b => b = B) W, wr = X.1) (fun iv _ => n - (intOf iv).toNat)
  case atStart => exact ⟨0, rfl, by omega, Lib.hid ⟨_, HA4.out, Own.nil _ _ _ _ _⟩, ⟨W, Kept.refl _ _⟩, rfl⟩
  case round =>
    obtain ⟨k, rfl, hk, HST, X, rfl⟩ := hrel
    obtain ⟨vs, hac, hown⟩ := HST.out
    obtain ⟨a', c', rfl, _, _, _⟩ := hown.row smEl
    rw [List.length_map, List.length_take, Nat.min_eq_left (by rw [HLN.out]; exact hk)] at hac hown
    by_cases hlt : k < n
    · have t2 : decide ((k : Int) < (n : Int)) = true := by rw [decide_eq_true_eq]; omega
      have t2' : decide (k < n) = true := by simpa using hlt
      obtain ⟨x, hx, hx0, hx1⟩ := HXL.out k hlt
      have HTK := Lib.hid (show (l.take (k + 1)).map (backS d) = (l.take k).map (backS d) ++ [backS d x] by rw [List.take_add_one, hx, List.map_append]; rfl)
      have HLK := Lib.hid (show ((l.take k).map (backS d)).length = k by rw [List.length_map, List.length_take, Nat.min_eq_left (by rw [HLN.out]; exact hk)])
      obtain ⟨b3, o3, rfl, hb3, hd⟩ := HRL.out.at hx
      have e0 := HC.out X ⟨b3, o3 + k * 7, none⟩ (.int .i64 x.tm) hb3 (hd 0 _ rfl)
      have e1 := HC.out X ⟨b3, o3 + k * 7 + 1, none⟩ (.int .i64 x.x) hb3 (hd 1 _ rfl)
      have e2 := HC.out X ⟨b3, o3 + k * 7 + 2, none⟩ (.int .i64 x.y) hb3 (hd 2 _ rfl)
      have e3 := HC.out X ⟨b3, o3 + k * 7 + 3, none⟩ (.int .i64 x.z) hb3 (hd 3 _ rfl)
      have e4 := HC.out X ⟨b3, o3 + k * 7 + 4, none⟩ (.int .i64 x.pu) hb3 (hd 4 _ rfl)
      have e5 := HC.out X ⟨b3, o3 + k * 7 + 5, none⟩ (.int .i64 x.po) hb3 (hd 5 _ rfl)
      have e6 := HC.out X ⟨b3, o3 + k * 7 + 6, none⟩ (.int .i64 x.st) hb3 (hd 6 _ rfl)
      have hy : smC (backS d x) = [.int .i64 (x.tm - d), .int .i64 x.x, .int .i64 x.y, .int .i64 x.z, .int .i64 x.pu, .int .i64 x.po, .int .i64 x.st] := rfl
      have hw : IntKind.i64.wrap (x.tm - d) = x.tm - d := tm_wrap (by omega) (by omega)
      obtain ⟨V6, hV6, hb6, hs6, hl6⟩ := alloc_cells X.1 #[.int .i64 x.tm, .int .i64 x.x, .int .i64 x.y, .int .i64 x.z, .int .i64 x.pu, .int .i64 x.po, .int .i64 x.st] 72
      have hk0 : V6.heap[X.1.heap.size]? = some (.cells #[.int .i64 x.tm, .int .i64 x.x, .int .i64 x.y, .int .i64 x.z, .int .i64 x.pu, .int .i64 x.po, .int .i64 x.st] 72 (0, 0)) := by rw [← hV6]; exact heap_alloc_new X.1 _
      have hk1 := set_cells (i := 0) (v := .int .i64 (x.tm - d)) hk0
      obtain ⟨W6, hW6⟩ : ∃ W, V6.setCell ⟨X.1.heap.size, 0, none⟩ (.int .i64 (x.tm - d)) = W := ⟨_, rfl⟩
      rw [hW6] at hk1
      have hB6 : Below X.1.heap.size X.1 W6 := Kept.below hb6 (by rw [← hW6]; exact keep_set (O := fun b => b = X.1.heap.size) rfl) hb6.size (fun k hk e => by omega)
      have r0 : V6.cell? ⟨X.1.heap.size, 0, none⟩ = some (.int .i64 x.tm) := by simp [World.cell?, hk0]
      have f0 : V6.frozen? ⟨X.1.heap.size, 0, none⟩ = false := by simp [World.frozen?, hk0]
      have p0 : W6.cell? ⟨X.1.heap.size, 0, none⟩ = some (.int .i64 (x.tm - d)) := by simp [World.cell?, hk1]
      have p1 : W6.cell? ⟨X.1.heap.size, 1, none⟩ = some (.int .i64 x.x) := by simp [World.cell?, hk1]
      have p2 : W6.cell? ⟨X.1.heap.size, 2, none⟩ = some (.int .i64 x.y) := by simp [World.cell?, hk1]
      have p3 : W6.cell? ⟨X.1.heap.size, 3, none⟩ = some (.int .i64 x.z) := by simp [World.cell?, hk1]
      have p4 : W6.cell? ⟨X.1.heap.size, 4, none⟩ = some (.int .i64 x.pu) := by simp [World.cell?, hk1]
      have p5 : W6.cell? ⟨X.1.heap.size, 5, none⟩ = some (.int .i64 x.po) := by simp [World.cell?, hk1]
      have p6 : W6.cell? ⟨X.1.heap.size, 6, none⟩ = some (.int .i64 x.st) := by simp [World.cell?, hk1]
      have q3 : W6.cell? ⟨B, 3, none⟩ = some (.slice a' k c') := (hac.below hB6).cell.2.2.2.1
      obtain ⟨V7, hV7, hb7, hs7, hl7⟩ := alloc_cells W6 #[.int .i64 (x.tm - d), .int .i64 x.x, .int .i64 x.y, .int .i64 x.z, .int .i64 x.pu, .int .i64 x.po, .int .i64 x.st] 72
      have HC7 := Lib.hid (fun j u (hj : (smC (backS d x))[j]? = some u) => show V7.cell? ⟨W6.heap.size, j, none⟩ = some u from hl7 j u (by rw [← hj, hy]; simp))
      have hB7 := below_step hB6 hb7
      have HO7 := Lib.hid (hown.below hB7)
      have HA7 := Lib.hid (hac.below hB7)
      have HK7 := Lib.hid (X.2.trans (Kept.of_below hB7))
      clear hac hown hb6 hs6 hl6 hk0 hk1 hB6 hb7 hs7 hl7 hB7 hx hd hb3 hy HST hx0 hx1
      go_wp2_with (at_builtin; refine append_Sm rfl _ _ rfl rfl HO7.out (p := backS d x) rfl HC7.out (by rw [HLK.out]; omega) HK7.out.size (fun g' c2 w8 ho8 hg8 hor => ?_); rw [HLK.out] at ho8 ⊢; have HA8 := Lib.hid (HA7.out.kept (O := fun b => W.heap.size ≤ b) (Kept.of_grown hg8 (fun g e _ => (HO7.out.lt g e).1)) (by have := HVB.out; omega)); have j8 := HA8.out.cell.2.2.2.1; have f8 := HA8.out.free 3; obtain ⟨W9, hW9⟩ : ∃ z, w8.setCell ⟨B, 3, none⟩ (.slice (some ⟨g', 0, none⟩) (k + 1) c2) = z := ⟨_, rfl⟩)
      have ha9 := HA8.out.set3 (.slice (some ⟨g', 0, none⟩) (k + 1) c2)
      rw [hW9] at ha9
      have hk9 : Kept (fun b => b = B) w8 W9 := by rw [← hW9]; exact keep_set (O := fun b => b = B) rfl
      have HO9 := Lib.hid (ho8.keepO hk9 (fun b hb e => by have := (ho8.lt b hb).1; have := HVB.out; omega))
      have HA9 := Lib.hid ha9
      have HK9 := Lib.hid ((HK7.out.grown hg8 (fun g e hlt => by have := (HO7.out.lt g e).1; omega)).trans hk9)
      clear ho8 hg8 hor ha9 hk9 hW9 j8 f8
      go_roundw
      case rel => exact ⟨k + 1, by go_num, by omega, Lib.hid ⟨_, HA9.out, by rw [HTK.out]; exact HO9.out⟩, ⟨W9, HK9.out⟩, rfl⟩
      case measure => simp [intOf]; omega
    · have t2 : decide ((k : Int) < (n : Int)) = false := by rw [decide_eq_false_iff_not]; omega
      have t2' : decide (k < n) = false := by simpa using hlt
      obtain rfl : k = n := by omega
      have hmap : l.take k = l := by rw [← HLN.out]; exact List.take_length
      rw [hmap] at hown
      obtain ⟨L, hL⟩ : ∃ L, l.map (backS d) = L := ⟨_, rfl⟩
      rw [hL] at hown
      have HL := Lib.hid hL
      have HLL := Lib.hid (show L.length = k by rw [← hL, List.length_map]; exact HLN.out)
      obtain ⟨u1, u2⟩ := HOK.out.start
      have hws : IntKind.i64.wrap (A.start + d) = A.start + d := tm_wrap (by omega) (by omega)
      have j2 := hac.cell.2.2.1
      have f2 := hac.free 2
      have ha9 := hac.set2 (A.start + d)
      obtain ⟨W9, hW9⟩ : ∃ z, X.1.setCell ⟨B, 2, none⟩ (.int .i64 (A.start + d)) = z := ⟨_, rfl⟩
      rw [hW9] at ha9
      have hk9 : Kept (fun b => b = B) X.1 W9 := by rw [← hW9]; exact keep_set (O := fun b => b = B) rfl
      have ho9 := hown.keepO hk9 (fun b hb e => by have := (hown.lt b hb).1; have := HVB.out; omega)
      have HK9 := Lib.hid (X.2.trans hk9)
      have HA9 := Lib.hid ha9
      have HO9 := Lib.hid ho9
      have HC9 := Lib.hid (fun (p : Addr) (v : Value) (hp : p.block < V1.heap.size) (h : V1.cell? p = some v) => HC.out ⟨W9, HK9.out⟩ p v hp h)
      have HIN9 := Lib.hid (show ActIn W9 A a b c from by
        have hlt := HVB.out
        have hv : ∀ {α : Type} {C : α → List Value} {m : Nat} {x : Option Addr} {ll : List α}, Rw C m V1 x ll → Rw C m W9 x ll := fun hr => ⟨fun hl => by
          obtain ⟨bb, off, e, hb, hc⟩ := hr.here hl
          exact ⟨bb, off, e, by have := HK9.out.size; omega, fun i x hx j v hv => HC9.out ⟨bb, off + i * _ + j, none⟩ v hb (hc i x hx j v hv)⟩⟩
        exact ⟨hv HIN.out.sm, hv HIN.out.lp, hv HIN.out.tg, HIN.out.name, HIN.out.titles, HIN.out.tags, HIN.out.nsm, HIN.out.nlp, HIN.out.ntg⟩)
      have g4' := HC9.out ⟨w.heap.size, 4, none⟩ _ (by simp only; have := HT.out; omega) HA0.out.cell.2.2.2.2.1
      have G4 := Ext.ex g4'
      obtain ⟨y0, y1, y2, y3, y4, y5⟩ := ha9.cell
      have Y0 := Ext.ex y0
      have Y1 := Ext.ex y1
      have Y2 := Ext.ex y2
      have Y3 := Ext.ex y3
      have Y4 := Ext.ex y4
      have Y5 := Ext.ex y5
      clear hmap hL hac hown ha9 hk9 ho9 HST g4' y0 y1 y2 y3 y4 y5 hlt hk
      go_upto_region 10 with (fail)
      clear j2 f2 hW9
      refine late_start (s := 7) (C := fun w' => ∃ Z : Ext W9, w' = Z.1) (by kernel_rfl) ?_
      obtain ⟨Z0, hZ0⟩ : ∃ Z : Ext W9, ({ W9 with drawn := W9.drawn + 1 } : World) = Z.1 := ⟨⟨{ W9 with drawn := W9.drawn + 1 }, ⟨rfl, rfl, rfl, Nat.le_refl _, fun _ _ => rfl⟩⟩, rfl⟩
      rw [hZ0]
      clear hZ0
      refine late_quiet (by kernel_rfl) (fun _ _ d _ _ h => by cases d <;> exact h) ⟨Z0, rfl⟩ [0, 1, 2, 3] 4 _ _ (by kernel_rfl) (by kernel_rfl) ?_
      change wpQuiet _ _ _ _ (_ :: _ :: _ :: _ :: []) _
      repeat go_big_quiet_step (fail)
      refine wpQuiet_nil ?_
      have DSP := Lib.hid (fun Z : Ext W9 => show Calls Tryz.prog 62 #[.agg #[.string A.name, .int .i64 A.sport, .int .i64 (A.start + d), .slice a' k c', .slice b1 A.lp.length cb1, .slice c1 A.tg.length cc1]] Z.1 fun e w' => e = .returned (.int .i64 (spanS L)) ∧ Below Z.1.heap.size Z.1 w' from by
        have h := span_any ⟨A.name, A.sport, A.start + d, L, A.lp, A.tg⟩ a' b1 c1 c' cb1 cc1 Z.1 ((HO9.out.rw_ smEl).1.below Z.2) (by show (L.length : Int) ≤ _; rw [HLL.out]; omega)
        unfold actV at h
        simp only [HLL.out] at h
        exact h)
      have hspan := spanS_range HOK.out.sm
      have DMV := Lib.hid (fun Z : Ext W9 => moved_any A.lp b cb d (spanS L) Z.1 (HIN9.out.lp.below Z.2) (by have := HOK.out.nlp; omega) (fun x hx => by
        obtain ⟨i, hi, rfl⟩ := List.getElem_of_mem hx
        obtain ⟨m1, m2, m3, _⟩ := HOK.out.lp.each i _ (List.getElem?_eq_getElem hi)
        omega) h0 h1)
      refine late_do (i := 4) _ rfl (by kernel_rfl) rfl (fun K hK => ?_)
      go_simp
      refine (DSP.out Z0).mono ?_
      rintro e Y1 ⟨rfl, hk1⟩
      obtain ⟨Z1, rfl⟩ : ∃ Z : Ext W9, Y1 = Z.1 := ⟨⟨Y1, below_step Z0.2 hk1⟩, rfl⟩
      refine hK _ _ (fun _ => ⟨Z1, rfl⟩) ?_
      clear hK K hk1
      try simp only [Act.put, List.setIfInBounds_toArray, List.set_cons_zero, List.set_cons_succ]
      refine late_do (i := 5) _ rfl (by kernel_rfl) rfl (fun K hK => ?_)
      go_simp
      refine (DMV.out Z1).mono ?_
      rintro e Y2 ⟨v2, rfl, ho2, hk2⟩
      obtain ⟨b2, cb2, rfl, _, _, _⟩ := ho2.row lpEl
      obtain ⟨Z2, rfl⟩ : ∃ Z : Ext W9, Y2 = Z.1 := ⟨⟨Y2, below_step Z1.2 hk2⟩, rfl⟩
      have HO2 := Lib.hid ho2
      refine hK _ _ (fun _ => ⟨Z2, rfl⟩) ?_
      clear hK K hk2 ho2
      try simp only [Act.put, List.setIfInBounds_toArray, List.set_cons_zero, List.set_cons_succ]
      refine late_do (i := 6) _ rfl (by kernel_rfl) rfl (fun K hK => ?_)
      go_simp
      refine hK _ _ (fun _ => ⟨Z2, rfl⟩) ?_
      clear hK K
      try simp only [Act.put, List.setIfInBounds_toArray, List.set_cons_zero, List.set_cons_succ]
      have hA2 := HA9.out.below Z2.2
      have y4 := hA2.cell.2.2.2.2.1
      have f4 := hA2.free 4
      obtain ⟨ML, hML⟩ : ∃ q, movedF A.lp d (spanS L) = q := ⟨_, rfl⟩
      rw [hML] at HO2 ⊢
      have HMLE := Lib.hid hML
      clear hML
      have hA3 := hA2.set4 (.slice b2 ML.length cb2)
      obtain ⟨W11, hW11⟩ : ∃ z, Z2.1.setCell ⟨B, 4, none⟩ (.slice b2 ML.length cb2) = z := ⟨_, rfl⟩
      rw [hW11] at hA3
      have hk11 : Kept (fun b => b = B) Z2.1 W11 := by rw [← hW11]; exact keep_set (O := fun b => b = B) rfl
      have HINX := Lib.hid (fun (WX : World) (hkx : Kept (fun b => b = B ∨ b = w.heap.size + 1) Z2.1 WX) => show ActIn WX ⟨A.name, A.sport, A.start + d, L, ML, A.tg⟩ a' b2 c1 from by
        have hlt := HVB.out
        obtain ⟨r1, _, r3⟩ := HO9.out.rw_ smEl
        obtain ⟨l1, _, l3⟩ := HO2.out.rw_ lpEl
        obtain ⟨B1, B2, hB1, hB2, _, _, _, _, hot⟩ := HO3.out.ex
        obtain ⟨t1, _, t3⟩ := hot.rw_ tgEl
        refine ⟨(r1.below Z2.2).kept hkx (fun b off e => by have hh : W.heap.size ≤ b := (r3 _ e).1; omega), l1.kept hkx (fun b off e => by have hh : Z1.1.heap.size ≤ b := (l3 _ e).1; have := Z1.2.size; have := HK9.out.size; omega), ?_, HIN.out.name, fun x hx => ?_, HIN.out.tags, ?_, ?_, HIN.out.ntg⟩
        · have hne : ∀ b off, c1 = some ⟨b, off, none⟩ → ¬ b = B := fun b off e => by have hh : b < w1.heap.size := (t3 _ e).2; have := HBB.out.1; omega
          exact (((t1.below HBW.out).kept HK9.out hne).below Z2.2).kept hkx (fun b off e => by have hh : B2 ≤ b := (t3 _ e).1; have := hne b off e; have := HT.out; omega)
        · rw [← HMLE.out] at hx
          obtain ⟨y, hy, e⟩ := movedF_mem hx
          rw [e]
          exact HIN.out.titles y hy
        · show (L.length : Int) ≤ _
          rw [HLL.out]
          omega
        · have hm := movedF_len A.lp d (spanS L)
          have := HOK.out.nlp
          rw [HMLE.out] at hm
          show (ML.length : Int) ≤ _
          omega)
      have HIN11 := Lib.hid (HINX.out W11 ⟨hk11.os, hk11.tape, hk11.output, hk11.size, fun k hk ho => hk11.block k hk (fun e => ho (Or.inl e))⟩)
      have HA11 := Lib.hid hA3
      have HB11 := Lib.hid hk11
      clear hA2 hA3 hk11
      refine late_do (i := 7) _ rfl (by kernel_rfl) rfl (fun K hK => ?_)
      go_simp
      refine hK _ _ (fun h => nomatch (show true = false from h)) ?_
      clear hK K
      try simp only [Act.put, List.setIfInBounds_toArray, List.set_cons_zero, List.set_cons_succ]
      refine late_done (by kernel_rfl) ?_ _
      clear y4 f4 hW11 G4 Y0 Y1 Y2 Y3 Y4 Y5 hspan
      have DCK := Lib.hid (show Calls Tryz.prog 32 #[.agg #[.string A.name, .int .i64 A.sport, .int .i64 (A.start + d), .slice a' k c', .slice b2 ML.length cb2, .slice c1 A.tg.length cc1]] W11 fun e w' => e = .returned (.int .i64 (chkA ⟨A.name, A.sport, A.start + d, L, ML, A.tg⟩)) ∧ Below W11.heap.size W11 w' from by
        have h := check_any ⟨A.name, A.sport, A.start + d, L, ML, A.tg⟩ a' b2 c1 c' cb2 cc1 W11 HIN11.out
        unfold ChkG actV at h
        simp only [HLL.out] at h
        exact h)
      have HPA := Lib.hid (show partA A l d = ⟨A.name, A.sport, A.start + d, L, ML, A.tg⟩ by unfold partA; rw [HL.out, HMLE.out])
      obtain ⟨er, her⟩ : ∃ z, chkA ⟨A.name, A.sport, A.start + d, L, ML, A.tg⟩ = z := ⟨_, rfl⟩
      have HER := Lib.hid her
      rw [her] at DCK
      clear her
      have z := HA11.out.cell
      obtain ⟨z0, z1, z2, z3, z4, z5⟩ := z
      go_wp2_with fail
      refine (DCK.out).mono ?_
      rintro e W12 ⟨rfl, hb12⟩
      have hA12 := HA11.out.below hb12
      have HA12 := Lib.hid hA12
      have HWL := Lib.hid (show Below w.heap.size w W12 from by
        have h1 := below_step (below_step HB.out HB1.out) HBW.out
        have h2 : Below w.heap.size w W9 := Kept.below h1 HK9.out h1.size (fun k hk e => by have := HVB.out; omega)
        have h3 := below_step h2 Z2.2
        exact below_step (Kept.below h3 HB11.out h3.size (fun k hk e => by have := HVB.out; omega)) hb12)
      have HR12 := Lib.hid (show AcB W12 (w.heap.size + 1) ⟨#[]⟩ 0 0 (.slice none 0 0) (.slice none 0 0) (.slice none 0 0) from by
        have hlt := HVB.out
        have hne : ¬ (w.heap.size + 1 = B) := by omega
        exact ((((((HA1.out.below HB1.out).below HBW.out).kept HK9.out hne).below Z2.2).kept HB11.out hne).below hb12))
      have HK12 := Lib.hid (show Kept (fun b => b = B ∨ b = w.heap.size + 1) Z2.1 W12 from Kept.trans ⟨HB11.out.os, HB11.out.tape, HB11.out.output, HB11.out.size, fun k hk ho => HB11.out.block k hk (fun e => ho (Or.inl e))⟩ (Kept.of_below hb12))
      obtain ⟨r0, r1, r2, r3, r4, r5⟩ := HR12.out.cell
      have fr := HR12.out.free
      clear hb12 hA12 z0 z1 z2 z3 z4 z5 DCK
      by_cases h0' : er = 0
      · subst h0'
        obtain ⟨z0, z1, z2, z3, z4, z5⟩ := HA12.out.cell
        obtain ⟨WF, hWF, haF, hkF⟩ := HR12.out.store A.name A.sport (A.start + d) (.slice a' k c') (.slice b2 ML.length cb2) (.slice c1 A.tg.length cc1)
        have HAF := Lib.hid haF
        have HKF := Lib.hid hkF
        clear haF hkF
        go_wp2_with fail
        have q := HAF.out.cell
        have HBF := Lib.hid (show Below w.heap.size w WF from Kept.below HWL.out (HKF.out (fun b => b = w.heap.size + 1) rfl) HWL.out.size (fun k hk e => by omega))
        refine bodyPost_ret (v := .tuple #[.agg #[.string A.name, .int .i64 A.sport, .int .i64 (A.start + d), .slice a' k c', .slice b2 ML.length cb2, .slice c1 A.tg.length cc1], .int .i64 0]) (by simp [results, Tryz.results228, go_sem, q]) rfl ⟨HBF.out, 0, by rw [HPA.out]; exact HER.out, Or.inr ⟨rfl, a', b2, c1, c', cb2, cc1, ?_, ?_, ?_⟩⟩
        · rw [HPA.out]
          unfold actV
          simp only [HLL.out]
        · rw [HPA.out]
          exact HINX.out WF (HK12.out.trans (HKF.out _ (Or.inr rfl)))
        · obtain ⟨B1, B2, hB1, hB2, _, _, _, _, hot⟩ := HO3.out.ex
          have hlt := HVB.out
          have hsz := HT.out
          rintro g (e | e | e)
          · have := ((HO9.out.rw_ smEl).2.2 _ e).1
            omega
          · have := ((HO2.out.rw_ lpEl).2.2 _ e).1
            have := Z1.2.size
            have := HK9.out.size
            omega
          · have := ((hot.rw_ tgEl).2.2 _ e).1
            omega
      · have b0 : (er != 0) = true := by rw [bne_iff_ne]; exact h0'
        obtain ⟨WF, hWF, haF, hkF⟩ := HR12.out.store ⟨#[]⟩ 0 0 (.slice none 0 0) (.slice none 0 0) (.slice none 0 0)
        have HAF := Lib.hid haF
        have HKF := Lib.hid hkF
        have H0 := Lib.hid h0'
        clear haF hkF h0'
        go_wp2_with fail
        have q := HAF.out.cell
        have HBF := Lib.hid (show Below w.heap.size w WF from Kept.below HWL.out (HKF.out (fun b => b = w.heap.size + 1) rfl) HWL.out.size (fun k hk e => by omega))
        refine bodyPost_ret (v := .tuple #[ac0, .int .i64 er]) (by simp [results, Tryz.results228, go_sem, q, ac0]) rfl ⟨HBF.out, er, by rw [HPA.out]; exact HER.out, Or.inl ⟨H0.out, rfl⟩⟩
end Go.Proofs.YtjnfccphodjfiaaGreat

/- track.Only at numbers that rise and are there. -/
namespace Go.Proofs.YtjnfccphodjfiaaGreat
open Go.RowKit Go.BigFrame
open Tr (inR)
theorem kin_any (n lo hi : Int) (w : World) : Calls Tryz.prog 186 #[.int .i64 n, .int .i64 lo, .int .i64 hi] w fun e w' => e = .returned (.bool (inR n lo hi)) ∧ w = w' := by
  cases h : decide (lo ≤ n)
  all_goals
    go_enter Tryz.func186, Tryz.ntmps186
    go_wp2
    go_ret
    exact ⟨ret_bool (by unfold inR; simp [h]), rfl⟩
def iC (x : Int) : List Value := [.int .i64 x]
/-- the samples of some numbers -/
def pickS (l : List Sm) (ks : List Nat) : List Sm := ks.filterMap fun k => l[k]?
def fromS (l : List Sm) : Int := match l[0]? with
  | some s => s.tm
  | none => 0
theorem pickS_snoc {l : List Sm} {ks : List Nat} {i k : Nat} {x : Sm} (hk : ks[i]? = some k) (hx : l[k]? = some x) : pickS l (ks.take (i + 1)) = pickS l (ks.take i) ++ [x] := by
  unfold pickS
  rw [List.take_add_one, hk, List.filterMap_append]
  simp [hx]
theorem pickS_len {l : List Sm} : ∀ {ks : List Nat}, (∀ k, k ∈ ks → k < l.length) → (pickS l ks).length = ks.length
  | [], _ => rfl
  | k :: ks, h => by
    have hk := h k (by simp)
    have ih := pickS_len (l := l) (ks := ks) (fun j hj => h j (by simp [hj]))
    unfold pickS at ih ⊢
    rw [List.filterMap_cons, List.getElem?_eq_getElem hk]
    simp [ih]
theorem pickS_mem {l : List Sm} {ks : List Nat} {s : Sm} (h : s ∈ pickS l ks) : ∃ k, k ∈ ks ∧ l[k]? = some s := by
  unfold pickS at h
  obtain ⟨k, h1, h2⟩ := List.mem_filterMap.1 h
  exact ⟨k, h1, h2⟩
def onlyA (A : Acv) (ks : List Nat) : Acv := partA A (pickS A.sm ks) (fromS (pickS A.sm ks))
end Go.Proofs.YtjnfccphodjfiaaGreat

/- trail.filled: a sample with what another one has, where it has none. (printed by wip/t/gen_tmi.py) -/
namespace Go.Proofs.YtjnfccphodjfiaaGreat
open Go.RowKit Go.BigFrame
def orNeg (a b : Int) : Int := if a < 0 then b else a
def fillS (s t : Sm) : Sm := { s with pu := orNeg s.pu t.pu, po := orNeg s.po t.po, st := orNeg s.st t.st }
def fillK (s t : Sm) : Nat → Sm
  | 0 => s
  | 1 => { s with pu := orNeg s.pu t.pu }
  | 2 => { s with pu := orNeg s.pu t.pu, po := orNeg s.po t.po }
  | _ => fillS s t
set_option maxHeartbeats 8000000 in
set_option maxRecDepth 100000 in
theorem filled_any (s t : Sm) (w : World) : Calls Tryz.prog 50 #[smV s, smV t] w fun e w' => e = .returned (smV (fillS s t)) ∧ Below w.heap.size w w' := by
  unfold smV
  obtain ⟨V0, hV0, hb0, hs0, ha0⟩ := alloc_sm w s
  obtain ⟨V1, hV1, hb1, hs1, ha1⟩ := alloc_sm V0 t
  obtain ⟨V2, hV2, hb2, hs2, ha2⟩ := alloc_sm V1 sm0
  obtain ⟨V3, hV3, hb3, hs3, hl3⟩ := alloc_cells V2 #[.pointer (some ⟨w.heap.size, 4, none⟩), .pointer (some ⟨w.heap.size + 1, 4, none⟩), .pointer (some ⟨w.heap.size, 5, none⟩), .pointer (some ⟨w.heap.size + 1, 5, none⟩), .pointer (some ⟨w.heap.size, 6, none⟩), .pointer (some ⟨w.heap.size + 1, 6, none⟩)] 110
  simp only [sm0] at hV2
  rw [hs0] at ha1
  rw [hs1, hs0] at ha2
  have hs22 : V2.heap.size = w.heap.size + 1 + 1 + 1 := by rw [hs2, hs1, hs0]
  rw [hs22] at hl3
  have hA0 := (((ha0.below hb1).below hb2).below hb3)
  have hA1 := ((ha1.below hb2).below hb3)
  have hA2 := ha2.below hb3
  have HB := Lib.hid (below_step (below_step (below_step hb0 hb1) hb2) hb3)
  have HA0 := Lib.hid hA0
  have HA1 := Lib.hid hA1
  have HA2 := Lib.hid hA2
  have HL3 := Lib.hid hl3
  have hs12 : V1.heap.size = w.heap.size + 1 + 1 := by rw [hs1, hs0]
  have HSZ := Lib.hid (show V3.heap.size = w.heap.size + 4 from by rw [hs3, hs22])
  clear hb0 hb1 hb2 hb3 ha0 ha1 ha2 hA0 hA1 hA2 hs1 hs2 hs3 hl3
  go_enter Tryz.func50, Tryz.ntmps50
  go_wp2_with fail
  go_loopw [18] (fun iv wr => ∃ k : Nat, iv = .int .i64 k ∧ k ≤ 3 ∧ ∃ X : ExtO (fun b => b = w.heap.size) V3, wr = X.1 ∧ Hid (SmB X.1 w.heap.size (fillK s t k))) (fun iv _ => 3 - (intOf iv).toNat)
  case atStart => exact ⟨0, rfl, by omega, ⟨V3, Kept.refl _ _⟩, rfl, HA0⟩
  case round =>
    obtain ⟨k, rfl, hk, X, rfl, HS⟩ := hrel
    clear hV0 hV1 hV2 hV3
    rcases (show k = 0 ∨ k = 1 ∨ k = 2 ∨ k = 3 by omega) with rfl | rfl | rfl | rfl
    · have j0 : X.1.cell? ⟨w.heap.size + 1 + 1 + 1, 0, none⟩ = some (.pointer (some ⟨w.heap.size, 4, none⟩)) := X.2.cell (by simp only; omega) (HL3.out 0 _ rfl)
      have j1 : X.1.cell? ⟨w.heap.size + 1 + 1 + 1, 1, none⟩ = some (.pointer (some ⟨w.heap.size + 1, 4, none⟩)) := X.2.cell (by simp only; omega) (HL3.out 1 _ rfl)
      obtain ⟨V5, hV5, hb5, hs5, hl5⟩ := alloc_cells X.1 #[.pointer (some ⟨w.heap.size, 4, none⟩), .pointer (some ⟨w.heap.size + 1, 4, none⟩)] 110
      have i0 := hl5 0 _ rfl
      have I0 := Ext.ex i0
      have I1 := Ext.ex (hl5 1 _ rfl)
      have hS5 := HS.out.below hb5
      have hT5 := ((HA1.out.kept X.2 (by omega)).below hb5)
      have c0 : V5.cell? ⟨w.heap.size, 4, none⟩ = some (.int .i64 s.pu) := hS5.cell.2.2.2.2.1
      have C0 := Ext.ex c0
      have C1 : ∀ Z : Ext V5, Z.1.cell? ⟨w.heap.size + 1, 4, none⟩ = some (.int .i64 t.pu) := Ext.ex hT5.cell.2.2.2.2.1
      have HS5 := Lib.hid hS5
      have HK5 := Lib.hid (X.2.trans (Kept.of_below hb5))
      clear hb5 hs5 hl5 hS5 hT5 HS
      by_cases hneg : s.pu < 0
      · have t1 : decide (s.pu < 0) = true := by rw [decide_eq_true_eq]; exact hneg
        have HFK := Lib.hid (show { fillK s t 0 with pu := t.pu } = fillK s t 1 by
          have e : orNeg s.pu t.pu = t.pu := if_pos hneg
          simp [fillK, e])
        clear hneg
        go_wp2_with fail
        refine late_start (s := 7) (C := fun w' => ∃ Z : Ext V5, w' = Z.1) (by kernel_rfl) ?_
        obtain ⟨Z0, hZ0⟩ : ∃ Z : Ext V5, ({ V5 with drawn := V5.drawn + 1 } : World) = Z.1 := ⟨⟨{ V5 with drawn := V5.drawn + 1 }, ⟨rfl, rfl, rfl, Nat.le_refl _, fun _ _ => rfl⟩⟩, rfl⟩
        rw [hZ0]
        clear hZ0
        refine late_quiet (by kernel_rfl) (fun _ _ d _ _ h => by cases d <;> exact h) ⟨Z0, rfl⟩ [0, 1, 2, 3, 4, 5, 6] 1 _ _ (by kernel_rfl) (by kernel_rfl) ?_
        change wpQuiet _ _ _ _ (_ :: _ :: _ :: _ :: _ :: _ :: _ :: []) _
        repeat go_big_quiet_step (fail)
        refine wpQuiet_nil ?_
        have hS6 := HS5.out.below Z0.2
        have f6 := hS6.free 4
        have hS7 := hS6.set4 t.pu
        rw [HFK.out] at hS7
        obtain ⟨W7, hW7⟩ : ∃ z, Z0.1.setCell ⟨w.heap.size, 4, none⟩ (.int .i64 t.pu) = z := ⟨_, rfl⟩
        rw [hW7] at hS7
        have HS7 := Lib.hid hS7
        have HK7 := Lib.hid ((HK5.out.trans (Kept.of_below Z0.2)).trans (show Kept (fun b => b = w.heap.size) Z0.1 W7 from by rw [← hW7]; exact keep_set (O := fun b => b = w.heap.size) rfl))
        clear hS6 hS7
        refine late_do (i := 7) _ rfl (by kernel_rfl) rfl (fun K hK => ?_)
        go_simp
        refine hK _ _ (fun h => nomatch (show true = false from h)) ?_
        clear hK K
        try simp only [Act.put, List.setIfInBounds_toArray, List.set_cons_zero, List.set_cons_succ]
        refine late_done (by kernel_rfl) ?_ _
        go_wp2_with fail
        go_roundw
        case rel => exact ⟨1, by go_num, by omega, ⟨W7, HK7.out⟩, rfl, HS7⟩
        case measure => simp [intOf]
      · have t1 : decide (s.pu < 0) = false := by rw [decide_eq_false_iff_not]; exact hneg
        have HFK := Lib.hid (show fillK s t 0 = fillK s t 1 by
          have e : orNeg s.pu t.pu = s.pu := if_neg hneg
          simp [fillK, e])
        clear hneg
        go_wp2_with fail
        go_roundw
        case rel => exact ⟨1, by go_num, by omega, ⟨V5, HK5.out⟩, rfl, Lib.hid (by rw [← HFK.out]; exact HS5.out)⟩
        case measure => simp [intOf]
    · have j0 : X.1.cell? ⟨w.heap.size + 1 + 1 + 1, 2, none⟩ = some (.pointer (some ⟨w.heap.size, 5, none⟩)) := X.2.cell (by simp only; omega) (HL3.out 2 _ rfl)
      have j1 : X.1.cell? ⟨w.heap.size + 1 + 1 + 1, 3, none⟩ = some (.pointer (some ⟨w.heap.size + 1, 5, none⟩)) := X.2.cell (by simp only; omega) (HL3.out 3 _ rfl)
      obtain ⟨V5, hV5, hb5, hs5, hl5⟩ := alloc_cells X.1 #[.pointer (some ⟨w.heap.size, 5, none⟩), .pointer (some ⟨w.heap.size + 1, 5, none⟩)] 110
      have i0 := hl5 0 _ rfl
      have I0 := Ext.ex i0
      have I1 := Ext.ex (hl5 1 _ rfl)
      have hS5 := HS.out.below hb5
      have hT5 := ((HA1.out.kept X.2 (by omega)).below hb5)
      have c0 : V5.cell? ⟨w.heap.size, 5, none⟩ = some (.int .i64 s.po) := hS5.cell.2.2.2.2.2.1
      have C0 := Ext.ex c0
      have C1 : ∀ Z : Ext V5, Z.1.cell? ⟨w.heap.size + 1, 5, none⟩ = some (.int .i64 t.po) := Ext.ex hT5.cell.2.2.2.2.2.1
      have HS5 := Lib.hid hS5
      have HK5 := Lib.hid (X.2.trans (Kept.of_below hb5))
      clear hb5 hs5 hl5 hS5 hT5 HS
      by_cases hneg : s.po < 0
      · have t1 : decide (s.po < 0) = true := by rw [decide_eq_true_eq]; exact hneg
        have HFK := Lib.hid (show { fillK s t 1 with po := t.po } = fillK s t 2 by
          have e : orNeg s.po t.po = t.po := if_pos hneg
          simp [fillK, e])
        clear hneg
        go_wp2_with fail
        refine late_start (s := 7) (C := fun w' => ∃ Z : Ext V5, w' = Z.1) (by kernel_rfl) ?_
        obtain ⟨Z0, hZ0⟩ : ∃ Z : Ext V5, ({ V5 with drawn := V5.drawn + 1 } : World) = Z.1 := ⟨⟨{ V5 with drawn := V5.drawn + 1 }, ⟨rfl, rfl, rfl, Nat.le_refl _, fun _ _ => rfl⟩⟩, rfl⟩
        rw [hZ0]
        clear hZ0
        refine late_quiet (by kernel_rfl) (fun _ _ d _ _ h => by cases d <;> exact h) ⟨Z0, rfl⟩ [0, 1, 2, 3, 4, 5, 6] 1 _ _ (by kernel_rfl) (by kernel_rfl) ?_
        change wpQuiet _ _ _ _ (_ :: _ :: _ :: _ :: _ :: _ :: _ :: []) _
        repeat go_big_quiet_step (fail)
        refine wpQuiet_nil ?_
        have hS6 := HS5.out.below Z0.2
        have f6 := hS6.free 5
        have hS7 := hS6.set5 t.po
        rw [HFK.out] at hS7
        obtain ⟨W7, hW7⟩ : ∃ z, Z0.1.setCell ⟨w.heap.size, 5, none⟩ (.int .i64 t.po) = z := ⟨_, rfl⟩
        rw [hW7] at hS7
        have HS7 := Lib.hid hS7
        have HK7 := Lib.hid ((HK5.out.trans (Kept.of_below Z0.2)).trans (show Kept (fun b => b = w.heap.size) Z0.1 W7 from by rw [← hW7]; exact keep_set (O := fun b => b = w.heap.size) rfl))
        clear hS6 hS7
        refine late_do (i := 7) _ rfl (by kernel_rfl) rfl (fun K hK => ?_)
        go_simp
        refine hK _ _ (fun h => nomatch (show true = false from h)) ?_
        clear hK K
        try simp only [Act.put, List.setIfInBounds_toArray, List.set_cons_zero, List.set_cons_succ]
        refine late_done (by kernel_rfl) ?_ _
        go_wp2_with fail
        go_roundw
        case rel => exact ⟨2, by go_num, by omega, ⟨W7, HK7.out⟩, rfl, HS7⟩
        case measure => simp [intOf]
      · have t1 : decide (s.po < 0) = false := by rw [decide_eq_false_iff_not]; exact hneg
        have HFK := Lib.hid (show fillK s t 1 = fillK s t 2 by
          have e : orNeg s.po t.po = s.po := if_neg hneg
          simp [fillK, e])
        clear hneg
        go_wp2_with fail
        go_roundw
        case rel => exact ⟨2, by go_num, by omega, ⟨V5, HK5.out⟩, rfl, Lib.hid (by rw [← HFK.out]; exact HS5.out)⟩
        case measure => simp [intOf]
    · have j0 : X.1.cell? ⟨w.heap.size + 1 + 1 + 1, 4, none⟩ = some (.pointer (some ⟨w.heap.size, 6, none⟩)) := X.2.cell (by simp only; omega) (HL3.out 4 _ rfl)
      have j1 : X.1.cell? ⟨w.heap.size + 1 + 1 + 1, 5, none⟩ = some (.pointer (some ⟨w.heap.size + 1, 6, none⟩)) := X.2.cell (by simp only; omega) (HL3.out 5 _ rfl)
      obtain ⟨V5, hV5, hb5, hs5, hl5⟩ := alloc_cells X.1 #[.pointer (some ⟨w.heap.size, 6, none⟩), .pointer (some ⟨w.heap.size + 1, 6, none⟩)] 110
      have i0 := hl5 0 _ rfl
      have I0 := Ext.ex i0
      have I1 := Ext.ex (hl5 1 _ rfl)
      have hS5 := HS.out.below hb5
      have hT5 := ((HA1.out.kept X.2 (by omega)).below hb5)
      have c0 : V5.cell? ⟨w.heap.size, 6, none⟩ = some (.int .i64 s.st) := hS5.cell.2.2.2.2.2.2
      have C0 := Ext.ex c0
      have C1 : ∀ Z : Ext V5, Z.1.cell? ⟨w.heap.size + 1, 6, none⟩ = some (.int .i64 t.st) := Ext.ex hT5.cell.2.2.2.2.2.2
      have HS5 := Lib.hid hS5
      have HK5 := Lib.hid (X.2.trans (Kept.of_below hb5))
      clear hb5 hs5 hl5 hS5 hT5 HS
      by_cases hneg : s.st < 0
      · have t1 : decide (s.st < 0) = true := by rw [decide_eq_true_eq]; exact hneg
        have HFK := Lib.hid (show { fillK s t 2 with st := t.st } = fillK s t 3 by
          have e : orNeg s.st t.st = t.st := if_pos hneg
          simp [fillK, fillS, e])
        clear hneg
        go_wp2_with fail
        refine late_start (s := 7) (C := fun w' => ∃ Z : Ext V5, w' = Z.1) (by kernel_rfl) ?_
        obtain ⟨Z0, hZ0⟩ : ∃ Z : Ext V5, ({ V5 with drawn := V5.drawn + 1 } : World) = Z.1 := ⟨⟨{ V5 with drawn := V5.drawn + 1 }, ⟨rfl, rfl, rfl, Nat.le_refl _, fun _ _ => rfl⟩⟩, rfl⟩
        rw [hZ0]
        clear hZ0
        refine late_quiet (by kernel_rfl) (fun _ _ d _ _ h => by cases d <;> exact h) ⟨Z0, rfl⟩ [0, 1, 2, 3, 4, 5, 6] 1 _ _ (by kernel_rfl) (by kernel_rfl) ?_
        change wpQuiet _ _ _ _ (_ :: _ :: _ :: _ :: _ :: _ :: _ :: []) _
        repeat go_big_quiet_step (fail)
        refine wpQuiet_nil ?_
        have hS6 := HS5.out.below Z0.2
        have f6 := hS6.free 6
        have hS7 := hS6.set6 t.st
        rw [HFK.out] at hS7
        obtain ⟨W7, hW7⟩ : ∃ z, Z0.1.setCell ⟨w.heap.size, 6, none⟩ (.int .i64 t.st) = z := ⟨_, rfl⟩
        rw [hW7] at hS7
        have HS7 := Lib.hid hS7
        have HK7 := Lib.hid ((HK5.out.trans (Kept.of_below Z0.2)).trans (show Kept (fun b => b = w.heap.size) Z0.1 W7 from by rw [← hW7]; exact keep_set (O := fun b => b = w.heap.size) rfl))
        clear hS6 hS7
        refine late_do (i := 7) _ rfl (by kernel_rfl) rfl (fun K hK => ?_)
        go_simp
        refine hK _ _ (fun h => nomatch (show true = false from h)) ?_
        clear hK K
        try simp only [Act.put, List.setIfInBounds_toArray, List.set_cons_zero, List.set_cons_succ]
        refine late_done (by kernel_rfl) ?_ _
        go_wp2_with fail
        go_roundw
        case rel => exact ⟨3, by go_num, by omega, ⟨W7, HK7.out⟩, rfl, HS7⟩
        case measure => simp [intOf]
      · have t1 : decide (s.st < 0) = false := by rw [decide_eq_false_iff_not]; exact hneg
        have HFK := Lib.hid (show fillK s t 2 = fillK s t 3 by
          have e : orNeg s.st t.st = s.st := if_neg hneg
          simp [fillK, fillS, e])
        clear hneg
        go_wp2_with fail
        go_roundw
        case rel => exact ⟨3, by go_num, by omega, ⟨V5, HK5.out⟩, rfl, Lib.hid (by rw [← HFK.out]; exact HS5.out)⟩
        case measure => simp [intOf]
    · obtain ⟨c0, c1, c2, c3, c4, c5, c6⟩ := HS.out.cell
      have hR := HA2.out.kept X.2 (by omega)
      obtain ⟨r0, r1, r2, r3, r4, r5, r6⟩ := hR.cell
      have fr := hR.free
      obtain ⟨WF, hWF, hF, hkF⟩ := hR.store (fillS s t)
      have HF := Lib.hid hF
      have HBF := Lib.hid (show Below w.heap.size w WF from
        have h1 : Below w.heap.size w X.1 := Kept.below HB.out X.2 HB.out.size (fun k hk e => by omega)
        Kept.below h1 (hkF (fun b => b = w.heap.size + 1 + 1) rfl) h1.size (fun k hk e => by omega))
      have hfe : fillK s t 3 = fillS s t := rfl
      rw [hfe] at c0 c1 c2 c3 c4 c5 c6
      clear hF hkF hR
      go_wp2_with fail
      have q := HF.out.cell
      exact bodyPost_ret (v := smV (fillS s t)) (by simp [results, Tryz.results50, go_sem, q, smV]) rfl ⟨rfl, HBF.out⟩
end Go.Proofs.YtjnfccphodjfiaaGreat

/- Rows of a call's own, sorted by the library: samples, texts; texts without their repeats. -/
namespace Go.Proofs.YtjnfccphodjfiaaGreat
open Go.RowKit Go.BigFrame

section sorted
open Go.Sort
variable {α : Type} {enc : α → List Value} {k : Nat}
theorem flatE_len (hk : ∀ x, (enc x).length = k) : ∀ l : List α, (l.flatMap enc).length = l.length * k
  | [] => by simp
  | x :: l => by rw [List.flatMap_cons, List.length_append, hk, flatE_len hk l, List.length_cons, Nat.succ_mul]; omega
theorem perm_one {lt : α → α → Bool} (hO : SWO lt) : ∀ (l1 l2 : List α), l1.Perm l2 → l1.Pairwise (fun x y => lt x y = true) → l2.Pairwise (fun x y => lt x y = true) → l1 = l2
  | [], l2, hp, _, _ => by rw [List.nil_perm.1 hp]
  | a :: l1, [], hp, _, _ => by have := hp.length_eq; simp at this
  | a :: l1, b :: l2, hp, h1, h2 => by
    rw [List.pairwise_cons] at h1 h2
    have hab : a = b := by
      rcases List.mem_cons.1 (hp.subset (List.mem_cons_self (a := a) (l := l1))) with e | ha
      · exact e
      · rcases List.mem_cons.1 (hp.symm.subset (List.mem_cons_self (a := b) (l := l2))) with e | hb
        · exact e.symm
        · have := hO.trans _ _ _ (h1.1 b hb) (h2.1 a ha)
          rw [hO.irrefl] at this
          cases this
    subst hab
    rw [perm_one hO l1 l2 (List.Perm.cons_inv hp) h1.2 h2.2]
variable [Inhabited α]
theorem flat_at (hk : ∀ x, (enc x).length = k) : ∀ (l : List α) (i j : Nat), i < l.length → j < k → (l.flatMap enc)[i * k + j]? = (enc (l.getD i default))[j]?
  | [], i, j, h, _ => absurd h (by simp)
  | x :: l, 0, j, _, hj => by
    rw [List.flatMap_cons, Nat.zero_mul, Nat.zero_add, List.getElem?_append_left (by rw [hk]; exact hj)]
    rfl
  | x :: l, i + 1, j, h, hj => by
    rw [List.flatMap_cons, List.getElem?_append_right (by rw [hk, Nat.succ_mul]; omega), hk, show (i + 1) * k + j - k = i * k + j by rw [Nat.succ_mul]; omega]
    rw [flat_at hk l i j (by simpa using h) hj]
    rfl
theorem flatK_list (hk : ∀ x, (enc x).length = k) (l : List α) : (flatK enc k l.toArray).toList = l.flatMap enc := by
  apply List.ext_getElem?
  intro t
  by_cases h : t < l.length * k
  · have k0 : 0 < k := by
      rcases Nat.eq_zero_or_pos k with e | e
      · subst e; simp at h
      · exact e
    have h1 : t / k < l.length := (Nat.div_lt_iff_lt_mul k0).2 h
    have h2 : t % k < k := Nat.mod_lt _ k0
    have e := flat_at hk l (t / k) (t % k) h1 h2
    rw [Nat.mul_comm, Nat.div_add_mod] at e
    have hs : t < (flatK enc k l.toArray).size := by rw [size_flatK]; simpa using h
    rw [e, Array.getElem?_toList, Array.getElem?_eq_getElem hs]
    have g := get_flatK enc k l.toArray t (by simpa using h)
    rw [getElem!_pos _ t hs] at g
    have h3 : t % k < (enc (l.getD (t / k) default)).length := by rw [hk]; exact h2
    rw [List.getElem?_eq_getElem h3, g]
    congr 1
    have e2 : l.toArray[t / k]! = l.getD (t / k) default := by
      rw [getElem!_pos _ _ (by simpa using h1)]
      simp [List.getD_eq_getElem?_getD, List.getElem?_eq_getElem h1]
    rw [e2, getElem!_pos (enc (l.getD (t / k) default)) (t % k) h3]
  · rw [List.getElem?_eq_none (by rw [Array.length_toList, size_flatK]; simpa using h), List.getElem?_eq_none (by rw [flatE_len hk]; omega)]
theorem own_holds (hk : ∀ x, (enc x).length = k) {w : World} {base g n cap : Nat} {e : TypeId} {l : List α} (h : w.ownsRow base e k (.slice (some ⟨g, 0, none⟩) n cap) n (l.flatMap enc)) : HoldsK enc k w g 0 l.toArray := by
  intro j hj
  have hl : l.length * k = n * k := by rw [← flatE_len hk, h.1]
  have hj2 : j < n * k := by rw [← hl]; simpa using hj
  refine ⟨?_, by rw [Nat.zero_add]; exact h.frozenAt j⟩
  rw [Nat.zero_add, h.cellAt j hj2, ← flatK_list hk, Array.getElem?_toList, Array.getElem?_eq_getElem hj]
  show _ = some (flatK enc k l.toArray)[j]!
  rw [getElem!_pos _ j hj]
theorem heap_sortedK {w : World} {g n : Nat} {os : Array Obj} {cur F : Array Value} {e : TypeId} {fr : Nat × Nat} (hb : w.heap[g]? = some (.cells cur e fr)) :
    (grow (putRow id (Sort.ahead w n) g 0 F) os).heap[g]? = some (.cells (putCells id 0 F cur) e fr) := by
  have hg : g < w.heap.size := (Array.getElem?_eq_some_iff.1 hb).1
  rw [heap_grow_old _ _ (by simpa using hg)]
  simp [putRow, mapBlock, Sort.ahead, Array.getElem?_modify, hb, onCells]
theorem take_putCellsK (cur F : Array Value) (h : F.size ≤ cur.size) : (putCells id 0 F cur).toList.take F.size = F.toList := by
  apply List.ext_getElem?
  intro j
  by_cases hj : j < F.size
  · rw [List.getElem?_take_of_lt hj, Array.getElem?_toList]
    simp [putCells, hj, show j < cur.size by omega]
  · rw [List.getElem?_take_eq_none (by omega), List.getElem?_eq_none (by simp; omega)]
theorem own_sorted (hk : ∀ x, (enc x).length = k) {w : World} {base g n cap : Nat} {e : TypeId} {l : List α} {d : Array α} (h : w.ownsRow base e k (.slice (some ⟨g, 0, none⟩) n cap) n (l.flatMap enc)) (hd : d.size = l.length) (m : Nat) (os : Array Obj) :
    (sortWorldK enc k w g 0 m d os).ownsRow base e k (.slice (some ⟨g, 0, none⟩) n cap) n (d.toList.flatMap enc) ∧ w.grownBy (sortWorldK enc k w g 0 m d os) (some g) := by
  have hl : l.length * k = n * k := by rw [← flatE_len hk, h.1]
  have hF : (flatK enc k d).toList = d.toList.flatMap enc := flatK_list hk d.toList
  have hFs : (flatK enc k d).size = n * k := by rw [size_flatK, hd, hl]
  refine ⟨⟨by rw [flatE_len hk, ← hl, ← hd]; simp, ?_⟩, ⟨rfl, rfl, rfl, by simp [sortWorldK, putRowK, size_grow], fun q hq hne => ?_⟩⟩
  · rcases h.2 with ⟨h0, _⟩ | ⟨g', cap', cur, hv, hg, hb, hn, hcap, hcs, _⟩
    · cases h0
    · injection hv with h1 h2 h3
      injection h1 with h1
      injection h1 with h1
      subst h1
      subst h3
      refine Or.inr ⟨g, cap, putCells id 0 (flatK enc k d) cur, rfl, hg, heap_sortedK hb, hn, hcap, by simp [putCells, hcs], ?_⟩
      rw [← hF, ← hFs]
      exact take_putCellsK cur _ (by rw [hFs, hcs]; exact Nat.mul_le_mul_right _ hn)
  · unfold sortWorldK putRowK
    rw [heap_grow_old _ _ (by simpa using hq)]
    have : g ≠ q := fun e => hne (by rw [e])
    simp [putRow, mapBlock, Sort.ahead, Array.getElem?_modify, this]
end sorted

section
open Go.Sort
def cfT (x y : Sm) : Int := Lib.compareInt x.tm y.tm
theorem lt_cfT : ltOf cfT = fun x y => decide (x.tm < y.tm) := by
  funext x y
  unfold ltOf cfT Lib.compareInt
  by_cases h : x.tm < y.tm
  · rw [if_pos h]; simp [h]
  · rw [if_neg h]
    by_cases h2 : x.tm > y.tm
    · rw [if_pos h2]; simp [h]
    · rw [if_neg h2]; simp [h]
theorem swo_cfT : SWO (ltOf cfT) := by
  rw [lt_cfT]
  refine ⟨fun x => by simp, fun x y z h1 h2 => ?_, fun x y z h1 h2 => ?_⟩
  · simp only [decide_eq_true_eq] at h1 h2 ⊢
    omega
  · simp only [decide_eq_false_iff_not] at h1 h2 ⊢
    omega
set_option maxHeartbeats 1000000 in
theorem cmpT_grow (x y : Sm) (w : World) :
    Calls Tryz.prog 52 #[smV x, smV y] w fun e w' => e = .returned (.int .i64 (cfT x y)) ∧ ∃ q os', w' = grow (w.drewN q) os' := by
  have D1 := Lib.hid (fun W => Tryz.cmp_Compare_int x.tm y.tm W)
  show Calls _ _ _ _ fun e w' => e = .returned (.int .i64 (Lib.compareInt x.tm y.tm)) ∧ _
  unfold smV
  have HF : Hid (∃ q os', (w.alloc (.cells #[.int .i64 x.tm, .int .i64 x.x, .int .i64 x.y, .int .i64 x.z, .int .i64 x.pu, .int .i64 x.po, .int .i64 x.st] 72)).alloc (.cells #[.int .i64 y.tm, .int .i64 y.x, .int .i64 y.y, .int .i64 y.z, .int .i64 y.pu, .int .i64 y.po, .int .i64 y.st] 72) = grow (w.drewN q) os') := Lib.hid ⟨0, _, by rw [alloc_eq_grow, alloc_eq_grow, grow_grow]; rfl⟩
  generalize Lib.compareInt x.tm y.tm = ci at D1 ⊢
  go_enter Tryz.func52, Tryz.ntmps52
  go_wp2_with (go_at_call 53; refine (D1.out _).mono ?_; rintro e wn ⟨rfl, rfl⟩)
  go_ret
  exact ⟨rfl, HF.out⟩
instance : Inhabited Sm := ⟨sm0⟩
theorem cmpT_lays (blk off size : Nat) (w : World) : CmpLays Tryz.prog 52 #[] smC 7 cfT blk off size w :=
  fun _ _ _ _ x y => cmpT_grow x y _
theorem sortSm_any (l : List Sm) (a : Option Addr) (cap base : Nat) (w : World) (hown : Own smC 7 72 w base (.slice a l.length cap) l) (hl : l.length ≤ 1000000) :
    Calls Tryz.prog 51 #[.slice a l.length cap, .func (.func 52) #[] #[]] w fun e w' =>
      e = .returned (.tuple #[]) ∧ (∃ l', l'.Perm l ∧ l'.Pairwise (fun x y => x.tm ≤ y.tm) ∧ Own smC 7 72 w' base (.slice a l.length cap) l') ∧ w.grownBy w' (Value.slice a l.length cap).ownBlock := by
  by_cases h0 : l = []
  · subst h0
    have h := AnyF.slices_SortFunc_none Tryz.sortSm a cap (.func (.func 52) #[] #[]) w
    change Calls Tryz.prog 51 _ w _ at h
    refine h.mono ?_
    rintro e w' ⟨rfl, rfl⟩
    exact ⟨rfl, ⟨[], List.Perm.refl _, List.Pairwise.nil, hown⟩, ⟨rfl, rfl, rfl, Nat.le_refl _, fun _ _ _ => rfl⟩⟩
  · obtain ⟨q, c, he, _, hq⟩ := hown.open (List.length_pos_iff.2 h0)
    injection he with e1 e2 e3
    subst e1 e3
    have eg : ∀ args w, (callFunc 52 args).run Tryz.prog w = .ok (.enter 52 args) w := enters_of Tryz.func52 (by kernel_rfl) rfl
    have hcon := AnyQ.slices_SortFunc Tryz.sortSm 7 Tryz.isAgg72 Tryz.sizeOf72 smC (fun _ => rfl) smEl.one cfT swo_cfT 52 #[] q 0 cap l.toArray w eg (cmpT_lays q 0 l.toArray.size w) (own_holds (enc := smC) (k := 7) (fun _ => rfl) hown) hq (by simp; omega)
    change Calls Tryz.prog 51 #[.slice (some ⟨q, 0, none⟩) l.length cap, .func (.func 52) #[] #[]] w _ at hcon
    refine hcon.mono ?_
    rintro e w' ⟨rfl, d, m, os, h1, h2, rfl⟩
    have h3 := own_sorted (enc := smC) (k := 7) (fun _ => rfl) hown (d := d) (by rw [h1.1]; simp) m os
    obtain ⟨p1, _, p3⟩ := h1
    have f1 : d.extract 0 l.toArray.size = d := by rw [← p1]; simp
    have f2 : l.toArray.extract 0 l.toArray.size = l.toArray := by simp
    rw [f1, f2] at p3
    have hperm : d.toList.Perm l := p3
    have hlen : d.toList.length = l.length := hperm.length_eq
    refine ⟨rfl, ⟨d.toList, hperm, ?_, ?_⟩, h3.2⟩
    · rw [List.pairwise_iff_getElem]
      intro i j hi hj hij
      have hj' : j < d.size := by simpa using hj
      have hs := h2 i j (Nat.zero_le _) hij (by rw [← p1]; exact hj')
      rw [lt_cfT] at hs
      simp only [decide_eq_false_iff_not] at hs
      rw [getElem!_pos d j hj', getElem!_pos d i (by omega)] at hs
      rw [Array.getElem_toList, Array.getElem_toList]
      omega
    · show World.ownsRow _ _ _ _ _ d.toList.length _
      rw [hlen]
      exact h3.1
end
end Go.Proofs.YtjnfccphodjfiaaGreat

/- Texts in a row of a call's own: appended, sorted, without their repeats. -/
namespace Go.Proofs.YtjnfccphodjfiaaGreat
open Go.RowKit Go.BigFrame
open Go.Sort Go.Lib

theorem putCells_map {α : Type} [Inhabited α] (enc : α → Value) (d : Array α) (c : Array Value) : putCells enc 0 d c = putCells id 0 (d.map enc) c := by
  unfold putCells
  apply Array.ext
  · simp
  · intro i h1 h2
    simp only [Array.getElem_mapIdx, Array.size_map]
    split
    · rename_i h
      have hi : i - 0 < d.size := by omega
      rw [getElem!_pos d _ hi, getElem!_pos (d.map enc) _ (by simpa using hi), Array.getElem_map]
      rfl
    · rfl
theorem putRow_map {α : Type} [Inhabited α] (enc : α → Value) (w : World) (b : Nat) (d : Array α) : putRow enc w b 0 d = putRow id w b 0 (d.map enc) := by
  unfold putRow
  congr 1
  funext c
  exact putCells_map enc d c
/-- an own row of one cell an element, all its cells written -/
theorem own_put {w : World} {base g n cap : Nat} {e : TypeId} {xs : List Value} (h : w.ownsRow base e 1 (.slice (some ⟨g, 0, none⟩) n cap) n xs) (F : Array Value) (hF : F.size = n) (m : Nat) (os : Array Obj) :
    (grow (putRow id (Sort.ahead w m) g 0 F) os).ownsRow base e 1 (.slice (some ⟨g, 0, none⟩) n cap) n F.toList ∧ w.grownBy (grow (putRow id (Sort.ahead w m) g 0 F) os) (some g) := by
  refine ⟨⟨by rw [Array.length_toList, hF, Nat.mul_one], ?_⟩, ⟨rfl, rfl, rfl, by simp [size_grow], fun q hq hne => ?_⟩⟩
  · rcases h.2 with ⟨h0, _⟩ | ⟨g', cap', cur, hv, hg, hb, hn, hcap, hcs, _⟩
    · cases h0
    · injection hv with h1 h2 h3
      injection h1 with h1
      injection h1 with h1
      subst h1
      subst h3
      refine Or.inr ⟨g, cap, putCells id 0 F cur, rfl, hg, heap_sortedK hb, hn, hcap, by simp [putCells, hcs], ?_⟩
      have := take_putCellsK cur F (by rw [hcs, hF]; omega)
      rw [hF] at this
      rw [Nat.mul_one]
      exact this
  · rw [heap_grow_old _ _ (by simpa using hq)]
    have : g ≠ q := fun e => hne (by rw [e])
    simp [putRow, mapBlock, Sort.ahead, Array.getElem?_modify, this]
theorem own_less {w : World} {base e k n n' cap q : Nat} {xs : List Value} (h : w.ownsRow base e k (.slice (some ⟨q, 0, none⟩) n cap) n xs) (hn : n' ≤ n) : w.ownsRow base e k (.slice (some ⟨q, 0, none⟩) n' cap) n' (xs.take (n' * k)) := by
  have hm : n' * k ≤ n * k := Nat.mul_le_mul_right _ hn
  refine ⟨by rw [List.length_take, h.1]; omega, ?_⟩
  rcases h.2 with ⟨h0, _⟩ | ⟨g', cap', cur, hv, hg, hb, h1, h2, h3, h4⟩
  · cases h0
  · injection hv with e1 e2 e3
    injection e1 with e1
    injection e1 with e1
    subst e1
    subst e3
    exact Or.inr ⟨q, cap, cur, rfl, hg, hb, Nat.le_trans hn h1, h2, h3, by rw [← h4, List.take_take, Nat.min_eq_left hm]⟩
def bL (s : ByteArray) : List UInt8 := s.data.toList
def lB (l : List UInt8) : ByteArray := ⟨l.toArray⟩
theorem lB_bL (s : ByteArray) : lB (bL s) = s := by cases s; simp [lB, bL]
theorem bL_lB (l : List UInt8) : bL (lB l) = l := by simp [lB, bL]
theorem bL_inj {s t : ByteArray} (h : bL s = bL t) : s = t := by rw [← lB_bL s, ← lB_bL t, h]
theorem flatTg (l : List ByteArray) : l.flatMap tgC = l.map Value.string := by
  induction l with
  | nil => rfl
  | cons a l ih => rw [List.flatMap_cons, List.map_cons, ih]; rfl
theorem holdsTg {w : World} {base q c : Nat} {l : List ByteArray} (h : Own tgC 1 9 w base (.slice (some ⟨q, 0, none⟩) l.length c) l) : Holds encStr w q 0 (l.map bL).toArray := by
  intro j hj
  have hjl : j < l.length := by simpa using hj
  obtain ⟨hr, _, _⟩ := h.rw_ tgEl
  refine ⟨?_, by rw [Nat.zero_add]; exact h.free j⟩
  have hc := hr.on (List.getElem?_eq_getElem hjl) 0 _ rfl
  rw [Nat.mul_one, Nat.add_zero] at hc
  rw [hc]
  have : (l.map bL).toArray[j]! = bL l[j] := by
    rw [getElem!_pos _ j hj]
    simp
  rw [this]
  show some (Value.string l[j]) = some (encStr (bL l[j]))
  have := lB_bL l[j]
  unfold lB at this
  rw [show encStr (bL l[j]) = Value.string ⟨(bL l[j]).toArray⟩ from rfl, this]
theorem mapEnc (l : List (List UInt8)) : (l.toArray.map encStr).toList = (l.map lB).flatMap tgC := by
  rw [flatTg]
  simp [lB]
set_option maxHeartbeats 1000000 in
theorem sortTg_any (l : List ByteArray) (a : Option Addr) (cap base : Nat) (w : World) (hown : Own tgC 1 9 w base (.slice a l.length cap) l) (hl : l.length ≤ 1000000) :
    Calls Tryz.prog 54 #[.slice a l.length cap] w fun e w' =>
      e = .returned (.tuple #[]) ∧ (∃ l', l'.Perm l ∧ l'.Pairwise (fun x y => bL x ≤ bL y) ∧ Own tgC 1 9 w' base (.slice a l.length cap) l') ∧ w.grownBy w' (Value.slice a l.length cap).ownBlock := by
  by_cases h0 : l = []
  · subst h0
    have h := Tryz.slices_Sort_string_none a cap w
    change Calls Tryz.prog 54 _ w _ at h
    refine h.mono ?_
    rintro e w' ⟨rfl, rfl⟩
    exact ⟨rfl, ⟨[], List.Perm.refl _, List.Pairwise.nil, hown⟩, ⟨rfl, rfl, rfl, Nat.le_refl _, fun _ _ _ => rfl⟩⟩
  · obtain ⟨q, c, he, _, hq⟩ := hown.open (List.length_pos_iff.2 h0)
    injection he with e1 e2 e3
    subst e1 e3
    have h := Tryz.slices_Sort_string q 0 cap (l.map bL) w (holdsTg hown) hq (by rw [List.length_map]; omega)
    rw [List.length_map] at h
    refine h.mono ?_
    rintro e w' ⟨rfl, m, os, rfl⟩
    obtain ⟨S, hS⟩ : ∃ S, (l.map bL).mergeSort (fun x y => decide (x ≤ y)) = S := ⟨_, rfl⟩
    have hp : S.Perm (l.map bL) := hS ▸ List.mergeSort_perm _ _
    have hlen : S.length = l.length := by rw [hp.length_eq, List.length_map]
    have hsd : S.Pairwise (fun x y => x ≤ y) := by
      have := List.pairwise_mergeSort (le := fun x y : List UInt8 => decide (x ≤ y)) (fun a b c h1 h2 => by
        simp only [decide_eq_true_eq] at h1 h2 ⊢
        exact List.le_trans h1 h2) (fun a b => by
        simp only [Bool.or_eq_true, decide_eq_true_eq]
        exact List.le_total a b) (l.map bL)
      rw [hS] at this
      exact this.imp (fun h => by simpa using h)
    rw [hS, putRow_map]
    obtain ⟨k1, k2⟩ := own_put hown (S.toArray.map encStr) (by simp [hlen]) m os
    rw [mapEnc] at k1
    refine ⟨rfl, ⟨S.map lB, ?_, ?_, ?_⟩, k2⟩
    · have := hp.map lB
      rw [List.map_map] at this
      have e : (lB ∘ bL) = id := funext lB_bL
      rw [e, List.map_id] at this
      exact this
    · rw [List.pairwise_map]
      exact hsd.imp (fun h => by rw [bL_lB, bL_lB]; exact h)
    · unfold Own
      rw [List.length_map, hlen]
      exact k1
/-! ### without repeats -/
structure CmpOk (d : Array (List UInt8)) (m : Nat) (l : List (List UInt8)) : Prop where
  of : ∀ x, x ∈ l → ∃ j, j < m ∧ d[j]! = x
  has : ∀ j, j < m → d[j]! ∈ l
  sorted : l.Pairwise (fun x y => x < y)
  le : m ≤ d.size
theorem cmpOk_upto {d : Array (List UInt8)} (hs : ∀ i j, i < j → j < d.size → d[i]! ≤ d[j]!) : ∀ m, m ≤ d.size → CmpOk d m (compactUpTo d m)
  | 0, _ => ⟨fun x h => by simp [compactUpTo] at h, fun j h => by omega, by simp [compactUpTo], by omega⟩
  | m + 1, hm => by
    have ih := cmpOk_upto hs m (by omega)
    rw [compactUpTo_succ]
    cases hk : keeps d m with
    | false =>
      rw [if_neg (by decide), List.append_nil]
      have h2 : 0 < m ∧ d[m]! = d[m - 1]! := by
        rcases Nat.eq_zero_or_pos m with h0 | h0
        · subst h0
          rw [keeps_lt_one d 0 (by omega)] at hk
          cases hk
        · refine ⟨h0, ?_⟩
          by_cases e : d[m]! = d[m - 1]!
          · exact e
          · rw [keeps_pos e] at hk
            cases hk
      exact ⟨fun x h => by obtain ⟨j, hj, e⟩ := ih.of x h; exact ⟨j, by omega, e⟩, fun j hj => by
        by_cases e : j = m
        · rw [e, h2.2]
          exact ih.has _ (by omega)
        · exact ih.has j (by omega), ih.sorted, hm⟩
    | true =>
      rw [if_pos rfl]
      refine ⟨fun x h => ?_, fun j hj => ?_, ?_, hm⟩
      · rcases List.mem_append.1 h with h | h
        · obtain ⟨j, hj, e⟩ := ih.of x h
          exact ⟨j, by omega, e⟩
        · exact ⟨m, by omega, (List.mem_singleton.1 h).symm⟩
      · rw [List.mem_append]
        by_cases e : j = m
        · rw [e]
          exact Or.inr (by simp)
        · exact Or.inl (ih.has j (by omega))
      · rw [List.pairwise_append]
        refine ⟨ih.sorted, by simp, fun x hx y hy => ?_⟩
        rw [List.mem_singleton.1 hy]
        obtain ⟨j, hj, rfl⟩ := ih.of x hx
        have hne : d[m]! ≠ d[m - 1]! := fun e => by
          rw [keeps_neg (by omega) e] at hk
          cases hk
        have h1 : d[j]! ≤ d[m - 1]! := by
          by_cases e : j = m - 1
          · rw [e]
            exact List.le_refl _
          · exact hs j (m - 1) (by omega) (by omega)
        have h2 := hs (m - 1) m (by omega) (by omega)
        have h3 : d[m - 1]! < d[m]! := by
          refine (List.not_le.1 fun h => ?_)
          exact hne (List.le_antisymm h h2)
        exact List.lt_of_le_of_lt h1 h3
theorem compact_ok {zs : List (List UInt8)} (hs : zs.Pairwise (fun x y => x ≤ y)) : (∀ x, x ∈ compact zs ↔ x ∈ zs) ∧ (compact zs).Pairwise (fun x y => x < y) ∧ (compact zs).length ≤ zs.length := by
  have h := cmpOk_upto (d := zs.toArray) (fun i j hij hj => by
    have hj' : j < zs.length := by simpa using hj
    rw [getElem!_pos _ j hj, getElem!_pos _ i (by simp; omega)]
    simpa using List.pairwise_iff_getElem.1 hs i j (by omega) hj' hij) zs.length (by simp)
  refine ⟨fun x => ⟨fun hx => ?_, fun hx => ?_⟩, h.sorted, ?_⟩
  · obtain ⟨j, hj, rfl⟩ := h.of x hx
    rw [getElem!_pos _ j (by simpa using hj)]
    simp
  · obtain ⟨j, hj, rfl⟩ := List.getElem_of_mem hx
    have := h.has j hj
    rw [getElem!_pos _ j (by simpa using hj)] at this
    unfold compact
    simpa using this
  · unfold compact compactUpTo
    rw [List.length_map]
    exact Nat.le_trans (List.length_filter_le _ _) (by simp)
set_option maxHeartbeats 1000000 in
theorem compactTg_any (l : List ByteArray) (a : Option Addr) (cap base : Nat) (w : World) (hown : Own tgC 1 9 w base (.slice a l.length cap) l) (hl : l.length ≤ 1000000) (hs : l.Pairwise (fun x y => bL x ≤ bL y)) (hcap : l.length ≤ cap) :
    Calls Tryz.prog 55 #[.slice a l.length cap] w fun e w' => ∃ l', e = .returned (.slice a l'.length cap) ∧ (∀ x, x ∈ l' ↔ x ∈ l) ∧ l'.Pairwise (fun x y => bL x < bL y) ∧ l'.length ≤ l.length ∧
      Own tgC 1 9 w' base (.slice a l'.length cap) l' ∧ w.grownBy w' (Value.slice a l.length cap).ownBlock := by
  by_cases h0 : l = []
  · subst h0
    have h := Tryz.slices_Compact_string_empty a cap w
    change Calls Tryz.prog 55 _ w _ at h
    refine h.mono ?_
    rintro e w' ⟨rfl, rfl⟩
    exact ⟨[], rfl, fun _ => Iff.rfl, List.Pairwise.nil, Nat.le_refl _, hown, ⟨rfl, rfl, rfl, Nat.le_refl _, fun _ _ _ => rfl⟩⟩
  · obtain ⟨q, c, he, _, hq⟩ := hown.open (List.length_pos_iff.2 h0)
    injection he with e1 e2 e3
    subst e1 e3
    have h := Tryz.slices_Compact_string q 0 cap (l.map bL) w (holdsTg hown) (by rw [List.length_map]; omega) (by rw [List.length_map]; exact hcap)
    rw [List.length_map] at h
    refine h.mono ?_
    rintro e w' ⟨rfl, m, rfl⟩
    obtain ⟨k1, k2, k3⟩ := compact_ok (zs := l.map bL) (by rw [List.pairwise_map]; exact hs)
    obtain ⟨S, hS⟩ : ∃ S, compact (l.map bL) = S := ⟨_, rfl⟩
    rw [hS] at k1 k2 k3 ⊢
    rw [List.length_map] at k3
    rw [putRow_map]
    obtain ⟨p1, p2⟩ := own_put hown ((S ++ List.replicate (l.length - S.length) []).toArray.map encStr) (by simp; omega) m #[]
    have hg : ∀ W : World, grow W #[] = W := fun W => by simp [grow]
    rw [hg] at p1 p2
    rw [mapEnc] at p1
    have p3 := own_less (n' := S.length) p1 k3
    refine ⟨S.map lB, by rw [List.length_map], fun x => ?_, ?_, by rw [List.length_map]; exact k3, ?_, p2⟩
    · rw [List.mem_map]
      constructor
      · rintro ⟨b, hb, rfl⟩
        obtain ⟨s, hs', rfl⟩ := List.mem_map.1 ((k1 b).1 hb)
        rw [lB_bL]
        exact hs'
      · intro hx
        exact ⟨bL x, (k1 _).2 (List.mem_map.2 ⟨x, hx, rfl⟩), lB_bL x⟩
    · rw [List.pairwise_map]
      exact k2.imp (fun h => by rw [bL_lB, bL_lB]; exact h)
    · unfold Own
      rw [List.length_map]
      have e : (((S ++ List.replicate (l.length - S.length) []).map lB).flatMap tgC).take (S.length * 1) = (S.map lB).flatMap tgC := by
        rw [List.map_append, List.flatMap_append, Nat.mul_one, List.take_left' (by rw [tgEl.flat, List.length_map, Nat.mul_one])]
      rw [e] at p3
      exact p3
/-! ### appended -/
theorem append_noneT {P : Program} {t e : TypeId} {i : TypeInfo} (ht : P.underlying t = some (.slice e)) (hi : P.info? e = some i) (ty : TypeId) (base : Option Addr) (l c : Nat) (hlc : l ≤ c) (a : Option Addr) (k : Nat) (w : World) :
    (Builtin.append_ #[t, t] ty #[.slice base l c, .slice a 0 k]).run P w = .ok (.slice base l c) w := by
  cases base <;> cases a <;> simp [Builtin.append_, run_underlying ht, sizeOf, typeInfo, hi, Builtin.lenOf, Builtin.firstCells, hlc, loadCells, loadCellsFrom, storeCells]
theorem append_Tgs {ops : Array Oper} {rest : List Oper} {o : Oper} {a : Act} {Q : Exit → Act → World → Prop} {w : World} (hgd : o.guard = none) (s x : Operand)
    (ho : o.op = .call { callee := .builtin .append, args := #[s, x], argTypes := #[24, 24] }) {base : Nat} {v : Value} {l : List ByteArray} (hs : a.eval s = v) (hown : Own tgC 1 9 w base v l)
    {ad : Option Addr} {m : List ByteArray} {n k : Nat} (hx : a.eval x = .slice ad n k) (hm : m.length = n) (hr : Rw tgC 1 w ad m) (hn : l.length + n ≤ 1000000) (hb : base ≤ w.heap.size)
    (h : ∀ v' w', Own tgC 1 9 w' base v' (l ++ m) → w.grownBy w' v.ownBlock → wpList Tryz.prog ops Q rest (a.put o.dst v') w') : wpList Tryz.prog ops Q (o :: rest) a w := by
  obtain ⟨i0, hi0, hy0, hy1, hy2⟩ := info_parts infoTg.out
  rcases Nat.eq_zero_or_pos n with h0 | h0
  · subst h0
    have hm0 : m = [] := List.length_eq_zero_iff.1 hm
    subst hm0
    obtain ⟨av, cv, rfl, hlc, _, _⟩ := hown.row tgEl
    refine Lib.wpList_append_run _ hgd s x _ _ ho _ _ hs hx _ _ (append_noneT underTg.out hi0 _ av l.length cv hlc ad k w) (h _ _ ?_ (grown_self _ _))
    rw [List.append_nil]
    exact hown
  · obtain ⟨b, off, rfl, _, _⟩ := hr.here (by omega)
    refine wpList_append_own w hgd s x 24 ho base 9 i0 (.string ⟨#[]⟩) 1 16 underTg.out hi0 hy0 hy1 hy2 rfl (by decide) v l.length (l.flatMap tgC) hs hown ⟨b, off, none⟩ n k (m.flatMap tgC) hx (by rw [tgEl.flat, hm]) (hr.flat tgEl) (tgEl.ones m) (by unfold maxLen; omega) (by omega) hb ?_
    intro v' w' h1 h2 _
    refine h v' w' ?_ h2
    unfold Own
    rw [List.length_append, List.flatMap_append, hm]
    exact h1
end Go.Proofs.YtjnfccphodjfiaaGreat

/- A map from moments to samples; the samples of such a map in whatever order. -/
namespace Go.Proofs.YtjnfccphodjfiaaGreat
open Go.RowKit Go.BigFrame

def smD (s : Sm) : DataW Unit := .agg [.lit (.int .i64 s.tm), .lit (.int .i64 s.x), .lit (.int .i64 s.y), .lit (.int .i64 s.z), .lit (.int .i64 s.pu), .lit (.int .i64 s.po), .lit (.int .i64 s.st)]
theorem smD_inj {s t : Sm} (h : smD s = smD t) : s = t := by
  cases s
  cases t
  simp only [smD] at h
  injection h with h
  simp only [List.cons.injEq, DataW.lit.injEq, Lit.int.injEq, true_and, and_true] at h
  obtain ⟨a, b, c, d, e, f, g⟩ := h
  rw [a, b, c, d, e, f, g]
def smR : Value → Option (DataW Unit × List MemPlace)
  | .agg cs => match cs.toList with
    | [.int .i64 a, .int .i64 b, .int .i64 c, .int .i64 d, .int .i64 e, .int .i64 f, .int .i64 g] => some (smD ⟨a, b, c, d, e, f, g⟩, [])
    | _ => none
  | _ => none
theorem smR_of (s : Sm) : smR (smV s) = some (smD s, []) := rfl
theorem smR_inv : ∀ v y, smR v = some y → ∃ s : Sm, v = smV s ∧ y = (smD s, []) := by
  intro v y h
  unfold smR at h
  split at h
  · rename_i cs
    split at h
    · rename_i a b c d e f g hc
      injection h with h
      refine ⟨⟨a, b, c, d, e, f, g⟩, ?_, h.symm⟩
      unfold smV
      rw [← Array.toArray_toList (xs := cs), hc]
    · cases h
  · cases h
theorem smR_val : ∀ v y, smR v = some y → ∃ s : Sm, v = smV s := fun v y h => by
  obtain ⟨s, e, _⟩ := smR_inv v y h
  exact ⟨s, e⟩
theorem key_int : ∀ key kl, keyOf Tryz.prog 3 key = some kl → ∃ x : Int, key = .int .i64 x := by
  intro key kl h
  obtain ⟨x, rfl, _⟩ := Maps.keyOf_int_inv Tryz.underlying3 h
  exact ⟨x, rfl⟩
/-- block b is a map that tells f -/
structure SMap (w : World) (b n : Nat) (f : Int → Option Sm) : Prop where
  ex : ∃ D, w.ownsMap Tryz.prog 3 smR b n D ∧ ∀ j : Int, (Lit.int .i64 j).wf = true → (∀ u, f j = some u → ∀ z, D.atKey (.int .i64 j) z = smD u) ∧ (f j = none → ∀ z, D.atKey (.int .i64 j) z = z)
def putS (f : Int → Option Sm) (d : Int) (x : Sm) : Int → Option Sm := fun j => if j = d then some x else f j
theorem tm_wf {j : Int} (h0 : -9223372036854775808 ≤ j) (h1 : j ≤ 9223372036854775807) : (Lit.int .i64 j).wf = true := by
  have e1 : IntKind.i64.min = -9223372036854775808 := by decide
  have e2 : IntKind.i64.max = 9223372036854775807 := by decide
  simp [Lit.wf, e1, e2]
  omega
theorem SMap.made (w : World) : SMap (w.alloc (.map #[] 0)) w.heap.size 0 (fun _ => none) :=
  ⟨.map [], World.ownsMap_made _ _ _ _, fun _ _ => ⟨fun _ h => by (cases h), fun _ _ => rfl⟩⟩
theorem SMap.lt {w : World} {b n : Nat} {f : Int → Option Sm} (h : SMap w b n f) : b < w.heap.size := by
  obtain ⟨D, h1, _⟩ := h.ex
  exact h1.lt
theorem SMap.kept {O : Nat → Prop} {w w' : World} {b n : Nat} {f : Int → Option Sm} (h : SMap w b n f) (hk : Kept O w w') (ho : ¬ O b) : SMap w' b n f := by
  obtain ⟨D, h1, h2⟩ := h.ex
  have hlt := h1.lt
  obtain ⟨es, clock, hb, F, hs, hD⟩ := h1
  exact ⟨D, ⟨es, clock, (hk.block b hlt ho).trans hb, F, hs, hD⟩, h2⟩
theorem SMap.below {w w' : World} {b n : Nat} {f : Int → Option Sm} (h : SMap w b n f) (hb : Below w.heap.size w w') : SMap w' b n f := h.kept (O := fun _ => False) (Kept.of_below hb) (fun e => e)
theorem SMap.look {w : World} {b n : Nat} {f : Int → Option Sm} (h : SMap w b n f) {j : Int} (hj : (Lit.int .i64 j).wf = true) : (Instr.lookup 79 (.map (some b)) (.int .i64 j) true).run Tryz.prog w = .ok (.tuple #[smV ((f j).getD sm0), .bool (f j).isSome]) w := by
  obtain ⟨D, h1, h2⟩ := h.ex
  obtain ⟨v, ps, hrun, hv⟩ := h1.look_ok (Maps.int_keyed Tryz.underlying3) Tryz.underlying79 (z := smV sm0) (by show (zeroValue 72).run Tryz.prog w = .ok (.agg #[.int .i64 0, .int .i64 0, .int .i64 0, .int .i64 0, .int .i64 0, .int .i64 0, .int .i64 0]) w; go_simp) (zd := smD sm0) rfl (Maps.keyOf_int_mk Tryz.underlying3 hj)
  obtain ⟨s, rfl, hs⟩ := smR_inv _ _ hv
  have hs := (Prod.mk.inj hs).1
  cases hf : f j with
  | none =>
    rw [(h2 j hj).2 hf] at hs
    rw [← smD_inj hs] at hrun
    rw [Maps.has_false_of_atKey ((h2 j hj).2 hf)] at hrun
    exact hrun
  | some u =>
    rw [(h2 j hj).1 u hf] at hs
    rw [← smD_inj hs] at hrun
    rw [Maps.has_true_of_atKey ((h2 j hj).1 u hf)] at hrun
    exact hrun
theorem SMap.put {w : World} {b n : Nat} {f : Int → Option Sm} (h : SMap w b n f) {j : Int} (hj : (Lit.int .i64 j).wf = true) (hn : n < maxLen) (x : Sm) : ∃ w', (Instr.mapUpdate 79 (.map (some b)) (.int .i64 j) (smV x)).run Tryz.prog w = .ok () w' ∧ SMap w' b (n + 1) (putS f j x) ∧ w.grownBy w' (some b) := by
  obtain ⟨D, h1, h2⟩ := h.ex
  obtain ⟨w', r1, r2, r3⟩ := h1.update (Maps.int_keyed Tryz.underlying3) Tryz.underlying79 hn (val := smV x) (d := smD x) (ps := []) (Maps.keyOf_int_mk Tryz.underlying3 hj) rfl
  refine ⟨w', r1, ⟨_, r2, fun i hi => ?_⟩, r3⟩
  unfold putS
  by_cases e : i = j
  · subst e
    rw [if_pos rfl]
    refine ⟨fun u hu z => ?_, fun h => by cases h⟩
    have hu := Option.some.inj hu
    subst hu
    exact Maps.atKey_put_same h1.isMap ((Maps.int_keyed Tryz.underlying3).key (Maps.keyOf_int_mk Tryz.underlying3 hi)) _ _
  · rw [if_neg e]
    have hne : (Lit.int .i64 i) ≠ .int .i64 j := fun h => by injection h with _ h; exact e h
    exact ⟨fun u hu z => by rw [Maps.atKey_put_other hne]; exact (h2 i hi).1 u hu z, fun hu z => by rw [Maps.atKey_put_other hne]; exact (h2 i hi).2 hu z⟩
/-! ### its samples in whatever order -/
structure RgS (f : Int → Option Sm) (left : Lit → Bool) (L : List Sm) : Prop where
  of : ∀ s, s ∈ L → left (.int .i64 s.tm) = false ∧ ∃ u, f s.tm = some u ∧ s = { u with tm := s.tm }
  has : ∀ (j : Int) (u : Sm), (Lit.int .i64 j).wf = true → f j = some u → left (.int .i64 j) = false → { u with tm := j } ∈ L
  nd : L.Pairwise (fun x y => x.tm ≠ y.tm)
theorem RgS.start {f : Int → Option Sm} {left : Lit → Bool} (h : ∀ (j : Int) (u : Sm), (Lit.int .i64 j).wf = true → f j = some u → left (.int .i64 j) = true) : RgS f left [] :=
  ⟨fun s hs => absurd hs (by simp), fun j u hj hu hl => absurd (h j u hj hu) (by rw [hl]; decide), List.Pairwise.nil⟩
theorem RgS.step {f : Int → Option Sm} {left : Lit → Bool} {L : List Sm} (h : RgS f left L) {x : Int} {u : Sm} (hx : left (.int .i64 x) = true) (hu : f x = some u) : RgS f (fun z => left z && !z.sameKey (.int .i64 x)) (L ++ [{ u with tm := x }]) := by
  have hsame : ∀ j : Int, (Lit.int .i64 j).sameKey (.int .i64 x) = decide (j = x) := fun j => by
    by_cases e : j = x
    · subst e
      rw [WideAt.sameKey_self (a := .int .i64 j) trivial]
      simp
    · rw [Maps.sameKey_ne (fun h => by injection h with _ h; exact e h)]
      simp [e]
  refine ⟨fun s hs => ?_, fun j v hj hv hl => ?_, ?_⟩
  · rcases List.mem_append.1 hs with hs | hs
    · obtain ⟨h1, h2⟩ := h.of s hs
      exact ⟨by rw [h1]; rfl, h2⟩
    · rw [List.mem_singleton.1 hs]
      exact ⟨by simp [hsame], u, hu, rfl⟩
  · rw [hsame] at hl
    by_cases e : j = x
    · subst e
      rw [hu] at hv
      have hv := Option.some.inj hv
      subst hv
      simp
    · have : left (.int .i64 j) = false := by simpa [e] using hl
      exact List.mem_append.2 (Or.inl (h.has j v hj hv this))
  · rw [List.pairwise_append]
    refine ⟨h.nd, by simp, fun s hs y hy => ?_⟩
    rw [List.mem_singleton.1 hy]
    intro e
    have := (h.of s hs).1
    rw [show s.tm = x from e, hx] at this
    cases this
theorem RgS.done {f : Int → Option Sm} {left : Lit → Bool} {L : List Sm} (h : RgS f left L) (hl : ∀ k, left k = false) (hw : ∀ (j : Int) (u : Sm), f j = some u → (Lit.int .i64 j).wf = true) (s : Sm) : s ∈ L ↔ ∃ u, f s.tm = some u ∧ s = { u with tm := s.tm } := by
  constructor
  · exact fun hs => (h.of s hs).2
  · rintro ⟨u, hu, e⟩
    have := h.has s.tm u (hw _ _ hu) hu (hl _)
    rw [← e] at this
    exact this
/-! ### what the map tells -/
def mapB (B : Acv) (shift : Int) (l : List Sm) : Int → Option Sm := l.foldl (fun f s => putS f (B.start + s.tm - shift) s) (fun _ => none)
def stepA (A : Acv) (f : Int → Option Sm) (s : Sm) : Int → Option Sm := putS f (A.start + s.tm) (match f (A.start + s.tm) with | some t => fillS s t | none => s)
def mapA (A : Acv) (f : Int → Option Sm) (l : List Sm) : Int → Option Sm := l.foldl (stepA A) f
theorem mapB_snoc {B : Acv} {shift : Int} {l : List Sm} {k : Nat} {x : Sm} (hx : l[k]? = some x) : mapB B shift (l.take (k + 1)) = putS (mapB B shift (l.take k)) (B.start + x.tm - shift) x := by
  unfold mapB
  rw [List.take_add_one, hx, List.foldl_append]
  rfl
theorem mapA_snoc {A : Acv} {f : Int → Option Sm} {l : List Sm} {k : Nat} {x : Sm} (hx : l[k]? = some x) : mapA A f (l.take (k + 1)) = stepA A (mapA A f (l.take k)) x := by
  unfold mapA
  rw [List.take_add_one, hx, List.foldl_append]
  rfl
end Go.Proofs.YtjnfccphodjfiaaGreat
