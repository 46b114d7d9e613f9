/- Several texts of this claim in one. -/
import Derived.Test.YtaghhndcimjjgaaGreatDoorRs4
import Derived.Test.YtaghhndcimjjgaaGreatDoorShelfG
import Derived.Deep.AppendLies
import Derived.Test.YtaghhndcimjjgaaGreatDoorRs5
import Derived.Test.YtaghhndcimjjgaaGreatDoorRs3
import Derived.Test.YtaghhndcimjjgaaGreatDoorShelf2
import Derived.Test.YtaghhndcimjjgaaGreatDoorProg
import Derived.Test.YtaghhndcimjjgaaGreatDoorSa1
import Derived.WalkKit
import Derived.WalkSpells
import Derived.WalkLawsBesides
import Derived.Lib.Hide
import Derived.Test.YtaghhndcimjjgaaGreatDoorRows
import Derived.ProofKit
import Derived.OpenShut
import Derived.Lib.SmallJoins
import Derived.Deep.SlicePairs
import Derived.Carry
/- Sets: slices.Concat of two rows of spans (program). -/
namespace Go.Proofs.YtaghhndcimjjgaaGreatDoor
open Go.RowKit Go.BigFrame
open Sp (chkS chkL spl mem Norm inB joinStep joinAll)

/-- an append of nothing -/
theorem append_nothing {P : Program} {t e : TypeId} {i : TypeInfo} (ht : P.underlying t = some (.slice e)) (hi : P.info? e = some i) (ty : TypeId) (base : Option Addr) (l c : Nat) (hlc : l ≤ c) (a : Option Addr) (k : Nat) (w : World) :
    (Builtin.append_ #[t, t] ty #[.slice base l c, .slice a 0 k]).run P w = .ok (.slice base l c) w := by
  cases base <;> cases a <;> simp [Builtin.append_, run_underlying ht, sizeOf, typeInfo, hi, Builtin.lenOf, Builtin.firstCells, hlc, loadCells, loadCellsFrom, storeCells]
/-- the cells of a row that came in -/
theorem rows_cells {w : World} {a : Addr} {n : Nat} {F T : Nat → Int} (hr : Rows2 w (some a) n F T) : ∀ j u, ((spl F T n).flatMap spC)[j]? = some u → w.cell? (a.add j) = some u := by
  intro j u hj
  have hjl : j < n * 2 := by
    have := (List.getElem?_eq_some_iff.1 hj).1
    rw [flatSp_len, Sp.spl_len] at this
    exact this
  obtain ⟨b, off, h1, _, h2⟩ := hr.here (by omega)
  injection h1 with h1
  subst h1
  rw [show (⟨b, off, none⟩ : Addr).add j = ⟨b, off + j, none⟩ by unfold Addr.add; split <;> simp_all]
  obtain ⟨c0, c1⟩ := spl_flat F T n (j / 2) (by omega)
  obtain ⟨d0, d1⟩ := h2 (j / 2) (by omega)
  rcases (show j = j / 2 * 2 ∨ j = j / 2 * 2 + 1 by omega) with e | e
  · rw [e] at hj ⊢
    rw [c0] at hj
    rw [← Option.some.inj hj]
    exact d0
  · rw [e] at hj ⊢
    rw [c1] at hj
    rw [← Option.some.inj hj]
    exact d1
theorem grown_refl (w : World) (r : Option Nat) : w.grownBy w r := ⟨rfl, rfl, rfl, Nat.le_refl _, fun _ _ _ => rfl⟩
/-- a row of spans appended to a row of one's own -/
theorem append_spans {ops : Array Oper} {rest : List Oper} {o : Oper} {a : Act} {Q : Exit → Act → World → Prop} {w : World} (hgd : o.guard = none) (s x : Operand)
    (ho : o.op = .call { callee := .builtin .append, args := #[s, x], argTypes := #[22, 22] }) {base : Nat} {v : Value} {l : List (Int × Int)} (hs : a.eval s = v) (hown : SpOwn w base v l)
    {ad : Option Addr} {n k : Nat} {F T : Nat → Int} (hx : a.eval x = .slice ad n k) (hr : Rows2 w ad n F T) (hn : l.length + n ≤ 1000000) (hb : base ≤ w.heap.size)
    (h : ∀ v' w', SpOwn w' base v' (l ++ spl F T n) → w.grownBy w' v.ownBlock → wpList Tryz.prog ops Q rest (a.put o.dst v') w') : wpList Tryz.prog ops Q (o :: rest) a w := by
  obtain ⟨i0, hi0, hy0, hy1, hy2⟩ := info_parts (show (Tryz.prog.info? 35).map (fun i => (i.zero, i.size, i.bytes)) = some (some (.agg #[.int .i64 0, .int .i64 0]), 2, 16) by kernel_rfl)
  rcases Nat.eq_zero_or_pos n with h0 | h0
  · subst h0
    obtain ⟨av, cv, rfl, hlc, _, _⟩ := hown.rows
    refine Lib.wpList_append_run _ hgd s x _ _ ho _ _ hs hx _ _ (append_nothing Tryz.underlying22 hi0 _ av l.length cv hlc ad k w) (h _ _ ?_ (grown_refl _ _))
    rw [show spl F T 0 = [] from rfl, List.append_nil]
    exact hown
  · obtain ⟨b, off, rfl, _, _⟩ := hr.here h0
    refine wpList_append_own w hgd s x 22 ho base 35 i0 (.agg #[.int .i64 0, .int .i64 0]) 2 16 Tryz.underlying22 hi0 hy0 hy1 hy2 rfl (by decide) v l.length (l.flatMap spC) hs hown ⟨b, off, none⟩ n k ((spl F T n).flatMap spC) hx (by rw [flatSp_len, Sp.spl_len]) (rows_cells hr) (fun u hu => by
      obtain ⟨y, _, hy⟩ := List.mem_flatMap.1 hu
      exact spC_one y u hy) (by unfold maxLen; omega) (by omega) hb ?_
    intro v' w' h1 h2 _
    refine h v' w' ?_ h2
    unfold SpOwn
    rw [List.length_append, List.flatMap_append, Sp.spl_len]
    exact h1
/-- slices.Grow of nothing: an own row with room -/
theorem grow_any (n : Nat) (hn : n ≤ 1000000) (w : World) :
    Calls Tryz.prog 51 #[.slice none 0 0, .int .i64 n] w fun e w' => (∃ v, e = .returned v ∧ SpOwn w' w.heap.size v []) ∧ Below w.heap.size w w' := by
  rcases Nat.eq_zero_or_pos n with h0 | h0
  · subst h0
    have h := Any8.slices_Grow_room Tryz.growSpan none 0 0 0 w (by omega) (by omega) (by omega) (by omega)
    change Calls Tryz.prog 51 _ w _ at h
    refine h.mono ?_
    rintro e w' ⟨rfl, rfl⟩
    exact ⟨⟨_, rfl, SpOwn.nil _ _⟩, Below.refl _ _⟩
  · obtain ⟨i0, hi0, hy0, hy1, hy2⟩ := info_parts (show (Tryz.prog.info? 35).map (fun i => (i.zero, i.size, i.bytes)) = some (some (.agg #[.int .i64 0, .int .i64 0]), 2, 16) by kernel_rfl)
    have h := Any8.slices_Grow_grow Tryz.growSpan i0 (.agg #[.int .i64 0, .int .i64 0]) hi0 hy0 (by rw [hy1]; omega) none 0 0 n [] w (by omega) (by omega) (by rw [hy2]; omega) (by omega) (by simp) (fun _ => rfl) (fun a ha => by cases ha)
    change Calls Tryz.prog 51 _ w _ at h
    refine h.mono ?_
    rintro e w' ⟨rfl, rfl⟩
    refine ⟨⟨_, rfl, ?_⟩, (Below.refl _ w).drew.alloc (Nat.le_refl _) _⟩
    have hG := grownCap_ge w (0 + n) 0 (Tryz.growSpan_ren.t 25)
    have hM := grownCap_le_maxLen w (0 + n) 0 (Tryz.growSpan_ren.t 25) (by unfold maxLen; omega)
    generalize grownCap w (0 + n) 0 (Tryz.growSpan_ren.t 25) = G at hG hM ⊢
    refine World.ownsRow_made (e := 35) (size := 2) w.drew _ G (Nat.le_refl _) hM ?_
    simp [Builtin.zeroCells, Value.cells]
    omega
set_option maxHeartbeats 4000000 in
set_option maxRecDepth 100000 in
theorem concat_any (q : Nat) (a1 : Option Addr) (n1 k1 : Nat) (F1 T1 : Nat → Int) (a2 : Option Addr) (n2 k2 : Nat) (F2 T2 : Nat → Int) (w : World) (h1 : Rows2 w a1 n1 F1 T1) (h2 : Rows2 w a2 n2 F2 T2) (hn1 : n1 ≤ 1000) (hn2 : n2 ≤ 1000) (_ : q < w.heap.size)
    (c1 : w.cell? ⟨q, 0, none⟩ = some (.slice a1 n1 k1)) (c2 : w.cell? ⟨q, 1, none⟩ = some (.slice a2 n2 k2)) :
    Calls Tryz.prog 29 #[.slice (some ⟨q, 0, none⟩) 2 2] w fun e w' => (∃ v, e = .returned v ∧ SpOwn w' w.heap.size v (spl F1 T1 n1 ++ spl F2 T2 n2)) ∧ Below w.heap.size w w' := by
  have D1 := Lib.hid (grow_any (n1 + n2) (by omega) w)
  have H1 := Lib.hid h1
  have H2 := Lib.hid h2
  clear h1 h2
  go_enter Tryz.func29, Tryz.ntmps29
  go_wp2_with fail
  go_loopw [3, 11] (fun sv iv wr => ∃ (i m : Nat), iv = .int .i64 i ∧ sv = .int .i64 m ∧ i ≤ 2 ∧ m ≤ 2000 ∧ w = wr ∧ (i = 0 → m = 0) ∧ (i = 1 → m = n1) ∧ (i = 2 → m = n1 + n2)) (fun _ iv _ => 2 - (intOf iv).toNat)
  case atStart => exact ⟨0, 0, rfl, rfl, by omega, by omega, rfl, fun _ => rfl, fun h => by omega, fun h => by omega⟩
  case round =>
    obtain ⟨i, m, rfl, rfl, hi, hm, rfl, e0, e1, e2⟩ := hrel
    rcases (show i = 0 ∨ i = 1 ∨ i = 2 by omega) with rfl | rfl | rfl
    · have em := e0 rfl
      clear e0 e1 e2 hi hm
      subst em
      go_wp2_with fail
      go_roundw
      case rel => exact ⟨1, n1, rfl, by go_num, by omega, by omega, by trivial, fun h => by omega, fun _ => rfl, fun h => by omega⟩
      case measure => simp [intOf]
    · have em := e1 rfl
      clear e0 e1 e2 hi hm
      subst em
      go_wp2_with fail
      go_roundw
      case rel => exact ⟨2, m + n2, rfl, by go_num, by omega, by omega, by trivial, fun h => by omega, fun h => by omega, fun _ => rfl⟩
      case measure => simp [intOf]
    · have em := e2 rfl
      clear e0 e1 e2 hi hm
      subst em
      go_wp2_with fail
      refine D1.out.mono ?_
      rintro e w1 ⟨⟨v1, rfl, ho1⟩, hb1⟩
      have HO1 := Lib.hid ho1
      have HB1 := Lib.hid hb1
      clear ho1 hb1 D1
      go_wp2_with fail
      go_loopw [6, 27] (fun v iv wx => ∃ (i : Nat) (l : List (Int × Int)), iv = .int .i64 i ∧ i ≤ 2 ∧ Hid (Below w.heap.size w wx) ∧ Hid (SpOwn wx w.heap.size v l) ∧ (i = 0 → l = []) ∧ (i = 1 → l = spl F1 T1 n1) ∧ (i = 2 → l = spl F1 T1 n1 ++ spl F2 T2 n2)) (fun _ iv _ => 2 - (intOf iv).toNat)
      case atStart => exact ⟨0, [], rfl, by omega, HB1, HO1, fun _ => rfl, fun h => by omega, fun h => by omega⟩
      case round =>
        obtain ⟨i, l, rfl, hi, HB, HO, e0, e1, e2⟩ := hrel
        have c1 := below_cell HB.out c1
        have c2 := below_cell HB.out c2
        rcases (show i = 0 ∨ i = 1 ∨ i = 2 by omega) with rfl | rfl | rfl
        · have el := e0 rfl
          clear e0 e1 e2 hi
          subst el
          obtain ⟨av, cv, rfl, _⟩ := HO.out.rows
          have hr' := H1.out.below HB.out (Nat.le_refl _)
          go_wp2_with (at_builtin; go_loud (
            refine append_spans rfl _ _ rfl rfl HO.out rfl hr' (by first | omega | (simp; omega)) HB.out.size ?_
            intro v' w3 ho3 hg3
            have HO3 := Lib.hid ho3
            have HB3 := Lib.hid (HB.out.grown hg3 HB.out.size (fun b hb => (HO.out.lt b hb).1))
            clear ho3 hg3))
          go_roundw
          case rel => exact ⟨1, _, by go_num, by omega, HB3, HO3, fun h => by omega, fun _ => by simp, fun h => by omega⟩
          case measure => simp [intOf]
        · have el := e1 rfl
          clear e0 e1 e2 hi
          have hll := Sp.spl_len F1 T1 n1
          rw [← el] at hll
          obtain ⟨av, cv, rfl, _⟩ := HO.out.rows
          have hr' := H2.out.below HB.out (Nat.le_refl _)
          go_wp2_with (at_builtin; go_loud (
            refine append_spans rfl _ _ rfl rfl HO.out rfl hr' (by first | omega | (simp; omega)) HB.out.size ?_
            intro v' w3 ho3 hg3
            have HO3 := Lib.hid ho3
            have HB3 := Lib.hid (HB.out.grown hg3 HB.out.size (fun b hb => (HO.out.lt b hb).1))
            clear ho3 hg3))
          go_roundw
          case rel => exact ⟨2, _, by go_num, by omega, HB3, HO3, fun h => by omega, fun h => by omega, fun _ => by rw [el]⟩
          case measure => simp [intOf]
        · have el := e2 rfl
          clear e0 e1 e2 hi
          go_wp2_with fail
          go_ret
          exact ⟨⟨_, rfl, by rw [← el]; exact HO.out⟩, HB.out⟩
end Go.Proofs.YtaghhndcimjjgaaGreatDoor

/- Sets: Union of the program. -/
namespace Go.Proofs.YtaghhndcimjjgaaGreatDoor
open Go.RowKit Go.BigFrame
open Sp (chkS chkL spl mem Norm inB)

/-- what is in a row of one's own that came from two sets -/
theorem spans_ok {F1 T1 F2 T2 : Nat → Int} {n1 n2 : Nat} (h1 : chkS F1 T1 n1 = 0) (h2 : chkS F2 T2 n2 = 0) : ∀ i, i < (spl F1 T1 n1 ++ spl F2 T2 n2).length → (0 ≤ spF (spl F1 T1 n1 ++ spl F2 T2 n2) i ∧ spF (spl F1 T1 n1 ++ spl F2 T2 n2) i ≤ 10000000000000) ∧ (0 ≤ spT (spl F1 T1 n1 ++ spl F2 T2 n2) i ∧ spT (spl F1 T1 n1 ++ spl F2 T2 n2) i ≤ 10000000000000) ∧ spF (spl F1 T1 n1 ++ spl F2 T2 n2) i ≤ spT (spl F1 T1 n1 ++ spl F2 T2 n2) i := by
  intro i hi
  have hx : ∀ x, x ∈ spl F1 T1 n1 ++ spl F2 T2 n2 → (0 ≤ x.1 ∧ x.1 ≤ 10000000000000) ∧ (0 ≤ x.2 ∧ x.2 ≤ 10000000000000) ∧ x.1 ≤ x.2 := by
    intro x hx
    rcases List.mem_append.1 hx with hx | hx
    · obtain ⟨j, hj, rfl⟩ := Sp.spl_mem hx
      have := (Sp.chkS_zero h1).2.2 j hj
      simp only
      omega
    · obtain ⟨j, hj, rfl⟩ := Sp.spl_mem hx
      have := (Sp.chkS_zero h2).2.2 j hj
      simp only
      omega
  have := hx _ (List.getElem_mem hi)
  unfold spF spT
  rw [List.getD_eq_getElem?_getD, List.getElem?_eq_getElem hi]
  exact this
set_option maxHeartbeats 4000000 in
set_option maxRecDepth 100000 in
theorem union_any (a1 : Option Addr) (n1 k1 : Nat) (F1 T1 : Nat → Int) (a2 : Option Addr) (n2 k2 : Nat) (F2 T2 : Nat → Int) (w : World) (h1 : Rows2 w a1 n1 F1 T1) (h2 : Rows2 w a2 n2 F2 T2) :
    Calls Tryz.prog 6 #[.slice a1 n1 k1, .slice a2 n2 k2] w fun e w' => (∃ v u, e = .returned (.tuple #[v, .int .i64 (setE (chkS F1 T1 n1) (chkS F2 T2 n2) u)]) ∧ SpOwn w' w.heap.size v (setL (chkS F1 T1 n1) (chkS F2 T2 n2) u) ∧ (orC (chkS F1 T1 n1) (chkS F2 T2 n2) = 0 → Norm u ∧ ∀ n, mem u n ↔ mem (spl F1 T1 n1) n ∨ mem (spl F2 T2 n2) n)) ∧ Below w.heap.size w w' := by
  have D1 := Lib.hid (checkBoth_any a1 n1 k1 F1 T1 a2 n2 k2 F2 T2 w h1 h2)
  have H1 := Lib.hid h1
  have H2 := Lib.hid h2
  have hok : chkS F1 T1 n1 = 0 → chkS F2 T2 n2 = 0 → _ := fun g1 g2 => spans_ok g1 g2
  have hz1 : chkS F1 T1 n1 = 0 → n1 ≤ 1000 := fun h => (Sp.chkS_zero h).1
  have hz2 : chkS F2 T2 n2 = 0 → n2 ≤ 1000 := fun h => (Sp.chkS_zero h).1
  unfold setE setL
  generalize chkS F1 T1 n1 = c1 at D1 hz1 hok ⊢
  generalize chkS F2 T2 n2 = c2 at D1 hz2 hok ⊢
  clear h1 h2
  by_cases g : orC c1 c2 = 0
  case neg =>
    simp only [if_neg g]
    obtain ⟨c, hc⟩ : ∃ c, orC c1 c2 = c := ⟨_, rfl⟩
    rw [hc] at D1 g ⊢
    have b1 : (c == 0) = false := by simpa using g
    have b2 : (c != 0) = true := by simpa using g
    have HG := Lib.hid g
    clear g hc hz1 hz2 hok
    go_enter Tryz.func6, Tryz.ntmps6
    go_wp2_with fail
    refine D1.out.mono ?_
    rintro e w1 ⟨rfl, hb1⟩
    go_wp2_with fail
    go_ret2
    exact ⟨⟨_, [], rfl, SpOwn.nil _ _, fun h => absurd h HG.out⟩, hb1⟩
  case pos =>
  obtain ⟨g1, g2⟩ := orC_zero g
  have m1 := hz1 g1
  have m2 := hz2 g2
  have HK := Lib.hid (hok g1 g2)
  rw [g] at D1 ⊢
  simp only [if_true, true_implies]
  have hll : (spl F1 T1 n1 ++ spl F2 T2 n2).length = n1 + n2 := by rw [List.length_append, Sp.spl_len, Sp.spl_len]
  have HM := Lib.hid (fun n => (Sp.mem_append (a := spl F1 T1 n1) (b := spl F2 T2 n2) (n := n)))
  have DC := Lib.hid (fun (q : Nat) (W : World) h1 h2 h3 h4 h5 => concat_any q a1 n1 k1 F1 T1 a2 n2 k2 F2 T2 W h1 h2 m1 m2 h3 h4 h5)
  generalize spl F1 T1 n1 ++ spl F2 T2 n2 = L at HK hll HM DC
  have DS := Lib.hid (fun (a : Option Addr) (n c : Nat) (W : World) => sized_any a n c W)
  clear hz1 hz2 g g1 g2 hok
  go_enter Tryz.func6, Tryz.ntmps6
  go_wp2_with fail
  refine D1.out.mono ?_
  rintro e w1 ⟨rfl, hb1⟩
  have HB1 := Lib.hid hb1
  clear hb1 D1
  go_wp2_with fail
  obtain ⟨V, hV, hbV, hsV, hcV⟩ := alloc_cells w1 #[.slice a1 n1 k1, .slice a2 n2 k2] 22
  rw [hV]
  have hb2 := below_step HB1.out hbV
  refine (DC.out w1.heap.size V (H1.out.below hb2 (Nat.le_refl _)) (H2.out.below hb2 (Nat.le_refl _)) (by omega) (hcV 0 _ rfl) (hcV 1 _ rfl)).mono ?_
  rintro e w3 ⟨⟨v3, rfl, ho3⟩, hb3⟩
  obtain ⟨a3, c3, rfl, _, hr3, hn3⟩ := ho3.rows
  have HB3 := Lib.hid (below_step hb2 hb3)
  have D3 := Lib.hid (joined_any a3 L.length c3 (spF L) (spT L) w3 hr3 (by omega) HK.out)
  rw [spl_of, hll] at D3
  clear hV hbV hsV hcV hb2 ho3 hb3 hr3 hn3 DC HB1
  go_wp2_with fail
  refine D3.out.mono ?_
  rintro e w4 ⟨⟨v4, u, rfl, ho4, hnu, hmu, hul⟩, hb4⟩
  obtain ⟨a4, c4, rfl, _⟩ := ho4.rows
  have HB4 := Lib.hid (below_step HB3.out hb4)
  have HO4 := Lib.hid (ho4.weaken HB3.out.size)
  have HN := Lib.hid hnu
  have HM4 := Lib.hid hmu
  clear ho4 hb4 hnu hmu D3 HB3
  go_wp2_with fail
  refine (DS.out _ _ _ _).mono ?_
  rintro e _ ⟨rfl, rfl⟩
  go_wp2_with fail
  go_ret2
  exact ⟨⟨sizedV (.slice a4 u.length c4) u.length, u, rfl, HO4.out.sized, HN.out, fun n => (HM4.out n).trans (HM.out n)⟩, HB4.out⟩
end Go.Proofs.YtaghhndcimjjgaaGreatDoor

/- Sets: Without of the program. -/
namespace Go.Proofs.YtaghhndcimjjgaaGreatDoor
open Go.RowKit Go.BigFrame
open Sp (chkS chkL spl mem Norm inB wo cutS dropB)

set_option maxHeartbeats 8000000 in
set_option maxRecDepth 100000 in
theorem without_any (a1 : Option Addr) (n1 k1 : Nat) (F1 T1 : Nat → Int) (a2 : Option Addr) (n2 k2 : Nat) (F2 T2 : Nat → Int) (w : World) (h1 : Rows2 w a1 n1 F1 T1) (h2 : Rows2 w a2 n2 F2 T2) :
    Calls Tryz.prog 10 #[.slice a1 n1 k1, .slice a2 n2 k2] w fun e w' => (∃ v, e = .returned (.tuple #[v, .int .i64 (setE (chkS F1 T1 n1) (chkS F2 T2 n2) (wo (spl F1 T1 n1) (spl F2 T2 n2)))]) ∧ SpOwn w' w.heap.size v (setL (chkS F1 T1 n1) (chkS F2 T2 n2) (wo (spl F1 T1 n1) (spl F2 T2 n2)))) ∧ Below w.heap.size w w' := by
  have D1 := Lib.hid (checkBoth_any a1 n1 k1 F1 T1 a2 n2 k2 F2 T2 w h1 h2)
  have H1 := Lib.hid h1
  have H2 := Lib.hid h2
  have hz1 : chkS F1 T1 n1 = 0 → n1 ≤ 1000 ∧ Hid (∀ i, i < n1 → (0 ≤ F1 i ∧ F1 i ≤ 1000000000000) ∧ 0 ≤ T1 i ∧ T1 i ≤ 1000000000000) := fun h => ⟨(Sp.chkS_zero h).1, Lib.hid (fun i hi => by have := (Sp.chkS_zero h).2.2 i hi; exact ⟨this.1, this.2.1⟩)⟩
  have hz2 : chkS F2 T2 n2 = 0 → n2 ≤ 1000 ∧ Hid (∀ i, i < n2 → (0 ≤ F2 i ∧ F2 i ≤ 1000000000000) ∧ 0 ≤ T2 i ∧ T2 i ≤ 1000000000000) := fun h => ⟨(Sp.chkS_zero h).1, Lib.hid (fun i hi => by have := (Sp.chkS_zero h).2.2 i hi; exact ⟨this.1, this.2.1⟩)⟩
  unfold setE setL
  generalize chkS F1 T1 n1 = c1 at D1 hz1 ⊢
  generalize chkS F2 T2 n2 = c2 at D1 hz2 ⊢
  clear h1 h2
  by_cases g : orC c1 c2 = 0
  case neg =>
    rw [if_neg g, if_neg g]
    obtain ⟨c, hc⟩ : ∃ c, orC c1 c2 = c := ⟨_, rfl⟩
    rw [hc] at D1 g ⊢
    have b1 : (c == 0) = false := by simpa using g
    have b2 : (c != 0) = true := by simpa using g
    clear g hc hz1 hz2
    go_enter Tryz.func10, Tryz.ntmps10
    go_wp2_with fail
    refine D1.out.mono ?_
    rintro e w1 ⟨rfl, hb1⟩
    go_wp2_with fail
    go_ret2
    exact ⟨⟨_, rfl, SpOwn.nil _ _⟩, hb1⟩
  case pos =>
  rw [g] at D1 ⊢
  rw [if_pos rfl, if_pos rfl]
  obtain ⟨g1, g2⟩ := orC_zero g
  obtain ⟨m1, HZ1⟩ := hz1 g1
  obtain ⟨m2, HZ2⟩ := hz2 g2
  clear hz1 hz2 g g1 g2
  obtain ⟨TT, hTT⟩ : ∃ TT, wo (spl F1 T1 n1) (spl F2 T2 n2) = TT := ⟨_, rfl⟩
  rw [hTT]
  have HT := Lib.hid hTT
  clear hTT
  have hn1 : (n1 : Int) ≤ 1000 := by omega
  have hn2 : (n2 : Int) ≤ 1000 := by omega
  obtain ⟨i0, hi0, hy0, hy1, hy2⟩ := info_parts (show (Tryz.prog.info? 35).map (fun i => (i.zero, i.size, i.bytes)) = some (some (.agg #[.int .i64 0, .int .i64 0]), 2, 16) by kernel_rfl)
  have HI := Lib.hid (And.intro hi0 (And.intro hy0 (And.intro hy1 hy2)))
  clear hi0 hy0 hy1 hy2
  have DS := Lib.hid (fun (a : Option Addr) (n c : Nat) (W : World) => sized_any a n c W)
  go_enter Tryz.func10, Tryz.ntmps10
  go_wp2_with fail
  refine D1.out.mono ?_
  rintro e w1 ⟨rfl, hb1⟩
  have HB1 := Lib.hid hb1
  clear hb1 D1
  go_wp2_with fail
  go_loopw [7, 8, 21] (fun v kv iv wr => ∃ (i k : Nat) (out : List (Int × Int)), iv = .int .i64 i ∧ kv = .int .i64 k ∧ i ≤ n1 ∧ k ≤ n2 ∧ out.length ≤ i * 1001 ∧ Hid (Below w.heap.size w wr) ∧ Hid (SpOwn wr w.heap.size v out) ∧ Hid (out ++ wo ((spl F1 T1 n1).drop i) ((spl F2 T2 n2).drop k) = TT)) (fun _ _ iv _ => n1 - (intOf iv).toNat)
  case atStart => exact ⟨0, 0, [], rfl, rfl, by omega, by omega, by simp, HB1, Lib.hid (SpOwn.nil _ _), HT⟩
  case round =>
    obtain ⟨i, k, out, rfl, rfl, hi, hk, hol, HB, HO, HC⟩ := hrel
    have hsz := HB.out.size
    by_cases hlt : i < n1
    case neg =>
      have t1 : decide ((i : Int) < (n1 : Int)) = false := by rw [decide_eq_false_iff_not]; omega
      have t1' : decide (i < n1) = false := by simpa using hlt
      have e : out = TT := by have := HC.out; rwa [Sp.spl_end (show n1 ≤ i by omega), wo, List.append_nil] at this
      have HE := Lib.hid e
      obtain ⟨ao, co, rfl, _⟩ := HO.out.rows
      clear hlt e HC
      go_wp2_with fail
      refine (DS.out _ _ _ _).mono ?_
      rintro e _ ⟨rfl, rfl⟩
      go_wp2_with fail
      go_ret2
      exact ⟨⟨sizedV (.slice ao out.length co) out.length, by rw [← HE.out]; rfl, by rw [← HE.out]; exact HO.out.sized⟩, HB.out⟩
    case pos =>
    have t1 : decide ((i : Int) < (n1 : Int)) = true := by rw [decide_eq_true_eq]; omega
    have t1' : decide (i < n1) = true := by simpa using hlt
    obtain ⟨b1, o1, rfl, hbl1, hc1⟩ := H1.out.here (by omega)
    have p0 := below_cell HB.out (hc1 i hlt).1
    have p1 := below_cell HB.out (hc1 i hlt).2
    obtain ⟨⟨f0, f1⟩, t0, t1x⟩ := HZ1.out i hlt
    have hcc := HC.out
    rw [Sp.spl_drop hlt, wo] at hcc
    simp only at hcc
    have HC2 := Lib.hid hcc
    clear hc1 HC hcc
    obtain ⟨f, hf⟩ : ∃ x, F1 i = x := ⟨_, rfl⟩
    obtain ⟨t, ht⟩ : ∃ x, T1 i = x := ⟨_, rfl⟩
    rw [hf] at p0 f0 f1 HC2
    rw [ht] at p1 t0 t1x HC2
    clear hf ht
    obtain ⟨DB, hDB⟩ : ∃ x, dropB f ((spl F2 T2 n2).drop k) = x := ⟨_, rfl⟩
    rw [hDB] at HC2
    have HDB := Lib.hid hDB
    clear hDB
    go_upto_region 9 with fail
    obtain ⟨V, hV, hbV, hsV, hcV⟩ := alloc_cells wr #[.int .i64 f, .int .i64 t] 35
    rw [hV]
    have c0 := hcV 0 _ rfl
    have c1 := hcV 1 _ rfl
    have HBV := Lib.hid (below_step HB.out hbV)
    have HOV := Lib.hid (HO.out.below hbV)
    have HNQ := Lib.hid (fun g (hg : u7.ownBlock = some g) => (show g ≠ wr.heap.size by have := (HO.out.lt g hg).2; omega))
    obtain ⟨qb, hqb⟩ : ∃ q, wr.heap.size = q := ⟨_, rfl⟩
    rw [hqb] at c0 c1 HNQ hsV ⊢
    clear hV hbV hcV HB HO p0 p1
    have hqV : qb < V.heap.size := by omega
    have hbv := HBV.out.size
    go_loopw [8] (fun kv wx => ∃ (k : Nat), kv = .int .i64 k ∧ k ≤ n2 ∧ Hid (Below V.heap.size V wx) ∧ Hid (dropB f ((spl F2 T2 n2).drop k) = DB)) (fun kv _ => n2 - (intOf kv).toNat)
    case atStart => exact ⟨k, rfl, hk, Lib.hid (Below.refl _ _), HDB⟩
    case round =>
      clear HDB hk
      obtain ⟨k, rfl, hk, HX, HD⟩ := hrel
      have m0 := below_cell HX.out c0
      have m1' := below_cell HX.out c1
      have HBx := Lib.hid (below_step HBV.out HX.out)
      have HOx := Lib.hid (HOV.out.below HX.out)
      have hsx := HX.out.size
      by_cases hk2 : k < n2
      case pos =>
        have t2 : decide ((k : Int) < (n2 : Int)) = true := by rw [decide_eq_true_eq]; omega
        have t2' : decide (k < n2) = true := by simpa using hk2
        obtain ⟨b2, o2, rfl, hbl2, hc2⟩ := H2.out.here (by omega)
        have q1 := below_cell HBx.out (hc2 k hk2).2
        by_cases hd : T2 k < f
        case pos =>
          have t3 : decide (T2 k < f) = true := by simpa using hd
          have hdd := HD.out
          rw [Sp.spl_drop hk2, dropB, if_pos hd] at hdd
          have HD2 := Lib.hid hdd
          clear hdd hc2 hd HD
          go_wp2_with fail
          go_quiet (fail)
          go_wp2
          go_roundw
          case rel => exact ⟨k + 1, by go_num, by omega, Lib.hid (below_drewN HX.out _), HD2⟩
          case measure => simp [intOf]; omega
        case neg =>
        have t3 : decide (T2 k < f) = false := by simpa using hd
        have hdd := HD.out
        rw [Sp.spl_drop hk2, dropB, if_neg hd, ← Sp.spl_drop hk2] at hdd
        have HE := Lib.hid hdd
        clear hdd hc2 hd HD
        go_wp2_with fail
        go_quiet (fail)
        go_upto_region 13 with fail
        have HBq := Lib.hid (below_drewN HBx.out nq)
        have HOq := Lib.hid (HOx.out.below (below_drewN (Below.refl wr.heap.size wr) nq))
        have HMq := Lib.hid (below_cell (below_drewN (Below.refl wr.heap.size wr) nq) m1')
        have hzq : V.heap.size ≤ (wr.drewN nq).heap.size := hsx
        go_loopw [7, 11, 12] (fun v fv jv wy => ∃ (j : Nat) (fr : Int) (out2 : List (Int × Int)), fv = .int .i64 fr ∧ jv = .int .i64 j ∧ j ≤ n2 ∧ out2.length ≤ i * 1001 + j ∧ (0 ≤ fr ∧ fr ≤ 1000000000001) ∧ V.heap.size ≤ wy.heap.size ∧ Hid (Below w.heap.size w wy) ∧ Hid (wy.cell? ⟨qb, 1, none⟩ = some (.int .i64 t)) ∧ Hid (∀ g, v.ownBlock = some g → g ≠ qb) ∧ Hid (SpOwn wy w.heap.size v out2) ∧ Hid (out2 ++ (cutS t fr ((spl F2 T2 n2).drop j) ++ wo ((spl F1 T1 n1).drop (i + 1)) DB) = TT)) (fun _ _ jv _ => n2 - (intOf jv).toNat)
        case atStart => exact ⟨k, f, out, rfl, rfl, hk, by omega, by omega, hzq, HBq, HMq, HNQ, HOq, by rw [HE.out]; exact HC2⟩
        case round =>
          clear HBq HOq HMq hzq HBx HOx m0 m1' HX HOV HBV HNQ hol
          obtain ⟨j, fr, out2, rfl, rfl, hj, hol, hfr, hzy, HBy, HMy, HNy, HOy, HCy⟩ := hrel
          have my := HMy.out
          have hby := HBy.out.size
          by_cases hj2 : j < n2
          case pos =>
            have s2 : decide ((j : Int) < (n2 : Int)) = true := by rw [decide_eq_true_eq]; omega
            have s2' : decide (j < n2) = true := by simpa using hj2
            obtain ⟨b3, o3, e3, hbl3, hc3⟩ := H2.out.here (by omega)
            obtain ⟨⟨x0, x1⟩, y0, y1⟩ := HZ2.out j hj2
            have hcc := HCy.out
            rw [Sp.spl_drop hj2, cutS] at hcc
            simp only at hcc
            have r0 := below_cell HBy.out (hc3 j hj2).1
            have r1 := below_cell HBy.out (hc3 j hj2).2
            injection e3 with e3
            injection e3 with e3 e4
            subst e3 e4
            clear hc3 HCy
            obtain ⟨x, hx⟩ : ∃ x, F2 j = x := ⟨_, rfl⟩
            obtain ⟨y, hy⟩ : ∃ x, T2 j = x := ⟨_, rfl⟩
            rw [hx] at r0 x0 x1 hcc
            rw [hy] at r1 y0 y1 hcc
            clear hx hy
            by_cases hd : x ≤ t
            case pos =>
              have s3 : decide (x ≤ t) = true := by simpa using hd
              rw [if_pos hd] at hcc
              by_cases hf : fr < x
              case pos =>
                have s4 : decide (fr < x) = true := by simpa using hf
                rw [if_pos hf] at hcc
                have HCC := Lib.hid hcc
                clear hcc hd hf
                go_wp2_with fail
                go_quiet (fail)
                have HBy := Lib.hid (below_drewN HBy.out nq)
                have HOy := Lib.hid (HOy.out.below (below_drewN (Below.refl wr.heap.size wr) nq))
                have r1 := below_cell (below_drewN (Below.refl wr.heap.size wr) nq) r1
                have r0 := below_cell (below_drewN (Below.refl wr.heap.size wr) nq) r0
                have my := below_cell (below_drewN (Below.refl wr.heap.size wr) nq) my
                have hzy : V.heap.size ≤ (wr.drewN nq).heap.size := hzy
                have hby : w.heap.size ≤ (wr.drewN nq).heap.size := hby
                generalize wr.drewN nq = wz at HBy HOy r1 r0 my hzy hby ⊢
                clear HMy
                obtain ⟨j1, j2, j3, j4⟩ := HI.out
                have ho := HOy.out
                go_upto_region 17 with (first
                  | (at_builtin; go_loud (
                     refine wpList_append_lies _ rfl _ _ 22 rfl w.heap.size 35 i0 (.agg #[.int .i64 0, .int .i64 0]) 2 16 Tryz.underlying22 j1 j2 j3 j4 rfl (by decide) u7 out2.length (out2.flatMap spC) rfl (ho.alloc _) ⟨wz.heap.size, 0, none⟩ 1 1 [.int .i64 (fr), .int .i64 (x - 1)] rfl rfl (fun j u hj => by rw [addr_add0]; exact cell_new j u (by simpa using hj)) (fun u hu => by simp only [List.mem_cons, List.not_mem_nil, or_false] at hu; rcases hu with rfl | rfl <;> rfl) (by decide) (by unfold maxLen; omega) (by omega) (by simp; omega) _ rfl ?_
                     intro g3 cap3 w3 hown' hgrow hat hlt3
                     have HO3 := Lib.hid (SpOwn.snoc (l := out2) (x := (fr, x - 1)) hown')
                     have HG3 := Lib.hid hgrow
                     have hb3 := (HBy.out.alloc hby _).grown HG3.out (by simp; omega) (fun b hb => by have := ho.lt b hb; omega)
                     have HB3 := Lib.hid hb3
                     have hkp : Kept (fun b => u7.ownBlock = some b) (wz.alloc (.cells #[.int .i64 (fr), .int .i64 (x - 1)] 35)) w3 := Kept.of_grown HG3.out (fun g hg _ => hg)
                     have r1 := hkp.cell (p := ⟨b2, o2 + j * 2 + 1, none⟩) (fun e => by have := (ho.lt b2 e).1; omega) (below_cell (below_al wz (.cells #[.int .i64 (fr), .int .i64 (x - 1)] 35)) r1)
                     have my := hkp.cell (p := ⟨qb, 1, none⟩) (fun e => HNy.out qb e rfl) (below_cell (below_al wz (.cells #[.int .i64 (fr), .int .i64 (x - 1)] 35)) my)
                     have hz3 : V.heap.size ≤ w3.heap.size := by have := HG3.out.size; simp at this; omega
                     have HN3 : Hid (∀ g, (Value.slice (some ⟨g3, 0, none⟩) (out2.length + 1) cap3).ownBlock = some g → g ≠ qb) := Lib.hid (fun g hg => by
                       have hg : g3 = g := Option.some.inj hg
                       subst hg
                       rcases hat with e | e
                       · exact HNy.out g3 e
                       · simp at e
                         omega)
                     clear hown' hgrow hb3 hkp hat hlt3))
                  | fail)
                go_wp2_with fail
                go_roundw
                case rel => exact ⟨j + 1, y + 1, out2 ++ [(fr, x - 1)], rfl, by go_num, by omega, by simp; omega, by omega, hz3, HB3, Lib.hid my, HN3, HO3, Lib.hid (by rw [← HCC.out]; simp only [List.append_assoc])⟩
                case measure => simp [intOf]; omega
              case neg =>
                have s4 : decide (fr < x) = false := by simpa using hf
                rw [if_neg hf, List.nil_append] at hcc
                have HCC := Lib.hid hcc
                clear hcc hd hf
                go_wp2_with fail
                go_quiet (fail)
                have r1 := below_cell (below_drewN (Below.refl wr.heap.size wr) nq) r1
                have r0 := below_cell (below_drewN (Below.refl wr.heap.size wr) nq) r0
                have my := below_cell (below_drewN (Below.refl wr.heap.size wr) nq) my
                go_wp2
                go_roundw
                case rel => exact ⟨j + 1, y + 1, out2, rfl, by go_num, by omega, by omega, by omega, hzy, Lib.hid (below_drewN HBy.out _), Lib.hid my, HNy, Lib.hid (HOy.out.below (below_drewN (Below.refl _ _) _)), HCC⟩
                case measure => simp [intOf]; omega
            case neg =>
              have s3 : decide (x ≤ t) = false := by simpa using hd
              rw [if_neg hd] at hcc
              have HCC := Lib.hid hcc
              clear hcc hd r1
              go_wp2_with fail
              go_quiet (fail)
              have HBy := Lib.hid (below_drewN HBy.out nq)
              have HOy := Lib.hid (HOy.out.below (below_drewN (Below.refl wr.heap.size wr) nq))
              have my := below_cell (below_drewN (Below.refl wr.heap.size wr) nq) my
              have hby : w.heap.size ≤ (wr.drewN nq).heap.size := hby
              generalize wr.drewN nq = wz at HBy HOy my hby ⊢
              clear HMy
              by_cases hl : fr ≤ t
              case pos =>
                have s5 : decide (fr ≤ t) = true := by simpa using hl
                have hcc := HCC.out
                rw [if_pos hl] at hcc
                have HCC := Lib.hid hcc
                clear hcc hl
                obtain ⟨j1, j2, j3, j4⟩ := HI.out
                have ho := HOy.out
                go_upto_region 20 with (first
                  | (at_builtin; go_loud (
                     refine wpList_append_own _ rfl _ _ 22 rfl w.heap.size 35 i0 (.agg #[.int .i64 0, .int .i64 0]) 2 16 Tryz.underlying22 j1 j2 j3 j4 rfl (by decide) u7 out2.length (out2.flatMap spC) rfl (ho.alloc _) ⟨wz.heap.size, 0, none⟩ 1 1 [.int .i64 (fr), .int .i64 (t)] rfl rfl (fun j u hj => by rw [addr_add0]; exact cell_new j u (by simpa using hj)) (fun u hu => by simp only [List.mem_cons, List.not_mem_nil, or_false] at hu; rcases hu with rfl | rfl <;> rfl) (by unfold maxLen; omega) (by omega) (by simp; omega) ?_
                     intro v' w3 hown' hgrow _
                     have HO3 := Lib.hid (SpOwn.snoc (l := out2) (x := (fr, t)) hown')
                     have HG3 := Lib.hid hgrow
                     have hb3 := (HBy.out.alloc hby _).grown HG3.out (by simp; omega) (fun b hb => by have := ho.lt b hb; omega)
                     have HB3 := Lib.hid hb3
                     have hkp : Kept (fun b => u7.ownBlock = some b) (wz.alloc (.cells #[.int .i64 (fr), .int .i64 (t)] 35)) w3 := Kept.of_grown HG3.out (fun g hg _ => hg)
                     clear hown' hgrow hb3 hkp))
                  | fail)
                go_wp2_with fail
                go_roundw
                case rel => exact ⟨i + 1, k, out2 ++ [(fr, t)], by go_num, rfl, by omega, hk, by simp; omega, HB3, HO3, Lib.hid (by rw [← HCC.out, HE.out, List.append_assoc])⟩
                case measure => simp [intOf]; omega
              case neg =>
                have s5 : decide (fr ≤ t) = false := by simpa using hl
                have hcc := HCC.out
                rw [if_neg hl, List.nil_append] at hcc
                have HCC := Lib.hid hcc
                clear hcc hl
                go_wp2_with fail
                go_roundw
                case rel => exact ⟨i + 1, k, out2, by go_num, rfl, by omega, hk, by omega, HBy, HOy, Lib.hid (by rw [← HCC.out, HE.out])⟩
                case measure => simp [intOf]; omega
          case neg =>
            have s2 : decide ((j : Int) < (n2 : Int)) = false := by rw [decide_eq_false_iff_not]; omega
            have s2' : decide (j < n2) = false := by simpa using hj2
            have hcc := HCy.out
            rw [Sp.spl_end (show n2 ≤ j by omega), cutS] at hcc
            have HCC := Lib.hid hcc
            clear hcc
            go_wp2_with fail
            go_quiet (fail)
            have HBy := Lib.hid (below_drewN HBy.out nq)
            have HOy := Lib.hid (HOy.out.below (below_drewN (Below.refl wr.heap.size wr) nq))
            have my := below_cell (below_drewN (Below.refl wr.heap.size wr) nq) my
            have hby : w.heap.size ≤ (wr.drewN nq).heap.size := hby
            generalize wr.drewN nq = wz at HBy HOy my hby ⊢
            clear HMy
            by_cases hl : fr ≤ t
            case pos =>
              have s5 : decide (fr ≤ t) = true := by simpa using hl
              have hcc := HCC.out
              rw [if_pos hl] at hcc
              have HCC := Lib.hid hcc
              clear hcc hl
              obtain ⟨j1, j2, j3, j4⟩ := HI.out
              have ho := HOy.out
              go_upto_region 20 with (first
                | (at_builtin; go_loud (
                   refine wpList_append_own _ rfl _ _ 22 rfl w.heap.size 35 i0 (.agg #[.int .i64 0, .int .i64 0]) 2 16 Tryz.underlying22 j1 j2 j3 j4 rfl (by decide) u7 out2.length (out2.flatMap spC) rfl (ho.alloc _) ⟨wz.heap.size, 0, none⟩ 1 1 [.int .i64 (fr), .int .i64 (t)] rfl rfl (fun j u hj => by rw [addr_add0]; exact cell_new j u (by simpa using hj)) (fun u hu => by simp only [List.mem_cons, List.not_mem_nil, or_false] at hu; rcases hu with rfl | rfl <;> rfl) (by unfold maxLen; omega) (by omega) (by simp; omega) ?_
                   intro v' w3 hown' hgrow _
                   have HO3 := Lib.hid (SpOwn.snoc (l := out2) (x := (fr, t)) hown')
                   have HG3 := Lib.hid hgrow
                   have hb3 := (HBy.out.alloc hby _).grown HG3.out (by simp; omega) (fun b hb => by have := ho.lt b hb; omega)
                   have HB3 := Lib.hid hb3
                   have hkp : Kept (fun b => u7.ownBlock = some b) (wz.alloc (.cells #[.int .i64 (fr), .int .i64 (t)] 35)) w3 := Kept.of_grown HG3.out (fun g hg _ => hg)
                   clear hown' hgrow hb3 hkp))
                | fail)
              go_wp2_with fail
              go_roundw
              case rel => exact ⟨i + 1, k, out2 ++ [(fr, t)], by go_num, rfl, by omega, hk, by simp; omega, HB3, HO3, Lib.hid (by rw [← HCC.out, HE.out, List.append_assoc])⟩
              case measure => simp [intOf]; omega
            case neg =>
              have s5 : decide (fr ≤ t) = false := by simpa using hl
              have hcc := HCC.out
              rw [if_neg hl, List.nil_append] at hcc
              have HCC := Lib.hid hcc
              clear hcc hl
              go_wp2_with fail
              go_roundw
              case rel => exact ⟨i + 1, k, out2, by go_num, rfl, by omega, hk, by omega, HBy, HOy, Lib.hid (by rw [← HCC.out, HE.out])⟩
              case measure => simp [intOf]; omega
      case neg =>
        have t2 : decide ((k : Int) < (n2 : Int)) = false := by rw [decide_eq_false_iff_not]; omega
        have t2' : decide (k < n2) = false := by simpa using hk2
        have hdd := HD.out
        rw [Sp.spl_end (show n2 ≤ k by omega), dropB] at hdd
        have HE := Lib.hid (show (spl F2 T2 n2).drop k = DB by rw [Sp.spl_end (show n2 ≤ k by omega)]; exact hdd)
        clear hdd HD
        go_wp2_with fail
        go_quiet (fail)
        go_upto_region 13 with fail
        have HBq := Lib.hid (below_drewN HBx.out nq)
        have HOq := Lib.hid (HOx.out.below (below_drewN (Below.refl wr.heap.size wr) nq))
        have HMq := Lib.hid (below_cell (below_drewN (Below.refl wr.heap.size wr) nq) m1')
        have hzq : V.heap.size ≤ (wr.drewN nq).heap.size := hsx
        go_loopw [7, 11, 12] (fun v fv jv wy => ∃ (j : Nat) (fr : Int) (out2 : List (Int × Int)), fv = .int .i64 fr ∧ jv = .int .i64 j ∧ j ≤ n2 ∧ out2.length ≤ i * 1001 + j ∧ (0 ≤ fr ∧ fr ≤ 1000000000001) ∧ V.heap.size ≤ wy.heap.size ∧ Hid (Below w.heap.size w wy) ∧ Hid (wy.cell? ⟨qb, 1, none⟩ = some (.int .i64 t)) ∧ Hid (∀ g, v.ownBlock = some g → g ≠ qb) ∧ Hid (SpOwn wy w.heap.size v out2) ∧ Hid (out2 ++ (cutS t fr ((spl F2 T2 n2).drop j) ++ wo ((spl F1 T1 n1).drop (i + 1)) DB) = TT)) (fun _ _ jv _ => n2 - (intOf jv).toNat)
        case atStart => exact ⟨k, f, out, rfl, rfl, hk, by omega, by omega, hzq, HBq, HMq, HNQ, HOq, by rw [HE.out]; exact HC2⟩
        case round =>
          clear HBq HOq HMq hzq HBx HOx m0 m1' HX HOV HBV HNQ hol
          obtain ⟨j, fr, out2, rfl, rfl, hj, hol, hfr, hzy, HBy, HMy, HNy, HOy, HCy⟩ := hrel
          have my := HMy.out
          have hby := HBy.out.size
          by_cases hj2 : j < n2
          case pos =>
            have s2 : decide ((j : Int) < (n2 : Int)) = true := by rw [decide_eq_true_eq]; omega
            have s2' : decide (j < n2) = true := by simpa using hj2
            obtain ⟨b3, o3, e3, hbl3, hc3⟩ := H2.out.here (by omega)
            obtain ⟨⟨x0, x1⟩, y0, y1⟩ := HZ2.out j hj2
            have hcc := HCy.out
            rw [Sp.spl_drop hj2, cutS] at hcc
            simp only at hcc
            have r0 := below_cell HBy.out (hc3 j hj2).1
            have r1 := below_cell HBy.out (hc3 j hj2).2
            subst e3
            clear hc3 HCy
            obtain ⟨x, hx⟩ : ∃ x, F2 j = x := ⟨_, rfl⟩
            obtain ⟨y, hy⟩ : ∃ x, T2 j = x := ⟨_, rfl⟩
            rw [hx] at r0 x0 x1 hcc
            rw [hy] at r1 y0 y1 hcc
            clear hx hy
            by_cases hd : x ≤ t
            case pos =>
              have s3 : decide (x ≤ t) = true := by simpa using hd
              rw [if_pos hd] at hcc
              by_cases hf : fr < x
              case pos =>
                have s4 : decide (fr < x) = true := by simpa using hf
                rw [if_pos hf] at hcc
                have HCC := Lib.hid hcc
                clear hcc hd hf
                go_wp2_with fail
                go_quiet (fail)
                have HBy := Lib.hid (below_drewN HBy.out nq)
                have HOy := Lib.hid (HOy.out.below (below_drewN (Below.refl wr.heap.size wr) nq))
                have r1 := below_cell (below_drewN (Below.refl wr.heap.size wr) nq) r1
                have r0 := below_cell (below_drewN (Below.refl wr.heap.size wr) nq) r0
                have my := below_cell (below_drewN (Below.refl wr.heap.size wr) nq) my
                have hzy : V.heap.size ≤ (wr.drewN nq).heap.size := hzy
                have hby : w.heap.size ≤ (wr.drewN nq).heap.size := hby
                generalize wr.drewN nq = wz at HBy HOy r1 r0 my hzy hby ⊢
                clear HMy
                obtain ⟨j1, j2, j3, j4⟩ := HI.out
                have ho := HOy.out
                go_upto_region 17 with (first
                  | (at_builtin; go_loud (
                     refine wpList_append_lies _ rfl _ _ 22 rfl w.heap.size 35 i0 (.agg #[.int .i64 0, .int .i64 0]) 2 16 Tryz.underlying22 j1 j2 j3 j4 rfl (by decide) u7 out2.length (out2.flatMap spC) rfl (ho.alloc _) ⟨wz.heap.size, 0, none⟩ 1 1 [.int .i64 (fr), .int .i64 (x - 1)] rfl rfl (fun j u hj => by rw [addr_add0]; exact cell_new j u (by simpa using hj)) (fun u hu => by simp only [List.mem_cons, List.not_mem_nil, or_false] at hu; rcases hu with rfl | rfl <;> rfl) (by decide) (by unfold maxLen; omega) (by omega) (by simp; omega) _ rfl ?_
                     intro g3 cap3 w3 hown' hgrow hat hlt3
                     have HO3 := Lib.hid (SpOwn.snoc (l := out2) (x := (fr, x - 1)) hown')
                     have HG3 := Lib.hid hgrow
                     have hb3 := (HBy.out.alloc hby _).grown HG3.out (by simp; omega) (fun b hb => by have := ho.lt b hb; omega)
                     have HB3 := Lib.hid hb3
                     have hkp : Kept (fun b => u7.ownBlock = some b) (wz.alloc (.cells #[.int .i64 (fr), .int .i64 (x - 1)] 35)) w3 := Kept.of_grown HG3.out (fun g hg _ => hg)
                     have r1 := hkp.cell (p := ⟨b3, o3 + j * 2 + 1, none⟩) (fun e => by have := (ho.lt b3 e).1; omega) (below_cell (below_al wz (.cells #[.int .i64 (fr), .int .i64 (x - 1)] 35)) r1)
                     have my := hkp.cell (p := ⟨qb, 1, none⟩) (fun e => HNy.out qb e rfl) (below_cell (below_al wz (.cells #[.int .i64 (fr), .int .i64 (x - 1)] 35)) my)
                     have hz3 : V.heap.size ≤ w3.heap.size := by have := HG3.out.size; simp at this; omega
                     have HN3 : Hid (∀ g, (Value.slice (some ⟨g3, 0, none⟩) (out2.length + 1) cap3).ownBlock = some g → g ≠ qb) := Lib.hid (fun g hg => by
                       have hg : g3 = g := Option.some.inj hg
                       subst hg
                       rcases hat with e | e
                       · exact HNy.out g3 e
                       · simp at e
                         omega)
                     clear hown' hgrow hb3 hkp hat hlt3))
                  | fail)
                go_wp2_with fail
                go_roundw
                case rel => exact ⟨j + 1, y + 1, out2 ++ [(fr, x - 1)], rfl, by go_num, by omega, by simp; omega, by omega, hz3, HB3, Lib.hid my, HN3, HO3, Lib.hid (by rw [← HCC.out]; simp only [List.append_assoc])⟩
                case measure => simp [intOf]; omega
              case neg =>
                have s4 : decide (fr < x) = false := by simpa using hf
                rw [if_neg hf, List.nil_append] at hcc
                have HCC := Lib.hid hcc
                clear hcc hd hf
                go_wp2_with fail
                go_quiet (fail)
                have r1 := below_cell (below_drewN (Below.refl wr.heap.size wr) nq) r1
                have r0 := below_cell (below_drewN (Below.refl wr.heap.size wr) nq) r0
                have my := below_cell (below_drewN (Below.refl wr.heap.size wr) nq) my
                go_wp2
                go_roundw
                case rel => exact ⟨j + 1, y + 1, out2, rfl, by go_num, by omega, by omega, by omega, hzy, Lib.hid (below_drewN HBy.out _), Lib.hid my, HNy, Lib.hid (HOy.out.below (below_drewN (Below.refl _ _) _)), HCC⟩
                case measure => simp [intOf]; omega
            case neg =>
              have s3 : decide (x ≤ t) = false := by simpa using hd
              rw [if_neg hd] at hcc
              have HCC := Lib.hid hcc
              clear hcc hd r1
              go_wp2_with fail
              go_quiet (fail)
              have HBy := Lib.hid (below_drewN HBy.out nq)
              have HOy := Lib.hid (HOy.out.below (below_drewN (Below.refl wr.heap.size wr) nq))
              have my := below_cell (below_drewN (Below.refl wr.heap.size wr) nq) my
              have hby : w.heap.size ≤ (wr.drewN nq).heap.size := hby
              generalize wr.drewN nq = wz at HBy HOy my hby ⊢
              clear HMy
              by_cases hl : fr ≤ t
              case pos =>
                have s5 : decide (fr ≤ t) = true := by simpa using hl
                have hcc := HCC.out
                rw [if_pos hl] at hcc
                have HCC := Lib.hid hcc
                clear hcc hl
                obtain ⟨j1, j2, j3, j4⟩ := HI.out
                have ho := HOy.out
                go_upto_region 20 with (first
                  | (at_builtin; go_loud (
                     refine wpList_append_own _ rfl _ _ 22 rfl w.heap.size 35 i0 (.agg #[.int .i64 0, .int .i64 0]) 2 16 Tryz.underlying22 j1 j2 j3 j4 rfl (by decide) u7 out2.length (out2.flatMap spC) rfl (ho.alloc _) ⟨wz.heap.size, 0, none⟩ 1 1 [.int .i64 (fr), .int .i64 (t)] rfl rfl (fun j u hj => by rw [addr_add0]; exact cell_new j u (by simpa using hj)) (fun u hu => by simp only [List.mem_cons, List.not_mem_nil, or_false] at hu; rcases hu with rfl | rfl <;> rfl) (by unfold maxLen; omega) (by omega) (by simp; omega) ?_
                     intro v' w3 hown' hgrow _
                     have HO3 := Lib.hid (SpOwn.snoc (l := out2) (x := (fr, t)) hown')
                     have HG3 := Lib.hid hgrow
                     have hb3 := (HBy.out.alloc hby _).grown HG3.out (by simp; omega) (fun b hb => by have := ho.lt b hb; omega)
                     have HB3 := Lib.hid hb3
                     have hkp : Kept (fun b => u7.ownBlock = some b) (wz.alloc (.cells #[.int .i64 (fr), .int .i64 (t)] 35)) w3 := Kept.of_grown HG3.out (fun g hg _ => hg)
                     clear hown' hgrow hb3 hkp))
                  | fail)
                go_wp2_with fail
                go_roundw
                case rel => exact ⟨i + 1, k, out2 ++ [(fr, t)], by go_num, rfl, by omega, hk, by simp; omega, HB3, HO3, Lib.hid (by rw [← HCC.out, HE.out, List.append_assoc])⟩
                case measure => simp [intOf]; omega
              case neg =>
                have s5 : decide (fr ≤ t) = false := by simpa using hl
                have hcc := HCC.out
                rw [if_neg hl, List.nil_append] at hcc
                have HCC := Lib.hid hcc
                clear hcc hl
                go_wp2_with fail
                go_roundw
                case rel => exact ⟨i + 1, k, out2, by go_num, rfl, by omega, hk, by omega, HBy, HOy, Lib.hid (by rw [← HCC.out, HE.out])⟩
                case measure => simp [intOf]; omega
          case neg =>
            have s2 : decide ((j : Int) < (n2 : Int)) = false := by rw [decide_eq_false_iff_not]; omega
            have s2' : decide (j < n2) = false := by simpa using hj2
            have hcc := HCy.out
            rw [Sp.spl_end (show n2 ≤ j by omega), cutS] at hcc
            have HCC := Lib.hid hcc
            clear hcc
            go_wp2_with fail
            go_quiet (fail)
            have HBy := Lib.hid (below_drewN HBy.out nq)
            have HOy := Lib.hid (HOy.out.below (below_drewN (Below.refl wr.heap.size wr) nq))
            have my := below_cell (below_drewN (Below.refl wr.heap.size wr) nq) my
            have hby : w.heap.size ≤ (wr.drewN nq).heap.size := hby
            generalize wr.drewN nq = wz at HBy HOy my hby ⊢
            clear HMy
            by_cases hl : fr ≤ t
            case pos =>
              have s5 : decide (fr ≤ t) = true := by simpa using hl
              have hcc := HCC.out
              rw [if_pos hl] at hcc
              have HCC := Lib.hid hcc
              clear hcc hl
              obtain ⟨j1, j2, j3, j4⟩ := HI.out
              have ho := HOy.out
              go_upto_region 20 with (first
                | (at_builtin; go_loud (
                   refine wpList_append_own _ rfl _ _ 22 rfl w.heap.size 35 i0 (.agg #[.int .i64 0, .int .i64 0]) 2 16 Tryz.underlying22 j1 j2 j3 j4 rfl (by decide) u7 out2.length (out2.flatMap spC) rfl (ho.alloc _) ⟨wz.heap.size, 0, none⟩ 1 1 [.int .i64 (fr), .int .i64 (t)] rfl rfl (fun j u hj => by rw [addr_add0]; exact cell_new j u (by simpa using hj)) (fun u hu => by simp only [List.mem_cons, List.not_mem_nil, or_false] at hu; rcases hu with rfl | rfl <;> rfl) (by unfold maxLen; omega) (by omega) (by simp; omega) ?_
                   intro v' w3 hown' hgrow _
                   have HO3 := Lib.hid (SpOwn.snoc (l := out2) (x := (fr, t)) hown')
                   have HG3 := Lib.hid hgrow
                   have hb3 := (HBy.out.alloc hby _).grown HG3.out (by simp; omega) (fun b hb => by have := ho.lt b hb; omega)
                   have HB3 := Lib.hid hb3
                   have hkp : Kept (fun b => u7.ownBlock = some b) (wz.alloc (.cells #[.int .i64 (fr), .int .i64 (t)] 35)) w3 := Kept.of_grown HG3.out (fun g hg _ => hg)
                   clear hown' hgrow hb3 hkp))
                | fail)
              go_wp2_with fail
              go_roundw
              case rel => exact ⟨i + 1, k, out2 ++ [(fr, t)], by go_num, rfl, by omega, hk, by simp; omega, HB3, HO3, Lib.hid (by rw [← HCC.out, HE.out, List.append_assoc])⟩
              case measure => simp [intOf]; omega
            case neg =>
              have s5 : decide (fr ≤ t) = false := by simpa using hl
              have hcc := HCC.out
              rw [if_neg hl, List.nil_append] at hcc
              have HCC := Lib.hid hcc
              clear hcc hl
              go_wp2_with fail
              go_roundw
              case rel => exact ⟨i + 1, k, out2, by go_num, rfl, by omega, hk, by omega, HBy, HOy, Lib.hid (by rw [← HCC.out, HE.out])⟩
              case measure => simp [intOf]; omega
end Go.Proofs.YtaghhndcimjjgaaGreatDoor

/- Sets: Union, Common, Without of the reference; and that the program's are the same. -/
namespace Go.Proofs.YtaghhndcimjjgaaGreatDoor
open Go.RowKit Go.BigFrame
open Sp (chkS chkL spl mem Norm inB combF addP mg endsOf com wo)

/-- what the reference makes of two sets -/
def rcomb (how : Nat) (F1 T1 : Nat → Int) (n1 : Nat) (F2 T2 : Nat → Int) (n2 : Nat) : List (Int × Int) := combF (keepF how F1 T1 n1 F2 T2 n2) [] (mg (2 * n1 + 2 * n2) (endsOf (spl F1 T1 n1)) (endsOf (spl F2 T2 n2)))
theorem rcomb_ok {how : Nat} (hh : how = 1 ∨ how = 2 ∨ how = 3) {F1 T1 F2 T2 : Nat → Int} {n1 n2 : Nat} (g1 : chkS F1 T1 n1 = 0) (g2 : chkS F2 T2 n2 = 0) :
    Norm (rcomb how F1 T1 n1 F2 T2 n2) ∧ ∀ n, mem (rcomb how F1 T1 n1 F2 T2 n2) n ↔ keepB how (inB (spl F1 T1 n1) n) (inB (spl F2 T2 n2) n) = true := by
  have h := Sp.comb_all (keepB how) (by rcases hh with rfl | rfl | rfl <;> rfl) (Sp.chkS_zero g1).2.1 (Sp.chkS_zero g2).2.1 (keepF how F1 T1 n1 F2 T2 n2) (fun p => by
    constructor
    · intro hk
      exact ⟨_, _, hk, Sp.inB_iff, Sp.inB_iff⟩
    · rintro ⟨x, y, hk, hx, hy⟩
      have e1 : x = inB (spl F1 T1 n1) p := Bool.eq_iff_iff.2 (hx.trans Sp.inB_iff.symm)
      have e2 : y = inB (spl F2 T2 n2) p := Bool.eq_iff_iff.2 (hy.trans Sp.inB_iff.symm)
      rw [e1, e2] at hk
      exact hk)
  rw [Sp.spl_len, Sp.spl_len] at h
  refine ⟨h.1, fun n => (h.2 n).trans ?_⟩
  constructor
  · rintro ⟨x, y, hk, hx, hy⟩
    have e1 : x = inB (spl F1 T1 n1) n := Bool.eq_iff_iff.2 (hx.trans Sp.inB_iff.symm)
    have e2 : y = inB (spl F2 T2 n2) n := Bool.eq_iff_iff.2 (hy.trans Sp.inB_iff.symm)
    rw [e1, e2] at hk
    exact hk
  · intro hk
    exact ⟨_, _, hk, Sp.inB_iff, Sp.inB_iff⟩
theorem rcomb_mem1 {F1 T1 F2 T2 : Nat → Int} {n1 n2 : Nat} (g1 : chkS F1 T1 n1 = 0) (g2 : chkS F2 T2 n2 = 0) (n : Int) : mem (rcomb 1 F1 T1 n1 F2 T2 n2) n ↔ mem (spl F1 T1 n1) n ∨ mem (spl F2 T2 n2) n := by
  rw [(rcomb_ok (Or.inl rfl) g1 g2).2 n, ← Sp.inB_iff, ← Sp.inB_iff]
  show (inB _ n || inB _ n) = true ↔ _
  rw [Bool.or_eq_true]
theorem rcomb_mem2 {F1 T1 F2 T2 : Nat → Int} {n1 n2 : Nat} (g1 : chkS F1 T1 n1 = 0) (g2 : chkS F2 T2 n2 = 0) (n : Int) : mem (rcomb 2 F1 T1 n1 F2 T2 n2) n ↔ mem (spl F1 T1 n1) n ∧ mem (spl F2 T2 n2) n := by
  rw [(rcomb_ok (Or.inr (Or.inl rfl)) g1 g2).2 n, ← Sp.inB_iff, ← Sp.inB_iff]
  show (inB _ n && inB _ n) = true ↔ _
  rw [Bool.and_eq_true]
theorem rcomb_mem3 {F1 T1 F2 T2 : Nat → Int} {n1 n2 : Nat} (g1 : chkS F1 T1 n1 = 0) (g2 : chkS F2 T2 n2 = 0) (n : Int) : mem (rcomb 3 F1 T1 n1 F2 T2 n2) n ↔ mem (spl F1 T1 n1) n ∧ ¬ mem (spl F2 T2 n2) n := by
  rw [(rcomb_ok (Or.inr (Or.inr rfl)) g1 g2).2 n, ← Sp.inB_iff, ← Sp.inB_iff]
  show (inB _ n && !inB _ n) = true ↔ _
  rw [Bool.and_eq_true, Bool.not_eq_true', Bool.not_eq_true]
theorem rcomb_com {F1 T1 F2 T2 : Nat → Int} {n1 n2 : Nat} (g1 : chkS F1 T1 n1 = 0) (g2 : chkS F2 T2 n2 = 0) : com (n1 + n2) (spl F1 T1 n1) (spl F2 T2 n2) = rcomb 2 F1 T1 n1 F2 T2 n2 :=
  Sp.norm_unique (Sp.com_norm _ _ _ (Sp.chkS_zero g1).2.1 (Sp.chkS_zero g2).2.1) (rcomb_ok (Or.inr (Or.inl rfl)) g1 g2).1 (fun n => (Sp.com_mem _ _ _ n (by rw [Sp.spl_len, Sp.spl_len]; omega) (Sp.chkS_zero g1).2.1 (Sp.chkS_zero g2).2.1).trans (rcomb_mem2 g1 g2 n).symm)
theorem rcomb_wo {F1 T1 F2 T2 : Nat → Int} {n1 n2 : Nat} (g1 : chkS F1 T1 n1 = 0) (g2 : chkS F2 T2 n2 = 0) : wo (spl F1 T1 n1) (spl F2 T2 n2) = rcomb 3 F1 T1 n1 F2 T2 n2 :=
  Sp.norm_unique (Sp.wo_norm _ _ (Sp.chkS_zero g1).2.1 (Sp.chkS_zero g2).2.1) (rcomb_ok (Or.inr (Or.inr rfl)) g1 g2).1 (fun n => (Sp.wo_mem _ _ n (Sp.chkS_zero g1).2.1 (Sp.chkS_zero g2).2.1).trans (rcomb_mem3 g1 g2 n).symm)
theorem setE_congr {c1 c2 : Int} {l k : List (Int × Int)} (h : c1 = 0 → c2 = 0 → l = k) : setE c1 c2 l = setE c1 c2 k ∧ setL c1 c2 l = setL c1 c2 k := by
  unfold setE setL
  by_cases g : orC c1 c2 = 0
  · obtain ⟨g1, g2⟩ := orC_zero g
    rw [h g1 g2]
    exact ⟨rfl, rfl⟩
  · rw [if_neg g, if_neg g, if_neg g, if_neg g]
    exact ⟨rfl, rfl⟩
/-- what a function of two sets hands back -/
def SetRet (how : Nat) (F1 T1 : Nat → Int) (n1 : Nat) (F2 T2 : Nat → Int) (n2 : Nat) (w : World) (e : Ending) (w' : World) : Prop :=
  (∃ v, e = .returned (.tuple #[v, .int .i64 (setE (chkS F1 T1 n1) (chkS F2 T2 n2) (rcomb how F1 T1 n1 F2 T2 n2))]) ∧ SpOwn w' w.heap.size v (setL (chkS F1 T1 n1) (chkS F2 T2 n2) (rcomb how F1 T1 n1 F2 T2 n2))) ∧ Below w.heap.size w w'
section
variable (a1 : Option Addr) (n1 k1 : Nat) (F1 T1 : Nat → Int) (a2 : Option Addr) (n2 k2 : Nat) (F2 T2 : Nat → Int) (w : World) (h1 : Rows2 w a1 n1 F1 T1) (h2 : Rows2 w a2 n2 F2 T2)
include h1 h2
theorem unionP_any : Calls Tryz.prog 6 #[.slice a1 n1 k1, .slice a2 n2 k2] w (SetRet 1 F1 T1 n1 F2 T2 n2 w) := by
  refine (union_any a1 n1 k1 F1 T1 a2 n2 k2 F2 T2 w h1 h2).mono ?_
  rintro e w' ⟨⟨v, u, rfl, ho, hu⟩, hb⟩
  have hc := setE_congr (c1 := chkS F1 T1 n1) (c2 := chkS F2 T2 n2) (l := u) (k := rcomb 1 F1 T1 n1 F2 T2 n2) (fun g1 g2 => by
    obtain ⟨u1, u2⟩ := hu (by unfold orC; rw [if_pos g1]; exact g2)
    exact Sp.norm_unique u1 (rcomb_ok (Or.inl rfl) g1 g2).1 (fun n => (u2 n).trans (rcomb_mem1 g1 g2 n).symm))
  rw [hc.1]
  rw [hc.2] at ho
  exact ⟨⟨v, rfl, ho⟩, hb⟩
theorem commonP_any : Calls Tryz.prog 8 #[.slice a1 n1 k1, .slice a2 n2 k2] w (SetRet 2 F1 T1 n1 F2 T2 n2 w) := by
  refine (common_any a1 n1 k1 F1 T1 a2 n2 k2 F2 T2 w h1 h2).mono ?_
  rintro e w' ⟨⟨v, rfl, ho⟩, hb⟩
  have hc := setE_congr (c1 := chkS F1 T1 n1) (c2 := chkS F2 T2 n2) (fun g1 g2 => rcomb_com (F1 := F1) (T1 := T1) (F2 := F2) (T2 := T2) g1 g2)
  rw [hc.1]
  rw [hc.2] at ho
  exact ⟨⟨v, rfl, ho⟩, hb⟩
theorem withoutP_any : Calls Tryz.prog 10 #[.slice a1 n1 k1, .slice a2 n2 k2] w (SetRet 3 F1 T1 n1 F2 T2 n2 w) := by
  refine (without_any a1 n1 k1 F1 T1 a2 n2 k2 F2 T2 w h1 h2).mono ?_
  rintro e w' ⟨⟨v, rfl, ho⟩, hb⟩
  have hc := setE_congr (c1 := chkS F1 T1 n1) (c2 := chkS F2 T2 n2) (fun g1 g2 => rcomb_wo (F1 := F1) (T1 := T1) (F2 := F2) (T2 := T2) g1 g2)
  rw [hc.1]
  rw [hc.2] at ho
  exact ⟨⟨v, rfl, ho⟩, hb⟩
end
set_option maxHeartbeats 2000000 in
set_option maxRecDepth 100000 in
theorem rcombine_any (how : Nat) (hh : how = 1 ∨ how = 2 ∨ how = 3) (a1 : Option Addr) (n1 k1 : Nat) (F1 T1 : Nat → Int) (a2 : Option Addr) (n2 k2 : Nat) (F2 T2 : Nat → Int) (w : World) (h1 : Rows2 w a1 n1 F1 T1) (h2 : Rows2 w a2 n2 F2 T2) :
    Calls Tryz.prog 30 #[.slice a1 n1 k1, .slice a2 n2 k2, .int .i64 how] w (SetRet how F1 T1 n1 F2 T2 n2 w) := by
  unfold SetRet
  have D1 := Lib.hid (rcheckBoth_any a1 n1 k1 F1 T1 a2 n2 k2 F2 T2 w h1 h2)
  have D2 := Lib.hid (fun (g1 : chkS F1 T1 n1 = 0) (g2 : chkS F2 T2 n2 = 0) (W : World) (hb : Below w.heap.size w W) => combined_any how hh a1 n1 k1 F1 T1 a2 n2 k2 F2 T2 W (h1.below hb (Nat.le_refl _)) (h2.below hb (Nat.le_refl _)) g1 g2)
  unfold setE setL
  clear h1 h2 hh
  generalize chkS F1 T1 n1 = c1 at D1 D2 ⊢
  generalize chkS F2 T2 n2 = c2 at D1 D2 ⊢
  by_cases g : orC c1 c2 = 0
  case neg =>
    rw [if_neg g, if_neg g]
    obtain ⟨c, hc⟩ : ∃ c, orC c1 c2 = c := ⟨_, rfl⟩
    rw [hc] at D1 g ⊢
    have b2 : (c != 0) = true := by simpa using g
    clear g hc D2
    go_enter Tryz.func30, Tryz.ntmps30
    go_wp2_with fail
    refine D1.out.mono ?_
    rintro e w1 ⟨rfl, hb1⟩
    go_wp2_with fail
    go_ret2
    exact ⟨⟨_, rfl, SpOwn.nil _ _⟩, hb1⟩
  case pos =>
  rw [g] at D1 ⊢
  rw [if_pos rfl, if_pos rfl]
  obtain ⟨g1, g2⟩ := orC_zero g
  have D3 := Lib.hid (D2.out g1 g2)
  clear D2 g g1 g2
  change Hid (∀ W, _ → Calls _ _ _ W fun e w' => (∃ v, e = _ ∧ SpOwn w' W.heap.size v (rcomb how F1 T1 n1 F2 T2 n2)) ∧ _) at D3
  generalize rcomb how F1 T1 n1 F2 T2 n2 = u at D3 ⊢
  go_enter Tryz.func30, Tryz.ntmps30
  go_wp2_with fail
  refine D1.out.mono ?_
  rintro e w1 ⟨rfl, hb1⟩
  have HB1 := Lib.hid hb1
  clear hb1
  go_wp2_with fail
  refine (D3.out w1 HB1.out).mono ?_
  rintro e w2 ⟨⟨v, rfl, ho⟩, hb2⟩
  obtain ⟨ao, co, rfl, _⟩ := ho.rows
  have HO := Lib.hid (ho.weaken HB1.out.size)
  have HB2 := Lib.hid (HB1.out.trans (hb2.mono HB1.out.size))
  clear ho hb2 D1 D3
  by_cases hl : 1000 < u.length
  · have t1 : decide ((1000 : Int) < (u.length : Int)) = true := by rw [decide_eq_true_eq]; omega
    have t1' : decide (1000 < u.length) = true := by simpa using hl
    have HL := Lib.hid hl
    clear hl
    go_wp2_with fail
    go_ret2
    exact ⟨⟨_, by unfold sizedE; rw [if_pos HL.out]; rfl, by unfold sizedL; rw [if_pos HL.out]; exact SpOwn.nil _ _⟩, HB2.out⟩
  · have t1 : decide ((1000 : Int) < (u.length : Int)) = false := by rw [decide_eq_false_iff_not]; omega
    have t1' : decide (1000 < u.length) = false := by simpa using hl
    have HL := Lib.hid hl
    clear hl
    go_wp2_with fail
    go_ret2
    exact ⟨⟨_, by unfold sizedE; rw [if_neg HL.out]; rfl, by unfold sizedL; rw [if_neg HL.out]; exact HO.out⟩, HB2.out⟩
section
variable (a1 : Option Addr) (n1 k1 : Nat) (F1 T1 : Nat → Int) (a2 : Option Addr) (n2 k2 : Nat) (F2 T2 : Nat → Int) (w : World) (h1 : Rows2 w a1 n1 F1 T1) (h2 : Rows2 w a2 n2 F2 T2)
include h1 h2
theorem unionR_any : Calls Tryz.prog 7 #[.slice a1 n1 k1, .slice a2 n2 k2] w (SetRet 1 F1 T1 n1 F2 T2 n2 w) := by
  have D := Lib.hid (rcombine_any 1 (Or.inl rfl) a1 n1 k1 F1 T1 a2 n2 k2 F2 T2 w h1 h2)
  clear h1 h2
  unfold SetRet at D ⊢
  go_enter Tryz.func7, Tryz.ntmps7
  go_wp2_with fail
  refine D.out.mono ?_
  rintro e w1 ⟨⟨v, rfl, ho⟩, hb⟩
  go_wp2_with fail
  go_ret2
  exact ⟨⟨v, rfl, ho⟩, hb⟩
theorem commonR_any : Calls Tryz.prog 9 #[.slice a1 n1 k1, .slice a2 n2 k2] w (SetRet 2 F1 T1 n1 F2 T2 n2 w) := by
  have D := Lib.hid (rcombine_any 2 (Or.inr (Or.inl rfl)) a1 n1 k1 F1 T1 a2 n2 k2 F2 T2 w h1 h2)
  clear h1 h2
  unfold SetRet at D ⊢
  go_enter Tryz.func9, Tryz.ntmps9
  go_wp2_with fail
  refine D.out.mono ?_
  rintro e w1 ⟨⟨v, rfl, ho⟩, hb⟩
  go_wp2_with fail
  go_ret2
  exact ⟨⟨v, rfl, ho⟩, hb⟩
theorem withoutR_any : Calls Tryz.prog 11 #[.slice a1 n1 k1, .slice a2 n2 k2] w (SetRet 3 F1 T1 n1 F2 T2 n2 w) := by
  have D := Lib.hid (rcombine_any 3 (Or.inr (Or.inr rfl)) a1 n1 k1 F1 T1 a2 n2 k2 F2 T2 w h1 h2)
  clear h1 h2
  unfold SetRet at D ⊢
  go_enter Tryz.func11, Tryz.ntmps11
  go_wp2_with fail
  refine D.out.mono ?_
  rintro e w1 ⟨⟨v, rfl, ho⟩, hb⟩
  go_wp2_with fail
  go_ret2
  exact ⟨⟨v, rfl, ho⟩, hb⟩
end
end Go.Proofs.YtaghhndcimjjgaaGreatDoor

/- Sets: Size and Has of both. -/
namespace Sp
theorem size_snoc (l : List (Int × Int)) (x : Int × Int) : size (l ++ [x]) = size l + (x.2 - x.1 + 1) := by
  unfold size
  rw [List.foldl_append]
  rfl
theorem size_part {F T : Nat → Int} {n : Nat} (h : chkS F T n = 0) : ∀ k, k ≤ n → 0 ≤ size (spl F T k) ∧ size (spl F T k) ≤ (k : Int) * 1000000000001 := fun k => by
  induction k with
  | zero => exact fun _ => ⟨Int.le_refl _, Int.le_refl _⟩
  | succ k ih =>
    intro hk
    obtain ⟨h1, h2⟩ := ih (by omega)
    obtain ⟨⟨a1, a2⟩, ⟨b1, b2⟩, hc, _⟩ := (chkS_zero h).2.2 k (by omega)
    rw [spl_succ, size_snoc]
    show 0 ≤ size (spl F T k) + (T k - F k + 1) ∧ size (spl F T k) + (T k - F k + 1) ≤ _
    omega
end Sp
namespace Go.Proofs.YtaghhndcimjjgaaGreatDoor
open Go.RowKit Go.BigFrame
open Sp (chkS chkL spl mem Norm inB size)

def sizeR (F T : Nat → Int) (n : Nat) : Int × Int := if chkS F T n = 0 then (size (spl F T n), 0) else (0, chkS F T n)
def hasR (F T : Nat → Int) (n : Nat) (x : Int) : Bool × Int := if chkS F T n = 0 then (inB (spl F T n) x, 0) else (false, chkS F T n)
set_option maxHeartbeats 1000000 in
set_option maxRecDepth 100000 in
theorem size_any (a : Option Addr) (len cap : Nat) (F T : Nat → Int) (w : World) (hr : Rows2 w a len F T) :
    Calls Tryz.prog 14 #[.slice a len cap] w fun e w' => e = .returned (.tuple #[.int .i64 (sizeR F T len).1, .int .i64 (sizeR F T len).2]) ∧ Below w.heap.size w w' := by
  have D1 := Lib.hid (checkSpans_any a len cap F T w hr)
  have HR := Lib.hid hr
  have HC := Lib.hid (fun (h : chkS F T len = 0) => (Sp.chkS_zero h).2.2)
  have HP := Lib.hid (fun (h : chkS F T len = 0) => Sp.size_part h)
  have hn1 : chkS F T len = 0 → len ≤ 1000 := fun h => (Sp.chkS_zero h).1
  unfold sizeR
  obtain ⟨c, hc⟩ : ∃ c, chkS F T len = c := ⟨_, rfl⟩
  rw [hc] at D1 HC HP hn1 ⊢
  clear hr hc
  by_cases g : c = 0
  case neg =>
    rw [if_neg g]
    have b1 : (c == 0) = false := by simpa using g
    have b2 : (c != 0) = true := by simpa using g
    clear g hn1
    go_enter Tryz.func14, Tryz.ntmps14
    go_wp2_with fail
    refine D1.out.mono ?_
    rintro e w1 ⟨rfl, hb1⟩
    go_wp2_with fail
    go_ret2
    exact ⟨rfl, hb1⟩
  case pos =>
  subst g
  rw [if_pos rfl]
  have hn := hn1 rfl
  have HC2 := Lib.hid (HC.out rfl)
  have HP2 := Lib.hid (HP.out rfl)
  clear hn1 HC HP
  go_enter Tryz.func14, Tryz.ntmps14
  go_wp2_with fail
  refine D1.out.mono ?_
  rintro e w1 ⟨rfl, hb1⟩
  have HB1 := Lib.hid hb1
  clear hb1
  go_wp2_with fail
  go_loopw [5, 15] (fun sv iv wr => ∃ (k : Nat), iv = .int .i64 k ∧ k ≤ len ∧ sv = .int .i64 (size (spl F T k)) ∧ Hid (Below w.heap.size w wr)) (fun _ iv _ => len - (intOf iv).toNat)
  case atStart => exact ⟨0, rfl, by omega, rfl, HB1⟩
  case round =>
    obtain ⟨k, rfl, hk, rfl, HB⟩ := hrel
    have hsz := HB.out.size
    by_cases hlt : k < len
    case neg =>
      have t2 : decide ((k : Int) < (len : Int)) = false := by rw [decide_eq_false_iff_not]; omega
      have t2' : decide (k < len) = false := by simpa using hlt
      obtain rfl : k = len := by omega
      clear hlt
      go_wp2_with fail
      go_ret2
      exact ⟨rfl, HB.out⟩
    case pos =>
    have t2 : decide ((k : Int) < (len : Int)) = true := by rw [decide_eq_true_eq]; omega
    have t2' : decide (k < len) = true := by simpa using hlt
    obtain ⟨b, off, rfl, hbl, hc⟩ := (HR.out.below HB.out (Nat.le_refl _)).here (by omega)
    obtain ⟨c0, c1⟩ := hc k hlt
    obtain ⟨⟨a1, a2⟩, ⟨b1, b2⟩, hft, _⟩ := HC2.out k hlt
    obtain ⟨p1, p2⟩ := HP2.out k hk
    have HS := Lib.hid (show size (spl F T (k + 1)) = size (spl F T k) + (T k - F k + 1) by rw [Sp.spl_succ, Sp.size_snoc])
    obtain ⟨sv, hsv⟩ : ∃ x, size (spl F T k) = x := ⟨_, rfl⟩
    rw [hsv] at p1 p2 HS ⊢
    have hk2 : (k : Int) ≤ 1000 := by omega
    have p3 : sv ≤ 1000000000001000 := by omega
    clear hc hsv p2
    go_wp2_with fail
    go_roundw
    case rel => exact ⟨k + 1, by go_num, by omega, by rw [HS.out], Lib.hid (HB.out.alloc (by omega) _)⟩
    case measure => simp [intOf]; omega
set_option maxHeartbeats 1000000 in
set_option maxRecDepth 100000 in
theorem rsize_any (a : Option Addr) (len cap : Nat) (F T : Nat → Int) (w : World) (hr : Rows2 w a len F T) :
    Calls Tryz.prog 15 #[.slice a len cap] w fun e w' => e = .returned (.tuple #[.int .i64 (sizeR F T len).1, .int .i64 (sizeR F T len).2]) ∧ Below w.heap.size w w' := by
  have D1 := Lib.hid (rcheckSpans_any a len cap F T w hr)
  have HR := Lib.hid hr
  have HC := Lib.hid (fun (h : chkS F T len = 0) => (Sp.chkS_zero h).2.2)
  have HP := Lib.hid (fun (h : chkS F T len = 0) => Sp.size_part h)
  have hn1 : chkS F T len = 0 → len ≤ 1000 := fun h => (Sp.chkS_zero h).1
  unfold sizeR
  obtain ⟨c, hc⟩ : ∃ c, chkS F T len = c := ⟨_, rfl⟩
  rw [hc] at D1 HC HP hn1 ⊢
  clear hr hc
  by_cases g : c = 0
  case neg =>
    rw [if_neg g]
    have b1 : (c == 0) = false := by simpa using g
    have b2 : (c != 0) = true := by simpa using g
    clear g hn1
    go_enter Tryz.func15, Tryz.ntmps15
    go_wp2_with fail
    refine D1.out.mono ?_
    rintro e w1 ⟨rfl, hb1⟩
    go_wp2_with fail
    go_ret2
    exact ⟨rfl, hb1⟩
  case pos =>
  subst g
  rw [if_pos rfl]
  have hn := hn1 rfl
  have HC2 := Lib.hid (HC.out rfl)
  have HP2 := Lib.hid (HP.out rfl)
  clear hn1 HC HP
  go_enter Tryz.func15, Tryz.ntmps15
  go_wp2_with fail
  refine D1.out.mono ?_
  rintro e w1 ⟨rfl, hb1⟩
  have HB1 := Lib.hid hb1
  clear hb1
  go_wp2_with fail
  go_loopw [5, 15] (fun sv iv wr => ∃ (k : Nat), iv = .int .i64 k ∧ k ≤ len ∧ sv = .int .i64 (size (spl F T k)) ∧ Hid (Below w.heap.size w wr)) (fun _ iv _ => len - (intOf iv).toNat)
  case atStart => exact ⟨0, rfl, by omega, rfl, HB1⟩
  case round =>
    obtain ⟨k, rfl, hk, rfl, HB⟩ := hrel
    have hsz := HB.out.size
    by_cases hlt : k < len
    case neg =>
      have t2 : decide ((k : Int) < (len : Int)) = false := by rw [decide_eq_false_iff_not]; omega
      have t2' : decide (k < len) = false := by simpa using hlt
      obtain rfl : k = len := by omega
      clear hlt
      go_wp2_with fail
      go_ret2
      exact ⟨rfl, HB.out⟩
    case pos =>
    have t2 : decide ((k : Int) < (len : Int)) = true := by rw [decide_eq_true_eq]; omega
    have t2' : decide (k < len) = true := by simpa using hlt
    obtain ⟨b, off, rfl, hbl, hc⟩ := (HR.out.below HB.out (Nat.le_refl _)).here (by omega)
    obtain ⟨c0, c1⟩ := hc k hlt
    obtain ⟨⟨a1, a2⟩, ⟨b1, b2⟩, hft, _⟩ := HC2.out k hlt
    obtain ⟨p1, p2⟩ := HP2.out k hk
    have HS := Lib.hid (show size (spl F T (k + 1)) = size (spl F T k) + (T k - F k + 1) by rw [Sp.spl_succ, Sp.size_snoc])
    obtain ⟨sv, hsv⟩ : ∃ x, size (spl F T k) = x := ⟨_, rfl⟩
    rw [hsv] at p1 p2 HS ⊢
    have hk2 : (k : Int) ≤ 1000 := by omega
    have p3 : sv ≤ 1000000000001000 := by omega
    clear hc hsv p2
    go_wp2_with fail
    go_roundw
    case rel => exact ⟨k + 1, by go_num, by omega, by rw [HS.out], Lib.hid (HB.out.alloc (by omega) _)⟩
    case measure => simp [intOf]; omega
set_option maxHeartbeats 1000000 in
theorem rhasP_any (n : Int) (a : Option Addr) (len cap : Nat) (F T : Nat → Int) (w : World) (hr : Rows2 w a len F T) :
    Calls Tryz.prog 13 #[.slice a len cap, .int .i64 n] w fun e w' => e = .returned (.tuple #[.bool (hasR F T len n).1, .int .i64 (hasR F T len n).2]) ∧ Below w.heap.size w w' := by
  have D1 := Lib.hid (rcheckSpans_any a len cap F T w hr)
  have hn1 : chkS F T len = 0 → len ≤ 1000 := fun h => (Sp.chkS_zero h).1
  have D2 := Lib.hid (fun W (h : Below w.heap.size w W) (hn : len ≤ 1000) => in_any n a len cap F T W (hr.below h (Nat.le_refl _)) (by omega))
  unfold hasR
  obtain ⟨c, hc⟩ : ∃ c, chkS F T len = c := ⟨_, rfl⟩
  rw [hc] at D1 hn1 ⊢
  clear hr hc
  by_cases g : c = 0
  case neg =>
    rw [if_neg g]
    have b1 : (c == 0) = false := by simpa using g
    have b2 : (c != 0) = true := by simpa using g
    clear g hn1 D2
    go_enter Tryz.func13, Tryz.ntmps13
    go_wp2_with fail
    refine D1.out.mono ?_
    rintro e w1 ⟨rfl, hb1⟩
    go_wp2_with fail
    go_ret2
    exact ⟨rfl, hb1⟩
  case pos =>
  subst g
  rw [if_pos rfl]
  have hn := hn1 rfl
  generalize inB (spl F T len) n = z at D2 ⊢
  go_enter Tryz.func13, Tryz.ntmps13
  go_wp2_with fail
  refine D1.out.mono ?_
  rintro e w1 ⟨rfl, hb1⟩
  go_wp2_with fail
  refine (D2.out w1 hb1 hn).mono ?_
  rintro e w2 ⟨rfl, hb2⟩
  go_wp2_with fail
  go_ret2
  exact ⟨rfl, below_step hb1 hb2⟩
/-! ### of the program: a function that is handed to the library -/
theorem hasC_any (f t n : Int) (q : Nat) (w : World) (hq : w.cell? ⟨q, 0, none⟩ = some (.int .i64 n)) : Calls Tryz.prog 32 #[.agg #[.int .i64 f, .int .i64 t], .pointer (some ⟨q, 0, none⟩)] w fun e w' => e = .returned (.bool (decide (f ≤ n) && decide (n ≤ t))) ∧ Below w.heap.size w w' := by
  obtain ⟨V, hV, hbV, hsV, hcV⟩ := alloc_cells w #[.int .i64 f, .int .i64 t] 35
  have c0 := hcV 0 _ rfl
  have c1 := hcV 1 _ rfl
  have c2 := below_cell hbV hq
  have HB := Lib.hid hbV
  have HVz := Lib.hid hV
  clear hcV hbV hV hsV hq
  by_cases g1 : f ≤ n
  · have n1 : decide (f ≤ n) = true := by simpa using g1
    by_cases g2 : n ≤ t
    · have n2 : decide (n ≤ t) = true := by simpa using g2
      clear g1 g2
      go_enter Tryz.func32, Tryz.ntmps32
      go_upto_region 1 with fail
      rw [HVz.out]
      go_wp2_with fail
      go_ret
      exact ⟨ret_bool (by simp [n1, n2]), HB.out⟩
    · have n2 : decide (n ≤ t) = false := by simpa using g2
      clear g1 g2
      go_enter Tryz.func32, Tryz.ntmps32
      go_upto_region 1 with fail
      rw [HVz.out]
      go_wp2_with fail
      go_ret
      exact ⟨ret_bool (by simp [n1, n2]), HB.out⟩
  · have n1 : decide (f ≤ n) = false := by simpa using g1
    clear g1
    go_enter Tryz.func32, Tryz.ntmps32
    go_upto_region 1 with fail
    rw [HVz.out]
    go_wp2_with fail
    go_ret
    exact ⟨ret_bool (by simp [n1]), HB.out⟩
set_option maxHeartbeats 1000000 in
set_option maxRecDepth 100000 in
theorem indexHas_any (n : Int) (q : Nat) (a : Option Addr) (len cap : Nat) (F T : Nat → Int) (w : World) (hr : Rows2 w a len F T) (hl : len ≤ 1000000) (hq : w.cell? ⟨q, 0, none⟩ = some (.int .i64 n)) :
    Calls Tryz.prog 54 #[.slice a len cap, .func (.func 32) #[] #[.pointer (some ⟨q, 0, none⟩)]] w fun e w' => (∃ r : Int, e = .returned (.int .i64 r) ∧ decide (0 ≤ r) = inB (spl F T len) n) ∧ Below w.heap.size w w' := by
  have HR := Lib.hid hr
  have HY := Lib.hid (fun i (hi : i < len) => inB_yes (F := F) (T := T) (n := n) hi)
  have HN := Lib.hid (inB_no (F := F) (T := T) (len := len) (n := n))
  have DC := Lib.hid (fun (f t : Int) (W : World) (h : Below w.heap.size w W) => hasC_any f t n q W (below_cell h hq))
  generalize inB (spl F T len) n = z at HY HN ⊢
  clear hr hq
  go_enter Tryz.func54, Tryz.ntmps54
  go_wp2_with fail
  go_loopw [8] (fun iv wr => ∃ (k : Nat), iv = .int .i64 k ∧ k ≤ len ∧ Hid (Below w.heap.size w wr) ∧ Hid (∀ i, i < k → ¬ (F i ≤ n ∧ n ≤ T i))) (fun iv _ => len - (intOf iv).toNat)
  case atStart => exact ⟨0, rfl, by omega, Lib.hid (Below.refl _ _), Lib.hid (fun i hi => by omega)⟩
  case round =>
    obtain ⟨k, rfl, hk, HB, HK⟩ := hrel
    have hsz := HB.out.size
    by_cases hlt : k < len
    case neg =>
      have t2 : decide ((k : Int) < (len : Int)) = false := by rw [decide_eq_false_iff_not]; omega
      have t2' : decide (k < len) = false := by simpa using hlt
      have hzz := HN.out (fun i hi => HK.out i (by omega))
      subst hzz
      clear hlt
      go_wp2_with fail
      go_ret
      exact ⟨⟨-1, rfl, by simp⟩, HB.out⟩
    case pos =>
    have t2 : decide ((k : Int) < (len : Int)) = true := by rw [decide_eq_true_eq]; omega
    have t2' : decide (k < len) = true := by simpa using hlt
    obtain ⟨b, off, rfl, hbl, hc⟩ := (HR.out.below HB.out (Nat.le_refl _)).here (by omega)
    obtain ⟨c0, c1⟩ := hc k hlt
    clear hc
    have D := Lib.hid (DC.out (F k) (T k) wr HB.out)
    obtain ⟨x, hx⟩ : ∃ x, (decide (F k ≤ n) && decide (n ≤ T k)) = x := ⟨_, rfl⟩
    rw [hx] at D
    cases x
    case false =>
      have HK2 : Hid (∀ i, i < k + 1 → ¬ (F i ≤ n ∧ n ≤ T i)) := Lib.hid (fun i hi => by
        by_cases e : i = k
        · subst e
          intro h
          simp [h.1, h.2] at hx
        · exact HK.out i (by omega))
      clear hx
      go_wp2_with fail
      refine D.out.mono ?_
      rintro e w2 ⟨rfl, hb2⟩
      have HB2 := Lib.hid (below_step HB.out hb2)
      clear hb2
      go_wp2_with fail
      go_roundw
      case rel => exact ⟨k + 1, by go_num, by omega, HB2, HK2⟩
      case measure => simp [intOf]; omega
    case true =>
      have hzz : z = true := by
        simp only [Bool.and_eq_true, decide_eq_true_eq] at hx
        exact HY.out k hlt hx.1 hx.2
      subst hzz
      clear hx
      go_wp2_with fail
      refine D.out.mono ?_
      rintro e w2 ⟨rfl, hb2⟩
      have HB2 := Lib.hid (below_step HB.out hb2)
      clear hb2
      go_wp2_with fail
      go_ret
      exact ⟨⟨k, rfl, by rw [decide_eq_true_eq]; omega⟩, HB2.out⟩
set_option maxHeartbeats 1000000 in
theorem hasP_any (n : Int) (a : Option Addr) (len cap : Nat) (F T : Nat → Int) (w : World) (hr : Rows2 w a len F T) :
    Calls Tryz.prog 12 #[.slice a len cap, .int .i64 n] w fun e w' => e = .returned (.tuple #[.bool (hasR F T len n).1, .int .i64 (hasR F T len n).2]) ∧ Below w.heap.size w w' := by
  obtain ⟨V, hV, hbV, hsV, hcV⟩ := alloc_cells w #[.int .i64 n] 3
  have c0 := hcV 0 _ rfl
  have D1 := Lib.hid (checkSpans_any a len cap F T V (hr.below hbV (Nat.le_refl _)))
  have hn1 : chkS F T len = 0 → len ≤ 1000 := fun h => (Sp.chkS_zero h).1
  have hmf : ∀ fn first cap w, (Instr.makeFunc fn first cap).run Tryz.prog w = .ok (.func fn first cap) w := fun _ _ _ _ => rfl
  have D2 : Hid (∀ W : World, Below V.heap.size V W → len ≤ 1000 → Calls Tryz.prog 31 #[.slice a len cap, .func (.func 32) #[] #[.pointer (some ⟨w.heap.size, 0, none⟩)]] W fun e w' => e = .returned (.bool (inB (spl F T len) n)) ∧ Below W.heap.size W w') := Lib.hid (fun W hW hn => by
    have DI := Lib.hid (indexHas_any n w.heap.size a len cap F T W (hr.below (below_step hbV hW) (Nat.le_refl _)) (by omega) (below_cell hW c0))
    generalize inB (spl F T len) n = z at DI ⊢
    go_enter Tryz.func31, Tryz.ntmps31
    go_wp2_with fail
    refine DI.out.mono ?_
    rintro e w2 ⟨⟨r, rfl, hrz⟩, hb2⟩
    subst hrz
    go_wp2_with fail
    go_ret
    exact ⟨rfl, hb2⟩)
  have HB := Lib.hid hbV
  have HVz := Lib.hid hV
  clear hcV hbV hV hsV c0
  unfold hasR
  obtain ⟨c, hc⟩ : ∃ c, chkS F T len = c := ⟨_, rfl⟩
  rw [hc] at D1 hn1 ⊢
  clear hr hc
  by_cases g : c = 0
  case neg =>
    rw [if_neg g]
    have b1 : (c == 0) = false := by simpa using g
    have b2 : (c != 0) = true := by simpa using g
    clear g hn1 D2
    go_enter Tryz.func12, Tryz.ntmps12
    go_upto_region 1 with fail
    rw [HVz.out]
    go_wp2_with fail
    refine D1.out.mono ?_
    rintro e w1 ⟨rfl, hb1⟩
    go_wp2_with fail
    go_ret2
    exact ⟨rfl, below_step HB.out hb1⟩
  case pos =>
  subst g
  rw [if_pos rfl]
  have hn := hn1 rfl
  generalize inB (spl F T len) n = z at D2 ⊢
  go_enter Tryz.func12, Tryz.ntmps12
  go_upto_region 1 with fail
  rw [HVz.out]
  go_wp2_with fail
  refine D1.out.mono ?_
  rintro e w1 ⟨rfl, hb1⟩
  go_wp2_with fail
  refine (D2.out w1 hb1 hn).mono ?_
  rintro e w2 ⟨rfl, hb2⟩
  go_wp2_with fail
  go_ret2
  exact ⟨rfl, below_step (below_step HB.out hb1) hb2⟩
end Go.Proofs.YtaghhndcimjjgaaGreatDoor

/- Sets: what is made of two right ones is right and not too long; sizes (plain). -/
namespace Sp
/-- as many different ones fit as there are -/
theorem fits_in : ∀ (S L : List Int), S.Pairwise (· < ·) → (∀ x, x ∈ S → x ∈ L) → S.length ≤ L.length
  | [], _, _, _ => Nat.zero_le _
  | x :: S, L, hp, h => by
    obtain ⟨h1, h2⟩ := List.pairwise_cons.1 hp
    have hx := h x (List.mem_cons_self ..)
    have ih := fits_in S (L.erase x) h2 (fun y hy => by
      have hne : y ≠ x := fun e => by have := h1 y hy; omega
      exact (List.mem_erase_of_ne hne).2 (h y (List.mem_cons_of_mem _ hy)))
    rw [List.length_erase_of_mem hx] at ih
    have : 0 < L.length := List.length_pos_of_mem hx
    rw [List.length_cons]
    omega
theorem ends_strict : ∀ {l : List (Int × Int)}, Norm l → (endsOf l).Pairwise (· < ·)
  | [], _ => List.Pairwise.nil
  | x :: l, h => by
    have h1 := h.1
    have hg := fun z hz => ends_ge h.2.2 h.2.1 z hz
    rw [endsOf]
    refine List.Pairwise.cons (fun z hz => ?_) (List.Pairwise.cons (fun z hz => ?_) (ends_strict h.2.2))
    · rcases List.mem_cons.1 hz with rfl | hz
      · omega
      · have := hg z hz
        omega
    · have := hg z hz
      omega
theorem ends_edge : ∀ {l : List (Int × Int)}, Norm l → ∀ z, z ∈ endsOf l → (mem l z ∧ ¬ mem l (z - 1)) ∨ (mem l (z - 1) ∧ ¬ mem l z)
  | [], _, z, hz => by cases hz
  | x :: l, h, z, hz => by
    have h1 := h.1
    have low : ∀ {n}, mem l n → x.2 + 2 ≤ n := fun ⟨w, hw, a, _⟩ => by have := h.2.1 w hw; omega
    rw [endsOf] at hz
    rcases List.mem_cons.1 hz with rfl | hz
    · refine Or.inl ⟨mem_cons.2 (Or.inl ⟨Int.le_refl _, h1⟩), fun hm => ?_⟩
      rcases mem_cons.1 hm with a | a
      · omega
      · have := low a
        omega
    · rcases List.mem_cons.1 hz with rfl | hz
      · refine Or.inr ⟨mem_cons.2 (Or.inl (by omega)), fun hm => ?_⟩
        rcases mem_cons.1 hm with a | a
        · omega
        · have := low a
          omega
      · have hge := ends_ge h.2.2 h.2.1 z hz
        rcases ends_edge h.2.2 z hz with ⟨a, b⟩ | ⟨a, b⟩
        · refine Or.inl ⟨mem_cons.2 (Or.inr a), fun hm => ?_⟩
          rcases mem_cons.1 hm with c | c
          · omega
          · exact b c
        · refine Or.inr ⟨mem_cons.2 (Or.inr a), fun hm => ?_⟩
          rcases mem_cons.1 hm with c | c
          · have := low a
            omega
          · exact b c
/-- what is told by two rows has not more spans than both -/
theorem len_bound {u a b : List (Int × Int)} (hu : Norm u) (hK : ∀ p q, (mem a p ↔ mem a q) → (mem b p ↔ mem b q) → (mem u p ↔ mem u q)) : u.length ≤ a.length + b.length := by
  have h := fits_in (endsOf u) (endsOf a ++ endsOf b) (ends_strict hu) (fun z hz => by
    rw [List.mem_append]
    by_cases h1 : z ∈ endsOf a
    · exact Or.inl h1
    · by_cases h2 : z ∈ endsOf b
      · exact Or.inr h2
      · exfalso
        have e1 : mem a z ↔ mem a (z - 1) := mem_flat (by omega) (fun y hy => by
          have : y ≠ z := fun e => h1 (e ▸ hy)
          omega)
        have e2 : mem b z ↔ mem b (z - 1) := mem_flat (by omega) (fun y hy => by
          have : y ≠ z := fun e => h2 (e ▸ hy)
          omega)
        have e := hK z (z - 1) e1 e2
        rcases ends_edge hu z hz with ⟨c, d⟩ | ⟨c, d⟩
        · exact d (e.1 c)
        · exact d (e.2 c))
  rw [ends_len, List.length_append, ends_len, ends_len] at h
  omega
theorem norm_next : ∀ {l : List (Int × Int)} {i : Nat} {x y : Int × Int}, Norm l → l[i]? = some x → l[i + 1]? = some y → x.2 + 2 ≤ y.1
  | z :: l, 0, x, y, h, hx, hy => by
    simp only [List.getElem?_cons_zero, Option.some.injEq] at hx
    subst hx
    exact h.2.1 y (List.mem_of_getElem? (by simpa using hy))
  | z :: l, i + 1, x, y, h, hx, hy => norm_next h.2.2 (by simpa using hx) (by simpa using hy)
theorem chkL_ok {F T : Nat → Int} : ∀ (n k : Nat), (∀ i, k ≤ i → i < k + n → (0 ≤ F i ∧ F i ≤ 1000000000000) ∧ (0 ≤ T i ∧ T i ≤ 1000000000000) ∧ F i ≤ T i ∧ (0 < i → T (i - 1) + 2 ≤ F i)) → chkL F T n k = 0
  | 0, k, _ => rfl
  | n + 1, k, h => by
    obtain ⟨h1, h2, h3, h4⟩ := h k (Nat.le_refl _) (by omega)
    have e1 : outN (F k) = false := by unfold outN; simp; omega
    have e2 : outN (T k) = false := by unfold outN; simp; omega
    rw [chkL, e1, e2, if_neg (by simp), if_neg (by
      rintro (g | ⟨g, g2⟩)
      · omega
      · have := h4 g
        omega)]
    exact chkL_ok n (k + 1) (fun i a b => h i (by omega) (by omega))
end Sp
namespace Go.Proofs.YtaghhndcimjjgaaGreatDoor
open Sp (chkS spl mem Norm inB size)
/-- a right row whose numbers are small passes the check -/
theorem chkS_of {u : List (Int × Int)} (hu : Norm u) (hl : u.length ≤ 1000) (hr : ∀ n, mem u n → 0 ≤ n ∧ n ≤ 1000000000000) : chkS (spF u) (spT u) u.length = 0 := by
  unfold chkS
  rw [if_neg (by omega)]
  refine Sp.chkL_ok _ _ (fun i _ hi => ?_)
  have hi : i < u.length := by omega
  have hx : u[i]? = some u[i] := List.getElem?_eq_getElem hi
  have hle := hu.each _ (List.getElem_mem hi)
  have hF : spF u i = (u[i]).1 := by unfold spF; rw [List.getD_eq_getElem?_getD, hx]; rfl
  have hT : spT u i = (u[i]).2 := by unfold spT; rw [List.getD_eq_getElem?_getD, hx]; rfl
  have h1 := hr (u[i]).1 ⟨_, List.getElem_mem hi, Int.le_refl _, hle⟩
  have h2 := hr (u[i]).2 ⟨_, List.getElem_mem hi, hle, Int.le_refl _⟩
  rw [hF, hT]
  refine ⟨h1, h2, hle, fun h0 => ?_⟩
  have hj : i - 1 < u.length := by omega
  have hy : u[i - 1]? = some u[i - 1] := List.getElem?_eq_getElem hj
  have hT2 : spT u (i - 1) = (u[i - 1]).2 := by unfold spT; rw [List.getD_eq_getElem?_getD, hy]; rfl
  rw [hT2]
  exact Sp.norm_next hu hy (by rw [show i - 1 + 1 = i by omega]; exact hx)
/-- all that the law asks of three results -/
structure Three (F1 T1 : Nat → Int) (n1 : Nat) (F2 T2 : Nat → Int) (n2 : Nat) : Prop where
  c1 : ∀ how, how = 1 ∨ how = 2 ∨ how = 3 → chkS (spF (rcomb how F1 T1 n1 F2 T2 n2)) (spT (rcomb how F1 T1 n1 F2 T2 n2)) (rcomb how F1 T1 n1 F2 T2 n2).length = 0
  l : ∀ how, how = 1 ∨ how = 2 ∨ how = 3 → (rcomb how F1 T1 n1 F2 T2 n2).length ≤ 1000
  h : ∀ how, how = 1 ∨ how = 2 ∨ how = 3 → ∀ n, inB (rcomb how F1 T1 n1 F2 T2 n2) n = keepB how (inB (spl F1 T1 n1) n) (inB (spl F2 T2 n2) n)
  s : size (rcomb 1 F1 T1 n1 F2 T2 n2) + size (rcomb 2 F1 T1 n1 F2 T2 n2) = size (spl F1 T1 n1) + size (spl F2 T2 n2) ∧ size (rcomb 3 F1 T1 n1 F2 T2 n2) + size (rcomb 2 F1 T1 n1 F2 T2 n2) = size (spl F1 T1 n1)
theorem three_of {F1 T1 F2 T2 : Nat → Int} {n1 n2 : Nat} (g1 : chkS F1 T1 n1 = 0) (g2 : chkS F2 T2 n2 = 0) (hn : n1 + n2 ≤ 1000) : Three F1 T1 n1 F2 T2 n2 := by
  have hin : ∀ how, how = 1 ∨ how = 2 ∨ how = 3 → ∀ n, inB (rcomb how F1 T1 n1 F2 T2 n2) n = keepB how (inB (spl F1 T1 n1) n) (inB (spl F2 T2 n2) n) := fun how hh n => by
    rw [Bool.eq_iff_iff, Sp.inB_iff]
    exact (rcomb_ok hh g1 g2).2 n
  have hlen : ∀ how, how = 1 ∨ how = 2 ∨ how = 3 → (rcomb how F1 T1 n1 F2 T2 n2).length ≤ 1000 := fun how hh => by
    have h := Sp.len_bound (a := spl F1 T1 n1) (b := spl F2 T2 n2) (rcomb_ok hh g1 g2).1 (fun p q e1 e2 => by
      rw [← Sp.inB_iff, ← Sp.inB_iff, hin how hh, hin how hh]
      have f1 : inB (spl F1 T1 n1) p = inB (spl F1 T1 n1) q := by rw [Bool.eq_iff_iff, Sp.inB_iff, Sp.inB_iff]; exact e1
      have f2 : inB (spl F2 T2 n2) p = inB (spl F2 T2 n2) q := by rw [Bool.eq_iff_iff, Sp.inB_iff, Sp.inB_iff]; exact e2
      rw [f1, f2])
    rw [Sp.spl_len, Sp.spl_len] at h
    omega
  have hrange : ∀ how, how = 1 ∨ how = 2 ∨ how = 3 → ∀ n, mem (rcomb how F1 T1 n1 F2 T2 n2) n → 0 ≤ n ∧ n ≤ 1000000000000 := fun how hh n hm => by
    have hk := (rcomb_ok hh g1 g2).2 n |>.1 hm
    have hor : inB (spl F1 T1 n1) n = true ∨ inB (spl F2 T2 n2) n = true := by
      rcases hh with rfl | rfl | rfl
      · exact Bool.or_eq_true_iff.1 hk
      · exact Or.inl (Bool.and_eq_true_iff.1 hk).1
      · exact Or.inl (Bool.and_eq_true_iff.1 hk).1
    rcases hor with h | h
    · exact Sp.mem_range g1 (Sp.inB_iff.1 h)
    · exact Sp.mem_range g2 (Sp.inB_iff.1 h)
  refine ⟨fun how hh => chkS_of (rcomb_ok hh g1 g2).1 (hlen how hh) (hrange how hh), hlen, hin, ?_⟩
  have bound : ∀ {F T : Nat → Int} {n : Nat}, chkS F T n = 0 → ∀ x, x ∈ spl F T n → 0 ≤ x.1 ∧ x.2 < ((1000000000001 : Nat) : Int) := fun g x hx => by
    obtain ⟨i, hi, rfl⟩ := Sp.spl_mem hx
    obtain ⟨a, b, _⟩ := (Sp.chkS_zero g).2.2 i hi
    simp only
    omega
  exact Sp.sizes (Sp.chkS_zero g1).2.1 (Sp.chkS_zero g2).2.1 (rcomb_ok (Or.inl rfl) g1 g2).1 (rcomb_ok (Or.inr (Or.inl rfl)) g1 g2).1 (rcomb_ok (Or.inr (Or.inr rfl)) g1 g2).1 (rcomb_mem1 g1 g2) (rcomb_mem2 g1 g2) (rcomb_mem3 g1 g2) (bound g1) (bound g2)
end Go.Proofs.YtaghhndcimjjgaaGreatDoor

/- Sets: SpansText of both. (printed by wip/gen_ev.py) -/
namespace Go.Proofs.YtaghhndcimjjgaaGreatDoor
open Go.RowKit Go.BigFrame
open Sp (chkS spl)
open Rd (sB bt itoaB spanT spansT minusB commaB)

/-- the table of powers -/
structure TabP (w : World) : Prop where
  t : Lib.TabIs Tryz.prog w "internal/strconv.uint64pow10" .u64 Lib.pow10Tab
theorem TabP.below {w w' : World} (h : TabP w) (hb : Below w.heap.size w w') : TabP w' := ⟨var_below h.t hb⟩
theorem itoaP_any (n : Int) (h0 : -9223372036854775808 ≤ n) (h1 : n ≤ 9223372036854775807) (w : World) (hg : TabP w) :
    Calls Tryz.prog 34 #[.int .i64 n] w fun e w' => e = .returned (.string (itoaB n)) ∧ Below w.heap.size w w' := by
  refine (Tryz.strconv_Itoa n h0 h1 w hg.t).mono ?_
  rintro e w' ⟨rfl, k, os, rfl⟩
  exact ⟨rfl, below_grow w k os⟩
def strC (t : ByteArray) : List Value := [.string t]
def StrOwn (w : World) (base : Nat) (v : Value) (l : List ByteArray) : Prop := w.ownsRow base 9 1 v l.length (l.flatMap strC)
theorem StrOwn.below {w w' : World} {base : Nat} {v : Value} {l : List ByteArray} (h : StrOwn w base v l) (hb : Below w.heap.size w w') : StrOwn w' base v l := ownsRow_below h hb
theorem StrOwn.nil (w : World) (base : Nat) : StrOwn w base (.slice none 0 0) [] := World.ownsRow_nil _ _ _ _
theorem StrOwn.lt {w : World} {base : Nat} {v : Value} {l : List ByteArray} (h : StrOwn w base v l) : ∀ b, v.ownBlock = some b → base ≤ b ∧ b < w.heap.size := fun b e => World.ownsRow.lt h b e
theorem StrOwn.snoc {w' : World} {base : Nat} {v : Value} {l : List ByteArray} {x : ByteArray} (h : w'.ownsRow base 9 1 v (l.length + 1) (l.flatMap strC ++ [.string x])) : StrOwn w' base v (l ++ [x]) := by
  unfold StrOwn
  rw [List.length_append, List.flatMap_append]
  exact h
theorem strC_get (l : List ByteArray) : ∀ (i : Nat) (x : ByteArray), l[i]? = some x → (l.flatMap strC)[i]? = some (Value.string x) := by
  induction l with
  | nil => intro i x h; simp at h
  | cons y l ih =>
    intro i x h
    cases i with
    | zero =>
      simp only [List.getElem?_cons_zero, Option.some.injEq] at h
      subst h
      rfl
    | succ i => exact ih i x (by simpa using h)
theorem joinS_any (l : List ByteArray) (v : Value) (base : Nat) (w : World) (h : StrOwn w base v l) (hl : l.length ≤ 1000000) (hs : (Go.Lib.join (l.map sB) [44]).length ≤ 1000000) :
    Calls Tryz.prog 35 #[v, .string ⟨#[44]⟩] w fun e w' => e = .returned (.string (bt (Go.Lib.join (l.map sB) [44]))) ∧ Below w.heap.size w w' := by
  have hh := h
  rcases h.2 with ⟨e, h0⟩ | ⟨g, cap, cur, e, hb, hg, hn, hm, hcs, ht⟩
  · have hl0 : l = [] := List.length_eq_zero_iff.1 h0
    subst hl0
    rw [e]
    refine (Tryz.strings_Join_none none 0 ⟨#[44]⟩ w).mono ?_
    rintro e w' ⟨rfl, rfl⟩
    exact ⟨rfl, Below.refl _ _⟩
  · subst e
    refine (Tryz.strings_Join g 0 cap l ⟨#[44]⟩ w (fun j x hx => ?_) (lt_of_block hg) (by omega) hn (Nat.le_trans hs (by omega))).mono ?_
    · have := World.ownsRow.cells hh (g := g) rfl j _ (strC_get l j x hx)
      rw [Nat.zero_add]
      rwa [addr_add0] at this
    · rintro e w' ⟨rfl, hbw⟩
      exact ⟨rfl, hbw⟩
def textR (F T : Nat → Int) (n : Nat) : ByteArray × Int := if chkS F T n = 0 then (spansT (spl F T n), 0) else (⟨#[]⟩, chkS F T n)
set_option maxHeartbeats 4000000 in
set_option maxRecDepth 100000 in
theorem spansText_any (a : Option Addr) (len cap : Nat) (F T : Nat → Int) (w : World) (hr : Rows2 w a len F T) (hg : TabP w) :
    Calls Tryz.prog 16 #[.slice a len cap] w fun e w' => e = .returned (.tuple #[.string (textR F T len).1, .int .i64 (textR F T len).2]) ∧ Below w.heap.size w w' := by
  have D1 := Lib.hid (checkSpans_any a len cap F T w hr)
  have HR := Lib.hid hr
  have HC := Lib.hid (fun (h : chkS F T len = 0) => (Sp.chkS_zero h).2.2)
  have hn1 : chkS F T len = 0 → len ≤ 1000 := fun h => (Sp.chkS_zero h).1
  have DI := Lib.hid (fun (n : Int) (h0 : 0 ≤ n) (h1 : n ≤ 1000000000000) (W : World) (hb : Below w.heap.size w W) => itoaP_any n (by omega) (by omega) W (hg.below hb))
  unfold textR
  obtain ⟨c, hc⟩ : ∃ c, chkS F T len = c := ⟨_, rfl⟩
  rw [hc] at D1 HC hn1 ⊢
  clear hr hc hg
  by_cases g : c = 0
  case neg =>
    rw [if_neg g]
    have b2 : (c != 0) = true := by simpa using g
    clear g
    go_enter Tryz.func16, Tryz.ntmps16
    go_wp2_with fail
    refine D1.out.mono ?_
    rintro e w1 ⟨rfl, hb1⟩
    go_wp2_with fail
    go_ret2
    exact ⟨rfl, hb1⟩
  case pos =>
  subst g
  rw [if_pos rfl]
  have hn := hn1 rfl
  have HF := Lib.hid (HC.out rfl)
  clear hn1 HC
  obtain ⟨i0, hi0, hy0, hy1, hy2⟩ := info_parts (show (Tryz.prog.info? 9).map (fun i => (i.zero, i.size, i.bytes)) = some (some (.string ⟨#[]⟩), 1, 16) by kernel_rfl)
  have HI := Lib.hid (And.intro hi0 (And.intro hy0 (And.intro hy1 hy2)))
  clear hi0 hy0 hy1 hy2
  obtain ⟨TT, hTT⟩ : ∃ TT, spansT (spl F T len) = TT := ⟨_, rfl⟩
  have HT := Lib.hid hTT
  rw [hTT]
  clear hTT
  go_enter Tryz.func16, Tryz.ntmps16
  go_wp2_with fail
  refine D1.out.mono ?_
  rintro e w1 ⟨rfl, hb1⟩
  have HB1 := Lib.hid hb1
  have HR1 := Lib.hid (HR.out.below hb1 (Nat.le_refl _))
  have hsz1 := HB1.out.size
  clear hb1 D1 HR
  go_wp2_with fail
  go_loopw [5, 16] (fun v iv wr => ∃ (i : Nat) (L : List ByteArray), iv = .int .i64 i ∧ i ≤ len ∧ L.length = i ∧ Hid (Below w1.heap.size w1 wr) ∧ Hid (StrOwn wr w1.heap.size v L) ∧ Hid (L = (spl F T i).map spanT)) (fun _ iv _ => len - (intOf iv).toNat)
  case atStart => exact ⟨0, [], rfl, by omega, rfl, Lib.hid (Below.refl _ _), Lib.hid (StrOwn.nil _ _), Lib.hid rfl⟩
  case round =>
    obtain ⟨i, L, rfl, hi, hL, HB, HO, HE⟩ := hrel
    have hsz := HB.out.size
    by_cases hlt : i < len
    case neg =>
      have t1 : decide ((i : Int) < (len : Int)) = false := by rw [decide_eq_false_iff_not]; omega
      have t1' : decide (i < len) = false := by simpa using hlt
      have hin : i = len := by omega
      have HJ := Lib.hid (joinS_any L u5 w1.heap.size wr HO.out (by omega) (by
        have e : bt (Go.Lib.join (L.map sB) [44]) = spansT (spl F T len) := by rw [HE.out, hin]; rfl
        have h2 := Rd.spansT_size (spl F T len) 43 (fun x hx => by
          obtain ⟨j, hj, rfl⟩ := Sp.spl_mem hx
          have := HF.out j hj
          exact Rd.spanT_size (by simp only; omega) (by simp only; omega) (by simp only; omega) (by simp only; omega))
        rw [Sp.spl_len] at h2
        have e3 : (Go.Lib.join (L.map sB) [44]).length = (bt (Go.Lib.join (L.map sB) [44])).size := by rw [Rd.size_sB, Rd.sB_bt]
        rw [e3, e]
        have := Nat.mul_le_mul_right 44 hn
        omega))
      have e : bt (Go.Lib.join (L.map sB) [44]) = TT := by rw [HE.out, hin, ← HT.out]; rfl
      rw [e] at HJ
      clear hlt hin e
      go_wp2_with fail
      refine HJ.out.mono ?_
      rintro e w4 ⟨rfl, hb4⟩
      go_wp2_with fail
      go_ret2
      exact ⟨rfl, HB1.out.trans ((below_step HB.out hb4).mono hsz1)⟩
    case pos =>
    have t1 : decide ((i : Int) < (len : Int)) = true := by rw [decide_eq_true_eq]; omega
    have t1' : decide (i < len) = true := by simpa using hlt
    obtain ⟨b, off, rfl, hbl, hc⟩ := (HR1.out.below HB.out (Nat.le_refl _)).here (by omega)
    obtain ⟨p0, p1⟩ := hc i hlt
    obtain ⟨⟨f0, f1⟩, ⟨g0, g1⟩, _, _⟩ := HF.out i hlt
    have HE2 := Lib.hid (show (spl F T (i + 1)).map spanT = L ++ [spanT (F i, T i)] by rw [Sp.spl_succ, List.map_append, ← HE.out]; rfl)
    obtain ⟨f, hf⟩ : ∃ x, F i = x := ⟨_, rfl⟩
    obtain ⟨t, ht⟩ : ∃ x, T i = x := ⟨_, rfl⟩
    rw [hf] at p0 f0 f1 HE2
    rw [ht] at p1 g0 g1 HE2
    have DF := DI.out f f0 f1
    have DT := DI.out t g0 g1
    have zf := Rd.itoaB_size (n := f) (by omega) (by omega)
    have zt := Rd.itoaB_size (n := t) (by omega) (by omega)
    have HSP := Lib.hid (show spanT (f, t) = if f < t then itoaB f ++ (minusB ++ itoaB t) else itoaB f from rfl)
    generalize spanT (f, t) = st at HE2 HSP
    generalize itoaB f = sf at DF HSP zf
    generalize itoaB t = stt at DT HSP zt
    have z1 : ((⟨#[45]⟩ : ByteArray) ++ stt).size = 1 + stt.size := ByteArray.size_append
    have DF := Lib.hid DF
    have DT := Lib.hid DT
    clear hc hf ht HE
    go_upto_region 8 with fail
    obtain ⟨V, hV, hbV, hsV, hcV⟩ := alloc_cells wr #[.int .i64 f, .int .i64 t] 35
    rw [hV]
    have m0 := hcV 0 _ rfl
    have m1 := hcV 1 _ rfl
    have HBV := Lib.hid (below_step HB.out hbV)
    have HOV := Lib.hid (HO.out.below hbV)
    obtain ⟨qb, hqb⟩ : ∃ q, wr.heap.size = q := ⟨_, rfl⟩
    rw [hqb] at m0 m1 ⊢
    clear hV hbV hsV hcV p0 p1 HB HO hqb
    go_wp2_with fail
    refine (DF.out V (HB1.out.trans (HBV.out.mono hsz1))).mono ?_
    rintro e w2 ⟨rfl, hb2⟩
    have m0 := below_cell hb2 m0
    have m1 := below_cell hb2 m1
    have HBW := Lib.hid (below_step HBV.out hb2)
    have HOW := Lib.hid (HOV.out.below hb2)
    clear hb2 HBV HOV
    by_cases hft : f < t
    case pos =>
      have u2 : decide (f < t) = true := by simpa using hft
      have HSP2 : Hid (st = sf ++ ((⟨#[45]⟩ : ByteArray) ++ stt)) := Lib.hid (by rw [HSP.out, if_pos hft]; rfl)
      clear hft HSP
      go_upto_region 10 with fail
      go_wp2_with fail
      refine (DT.out w2 (HB1.out.trans (HBW.out.mono hsz1))).mono ?_
      rintro e w5 ⟨rfl, hb2⟩
      have HBW := Lib.hid (below_step HBW.out hb2)
      have HOW := Lib.hid (HOW.out.below hb2)
      clear hb2 m0 m1
      have hsW := HBW.out.size
      obtain ⟨j1, j2, j3, j4⟩ := HI.out
      have ho := HOW.out
      go_wp2_with (first
        | (at_builtin; go_loud (
           refine wpList_append_own _ rfl _ _ 50 rfl w1.heap.size 9 i0 (.string ⟨#[]⟩) 1 16 Tryz.underlying50 j1 j2 j3 j4 rfl (by decide) u5 L.length (L.flatMap strC) rfl (ho.below (below_al w5 _)) ⟨w5.heap.size, 0, none⟩ 1 1 [.string (sf ++ ((⟨#[45]⟩ : ByteArray) ++ stt))] rfl rfl (fun j u hj => by rw [addr_add0]; exact cell_new j u (by simpa using hj)) (fun u hu => by simp only [List.mem_cons, List.not_mem_nil, or_false] at hu; rcases hu with rfl; rfl) (by unfold maxLen; omega) (by omega) (by simp; omega) ?_
           intro v' w3 hown' hgrow _
           have HO3 := Lib.hid (StrOwn.snoc (l := L) (x := (sf ++ ((⟨#[45]⟩ : ByteArray) ++ stt))) hown')
           have HB3 := Lib.hid ((HBW.out.alloc hsW _).grown hgrow (by simp; omega) (fun b hb => by have := ho.lt b hb; omega))
           clear hown' hgrow))
        | fail)
      go_roundw
      case rel => exact ⟨i + 1, L ++ [(sf ++ ((⟨#[45]⟩ : ByteArray) ++ stt))], by go_num, by omega, by simp; omega, HB3, HO3, Lib.hid (by rw [HE2.out, HSP2.out])⟩
      case measure => simp [intOf]; omega
    case neg =>
      have u2 : decide (f < t) = false := by simpa using hft
      have HSP2 : Hid (st = sf) := Lib.hid (by rw [HSP.out, if_neg hft])
      clear hft HSP
      have hsW := HBW.out.size
      obtain ⟨j1, j2, j3, j4⟩ := HI.out
      have ho := HOW.out
      go_wp2_with (first
        | (at_builtin; go_loud (
           refine wpList_append_own _ rfl _ _ 50 rfl w1.heap.size 9 i0 (.string ⟨#[]⟩) 1 16 Tryz.underlying50 j1 j2 j3 j4 rfl (by decide) u5 L.length (L.flatMap strC) rfl (ho.below (below_al w2 _)) ⟨w2.heap.size, 0, none⟩ 1 1 [.string sf] rfl rfl (fun j u hj => by rw [addr_add0]; exact cell_new j u (by simpa using hj)) (fun u hu => by simp only [List.mem_cons, List.not_mem_nil, or_false] at hu; rcases hu with rfl; rfl) (by unfold maxLen; omega) (by omega) (by simp; omega) ?_
           intro v' w3 hown' hgrow _
           have HO3 := Lib.hid (StrOwn.snoc (l := L) (x := sf) hown')
           have HB3 := Lib.hid ((HBW.out.alloc hsW _).grown hgrow (by simp; omega) (fun b hb => by have := ho.lt b hb; omega))
           clear hown' hgrow))
        | fail)
      go_roundw
      case rel => exact ⟨i + 1, L ++ [sf], by go_num, by omega, by simp; omega, HB3, HO3, Lib.hid (by rw [HE2.out, HSP2.out])⟩
      case measure => simp [intOf]; omega
set_option maxHeartbeats 4000000 in
set_option maxRecDepth 100000 in
theorem rspansText_any (a : Option Addr) (len cap : Nat) (F T : Nat → Int) (w : World) (hr : Rows2 w a len F T) (hg : TabP w) :
    Calls Tryz.prog 17 #[.slice a len cap] w fun e w' => e = .returned (.tuple #[.string (textR F T len).1, .int .i64 (textR F T len).2]) ∧ Below w.heap.size w w' := by
  have D1 := Lib.hid (rcheckSpans_any a len cap F T w hr)
  have HR := Lib.hid hr
  have HC := Lib.hid (fun (h : chkS F T len = 0) => (Sp.chkS_zero h).2.2)
  have hn1 : chkS F T len = 0 → len ≤ 1000 := fun h => (Sp.chkS_zero h).1
  have DI := Lib.hid (fun (n : Int) (h0 : 0 ≤ n) (h1 : n ≤ 1000000000000) (W : World) (hb : Below w.heap.size w W) => itoaP_any n (by omega) (by omega) W (hg.below hb))
  unfold textR
  obtain ⟨c, hc⟩ : ∃ c, chkS F T len = c := ⟨_, rfl⟩
  rw [hc] at D1 HC hn1 ⊢
  clear hr hc hg
  by_cases g : c = 0
  case neg =>
    rw [if_neg g]
    have b2 : (c != 0) = true := by simpa using g
    clear g
    go_enter Tryz.func17, Tryz.ntmps17
    go_wp2_with fail
    refine D1.out.mono ?_
    rintro e w1 ⟨rfl, hb1⟩
    go_wp2_with fail
    go_ret2
    exact ⟨rfl, hb1⟩
  case pos =>
  subst g
  rw [if_pos rfl]
  have hn := hn1 rfl
  have HF := Lib.hid (HC.out rfl)
  clear hn1 HC
  obtain ⟨i0, hi0, hy0, hy1, hy2⟩ := info_parts (show (Tryz.prog.info? 9).map (fun i => (i.zero, i.size, i.bytes)) = some (some (.string ⟨#[]⟩), 1, 16) by kernel_rfl)
  have HI := Lib.hid (And.intro hi0 (And.intro hy0 (And.intro hy1 hy2)))
  clear hi0 hy0 hy1 hy2
  obtain ⟨TT, hTT⟩ : ∃ TT, spansT (spl F T len) = TT := ⟨_, rfl⟩
  have HT := Lib.hid hTT
  rw [hTT]
  clear hTT
  go_enter Tryz.func17, Tryz.ntmps17
  go_wp2_with fail
  refine D1.out.mono ?_
  rintro e w1 ⟨rfl, hb1⟩
  have HB1 := Lib.hid hb1
  have HR1 := Lib.hid (HR.out.below hb1 (Nat.le_refl _))
  have hsz1 := HB1.out.size
  clear hb1 D1 HR
  go_wp2_with fail
  go_loopw [5, 15] (fun v iv wr => ∃ (i : Nat) (S : ByteArray), iv = .int .i64 i ∧ v = .string S ∧ i ≤ len ∧ S.size ≤ 44 * i ∧ Hid (Below w1.heap.size w1 wr) ∧ Hid (S = spansT (spl F T i))) (fun _ iv _ => len - (intOf iv).toNat)
  case atStart => exact ⟨0, ⟨#[]⟩, rfl, rfl, by omega, Nat.le_refl _, Lib.hid (Below.refl _ _), Lib.hid rfl⟩
  case round =>
    obtain ⟨i, S, rfl, rfl, hi, zS, HB, HE⟩ := hrel
    have hsz := HB.out.size
    by_cases hlt : i < len
    case neg =>
      have t1 : decide ((i : Int) < (len : Int)) = false := by rw [decide_eq_false_iff_not]; omega
      have t1' : decide (i < len) = false := by simpa using hlt
      have hin : i = len := by omega
      have e : S = TT := by rw [HE.out, hin, ← HT.out]
      subst e
      clear hlt hin
      go_wp2_with fail
      go_ret2
      exact ⟨rfl, HB1.out.trans (HB.out.mono hsz1)⟩
    case pos =>
    have t1 : decide ((i : Int) < (len : Int)) = true := by rw [decide_eq_true_eq]; omega
    have t1' : decide (i < len) = true := by simpa using hlt
    obtain ⟨b, off, rfl, hbl, hc⟩ := (HR1.out.below HB.out (Nat.le_refl _)).here (by omega)
    obtain ⟨p0, p1⟩ := hc i hlt
    obtain ⟨⟨f0, f1⟩, ⟨g0, g1⟩, _, _⟩ := HF.out i hlt
    have HE2 := Lib.hid (show spansT (spl F T (i + 1)) = (if i = 0 then S else S ++ commaB) ++ spanT (F i, T i) by
      rw [Sp.spl_succ, Rd.spansT_snoc, ← HE.out]
      congr 1
      by_cases h0 : i = 0
      · subst h0; rfl
      · have h1 : spl F T i ≠ [] := fun e => h0 (by have := congrArg List.length e; rwa [Sp.spl_len] at this)
        rw [if_neg h0, if_neg h1])
    obtain ⟨f, hf⟩ : ∃ x, F i = x := ⟨_, rfl⟩
    obtain ⟨t, ht⟩ : ∃ x, T i = x := ⟨_, rfl⟩
    rw [hf] at p0 f0 f1 HE2
    rw [ht] at p1 g0 g1 HE2
    have DF := DI.out f f0 f1
    have DT := DI.out t g0 g1
    have zf := Rd.itoaB_size (n := f) (by omega) (by omega)
    have zt := Rd.itoaB_size (n := t) (by omega) (by omega)
    have HSP := Lib.hid (show spanT (f, t) = if f < t then itoaB f ++ (minusB ++ itoaB t) else itoaB f from rfl)
    generalize spanT (f, t) = st at HE2 HSP
    generalize itoaB f = sf at DF HSP zf
    generalize itoaB t = stt at DT HSP zt
    have z1 : ((⟨#[45]⟩ : ByteArray) ++ stt).size = 1 + stt.size := ByteArray.size_append
    have DF := Lib.hid DF
    have DT := Lib.hid DT
    clear hc hf ht HE
    go_upto_region 8 with fail
    obtain ⟨V, hV, hbV, hsV, hcV⟩ := alloc_cells wr #[.int .i64 f, .int .i64 t] 35
    rw [hV]
    have m0 := hcV 0 _ rfl
    have m1 := hcV 1 _ rfl
    have HBV := Lib.hid (below_step HB.out hbV)
    obtain ⟨qb, hqb⟩ : ∃ q, wr.heap.size = q := ⟨_, rfl⟩
    rw [hqb] at m0 m1 ⊢
    clear hV hbV hsV hcV p0 p1 HB hqb
    by_cases hi0 : i = 0
    case pos =>
      have s1 : decide ((0 : Int) < (i : Int)) = false := by rw [decide_eq_false_iff_not]; omega
      have s1' : decide (0 < i) = false := by rw [decide_eq_false_iff_not]; omega
      have HE3 := Lib.hid (show spansT (spl F T (i + 1)) = S ++ st by rw [HE2.out, if_pos hi0])
      clear HE2 hi0
      have z2 : (S ++ sf).size = S.size + sf.size := ByteArray.size_append
      have z5 : ((S ++ sf) ++ ((⟨#[45]⟩ : ByteArray) ++ stt)).size = (S ++ sf).size + (1 + stt.size) := by rw [ByteArray.size_append, z1]
      go_wp2_with fail
      refine (DF.out V (HB1.out.trans (HBV.out.mono hsz1))).mono ?_
      rintro e w2 ⟨rfl, hb2⟩
      have m0 := below_cell hb2 m0
      have m1 := below_cell hb2 m1
      have HBW := Lib.hid (below_step HBV.out hb2)
      clear hb2 HBV
      by_cases hft : f < t
      case pos =>
        have u2 : decide (f < t) = true := by simpa using hft
        have HSP2 : Hid (st = sf ++ ((⟨#[45]⟩ : ByteArray) ++ stt)) := Lib.hid (by rw [HSP.out, if_pos hft]; rfl)
        clear hft HSP
        go_wp2_with fail
        refine (DT.out w2 (HB1.out.trans (HBW.out.mono hsz1))).mono ?_
        rintro e w3 ⟨rfl, hb3⟩
        have HB3 := Lib.hid (below_step HBW.out hb3)
        clear hb3 m0 m1
        go_wp2_with fail
        go_roundw
        case rel => exact ⟨i + 1, _, by go_num, rfl, by omega, by omega, HB3, Lib.hid (by rw [HE3.out, HSP2.out, ByteArray.append_assoc])⟩
        case measure => simp [intOf]; omega
      case neg =>
        have u2 : decide (f < t) = false := by simpa using hft
        have HSP2 : Hid (st = sf) := Lib.hid (by rw [HSP.out, if_neg hft])
        clear hft HSP
        go_wp2_with fail
        go_roundw
        case rel => exact ⟨i + 1, _, by go_num, rfl, by omega, by omega, HBW, Lib.hid (by rw [HE3.out, HSP2.out])⟩
        case measure => simp [intOf]; omega
    case neg =>
      have s1 : decide ((0 : Int) < (i : Int)) = true := by rw [decide_eq_true_eq]; omega
      have s1' : decide (0 < i) = true := by rw [decide_eq_true_eq]; omega
      have HE3 := Lib.hid (show spansT (spl F T (i + 1)) = (S ++ (⟨#[44]⟩ : ByteArray)) ++ st by rw [HE2.out, if_neg hi0]; rfl)
      clear HE2 hi0
      have z2 : (S ++ (⟨#[44]⟩ : ByteArray)).size = S.size + 1 := ByteArray.size_append
      have z3 : ((S ++ (⟨#[44]⟩ : ByteArray)) ++ sf).size = S.size + 1 + sf.size := by rw [ByteArray.size_append, z2]
      have z5 : (((S ++ (⟨#[44]⟩ : ByteArray)) ++ sf) ++ ((⟨#[45]⟩ : ByteArray) ++ stt)).size = S.size + 1 + sf.size + (1 + stt.size) := by rw [ByteArray.size_append, z3, z1]
      go_wp2_with fail
      refine (DF.out V (HB1.out.trans (HBV.out.mono hsz1))).mono ?_
      rintro e w2 ⟨rfl, hb2⟩
      have m0 := below_cell hb2 m0
      have m1 := below_cell hb2 m1
      have HBW := Lib.hid (below_step HBV.out hb2)
      clear hb2 HBV
      by_cases hft : f < t
      case pos =>
        have u2 : decide (f < t) = true := by simpa using hft
        have HSP2 : Hid (st = sf ++ ((⟨#[45]⟩ : ByteArray) ++ stt)) := Lib.hid (by rw [HSP.out, if_pos hft]; rfl)
        clear hft HSP
        go_wp2_with fail
        refine (DT.out w2 (HB1.out.trans (HBW.out.mono hsz1))).mono ?_
        rintro e w3 ⟨rfl, hb3⟩
        have HB3 := Lib.hid (below_step HBW.out hb3)
        clear hb3 m0 m1
        go_wp2_with fail
        go_roundw
        case rel => exact ⟨i + 1, _, by go_num, rfl, by omega, by omega, HB3, Lib.hid (by rw [HE3.out, HSP2.out, ByteArray.append_assoc])⟩
        case measure => simp [intOf]; omega
      case neg =>
        have u2 : decide (f < t) = false := by simpa using hft
        have HSP2 : Hid (st = sf) := Lib.hid (by rw [HSP.out, if_neg hft])
        clear hft HSP
        go_wp2_with fail
        go_roundw
        case rel => exact ⟨i + 1, _, by go_num, rfl, by omega, by omega, HBW, Lib.hid (by rw [HE3.out, HSP2.out])⟩
        case measure => simp [intOf]; omega
end Go.Proofs.YtaghhndcimjjgaaGreatDoor

/- Gear: a garage as data, and what Check returns, in plain functions. -/
namespace Go.Proofs.YtaghhndcimjjgaaGreatDoor
open Go

def nameC (x : Int) : Bool := (decide (97 ≤ x) && decide (x ≤ 122)) || (decide (65 ≤ x) && decide (x ≤ 90)) || (decide (48 ≤ x) && decide (x ≤ 57)) || decide (x = 45) || decide (x = 95) || decide (x = 46)
def nameB (s : ByteArray) : Bool := decide (1 ≤ s.size) && decide (s.size ≤ 60) && s.data.toList.all fun c => nameC c.toNat
/-- a stands before b -/
def strLt (a b : ByteArray) : Bool := Op.bytesLess a.toList b.toList
structure Gar where
  np : Nat
  ns : Nat
  nm : Nat
  nu : Nat
  pn : Nat → ByteArray
  pc : Nat → Int
  sn : Nat → ByteArray
  sr : Nat → ByteArray
  ms : Nat → ByteArray
  mp : Nat → ByteArray
  mf : Nat → Int
  mt : Nat → Int
  un : Nat → ByteArray
  ur : Nat → ByteArray
  uf : Nat → Int
  us : Nat → Int
  uw : Nat → Int
namespace Gar
def momG (n : Int) : Bool := decide (0 ≤ n) && decide (n ≤ 86399999999)
def endG (t : Int) : Int := if t < 0 then 4611686018427387904 else t
/-- the look at the parts from the k-th on -/
def chkP (g : Gar) : Nat → Nat → Int
  | 0, _ => 0
  | n + 1, k => if nameB (g.pn k) = false then 8 else if 0 < k ∧ strLt (g.pn (k - 1)) (g.pn k) = false then 10 else if g.pc k < 0 ∨ 1000000000 < g.pc k then 9 else chkP g n (k + 1)
def chkS (g : Gar) : Nat → Nat → Int
  | 0, _ => 0
  | n + 1, k => if nameB (g.sn k) = false then 8 else if 0 < k ∧ strLt (g.sn (k - 1)) (g.sn k) = false then 10 else if nameB (g.sr k) = false then 8 else chkS g n (k + 1)
def hasS (g : Gar) (s : ByteArray) : Bool := (List.range g.ns).any fun i => decide (g.sn i = s)
def hasP (g : Gar) (s : ByteArray) : Bool := (List.range g.np).any fun i => decide (g.pn i = s)
/-- does mount i stand before mount k? -/
def befM (g : Gar) (i k : Nat) : Bool := decide (g.mf i < g.mf k) || (decide (g.mf i = g.mf k) && strLt (g.ms i) (g.ms k))
def chkM (g : Gar) : Nat → Nat → Int
  | 0, _ => 0
  | n + 1, k => if (hasS g (g.ms k) && hasP g (g.mp k)) = false then 4
    else if (momG (g.mf k) && (decide (g.mt k = -1) || momG (g.mt k))) = false then 9
    else if (g.mt k ≠ -1 ∧ g.mt k ≤ g.mf k) ∨ (0 < k ∧ befM g (k - 1) k = false) then 10 else chkM g n (k + 1)
/-- two mounts overlap -/
def overB (g : Gar) (i k : Nat) : Bool := (decide (g.ms i = g.ms k) || decide (g.mp i = g.mp k)) && decide (max (g.mf i) (g.mf k) < min (endG (g.mt i)) (endG (g.mt k)))
def anyOver (g : Gar) : Bool := (List.range g.nm).any fun k => (List.range k).any fun i => overB g i k
def befU (g : Gar) (i k : Nat) : Bool := decide (g.uf i < g.uf k) || (decide (g.uf i = g.uf k) && strLt (g.un i) (g.un k))
/-- a use beside others; tw: one has its name -/
def chkUse (n r : ByteArray) (tw : Bool) (f s x : Int) : Int :=
  if (nameB n && nameB r) = false then 8 else if tw = true then 5 else if (momG f && decide (1 ≤ s) && decide (s ≤ 1000000) && decide (0 ≤ x) && decide (x ≤ 1000000000)) = false then 9 else 0
def chkU (g : Gar) : Nat → Nat → Int
  | 0, _ => 0
  | n + 1, k => if chkUse (g.un k) (g.ur k) ((List.range k).any fun i => decide (g.un i = g.un k)) (g.uf k) (g.us k) (g.uw k) ≠ 0 then chkUse (g.un k) (g.ur k) ((List.range k).any fun i => decide (g.un i = g.un k)) (g.uf k) (g.us k) (g.uw k)
    else if 0 < k ∧ befU g (k - 1) k = false then 10 else chkU g n (k + 1)
def chk (g : Gar) : Int :=
  if 500 < g.np ∨ 100 < g.ns ∨ 2000 < g.nm ∨ 5000 < g.nu then 3
  else if chkP g g.np 0 ≠ 0 then chkP g g.np 0
  else if chkS g g.ns 0 ≠ 0 then chkS g g.ns 0
  else if chkM g g.nm 0 ≠ 0 then chkM g g.nm 0
  else if anyOver g = true then 11
  else chkU g g.nu 0
end Gar
end Go.Proofs.YtaghhndcimjjgaaGreatDoor

/- IsName of the program and of the reference (g/XNm, two names turned). -/
namespace Go.Proofs.YtaghhndcimjjgaaGreatDoor
open Go.RowKit

/-- the first k bytes can stand in a name -/
def allN (s : ByteArray) (k : Nat) : Bool := (s.data.toList.take k).all fun c => nameC c.toNat
theorem allN_step {s : ByteArray} {k : Nat} (hk : k < s.size) (h : allN s k = true) (hc : nameC (s[k].toNat : Int) = true) : allN s (k + 1) = true := by
  unfold allN at h ⊢
  rw [List.take_succ_eq_append_getElem (by simpa using hk), List.all_append, h, Bool.true_and]
  simpa [ByteArray.getElem_eq_getElem_data] using hc
theorem allN_bad {s : ByteArray} {k : Nat} (hk : k < s.size) (hc : nameC (s[k].toNat : Int) = false) : nameB s = false := by
  unfold nameB
  have h1 : (s.data.toList.all fun c => nameC c.toNat) = false := by
    rw [List.all_eq_false]
    exact ⟨s[k], by simp [ByteArray.getElem_eq_getElem_data], by rw [hc]; simp⟩
  rw [h1, Bool.and_false]
theorem nameB_of {s : ByteArray} (h : allN s s.size = true) : nameB s = (decide (1 ≤ s.size) && decide (s.size ≤ 60)) := by
  unfold nameB
  unfold allN at h
  rw [List.take_of_length_le (by simp)] at h
  rw [h, Bool.and_true]
def digB (x : Int) : Bool := decide (48 ≤ x) && decide (x ≤ 57)
theorem ndigit_any (x : Int) (w : World) : Calls Tryz.prog 37 #[.int .u8 x] w fun e w' => e = .returned (.bool (digB x)) ∧ w = w' := by
  cases h : decide (48 ≤ x)
  all_goals
    go_enter Tryz.func37, Tryz.ntmps37
    go_wp2
    go_ret
    exact ⟨ret_bool (by simp [digB, h]), rfl⟩
theorem nrdigit_any (x : Int) (w : World) : Calls Tryz.prog 38 #[.int .u8 x] w fun e w' => e = .returned (.bool (digB x)) ∧ w = w' := by
  cases h : decide (48 ≤ x)
  all_goals
    go_enter Tryz.func38, Tryz.ntmps38
    go_wp2
    go_ret
    exact ⟨ret_bool (by simp [digB, h]), rfl⟩

set_option maxHeartbeats 4000000 in
set_option maxRecDepth 100000 in
theorem isName_any (s : ByteArray) (w : World) (hs : s.size ≤ maxLen) :
    Calls Tryz.prog 21 #[.string s] w fun e w' => e = .returned (.bool (nameB s)) ∧ w = w' := by
  unfold maxLen at hs
  go_enter Tryz.func21, Tryz.ntmps21
  go_wp2_with fail
  go_loop [8] (fun iv => ∃ (k : Nat), iv = .int .i64 k ∧ k ≤ s.size ∧ Hid (allN s k = true)) (fun iv => s.size - (intOf iv).toNat)
  case atStart => exact ⟨0, rfl, by omega, Lib.hid rfl⟩
  case round =>
    obtain ⟨k, rfl, hk, HA⟩ := hrel
    by_cases hlt : k < s.size
    · have t3 : decide ((k : Int) < (s.size : Int)) = true := by rw [decide_eq_true_eq]; omega
      have t3' : decide (k < s.size) = true := by simpa using hlt
      have hub : (s[k].toNat : Int) ≤ 255 := by have := s[k].toNat_lt; omega
      have OKN := fun (h : Hid (nameC (s[k].toNat : Int) = true)) => Lib.hid (allN_step hlt HA.out h.out)
      have BADN := fun (h : Hid (nameC (s[k].toNat : Int) = false)) => allN_bad hlt h.out
      have OKN := Lib.hid OKN
      have BADN := Lib.hid BADN
      have hnn : 0 ≤ (s[k].toNat : Int) := Int.natCast_nonneg _
      obtain ⟨x, hx⟩ : ∃ x : Int, (s[k].toNat : Int) = x := ⟨_, rfl⟩
      rw [hx] at hub hnn OKN BADN
      have hways : (0 ≤ x ∧ x ≤ 44) ∨ (45 ≤ x ∧ x ≤ 45) ∨ (46 ≤ x ∧ x ≤ 46) ∨ (47 ≤ x ∧ x ≤ 47) ∨ (48 ≤ x ∧ x ≤ 57) ∨ (58 ≤ x ∧ x ≤ 64) ∨ (65 ≤ x ∧ x ≤ 90) ∨ (91 ≤ x ∧ x ≤ 94) ∨ (95 ≤ x ∧ x ≤ 95) ∨ (96 ≤ x ∧ x ≤ 96) ∨ (97 ≤ x ∧ x ≤ 122) ∨ (123 ≤ x ∧ x ≤ 255) := by omega
      rcases hways with hways | hways | hways | hways | hways | hways | hways | hways | hways | hways | hways | hways
      · have hx0 : 0 ≤ x := by omega
        have hx1 : x ≤ 44 := by omega
        have d1 : decide ((97 : Int) ≤ x) = false := by rw [decide_eq_false_iff_not]; omega
        have d2 : decide (x ≤ (122 : Int)) = true := by rw [decide_eq_true_eq]; omega
        have d3 : decide ((65 : Int) ≤ x) = false := by rw [decide_eq_false_iff_not]; omega
        have d4 : decide (x ≤ (90 : Int)) = true := by rw [decide_eq_true_eq]; omega
        have b0 : (x != (45 : Int)) = true := by rw [bne_iff_ne]; omega
        have b1 : (x != (95 : Int)) = true := by rw [bne_iff_ne]; omega
        have b2 : (x != (46 : Int)) = true := by rw [bne_iff_ne]; omega
        have hc : nameC x = false := by unfold nameC; simp; omega
        have HC := Lib.hid hc
        have HD := Lib.hid (ndigit_any x)
        rw [show digB x = false by unfold digB; simp; omega] at HD
        clear hc hx0 hx1 hways
        go_wp2_with fail
        refine (HD.out _).mono ?_
        rintro e w1 ⟨rfl, rfl⟩
        go_wp2_with fail
        go_ret
        exact ⟨ret_bool (BADN.out HC).symm, rfl⟩
      · have hx0 : 45 ≤ x := by omega
        have hx1 : x ≤ 45 := by omega
        have d1 : decide ((97 : Int) ≤ x) = false := by rw [decide_eq_false_iff_not]; omega
        have d2 : decide (x ≤ (122 : Int)) = true := by rw [decide_eq_true_eq]; omega
        have d3 : decide ((65 : Int) ≤ x) = false := by rw [decide_eq_false_iff_not]; omega
        have d4 : decide (x ≤ (90 : Int)) = true := by rw [decide_eq_true_eq]; omega
        have b0 : (x != (45 : Int)) = false := by rw [show x = 45 by omega]; rfl
        have b1 : (x != (95 : Int)) = true := by rw [bne_iff_ne]; omega
        have b2 : (x != (46 : Int)) = true := by rw [bne_iff_ne]; omega
        have hc : nameC x = true := by unfold nameC; simp; omega
        have HC := Lib.hid hc
        have HD := Lib.hid (ndigit_any x)
        rw [show digB x = false by unfold digB; simp; omega] at HD
        clear hc hx0 hx1 hways
        go_wp2_with fail
        refine (HD.out _).mono ?_
        rintro e w1 ⟨rfl, rfl⟩
        go_wp2_with fail
        go_round
        case rel => exact ⟨k + 1, by go_num, by omega, OKN.out HC⟩
        case measure => simp [intOf]; omega
      · have hx0 : 46 ≤ x := by omega
        have hx1 : x ≤ 46 := by omega
        have d1 : decide ((97 : Int) ≤ x) = false := by rw [decide_eq_false_iff_not]; omega
        have d2 : decide (x ≤ (122 : Int)) = true := by rw [decide_eq_true_eq]; omega
        have d3 : decide ((65 : Int) ≤ x) = false := by rw [decide_eq_false_iff_not]; omega
        have d4 : decide (x ≤ (90 : Int)) = true := by rw [decide_eq_true_eq]; omega
        have b0 : (x != (45 : Int)) = true := by rw [bne_iff_ne]; omega
        have b1 : (x != (95 : Int)) = true := by rw [bne_iff_ne]; omega
        have b2 : (x != (46 : Int)) = false := by rw [show x = 46 by omega]; rfl
        have hc : nameC x = true := by unfold nameC; simp; omega
        have HC := Lib.hid hc
        have HD := Lib.hid (ndigit_any x)
        rw [show digB x = false by unfold digB; simp; omega] at HD
        clear hc hx0 hx1 hways
        go_wp2_with fail
        refine (HD.out _).mono ?_
        rintro e w1 ⟨rfl, rfl⟩
        go_wp2_with fail
        go_round
        case rel => exact ⟨k + 1, by go_num, by omega, OKN.out HC⟩
        case measure => simp [intOf]; omega
      · have hx0 : 47 ≤ x := by omega
        have hx1 : x ≤ 47 := by omega
        have d1 : decide ((97 : Int) ≤ x) = false := by rw [decide_eq_false_iff_not]; omega
        have d2 : decide (x ≤ (122 : Int)) = true := by rw [decide_eq_true_eq]; omega
        have d3 : decide ((65 : Int) ≤ x) = false := by rw [decide_eq_false_iff_not]; omega
        have d4 : decide (x ≤ (90 : Int)) = true := by rw [decide_eq_true_eq]; omega
        have b0 : (x != (45 : Int)) = true := by rw [bne_iff_ne]; omega
        have b1 : (x != (95 : Int)) = true := by rw [bne_iff_ne]; omega
        have b2 : (x != (46 : Int)) = true := by rw [bne_iff_ne]; omega
        have hc : nameC x = false := by unfold nameC; simp; omega
        have HC := Lib.hid hc
        have HD := Lib.hid (ndigit_any x)
        rw [show digB x = false by unfold digB; simp; omega] at HD
        clear hc hx0 hx1 hways
        go_wp2_with fail
        refine (HD.out _).mono ?_
        rintro e w1 ⟨rfl, rfl⟩
        go_wp2_with fail
        go_ret
        exact ⟨ret_bool (BADN.out HC).symm, rfl⟩
      · have hx0 : 48 ≤ x := by omega
        have hx1 : x ≤ 57 := by omega
        have d1 : decide ((97 : Int) ≤ x) = false := by rw [decide_eq_false_iff_not]; omega
        have d2 : decide (x ≤ (122 : Int)) = true := by rw [decide_eq_true_eq]; omega
        have d3 : decide ((65 : Int) ≤ x) = false := by rw [decide_eq_false_iff_not]; omega
        have d4 : decide (x ≤ (90 : Int)) = true := by rw [decide_eq_true_eq]; omega
        have b0 : (x != (45 : Int)) = true := by rw [bne_iff_ne]; omega
        have b1 : (x != (95 : Int)) = true := by rw [bne_iff_ne]; omega
        have b2 : (x != (46 : Int)) = true := by rw [bne_iff_ne]; omega
        have hc : nameC x = true := by unfold nameC; simp; omega
        have HC := Lib.hid hc
        have HD := Lib.hid (ndigit_any x)
        rw [show digB x = true by unfold digB; simp; omega] at HD
        clear hc hx0 hx1 hways
        go_wp2_with fail
        refine (HD.out _).mono ?_
        rintro e w1 ⟨rfl, rfl⟩
        go_wp2_with fail
        go_round
        case rel => exact ⟨k + 1, by go_num, by omega, OKN.out HC⟩
        case measure => simp [intOf]; omega
      · have hx0 : 58 ≤ x := by omega
        have hx1 : x ≤ 64 := by omega
        have d1 : decide ((97 : Int) ≤ x) = false := by rw [decide_eq_false_iff_not]; omega
        have d2 : decide (x ≤ (122 : Int)) = true := by rw [decide_eq_true_eq]; omega
        have d3 : decide ((65 : Int) ≤ x) = false := by rw [decide_eq_false_iff_not]; omega
        have d4 : decide (x ≤ (90 : Int)) = true := by rw [decide_eq_true_eq]; omega
        have b0 : (x != (45 : Int)) = true := by rw [bne_iff_ne]; omega
        have b1 : (x != (95 : Int)) = true := by rw [bne_iff_ne]; omega
        have b2 : (x != (46 : Int)) = true := by rw [bne_iff_ne]; omega
        have hc : nameC x = false := by unfold nameC; simp; omega
        have HC := Lib.hid hc
        have HD := Lib.hid (ndigit_any x)
        rw [show digB x = false by unfold digB; simp; omega] at HD
        clear hc hx0 hx1 hways
        go_wp2_with fail
        refine (HD.out _).mono ?_
        rintro e w1 ⟨rfl, rfl⟩
        go_wp2_with fail
        go_ret
        exact ⟨ret_bool (BADN.out HC).symm, rfl⟩
      · have hx0 : 65 ≤ x := by omega
        have hx1 : x ≤ 90 := by omega
        have d1 : decide ((97 : Int) ≤ x) = false := by rw [decide_eq_false_iff_not]; omega
        have d2 : decide (x ≤ (122 : Int)) = true := by rw [decide_eq_true_eq]; omega
        have d3 : decide ((65 : Int) ≤ x) = true := by rw [decide_eq_true_eq]; omega
        have d4 : decide (x ≤ (90 : Int)) = true := by rw [decide_eq_true_eq]; omega
        have b0 : (x != (45 : Int)) = true := by rw [bne_iff_ne]; omega
        have b1 : (x != (95 : Int)) = true := by rw [bne_iff_ne]; omega
        have b2 : (x != (46 : Int)) = true := by rw [bne_iff_ne]; omega
        have hc : nameC x = true := by unfold nameC; simp; omega
        have HC := Lib.hid hc
        have HD := Lib.hid (ndigit_any x)
        rw [show digB x = false by unfold digB; simp; omega] at HD
        clear hc hx0 hx1 hways
        go_wp2_with fail
        go_round
        case rel => exact ⟨k + 1, by go_num, by omega, OKN.out HC⟩
        case measure => simp [intOf]; omega
      · have hx0 : 91 ≤ x := by omega
        have hx1 : x ≤ 94 := by omega
        have d1 : decide ((97 : Int) ≤ x) = false := by rw [decide_eq_false_iff_not]; omega
        have d2 : decide (x ≤ (122 : Int)) = true := by rw [decide_eq_true_eq]; omega
        have d3 : decide ((65 : Int) ≤ x) = true := by rw [decide_eq_true_eq]; omega
        have d4 : decide (x ≤ (90 : Int)) = false := by rw [decide_eq_false_iff_not]; omega
        have b0 : (x != (45 : Int)) = true := by rw [bne_iff_ne]; omega
        have b1 : (x != (95 : Int)) = true := by rw [bne_iff_ne]; omega
        have b2 : (x != (46 : Int)) = true := by rw [bne_iff_ne]; omega
        have hc : nameC x = false := by unfold nameC; simp; omega
        have HC := Lib.hid hc
        have HD := Lib.hid (ndigit_any x)
        rw [show digB x = false by unfold digB; simp; omega] at HD
        clear hc hx0 hx1 hways
        go_wp2_with fail
        refine (HD.out _).mono ?_
        rintro e w1 ⟨rfl, rfl⟩
        go_wp2_with fail
        go_ret
        exact ⟨ret_bool (BADN.out HC).symm, rfl⟩
      · have hx0 : 95 ≤ x := by omega
        have hx1 : x ≤ 95 := by omega
        have d1 : decide ((97 : Int) ≤ x) = false := by rw [decide_eq_false_iff_not]; omega
        have d2 : decide (x ≤ (122 : Int)) = true := by rw [decide_eq_true_eq]; omega
        have d3 : decide ((65 : Int) ≤ x) = true := by rw [decide_eq_true_eq]; omega
        have d4 : decide (x ≤ (90 : Int)) = false := by rw [decide_eq_false_iff_not]; omega
        have b0 : (x != (45 : Int)) = true := by rw [bne_iff_ne]; omega
        have b1 : (x != (95 : Int)) = false := by rw [show x = 95 by omega]; rfl
        have b2 : (x != (46 : Int)) = true := by rw [bne_iff_ne]; omega
        have hc : nameC x = true := by unfold nameC; simp; omega
        have HC := Lib.hid hc
        have HD := Lib.hid (ndigit_any x)
        rw [show digB x = false by unfold digB; simp; omega] at HD
        clear hc hx0 hx1 hways
        go_wp2_with fail
        refine (HD.out _).mono ?_
        rintro e w1 ⟨rfl, rfl⟩
        go_wp2_with fail
        go_round
        case rel => exact ⟨k + 1, by go_num, by omega, OKN.out HC⟩
        case measure => simp [intOf]; omega
      · have hx0 : 96 ≤ x := by omega
        have hx1 : x ≤ 96 := by omega
        have d1 : decide ((97 : Int) ≤ x) = false := by rw [decide_eq_false_iff_not]; omega
        have d2 : decide (x ≤ (122 : Int)) = true := by rw [decide_eq_true_eq]; omega
        have d3 : decide ((65 : Int) ≤ x) = true := by rw [decide_eq_true_eq]; omega
        have d4 : decide (x ≤ (90 : Int)) = false := by rw [decide_eq_false_iff_not]; omega
        have b0 : (x != (45 : Int)) = true := by rw [bne_iff_ne]; omega
        have b1 : (x != (95 : Int)) = true := by rw [bne_iff_ne]; omega
        have b2 : (x != (46 : Int)) = true := by rw [bne_iff_ne]; omega
        have hc : nameC x = false := by unfold nameC; simp; omega
        have HC := Lib.hid hc
        have HD := Lib.hid (ndigit_any x)
        rw [show digB x = false by unfold digB; simp; omega] at HD
        clear hc hx0 hx1 hways
        go_wp2_with fail
        refine (HD.out _).mono ?_
        rintro e w1 ⟨rfl, rfl⟩
        go_wp2_with fail
        go_ret
        exact ⟨ret_bool (BADN.out HC).symm, rfl⟩
      · have hx0 : 97 ≤ x := by omega
        have hx1 : x ≤ 122 := by omega
        have d1 : decide ((97 : Int) ≤ x) = true := by rw [decide_eq_true_eq]; omega
        have d2 : decide (x ≤ (122 : Int)) = true := by rw [decide_eq_true_eq]; omega
        have d3 : decide ((65 : Int) ≤ x) = true := by rw [decide_eq_true_eq]; omega
        have d4 : decide (x ≤ (90 : Int)) = false := by rw [decide_eq_false_iff_not]; omega
        have b0 : (x != (45 : Int)) = true := by rw [bne_iff_ne]; omega
        have b1 : (x != (95 : Int)) = true := by rw [bne_iff_ne]; omega
        have b2 : (x != (46 : Int)) = true := by rw [bne_iff_ne]; omega
        have hc : nameC x = true := by unfold nameC; simp; omega
        have HC := Lib.hid hc
        have HD := Lib.hid (ndigit_any x)
        rw [show digB x = false by unfold digB; simp; omega] at HD
        clear hc hx0 hx1 hways
        go_wp2_with fail
        go_round
        case rel => exact ⟨k + 1, by go_num, by omega, OKN.out HC⟩
        case measure => simp [intOf]; omega
      · have hx0 : 123 ≤ x := by omega
        have hx1 : x ≤ 255 := by omega
        have d1 : decide ((97 : Int) ≤ x) = true := by rw [decide_eq_true_eq]; omega
        have d2 : decide (x ≤ (122 : Int)) = false := by rw [decide_eq_false_iff_not]; omega
        have d3 : decide ((65 : Int) ≤ x) = true := by rw [decide_eq_true_eq]; omega
        have d4 : decide (x ≤ (90 : Int)) = false := by rw [decide_eq_false_iff_not]; omega
        have b0 : (x != (45 : Int)) = true := by rw [bne_iff_ne]; omega
        have b1 : (x != (95 : Int)) = true := by rw [bne_iff_ne]; omega
        have b2 : (x != (46 : Int)) = true := by rw [bne_iff_ne]; omega
        have hc : nameC x = false := by unfold nameC; simp; omega
        have HC := Lib.hid hc
        have HD := Lib.hid (ndigit_any x)
        rw [show digB x = false by unfold digB; simp; omega] at HD
        clear hc hx0 hx1 hways
        go_wp2_with fail
        refine (HD.out _).mono ?_
        rintro e w1 ⟨rfl, rfl⟩
        go_wp2_with fail
        go_ret
        exact ⟨ret_bool (BADN.out HC).symm, rfl⟩
    · have t3 : decide ((k : Int) < (s.size : Int)) = false := by rw [decide_eq_false_iff_not]; omega
      have t3' : decide (k < s.size) = false := by simpa using hlt
      obtain rfl : k = s.size := by omega
      have HE := Lib.hid (nameB_of HA.out)
      clear hlt hk
      by_cases h1 : 1 ≤ s.size
      · have t4 : decide ((1 : Int) ≤ (s.size : Int)) = true := by rw [decide_eq_true_eq]; omega
        have t4' : decide (1 ≤ s.size) = true := by simpa using h1
        rw [t4', Bool.true_and] at HE
        by_cases h6 : s.size ≤ 60
        · have t5 : decide ((s.size : Int) ≤ (60 : Int)) = true := by rw [decide_eq_true_eq]; omega
          have t5' : decide (s.size ≤ 60) = true := by simpa using h6
          rw [t5'] at HE
          go_wp2_with fail
          go_ret
          exact ⟨ret_bool HE.out.symm, rfl⟩
        · have t5 : decide ((s.size : Int) ≤ (60 : Int)) = false := by rw [decide_eq_false_iff_not]; omega
          have t5' : decide (s.size ≤ 60) = false := by simpa using h6
          rw [t5'] at HE
          go_wp2_with fail
          go_ret
          exact ⟨ret_bool HE.out.symm, rfl⟩
      · have t4 : decide ((1 : Int) ≤ (s.size : Int)) = false := by rw [decide_eq_false_iff_not]; omega
        have t4' : decide (1 ≤ s.size) = false := by simpa using h1
        rw [t4', Bool.false_and] at HE
        go_wp2_with fail
        go_ret
        exact ⟨ret_bool HE.out.symm, rfl⟩

set_option maxHeartbeats 4000000 in
set_option maxRecDepth 100000 in
theorem risName_any (s : ByteArray) (w : World) (hs : s.size ≤ maxLen) :
    Calls Tryz.prog 22 #[.string s] w fun e w' => e = .returned (.bool (nameB s)) ∧ w = w' := by
  unfold maxLen at hs
  by_cases hsz : 1 ≤ s.size ∧ s.size ≤ 60
  case neg =>
    have HN := Lib.hid (show nameB s = false by unfold nameB; rw [Bool.and_eq_false_iff, Bool.and_eq_false_iff, decide_eq_false_iff_not, decide_eq_false_iff_not]; omega)
    by_cases h1 : s.size < 1
    · have t1 : decide ((s.size : Int) < 1) = true := by rw [decide_eq_true_eq]; omega
      have t1' : decide (s.size < 1) = true := by simpa using h1
      clear hsz h1
      go_enter Tryz.func22, Tryz.ntmps22
      go_wp2_with fail
      go_ret
      exact ⟨ret_bool HN.out.symm, rfl⟩
    · have t1 : decide ((s.size : Int) < 1) = false := by rw [decide_eq_false_iff_not]; omega
      have t2 : decide ((60 : Int) < (s.size : Int)) = true := by rw [decide_eq_true_eq]; omega
      have t2' : decide (60 < s.size) = true := by rw [decide_eq_true_eq]; omega
      clear hsz h1
      go_enter Tryz.func22, Tryz.ntmps22
      go_wp2_with fail
      go_ret
      exact ⟨ret_bool HN.out.symm, rfl⟩
  obtain ⟨hsz1, hsz2⟩ := hsz
  have t1 : decide ((s.size : Int) < 1) = false := by rw [decide_eq_false_iff_not]; omega
  have t2 : decide ((60 : Int) < (s.size : Int)) = false := by rw [decide_eq_false_iff_not]; omega
  go_enter Tryz.func22, Tryz.ntmps22
  go_wp2_with fail
  go_loop [3] (fun iv => ∃ (k : Nat), iv = .int .i64 k ∧ k ≤ s.size ∧ Hid (allN s k = true)) (fun iv => s.size - (intOf iv).toNat)
  case atStart => exact ⟨0, rfl, by omega, Lib.hid rfl⟩
  case round =>
    obtain ⟨k, rfl, hk, HA⟩ := hrel
    by_cases hlt : k < s.size
    · have t3 : decide ((k : Int) < (s.size : Int)) = true := by rw [decide_eq_true_eq]; omega
      have t3' : decide (k < s.size) = true := by simpa using hlt
      have hub : (s[k].toNat : Int) ≤ 255 := by have := s[k].toNat_lt; omega
      have OKN := fun (h : Hid (nameC (s[k].toNat : Int) = true)) => Lib.hid (allN_step hlt HA.out h.out)
      have BADN := fun (h : Hid (nameC (s[k].toNat : Int) = false)) => allN_bad hlt h.out
      have OKN := Lib.hid OKN
      have BADN := Lib.hid BADN
      have hnn : 0 ≤ (s[k].toNat : Int) := Int.natCast_nonneg _
      obtain ⟨x, hx⟩ : ∃ x : Int, (s[k].toNat : Int) = x := ⟨_, rfl⟩
      rw [hx] at hub hnn OKN BADN
      have hways : (0 ≤ x ∧ x ≤ 44) ∨ (45 ≤ x ∧ x ≤ 45) ∨ (46 ≤ x ∧ x ≤ 46) ∨ (47 ≤ x ∧ x ≤ 47) ∨ (48 ≤ x ∧ x ≤ 57) ∨ (58 ≤ x ∧ x ≤ 64) ∨ (65 ≤ x ∧ x ≤ 90) ∨ (91 ≤ x ∧ x ≤ 94) ∨ (95 ≤ x ∧ x ≤ 95) ∨ (96 ≤ x ∧ x ≤ 96) ∨ (97 ≤ x ∧ x ≤ 122) ∨ (123 ≤ x ∧ x ≤ 255) := by omega
      rcases hways with hways | hways | hways | hways | hways | hways | hways | hways | hways | hways | hways | hways
      · have hx0 : 0 ≤ x := by omega
        have hx1 : x ≤ 44 := by omega
        have d1 : decide ((97 : Int) ≤ x) = false := by rw [decide_eq_false_iff_not]; omega
        have d2 : decide (x ≤ (122 : Int)) = true := by rw [decide_eq_true_eq]; omega
        have d3 : decide ((65 : Int) ≤ x) = false := by rw [decide_eq_false_iff_not]; omega
        have d4 : decide (x ≤ (90 : Int)) = true := by rw [decide_eq_true_eq]; omega
        have b0 : (x != (45 : Int)) = true := by rw [bne_iff_ne]; omega
        have b1 : (x != (95 : Int)) = true := by rw [bne_iff_ne]; omega
        have b2 : (x != (46 : Int)) = true := by rw [bne_iff_ne]; omega
        have hc : nameC x = false := by unfold nameC; simp; omega
        have HC := Lib.hid hc
        have HD := Lib.hid (nrdigit_any x)
        rw [show digB x = false by unfold digB; simp; omega] at HD
        clear hc hx0 hx1 hways
        go_wp2_with fail
        refine (HD.out _).mono ?_
        rintro e w1 ⟨rfl, rfl⟩
        go_wp2_with fail
        go_ret
        exact ⟨ret_bool (BADN.out HC).symm, rfl⟩
      · have hx0 : 45 ≤ x := by omega
        have hx1 : x ≤ 45 := by omega
        have d1 : decide ((97 : Int) ≤ x) = false := by rw [decide_eq_false_iff_not]; omega
        have d2 : decide (x ≤ (122 : Int)) = true := by rw [decide_eq_true_eq]; omega
        have d3 : decide ((65 : Int) ≤ x) = false := by rw [decide_eq_false_iff_not]; omega
        have d4 : decide (x ≤ (90 : Int)) = true := by rw [decide_eq_true_eq]; omega
        have b0 : (x != (45 : Int)) = false := by rw [show x = 45 by omega]; rfl
        have b1 : (x != (95 : Int)) = true := by rw [bne_iff_ne]; omega
        have b2 : (x != (46 : Int)) = true := by rw [bne_iff_ne]; omega
        have hc : nameC x = true := by unfold nameC; simp; omega
        have HC := Lib.hid hc
        have HD := Lib.hid (nrdigit_any x)
        rw [show digB x = false by unfold digB; simp; omega] at HD
        clear hc hx0 hx1 hways
        go_wp2_with fail
        refine (HD.out _).mono ?_
        rintro e w1 ⟨rfl, rfl⟩
        go_wp2_with fail
        go_round
        case rel => exact ⟨k + 1, by go_num, by omega, OKN.out HC⟩
        case measure => simp [intOf]; omega
      · have hx0 : 46 ≤ x := by omega
        have hx1 : x ≤ 46 := by omega
        have d1 : decide ((97 : Int) ≤ x) = false := by rw [decide_eq_false_iff_not]; omega
        have d2 : decide (x ≤ (122 : Int)) = true := by rw [decide_eq_true_eq]; omega
        have d3 : decide ((65 : Int) ≤ x) = false := by rw [decide_eq_false_iff_not]; omega
        have d4 : decide (x ≤ (90 : Int)) = true := by rw [decide_eq_true_eq]; omega
        have b0 : (x != (45 : Int)) = true := by rw [bne_iff_ne]; omega
        have b1 : (x != (95 : Int)) = true := by rw [bne_iff_ne]; omega
        have b2 : (x != (46 : Int)) = false := by rw [show x = 46 by omega]; rfl
        have hc : nameC x = true := by unfold nameC; simp; omega
        have HC := Lib.hid hc
        have HD := Lib.hid (nrdigit_any x)
        rw [show digB x = false by unfold digB; simp; omega] at HD
        clear hc hx0 hx1 hways
        go_wp2_with fail
        refine (HD.out _).mono ?_
        rintro e w1 ⟨rfl, rfl⟩
        go_wp2_with fail
        go_round
        case rel => exact ⟨k + 1, by go_num, by omega, OKN.out HC⟩
        case measure => simp [intOf]; omega
      · have hx0 : 47 ≤ x := by omega
        have hx1 : x ≤ 47 := by omega
        have d1 : decide ((97 : Int) ≤ x) = false := by rw [decide_eq_false_iff_not]; omega
        have d2 : decide (x ≤ (122 : Int)) = true := by rw [decide_eq_true_eq]; omega
        have d3 : decide ((65 : Int) ≤ x) = false := by rw [decide_eq_false_iff_not]; omega
        have d4 : decide (x ≤ (90 : Int)) = true := by rw [decide_eq_true_eq]; omega
        have b0 : (x != (45 : Int)) = true := by rw [bne_iff_ne]; omega
        have b1 : (x != (95 : Int)) = true := by rw [bne_iff_ne]; omega
        have b2 : (x != (46 : Int)) = true := by rw [bne_iff_ne]; omega
        have hc : nameC x = false := by unfold nameC; simp; omega
        have HC := Lib.hid hc
        have HD := Lib.hid (nrdigit_any x)
        rw [show digB x = false by unfold digB; simp; omega] at HD
        clear hc hx0 hx1 hways
        go_wp2_with fail
        refine (HD.out _).mono ?_
        rintro e w1 ⟨rfl, rfl⟩
        go_wp2_with fail
        go_ret
        exact ⟨ret_bool (BADN.out HC).symm, rfl⟩
      · have hx0 : 48 ≤ x := by omega
        have hx1 : x ≤ 57 := by omega
        have d1 : decide ((97 : Int) ≤ x) = false := by rw [decide_eq_false_iff_not]; omega
        have d2 : decide (x ≤ (122 : Int)) = true := by rw [decide_eq_true_eq]; omega
        have d3 : decide ((65 : Int) ≤ x) = false := by rw [decide_eq_false_iff_not]; omega
        have d4 : decide (x ≤ (90 : Int)) = true := by rw [decide_eq_true_eq]; omega
        have b0 : (x != (45 : Int)) = true := by rw [bne_iff_ne]; omega
        have b1 : (x != (95 : Int)) = true := by rw [bne_iff_ne]; omega
        have b2 : (x != (46 : Int)) = true := by rw [bne_iff_ne]; omega
        have hc : nameC x = true := by unfold nameC; simp; omega
        have HC := Lib.hid hc
        have HD := Lib.hid (nrdigit_any x)
        rw [show digB x = true by unfold digB; simp; omega] at HD
        clear hc hx0 hx1 hways
        go_wp2_with fail
        refine (HD.out _).mono ?_
        rintro e w1 ⟨rfl, rfl⟩
        go_wp2_with fail
        go_round
        case rel => exact ⟨k + 1, by go_num, by omega, OKN.out HC⟩
        case measure => simp [intOf]; omega
      · have hx0 : 58 ≤ x := by omega
        have hx1 : x ≤ 64 := by omega
        have d1 : decide ((97 : Int) ≤ x) = false := by rw [decide_eq_false_iff_not]; omega
        have d2 : decide (x ≤ (122 : Int)) = true := by rw [decide_eq_true_eq]; omega
        have d3 : decide ((65 : Int) ≤ x) = false := by rw [decide_eq_false_iff_not]; omega
        have d4 : decide (x ≤ (90 : Int)) = true := by rw [decide_eq_true_eq]; omega
        have b0 : (x != (45 : Int)) = true := by rw [bne_iff_ne]; omega
        have b1 : (x != (95 : Int)) = true := by rw [bne_iff_ne]; omega
        have b2 : (x != (46 : Int)) = true := by rw [bne_iff_ne]; omega
        have hc : nameC x = false := by unfold nameC; simp; omega
        have HC := Lib.hid hc
        have HD := Lib.hid (nrdigit_any x)
        rw [show digB x = false by unfold digB; simp; omega] at HD
        clear hc hx0 hx1 hways
        go_wp2_with fail
        refine (HD.out _).mono ?_
        rintro e w1 ⟨rfl, rfl⟩
        go_wp2_with fail
        go_ret
        exact ⟨ret_bool (BADN.out HC).symm, rfl⟩
      · have hx0 : 65 ≤ x := by omega
        have hx1 : x ≤ 90 := by omega
        have d1 : decide ((97 : Int) ≤ x) = false := by rw [decide_eq_false_iff_not]; omega
        have d2 : decide (x ≤ (122 : Int)) = true := by rw [decide_eq_true_eq]; omega
        have d3 : decide ((65 : Int) ≤ x) = true := by rw [decide_eq_true_eq]; omega
        have d4 : decide (x ≤ (90 : Int)) = true := by rw [decide_eq_true_eq]; omega
        have b0 : (x != (45 : Int)) = true := by rw [bne_iff_ne]; omega
        have b1 : (x != (95 : Int)) = true := by rw [bne_iff_ne]; omega
        have b2 : (x != (46 : Int)) = true := by rw [bne_iff_ne]; omega
        have hc : nameC x = true := by unfold nameC; simp; omega
        have HC := Lib.hid hc
        have HD := Lib.hid (nrdigit_any x)
        rw [show digB x = false by unfold digB; simp; omega] at HD
        clear hc hx0 hx1 hways
        go_wp2_with fail
        go_round
        case rel => exact ⟨k + 1, by go_num, by omega, OKN.out HC⟩
        case measure => simp [intOf]; omega
      · have hx0 : 91 ≤ x := by omega
        have hx1 : x ≤ 94 := by omega
        have d1 : decide ((97 : Int) ≤ x) = false := by rw [decide_eq_false_iff_not]; omega
        have d2 : decide (x ≤ (122 : Int)) = true := by rw [decide_eq_true_eq]; omega
        have d3 : decide ((65 : Int) ≤ x) = true := by rw [decide_eq_true_eq]; omega
        have d4 : decide (x ≤ (90 : Int)) = false := by rw [decide_eq_false_iff_not]; omega
        have b0 : (x != (45 : Int)) = true := by rw [bne_iff_ne]; omega
        have b1 : (x != (95 : Int)) = true := by rw [bne_iff_ne]; omega
        have b2 : (x != (46 : Int)) = true := by rw [bne_iff_ne]; omega
        have hc : nameC x = false := by unfold nameC; simp; omega
        have HC := Lib.hid hc
        have HD := Lib.hid (nrdigit_any x)
        rw [show digB x = false by unfold digB; simp; omega] at HD
        clear hc hx0 hx1 hways
        go_wp2_with fail
        refine (HD.out _).mono ?_
        rintro e w1 ⟨rfl, rfl⟩
        go_wp2_with fail
        go_ret
        exact ⟨ret_bool (BADN.out HC).symm, rfl⟩
      · have hx0 : 95 ≤ x := by omega
        have hx1 : x ≤ 95 := by omega
        have d1 : decide ((97 : Int) ≤ x) = false := by rw [decide_eq_false_iff_not]; omega
        have d2 : decide (x ≤ (122 : Int)) = true := by rw [decide_eq_true_eq]; omega
        have d3 : decide ((65 : Int) ≤ x) = true := by rw [decide_eq_true_eq]; omega
        have d4 : decide (x ≤ (90 : Int)) = false := by rw [decide_eq_false_iff_not]; omega
        have b0 : (x != (45 : Int)) = true := by rw [bne_iff_ne]; omega
        have b1 : (x != (95 : Int)) = false := by rw [show x = 95 by omega]; rfl
        have b2 : (x != (46 : Int)) = true := by rw [bne_iff_ne]; omega
        have hc : nameC x = true := by unfold nameC; simp; omega
        have HC := Lib.hid hc
        have HD := Lib.hid (nrdigit_any x)
        rw [show digB x = false by unfold digB; simp; omega] at HD
        clear hc hx0 hx1 hways
        go_wp2_with fail
        refine (HD.out _).mono ?_
        rintro e w1 ⟨rfl, rfl⟩
        go_wp2_with fail
        go_round
        case rel => exact ⟨k + 1, by go_num, by omega, OKN.out HC⟩
        case measure => simp [intOf]; omega
      · have hx0 : 96 ≤ x := by omega
        have hx1 : x ≤ 96 := by omega
        have d1 : decide ((97 : Int) ≤ x) = false := by rw [decide_eq_false_iff_not]; omega
        have d2 : decide (x ≤ (122 : Int)) = true := by rw [decide_eq_true_eq]; omega
        have d3 : decide ((65 : Int) ≤ x) = true := by rw [decide_eq_true_eq]; omega
        have d4 : decide (x ≤ (90 : Int)) = false := by rw [decide_eq_false_iff_not]; omega
        have b0 : (x != (45 : Int)) = true := by rw [bne_iff_ne]; omega
        have b1 : (x != (95 : Int)) = true := by rw [bne_iff_ne]; omega
        have b2 : (x != (46 : Int)) = true := by rw [bne_iff_ne]; omega
        have hc : nameC x = false := by unfold nameC; simp; omega
        have HC := Lib.hid hc
        have HD := Lib.hid (nrdigit_any x)
        rw [show digB x = false by unfold digB; simp; omega] at HD
        clear hc hx0 hx1 hways
        go_wp2_with fail
        refine (HD.out _).mono ?_
        rintro e w1 ⟨rfl, rfl⟩
        go_wp2_with fail
        go_ret
        exact ⟨ret_bool (BADN.out HC).symm, rfl⟩
      · have hx0 : 97 ≤ x := by omega
        have hx1 : x ≤ 122 := by omega
        have d1 : decide ((97 : Int) ≤ x) = true := by rw [decide_eq_true_eq]; omega
        have d2 : decide (x ≤ (122 : Int)) = true := by rw [decide_eq_true_eq]; omega
        have d3 : decide ((65 : Int) ≤ x) = true := by rw [decide_eq_true_eq]; omega
        have d4 : decide (x ≤ (90 : Int)) = false := by rw [decide_eq_false_iff_not]; omega
        have b0 : (x != (45 : Int)) = true := by rw [bne_iff_ne]; omega
        have b1 : (x != (95 : Int)) = true := by rw [bne_iff_ne]; omega
        have b2 : (x != (46 : Int)) = true := by rw [bne_iff_ne]; omega
        have hc : nameC x = true := by unfold nameC; simp; omega
        have HC := Lib.hid hc
        have HD := Lib.hid (nrdigit_any x)
        rw [show digB x = false by unfold digB; simp; omega] at HD
        clear hc hx0 hx1 hways
        go_wp2_with fail
        go_round
        case rel => exact ⟨k + 1, by go_num, by omega, OKN.out HC⟩
        case measure => simp [intOf]; omega
      · have hx0 : 123 ≤ x := by omega
        have hx1 : x ≤ 255 := by omega
        have d1 : decide ((97 : Int) ≤ x) = true := by rw [decide_eq_true_eq]; omega
        have d2 : decide (x ≤ (122 : Int)) = false := by rw [decide_eq_false_iff_not]; omega
        have d3 : decide ((65 : Int) ≤ x) = true := by rw [decide_eq_true_eq]; omega
        have d4 : decide (x ≤ (90 : Int)) = false := by rw [decide_eq_false_iff_not]; omega
        have b0 : (x != (45 : Int)) = true := by rw [bne_iff_ne]; omega
        have b1 : (x != (95 : Int)) = true := by rw [bne_iff_ne]; omega
        have b2 : (x != (46 : Int)) = true := by rw [bne_iff_ne]; omega
        have hc : nameC x = false := by unfold nameC; simp; omega
        have HC := Lib.hid hc
        have HD := Lib.hid (nrdigit_any x)
        rw [show digB x = false by unfold digB; simp; omega] at HD
        clear hc hx0 hx1 hways
        go_wp2_with fail
        refine (HD.out _).mono ?_
        rintro e w1 ⟨rfl, rfl⟩
        go_wp2_with fail
        go_ret
        exact ⟨ret_bool (BADN.out HC).symm, rfl⟩
    · have t3 : decide ((k : Int) < (s.size : Int)) = false := by rw [decide_eq_false_iff_not]; omega
      have t3' : decide (k < s.size) = false := by simpa using hlt
      obtain rfl : k = s.size := by omega
      have HE := Lib.hid (nameB_of HA.out)
      clear hlt hk
      have HE2 := Lib.hid (show nameB s = true by rw [HE.out]; simp; omega)
      go_wp2_with fail
      go_ret
      exact ⟨ret_bool HE2.out.symm, rfl⟩
end Go.Proofs.YtaghhndcimjjgaaGreatDoor

/- The walk of the law of sets. (printed by wip/gen_e3.py) -/
namespace Go.Proofs.YtaghhndcimjjgaaGreatDoor
open Go.RowKit Go.BigFrame
open Sp (chkS spl)

theorem setL_len (c1 c2 : Int) (l : List (Int × Int)) : (setL c1 c2 l).length ≤ 1000 := by
  unfold setL sizedL
  split
  · split
    · exact Nat.zero_le _
    · rename_i h; exact Nat.le_of_not_lt h
  · exact Nat.zero_le _
/-- two rows of the same spans are equal -/
theorem equalSame {w : World} {b1 b2 : Nat} {v1 v2 : Value} {l : List (Int × Int)} (hl : l.length ≤ 1000) (h1 : SpOwn w b1 v1 l) (h2 : SpOwn w b2 v2 l) {W : World} (hb : Below w.heap.size w W) :
    Calls Tryz.prog 20 #[v1, v2] W fun e w' => e = .returned (.bool true) ∧ Below W.heap.size W w' := by
  obtain ⟨a1, c1, rfl, _, hr1, _⟩ := (h1.below hb).rows
  obtain ⟨a2, c2, rfl, _, hr2, _⟩ := (h2.below hb).rows
  refine (equalSp_any a1 l.length c1 (spF l) (spT l) a2 l.length c2 (spF l) (spT l) W hr1 hr2 (by omega) (by omega)).mono ?_
  rintro e w' ⟨rfl, m, rfl⟩
  exact ⟨by rw [decide_eq_true rfl], below_drewN (Below.refl _ _) _⟩
set_option maxHeartbeats 8000000 in
set_option maxRecDepth 100000 in
theorem sets_law (a1 : Option Addr) (n1 k1 : Nat) (F1 T1 : Nat → Int) (a2 : Option Addr) (n2 k2 : Nat) (F2 T2 : Nat → Int) (n : Int) (s : ByteArray) (w : World) (h1 : Rows2 w a1 n1 F1 T1) (h2 : Rows2 w a2 n2 F2 T2) (hs : s.size ≤ maxLen) (hg : TabP w) :
    Calls Tryz.prog 3 #[.slice a1 n1 k1, .slice a2 n2 k2, .int .i64 n, .string s] w fun e w' => e = .returned (.bool true) ∧ Below w.heap.size w w' := by
  have D1 := Lib.hid (fun W (h : Below w.heap.size w W) => unionP_any a1 n1 k1 F1 T1 a2 n2 k2 F2 T2 W (h1.below h (Nat.le_refl _)) (h2.below h (Nat.le_refl _)))
  have D2 := Lib.hid (fun W (h : Below w.heap.size w W) => unionR_any a1 n1 k1 F1 T1 a2 n2 k2 F2 T2 W (h1.below h (Nat.le_refl _)) (h2.below h (Nat.le_refl _)))
  have D3 := Lib.hid (fun W (h : Below w.heap.size w W) => commonP_any a1 n1 k1 F1 T1 a2 n2 k2 F2 T2 W (h1.below h (Nat.le_refl _)) (h2.below h (Nat.le_refl _)))
  have D4 := Lib.hid (fun W (h : Below w.heap.size w W) => commonR_any a1 n1 k1 F1 T1 a2 n2 k2 F2 T2 W (h1.below h (Nat.le_refl _)) (h2.below h (Nat.le_refl _)))
  have D5 := Lib.hid (fun W (h : Below w.heap.size w W) => withoutP_any a1 n1 k1 F1 T1 a2 n2 k2 F2 T2 W (h1.below h (Nat.le_refl _)) (h2.below h (Nat.le_refl _)))
  have D6 := Lib.hid (fun W (h : Below w.heap.size w W) => withoutR_any a1 n1 k1 F1 T1 a2 n2 k2 F2 T2 W (h1.below h (Nat.le_refl _)) (h2.below h (Nat.le_refl _)))
  have D7 := Lib.hid (fun W (h : Below w.heap.size w W) => hasP_any n a1 n1 k1 F1 T1 W (h1.below h (Nat.le_refl _)))
  have D8 := Lib.hid (fun W (h : Below w.heap.size w W) => rhasP_any n a1 n1 k1 F1 T1 W (h1.below h (Nat.le_refl _)))
  have D9 := Lib.hid (fun W (h : Below w.heap.size w W) => size_any a1 n1 k1 F1 T1 W (h1.below h (Nat.le_refl _)))
  have D10 := Lib.hid (fun W (h : Below w.heap.size w W) => rsize_any a1 n1 k1 F1 T1 W (h1.below h (Nat.le_refl _)))
  have D11 := Lib.hid (fun W (h : Below w.heap.size w W) => spansText_any a1 n1 k1 F1 T1 W (h1.below h (Nat.le_refl _)) (hg.below h))
  have D12 := Lib.hid (fun W (h : Below w.heap.size w W) => rspansText_any a1 n1 k1 F1 T1 W (h1.below h (Nat.le_refl _)) (hg.below h))
  have D13 := Lib.hid (fun W (h : Below w.heap.size w W) => checkSpans_any a1 n1 k1 F1 T1 W (h1.below h (Nat.le_refl _)))
  have D14 := Lib.hid (fun W (h : Below w.heap.size w W) => rcheckSpans_any a1 n1 k1 F1 T1 W (h1.below h (Nat.le_refl _)))
  have DN1 := Lib.hid (fun W => isName_any s W hs)
  have DN2 := Lib.hid (fun W => risName_any s W hs)
  have D5T := Lib.hid (fun W => told_any W)
  unfold SetRet at D1 D2 D3 D4 D5 D6
  have l1 := setL_len (chkS F1 T1 n1) (chkS F2 T2 n2) (rcomb 1 F1 T1 n1 F2 T2 n2)
  have l2 := setL_len (chkS F1 T1 n1) (chkS F2 T2 n2) (rcomb 2 F1 T1 n1 F2 T2 n2)
  have l3 := setL_len (chkS F1 T1 n1) (chkS F2 T2 n2) (rcomb 3 F1 T1 n1 F2 T2 n2)
  generalize setL (chkS F1 T1 n1) (chkS F2 T2 n2) (rcomb 1 F1 T1 n1 F2 T2 n2) = L1 at D1 D2 l1
  generalize setL (chkS F1 T1 n1) (chkS F2 T2 n2) (rcomb 2 F1 T1 n1 F2 T2 n2) = L2 at D3 D4 l2
  generalize setL (chkS F1 T1 n1) (chkS F2 T2 n2) (rcomb 3 F1 T1 n1 F2 T2 n2) = L3 at D5 D6 l3
  generalize setE (chkS F1 T1 n1) (chkS F2 T2 n2) (rcomb 1 F1 T1 n1 F2 T2 n2) = x1 at D1 D2
  generalize setE (chkS F1 T1 n1) (chkS F2 T2 n2) (rcomb 2 F1 T1 n1 F2 T2 n2) = x2 at D3 D4
  generalize setE (chkS F1 T1 n1) (chkS F2 T2 n2) (rcomb 3 F1 T1 n1 F2 T2 n2) = x3 at D5 D6
  generalize chkS F1 T1 n1 = ck at D13 D14
  generalize hasR F1 T1 n1 n = hr at D7 D8
  obtain ⟨hr1, hr2⟩ := hr
  generalize sizeR F1 T1 n1 = sr at D9 D10
  obtain ⟨sr1, sr2⟩ := sr
  generalize textR F1 T1 n1 = tr at D11 D12
  obtain ⟨tr1, tr2⟩ := tr
  generalize nameB s = nb at DN1 DN2
  simp only at D7 D8 D9 D10 D11 D12
  have ht : (tr1.toList == tr1.toList) = true := by simp
  have hbr : (hr1 == hr1) = true := by simp
  have hbn : (nb == nb) = true := by simp
  have HL1 := Lib.hid l1
  have HL2 := Lib.hid l2
  have HL3 := Lib.hid l3
  have HB0 := Lib.hid (Below.refl w.heap.size w)
  clear h1 h2 hg hs l1 l2 l3
  go_enter Tryz.func3, Tryz.ntmps3
  go_wp2_with fail
  refine (D1.out _ HB0.out).mono ?_
  rintro e w1 ⟨⟨v1, rfl, ho1⟩, hb1⟩
  have HB1 := Lib.hid (below_step HB0.out hb1)
  have HO1 := Lib.hid ho1
  clear hb1 D1 HB0 ho1
  go_wp2_with fail
  refine (D2.out _ HB1.out).mono ?_
  rintro e w2 ⟨⟨v2, rfl, ho2⟩, hb2⟩
  have HB2 := Lib.hid (below_step HB1.out hb2)
  have HO1 := Lib.hid (HO1.out.below hb2)
  have DE1 := Lib.hid (fun (W : World) (h : Below w2.heap.size w2 W) => equalSame HL1.out HO1.out ho2 h)
  have HA1 := Lib.hid (Below.refl w2.heap.size w2)
  clear hb2 D2 HB1 ho2
  clear HO1
  go_wp2_with fail
  refine (D3.out _ HB2.out).mono ?_
  rintro e w3 ⟨⟨v3, rfl, ho3⟩, hb3⟩
  have HB3 := Lib.hid (below_step HB2.out hb3)
  have HA1 := Lib.hid (below_step HA1.out hb3)
  have HO3 := Lib.hid ho3
  clear hb3 D3 HB2 ho3
  go_wp2_with fail
  refine (D4.out _ HB3.out).mono ?_
  rintro e w4 ⟨⟨v4, rfl, ho4⟩, hb4⟩
  have HB4 := Lib.hid (below_step HB3.out hb4)
  have HA1 := Lib.hid (below_step HA1.out hb4)
  have HO3 := Lib.hid (HO3.out.below hb4)
  have DE2 := Lib.hid (fun (W : World) (h : Below w4.heap.size w4 W) => equalSame HL2.out HO3.out ho4 h)
  have HA2 := Lib.hid (Below.refl w4.heap.size w4)
  clear hb4 D4 HB3 ho4
  clear HO3
  go_wp2_with fail
  refine (D5.out _ HB4.out).mono ?_
  rintro e w5 ⟨⟨v5, rfl, ho5⟩, hb5⟩
  have HB5 := Lib.hid (below_step HB4.out hb5)
  have HA1 := Lib.hid (below_step HA1.out hb5)
  have HA2 := Lib.hid (below_step HA2.out hb5)
  have HO5 := Lib.hid ho5
  clear hb5 D5 HB4 ho5
  go_wp2_with fail
  refine (D6.out _ HB5.out).mono ?_
  rintro e w6 ⟨⟨v6, rfl, ho6⟩, hb6⟩
  have HB6 := Lib.hid (below_step HB5.out hb6)
  have HA1 := Lib.hid (below_step HA1.out hb6)
  have HA2 := Lib.hid (below_step HA2.out hb6)
  have HO5 := Lib.hid (HO5.out.below hb6)
  have DE3 := Lib.hid (fun (W : World) (h : Below w6.heap.size w6 W) => equalSame HL3.out HO5.out ho6 h)
  have HA3 := Lib.hid (Below.refl w6.heap.size w6)
  clear hb6 D6 HB5 ho6
  clear HO5
  go_wp2_with fail
  refine (D7.out _ HB6.out).mono ?_
  rintro e w7 ⟨rfl, hb7⟩
  have HB7 := Lib.hid (below_step HB6.out hb7)
  have HA1 := Lib.hid (below_step HA1.out hb7)
  have HA2 := Lib.hid (below_step HA2.out hb7)
  have HA3 := Lib.hid (below_step HA3.out hb7)
  clear hb7 D7 HB6 
  go_wp2_with fail
  refine (D8.out _ HB7.out).mono ?_
  rintro e w8 ⟨rfl, hb8⟩
  have HB8 := Lib.hid (below_step HB7.out hb8)
  have HA1 := Lib.hid (below_step HA1.out hb8)
  have HA2 := Lib.hid (below_step HA2.out hb8)
  have HA3 := Lib.hid (below_step HA3.out hb8)
  clear hb8 D8 HB7 
  go_wp2_with fail
  refine (D9.out _ HB8.out).mono ?_
  rintro e w9 ⟨rfl, hb9⟩
  have HB9 := Lib.hid (below_step HB8.out hb9)
  have HA1 := Lib.hid (below_step HA1.out hb9)
  have HA2 := Lib.hid (below_step HA2.out hb9)
  have HA3 := Lib.hid (below_step HA3.out hb9)
  clear hb9 D9 HB8 
  go_wp2_with fail
  refine (D10.out _ HB9.out).mono ?_
  rintro e w10 ⟨rfl, hb10⟩
  have HB10 := Lib.hid (below_step HB9.out hb10)
  have HA1 := Lib.hid (below_step HA1.out hb10)
  have HA2 := Lib.hid (below_step HA2.out hb10)
  have HA3 := Lib.hid (below_step HA3.out hb10)
  clear hb10 D10 HB9 
  go_wp2_with fail
  refine (D11.out _ HB10.out).mono ?_
  rintro e w11 ⟨rfl, hb11⟩
  have HB11 := Lib.hid (below_step HB10.out hb11)
  have HA1 := Lib.hid (below_step HA1.out hb11)
  have HA2 := Lib.hid (below_step HA2.out hb11)
  have HA3 := Lib.hid (below_step HA3.out hb11)
  clear hb11 D11 HB10 
  go_wp2_with fail
  refine (D12.out _ HB11.out).mono ?_
  rintro e w12 ⟨rfl, hb12⟩
  have HB12 := Lib.hid (below_step HB11.out hb12)
  have HA1 := Lib.hid (below_step HA1.out hb12)
  have HA2 := Lib.hid (below_step HA2.out hb12)
  have HA3 := Lib.hid (below_step HA3.out hb12)
  clear hb12 D12 HB11 
  go_wp2_with fail
  refine (D13.out _ HB12.out).mono ?_
  rintro e w13 ⟨rfl, hb13⟩
  have HB13 := Lib.hid (below_step HB12.out hb13)
  have HA1 := Lib.hid (below_step HA1.out hb13)
  have HA2 := Lib.hid (below_step HA2.out hb13)
  have HA3 := Lib.hid (below_step HA3.out hb13)
  clear hb13 HB12
  go_wp2_with fail
  refine (D14.out _ HB13.out).mono ?_
  rintro e w14 ⟨rfl, hb14⟩
  have HB14 := Lib.hid (below_step HB13.out hb14)
  have HA1 := Lib.hid (below_step HA1.out hb14)
  have HA2 := Lib.hid (below_step HA2.out hb14)
  have HA3 := Lib.hid (below_step HA3.out hb14)
  clear hb14 HB13
  go_wp2_with fail
  refine (DE1.out _ HA1.out).mono ?_
  rintro e w15 ⟨rfl, hb15⟩
  have HB15 := Lib.hid (below_step HB14.out hb15)
  have HA1 := Lib.hid (below_step HA1.out hb15)
  have HA2 := Lib.hid (below_step HA2.out hb15)
  have HA3 := Lib.hid (below_step HA3.out hb15)
  clear hb15 HB14
  go_wp2_with fail
  refine (DE2.out _ HA2.out).mono ?_
  rintro e w16 ⟨rfl, hb16⟩
  have HB16 := Lib.hid (below_step HB15.out hb16)
  have HA1 := Lib.hid (below_step HA1.out hb16)
  have HA2 := Lib.hid (below_step HA2.out hb16)
  have HA3 := Lib.hid (below_step HA3.out hb16)
  clear hb16 HB15
  go_wp2_with fail
  refine (DE3.out _ HA3.out).mono ?_
  rintro e w17 ⟨rfl, hb17⟩
  have HB17 := Lib.hid (below_step HB16.out hb17)
  have HA1 := Lib.hid (below_step HA1.out hb17)
  have HA2 := Lib.hid (below_step HA2.out hb17)
  have HA3 := Lib.hid (below_step HA3.out hb17)
  clear hb17 HB16
  go_wp2_with fail
  refine (DN1.out _).mono ?_
  rintro e _ ⟨rfl, rfl⟩
  go_wp2_with fail
  refine (DN2.out _).mono ?_
  rintro e _ ⟨rfl, rfl⟩
  go_wp2_with fail
  refine (D5T.out _).mono ?_
  rintro e w18 ⟨rfl, hb18⟩
  have HB18 := Lib.hid (below_step HB17.out hb18)
  have HA1 := Lib.hid (below_step HA1.out hb18)
  have HA2 := Lib.hid (below_step HA2.out hb18)
  have HA3 := Lib.hid (below_step HA3.out hb18)
  clear hb18 HB17
  go_wp2_with fail
  go_ret
  exact ⟨rfl, HB18.out⟩
end Go.Proofs.YtaghhndcimjjgaaGreatDoor

/- The walk of the law: sets are sets. (printed by wip/gen_e5.py) -/
namespace Go.Proofs.YtaghhndcimjjgaaGreatDoor
open Go.RowKit Go.BigFrame
open Sp (chkS spl mem Norm inB size)
open Rd (readR spansT)

section
variable {w : World} {b : Nat} {v : Value} {l : List (Int × Int)} (ho : SpOwn w b v l) (hc : chkS (spF l) (spT l) l.length = 0)
include ho hc
theorem hasOwn (n : Int) {W : World} (hb : Below w.heap.size w W) : Calls Tryz.prog 12 #[v, .int .i64 n] W fun e w' => e = .returned (.tuple #[.bool (inB l n), .int .i64 0]) ∧ Below W.heap.size W w' := by
  obtain ⟨a, c, rfl, _, hr, _⟩ := (ho.below hb).rows
  have h := hasP_any n a l.length c (spF l) (spT l) W hr
  unfold hasR at h
  rw [if_pos hc, spl_of] at h
  exact h
theorem sizeOwn {W : World} (hb : Below w.heap.size w W) : Calls Tryz.prog 14 #[v] W fun e w' => e = .returned (.tuple #[.int .i64 (size l), .int .i64 0]) ∧ Below W.heap.size W w' := by
  obtain ⟨a, c, rfl, _, hr, _⟩ := (ho.below hb).rows
  have h := size_any a l.length c (spF l) (spT l) W hr
  unfold sizeR at h
  rw [if_pos hc, spl_of] at h
  exact h
end
theorem setE_small {c1 c2 : Int} {l : List (Int × Int)} (h1 : c1 = 0) (h2 : c2 = 0) (hl : l.length ≤ 1000) : setE c1 c2 l = 0 ∧ setL c1 c2 l = l := by
  have : orC c1 c2 = 0 := by unfold orC; rw [if_pos h1]; exact h2
  unfold setE setL sizedE sizedL
  rw [if_pos this, if_pos this, if_neg (by omega), if_neg (by omega)]
  exact ⟨rfl, rfl⟩
theorem size_small {F T : Nat → Int} {n : Nat} (h : chkS F T n = 0) : 0 ≤ size (spl F T n) ∧ size (spl F T n) ≤ 1000000000001000 := by
  have h1 := Sp.size_part h n (Nat.le_refl _)
  have h2 := (Sp.chkS_zero h).1
  omega
set_option maxHeartbeats 8000000 in
set_option maxRecDepth 100000 in
theorem areSets_law (a1 : Option Addr) (n1 k1 : Nat) (F1 T1 : Nat → Int) (a2 : Option Addr) (n2 k2 : Nat) (F2 T2 : Nat → Int) (n : Int) (w : World) (h1 : Rows2 w a1 n1 F1 T1) (h2 : Rows2 w a2 n2 F2 T2) (hg : TabP w) :
    Calls Tryz.prog 4 #[.slice a1 n1 k1, .slice a2 n2 k2, .int .i64 n] w fun e w' => e = .returned (.bool true) ∧ Below w.heap.size w w' := by
  have DH1 := Lib.hid (hasP_any n a1 n1 k1 F1 T1 w h1)
  have DH2 := Lib.hid (fun W (h : Below w.heap.size w W) => hasP_any n a2 n2 k2 F2 T2 W (h2.below h (Nat.le_refl _)))
  have DT := Lib.hid (fun W => told_any W)
  unfold hasR at DH1 DH2
  by_cases g1 : chkS F1 T1 n1 = 0
  case neg =>
    rw [if_neg g1] at DH1
    generalize (if chkS F2 T2 n2 = 0 then (inB (spl F2 T2 n2) n, (0 : Int)) else (false, chkS F2 T2 n2)) = y at DH2
    obtain ⟨y1, y2⟩ := y
    generalize chkS F1 T1 n1 = c1 at g1 DH1
    have b1 : (c1 != 0) = true := by simpa using g1
    clear g1 h1 h2 hg
    go_enter Tryz.func4, Tryz.ntmps4
    go_wp2_with fail
    refine DH1.out.mono ?_
    rintro e w1 ⟨rfl, hb1⟩
    have HB1 := Lib.hid hb1
    clear hb1
    go_wp2_with fail
    refine (DH2.out w1 HB1.out).mono ?_
    rintro e w2 ⟨rfl, hb2⟩
    have HB2 := Lib.hid (below_step HB1.out hb2)
    clear hb2
    go_wp2_with fail
    refine (DT.out _).mono ?_
    rintro e w3 ⟨rfl, hb3⟩
    go_wp2_with fail
    go_ret
    exact ⟨rfl, below_step HB2.out hb3⟩
  case pos =>
  rw [if_pos g1] at DH1
  by_cases g2 : chkS F2 T2 n2 = 0
  case neg =>
    rw [if_neg g2] at DH2
    generalize inB (spl F1 T1 n1) n = x1 at DH1
    generalize chkS F2 T2 n2 = c2 at g2 DH2
    have b1 : (c2 != 0) = true := by simpa using g2
    clear g1 g2 h1 h2 hg
    go_enter Tryz.func4, Tryz.ntmps4
    go_wp2_with fail
    refine DH1.out.mono ?_
    rintro e w1 ⟨rfl, hb1⟩
    have HB1 := Lib.hid hb1
    clear hb1
    go_wp2_with fail
    refine (DH2.out w1 HB1.out).mono ?_
    rintro e w2 ⟨rfl, hb2⟩
    have HB2 := Lib.hid (below_step HB1.out hb2)
    clear hb2
    go_wp2_with fail
    refine (DT.out _).mono ?_
    rintro e w3 ⟨rfl, hb3⟩
    go_wp2_with fail
    go_ret
    exact ⟨rfl, below_step HB2.out hb3⟩
  case pos =>
  rw [if_pos g2] at DH2
  have m1 := (Sp.chkS_zero g1).1
  have m2 := (Sp.chkS_zero g2).1
  by_cases hn : n1 + n2 ≤ 1000
  case neg =>
    generalize inB (spl F1 T1 n1) n = x1 at DH1
    generalize inB (spl F2 T2 n2) n = x2 at DH2
    have b1 : decide ((1000 : Int) < (n1 : Int) + (n2 : Int)) = true := by rw [decide_eq_true_eq]; omega
    clear g1 g2 h1 h2 hg
    go_enter Tryz.func4, Tryz.ntmps4
    go_wp2_with fail
    refine DH1.out.mono ?_
    rintro e w1 ⟨rfl, hb1⟩
    have HB1 := Lib.hid hb1
    clear hb1
    go_wp2_with fail
    refine (DH2.out w1 HB1.out).mono ?_
    rintro e w2 ⟨rfl, hb2⟩
    have HB2 := Lib.hid (below_step HB1.out hb2)
    clear hb2
    go_wp2_with fail
    refine (DT.out _).mono ?_
    rintro e w3 ⟨rfl, hb3⟩
    go_wp2_with fail
    go_ret
    exact ⟨rfl, below_step HB2.out hb3⟩
  case pos =>
  have b1 : decide ((1000 : Int) < (n1 : Int) + (n2 : Int)) = false := by rw [decide_eq_false_iff_not]; omega
  have H3 := three_of g1 g2 hn
  have i1 : (1 : Nat) = 1 ∨ (1 : Nat) = 2 ∨ (1 : Nat) = 3 := Or.inl rfl
  have i2 : (2 : Nat) = 1 ∨ (2 : Nat) = 2 ∨ (2 : Nat) = 3 := Or.inr (Or.inl rfl)
  have i3 : (3 : Nat) = 1 ∨ (3 : Nat) = 2 ∨ (3 : Nat) = 3 := Or.inr (Or.inr rfl)
  have HC1 := Lib.hid (H3.c1 1 i1)
  have HC2 := Lib.hid (H3.c1 2 i2)
  have HC3 := Lib.hid (H3.c1 3 i3)
  have hi1 := H3.h 1 i1 n
  have hi2 := H3.h 2 i2 n
  have hi3 := H3.h 3 i3 n
  have hs := H3.s
  have z1 := size_small (H3.c1 1 i1)
  have z2 := size_small (H3.c1 2 i2)
  have z3 := size_small (H3.c1 3 i3)
  have z4 := size_small g1
  have z5 := size_small g2
  rw [spl_of] at z1 z2 z3
  have DU := fun W (h : Below w.heap.size w W) => unionP_any a1 n1 k1 F1 T1 a2 n2 k2 F2 T2 W (h1.below h (Nat.le_refl _)) (h2.below h (Nat.le_refl _))
  have DC := fun W (h : Below w.heap.size w W) => commonP_any a1 n1 k1 F1 T1 a2 n2 k2 F2 T2 W (h1.below h (Nat.le_refl _)) (h2.below h (Nat.le_refl _))
  have DR := fun W (h : Below w.heap.size w W) => withoutP_any a1 n1 k1 F1 T1 a2 n2 k2 F2 T2 W (h1.below h (Nat.le_refl _)) (h2.below h (Nat.le_refl _))
  unfold SetRet at DU DC DR
  obtain ⟨e1, e2⟩ := setE_small g1 g2 (H3.l 1 i1)
  obtain ⟨e3, e4⟩ := setE_small g1 g2 (H3.l 2 i2)
  obtain ⟨e5, e6⟩ := setE_small g1 g2 (H3.l 3 i3)
  rw [e1, e2] at DU
  rw [e3, e4] at DC
  rw [e5, e6] at DR
  generalize rcomb 1 F1 T1 n1 F2 T2 n2 = U at DU HC1 hi1 hs z1
  generalize rcomb 2 F1 T1 n1 F2 T2 n2 = C at DC HC2 hi2 hs z2
  generalize rcomb 3 F1 T1 n1 F2 T2 n2 = R at DR HC3 hi3 hs z3
  have DU := Lib.hid DU
  have DC := Lib.hid DC
  have DR := Lib.hid DR
  have DS1 := fun W (h : Below w.heap.size w W) => size_any a1 n1 k1 F1 T1 W (h1.below h (Nat.le_refl _))
  have DS2 := fun W (h : Below w.heap.size w W) => size_any a2 n2 k2 F2 T2 W (h2.below h (Nat.le_refl _))
  have DX := fun W (h : Below w.heap.size w W) => spansText_any a1 n1 k1 F1 T1 W (h1.below h (Nat.le_refl _)) (hg.below h)
  unfold sizeR at DS1 DS2
  rw [if_pos g1] at DS1
  rw [if_pos g2] at DS2
  unfold textR at DX
  rw [if_pos g1] at DX
  have hval : ∀ y, y ∈ spl F1 T1 n1 → 0 ≤ y.1 ∧ y.1 ≤ y.2 ∧ y.2 ≤ 1000000000000 := fun y hy => by
    obtain ⟨i, hi, rfl⟩ := Sp.spl_mem hy
    obtain ⟨p, q, r, _⟩ := (Sp.chkS_zero g1).2.2 i hi
    exact ⟨p.1, r, q.2⟩
  have hb := Rd.read_back (Sp.chkS_zero g1).2.1 (by rw [Sp.spl_len]; exact m1) hval
  have htl : (spansT (spl F1 T1 n1)).size ≤ 9223372036854775807 := by
    have h := Rd.spansT_size (spl F1 T1 n1) 43 (fun x hx => by
      have := hval x hx
      exact Rd.spanT_size (by omega) (by omega) (by omega) (by omega))
    rw [Sp.spl_len] at h
    have := Nat.mul_le_mul_right 44 m1
    omega
  have DB := fun W => readSpans_any (spansT (spl F1 T1 n1)) W htl
  unfold ReadRet at DB
  rw [hb] at DB
  have DE := Lib.hid (fun (a : Option Addr) (c : Nat) (W : World) (h : Below w.heap.size w W) (hr : Rows2 W a (spl F1 T1 n1).length (spF (spl F1 T1 n1)) (spT (spl F1 T1 n1))) => by
    have := equalSp_any a1 n1 k1 F1 T1 a (spl F1 T1 n1).length c (spF (spl F1 T1 n1)) (spT (spl F1 T1 n1)) W (h1.below h (Nat.le_refl _)) hr (by omega) (by rw [Sp.spl_len]; omega)
    rw [spl_of, decide_eq_true rfl] at this
    exact this)
  generalize spansT (spl F1 T1 n1) = tx at DX DB
  have DX := Lib.hid DX
  have DB := Lib.hid DB
  simp only at DX DB DS1 DS2 DH1 DH2
  generalize size (spl F1 T1 n1) = sa at DS1 hs z4
  generalize size (spl F2 T2 n2) = sb at DS2 hs z5
  have DS1 := Lib.hid DS1
  have DS2 := Lib.hid DS2
  generalize inB (spl F1 T1 n1) n = x1 at DH1 hi1 hi2 hi3
  generalize inB (spl F2 T2 n2) n = x2 at DH2 hi1 hi2 hi3
  generalize spl F1 T1 n1 = L1 at DB DE
  have tS1 : (size U + size C == sa + sb) = true := by rw [beq_iff_eq]; exact hs.1
  have tS2 : (size R + size C == sa) = true := by rw [beq_iff_eq]; exact hs.2
  have hk1 : inB U n = (x1 || x2) := hi1
  have hk2 : inB C n = (x1 && x2) := hi2
  have hk3 : inB R n = (x1 && !x2) := hi3
  have HK1 := Lib.hid hk1
  have HK2 := Lib.hid hk2
  have HK3 := Lib.hid hk3
  obtain ⟨z1a, z1b⟩ := z1
  obtain ⟨z2a, z2b⟩ := z2
  obtain ⟨z3a, z3b⟩ := z3
  obtain ⟨z4a, z4b⟩ := z4
  obtain ⟨z5a, z5b⟩ := z5
  obtain ⟨su, hsu⟩ : ∃ x, size U = x := ⟨_, rfl⟩
  obtain ⟨sc, hsc⟩ : ∃ x, size C = x := ⟨_, rfl⟩
  obtain ⟨sr, hsr⟩ : ∃ x, size R = x := ⟨_, rfl⟩
  rw [hsu, hsc] at tS1
  rw [hsr, hsc] at tS2
  rw [hsu] at z1a z1b
  rw [hsc] at z2a z2b
  rw [hsr] at z3a z3b
  have HSU := Lib.hid hsu
  have HSC := Lib.hid hsc
  have HSR := Lib.hid hsr
  clear g1 g2 h1 h2 hg H3 i1 i2 i3 hi1 hi2 hi3 hs hval hb htl e1 e2 e3 e4 e5 e6 hk1 hk2 hk3 hsu hsc hsr
  go_enter Tryz.func4, Tryz.ntmps4
  go_wp2_with fail
  refine DH1.out.mono ?_
  rintro e w1 ⟨rfl, hb1⟩
  have HB1 := Lib.hid hb1
  clear hb1 DH1
  go_wp2_with fail
  refine (DH2.out w1 HB1.out).mono ?_
  rintro e w2 ⟨rfl, hb2⟩
  have HB2 := Lib.hid (below_step HB1.out hb2)
  clear hb2 DH2 HB1
  go_wp2_with fail
  refine (DU.out _ HB2.out).mono ?_
  rintro e w3 ⟨⟨vU, rfl, hoU⟩, hb3⟩
  have HB3 := Lib.hid (below_step HB2.out hb3)
  have DHU := Lib.hid (fun (W : World) (h : Below w3.heap.size w3 W) => hasOwn hoU HC1.out n h)
  have DZU := Lib.hid (fun (W : World) (h : Below w3.heap.size w3 W) => sizeOwn hoU HC1.out h)
  rw [HK1.out] at DHU
  rw [HSU.out] at DZU
  have HAU := Lib.hid (Below.refl w3.heap.size w3)
  clear hoU
  clear hb3 HB2
  go_wp2_with fail
  refine (DC.out _ HB3.out).mono ?_
  rintro e w4 ⟨⟨vC, rfl, hoC⟩, hb4⟩
  have HB4 := Lib.hid (below_step HB3.out hb4)
  have HAU := Lib.hid (below_step HAU.out hb4)
  have DHC := Lib.hid (fun (W : World) (h : Below w4.heap.size w4 W) => hasOwn hoC HC2.out n h)
  have DZC := Lib.hid (fun (W : World) (h : Below w4.heap.size w4 W) => sizeOwn hoC HC2.out h)
  rw [HK2.out] at DHC
  rw [HSC.out] at DZC
  have HAC := Lib.hid (Below.refl w4.heap.size w4)
  clear hoC
  clear hb4 HB3
  go_wp2_with fail
  refine (DR.out _ HB4.out).mono ?_
  rintro e w5 ⟨⟨vR, rfl, hoR⟩, hb5⟩
  have HB5 := Lib.hid (below_step HB4.out hb5)
  have HAU := Lib.hid (below_step HAU.out hb5)
  have HAC := Lib.hid (below_step HAC.out hb5)
  have DHR := Lib.hid (fun (W : World) (h : Below w5.heap.size w5 W) => hasOwn hoR HC3.out n h)
  have DZR := Lib.hid (fun (W : World) (h : Below w5.heap.size w5 W) => sizeOwn hoR HC3.out h)
  rw [HK3.out] at DHR
  rw [HSR.out] at DZR
  have HAR := Lib.hid (Below.refl w5.heap.size w5)
  clear hoR
  clear hb5 HB4
  go_wp2_with fail
  refine (DHU.out _ HAU.out).mono ?_
  rintro e w6 ⟨rfl, hb6⟩
  have HB6 := Lib.hid (below_step HB5.out hb6)
  have HAU := Lib.hid (below_step HAU.out hb6)
  have HAC := Lib.hid (below_step HAC.out hb6)
  have HAR := Lib.hid (below_step HAR.out hb6)
  clear hb6 HB5
  go_wp2_with fail
  refine (DHC.out _ HAC.out).mono ?_
  rintro e w7 ⟨rfl, hb7⟩
  have HB7 := Lib.hid (below_step HB6.out hb7)
  have HAU := Lib.hid (below_step HAU.out hb7)
  have HAC := Lib.hid (below_step HAC.out hb7)
  have HAR := Lib.hid (below_step HAR.out hb7)
  clear hb7 HB6
  go_wp2_with fail
  refine (DHR.out _ HAR.out).mono ?_
  rintro e w8 ⟨rfl, hb8⟩
  have HB8 := Lib.hid (below_step HB7.out hb8)
  have HAU := Lib.hid (below_step HAU.out hb8)
  have HAC := Lib.hid (below_step HAC.out hb8)
  have HAR := Lib.hid (below_step HAR.out hb8)
  clear hb8 HB7
  go_wp2_with fail
  refine (DS1.out _ HB8.out).mono ?_
  rintro e w9 ⟨rfl, hb9⟩
  have HB9 := Lib.hid (below_step HB8.out hb9)
  have HAU := Lib.hid (below_step HAU.out hb9)
  have HAC := Lib.hid (below_step HAC.out hb9)
  have HAR := Lib.hid (below_step HAR.out hb9)
  clear hb9 HB8
  go_wp2_with fail
  refine (DS2.out _ HB9.out).mono ?_
  rintro e w10 ⟨rfl, hb10⟩
  have HB10 := Lib.hid (below_step HB9.out hb10)
  have HAU := Lib.hid (below_step HAU.out hb10)
  have HAC := Lib.hid (below_step HAC.out hb10)
  have HAR := Lib.hid (below_step HAR.out hb10)
  clear hb10 HB9
  go_wp2_with fail
  refine (DZU.out _ HAU.out).mono ?_
  rintro e w11 ⟨rfl, hb11⟩
  have HB11 := Lib.hid (below_step HB10.out hb11)
  have HAU := Lib.hid (below_step HAU.out hb11)
  have HAC := Lib.hid (below_step HAC.out hb11)
  have HAR := Lib.hid (below_step HAR.out hb11)
  clear hb11 HB10
  go_wp2_with fail
  refine (DZC.out _ HAC.out).mono ?_
  rintro e w12 ⟨rfl, hb12⟩
  have HB12 := Lib.hid (below_step HB11.out hb12)
  have HAU := Lib.hid (below_step HAU.out hb12)
  have HAC := Lib.hid (below_step HAC.out hb12)
  have HAR := Lib.hid (below_step HAR.out hb12)
  clear hb12 HB11
  go_wp2_with fail
  refine (DZR.out _ HAR.out).mono ?_
  rintro e w13 ⟨rfl, hb13⟩
  have HB13 := Lib.hid (below_step HB12.out hb13)
  have HAU := Lib.hid (below_step HAU.out hb13)
  have HAC := Lib.hid (below_step HAC.out hb13)
  have HAR := Lib.hid (below_step HAR.out hb13)
  clear hb13 HB12
  go_wp2_with fail
  refine (DX.out _ HB13.out).mono ?_
  rintro e w14 ⟨rfl, hb14⟩
  have HB14 := Lib.hid (below_step HB13.out hb14)
  have HAU := Lib.hid (below_step HAU.out hb14)
  have HAC := Lib.hid (below_step HAC.out hb14)
  have HAR := Lib.hid (below_step HAR.out hb14)
  clear hb14 HB13
  go_wp2_with fail
  refine (DB.out _).mono ?_
  rintro e w15 ⟨⟨vb, rfl, hob⟩, hb15⟩
  have HB15 := Lib.hid (below_step HB14.out hb15)
  have HAU := Lib.hid (below_step HAU.out hb15)
  have HAC := Lib.hid (below_step HAC.out hb15)
  have HAR := Lib.hid (below_step HAR.out hb15)
  obtain ⟨ab, cb, rfl, _, hrb, _⟩ := hob.rows
  have DEQ := Lib.hid (DE.out ab cb w15 HB15.out hrb)
  clear hob hrb
  clear hb15 HB14
  clear HAU HAC HAR DHU DHC DHR DZU DZC DZR DU DC DR DS1 DS2 DX DB DE HC1 HC2 HC3 HK1 HK2 HK3 HSU HSC HSR
  cases x1 <;> cases x2
  all_goals
    go_wp2_with fail
    refine DEQ.out.mono ?_
    rintro e wq ⟨rfl, mm, hmm⟩
    have HBQ := Lib.hid (show Below w.heap.size w wq by rw [hmm]; exact below_drewN HB15.out _)
    clear hmm
    go_wp2_with fail
    refine (DT.out _).mono ?_
    rintro e wt ⟨rfl, hbt⟩
    go_wp2_with fail
    go_ret
    exact ⟨rfl, below_step HBQ.out hbt⟩
end Go.Proofs.YtaghhndcimjjgaaGreatDoor

/- A row of spans that came in: how it reads, and that it reads so afterwards. -/
namespace Go.Proofs.YtaghhndcimjjgaaGreatDoor
open Go.ChangeShapes Go.WideShapes Go.ChangeAt Go.RowKit Go.Deep

theorem laidOutS : laidOutB Tryz.prog = true := by kernel_rfl
theorem cellsSpan : Tryz.prog.cellsOf 35 = 2 := by kernel_rfl
theorem cellsIntS : Tryz.prog.cellsOf 3 = 1 := by kernel_rfl
theorem readSpansT : Tryz.prog.readableRec 22 = true := by kernel_rfl
theorem rowSpansT : 22 < Tryz.prog.types.size := of_decide_eq_true (by kernel_rfl)
def intS : Value → Int
  | .int _ n => n
  | _ => 0
set_option maxRecDepth 100000 in
theorem open_spans {H : Type} {enc : TypeId × Value → H} {W : World} {r : Reach} {b0 base : Nat} {v : Value} {d : DataW H} {p : List MemPlace}
    (hv : Value.okWide Tryz.prog W r b0 22 v) (h : DataW.Trod enc Tryz.prog W base (fun _ => true) true 22 v d p) :
    ∃ (a : Option Addr) (len cap : Nat) (F T : Nat → Int), v = .slice a len cap ∧ Rows2 W a len F T := by
  obtain ⟨fuel, hf⟩ := h
  obtain ⟨av, lv, cv, rfl⟩ := okWide_slice Tryz.underlying22 hv
  change DataW.trod enc Tryz.prog W base (fun _ => true) true fuel 22 [.slice av lv cv] = some (d, p) at hf
  rcases open_slice_pairs Tryz.underlying22 Tryz.underlying35 cellsSpan rfl rfl cellsIntS cellsIntS hf with ⟨hc, _⟩ | ⟨a, len, cap, m, k, V0, V1, D0, D1, P0, P1, hc, _, hl, hm, hmm, _, hall⟩
  · simp only [List.cons.injEq, and_true] at hc
    rw [hc]
    exact ⟨none, 0, 0, fun _ => 0, fun _ => 0, rfl, ⟨fun h => absurd h (by omega)⟩⟩
  · simp only [List.cons.injEq, and_true] at hc
    rw [hc]
    simp only [if_true] at hmm
    subst hmm
    refine ⟨some a, len, m, fun i => intS (V0 i), fun i => intS (V1 i), rfl, ⟨fun hl0 => ?_⟩⟩
    obtain ⟨b, o, sp⟩ := a
    have hspot : sp = none := by simpa [Addr.add] using World.cell?_spot (hall 0 (by omega)).1
    subst hspot
    refine ⟨b, o, rfl, ?_, fun i hi => ?_⟩
    · exact World.block_lt_of_cell? W _ (hall 0 (by omega)).1
    · obtain ⟨g0, g1, g2, g3⟩ := hall i (by omega)
      obtain ⟨x, hx, _, _⟩ := DataW.trod_int Tryz.underlying3 g2
      obtain ⟨y, hy, _, _⟩ := DataW.trod_int Tryz.underlying3 g3
      simp only [List.cons.injEq, and_true] at hx hy
      rw [hx] at g0
      rw [hy] at g1
      rw [add_plain] at g0 g1
      rw [hx, hy]
      exact ⟨g0, by rw [Nat.add_assoc]; exact g1⟩
end Go.Proofs.YtaghhndcimjjgaaGreatDoor
