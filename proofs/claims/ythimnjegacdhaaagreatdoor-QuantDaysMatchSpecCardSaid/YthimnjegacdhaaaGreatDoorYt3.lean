/- Several texts of this claim in one. -/
import Derived.Test.YthimnjegacdhaaaGreatDoorYt2
import Derived.Deep.QuietTactic
import Derived.BigQuiet
import Derived.Deep.Cut
import Derived.Test.YthimnjegacdhaaaGreatDoorProg
import Derived.Deep.Slices
import Derived.ChangeSame
import Derived.Below
import Derived.Lib.SmallJoins
import Derived.OrdersHeld
import Derived.Test.YthimnjegacdhaaaGreatDoorYt1
import Derived.Lib.AtoiTie
import Derived.Lib.ItoaNum
import Derived.Lib.ItoaLen
import Derived.Test.YthimnjegacdhaaaGreatDoorShelf
import Derived.Lib.LaidTab
import Derived.Laws.AppendOwn
/- Days and weeks: the reference's dates and weeks, the program's WeekDay. -/
namespace Go.Proofs.YthimnjegacdhaaaGreatDoor
open Go.RowKit Go.BigFrame

theorem results_tmp4 {fn : Func} {t u v x : Tmp} (h : fn.results = #[.tmp t, .tmp u, .tmp v, .tmp x]) (tmps : Array Value) (P : Program) (w : World) :
    (results fn tmps).run P w = .ok (.tuple #[tmps.getD t undef, tmps.getD u undef, tmps.getD v undef, tmps.getD x undef]) w := by
  simp [results, h]
/-- what the reference tells of a day's date: year, month, date. -/
structure DateIs (day : Int) (y m d : Int) : Prop where
  year : y = Cal.yr day
  ex : ∃ k : Nat, k ≤ 11 ∧ m = (k : Int) + 1 ∧ Cal.cum y k ≤ day - Cal.dn y ∧ day - Cal.dn y < Cal.cum y (k + 1) ∧ d = day - Cal.dn y - Cal.cum y k + 1
theorem DateIs.mk' {day y m d : Int} {k : Nat} (h : y = Cal.yr day) (hk : k ≤ 11) (hm : m = (k : Int) + 1) (h1 : Cal.cum y k ≤ day - Cal.dn y) (h2 : day - Cal.dn y < Cal.cum y (k + 1)) (h3 : d = day - Cal.dn y - Cal.cum y k + 1) : DateIs day y m d := ⟨h, k, hk, hm, h1, h2, h3⟩

theorem suml_ge (y : Int) (k : Nat) : 365 * (k : Int) ≤ Cal.suml y k := by
  have := Cal.dn_mono y k
  rw [Cal.suml_dn]; omega
theorem cum_nonneg (y : Int) (k : Nat) : 0 ≤ Cal.cum y k := by
  induction k with
  | zero => simp [Cal.cum]
  | succ k ih => have := Cal.ml_bounds y ((k : Int) + 1); rw [Cal.cum]; omega
theorem era_dn (q : Int) : Cal.dn (2000 + q * 400) = 146097 * q - 2 := by
  have := Cal.dn_era 2000 q
  rw [Cal.dn2000, show 2000 + 400 * q = 2000 + q * 400 by omega] at this; omega

set_option maxHeartbeats 2000000 in
set_option maxRecDepth 100000 in
theorem rdateOf_any (day : Int) (w : World) : Calls Tryz.prog 19 #[.int .i64 day] w fun e w' =>
    (if dayB day = true then ∃ y m d : Int, DateIs day y m d ∧ e = .returned (.tuple #[.int .i64 y, .int .i64 m, .int .i64 d, .int .i64 0]) else e = .returned (.tuple #[.int .i64 0, .int .i64 0, .int .i64 0, .int .i64 9])) ∧ w = w' := by
  have ho := Lib.hid (outside_any day 0 999999)
  cases h : dayB day
  · have e1 : (decide (day < 0) || decide (999999 < day)) = true := by
      unfold dayB at h; simp at h ⊢; omega
    rw [e1] at ho
    clear h e1
    go_enter Tryz.func19, Tryz.ntmps19
    go_wp2_with fail
    refine (ho.out _).mono ?_
    rintro e w1 ⟨rfl, rfl⟩
    go_wp2
    refine bodyPost_ret (results_tmp4 rfl _ _ _) rfl ?_
    exact ⟨rfl, rfl⟩
  · obtain ⟨h0, h1⟩ := dayB_true h
    have e1 : (decide (day < 0) || decide (999999 < day)) = false := by simp; omega
    rw [e1] at ho
    clear h e1
    obtain ⟨q, hq⟩ : ∃ q, (day + 2) / 146097 = q := ⟨_, rfl⟩
    obtain ⟨n0, hn0⟩ : ∃ n0, (day + 2) % 146097 = n0 := ⟨_, rfl⟩
    have q0 : 0 ≤ q := by omega
    have q1 : q ≤ 6 := by omega
    have p0 : 0 ≤ n0 := by omega
    have p1 : n0 < 146097 := by omega
    have hday := Lib.hid (show day = 146097 * q + n0 - 2 by omega)
    have hE := Lib.hid (era_dn q)
    obtain ⟨Y0, hY0⟩ : ∃ Y0, 2000 + q * 400 = Y0 := ⟨_, rfl⟩
    have y0 : 2000 ≤ Y0 := by omega
    have y1 : Y0 ≤ 4400 := by omega
    rw [hY0] at hE
    go_enter Tryz.func19, Tryz.ntmps19
    go_wp2_with fail
    refine (ho.out _).mono ?_
    rintro e w1 ⟨rfl, rfl⟩
    go_wp2_with fail
    have HN0 := Lib.hid hn0
    clear hq hn0 hY0
    go_loop [2, 6] (fun yv nv => ∃ (k : Nat) (n : Int), yv = .int .i64 (Y0 + (k : Int)) ∧ nv = .int .i64 n ∧ 0 ≤ n ∧ n = n0 - Cal.suml Y0 k) (fun _ nv => (intOf nv).toNat)
    case atStart => exact ⟨0, n0, congrArg (Value.int .i64) (by omega), congrArg (Value.int .i64) HN0.out, p0, by simp [Cal.suml]⟩
    case round =>
      obtain ⟨k, n, rfl, rfl, hn, hre⟩ := hrel
      have hge := suml_ge Y0 k
      have n1 : n < 146097 := by omega
      have k1 : (k : Int) ≤ 401 := by omega
      have hyl := Lib.hid (yearLong_any (Y0 + (k : Int)))
      have hyc := Cal.yl_cases (Y0 + (k : Int))
      have yc0 : 365 ≤ Cal.yl (Y0 + (k : Int)) := by omega
      have yc1 : Cal.yl (Y0 + (k : Int)) ≤ 366 := by omega
      have hsucc := Lib.hid (show Cal.suml Y0 (k + 1) = Cal.suml Y0 k + Cal.yl (Y0 + k) from rfl)
      have Hre := Lib.hid hre
      clear hge hyc hre
      by_cases hlt : Cal.yl (Y0 + (k : Int)) ≤ n
      · generalize Cal.yl (Y0 + (k : Int)) = L at hyl hsucc yc0 yc1 hlt
        have c1 : decide (L ≤ n) = true := by rw [decide_eq_true_eq]; omega
        go_wp2_with fail
        refine (hyl.out _ (by omega)).mono ?_
        rintro e w1 ⟨rfl, rfl⟩
        go_wp2_with fail
        refine (hyl.out _ (by omega)).mono ?_
        rintro e w1 ⟨rfl, rfl⟩
        go_wp2
        go_round
        case rel => exact ⟨k + 1, n - L, congrArg (Value.int .i64) (by omega), rfl, by omega, by rw [hsucc.out, Hre.out]; omega⟩
        case measure => simp [intOf]; omega
      · have hd := Lib.hid (Cal.yl_dn (Y0 + (k : Int)))
        have hy := Lib.hid (Cal.suml_dn Y0 k)
        have hall := Lib.hid (Cal.cum_all (Y0 + (k : Int)))
        have hyr := Lib.hid (@Cal.yr_unique day (Y0 + (k : Int)))
        have Hlt := Lib.hid hlt
        have c1 : decide (Cal.yl (Y0 + (k : Int)) ≤ n) = false := by rw [decide_eq_false_iff_not]; omega
        have z0 : Cal.dn (Y0 + (k : Int)) = day - n := by rw [hday.out]; have := hd.out; have := hy.out; have := hE.out; have := Hre.out; omega
        have z1 : Cal.yr day = Y0 + (k : Int) := hyr.out (by omega) (by have := hd.out; omega)
        clear hlt
        have Z0 := Lib.hid z0
        have Z1 := Lib.hid z1
        clear z0 z1 hd hy hyr hsucc hE hday
        have Y1 : 0 ≤ Y0 + (k : Int) := by omega
        have Y2 : Y0 + (k : Int) ≤ 5000 := by omega
        generalize Y0 + (k : Int) = Y at *
        generalize Cal.yl Y = L at *
        go_wp2_with fail
        refine (hyl.out _ (by omega)).mono ?_
        rintro e w1 ⟨rfl, rfl⟩
        go_wp2_with fail
        go_loop [3, 6] (fun mv nv => ∃ (j : Nat) (m : Int), mv = .int .i64 ((j : Int) + 1) ∧ nv = .int .i64 m ∧ 0 ≤ m ∧ j ≤ 11 ∧ m = n - Cal.cum Y j) (fun mv _ => (13 - intOf mv).toNat)
        case atStart => exact ⟨0, n, rfl, rfl, hn, by omega, by simp [Cal.cum]⟩
        case round =>
          obtain ⟨j, m, rfl, rfl, hm, hj, hre⟩ := hrel
          have hml := Lib.hid (monthLong_any Y ((j : Int) + 1))
          have hmb := Cal.ml_bounds Y ((j : Int) + 1)
          have mc0 := hmb.1
          have mc1 := hmb.2
          have hsucc := Lib.hid (show Cal.cum Y (j + 1) = Cal.cum Y j + Cal.ml Y ((j : Int) + 1) from rfl)
          have hcn := cum_nonneg Y j
          have m1 : m < 146097 := by omega
          have Hre := Lib.hid hre
          clear hmb hre hcn
          generalize Cal.ml Y ((j : Int) + 1) = M at hml mc0 mc1 hsucc
          by_cases hlt : M ≤ m
          · have c2 : decide (M ≤ m) = true := by rw [decide_eq_true_eq]; omega
            have hj2 : j + 1 ≤ 11 := by
              by_cases hj11 : j = 11
              · have a := hsucc.out; have b := Hre.out; have d := Hlt.out
                subst hj11
                have c : Cal.cum Y (11 + 1) = L := hall.out
                omega
              · omega
            go_wp2_with fail
            refine (hml.out _ Y1).mono ?_
            rintro e w1 ⟨rfl, rfl⟩
            go_wp2_with fail
            refine (hml.out _ Y1).mono ?_
            rintro e w1 ⟨rfl, rfl⟩
            go_wp2
            go_round
            case rel => exact ⟨j + 1, m - M, congrArg (Value.int .i64) (by omega), rfl, by omega, hj2, by rw [hsucc.out, Hre.out]; omega⟩
            case measure => simp [intOf]; omega
          · have c2 : decide (M ≤ m) = false := by rw [decide_eq_false_iff_not]; omega
            have Hl2 := Lib.hid (show m < M by omega)
            clear hlt
            go_wp2_with fail
            refine (hml.out _ Y1).mono ?_
            rintro e w1 ⟨rfl, rfl⟩
            go_wp2
            refine bodyPost_ret (results_tmp4 rfl _ _ _) rfl ?_
            have a := Z0.out
            have b := Hre.out
            have c := hsucc.out
            have d := Hl2.out
            exact ⟨⟨_, _, _, DateIs.mk' Z1.out.symm hj rfl (by omega) (by omega) (by omega), rfl⟩, rfl⟩
end Go.Proofs.YthimnjegacdhaaaGreatDoor

/- Small lemmas on memory: what a world keeps. -/
namespace Go.Proofs.YthimnjegacdhaaaGreatDoor
open Go.RowKit

theorem below_cell {w w' : World} {p : Addr} {v : Value} (hb : Below w.heap.size w w') (h : w.cell? p = some v) : w'.cell? p = some v :=
  (hb.cell (World.block_lt_of_cell? w p h)).trans h
theorem below_al (w : World) (o : Obj) : Below w.heap.size w (w.alloc o) := (Below.refl _ _).alloc (Nat.le_refl _) _
theorem below_ad (w : World) (o : Obj) (n : Nat) : Below w.heap.size w ((w.alloc o).drewN n) := below_drewN (below_al w o) n
/-- two steps, each of which keeps all that was there -/
theorem below_tr {B : Nat} {a b c : World} (h : Below B a b) (hB : B ≤ b.heap.size) (k : Below b.heap.size b c) : Below B a c := h.trans (k.mono hB)
theorem below_step {a b c : World} (h : Below a.heap.size a b) (k : Below b.heap.size b c) : Below a.heap.size a c := h.trans (k.mono h.size)
end Go.Proofs.YthimnjegacdhaaaGreatDoor

/- A region that draws its order, whose operations only read, but whose callees may make memory: one walk in the order of the text (the kit's law wp_region_quiet at the class 'all that was there is as it was'). -/
namespace Go.Proofs.YthimnjegacdhaaaGreatDoor
open Go.RowKit Go.BigFrame

/-- a world in which all that was there is as it was -/
def Ext (W : World) : Type := { w : World // Below W.heap.size W w }
instance (W : World) : Nonempty (Ext W) := ⟨⟨W, Below.refl _ _⟩⟩
theorem Ext.ex {W : World} {p : Addr} {v : Value} (h : W.cell? p = some v) : ∀ X : Ext W, X.1.cell? p = some v := fun X => below_cell X.2 h
theorem Ext.exa {W : World} {p : Addr} {v : Value} (e : ∀ X : Ext W, X.1.cell? p = some v) : ∀ (X : Ext W) (o : Obj), (X.1.alloc o).cell? p = some v := fun X o => below_cell (below_al _ o) (e X)
theorem Ext.calls {P : Program} {W : World} {f : FuncId} {args : Array Value} {v : Value} (X : Ext W) (h : Calls P f args X.1 fun e w' => e = .returned v ∧ Below X.1.heap.size X.1 w') : Calls P f args X.1 fun e w'' => e = .returned v ∧ ∃ Y : Ext W, w'' = Y.1 :=
  h.mono fun _ w'' ⟨he, hb⟩ => ⟨he, ⟨w'', below_step X.2 hb⟩, rfl⟩
theorem Ext.same {P : Program} {W : World} {f : FuncId} {args : Array Value} {v : Value} (X : Ext W) (h : Calls P f args X.1 fun e w' => e = .returned v ∧ X.1 = w') : Calls P f args X.1 fun e w'' => e = .returned v ∧ ∃ Y : Ext W, w'' = Y.1 :=
  h.mono fun _ _ ⟨he, hb⟩ => ⟨he, X, hb.symm⟩
theorem wp_region_ext {P : Program} {id : Nat} {Q : Exit → Act → World → Prop} {a : Act} {W : World} (X : Ext W) {l : List Oper} (hm : P.follows .mixedOrders = true) (hB : Region.lexB .any l.toArray = true)
    (h : wpQuiet P l.toArray (fun w' => ∃ Y : Ext W, w' = Y.1) (fun a' => ∀ w', (∃ Y : Ext W, w' = Y.1) → Q .normal a' w') l a) : (Code.region id l.toArray true).wp P Q a X.1 :=
  wp_region_quiet (C := fun w' => ∃ Y : Ext W, w' = Y.1) hm hB ⟨⟨{ X.1 with drawn := X.1.drawn + 1 }, below_step X.2 ⟨rfl, rfl, rfl, Nat.le_refl _, fun _ _ => rfl⟩⟩, rfl⟩ (by simpa using h)
/-- the world behind an allocation of cells, under one name -/
theorem alloc_cells (w : World) (cs : Array Value) (T : TypeId) : ∃ W, w.alloc (.cells cs T) = W ∧ Below w.heap.size w W ∧ W.heap.size = w.heap.size + 1 ∧ ∀ i v, cs[i]? = some v → W.cell? ⟨w.heap.size, i, none⟩ = some v :=
  ⟨_, rfl, below_al _ _, by simp, fun i v h => by rw [World.cell?_alloc_at _ _ _ _ rfl, h]⟩
/-- go on in an arbitrary later world -/
theorem ext_wp {P : Program} {c : Code} {Q : Exit → Act → World → Prop} {a : Act} {W : World} (h : ∀ X : Ext W, c.wp P Q a X.1) : c.wp P Q a W := h ⟨W, Below.refl _ _⟩
theorem ext_calls {P : Program} {f : FuncId} {args : Array Value} {R : Ending → World → Prop} {W : World} (h : ∀ X : Ext W, Calls P f args X.1 R) : Calls P f args W R := h ⟨W, Below.refl _ _⟩
theorem Ext.down {W : World} (X : Ext W) {B : Nat} {w : World} (h : Below B w W) (hB : B ≤ W.heap.size) : Below B w X.1 := h.trans (X.2.mono hB)
/-- a later base -/
theorem Ext.re {W W' : World} (h : Below W.heap.size W W') {p : Addr} {v : Value} (e : ∀ X : Ext W, X.1.cell? p = some v) : ∀ X : Ext W', X.1.cell? p = some v := fun X => e ⟨X.1, below_step h X.2⟩
end Go.Proofs.YthimnjegacdhaaaGreatDoor

/- Slices of structs of one-cell fields that came in: how they read (any program). -/
namespace Go.Proofs.YthimnjegacdhaaaGreatDoor
open Go.RowKit Go.ChangeShapes Go.WideShapes Go.Deep

/-- a slice of structs of k one-cell fields, as it lies in memory: element i has the cells V i -/
structure RowK (w : World) (a : Option Addr) (len k : Nat) (V : Nat → List Value) : Prop where
  here : 0 < len → ∃ b off, a = some ⟨b, off, none⟩ ∧ b < w.heap.size ∧ ∀ i, i < len → ∀ j, j < k → w.cell? ⟨b, off + i * k + j, none⟩ = (V i)[j]?
theorem RowK.below {w w' : World} {a : Option Addr} {len k B : Nat} {V : Nat → List Value} (h : RowK w a len k V) (hb : Below B w w') (hB : w.heap.size ≤ B) : RowK w' a len k V := by
  refine ⟨fun hl => ?_⟩
  obtain ⟨b, off, rfl, hlt, hc⟩ := h.here hl
  exact ⟨b, off, rfl, Nat.lt_of_lt_of_le hlt hb.size, fun i hi j hj => (hb.cell (p := ⟨b, off + i * k + j, none⟩) (Nat.lt_of_lt_of_le hlt hB)).trans (hc i hi j hj)⟩

theorem RowK.at {w : World} {b off len k : Nat} {V : Nat → List Value} (h : RowK w (some ⟨b, off, none⟩) len k V) {i j : Nat} (hi : i < len) (hj : j < k) : w.cell? ⟨b, off + i * k + j, none⟩ = (V i)[j]? := by
  obtain ⟨b', off', he, _, hc⟩ := h.here (by omega)
  injection he with he
  injection he with h1 h2
  subst h1
  subst h2
  exact hc i hi j hj

section
variable {H : Type} {enc : TypeId × Value → H} {P : Program} {w : World} {base : Nat}
theorem open_rowK {t e : TypeId} {fs : Array Field} {fuel : Nat} {v : Value} {x : DataW H × List MemPlace} (ht : P.underlying t = some (.slice e)) (he : P.underlying e = some (.struct fs)) (hC : P.cellsOf e = fs.size) (hfs : 0 < fs.size)
    (hone : ∀ (i : Nat) (f : Field), fs[i]? = some f → f.offset = i ∧ P.cellsOf f.type = 1) (h : DataW.trod enc P w base (fun _ => true) true fuel t [v] = some x) :
    ∃ (a : Option Addr) (len cap : Nat) (V : Nat → List Value), v = .slice a len cap ∧ len ≤ cap ∧ cap ≤ maxLen ∧ RowK w a len fs.size V ∧
      ∀ i, i < len → (V i).length = fs.size ∧ ∀ (j : Nat) (f : Field), fs[j]? = some f → ∃ u n y, (V i)[j]? = some u ∧ DataW.trod enc P w base (fun _ => true) true n f.type [u] = some y := by
  rcases open_slice ht h with ⟨hc, _⟩ | ⟨a, len, cap, m, n, D, Pl, hc, _, hl, hm, hmm, _, hx⟩
  · simp only [List.cons.injEq, and_true] at hc
    exact ⟨none, 0, 0, fun _ => [], hc, Nat.le_refl _, Nat.zero_le _, ⟨fun h => absurd h (by omega)⟩, fun i hi => absurd hi (by omega)⟩
  · simp only [List.cons.injEq, and_true] at hc
    simp only [if_true] at hmm
    subst hmm
    have each : ∀ i, i < m → ∃ cs : List Value, cs.length = fs.size ∧ (∀ j, j < fs.size → w.cell? (a.add (i * fs.size + j)) = cs[j]?) ∧ ∀ (j : Nat) (f : Field), fs[j]? = some f → ∃ u n y, cs[j]? = some u ∧ DataW.trod enc P w base (fun _ => true) true n f.type [u] = some y := by
      intro i hi
      obtain ⟨cs, h1, h2⟩ := hx i hi
      rw [hC] at h1
      obtain ⟨_, hlen, hcell⟩ := World.cells?_some h1
      obtain ⟨xs, k, _, _, _, hxl, hf⟩ := DataW.trod_struct he h2
      refine ⟨cs, hlen, fun j hj => by rw [← add_add]; exact hcell j (by omega), fun j f hj => ?_⟩
      obtain ⟨o1, o2⟩ := hone j f hj
      have g := hf j f hj
      rw [o1, o2] at g
      have hjl : j < cs.length := by
        rw [hlen]
        exact (Array.getElem?_eq_some_iff.1 hj).1
      have hjx : j < xs.length := by rw [hxl]; rw [hlen] at hjl; exact hjl
      have e1 : (cs.drop j).take 1 = [cs[j]] := by rw [List.drop_eq_getElem_cons hjl]; rfl
      rw [e1, List.getElem?_eq_getElem hjx] at g
      exact ⟨cs[j], k, xs[j], List.getElem?_eq_getElem hjl, g⟩
    obtain ⟨V, hV⟩ := choose_lt each
    refine ⟨some a, len, m, V, hc, hl, hm, ⟨fun hl0 => ?_⟩, fun i hi => ⟨(hV i (by omega)).1, (hV i (by omega)).2.2⟩⟩
    obtain ⟨b, o, sp⟩ := a
    have hc0 : ∃ u, w.cell? ((⟨b, o, sp⟩ : Addr).add (0 * fs.size + 0)) = some u := by
      obtain ⟨g1, g2, g3⟩ := hV 0 (by omega)
      exact ⟨(V 0)[0]'(by omega), by rw [g2 0 hfs, List.getElem?_eq_getElem]⟩
    obtain ⟨u, hu⟩ := hc0
    have hspot : sp = none := by simpa [Addr.add] using World.cell?_spot hu
    subst hspot
    rw [Nat.zero_mul, add_plain] at hu
    refine ⟨b, o, rfl, World.block_lt_of_cell? w _ hu, fun i hi j hj => ?_⟩
    have := (hV i (by omega)).2.1 j hj
    rw [add_plain, ← Nat.add_assoc] at this
    exact this
end
end Go.Proofs.YthimnjegacdhaaaGreatDoor

/- Worlds in which all that was there is as it was, but for some blocks of the call's own; and drawn regions walked in an order of one's own: quiet operations as soon as they may come up, the others one by one. -/
namespace Go.Proofs.YthimnjegacdhaaaGreatDoor
open Go.RowKit Go.BigFrame

/-- all blocks but those in O are as they were -/
structure Kept (O : Nat → Prop) (w w' : World) : Prop where
  os : w'.os = w.os
  tape : w'.tape = w.tape
  output : w'.output = w.output
  size : w.heap.size ≤ w'.heap.size
  block : ∀ k, k < w.heap.size → ¬ O k → w'.heap[k]? = w.heap[k]?
theorem Kept.refl (O : Nat → Prop) (w : World) : Kept O w w := ⟨rfl, rfl, rfl, Nat.le_refl _, fun _ _ _ => rfl⟩
theorem Kept.trans {O : Nat → Prop} {a b c : World} (h : Kept O a b) (k : Kept O b c) : Kept O a c :=
  ⟨k.os.trans h.os, k.tape.trans h.tape, k.output.trans h.output, Nat.le_trans h.size k.size, fun i hi ho => (k.block i (Nat.lt_of_lt_of_le hi h.size) ho).trans (h.block i hi ho)⟩
theorem Kept.of_below {O : Nat → Prop} {a b : World} (h : Below a.heap.size a b) : Kept O a b := ⟨h.os, h.tape, h.output, h.size, fun k hk _ => h.block k hk⟩
theorem Kept.of_grown {O : Nat → Prop} {a b : World} {row : Option Nat} (h : a.grownBy b row) (hr : ∀ g, row = some g → g < a.heap.size → O g) : Kept O a b :=
  ⟨h.os, h.tape, h.output, h.size, fun k hk ho => h.block k hk (fun e => ho (hr k e.symm hk))⟩
theorem Kept.cell {O : Nat → Prop} {w w' : World} {p : Addr} {v : Value} (h : Kept O w w') (ho : ¬ O p.block) (hc : w.cell? p = some v) : w'.cell? p = some v :=
  (World.cell?_of_block (h.block p.block (World.block_lt_of_cell? w p hc) ho)).trans hc
theorem Kept.grown {O : Nat → Prop} {a b c : World} (h : Kept O a b) {row : Option Nat} (hg : b.grownBy c row) (hr : ∀ g, row = some g → g < a.heap.size → O g) : Kept O a c :=
  ⟨hg.os.trans h.os, hg.tape.trans h.tape, hg.output.trans h.output, Nat.le_trans h.size hg.size, fun k hk ho => (hg.block k (Nat.lt_of_lt_of_le hk h.size) (fun e => ho (hr k e.symm hk))).trans (h.block k hk ho)⟩
/-- below the base of the call, nothing has turned -/
theorem Kept.below {O : Nat → Prop} {B : Nat} {w a b : World} (hb : Below B w a) (h : Kept O a b) (hB : B ≤ a.heap.size) (hO : ∀ k, k < B → ¬ O k) : Below B w b :=
  hb.trans ⟨h.os, h.tape, h.output, h.size, fun k hk => h.block k (Nat.lt_of_lt_of_le hk hB) (hO k hk)⟩
theorem Kept.row {O : Nat → Prop} {w w' : World} {a : Option Addr} {len k : Nat} {V : Nat → List Value} (h : RowK w a len k V) (hk : Kept O w w') (hO : ∀ b off, a = some ⟨b, off, none⟩ → ¬ O b) : RowK w' a len k V := by
  refine ⟨fun hl => ?_⟩
  obtain ⟨b, off, rfl, hlt, hc⟩ := h.here hl
  exact ⟨b, off, rfl, Nat.lt_of_lt_of_le hlt hk.size, fun i hi j hj => (World.cell?_of_block (hk.block b hlt (hO _ _ rfl))).trans (hc i hi j hj)⟩
def ExtO (O : Nat → Prop) (W : World) : Type := { w : World // Kept O W w }
instance (O : Nat → Prop) (W : World) : Nonempty (ExtO O W) := ⟨⟨W, Kept.refl _ _⟩⟩
section
variable {O : Nat → Prop} {W : World}
theorem ExtO.ex {p : Addr} {v : Value} (ho : ¬ O p.block) (h : W.cell? p = some v) : ∀ X : ExtO O W, X.1.cell? p = some v := fun X => X.2.cell ho h
theorem ExtO.exa {p : Addr} {v : Value} (e : ∀ X : ExtO O W, X.1.cell? p = some v) : ∀ (X : ExtO O W) (o : Obj), (X.1.alloc o).cell? p = some v := fun X o => below_cell (below_al _ o) (e X)
theorem ExtO.re {W' : World} (h : Kept O W W') {p : Addr} {v : Value} (e : ∀ X : ExtO O W, X.1.cell? p = some v) : ∀ X : ExtO O W', X.1.cell? p = some v := fun X => e ⟨X.1, h.trans X.2⟩
theorem ExtO.calls {P : Program} {f : FuncId} {args : Array Value} {v : Value} (X : ExtO O W) (h : Calls P f args X.1 fun e w' => e = .returned v ∧ Below X.1.heap.size X.1 w') : Calls P f args X.1 fun e w'' => e = .returned v ∧ ∃ Y : ExtO O W, w'' = Y.1 :=
  h.mono fun _ w' ⟨he, hb⟩ => ⟨he, ⟨w', X.2.trans (Kept.of_below hb)⟩, rfl⟩
theorem ExtO.same {P : Program} {f : FuncId} {args : Array Value} {v : Value} (X : ExtO O W) (h : Calls P f args X.1 fun e w' => e = .returned v ∧ X.1 = w') : Calls P f args X.1 fun e w'' => e = .returned v ∧ ∃ Y : ExtO O W, w'' = Y.1 :=
  h.mono fun _ _ ⟨he, hb⟩ => ⟨he, X, hb.symm⟩
/-- go on in an arbitrary later world -/
theorem extO_wp {P : Program} {c : Code} {Q : Exit → Act → World → Prop} {a : Act} (h : ∀ X : ExtO O W, c.wp P Q a X.1) : c.wp P Q a W := h ⟨W, Kept.refl _ _⟩
theorem extO_calls {P : Program} {f : FuncId} {args : Array Value} {R : Ending → World → Prop} (h : ∀ X : ExtO O W, Calls P f args X.1 R) : Calls P f args W R := h ⟨W, Kept.refl _ _⟩
theorem ExtO.down (X : ExtO O W) {B : Nat} {w : World} (h : Below B w W) (hB : B ≤ W.heap.size) (hO : ∀ k, k < B → ¬ O k) : Below B w X.1 := Kept.below h X.2 hB hO
theorem wp_region_extO {P : Program} {id : Nat} {Q : Exit → Act → World → Prop} {a : Act} (X : ExtO O W) {l : List Oper} (hm : P.follows .mixedOrders = true) (hB : Region.lexB .any l.toArray = true)
    (h : wpQuiet P l.toArray (fun w' => ∃ Y : ExtO O W, w' = Y.1) (fun a' => ∀ w', (∃ Y : ExtO O W, w' = Y.1) → Q .normal a' w') l a) : (Code.region id l.toArray true).wp P Q a X.1 :=
  wp_region_quiet (C := fun w' => ∃ Y : ExtO O W, w' = Y.1) hm hB ⟨⟨{ X.1 with drawn := X.1.drawn + 1 }, X.2.trans ⟨rfl, rfl, rfl, Nat.le_refl _, fun _ _ _ => rfl⟩⟩, rfl⟩ (by simpa using h)
end

/-- operations that yield a value and do nothing else -/
def isCalm : Op → Bool
  | .move _ | .assign _ | .pick .. | .build .. | .load .. | .binOp .. | .unOp .. | .fieldAddr .. | .field .. | .indexAddr .. | .index .. | .lookup .. | .extract .. | .slice .. => true
  | _ => false
theorem run_val {α : Type} {P : Program} {s : Sem α} (f : α → Value) {w w' : World} {n : Next} (h : (do pure (Next.value (f (← s))) : Sem Next).run P w = .ok n w') : ∃ x, n = .value x := by
  rw [Sem.run_bind] at h
  cases hs : s.run P w with
  | ok x w1 => rw [hs] at h; simp at h; exact ⟨f x, h.1.symm⟩
  | halt e w1 => rw [hs] at h; simp at h
theorem calm_value {P : Program} {o : Oper} {ρ : Operand → Value} {w w' : World} {n : Next} (hc : isCalm o.op = true) (h : (execOp ρ o).run P w = .ok n w') : ∃ x, n = .value x := by
  obtain ⟨dst, op, type, pos, after, guard⟩ := o
  cases op <;> first | (simp [isCalm] at hc; done) | (simp only [execOp] at h; first | exact run_val (fun x => x) h | exact run_val (fun b : Bool => if b then _ else _) h | (simp at h; exact ⟨_, h.1.symm⟩))
section
variable {P : Program} {ops : Array Oper} {Q : Exit → Act → World → Prop} {C : World → Prop}
theorem yieldsIf_of_quiet {o : Oper} {a : Act} {v : Value} (hc : isCalm o.op = true) (hw : Region.wanted o (yielded ops a.tmps) = true) (h : ∀ w, C w → o.quietAt P a C w v) : YieldsIf P ops C o v a := by
  refine Or.inl ⟨hw, fun w hC => ?_⟩
  have h1 := h w hC
  unfold Oper.quietAt at h1
  cases hr : (execOp a.eval o).run P w with
  | ok n w' =>
    rw [hr] at h1
    obtain ⟨x, rfl⟩ := calm_value hc hr
    simp only [Oper.quietUpon] at h1
    rw [h1.1, h1.2]
  | halt e w' => rw [hr] at h1; simp [Oper.quietUpon] at h1
/-- may these come up now, one behind the other, and is each apart from all that could come before it? -/
def calmB (ops : Array Oper) : List Nat → Array Bool → Bool
  | [], _ => true
  | i :: is, listed => ((ops[i]?).map fun o => isCalm o.op).getD false && Region.free .any ops listed i && (Region.ready .any ops listed).contains i && calmB ops is (listed.setIfInBounds i true)
def listAll (is : List Nat) (listed : Array Bool) : Array Bool := is.foldl (fun l i => l.setIfInBounds i true) listed
theorem held_calm (hsel : Region.noSelect ops = true) (hQ : ∀ c a d v w, Q (.panic c) (Act.put a d v) w → Q (.panic c) a w) {w : World} (hC : C w) : ∀ (is : List Nat) (fuel : Nat) (listed : Array Bool) (a : Act),
    calmB ops is listed = true → wpQuiet P ops C (fun a' => wpAnyH P .any ops Q C fuel (listAll is listed) a' w) (is.filterMap fun i => ops[i]?) a → wpAnyH P .any ops Q C (fuel + is.length) listed a w
  | [], _, _, _, _, h => h
  | i :: is, fuel, listed, a, hB, h => by
    simp only [calmB, Bool.and_eq_true] at hB
    obtain ⟨⟨⟨h1, h2⟩, h3⟩, h4⟩ := hB
    cases ho : ops[i]? with
    | none => rw [ho] at h1; simp at h1
    | some o =>
      rw [ho] at h1
      simp only [Option.map_some, Option.getD_some] at h1
      rw [List.filterMap_cons, ho] at h
      simp only [wpQuiet] at h
      have e : fuel + (i :: is).length = (fuel + is.length) + 1 := by simp; omega
      rw [e]
      by_cases hw : Region.wanted o (yielded ops a.tmps) = true
      · rw [if_pos hw] at h
        obtain ⟨v, hv, hn⟩ := h
        exact wpAnyH_take ho hsel h2 h3 (fun c a w => hQ c a _ _ w) (yieldsIf_of_quiet h1 hw hv) hC (held_calm hsel hQ hC is fuel _ _ h4 hn)
      · rw [if_neg hw] at h
        exact wpAnyH_take ho hsel h2 h3 (fun c a w => hQ c a _ _ w) (Or.inr ⟨by simpa using hw, rfl⟩) hC (held_calm hsel hQ hC is fuel _ _ h4 h)
/-- the i-th of a list, by looking -/
def nth : List Oper → Nat → Option Oper
  | [], _ => none
  | o :: _, 0 => some o
  | _ :: l, i + 1 => nth l i
theorem nth_eq : ∀ (l : List Oper) (i : Nat), nth l i = l.toArray[i]?
  | [], i => by simp [nth]
  | o :: l, 0 => by simp [nth]
  | o :: l, i + 1 => by
    rw [nth, nth_eq l i]
    simp
theorem held_quiet {l : List Oper} (hsel : Region.noSelect l.toArray = true) (hQ : ∀ c a d v w, Q (.panic c) (Act.put a d v) w → Q (.panic c) a w) {w : World} (hC : C w) (is : List Nat) (fuel : Nat) (listed : Array Bool) (a : Act)
    (hB : calmB l.toArray is listed = true) (h : wpQuiet P l.toArray C (fun a' => wpAnyH P .any l.toArray Q C fuel (listAll is listed) a' w) (is.filterMap (nth l)) a) : wpAnyH P .any l.toArray Q C (fuel + is.length) listed a w :=
  held_calm hsel hQ hC is fuel listed a hB (by rw [show (fun i => l.toArray[i]?) = nth l from funext fun i => (nth_eq l i).symm]; exact h)
/-- one operation that alone may come up -/
theorem held_do {l : List Oper} {i fuel : Nat} {listed : Array Bool} {a : Act} {w : World} (o : Oper) (hi : nth l i = some o) (hr : Region.ready .any l.toArray listed = [i]) (hw : Region.wanted o (yielded l.toArray a.tmps) = true)
    (h : ∀ K : Act → World → Prop, (∀ a' w', C w' → wpAnyH P .any l.toArray Q C fuel (listed.setIfInBounds i true) a' w' → K a' w') → o.wp P a w K Q) : wpAnyH P .any l.toArray Q C (fuel + 1) listed a w := by
  rw [nth_eq] at hi
  refine wpAnyH_all hr (by simp) fun j hj => ?_
  simp only [List.mem_singleton] at hj
  subst hj
  unfold wpOp
  simp only [hi, hw, if_true]
  exact Or.inl (h _ fun a' w' h1 h2 => ⟨h1, h2⟩)
theorem held_start {id : Nat} {a : Act} {w : World} {l : List Oper} (hm : P.follows .mixedOrders = true)
    (h : wpAnyH P .any l.toArray Q C l.length (Array.replicate l.length false) a { w with drawn := w.drawn + 1 }) : (Code.region id l.toArray true).wp P Q a w :=
  wp_region_held hm (by simpa using h)
end
end Go.Proofs.YthimnjegacdhaaaGreatDoor

/- DayOf and DateOf of both. -/
namespace Go.Proofs.YthimnjegacdhaaaGreatDoor
open Go.RowKit Go.BigFrame
open Cal (dayOfF rdayOfF rdayN ml)

set_option maxHeartbeats 4000000 in
set_option maxRecDepth 100000 in
theorem dayOf_any (y m d : Int) (w : World) : Calls Tryz.prog 16 #[.int .i64 y, .int .i64 m, .int .i64 d] w fun e w' => e = scRet (dayOfF y m d) ∧ w = w' := by
  by_cases hr : 2000 ≤ y ∧ y ≤ 9999 ∧ 1 ≤ m ∧ m ≤ 12 ∧ 1 ≤ d ∧ d ≤ 31
  case neg =>
    have HX := Lib.hid (show dayOfF y m d = (0, 9) from if_neg (fun h => hr h.1))
    have END : Hid (scRet (dayOfF y m d) = .returned (.tuple #[.int .i64 0, .int .i64 9])) := Lib.hid (by rw [HX.out]; rfl)
    rw [END.out]
    by_cases a1 : y < 2000
    · have c1 : decide (y < 2000) = true := by simpa using a1
      clear hr
      go_enter Tryz.func16, Tryz.ntmps16
      go_wp2
      go_ret2
      exact ⟨rfl, rfl⟩
    have c1 : decide (y < 2000) = false := by simpa using a1
    by_cases a2 : 9999 < y
    · have c2 : decide (9999 < y) = true := by simpa using a2
      clear hr
      go_enter Tryz.func16, Tryz.ntmps16
      go_wp2
      go_ret2
      exact ⟨rfl, rfl⟩
    have c2 : decide (9999 < y) = false := by simpa using a2
    by_cases a3 : m < 1
    · have c3 : decide (m < 1) = true := by simpa using a3
      clear hr
      go_enter Tryz.func16, Tryz.ntmps16
      go_wp2
      go_ret2
      exact ⟨rfl, rfl⟩
    have c3 : decide (m < 1) = false := by simpa using a3
    by_cases a4 : 12 < m
    · have c4 : decide (12 < m) = true := by simpa using a4
      clear hr
      go_enter Tryz.func16, Tryz.ntmps16
      go_wp2
      go_ret2
      exact ⟨rfl, rfl⟩
    have c4 : decide (12 < m) = false := by simpa using a4
    by_cases a5 : d < 1
    · have c5 : decide (d < 1) = true := by simpa using a5
      clear hr
      go_enter Tryz.func16, Tryz.ntmps16
      go_wp2
      go_ret2
      exact ⟨rfl, rfl⟩
    have c5 : decide (d < 1) = false := by simpa using a5
    have a6 : 31 < d := by omega
    have c6 : decide (31 < d) = true := by simpa using a6
    clear hr
    go_enter Tryz.func16, Tryz.ntmps16
    go_wp2
    go_ret2
    exact ⟨rfl, rfl⟩
  case pos =>
    have HR := Lib.hid hr
    obtain ⟨h1, h2, h3, h4, h5, h6⟩ := hr
    have c1 : decide (y < 2000) = false := by rw [decide_eq_false_iff_not]; omega
    have c2 : decide (9999 < y) = false := by rw [decide_eq_false_iff_not]; omega
    have c3 : decide (m < 1) = false := by rw [decide_eq_false_iff_not]; omega
    have c4 : decide (12 < m) = false := by rw [decide_eq_false_iff_not]; omega
    have c5 : decide (d < 1) = false := by rw [decide_eq_false_iff_not]; omega
    have c6 : decide (31 < d) = false := by rw [decide_eq_false_iff_not]; omega
    have D1 := Lib.hid (fun W => dayNumber_any y m d W (by omega) (by omega) h3 h4 h5 h6)
    have HD := Lib.hid (show dayOfF y m d = if (2000 ≤ y ∧ y ≤ 9999 ∧ 1 ≤ m ∧ m ≤ 12 ∧ 1 ≤ d ∧ d ≤ 31) ∧ (0 ≤ Cal.dayNum y m d ∧ Cal.dayNum y m d ≤ 999999) ∧ Cal.yearOf (Cal.dayNum y m d) = y ∧ Cal.monthOf (Cal.dayNum y m d) = m ∧ Cal.dateOf (Cal.dayNum y m d) = d then (Cal.dayNum y m d, 0) else (0, 9) from rfl)
    obtain ⟨n, hn⟩ : ∃ n, Cal.dayNum y m d = n := ⟨_, rfl⟩
    rw [hn] at D1 HD
    clear hn
    have D2 := Lib.hid (fun W => isDay_any n W)
    cases hdb : dayB n
    · rw [hdb] at D2
      have HX := Lib.hid (HD.out.trans (if_neg (fun h => by
        have : dayB n = true := by unfold dayB; simpa using h.2.1
        rw [hdb] at this
        cases this)))
      clear hdb HD h1 h2 h3 h4 h5 h6
      rw [HX.out]
      go_enter Tryz.func16, Tryz.ntmps16
      go_upto_region 4 with (go_at_call 45; refine (D1.out _).mono ?_; rintro e _ ⟨rfl, rfl⟩)
      go_wp2_with (go_at_call 46; refine (D2.out _).mono ?_; rintro e _ ⟨rfl, rfl⟩)
      go_ret2
      exact ⟨rfl, rfl⟩
    · rw [hdb] at D2
      have hdt := dayB_true hdb
      have D3 := Lib.hid (fun W => dateOf_any n W (by omega) (by omega))
      have HE := Lib.hid (fun (h : Cal.yearOf n = y ∧ Cal.monthOf n = m ∧ Cal.dateOf n = d) => HD.out.trans (if_pos ⟨HR.out, hdt, h⟩))
      have HN := Lib.hid (fun (h : ¬ (Cal.yearOf n = y ∧ Cal.monthOf n = m ∧ Cal.dateOf n = d)) => HD.out.trans (if_neg (fun x => h x.2.2)))
      obtain ⟨yy, hyy⟩ : ∃ x, Cal.yearOf n = x := ⟨_, rfl⟩
      obtain ⟨mm, hmm⟩ : ∃ x, Cal.monthOf n = x := ⟨_, rfl⟩
      obtain ⟨dd, hdd⟩ : ∃ x, Cal.dateOf n = x := ⟨_, rfl⟩
      rw [hyy, hmm, hdd] at D3 HE HN
      clear hyy hmm hdd hdb HD h1 h2 h3 h4 h5 h6 HR
      by_cases e1 : yy = y
      case neg =>
        have b1 : (yy == y) = false := by simpa using e1
        have b1' : (yy != y) = true := by rw [bne, b1]; rfl
        rw [HN.out (fun h => e1 h.1)]
        clear e1 HE HN
        go_enter Tryz.func16, Tryz.ntmps16
        go_upto_region 4 with (go_at_call 45; refine (D1.out _).mono ?_; rintro e _ ⟨rfl, rfl⟩)
        go_upto_region 6 with (go_at_call 46; refine (D2.out _).mono ?_; rintro e _ ⟨rfl, rfl⟩)
        go_upto_region 7 with (go_at_call 47; refine (D3.out _).mono ?_; rintro e _ ⟨rfl, rfl⟩)
        go_wp2
        go_ret2
        exact ⟨rfl, rfl⟩
      case pos =>
      have b1 : (yy == y) = true := by simpa using e1
      have b1' : (yy != y) = false := by rw [bne, b1]; rfl
      by_cases e2 : mm = m
      case neg =>
        have b2 : (mm == m) = false := by simpa using e2
        have b2' : (mm != m) = true := by rw [bne, b2]; rfl
        rw [HN.out (fun h => e2 h.2.1)]
        clear e1 e2 HE HN
        go_enter Tryz.func16, Tryz.ntmps16
        go_upto_region 4 with (go_at_call 45; refine (D1.out _).mono ?_; rintro e _ ⟨rfl, rfl⟩)
        go_upto_region 6 with (go_at_call 46; refine (D2.out _).mono ?_; rintro e _ ⟨rfl, rfl⟩)
        go_upto_region 7 with (go_at_call 47; refine (D3.out _).mono ?_; rintro e _ ⟨rfl, rfl⟩)
        go_wp2
        go_ret2
        exact ⟨rfl, rfl⟩
      case pos =>
      have b2 : (mm == m) = true := by simpa using e2
      have b2' : (mm != m) = false := by rw [bne, b2]; rfl
      by_cases e3 : dd = d
      case neg =>
        have b3 : (dd == d) = false := by simpa using e3
        have b3' : (dd != d) = true := by rw [bne, b3]; rfl
        rw [HN.out (fun h => e3 h.2.2)]
        clear e1 e2 e3 HE HN
        go_enter Tryz.func16, Tryz.ntmps16
        go_upto_region 4 with (go_at_call 45; refine (D1.out _).mono ?_; rintro e _ ⟨rfl, rfl⟩)
        go_upto_region 6 with (go_at_call 46; refine (D2.out _).mono ?_; rintro e _ ⟨rfl, rfl⟩)
        go_upto_region 7 with (go_at_call 47; refine (D3.out _).mono ?_; rintro e _ ⟨rfl, rfl⟩)
        go_wp2
        go_ret2
        exact ⟨rfl, rfl⟩
      case pos =>
        have b3 : (dd == d) = true := by simpa using e3
        have b3' : (dd != d) = false := by rw [bne, b3]; rfl
        rw [HE.out ⟨e1, e2, e3⟩]
        clear e1 e2 e3 HE HN
        go_enter Tryz.func16, Tryz.ntmps16
        go_upto_region 4 with (go_at_call 45; refine (D1.out _).mono ?_; rintro e _ ⟨rfl, rfl⟩)
        go_upto_region 6 with (go_at_call 46; refine (D2.out _).mono ?_; rintro e _ ⟨rfl, rfl⟩)
        go_upto_region 7 with (go_at_call 47; refine (D3.out _).mono ?_; rintro e _ ⟨rfl, rfl⟩)
        go_wp2
        go_ret2
        exact ⟨rfl, rfl⟩
/-! ### of the reference -/
abbrev okDate (y m d : Int) : Prop := 1990 ≤ y ∧ y ≤ 4740 ∧ 1 ≤ m ∧ m ≤ 12 ∧ 1 ≤ d ∧ d ≤ ml y m
set_option maxHeartbeats 4000000 in
set_option maxRecDepth 100000 in
theorem rdayN_any (y m d : Int) (w : World) : Calls Tryz.prog 48 #[.int .i64 y, .int .i64 m, .int .i64 d] w fun e w' => ((¬ okDate y m d ∧ e = .returned (.tuple #[.int .i64 0, .bool false])) ∨ (okDate y m d ∧ e = .returned (.tuple #[.int .i64 (rdayN y m d), .bool true]))) ∧ w = w' := by
  have O1 := Lib.hid (fun W => outside_any y 1990 4740 W)
  have O2 := Lib.hid (fun W => outside_any m 1 12 W)
  by_cases hy : 1990 ≤ y ∧ y ≤ 4740
  case neg =>
    rw [show (decide (y < 1990) || decide (4740 < y)) = true by simp; omega] at O1
    have HX : Hid (¬ okDate y m d) := Lib.hid (fun h => hy ⟨h.1, h.2.1⟩)
    clear hy
    go_enter Tryz.func48, Tryz.ntmps48
    go_wp2_with (go_at_call 27; refine (O1.out _).mono ?_; rintro e _ ⟨rfl, rfl⟩)
    go_ret2
    exact ⟨Or.inl ⟨HX.out, rfl⟩, rfl⟩
  case pos =>
  rw [show (decide (y < 1990) || decide (4740 < y)) = false by simp; omega] at O1
  by_cases hm : 1 ≤ m ∧ m ≤ 12
  case neg =>
    rw [show (decide (m < 1) || decide (12 < m)) = true by simp; omega] at O2
    have HX : Hid (¬ okDate y m d) := Lib.hid (fun h => hm ⟨h.2.2.1, h.2.2.2.1⟩)
    clear hy hm
    go_enter Tryz.func48, Tryz.ntmps48
    go_wp2_with fail
    refine (O1.out _).mono ?_
    rintro e _ ⟨rfl, rfl⟩
    go_wp2_with fail
    refine (O2.out _).mono ?_
    rintro e _ ⟨rfl, rfl⟩
    go_wp2_with fail
    go_ret2
    exact ⟨Or.inl ⟨HX.out, rfl⟩, rfl⟩
  case pos =>
  rw [show (decide (m < 1) || decide (12 < m)) = false by simp; omega] at O2
  have M1 := Lib.hid (fun (mm : Int) W => monthLong_any y mm W (by omega))
  have hmb := Cal.ml_bounds y m
  have O3 := Lib.hid (fun W => outside_any d 1 (ml y m) W)
  have HML := Lib.hid (fun (k : Nat) => Cal.ml_bounds y ((k : Int) + 1))
  have M1m := Lib.hid (M1.out m)
  by_cases hd : 1 ≤ d ∧ d ≤ ml y m
  case neg =>
    rw [show (decide (d < 1) || decide (ml y m < d)) = true by simp; omega] at O3
    have HX : Hid (¬ okDate y m d) := Lib.hid (fun h => hd h.2.2.2.2)
    generalize ml y m = M at O3 M1m hmb
    clear hy hm hd
    go_enter Tryz.func48, Tryz.ntmps48
    go_wp2_with fail
    refine (O1.out _).mono ?_
    rintro e _ ⟨rfl, rfl⟩
    go_wp2_with fail
    refine (O2.out _).mono ?_
    rintro e _ ⟨rfl, rfl⟩
    go_wp2_with fail
    refine (M1m.out _).mono ?_
    rintro e _ ⟨rfl, rfl⟩
    go_wp2_with fail
    refine (O3.out _).mono ?_
    rintro e _ ⟨rfl, rfl⟩
    go_wp2_with fail
    go_ret2
    exact ⟨Or.inl ⟨HX.out, rfl⟩, rfl⟩
  case pos =>
  rw [show (decide (d < 1) || decide (ml y m < d)) = false by simp; omega] at O3
  have HX : Hid (okDate y m d) := Lib.hid ⟨hy.1, hy.2, hm.1, hm.2, hd.1, hd.2⟩
  have hd31 : 1 ≤ d ∧ d ≤ 31 := by omega
  generalize ml y m = M at O3 M1m hmb hd
  by_cases h2 : y < 2000
  · have c1 : decide (y < 2000) = true := by simpa using h2
    have HN := Lib.hid (show rdayN y m d = -1 from if_pos h2)
    clear hy hm hd h2
    go_enter Tryz.func48, Tryz.ntmps48
    go_wp2_with fail
    refine (O1.out _).mono ?_
    rintro e _ ⟨rfl, rfl⟩
    go_wp2_with fail
    refine (O2.out _).mono ?_
    rintro e _ ⟨rfl, rfl⟩
    go_wp2_with fail
    refine (M1m.out _).mono ?_
    rintro e _ ⟨rfl, rfl⟩
    go_wp2_with fail
    refine (O3.out _).mono ?_
    rintro e _ ⟨rfl, rfl⟩
    go_wp2_with fail
    go_ret2
    exact ⟨Or.inr ⟨HX.out, by rw [HN.out]; rfl⟩, rfl⟩
  · have c1 : decide (y < 2000) = false := by simpa using h2
    have HN := Lib.hid (show rdayN y m d = Cal.dn y + Cal.cum y (m - 1).toNat + d - 1 from if_neg h2)
    have B1 := Lib.hid (fun W => before_any y W (by omega) (by omega))
    have d0 : -2 ≤ Cal.dn y := by
      have h := Cal.dn_mono 2000 (y - 2000).toNat
      rw [show 2000 + (((y - 2000).toNat : Nat) : Int) = y by omega] at h
      have := dn_two.1; omega
    have d1 : Cal.dn y ≤ 10000000 := by
      have h := Cal.dn_mono y (4740 - y).toNat
      rw [show y + (((4740 - y).toNat : Nat) : Int) = 4740 by omega] at h
      have := dn_two.2; omega
    obtain ⟨D, hD⟩ : ∃ D, Cal.dn y = D := ⟨_, rfl⟩
    rw [hD] at B1 HN d0 d1
    clear hy hd h2 hD
    have hm1 := hm.1
    have hm2 := hm.2
    clear hm
    go_enter Tryz.func48, Tryz.ntmps48
    go_wp2_with fail
    refine (O1.out _).mono ?_
    rintro e w1 ⟨rfl, rfl⟩
    go_wp2_with fail
    refine (O2.out _).mono ?_
    rintro e w2 ⟨rfl, rfl⟩
    go_wp2_with fail
    refine (M1m.out _).mono ?_
    rintro e w3 ⟨rfl, rfl⟩
    go_wp2_with fail
    refine (O3.out _).mono ?_
    rintro e w4 ⟨rfl, rfl⟩
    go_wp2_with fail
    refine (B1.out _).mono ?_
    rintro e w5 ⟨rfl, rfl⟩
    go_wp2_with fail
    go_loopw [8, 9] (fun nv mv wr => ∃ (k : Nat), nv = .int .i64 (D + d - 1 + Cal.cum y k) ∧ mv = .int .i64 ((k : Int) + 1) ∧ (k : Int) + 1 ≤ m ∧ wr = w5 ∧ Cal.cum y k ≤ 31 * k ∧ 0 ≤ Cal.cum y k) (fun _ mv _ => (m - intOf mv).toNat)
    case atStart => exact ⟨0, by simp [Cal.cum]; omega, rfl, by omega, rfl, by simp [Cal.cum], by simp [Cal.cum]⟩
    case round =>
      obtain ⟨k, rfl, rfl, hkm, rfl, hc1, hc2⟩ := hrel
      have hml := HML.out k
      have hcs := Lib.hid (Cal.cum_succ y k)
      have MM := Lib.hid (M1.out ((k : Int) + 1))
      obtain ⟨C, hC⟩ : ∃ C, Cal.cum y k = C := ⟨_, rfl⟩
      have HC := Lib.hid hC
      rw [hC] at hc1 hc2 hcs ⊢
      obtain ⟨L, hL⟩ : ∃ L, ml y ((k : Int) + 1) = L := ⟨_, rfl⟩
      rw [hL] at hml MM hcs
      clear hC hL
      by_cases hlt : (k : Int) + 1 < m
      · have c2 : decide ((k : Int) + 1 < m) = true := by simpa using hlt
        go_wp2_with (go_at_call 50; refine (MM.out _).mono ?_; rintro e _ ⟨rfl, rfl⟩)
        go_roundw
        case rel => exact ⟨k + 1, by rw [hcs.out]; exact congrArg (Value.int .i64) (by omega), by go_num, by omega, by trivial, by rw [hcs.out]; omega, by rw [hcs.out]; omega⟩
        case measure => simp [intOf]; omega
      · have c2 : decide ((k : Int) + 1 < m) = false := by simpa using hlt
        have hk : (m - 1).toNat = k := by omega
        rw [hk, HC.out] at HN
        clear hlt hk
        go_wp2_with fail
        go_ret2
        exact ⟨Or.inr ⟨HX.out, by rw [HN.out]; exact congrArg (fun n => Ending.returned (.tuple #[.int .i64 n, .bool true])) (by omega)⟩, by trivial⟩
theorem rdayOf_any (y m d : Int) (w : World) : Calls Tryz.prog 17 #[.int .i64 y, .int .i64 m, .int .i64 d] w fun e w' => e = scRet (rdayOfF y m d) ∧ w = w' := by
  have D1 := Lib.hid (rdayN_any y m d w)
  have HF : Hid (rdayOfF y m d = if okDate y m d ∧ 0 ≤ rdayN y m d ∧ rdayN y m d ≤ 999999 then (rdayN y m d, 0) else (0, 9)) := Lib.hid rfl
  obtain ⟨n, hn⟩ : ∃ n, rdayN y m d = n := ⟨_, rfl⟩
  rw [hn] at D1 HF
  have O1 := Lib.hid (fun W => outside_any n 0 999999 W)
  clear hn
  go_enter Tryz.func17, Tryz.ntmps17
  go_wp2_with fail
  refine D1.out.mono ?_
  rintro e _ ⟨⟨hno, rfl⟩ | ⟨hok, rfl⟩, rfl⟩
  · have HX := Lib.hid (HF.out.trans (if_neg (fun h => hno h.1)))
    clear hno
    go_wp2_with fail
    go_ret2
    exact ⟨by rw [HX.out]; rfl, rfl⟩
  · by_cases h : 0 ≤ n ∧ n ≤ 999999
    · rw [show (decide (n < 0) || decide (999999 < n)) = false by simp; omega] at O1
      have HX := Lib.hid (HF.out.trans (if_pos ⟨hok, h⟩))
      clear hok h
      go_wp2_with (go_at_call 27; refine (O1.out _).mono ?_; rintro e _ ⟨rfl, rfl⟩)
      go_ret2
      exact ⟨by rw [HX.out]; rfl, rfl⟩
    · rw [show (decide (n < 0) || decide (999999 < n)) = true by simp; omega] at O1
      have HX := Lib.hid (HF.out.trans (if_neg (fun x => h x.2)))
      clear hok h
      go_wp2_with (go_at_call 27; refine (O1.out _).mono ?_; rintro e _ ⟨rfl, rfl⟩)
      go_ret2
      exact ⟨by rw [HX.out]; rfl, rfl⟩
/-! ### dates -/
def dateOfF (day : Int) : Int × Int × Int × Int := if dayB day = true then (Cal.yearOf day, Cal.monthOf day, Cal.dateOf day, 0) else (0, 0, 0, 9)
def quad (p : Int × Int × Int × Int) : Ending := .returned (.tuple #[.int .i64 p.1, .int .i64 p.2.1, .int .i64 p.2.2.1, .int .i64 p.2.2.2])
theorem dateOfP_any (day : Int) (w : World) : Calls Tryz.prog 18 #[.int .i64 day] w fun e w' => e = quad (dateOfF day) ∧ w = w' := by
  have D1 := Lib.hid (fun W => isDay_any day W)
  cases hb : dayB day
  · have HX := Lib.hid (show dateOfF day = (0, 0, 0, 9) by unfold dateOfF; rw [hb]; rfl)
    rw [hb] at D1
    rw [HX.out]
    clear hb
    go_enter Tryz.func18, Tryz.ntmps18
    go_wp2_with (go_at_call 46; refine (D1.out _).mono ?_; rintro e _ ⟨rfl, rfl⟩)
    exact bodyPost_ret (results_tmp4 rfl _ _ _) rfl ⟨rfl, rfl⟩
  · have hr := dayB_true hb
    have HX := Lib.hid (show dateOfF day = (Cal.yearOf day, Cal.monthOf day, Cal.dateOf day, 0) by unfold dateOfF; rw [hb]; rfl)
    have D2 := Lib.hid (fun W => dateOf_any day W (by omega) (by omega))
    rw [hb] at D1
    rw [HX.out]
    clear hb
    generalize Cal.yearOf day = y at D2 ⊢
    generalize Cal.monthOf day = m at D2 ⊢
    generalize Cal.dateOf day = d at D2 ⊢
    go_enter Tryz.func18, Tryz.ntmps18
    go_wp2_with (first
      | (go_at_call 46; refine (D1.out _).mono ?_; rintro e _ ⟨rfl, rfl⟩)
      | (go_at_call 47; refine (D2.out _).mono ?_; rintro e _ ⟨rfl, rfl⟩))
    exact bodyPost_ret (results_tmp4 rfl _ _ _) rfl ⟨rfl, rfl⟩
theorem rdateOfP_any (day : Int) (w : World) : Calls Tryz.prog 19 #[.int .i64 day] w fun e w' => e = quad (dateOfF day) ∧ w = w' := by
  refine (rdateOf_any day w).mono ?_
  rintro e w' ⟨h, hw⟩
  refine ⟨?_, hw⟩
  cases hb : dayB day
  · rw [hb, if_neg (by simp)] at h
    rw [h, show dateOfF day = (0, 0, 0, 9) by unfold dateOfF; rw [hb]; rfl]
    rfl
  · rw [hb, if_pos rfl] at h
    obtain ⟨y, m, d, hd, he⟩ := h
    obtain ⟨rfl, k, hk, rfl, h1, h2, rfl⟩ := hd
    have hx := Cal.date_of hk h1 h2
    rw [he, show dateOfF day = (Cal.yearOf day, Cal.monthOf day, Cal.dateOf day, 0) by unfold dateOfF; rw [hb]; rfl]
    unfold quad
    simp only
    rw [Cal.yearOf_yr, hx.1, hx.2]
end Go.Proofs.YthimnjegacdhaaaGreatDoor

/- Rows of digits and what they spell; numbers with two digits (plain). -/
namespace Rd
open Go.Lib (digitVal decFrom decNat atoi atoiAll itoa)

def sB (s : ByteArray) : List UInt8 := s.data.toList
theorem sB_inj {a b : ByteArray} (h : sB a = sB b) : a = b := by
  unfold sB at h
  cases a; cases b
  congr 1
  exact Array.toList_inj.1 h
def bt (l : List UInt8) : ByteArray := ⟨l.toArray⟩
def itoaB (n : Int) : ByteArray := bt (itoa n)
/-- the m bytes from p on are digits and spell n -/
structure DigRow (s : ByteArray) (p m : Nat) (n : Int) : Prop where
  le : p + m ≤ s.size
  dec : ∃ k : Nat, n = (k : Int) ∧ decFrom 0 ((sB s).drop p |>.take m) = some k
theorem DigRow.zero {s : ByteArray} {p : Nat} (h : p ≤ s.size) : DigRow s p 0 0 := ⟨h, 0, rfl, by simp [decFrom]⟩
theorem sB_get {s : ByteArray} {p : Nat} (h : p < s.size) : (sB s)[p]? = some s[p] := by
  unfold sB
  have : p < s.data.size := h
  rw [Array.getElem?_toList, Array.getElem?_eq_getElem this]
  rfl
theorem DigRow.next {s : ByteArray} {p m : Nat} {n : Int} (h : DigRow s p m n) (hd : digAt s (p + m) true = true) : DigRow s p (m + 1) (10 * n + ((byte s (p + m) : Int) - 48)) := by
  obtain ⟨_, hlt, h48, h57⟩ := digAt_true hd
  obtain ⟨k, hk, he⟩ := h.dec
  refine ⟨by omega, k * 10 + (byte s (p + m) - 48), by omega, ?_⟩
  refine Go.Lib.decFrom_take ((sB s).drop p) m 0 k (s[p + m]) _ he ?_ ?_
  · rw [List.getElem?_drop, sB_get hlt]
  · unfold digitVal
    rw [byte_lt hlt] at h48 h57 ⊢
    rw [if_pos ⟨h48, h57⟩]
theorem extract_list (s : ByteArray) (p q : Nat) : sB (s.extract p q) = ((sB s).drop p).take (q - p) := by
  unfold sB
  rw [ByteArray.data_extract, Array.toList_extract]
theorem ext_size {s : ByteArray} {p m : Nat} (h : p + m ≤ s.size) : (s.extract p (p + m)).size = m := by
  rw [ByteArray.size_extract]; omega
theorem ext_byte {s : ByteArray} {p m : Nat} (h : p + m ≤ s.size) (hm : 0 < m) : byte (s.extract p (p + m)) 0 = byte s p := by
  have e := ext_size h
  rw [byte_lt (by omega), byte_lt (by omega), ByteArray.getElem_extract]
  simp
theorem DigRow.lt {s : ByteArray} {p m : Nat} {n : Int} (h : DigRow s p m n) : 0 ≤ n ∧ n < 10 ^ m := by
  obtain ⟨k, hk, he⟩ := h.dec
  have h1 := Go.Lib.decFrom_lt _ 0 k he
  have h2 : (((sB s).drop p).take m).length = m := by
    have : (sB s).length = s.size := rfl
    rw [List.length_take, List.length_drop]
    have := h.le
    omega
  rw [h2] at h1
  subst hk
  refine ⟨by omega, ?_⟩
  have : k < 10 ^ m := by omega
  exact_mod_cast this
/-- what Atoi says of a row of digits -/
theorem DigRow.num {s : ByteArray} {p m : Nat} {n : Int} (h : DigRow s p m n) (h0 : 0 < m) (h18 : m ≤ 18) : atoiAll (sB (s.extract p (p + m))) = .ok n := by
  obtain ⟨k, hk, he⟩ := h.dec
  have h2 : (((sB s).drop p).take m).length = m := by
    have : (sB s).length = s.size := rfl
    rw [List.length_take, List.length_drop]
    have := h.le
    omega
  rw [extract_list, show p + m - p = m by omega, Go.Lib.atoiAll_short _ (by omega)]
  obtain ⟨l, hl⟩ : ∃ l, ((sB s).drop p).take m = l := ⟨_, rfl⟩
  rw [hl] at he h2 ⊢
  cases l with
  | nil => simp at h2; omega
  | cons a t =>
    obtain ⟨d, hd⟩ := Go.Lib.digit_of_decFrom _ 0 k he 0 a rfl
    have ha : 48 ≤ a.toNat ∧ a.toNat ≤ 57 := by
      unfold digitVal at hd
      split at hd
      · assumption
      · cases hd
    have e : Go.Lib.atoi (a :: t) = some n := by
      rw [Go.Lib.atoi, if_neg (by simp; intro e; rw [e] at ha; simp at ha), if_neg (by simp; intro e; rw [e] at ha; simp at ha), decNat, if_neg (by simp), he, hk]
      rfl
    rw [e]
    rfl
theorem DigRow.first {s : ByteArray} {p m : Nat} {n : Int} (h : DigRow s p m n) (hm : m = 1) : n = (byte s p : Int) - 48 ∧ 48 ≤ byte s p ∧ byte s p ≤ 57 := by
  subst hm
  obtain ⟨k, hk, he⟩ := h.dec
  have hl := h.le
  have h1 : ((sB s).drop p).take 1 = [s[p]] := by
    have hg := sB_get (s := s) (p := p) (by omega)
    cases hd : (sB s).drop p with
    | nil =>
      have := congrArg List.length hd
      rw [List.length_drop] at this
      have e : (sB s).length = s.size := rfl
      simp at this
      omega
    | cons a t =>
      have : ((sB s).drop p)[0]? = some a := by rw [hd]; rfl
      rw [List.getElem?_drop, Nat.add_zero, hg] at this
      injection this with this
      rw [this]; rfl
  rw [h1] at he
  simp only [decFrom] at he
  rw [byte_lt (by omega)]
  unfold digitVal at he
  by_cases hc : 48 ≤ (s[p]).toNat ∧ (s[p]).toNat ≤ 57
  · rw [if_pos hc] at he
    simp only [Option.some.injEq] at he
    omega
  · rw [if_neg hc] at he
    cases he

/-! ### two digits -/
def zeroB : ByteArray := ⟨#[48]⟩
def padB (n : Int) : ByteArray := if n < 10 then zeroB ++ itoaB n else itoaB n
theorem itoa_len {n : Int} (h0 : 0 ≤ n) (h1 : n < 100) : (itoaB n).size = if n < 10 then 1 else 2 := by
  have key : ∀ k : Fin 100, (itoa ((k.1 : Nat) : Int)).length = if ((k.1 : Nat) : Int) < 10 then 1 else 2 := by decide +kernel
  have := key ⟨n.toNat, by omega⟩
  rw [show ((n.toNat : Nat) : Int) = n by omega] at this
  exact this
theorem itoaB_size {n : Int} (h0 : -9223372036854775808 ≤ n) (h1 : n ≤ 9223372036854775807) : (itoaB n).size ≤ 21 := Go.Lib.itoa_length_le n h0 h1
theorem padB_size {n : Int} (h0 : 0 ≤ n) (h1 : n < 100) : (padB n).size = 2 := by
  have := itoa_len h0 h1
  unfold padB
  split
  · rename_i h
    rw [if_pos h] at this
    rw [ByteArray.size_append, this]
    rfl
  · rename_i h
    rw [if_neg h] at this
    exact this
theorem nil_app (t : ByteArray) : (⟨#[]⟩ : ByteArray) ++ t = t := by
  apply sB_inj
  simp [sB]
def durText (n : Int) : ByteArray :=
  if n < 3600 then itoaB (n / 60) ++ colon ++ padB (n % 60) else itoaB (n / 3600) ++ colon ++ padB (n / 60 % 60) ++ colon ++ padB (n % 60)
end Rd

/- What stays of the library's variables; numbers as texts and back (contracts). -/
namespace Go.Proofs.YthimnjegacdhaaaGreatDoor
open Go.RowKit Go.BigFrame
open Rd (sB sB_inj bt itoaB padB zeroB DigRow)

/-- what the variables of the library hold -/
structure Glo (w : World) : Prop where
  t : Lib.TabIs Tryz.prog w "internal/strconv.uint64pow10" .u64 Lib.pow10Tab
  s : ∃ tp p, w.var? Tryz.prog "strconv.ErrSyntax" = some #[.iface tp p]
  r : ∃ tp p, w.var? Tryz.prog "strconv.ErrRange" = some #[.iface tp p]
theorem var_below {w w' : World} {nm : String} {cs : Array Value} (h : w.var? Tryz.prog nm = some cs) (hb : Below w.heap.size w w') : w'.var? Tryz.prog nm = some cs := by
  unfold World.var? at h ⊢
  cases hg : Tryz.prog.globalNamed nm with
  | none => rw [hg] at h; cases h
  | some g =>
    rw [hg] at h
    simp only [Option.bind_some] at h ⊢
    have hl : g < w.heap.size := by
      rcases Nat.lt_or_ge g w.heap.size with h' | h'
      · exact h'
      · rw [Array.getElem?_eq_none h'] at h
        cases h
    rw [hb.block g hl]
    exact h
theorem Glo.below {w w' : World} (h : Glo w) (hb : Below w.heap.size w w') : Glo w' := by
  obtain ⟨t1, p1, h1⟩ := h.s
  obtain ⟨t2, p2, h2⟩ := h.r
  exact ⟨var_below h.t hb, ⟨t1, p1, var_below h1 hb⟩, ⟨t2, p2, var_below h2 hb⟩⟩
theorem below_grow (w : World) (k : Nat) (os : Array Obj) : Below w.heap.size w (Go.Sort.grow (w.drewN k) os) := by
  refine ⟨rfl, rfl, rfl, ?_, ?_⟩
  · simp [Go.Sort.grow]
  · intro i hi
    simp only [Go.Sort.grow, World.drewN]
    exact Array.getElem?_append_left hi
theorem itoa_any (n : Int) (h0 : -9223372036854775808 ≤ n) (h1 : n ≤ 9223372036854775807) (w : World) (hg : Glo w) :
    Calls Tryz.prog 30 #[.int .i64 n] w fun e w' => e = .returned (.string (itoaB n)) ∧ Below w.heap.size w w' := by
  refine (Tryz.strconv_Itoa n h0 h1 w hg.t).mono ?_
  rintro e w' ⟨rfl, k, os, rfl⟩
  exact ⟨rfl, below_grow w k os⟩
/-- Atoi at every text that is not too long -/
theorem atoi_every (s : ByteArray) (hs : s.size ≤ 1000000) (w : World) (hg : Glo w) :
    Calls Tryz.prog 109 #[.string s] w fun e w' => ∃ (n : Int) (ev : Value), e = .returned (.tuple #[.int .i64 n, ev]) ∧ Below w.heap.size w w' ∧ -9223372036854775808 ≤ n ∧ n ≤ 9223372036854775807 ∧ (∀ v, Lib.atoiAll (sB s) = .ok v → n = v) := by
  cases h : Lib.atoiAll s.data.toList
  case ok v =>
    have hb := Lib.atoiAll_bounds h
    refine (Tryz.strconv_Atoi_ok s (by omega) v h w).mono ?_
    rintro e w' ⟨rfl, hw⟩
    refine ⟨v, _, rfl, ?_, by omega, by omega, fun v' e => by rw [show sB s = s.data.toList from rfl, h] at e; injection e⟩
    rcases hw with rfl | ⟨t, rfl⟩
    · exact Below.refl _ _
    · exact Lib.bytesWorld_below _ _ _
  case range =>
    obtain ⟨tp, p, hv⟩ := hg.r
    refine (Tryz.strconv_Atoi_range_var s (by omega) h tp p w hv).mono ?_
    rintro e w' ⟨N, rfl, _, _, hb⟩
    refine ⟨_, _, rfl, hb, ?_, ?_, fun v e => by rw [show sB s = s.data.toList from rfl, h] at e; cases e⟩
    · unfold Lib.atoiSat
      split <;> omega
    · unfold Lib.atoiSat
      split <;> omega
  · obtain ⟨tp, p, hv⟩ := hg.s
    refine (Tryz.strconv_Atoi_syntax_var s (by omega) h tp p w hv).mono ?_
    rintro e w' ⟨N, rfl, _, _, hb⟩
    exact ⟨0, _, rfl, hb, by omega, by omega, fun v e => by rw [show sB s = s.data.toList from rfl, h] at e; cases e⟩
end Go.Proofs.YthimnjegacdhaaaGreatDoor

/- Forms of tokens in plain words; the reference's durations are the program's. -/
namespace Rd
/-- a part of a form -/
structure Tok where
  kind : Nat
  text : ByteArray
  low : Int
  high : Int
  digits : Nat
def litT (t : ByteArray) : Tok := ⟨1, t, 0, 0, 0⟩
def numT (low high : Int) (digits : Nat) : Tok := ⟨2, ⟨#[]⟩, low, high, digits⟩
def pairT (high : Int) : Tok := ⟨3, ⟨#[]⟩, 0, high, 0⟩
def partT (digits : Nat) : Tok := ⟨4, ⟨#[]⟩, 0, 0, digits⟩
/-- one to so many digits: value, how many, where -/
def rowLoop (s : ByteArray) (digits : Nat) (ok : Bool) : Nat → Int → Nat → Nat → Int × Nat × Nat
  | 0, n, m, p => (n, m, p)
  | f + 1, n, m, p => if m < digits ∧ digAt s p ok = true then rowLoop s digits ok f (10 * n + ((byte s p : Int) - 48)) (m + 1) (p + 1) else (n, m, p)
def rowAt (s : ByteArray) (digits : Nat) (ok : Bool) (p : Nat) : Int × Nat × Nat := rowLoop s digits ok digits 0 0 p
/-- what run hands back: the place, the value, whether it is complete -/
def runT (s : ByteArray) (t : Tok) (p : Nat) : Nat × Int × Bool :=
  if t.kind = 1 then let c := exactAt s t.text p true; (c.1, 0, c.2)
  else if t.kind = 3 then let x := pairAt s t.high p true; (x.2.1, x.1, x.2.2)
  else if t.kind = 2 then let x := numAt s t.digits t.low t.high true p; (x.2.2, x.1, numOk t.low true x)
  else let x := rowAt s t.digits true p; (x.2.2, x.1 * 10 ^ (t.digits - x.2.1), decide (0 < x.2.1))
def matchT (s : ByteArray) : List Tok → Nat → Nat × List Int × Bool
  | [], p => (p, [], decide (p = s.size))
  | t :: r, p => if (runT s t p).2.2 = true then ((matchT s r (runT s t p).1).1, (if t.kind = 1 then (matchT s r (runT s t p).1).2.1 else (runT s t p).2.1 :: (matchT s r (runT s t p).1).2.1), (matchT s r (runT s t p).1).2.2) else ((runT s t p).1, [], false)
def firstT (s : ByteArray) : List (List Tok) → Nat → Nat → Int × List Int × Nat
  | [], _, far => (-1, [], far)
  | f :: r, i, far => if (matchT s f 0).2.2 = true then ((i : Int), (matchT s f 0).2.1, 0) else firstT s r (i + 1) (max far (matchT s f 0).1)
/-- the first form that a text has -/
theorem firstT_none {s : ByteArray} : ∀ (l : List (List Tok)) (i far : Nat), (∀ f, f ∈ l → (matchT s f 0).2.2 = false) → firstT s l i far = (-1, [], l.foldl (fun a f => max a (matchT s f 0).1) far)
  | [], i, far, _ => rfl
  | f :: r, i, far, h => by
    unfold firstT
    rw [if_neg (by rw [h f (List.mem_cons_self ..)]; simp), firstT_none r (i + 1) _ (fun g hg => h g (List.mem_cons_of_mem _ hg))]
    rfl
theorem firstT_at {s : ByteArray} : ∀ (l : List (List Tok)) (i far k : Nat) (f : List Tok), l[k]? = some f → (matchT s f 0).2.2 = true → (∀ j g, j < k → l[j]? = some g → (matchT s g 0).2.2 = false) → firstT s l i far = (((i + k : Nat) : Int), (matchT s f 0).2.1, 0)
  | [], i, far, k, f, h, _, _ => by simp at h
  | g :: r, i, far, 0, f, h, hf, _ => by
    simp only [List.getElem?_cons_zero, Option.some.injEq] at h
    subst h
    unfold firstT
    rw [if_pos hf]; rfl
  | g :: r, i, far, k + 1, f, h, hf, hl => by
    unfold firstT
    rw [if_neg (by rw [hl 0 g (by omega) rfl]; simp)]
    rw [firstT_at r (i + 1) _ k f (by simpa using h) hf (fun j g' hj hg => hl (j + 1) g' (by omega) (by simpa using hg))]
    rw [show i + 1 + k = i + (k + 1) by omega]
theorem matchT_lit {s t : ByteArray} {r : List Tok} {p : Nat} : matchT s (litT t :: r) p = if (exactAt s t p true).2 = true then matchT s r (exactAt s t p true).1 else ((exactAt s t p true).1, [], false) := by
  rw [matchT]
  simp only [runT, litT, if_pos]
theorem matchT_num {s : ByteArray} {lo hi : Int} {d : Nat} {r : List Tok} {p : Nat} : matchT s (numT lo hi d :: r) p = if numOk lo true (numAt s d lo hi true p) = true then ((matchT s r (numAt s d lo hi true p).2.2).1, (numAt s d lo hi true p).1 :: (matchT s r (numAt s d lo hi true p).2.2).2.1, (matchT s r (numAt s d lo hi true p).2.2).2.2) else ((numAt s d lo hi true p).2.2, [], false) := by
  rw [matchT]
  simp [runT, numT]
theorem matchT_pair {s : ByteArray} {hi : Int} {r : List Tok} {p : Nat} : matchT s (pairT hi :: r) p = if (pairAt s hi p true).2.2 = true then ((matchT s r (pairAt s hi p true).2.1).1, (pairAt s hi p true).1 :: (matchT s r (pairAt s hi p true).2.1).2.1, (matchT s r (pairAt s hi p true).2.1).2.2) else ((pairAt s hi p true).2.1, [], false) := by
  rw [matchT]
  simp [runT, pairT]
theorem exactAt_no {s t : ByteArray} {p : Nat} : exactAt s t p false = (p, false) := rfl
theorem digAt_no {s : ByteArray} {p : Nat} : digAt s p false = false := rfl
theorem pairAt_no {s : ByteArray} {hi : Int} {p : Nat} : pairAt s hi p false = (0, p, false) := by
  unfold pairAt pairStep
  simp [digAt_no]
theorem numOk_no {lo : Int} {x : Int × Nat × Nat} : numOk lo false x = false := rfl
/-- short form -/
def shortT : List Tok := [numT 0 59 2, litT colon, pairT 59]
def longT : List Tok := [numT 1 999 3, litT colon, pairT 59, litT colon, pairT 59]
theorem short_match (s : ByteArray) (o : Int × Nat × Bool) (ho : shortF s = o) : (matchT s shortT 0).1 = o.2.1 ∧ (matchT s shortT 0).2.2 = (o.2.2 && decide (o.2.1 = s.size)) ∧ ((matchT s shortT 0).2.2 = true → ∃ a b, 0 ≤ a ∧ 0 ≤ b ∧ (matchT s shortT 0).2.1 = [a, b] ∧ o.1 = 60 * a + b) := by
  unfold shortT
  simp only [shortF] at ho
  rw [matchT_num]
  obtain ⟨x, hx⟩ : ∃ y, numAt s 2 0 59 true 0 = y := ⟨_, rfl⟩
  rw [hx] at ho ⊢
  obtain ⟨kx, hkx⟩ : ∃ k, numOk 0 true x = k := ⟨_, rfl⟩
  rw [hkx] at ho ⊢
  cases kx with
  | false =>
    simp only [exactAt_no, pairAt_no] at ho
    subst ho
    simp
  | true =>
    simp only [if_true] at ho ⊢
    rw [matchT_lit]
    obtain ⟨y, hy⟩ : ∃ y, exactAt s colon x.2.2 true = y := ⟨_, rfl⟩
    rw [hy] at ho ⊢
    obtain ⟨y1, y2⟩ := y
    cases y2 with
    | false =>
      simp only [pairAt_no] at ho
      subst ho
      simp
    | true =>
      simp only [if_true] at ho ⊢
      rw [matchT_pair]
      obtain ⟨z, hz⟩ : ∃ y, pairAt s 59 y1 true = y := ⟨_, rfl⟩
      rw [hz] at ho ⊢
      obtain ⟨z1, z2, z3⟩ := z
      cases z3 with
      | false =>
        simp only at ho
        subst ho
        simp
      | true =>
        simp only [if_true] at ho ⊢
        subst ho
        refine ⟨by simp [matchT], by simp [matchT], fun _ => ⟨x.1, z1, by have h := numAt_val s 2 0 59 true 0 (by omega); rw [hx] at h; exact h.1, by have h := pairAt_val s (most := 59) y1 true (by omega); rw [hz] at h; exact h.1, rfl, rfl⟩⟩
theorem long_match (s : ByteArray) (o : Int × Nat × Bool) (ho : longF s = o) : (matchT s longT 0).1 = o.2.1 ∧ (matchT s longT 0).2.2 = (o.2.2 && decide (o.2.1 = s.size)) ∧ ((matchT s longT 0).2.2 = true → ∃ a b c, 0 ≤ a ∧ 0 ≤ b ∧ 0 ≤ c ∧ (matchT s longT 0).2.1 = [a, b, c] ∧ o.1 = 3600 * a + 60 * b + c) := by
  unfold longT
  simp only [longF] at ho
  rw [matchT_num]
  obtain ⟨x, hx⟩ : ∃ y, numAt s 3 1 999 true 0 = y := ⟨_, rfl⟩
  rw [hx] at ho ⊢
  obtain ⟨kx, hkx⟩ : ∃ k, numOk 1 true x = k := ⟨_, rfl⟩
  rw [hkx] at ho ⊢
  cases kx with
  | false =>
    simp only [exactAt_no, pairAt_no] at ho
    subst ho
    simp
  | true =>
    simp only [if_true] at ho ⊢
    rw [matchT_lit]
    obtain ⟨y, hy⟩ : ∃ y, exactAt s colon x.2.2 true = y := ⟨_, rfl⟩
    rw [hy] at ho ⊢
    obtain ⟨y1, y2⟩ := y
    cases y2 with
    | false =>
      simp only [exactAt_no, pairAt_no] at ho
      subst ho
      simp
    | true =>
      simp only [if_true] at ho ⊢
      rw [matchT_pair]
      obtain ⟨z, hz⟩ : ∃ y, pairAt s 59 y1 true = y := ⟨_, rfl⟩
      rw [hz] at ho ⊢
      obtain ⟨z1, z2, z3⟩ := z
      cases z3 with
      | false =>
        simp only [exactAt_no, pairAt_no] at ho
        subst ho
        simp
      | true =>
        simp only [if_true] at ho ⊢
        rw [matchT_lit]
        obtain ⟨u, hu⟩ : ∃ y, exactAt s colon z2 true = y := ⟨_, rfl⟩
        rw [hu] at ho ⊢
        obtain ⟨u1, u2⟩ := u
        cases u2 with
        | false =>
          simp only [pairAt_no] at ho
          subst ho
          simp
        | true =>
          simp only [if_true] at ho ⊢
          rw [matchT_pair]
          obtain ⟨v, hv⟩ : ∃ y, pairAt s 59 u1 true = y := ⟨_, rfl⟩
          rw [hv] at ho ⊢
          obtain ⟨v1, v2, v3⟩ := v
          cases v3 with
          | false =>
            simp only at ho
            subst ho
            simp
          | true =>
            simp only [if_true] at ho ⊢
            subst ho
            refine ⟨by simp [matchT], by simp [matchT], fun _ => ⟨x.1, z1, v1, by have h := numAt_val s 3 1 999 true 0 (by omega); rw [hx] at h; exact h.1, by have h := pairAt_val s (most := 59) y1 true (by omega); rw [hz] at h; exact h.1, by have h := pairAt_val s (most := 59) u1 true (by omega); rw [hv] at h; exact h.1, rfl, rfl⟩⟩

/-! ### durations with letters -/
def num7 (s : ByteArray) (p : Nat) : Int × Nat × Nat := numAt s 7 0 9999999 true p
def byteT (c : Nat) : ByteArray := ⟨#[c.toUInt8]⟩
/-- the form of some letters -/
def lform : List Nat → List Tok
  | [] => []
  | c :: r => numT 0 9999999 7 :: litT (byteT c) :: lform r
theorem exact_one (s : ByteArray) (c p : Nat) (hc : c < 256) : exactAt s (byteT c) p true = if p < s.size ∧ byte s p = c then (p + 1, true) else (p, false) := by
  have h1 : (byteT c).size = 1 := rfl
  have h2 : byte (byteT c) 0 = c := by
    unfold byte
    rw [dif_pos (by rw [h1]; omega)]
    show (c.toUInt8).toNat = c
    simp
    omega
  unfold exactAt
  rw [if_pos rfl, h1]
  unfold exactLoop
  rw [h1, if_pos (by omega), h2]
  split
  · rfl
  · rfl
/-- goes one letter along -/
def stepL (s : ByteArray) (p c : Nat) : Bool := numOk 0 true (num7 s p) && (decide ((num7 s p).2.2 < s.size) && decide (byte s (num7 s p).2.2 = c))
theorem match_step {s : ByteArray} {c : Nat} {r : List Nat} {p : Nat} (hc : c < 256) : matchT s (lform (c :: r)) p =
    if stepL s p c = true then ((matchT s (lform r) ((num7 s p).2.2 + 1)).1, (num7 s p).1 :: (matchT s (lform r) ((num7 s p).2.2 + 1)).2.1, (matchT s (lform r) ((num7 s p).2.2 + 1)).2.2) else ((num7 s p).2.2, (if numOk 0 true (num7 s p) = true then [(num7 s p).1] else []), false) := by
  rw [show lform (c :: r) = numT 0 9999999 7 :: litT (byteT c) :: lform r from rfl, matchT_num]
  unfold stepL num7
  obtain ⟨x, hx⟩ : ∃ y, numAt s 7 0 9999999 true p = y := ⟨_, rfl⟩
  rw [hx]
  cases numOk 0 true x with
  | false => simp
  | true =>
    simp only [if_true, Bool.true_and]
    rw [matchT_lit, exact_one s c _ hc]
    by_cases h : x.2.2 < s.size ∧ byte s x.2.2 = c
    · rw [if_pos h]
      simp [h.1, h.2]
    · rw [if_neg h]
      have : (decide (x.2.2 < s.size) && decide (byte s x.2.2 = c)) = false := by
        rw [Bool.eq_false_iff]
        simpa using h
      rw [this]
      simp
/-- a row of letters out of those that are left, in order -/
inductive Sub : List Nat → List Nat → Prop
  | one {c L} : Sub [c] (c :: L)
  | more {c S L} : Sub S L → Sub (c :: S) (c :: L)
  | skip {c S L} : Sub S L → Sub S (c :: L)
theorem Sub.ne {S L : List Nat} (h : Sub S L) : S ≠ [] := by
  induction h with
  | one => simp
  | more _ _ => simp
  | skip _ ih => exact ih
/-- the letters behind one -/
def behind (c : Nat) : List Nat → List Nat
  | [] => []
  | d :: L => if d = c then L else behind c L
theorem Sub.weak {c : Nat} {S : List Nat} : ∀ {L : List Nat}, Sub S (behind c L) → Sub S L
  | [], h => h
  | d :: L, h => by
    unfold behind at h
    split at h
    · exact .skip h
    · exact .skip (Sub.weak h)
theorem Sub.head {c : Nat} {S L : List Nat} (h : Sub (c :: S) L) : c ∈ L ∧ (S = [] ∨ Sub S (behind c L)) := by
  generalize hq : c :: S = q at h
  induction h generalizing c S with
  | one =>
    injection hq with h1 h2
    subst h1 h2
    exact ⟨List.mem_cons_self .., Or.inl rfl⟩
  | more h0 _ =>
    injection hq with h1 h2
    subst h1 h2
    exact ⟨List.mem_cons_self .., Or.inr (by unfold behind; rw [if_pos rfl]; exact h0)⟩
  | skip h0 ih =>
    obtain ⟨h1, h2⟩ := ih hq
    refine ⟨List.mem_cons_of_mem _ h1, h2.imp id fun h3 => ?_⟩
    unfold behind
    split
    · exact h3.weak
    · exact h3
theorem Sub.cons {c : Nat} {S : List Nat} : ∀ {L : List Nat}, c ∈ L → (S = [] ∨ Sub S (behind c L)) → Sub (c :: S) L
  | [], h, _ => by cases h
  | d :: L, h, h2 => by
    unfold behind at h2
    by_cases e : d = c
    · rw [if_pos e] at h2
      subst e
      rcases h2 with rfl | h2
      · exact .one
      · exact .more h2
    · rw [if_neg e] at h2
      rcases List.mem_cons.1 h with h | h
      · exact absurd h.symm e
      · exact .skip (Sub.cons h h2)
theorem numLoop_ge (s : ByteArray) (digits : Nat) (least most : Int) (ok : Bool) : ∀ (f : Nat) (n : Int) (m p : Nat), p ≤ (numLoop s digits least most ok f n m p).2.2
  | 0, n, m, p => Nat.le_refl _
  | f + 1, n, m, p => by
    unfold numLoop
    split
    · split
      · exact Nat.le_refl _
      · exact Nat.le_trans (Nat.le_succ p) (numLoop_ge s digits least most ok f _ _ _)
    · exact Nat.le_refl _
theorem num7_ge (s : ByteArray) (p : Nat) : p ≤ (num7 s p).2.2 := numLoop_ge _ _ _ _ _ _ _ _ _
theorem num7_none {s : ByteArray} {p : Nat} (h : digAt s p true = false) : num7 s p = (0, 0, p) := numLoop_stop (by rw [h]; simp)
def unitL (c : Nat) : Int := if c = 104 then 3600 else if c = 109 then 60 else 1
def valL : List Nat → List Int → Int
  | c :: S, v :: l => v * unitL c + valL S l
  | _, _ => 0
/-- the program's lettered form over a list of letters -/
def lettL (s : ByteArray) : Nat → List Nat → Int → Nat → Int × Nat × Bool
  | 0, _, sum, p => (sum, p, true)
  | f + 1, L, sum, p =>
    if numOk 0 true (num7 s p) = true ∧ (num7 s p).2.2 < s.size ∧ byte s (num7 s p).2.2 ∈ L then
      if digAt s ((num7 s p).2.2 + 1) true = true ∧ behind (byte s (num7 s p).2.2) L ≠ [] then lettL s f (behind (byte s (num7 s p).2.2) L) (sum + (num7 s p).1 * unitL (byte s (num7 s p).2.2)) ((num7 s p).2.2 + 1)
      else (sum + (num7 s p).1 * unitL (byte s (num7 s p).2.2), (num7 s p).2.2 + 1, true)
    else (0, (num7 s p).2.2, false)
/-- the lettered form and the forms of the rows of letters say the same -/
structure LetOk (s : ByteArray) (L : List Nat) (sum : Int) (p : Nat) (o : Int × Nat × Bool) : Prop where
  most : ∀ S, Sub S L → (matchT s (lform S) p).1 ≤ o.2.1
  here : ∃ S, Sub S L ∧ (matchT s (lform S) p).1 = o.2.1
  good : ∀ S, Sub S L → (matchT s (lform S) p).2.2 = true → o.2.2 = true ∧ o.2.1 = s.size ∧ o.1 = sum + valL S (matchT s (lform S) p).2.1
  back : o.2.2 = true → o.2.1 = s.size → ∃ S, Sub S L ∧ (matchT s (lform S) p).2.2 = true
theorem behind_len {c : Nat} : ∀ {L : List Nat}, c ∈ L → (behind c L).length < L.length
  | [], h => by cases h
  | d :: L, h => by
    unfold behind
    split
    · simp
    · rename_i e
      rcases List.mem_cons.1 h with h | h
      · exact absurd h.symm e
      · have := behind_len h
        simp only [List.length_cons]; omega
theorem letOk (s : ByteArray) : ∀ (f : Nat) (L : List Nat) (sum : Int) (p : Nat), L ≠ [] → L.length ≤ f → (∀ c, c ∈ L → c < 256) → LetOk s L sum p (lettL s f L sum p) ∧ p ≤ (lettL s f L sum p).2.1
  | 0, L, sum, p, hL, hf, _ => absurd (List.eq_nil_of_length_eq_zero (Nat.le_zero.1 hf)) hL
  | f + 1, L, sum, p, hL, hf, hb => by
    obtain ⟨d, L0, hd⟩ : ∃ d L0, L = d :: L0 := by
      cases L with
      | nil => exact absurd rfl hL
      | cons d L0 => exact ⟨d, L0, rfl⟩
    have hge := num7_ge s p
    have step : ∀ S, Sub S L → ∃ c S', S = c :: S' ∧ c ∈ L ∧ c < 256 ∧ (S' = [] ∨ Sub S' (behind c L)) := fun S hS => by
      cases S with
      | nil => exact absurd rfl hS.ne
      | cons c S' =>
        obtain ⟨h1, h2⟩ := hS.head
        exact ⟨c, S', rfl, h1, hb c h1, h2⟩
    unfold lettL
    by_cases hgo : numOk 0 true (num7 s p) = true ∧ (num7 s p).2.2 < s.size ∧ byte s (num7 s p).2.2 ∈ L
    · rw [if_pos hgo]
      obtain ⟨h1, h2, h3⟩ := hgo
      obtain ⟨c, hc⟩ : ∃ c, byte s (num7 s p).2.2 = c := ⟨_, rfl⟩
      rw [hc] at h3 ⊢
      have yes : stepL s p c = true := by unfold stepL; rw [h1, hc]; simp [h2]
      have no : ∀ c', c' ≠ c → stepL s p c' = false := fun c' h => by
        unfold stepL
        rw [hc]
        simp only [Bool.and_eq_false_iff, decide_eq_false_iff_not]
        exact Or.inr (Or.inr fun e => h e.symm)
      have hc256 := hb c h3
      have m1 : matchT s (lform [c]) p = ((num7 s p).2.2 + 1, [(num7 s p).1], decide ((num7 s p).2.2 + 1 = s.size)) := by
        rw [match_step hc256, if_pos yes]; rfl
      have far : ∀ c' S', c' < 256 → c' ≠ c → ∃ l, matchT s (lform (c' :: S')) p = ((num7 s p).2.2, l, false) := fun c' S' h256 h => by
        rw [match_step h256, if_neg (by rw [no c' h]; simp)]
        exact ⟨_, rfl⟩
      have near : ∀ S', matchT s (lform (c :: S')) p = ((matchT s (lform S') ((num7 s p).2.2 + 1)).1, (num7 s p).1 :: (matchT s (lform S') ((num7 s p).2.2 + 1)).2.1, (matchT s (lform S') ((num7 s p).2.2 + 1)).2.2) := fun S' => by
        rw [match_step hc256, if_pos yes]
      by_cases hgo2 : digAt s ((num7 s p).2.2 + 1) true = true ∧ behind c L ≠ []
      · rw [if_pos hgo2]
        obtain ⟨hok, hge2⟩ := letOk s f (behind c L) (sum + (num7 s p).1 * unitL c) ((num7 s p).2.2 + 1) hgo2.2 (by have := behind_len h3; omega) (fun x hx => by
          have : ∀ {M : List Nat}, x ∈ behind c M → x ∈ M := by
            intro M
            induction M with
            | nil => exact id
            | cons y M ih =>
              unfold behind
              split
              · exact List.mem_cons_of_mem _
              · exact fun h => List.mem_cons_of_mem _ (ih h)
          exact hb x (this hx))
        have hlt := (digAt_true hgo2.1).2.1
        refine ⟨⟨fun S hS => ?_, ?_, fun S hS hm => ?_, fun g1 g2 => ?_⟩, by omega⟩
        · obtain ⟨c', S', rfl, hc', h256, hs'⟩ := step S hS
          by_cases e : c' = c
          · subst e
            rcases hs' with rfl | hs'
            · rw [m1]; exact hge2
            · rw [near]; exact hok.most _ hs'
          · rw [(far c' S' h256 e).choose_spec]
            show (num7 s p).2.2 ≤ _
            omega
        · obtain ⟨S, hS, he⟩ := hok.here
          exact ⟨c :: S, .cons h3 (Or.inr hS), by rw [near]; exact he⟩
        · obtain ⟨c', S', rfl, hc', h256, hs'⟩ := step S hS
          by_cases e : c' = c
          · subst e
            rcases hs' with rfl | hs'
            · rw [m1] at hm
              simp only [decide_eq_true_eq] at hm
              omega
            · rw [near] at hm ⊢
              obtain ⟨k1, k2, k3⟩ := hok.good _ hs' hm
              refine ⟨k1, k2, ?_⟩
              rw [k3]
              show _ = sum + ((num7 s p).1 * unitL c' + valL S' _)
              omega
          · rw [(far c' S' h256 e).choose_spec] at hm
            cases hm
        · obtain ⟨S, hS, he⟩ := hok.back g1 g2
          exact ⟨c :: S, .cons h3 (Or.inr hS), by rw [near]; exact he⟩
      · rw [if_neg hgo2]
        have rest : ∀ S', Sub S' (behind c L) → ∃ l, matchT s (lform S') ((num7 s p).2.2 + 1) = ((num7 s p).2.2 + 1, l, false) := fun S' hS' => by
          have hnd : digAt s ((num7 s p).2.2 + 1) true = false := by
            cases h : digAt s ((num7 s p).2.2 + 1) true with
            | false => rfl
            | true =>
              exfalso
              refine hgo2 ⟨h, fun e => ?_⟩
              rw [e] at hS'
              cases hS'
          cases S' with
          | nil => exact absurd rfl hS'.ne
          | cons c' S'' =>
            have h0 : c' < 256 := by
              have : c' ∈ behind c L := hS'.head.1
              have h1 : ∀ {M : List Nat}, c' ∈ behind c M → c' ∈ M := by
                intro M
                induction M with
                | nil => exact id
                | cons y M ih =>
                  unfold behind
                  split
                  · exact List.mem_cons_of_mem _
                  · exact fun h => List.mem_cons_of_mem _ (ih h)
              exact hb c' (h1 this)
            have e0 := num7_none hnd
            rw [match_step h0, if_neg (by unfold stepL; rw [e0]; simp [numOk]), e0]
            exact ⟨_, rfl⟩
        refine ⟨⟨fun S hS => ?_, ⟨[c], .cons h3 (Or.inl rfl), by rw [m1]⟩, fun S hS hm => ?_, fun g1 g2 => ⟨[c], .cons h3 (Or.inl rfl), by rw [m1]; simpa using g2⟩⟩, by show p ≤ (num7 s p).2.2 + 1; omega⟩
        · obtain ⟨c', S', rfl, hc', h256, hs'⟩ := step S hS
          by_cases e : c' = c
          · subst e
            rcases hs' with rfl | hs'
            · rw [m1]; exact Nat.le_refl _
            · rw [near, (rest _ hs').choose_spec]; exact Nat.le_refl _
          · rw [(far c' S' h256 e).choose_spec]
            exact Nat.le_succ _
        · obtain ⟨c', S', rfl, hc', h256, hs'⟩ := step S hS
          by_cases e : c' = c
          · subst e
            rcases hs' with rfl | hs'
            · rw [m1] at hm ⊢
              refine ⟨rfl, by simpa using hm, ?_⟩
              show sum + _ = sum + ((num7 s p).1 * unitL c' + 0)
              omega
            · rw [near, (rest _ hs').choose_spec] at hm
              cases hm
          · rw [(far c' S' h256 e).choose_spec] at hm
            cases hm
    · rw [if_neg hgo]
      have all : ∀ S, Sub S L → ∃ l, matchT s (lform S) p = ((num7 s p).2.2, l, false) := fun S hS => by
        obtain ⟨c', S', rfl, hc', h256, hs'⟩ := step S hS
        rw [match_step h256, if_neg]
        exact ⟨_, rfl⟩
        intro h
        unfold stepL at h
        simp only [Bool.and_eq_true, decide_eq_true_eq] at h
        exact hgo ⟨h.1, h.2.1, by rw [h.2.2]; exact hc'⟩
      refine ⟨⟨fun S hS => by rw [(all S hS).choose_spec]; exact Nat.le_refl _, ⟨[d], by rw [hd]; exact .one, by rw [(all [d] (by rw [hd]; exact .one)).choose_spec]⟩, fun S hS hm => ?_, fun g1 _ => by cases g1⟩, hge⟩
      rw [(all S hS).choose_spec] at hm
      cases hm
/-- the letters of the last m units -/
def lst : Nat → List Nat
  | 0 => []
  | 1 => [115]
  | 2 => [109, 115]
  | _ => [104, 109, 115]
theorem idx_none (l : List UInt8) (c : UInt8) (h : c ∉ l) : Go.Lib.indexByte l c = -1 := by
  induction l with
  | nil => rfl
  | cons b l ih =>
    unfold Go.Lib.indexByte
    have h1 : (b == c) = false := by
      rw [beq_eq_false_iff_ne]
      rintro rfl
      exact h (List.mem_cons_self ..)
    rw [h1, ih fun hm => h (List.mem_cons_of_mem _ hm)]
    rfl
theorem oneAt_lets (s : ByteArray) (m q : Nat) (hm : m ≤ 3) (hq : q < s.size) :
    (byte s q ∈ lst m → ∃ k : Int, oneAt s (lets m) q true = (k, q + 1, true) ∧ 0 ≤ k ∧ unitOf (k + 3 - m) = unitL (byte s q) ∧ lst (m - (k + 1).toNat) = behind (byte s q) (lst m) ∧ m - (k + 1).toNat ≤ 3 ∧ m - (k + 1).toNat < m) ∧
    (byte s q ∉ lst m → oneAt s (lets m) q true = (-1, q, false)) := by
  have hb := byte_le s q
  obtain ⟨b, he⟩ : ∃ b, byte s q = b := ⟨_, rfl⟩
  unfold oneAt
  rw [if_pos ⟨rfl, hq⟩, he]
  rw [he] at hb
  by_cases b1 : b = 104
  · subst b1
    have : m = 0 ∨ m = 1 ∨ m = 2 ∨ m = 3 := by omega
    rcases this with rfl | rfl | rfl | rfl
    · exact ⟨fun h => absurd h (by decide), fun _ => by rfl⟩
    · exact ⟨fun h => absurd h (by decide), fun _ => by rfl⟩
    · exact ⟨fun h => absurd h (by decide), fun _ => by rfl⟩
    · exact ⟨fun _ => ⟨0, by rfl, by decide, by decide, by decide, by decide, by decide⟩, fun h => absurd (by decide) h⟩
  by_cases b2 : b = 109
  · subst b2
    have : m = 0 ∨ m = 1 ∨ m = 2 ∨ m = 3 := by omega
    rcases this with rfl | rfl | rfl | rfl
    · exact ⟨fun h => absurd h (by decide), fun _ => by rfl⟩
    · exact ⟨fun h => absurd h (by decide), fun _ => by rfl⟩
    · exact ⟨fun _ => ⟨0, by rfl, by decide, by decide, by decide, by decide, by decide⟩, fun h => absurd (by decide) h⟩
    · exact ⟨fun _ => ⟨1, by rfl, by decide, by decide, by decide, by decide, by decide⟩, fun h => absurd (by decide) h⟩
  by_cases b3 : b = 115
  · subst b3
    have : m = 0 ∨ m = 1 ∨ m = 2 ∨ m = 3 := by omega
    rcases this with rfl | rfl | rfl | rfl
    · exact ⟨fun h => absurd h (by decide), fun _ => by rfl⟩
    · exact ⟨fun _ => ⟨0, by rfl, by decide, by decide, by decide, by decide, by decide⟩, fun h => absurd (by decide) h⟩
    · exact ⟨fun _ => ⟨1, by rfl, by decide, by decide, by decide, by decide, by decide⟩, fun h => absurd (by decide) h⟩
    · exact ⟨fun _ => ⟨2, by rfl, by decide, by decide, by decide, by decide, by decide⟩, fun h => absurd (by decide) h⟩
  have e : (b.toUInt8).toNat = b := by simp; omega
  have hn : b.toUInt8 ∉ ([104, 109, 115] : List UInt8) := fun h => by
    simp only [List.mem_cons, List.not_mem_nil, or_false] at h
    rcases h with h | h | h
    · rw [h] at e; exact b1 e.symm
    · rw [h] at e; exact b2 e.symm
    · rw [h] at e; exact b3 e.symm
  have hi : Go.Lib.indexByte (lets m).data.toList b.toUInt8 = -1 := by
    refine idx_none _ _ fun h => hn ?_
    have : m = 0 ∨ m = 1 ∨ m = 2 ∨ m = 3 := by omega
    rcases this with rfl | rfl | rfl | rfl
    · cases h
    · exact List.mem_cons_of_mem _ (List.mem_cons_of_mem _ h)
    · exact List.mem_cons_of_mem _ h
    · exact h
  refine ⟨fun h => ?_, fun _ => by rw [hi]; rfl⟩
  exfalso
  have : m = 0 ∨ m = 1 ∨ m = 2 ∨ m = 3 := by omega
  rcases this with rfl | rfl | rfl | rfl <;> simp [lst] at h <;> omega
theorem lett_eq (s : ByteArray) : ∀ (f m : Nat) (sum : Int) (p : Nat), 1 ≤ m → m ≤ 3 → m ≤ f → lettLoop s f m sum p true = lettL s f (lst m) sum p
  | 0, m, sum, p, h1, _, hf => by omega
  | f + 1, m, sum, p, h1, h3, hf => by
    have hm0 : m ≠ 0 := by omega
    unfold lettL
    have hx : numAt s 7 0 9999999 true p = num7 s p := rfl
    by_cases hok : numOk 0 true (num7 s p) = true
    · by_cases hlt : (num7 s p).2.2 < s.size
      · obtain ⟨g1, g2⟩ := oneAt_lets s m (num7 s p).2.2 h3 hlt
        by_cases hb : byte s (num7 s p).2.2 ∈ lst m
        · rw [if_pos ⟨hok, hlt, hb⟩]
          obtain ⟨k, e1, e2, e3, e4, e5, e6⟩ := g1 hb
          have hk : oneAt s (lets m) (num7 s p).2.2 (numOk 0 true (num7 s p)) = (k, (num7 s p).2.2 + 1, true) := by rw [hok]; exact e1
          cases hd : digAt s ((num7 s p).2.2 + 1) true with
          | false =>
            rw [if_neg (by simp), lettLoop_last hm0 hx hk (by show ¬ k < 0; omega) hd]
            show (_, _, _) = _
            rw [e3]
          | true =>
            rw [lettLoop_next hm0 hx hk (by show ¬ k < 0; omega) hd]
            show lettLoop s f (m - (k + 1).toNat) _ _ true = _
            rw [e3]
            by_cases hz : behind (byte s (num7 s p).2.2) (lst m) = []
            · rw [if_neg (by rw [hz]; simp)]
              have : m - (k + 1).toNat = 0 := by
                rw [hz] at e4
                have : m - (k + 1).toNat = 0 ∨ m - (k + 1).toNat = 1 ∨ m - (k + 1).toNat = 2 ∨ m - (k + 1).toNat = 3 := by omega
                rcases this with h | h | h | h
                · exact h
                · rw [h] at e4; cases e4
                · rw [h] at e4; cases e4
                · rw [h] at e4; cases e4
              rw [this, lettLoop_end]
            · rw [if_pos ⟨rfl, hz⟩, ← e4]
              refine lett_eq s f _ _ _ ?_ e5 (by omega)
              apply Classical.byContradiction
              intro h
              have h0 : m - (k + 1).toNat = 0 := by omega
              rw [h0] at e4
              exact hz e4.symm
        · rw [if_neg fun h => hb h.2.2]
          have hk : oneAt s (lets m) (num7 s p).2.2 (numOk 0 true (num7 s p)) = (-1, (num7 s p).2.2, false) := by rw [hok]; exact g2 hb
          rw [lettLoop_none hm0 hx hk (by show (-1 : Int) < 0; omega)]
      · rw [if_neg fun h => hlt h.2.1]
        have hk : oneAt s (lets m) (num7 s p).2.2 (numOk 0 true (num7 s p)) = (-1, (num7 s p).2.2, false) := by
          unfold oneAt
          rw [if_neg fun h => hlt h.2]
        rw [lettLoop_none hm0 hx hk (by show (-1 : Int) < 0; omega)]
    · rw [if_neg fun h => hok h.1]
      have hk : oneAt s (lets m) (num7 s p).2.2 (numOk 0 true (num7 s p)) = (-1, (num7 s p).2.2, false) := by
        unfold oneAt
        rw [if_neg fun h => hok h.1]
      rw [lettLoop_none hm0 hx hk (by show (-1 : Int) < 0; omega)]
theorem lettL_nonneg (s : ByteArray) : ∀ (f : Nat) (L : List Nat) (sum : Int) (p : Nat), 0 ≤ sum → 0 ≤ (lettL s f L sum p).1
  | 0, L, sum, p, h => h
  | f + 1, L, sum, p, h => by
    have hv := numAt_val s 7 0 9999999 true p (by omega)
    have hu : ∀ c, 0 ≤ (num7 s p).1 * unitL c := fun c => Int.mul_nonneg hv.1 (by unfold unitL; split <;> (try split) <;> omega)
    unfold lettL
    split
    · have := hu (byte s (num7 s p).2.2)
      split
      · exact lettL_nonneg s f _ _ _ (by omega)
      · show 0 ≤ sum + _
        omega
    · exact Int.le_refl 0
/-- the forms of durations of the reference, and their units -/
def durT : List (List Tok) := [shortT, longT, lform [104], lform [109], lform [104, 109], lform [115], lform [104, 115], lform [109, 115], lform [104, 109, 115]]
def durU : List (List Int) := [[60, 1], [3600, 60, 1], [3600], [60], [3600, 60], [1], [3600, 1], [60, 1], [3600, 60, 1]]
def dotU : List Int → List Int → Int
  | v :: l, u :: r => v * u + dotU l r
  | _, _ => 0
theorem dot_val : ∀ (S : List Nat) (l : List Int), dotU l (S.map unitL) = valL S l
  | [], [] => rfl
  | [], _ :: _ => rfl
  | _ :: _, [] => rfl
  | c :: S, v :: l => by
    show v * unitL c + dotU l (S.map unitL) = v * unitL c + valL S l
    rw [dot_val S l]
theorem match_len {s : ByteArray} : ∀ (S : List Nat) (p : Nat), (∀ c, c ∈ S → c < 256) → (matchT s (lform S) p).2.2 = true → (matchT s (lform S) p).2.1.length = S.length
  | [], p, _, _ => rfl
  | c :: S, p, hc, h => by
    rw [match_step (hc c (List.mem_cons_self ..))] at h ⊢
    split at h
    · rename_i h1
      rw [if_pos h1]
      show (_ :: _).length = _
      rw [List.length_cons, match_len S _ (fun x hx => hc x (List.mem_cons_of_mem _ hx)) h, List.length_cons]
    · cases h
def refDur (s : ByteArray) : Int × Nat × Int :=
  if 1000 < s.size then (0, 0, 3)
  else if (firstT s durT 0 0).1 < 0 then (0, (firstT s durT 0 0).2.2, 6)
  else if 3599999 < dotU (firstT s durT 0 0).2.1 (durU.getD (firstT s durT 0 0).1.toNat []) then (0, 0, 9) else (dotU (firstT s durT 0 0).2.1 (durU.getD (firstT s durT 0 0).1.toNat []), 0, 0)
/-- the first form that is there -/
theorem firstT_some {s : ByteArray} : ∀ (l : List (List Tok)) (i far : Nat), (∃ f, f ∈ l ∧ (matchT s f 0).2.2 = true) → ∃ k f, l[k]? = some f ∧ (matchT s f 0).2.2 = true ∧ (∀ j g, j < k → l[j]? = some g → (matchT s g 0).2.2 = false) ∧ firstT s l i far = (((i + k : Nat) : Int), (matchT s f 0).2.1, 0)
  | [], i, far, h => by obtain ⟨f, h, _⟩ := h; cases h
  | g :: r, i, far, h => by
    cases hg : (matchT s g 0).2.2 with
    | true => exact ⟨0, g, rfl, hg, fun j _ hj => by omega, by unfold firstT; rw [if_pos hg]; rfl⟩
    | false =>
      obtain ⟨f, hf, hm⟩ := h
      have hr : ∃ f, f ∈ r ∧ (matchT s f 0).2.2 = true := by
        rcases List.mem_cons.1 hf with rfl | hf
        · rw [hm] at hg; cases hg
        · exact ⟨f, hf, hm⟩
      obtain ⟨k, f', h1, h2, h3, h4⟩ := firstT_some r (i + 1) (max far (matchT s g 0).1) hr
      refine ⟨k + 1, f', by simpa using h1, h2, fun j g' hj hg' => ?_, ?_⟩
      · cases j with
        | zero =>
          simp only [List.getElem?_cons_zero, Option.some.injEq] at hg'
          subst hg'; exact hg
        | succ j => exact h3 j g' (by omega) (by simpa using hg')
      · unfold firstT
        rw [if_neg (by rw [hg]; simp), h4]
        rw [show i + 1 + k = i + (k + 1) by omega]
theorem seven_sub : Sub [104] [104, 109, 115] ∧ Sub [109] [104, 109, 115] ∧ Sub [104, 109] [104, 109, 115] ∧ Sub [115] [104, 109, 115] ∧ Sub [104, 115] [104, 109, 115] ∧ Sub [109, 115] [104, 109, 115] ∧ Sub [104, 109, 115] [104, 109, 115] :=
  ⟨.one, .skip .one, .more .one, .skip (.skip .one), .more (.skip .one), .skip (.more .one), .more (.more .one)⟩
theorem sub_seven {S : List Nat} (h : Sub S [104, 109, 115]) : S = [104] ∨ S = [109] ∨ S = [104, 109] ∨ S = [115] ∨ S = [104, 115] ∨ S = [109, 115] ∨ S = [104, 109, 115] := by
  have h1 : ∀ {S}, Sub S [115] → S = [115] := by
    intro S h
    cases h with
    | one => rfl
    | more h => cases h
    | skip h => cases h
  have h2 : ∀ {S}, Sub S [109, 115] → S = [109] ∨ S = [109, 115] ∨ S = [115] := by
    intro S h
    cases h with
    | one => exact Or.inl rfl
    | more h => exact Or.inr (Or.inl (by rw [h1 h]))
    | skip h => exact Or.inr (Or.inr (h1 h))
  cases h with
  | one => simp
  | more h => rcases h2 h with rfl | rfl | rfl <;> simp
  | skip h => rcases h2 h with rfl | rfl | rfl <;> simp
theorem lettered_ok (s : ByteArray) : LetOk s [104, 109, 115] 0 0 (letteredF s) := by
  unfold letteredF
  rw [lett_eq s 3 3 0 0 (by omega) (by omega) (by omega)]
  exact (letOk s 3 [104, 109, 115] 0 0 (by simp) (by simp) (by intro c hc; simp at hc; omega)).1
theorem dur_eq (s : ByteArray) : refDur s = ranged (readForms s [shortF, longF, letteredF]) 0 3599999 := by
  unfold refDur readForms
  by_cases hz : 1000 < s.size
  · rw [if_pos hz, if_pos hz]; rfl
  rw [if_neg hz, if_neg hz]
  obtain ⟨a, ha⟩ : ∃ o, shortF s = o := ⟨_, rfl⟩
  obtain ⟨b, hb⟩ : ∃ o, longF s = o := ⟨_, rfl⟩
  have hc0 := lettered_ok s
  have hcn : 0 ≤ (letteredF s).1 := by
    unfold letteredF
    rw [lett_eq s 3 3 0 0 (by omega) (by omega) (by omega)]
    exact lettL_nonneg _ _ _ _ _ (Int.le_refl 0)
  obtain ⟨c, hc⟩ : ∃ o, letteredF s = o := ⟨_, rfl⟩
  rw [hc] at hc0 hcn
  obtain ⟨a1, a2, a3⟩ := short_match s a ha
  obtain ⟨b1, b2, b3⟩ := long_match s b hb
  simp only [formsLoop, ha, hb, hc]
  have fin : ∀ (k : Nat) (f : List Tok) (l : List Int) (v : Int), durT[k]? = some f → 0 ≤ v → firstT s durT 0 0 = (((0 + k : Nat) : Int), l, 0) → dotU l (durU.getD k []) = v →
      (if (firstT s durT 0 0).1 < 0 then (0, (firstT s durT 0 0).2.2, 6) else if 3599999 < dotU (firstT s durT 0 0).2.1 (durU.getD (firstT s durT 0 0).1.toNat []) then (0, 0, 9) else (dotU (firstT s durT 0 0).2.1 (durU.getD (firstT s durT 0 0).1.toNat []), 0, 0)) = ranged (v, 0, 0) 0 3599999 := by
    intro k f l v _ hv he hd
    rw [he]
    simp only [Nat.zero_add]
    rw [if_neg (by omega), Int.toNat_natCast, hd]
    unfold ranged
    by_cases h : 3599999 < v
    · rw [if_pos h, if_pos ⟨rfl, Or.inr h⟩]
    · rw [if_neg h, if_neg (by rintro ⟨_, h1⟩; simp only at h1; omega)]
  by_cases hA : (matchT s shortT 0).2.2 = true
  · rw [if_pos (show (a.2.2 && decide (a.2.1 = s.size)) = true by rw [← a2]; exact hA)]
    obtain ⟨x, y, hx, hy, hl, hv⟩ := a3 hA
    have he := firstT_at (s := s) durT 0 0 0 shortT rfl hA (fun j _ hj => by omega)
    refine fin 0 shortT _ a.1 rfl (by omega) he ?_
    rw [hl]
    show x * 60 + (y * 1 + 0) = _
    omega
  rw [if_neg (show ¬ (a.2.2 && decide (a.2.1 = s.size)) = true by rw [← a2]; exact hA)]
  by_cases hB : (matchT s longT 0).2.2 = true
  · rw [if_pos (show (b.2.2 && decide (b.2.1 = s.size)) = true by rw [← b2]; exact hB)]
    obtain ⟨x, y, z, hx, hy, hz', hl, hv⟩ := b3 hB
    have he := firstT_at (s := s) durT 0 0 1 longT rfl hB (fun j g hj hg => by
      obtain rfl : j = 0 := by omega
      simp only [durT, List.getElem?_cons_zero, Option.some.injEq] at hg
      subst hg
      simpa using hA)
    refine fin 1 longT _ b.1 rfl (by omega) he ?_
    rw [hl]
    show x * 3600 + (y * 60 + (z * 1 + 0)) = _
    omega
  rw [if_neg (show ¬ (b.2.2 && decide (b.2.1 = s.size)) = true by rw [← b2]; exact hB)]
  obtain ⟨s1, s2, s3, s4, s5, s6, s7⟩ := seven_sub
  by_cases hC : (c.2.2 && decide (c.2.1 = s.size)) = true
  · rw [if_pos hC]
    have hC := hC
    simp only [Bool.and_eq_true, decide_eq_true_eq] at hC
    have hex : ∃ f, f ∈ durT ∧ (matchT s f 0).2.2 = true := by
      obtain ⟨S, hS, hm⟩ := hc0.back hC.1 hC.2
      refine ⟨lform S, ?_, hm⟩
      rcases sub_seven hS with rfl | rfl | rfl | rfl | rfl | rfl | rfl <;> simp [durT]
    obtain ⟨k, f, hk, hm, hfirst, he⟩ := firstT_some durT 0 0 hex
    have key : ∀ S, Sub S [104, 109, 115] → f = lform S → durU.getD k [] = S.map unitL → dotU (matchT s f 0).2.1 (durU.getD k []) = c.1 := fun S hS hf hu => by
      subst hf
      rw [hu, dot_val, (hc0.good S hS hm).2.2]
      omega
    refine fin k f _ c.1 hk hcn he ?_
    match k, hk with
    | 0, hk => injection hk with hk; subst hk; exact absurd hm hA
    | 1, hk => injection hk with hk; subst hk; exact absurd hm hB
    | 2, hk => injection hk with hk; exact key [104] s1 hk.symm rfl
    | 3, hk => injection hk with hk; exact key [109] s2 hk.symm rfl
    | 4, hk => injection hk with hk; exact key [104, 109] s3 hk.symm rfl
    | 5, hk => injection hk with hk; exact key [115] s4 hk.symm rfl
    | 6, hk => injection hk with hk; exact key [104, 115] s5 hk.symm rfl
    | 7, hk => injection hk with hk; exact key [109, 115] s6 hk.symm rfl
    | 8, hk => injection hk with hk; exact key [104, 109, 115] s7 hk.symm rfl
    | k + 9, hk => simp [durT] at hk
  · rw [if_neg hC]
    have hno : ∀ f, f ∈ durT → (matchT s f 0).2.2 = false := fun f hf => by
      have bad : ∀ S, Sub S [104, 109, 115] → (matchT s (lform S) 0).2.2 = false := fun S hS => by
        cases h : (matchT s (lform S) 0).2.2 with
        | false => rfl
        | true =>
          obtain ⟨g1, g2, _⟩ := hc0.good S hS h
          exact absurd (by rw [g1]; simpa using g2) hC
      simp only [durT, List.mem_cons, List.not_mem_nil, or_false] at hf
      rcases hf with rfl | rfl | rfl | rfl | rfl | rfl | rfl | rfl | rfl
      · simpa using hA
      · simpa using hB
      · exact bad _ s1
      · exact bad _ s2
      · exact bad _ s3
      · exact bad _ s4
      · exact bad _ s5
      · exact bad _ s6
      · exact bad _ s7
    rw [firstT_none durT 0 0 hno, if_pos (by show (-1 : Int) < 0; omega)]
    have hmax : (durT.foldl (fun a f => max a (matchT s f 0).1) 0) = max (max (max 0 a.2.1) b.2.1) c.2.1 := by
      have m1 := hc0.most _ s1
      have m2 := hc0.most _ s2
      have m3 := hc0.most _ s3
      have m4 := hc0.most _ s4
      have m5 := hc0.most _ s5
      have m6 := hc0.most _ s6
      have m7 := hc0.most _ s7
      have hh : (matchT s (lform [104]) 0).1 = c.2.1 ∨ (matchT s (lform [109]) 0).1 = c.2.1 ∨ (matchT s (lform [104, 109]) 0).1 = c.2.1 ∨ (matchT s (lform [115]) 0).1 = c.2.1 ∨ (matchT s (lform [104, 115]) 0).1 = c.2.1 ∨ (matchT s (lform [109, 115]) 0).1 = c.2.1 ∨ (matchT s (lform [104, 109, 115]) 0).1 = c.2.1 := by
        obtain ⟨S, hS, hm⟩ := hc0.here
        rcases sub_seven hS with rfl | rfl | rfl | rfl | rfl | rfl | rfl <;> simp [hm]
      simp only [durT, List.foldl, a1, b1]
      omega
    show (_, _, _) = _
    rw [hmax]
    rfl
end Rd

/- The rounds of a token's number, in plain words. -/
namespace Rd
/-- are digits the beginning of a number of a token? (a token whose least number is 0 or 1) -/
def begF (digits : Nat) (low high : Int) (size b0 : Nat) (n : Int) : Bool := decide (size ≤ digits) && !(decide (1 < size) && decide (b0 = 48)) && decide (n ≤ high) && decide (low ≤ n)
/-- m digits from p on were taken -/
structure NumSt (s : ByteArray) (digits : Nat) (low high : Int) (p m : Nat) (n : Int) : Prop where
  row : DigRow s p m n
  zero : 0 < m → (n = 0 ↔ byte s p = 48)
  left : numLoop s digits low high true (digits - m) n m (p + m) = numAt s digits low high true p
  le : m ≤ digits
section
variable {s : ByteArray} {digits p m : Nat} {low high n : Int}
theorem NumSt.start (h : p ≤ s.size) : NumSt s digits low high p 0 0 := ⟨.zero h, fun h => by omega, rfl, Nat.zero_le _⟩
theorem NumSt.next (h : NumSt s digits low high p m n) (hd : digAt s (p + m) true = true) (hb : begF digits low high (m + 1) (byte s p) (10 * n + ((byte s (p + m) : Int) - 48)) = true) :
    NumSt s digits low high p (m + 1) (10 * n + ((byte s (p + m) : Int) - 48)) := by
  unfold begF at hb
  simp only [Bool.and_eq_true, decide_eq_true_eq, Bool.not_eq_true', Bool.and_eq_false_iff, decide_eq_false_iff_not] at hb
  obtain ⟨⟨⟨h1, h2⟩, h3⟩, h4⟩ := hb
  have hn := h.row.lt
  obtain ⟨_, _, h48, h57⟩ := digAt_true hd
  refine ⟨h.row.next hd, fun _ => ?_, ?_, h1⟩
  · rcases Nat.eq_zero_or_pos m with rfl | hm
    · have := hn.2
      simp at this
      have : n = 0 := by omega
      subst this
      simp only [Nat.add_zero] at h48 h57 ⊢
      omega
    · have hz := h.zero hm
      rcases h2 with h2 | h2
      · omega
      · have : n ≠ 0 := fun e => h2 (hz.1 e)
        constructor
        · intro e; omega
        · intro e; exact absurd e h2
  · rw [← h.left, show digits - m = (digits - (m + 1)) + 1 by omega, numLoop_next ⟨by omega, hd⟩ ?_]
    · rw [Nat.add_assoc]
    · unfold stops
      simp only [Bool.or_eq_false_iff, Bool.and_eq_false_iff, decide_eq_false_iff_not]
      refine ⟨⟨?_, by omega⟩, by omega⟩
      rcases Nat.eq_zero_or_pos m with hm | hm
      · exact Or.inl (by omega)
      · rcases h2 with h2 | h2
        · omega
        · exact Or.inr fun e => h2 ((h.zero hm).1 e)
theorem NumSt.stop (h : NumSt s digits low high p m n) (hd : digAt s (p + m) true = false) : numAt s digits low high true p = (n, m, p + m) := by
  rw [← h.left]
  exact numLoop_stop (by rw [hd]; simp)
theorem NumSt.halt (h : NumSt s digits low high p m n) (hlow : low = 0 ∨ low = 1) (hd : digAt s (p + m) true = true) (hb : begF digits low high (m + 1) (byte s p) (10 * n + ((byte s (p + m) : Int) - 48)) = false) : numAt s digits low high true p = (n, m, p + m) := by
  rw [← h.left]
  by_cases hm : m < digits
  · refine numLoop_break ⟨hm, hd⟩ ?_
    unfold stops
    unfold begF at hb
    simp only [Bool.and_eq_false_iff, decide_eq_false_iff_not, Bool.not_eq_false', Bool.and_eq_true, decide_eq_true_eq] at hb
    simp only [Bool.or_eq_true, Bool.and_eq_true, decide_eq_true_eq]
    have hn := h.row.lt
    obtain ⟨_, _, h48, h57⟩ := digAt_true hd
    rcases hb with ((hb | hb) | hb) | hb
    · omega
    · exact Or.inl (Or.inl ⟨by omega, (h.zero (by omega)).2 hb.2⟩)
    · exact Or.inl (Or.inr (by omega))
    · exact Or.inr ⟨by omega, by omega⟩
  · exact numLoop_stop (fun e => hm e.1)
end
/-- m digits of a row from p on were taken -/
structure RowSt (s : ByteArray) (digits p m : Nat) (n : Int) : Prop where
  row : DigRow s p m n
  left : rowLoop s digits true (digits - m) n m (p + m) = rowAt s digits true p
  le : m ≤ digits
section
variable {s : ByteArray} {digits p m : Nat} {n : Int}
theorem RowSt.start (h : p ≤ s.size) : RowSt s digits p 0 0 := ⟨.zero h, rfl, Nat.zero_le _⟩
theorem rowLoop_stop {ok : Bool} {f : Nat} (h : ¬ (m < digits ∧ digAt s p ok = true)) : rowLoop s digits ok f n m p = (n, m, p) := by
  cases f <;> simp [rowLoop, h]
theorem RowSt.next (h : RowSt s digits p m n) (hm : m < digits) (hd : digAt s (p + m) true = true) : RowSt s digits p (m + 1) (10 * n + ((byte s (p + m) : Int) - 48)) := by
  refine ⟨h.row.next hd, ?_, hm⟩
  rw [← h.left, show digits - m = (digits - (m + 1)) + 1 by omega]
  conv => rhs; rw [rowLoop]
  rw [if_pos ⟨hm, hd⟩, Nat.add_assoc]
theorem RowSt.stop (h : RowSt s digits p m n) (hd : ¬ (m < digits ∧ digAt s (p + m) true = true)) : rowAt s digits true p = (n, m, p + m) := by
  rw [← h.left]
  exact rowLoop_stop hd
end
/-- what the forms' tokens are like -/
def TokOk (t : Tok) : Prop :=
  (t.kind = 1 ∧ t.text.size ≤ 100) ∨ (t.kind = 2 ∧ (t.low = 0 ∨ t.low = 1) ∧ 0 ≤ t.high ∧ t.high ≤ 9999999999999 ∧ t.digits ≤ 13) ∨ (t.kind = 3 ∧ 0 ≤ t.high ∧ t.high ≤ 99) ∨ (t.kind = 4 ∧ t.digits ≤ 6 ∧ False)
end Rd

/- An append to a row of the call's own: where the new row lies (the old block, or a new one). -/
namespace Go.Proofs.YthimnjegacdhaaaGreatDoor
open Go.RowKit

theorem append_where {P : Program} (w : World) (base : Nat) (t ty e : TypeId) (i : TypeInfo) (z : Value) (size bytes : Nat) (ht : P.underlying t = some (.slice e)) (hi : P.info? e = some i) (hz : i.zero = some z)
    (hsize : i.size = size) (hby : i.bytes = bytes) (hsz : 0 < size) (v : Value) (n : Nat) (xs : List Value) (hown : w.ownsRow base e size v n xs)
    (a : Addr) (m c : Nat) (news : List Value) (hl : news.length = m * size) (hnews : ∀ j u, news[j]? = some u → w.cell? (a.add j) = some u) (h1 : ∀ u ∈ news, u.oneCell' = true) (hm : 0 < m)
    (h63 : n + m ≤ maxLen) (hbytes : (n + m) * bytes ≤ 140737488355328) :
    ∃ v' w', (Builtin.append_ #[t, t] ty #[v, .slice (some a) m c]).run P w = .ok v' w' ∧ (v'.ownBlock = v.ownBlock ∨ v'.ownBlock = some w.heap.size) := by
  subst hsize
  subst hby
  have hsmall : n + m ≤ 9223372036854775807 := by simp only [maxLen] at h63; omega
  rcases hown.2 with ⟨rfl, rfl⟩ | ⟨g, cap, cur, rfl, _, hg, hnc, _, hcs, _⟩
  · exact ⟨_, _, run_append_nil w t ty e i z ht hi hz a m c news hl hnews hm (by omega) (by have hb := hbytes; simp only [Nat.zero_add] at hb; omega), Or.inr rfl⟩
  · by_cases hroom : n + m ≤ cap
    · have hfit : n * i.size + news.length ≤ cur.size := by rw [hl, hcs, ← Nat.add_mul]; exact Nat.mul_le_mul_right _ hroom
      exact ⟨_, _, run_append_room w t ty e i ht hi g n cap cur hg a m c news hl hnews h1 hroom hfit, Or.inl rfl⟩
    · have holds : ∀ j u, xs[j]? = some u → w.cell? ((⟨g, 0, none⟩ : Addr).add j) = some u := hown.cells (g := g) rfl
      exact ⟨_, _, run_append_grow w t ty e i z ht hi hz ⟨g, 0, none⟩ n cap xs hown.1 holds a m c news hl hnews (by omega) (by omega) (growslice_fits (by omega) hbytes), Or.inr rfl⟩
theorem wpList_append_where {P : Program} (w : World) {ops : Array Oper} {rest : List Oper} {o : Oper} {a : Act} {Q : Exit → Act → World → Prop} (hgd : o.guard = none) (s x : Operand) (t : TypeId)
    (ho : o.op = .call { callee := .builtin .append, args := #[s, x], argTypes := #[t, t] })
    (base : Nat) (e : TypeId) (i : TypeInfo) (z : Value) (size bytes : Nat) (ht : P.underlying t = some (.slice e)) (hi : P.info? e = some i) (hz : i.zero = some z)
    (hsize : i.size = size) (hby : i.bytes = bytes) (hzs : z.cells.size = size) (hsz : 0 < size)
    (v : Value) (n : Nat) (xs : List Value) (hs : a.eval s = v) (hown : w.ownsRow base e size v n xs)
    (ad : Addr) (m c : Nat) (news : List Value) (hx : a.eval x = .slice (some ad) m c) (hm : 0 < m) (hl : news.length = m * size) (hnews : ∀ j u, news[j]? = some u → w.cell? (ad.add j) = some u) (h1 : ∀ u ∈ news, u.oneCell' = true)
    (h63 : n + m ≤ maxLen) (hbytes : (n + m) * bytes ≤ 140737488355328) (hbase : base ≤ w.heap.size)
    (h : ∀ v' w', w'.ownsRow base e size v' (n + m) (xs ++ news) → w.grownBy w' v.ownBlock → (v'.ownBlock = v.ownBlock ∨ v'.ownBlock = some w.heap.size) → wpList P ops Q rest (a.put o.dst v') w') : wpList P ops Q (o :: rest) a w := by
  refine wpList_plain hgd fun K hK => ?_
  obtain ⟨v', w', hr, h2, h3, _⟩ := run_append_own (P := P) w base t o.type e i z size bytes ht hi hz hsize hby hzs hsz v n xs hown ad m c news hl hnews h1 h63 hbytes hbase
  obtain ⟨v2, w2, hr2, h4⟩ := append_where (P := P) w base t o.type e i z size bytes ht hi hz hsize hby hsz v n xs hown ad m c news hl hnews h1 hm h63 hbytes
  rw [hr] at hr2
  injection hr2 with e1 e2
  subst e1
  unfold Oper.wp execOp
  simp only [ho, resolve, invoke, builtin, Sem.run_bind, Sem.run_pure, Result.andThen_ok, List.map_toArray, List.map_cons, List.map_nil, hs, hx, hr]
  exact hK _ _ (h v' w' h2 h3 h4)
end Go.Proofs.YthimnjegacdhaaaGreatDoor

/- A row of a call's own in a loop that appends to it: what is kept (tools). -/
namespace Go.Proofs.YthimnjegacdhaaaGreatDoor
open Go.RowKit Go.BigFrame

theorem ownsRow_below {W W' : World} {base e k n : Nat} {v : Value} {xs : List Value} (h : W.ownsRow base e k v n xs) (hb : Below W.heap.size W W') : W'.ownsRow base e k v n xs :=
  h.kept (row := none) ⟨hb.os, hb.tape, hb.output, hb.size, fun k hk _ => hb.block k hk⟩ (by cases v.ownBlock <;> simp)
/-- the row v, which began as v0 in the world V: whatever else was there is kept -/
structure OwnR (V wr : World) (base e k : Nat) (v0 v : Value) (n : Nat) (xs : List Value) : Prop where
  own : wr.ownsRow base e k v n xs
  kept : Kept (fun b => v0.ownBlock = some b) V wr
  lies : ∀ b, v.ownBlock = some b → v0.ownBlock = some b ∨ V.heap.size ≤ b
section
variable {V wr wr' : World} {base e k n : Nat} {v0 v : Value} {xs : List Value}
theorem OwnR.start (h : V.ownsRow base e k v n xs) : OwnR V V base e k v v n xs := ⟨h, Kept.refl _ _, fun _ h => Or.inl h⟩
theorem OwnR.below (h : OwnR V wr base e k v0 v n xs) (hb : Below wr.heap.size wr wr') : OwnR V wr' base e k v0 v n xs := ⟨ownsRow_below h.own hb, h.kept.trans (Kept.of_below hb), h.lies⟩
theorem OwnR.back {V' : World} {n' : Nat} {v' : Value} {xs' : List Value} (h : OwnR V wr base e k v0 v n xs) (hb : Below wr.heap.size wr V') (h' : OwnR V' wr' base e k v v' n' xs') : OwnR V wr' base e k v0 v' n' xs' := by
  have hs : V.heap.size ≤ V'.heap.size := Nat.le_trans h.kept.size hb.size
  refine ⟨h'.own, ⟨h'.kept.os.trans (hb.os.trans h.kept.os), h'.kept.tape.trans (hb.tape.trans h.kept.tape), h'.kept.output.trans (hb.output.trans h.kept.output), Nat.le_trans hs h'.kept.size, fun b hb1 ho => ?_⟩, fun b hb' => ?_⟩
  · have hn : ¬ v.ownBlock = some b := fun e => (h.lies b e).elim ho (fun h => by omega)
    exact (h'.kept.block b (by omega) hn).trans ((hb.block b (Nat.lt_of_lt_of_le hb1 h.kept.size)).trans (h.kept.block b hb1 ho))
  · rcases h'.lies b hb' with e | e
    · exact h.lies b e
    · exact Or.inr (by omega)
theorem OwnR.append {W2 w' : World} {v' : Value} {n' : Nat} {xs' : List Value} (h : OwnR V wr base e k v0 v n xs) (hb : Below wr.heap.size wr W2) (ho : w'.ownsRow base e k v' n' xs') (hg : W2.grownBy w' v.ownBlock) (hw : v'.ownBlock = v.ownBlock ∨ v'.ownBlock = some W2.heap.size) :
    OwnR V w' base e k v0 v' n' xs' := by
  refine ⟨ho, (h.kept.trans (Kept.of_below hb)).grown hg (fun q hq hl => (h.lies q hq).elim id (fun h => by omega)), fun b hb' => ?_⟩
  rcases hw with e | e
  · exact h.lies b (by rw [← e]; exact hb')
  · rw [e] at hb'
    injection hb' with hb'
    exact Or.inr (by have := h.kept.size; have := hb.size; omega)
theorem OwnR.down {n0 B : Nat} {xs0 : List Value} (h : OwnR V wr base e k v0 v n xs) {w : World} (hb : Below B w V) (hB : B ≤ V.heap.size) (hBb : B ≤ base) (ho : V.ownsRow base e k v0 n0 xs0) : Below B w wr :=
  Kept.below hb h.kept hB (fun b hb1 e => by have := (ho.lt b e).1; omega)
theorem OwnR.row (h : OwnR V wr base e k v0 v n xs) {a : Option Addr} {len kk : Nat} {R : Nat → List Value} (hr : RowK V a len kk R) (hn : ∀ b off, a = some ⟨b, off, none⟩ → ¬ v0.ownBlock = some b) : RowK wr a len kk R := Kept.row hr h.kept hn
theorem OwnR.cell (h : OwnR V wr base e k v0 v n xs) {p : Addr} {u : Value} (hn : ¬ v0.ownBlock = some p.block) (hc : V.cell? p = some u) : wr.cell? p = some u := h.kept.cell hn hc
end
end Go.Proofs.YthimnjegacdhaaaGreatDoor

/- Tokens: the functions that make them; are digits the beginning of a number (reference). -/
namespace Go.Proofs.YthimnjegacdhaaaGreatDoor
open Go.RowKit Go.BigFrame
open Rd (sB bt itoaB Tok begF)

def tokCells (t : Tok) : List Value := [.int .i64 t.kind, .string t.text, .int .i64 t.low, .int .i64 t.high, .int .i64 t.digits]
def tokV (t : Tok) : Value := .agg #[.int .i64 t.kind, .string t.text, .int .i64 t.low, .int .i64 t.high, .int .i64 t.digits]
theorem rIsDigit_any (c : Nat) (w : World) : Calls Tryz.prog 107 #[.int .u8 c] w fun e w' => e = .returned (.bool (Rd.isD c)) ∧ w = w' := by
  by_cases h : 48 ≤ c
  · have h1 : decide ((48 : Int) ≤ (c : Int)) = true := by rw [decide_eq_true_eq]; omega
    by_cases h2 : c ≤ 57
    · have h3 : decide ((c : Int) ≤ 57) = true := by rw [decide_eq_true_eq]; omega
      go_enter Tryz.func107, Tryz.ntmps107
      go_wp2
      go_ret
      exact ⟨ret_bool (by simp [Rd.isD, h, h2]), rfl⟩
    · have h3 : decide ((c : Int) ≤ 57) = false := by rw [decide_eq_false_iff_not]; omega
      go_enter Tryz.func107, Tryz.ntmps107
      go_wp2
      go_ret
      exact ⟨ret_bool (by simp [Rd.isD, h2]), rfl⟩
  · have h1 : decide ((48 : Int) ≤ (c : Int)) = false := by rw [decide_eq_false_iff_not]; omega
    go_enter Tryz.func107, Tryz.ntmps107
    go_wp2
    go_ret
    exact ⟨ret_bool (by simp [Rd.isD, h]), rfl⟩
theorem num_any (lo hi : Int) (dg : Nat) (w : World) : Calls Tryz.prog 38 #[.int .i64 lo, .int .i64 hi, .int .i64 dg] w fun e w' => e = .returned (tokV (Rd.numT lo hi dg)) ∧ Below w.heap.size w w' := by
  obtain ⟨V, hV, hbV, hsV, hcV⟩ := alloc_cells w #[.int .i64 2, .string ⟨#[]⟩, .int .i64 lo, .int .i64 hi, .int .i64 dg] 57
  have g0 := hcV 0 _ rfl
  have g1 := hcV 1 _ rfl
  have g2 := hcV 2 _ rfl
  have g3 := hcV 3 _ rfl
  have g4 := hcV 4 _ rfl
  have HV := Lib.hid hV
  have HB := Lib.hid hbV
  clear hcV hV hbV hsV
  go_enter Tryz.func38, Tryz.ntmps38
  go_wp2_with fail
  rw [HV.out]
  exact bodyPost_ret (v := .agg #[.int .i64 2, .string ⟨#[]⟩, .int .i64 lo, .int .i64 hi, .int .i64 dg]) (by simp [results, Tryz.results38, go_sem, g0, g1, g2, g3, g4]) rfl ⟨rfl, HB.out⟩
theorem lit_any (tx : ByteArray) (w : World) : Calls Tryz.prog 39 #[.string tx] w fun e w' => e = .returned (tokV (Rd.litT tx)) ∧ Below w.heap.size w w' := by
  obtain ⟨V, hV, hbV, hsV, hcV⟩ := alloc_cells w #[.int .i64 1, .string tx, .int .i64 0, .int .i64 0, .int .i64 0] 57
  have g0 := hcV 0 _ rfl
  have g1 := hcV 1 _ rfl
  have g2 := hcV 2 _ rfl
  have g3 := hcV 3 _ rfl
  have g4 := hcV 4 _ rfl
  have HV := Lib.hid hV
  have HB := Lib.hid hbV
  clear hcV hV hbV hsV
  go_enter Tryz.func39, Tryz.ntmps39
  go_wp2_with fail
  rw [HV.out]
  exact bodyPost_ret (v := .agg #[.int .i64 1, .string tx, .int .i64 0, .int .i64 0, .int .i64 0]) (by simp [results, Tryz.results39, go_sem, g0, g1, g2, g3, g4]) rfl ⟨rfl, HB.out⟩
theorem rpair_any (hi : Int) (w : World) : Calls Tryz.prog 40 #[.int .i64 hi] w fun e w' => e = .returned (tokV (Rd.pairT hi)) ∧ Below w.heap.size w w' := by
  obtain ⟨V, hV, hbV, hsV, hcV⟩ := alloc_cells w #[.int .i64 3, .string ⟨#[]⟩, .int .i64 0, .int .i64 hi, .int .i64 0] 57
  have g0 := hcV 0 _ rfl
  have g1 := hcV 1 _ rfl
  have g2 := hcV 2 _ rfl
  have g3 := hcV 3 _ rfl
  have g4 := hcV 4 _ rfl
  have HV := Lib.hid hV
  have HB := Lib.hid hbV
  clear hcV hV hbV hsV
  go_enter Tryz.func40, Tryz.ntmps40
  go_wp2_with fail
  rw [HV.out]
  exact bodyPost_ret (v := .agg #[.int .i64 3, .string ⟨#[]⟩, .int .i64 0, .int .i64 hi, .int .i64 0]) (by simp [results, Tryz.results40, go_sem, g0, g1, g2, g3, g4]) rfl ⟨rfl, HB.out⟩
theorem form_any (v : Value) (w : World) : Calls Tryz.prog 37 #[v] w fun e w' => e = .returned v ∧ w = w' := by
  go_enter Tryz.func37, Tryz.ntmps37
  go_wp2
  go_ret
  exact ⟨rfl, rfl⟩
set_option maxHeartbeats 4000000 in
set_option maxRecDepth 100000 in
/-- digits that spell n -/
theorem begins_any (t : Tok) (s : ByteArray) (n : Int) (w : World) (hg : Glo w) (h0 : 0 < s.size) (h18 : s.size ≤ 18) (hn : Lib.atoiAll (sB s) = .ok n) (hn0 : 0 ≤ n) (hlow : t.low = 0 ∨ t.low = 1) :
    Calls Tryz.prog 108 #[tokV t, .string s] w fun e w' => e = .returned (.bool (begF t.digits t.low t.high s.size (Rd.byte s 0) n)) ∧ Below w.heap.size w w' := by
  obtain ⟨kd, tx, lo, hi, dg⟩ := t
  unfold tokV
  simp only at hlow ⊢
  obtain ⟨V, hV, hbV, hsV, hcV⟩ := alloc_cells w #[.int .i64 kd, .string tx, .int .i64 lo, .int .i64 hi, .int .i64 dg] 57
  have c2 := Ext.ex (hcV 2 _ rfl)
  have c3 := Ext.ex (hcV 3 _ rfl)
  have c4 := Ext.ex (hcV 4 _ rfl)
  have DA := Lib.hid (fun (X : Ext V) => atoi_every s (by omega) X.1 (hg.below (below_step hbV X.2)))
  have END := Lib.hid (fun (X : Ext V) => below_step hbV X.2)
  have HV := Lib.hid hV
  have HN := Lib.hid hn
  have e0 := Rd.byte_lt h0
  clear hcV hV hg hn hbV
  obtain ⟨bt0, hbt⟩ : ∃ x : Bool, decide (s[0].toNat = 48) = x := ⟨_, rfl⟩
  have hbi : (((s[0].toNat : Nat) : Int) == 48) = bt0 := by
    rw [← hbt]
    by_cases e : s[0].toNat = 48
    · simp [e]
    · simp [e]; omega
  by_cases hA : dg < s.size
  · have t1 : decide ((dg : Int) < (s.size : Int)) = true := by rw [decide_eq_true_eq]; omega
    have t2 : decide (dg < s.size) = true := by simpa using hA
    go_enter Tryz.func108, Tryz.ntmps108
    go_upto_region 1 with fail
    rw [HV.out]
    refine ext_wp fun X => ?_
    have c4' := c4 X
    go_wp2_with fail
    go_ret
    refine ⟨ret_bool ?_, END.out X⟩
    unfold begF
    have : decide (s.size ≤ dg) = false := by rw [decide_eq_false_iff_not]; omega
    rw [this]; rfl
  have t1 : decide ((dg : Int) < (s.size : Int)) = false := by rw [decide_eq_false_iff_not]; omega
  have t2 : decide (dg < s.size) = false := by simpa using hA
  have B1 : decide (s.size ≤ dg) = true := by rw [decide_eq_true_eq]; omega
  have FIRST : Hid (∀ b : Bool, b = (decide (1 < s.size) && bt0) → b = true → Calls Tryz.prog 108 #[.agg #[.int .i64 kd, .string tx, .int .i64 lo, .int .i64 hi, .int .i64 dg], .string s] w fun e w' => e = .returned (.bool (begF dg lo hi s.size (Rd.byte s 0) n)) ∧ Below w.heap.size w w') := Lib.hid (by
    intro b hb hbt'
    rw [hbt', eq_comm, Bool.and_eq_true] at hb
    obtain ⟨u1, u2⟩ := hb
    have u1' : decide ((1 : Int) < (s.size : Int)) = true := by
      rw [decide_eq_true_eq] at u1 ⊢; omega
    rw [u2] at hbi hbt
    go_enter Tryz.func108, Tryz.ntmps108
    go_upto_region 1 with fail
    rw [HV.out]
    refine ext_wp fun X => ?_
    have c4' := c4 X
    go_wp2_with fail
    go_ret
    refine ⟨ret_bool ?_, END.out X⟩
    unfold begF
    rw [u1, e0, hbt, Bool.and_self, Bool.not_true, Bool.and_false]; rfl)
  obtain ⟨bz, hbz⟩ : ∃ x : Bool, x = (decide (1 < s.size) && bt0) := ⟨_, rfl⟩
  cases bz
  case true => exact FIRST.out true hbz rfl
  clear FIRST
  have B2 : (decide (1 < s.size) && decide (Rd.byte s 0 = 48)) = false := by rw [e0, hbt, ← hbz]
  have RES : begF dg lo hi s.size (Rd.byte s 0) n = (decide (n ≤ hi) && decide (lo ≤ n)) := by
    unfold begF
    rw [B1, B2]; rfl
  rw [RES]
  have u1 : decide ((1 : Int) < (s.size : Int)) = decide (1 < s.size) := by
    by_cases e : 1 < s.size
    · rw [decide_eq_true e, decide_eq_true_eq]; omega
    · rw [decide_eq_false e, decide_eq_false_iff_not]; omega
  clear RES B1 B2 e0
  obtain ⟨bs1, hbs1⟩ : ∃ x : Bool, decide (1 < s.size) = x := ⟨_, rfl⟩
  rw [hbs1] at u1 hbz
  go_enter Tryz.func108, Tryz.ntmps108
  go_upto_region 1 with fail
  rw [HV.out]
  refine ext_wp fun X => ?_
  have c4' := c4 X
  have HZ : Hid (false = (bs1 && bt0)) := Lib.hid hbz
  clear hbz
  have GO : Hid (∀ (X : Ext V), True) := Lib.hid fun _ => trivial
  cases bs1
  all_goals cases bt0
  case true.true => exact absurd HZ.out (by decide)
  all_goals
    go_upto_region 4 with (go_at_call 109; refine (DA.out X).mono ?_; rintro e w2 ⟨nn, ev, rfl, hb2, _, _, hv⟩; obtain rfl := hv n HN.out)
    obtain ⟨Y, rfl⟩ : ∃ Y : Ext V, w2 = Y.1 := ⟨⟨w2, below_step X.2 hb2⟩, rfl⟩
    clear hb2
    go_wp2_with fail
    go_loopw [7] (fun mv wr => mv = .int .i64 nn ∧ wr = Y.1) (fun _ _ => 1)
    case atStart => exact ⟨rfl, rfl⟩
    case round =>
      obtain ⟨rfl, rfl⟩ := hrel
      have c2' := c2 Y
      have c3' := c3 Y
      by_cases hH : nn ≤ hi
      · have v1 : decide (nn ≤ hi) = true := by simpa using hH
        by_cases hL : lo ≤ nn
        · have v2 : decide (lo ≤ nn) = true := by simpa using hL
          go_wp2_with fail
          go_ret
          exact ⟨ret_bool (by first | rfl | (rw [v1, v2]; rfl) | simp_all), END.out Y⟩
        · have v2 : decide (lo ≤ nn) = false := by simpa using hL
          obtain rfl : nn = 0 := by omega
          go_wp2_with fail
          go_ret
          exact ⟨ret_bool (by first | rfl | (rw [v1, v2]; rfl) | simp_all), END.out Y⟩
      · have v1 : decide (nn ≤ hi) = false := by simpa using hH
        go_wp2_with fail
        go_ret
        exact ⟨ret_bool (by first | rfl | (rw [v1]; rfl) | simp_all), END.out Y⟩
end Go.Proofs.YthimnjegacdhaaaGreatDoor

/- DurationText of both. -/
namespace Go.Proofs.YthimnjegacdhaaaGreatDoor
open Go.RowKit Go.BigFrame
open Rd (sB bt itoaB padB zeroB durText colon)

set_option maxRecDepth 1000000 in
theorem repeat_zero (s : ByteArray) (w : World) : Calls Tryz.prog 79 #[.string s, .int .i64 0] w fun e w' => e = .returned (.string ⟨#[]⟩) ∧ w = w' := by
  go_enter Tryz.func79, Tryz.ntmps79
  go_wp2
  go_ret
  exact ⟨rfl, rfl⟩
set_option maxRecDepth 1000000 in
theorem repeat_one (s : ByteArray) (w : World) : Calls Tryz.prog 79 #[.string s, .int .i64 1] w fun e w' => e = .returned (.string s) ∧ w = w' := by
  go_enter Tryz.func79, Tryz.ntmps79
  go_wp2
  go_ret
  exact ⟨rfl, rfl⟩
theorem two_any (n : Int) (h0 : 0 ≤ n) (h1 : n < 100) (w : World) (hg : Glo w) : Calls Tryz.prog 31 #[.int .i64 n] w fun e w' => e = .returned (.string (padB n)) ∧ Below w.heap.size w w' := by
  have DI := Lib.hid (itoa_any n (by omega) (by omega) w hg)
  have hl := Rd.itoa_len h0 h1
  have HP : Hid (padB n = if n < 10 then zeroB ++ itoaB n else itoaB n) := Lib.hid rfl
  have D : Calls Tryz.prog 63 #[.int .i64 n, .int .i64 2] w fun e w' => e = .returned (.string (padB n)) ∧ Below w.heap.size w w' := by
    generalize padB n = r at HP ⊢
    obtain ⟨t, ht⟩ : ∃ t, itoaB n = t := ⟨_, rfl⟩
    rw [ht] at DI hl HP
    clear ht
    by_cases hn : n < 10
    · rw [if_pos hn] at hl
      have hr := HP.out
      rw [if_pos hn] at hr
      have HR := Lib.hid hr
      have hl' : ((t.size : Nat) : Int) = 1 := by omega
      clear hn HP hr
      go_enter Tryz.func63, Tryz.ntmps63
      go_upto_region 2 with (go_at_call 30; refine DI.out.mono ?_; rintro e w2 ⟨rfl, hb2⟩)
      go_wp2_with (go_at_call 79; refine (repeat_one _ _).mono ?_; rintro e _ ⟨rfl, rfl⟩)
      go_ret
      exact ⟨by rw [HR.out]; rfl, hb2⟩
    · rw [if_neg hn] at hl
      have hr := HP.out
      rw [if_neg hn] at hr
      have HR := Lib.hid hr
      have hl' : ((t.size : Nat) : Int) = 2 := by omega
      clear hn HP hr
      go_enter Tryz.func63, Tryz.ntmps63
      go_upto_region 2 with (go_at_call 30; refine DI.out.mono ?_; rintro e w2 ⟨rfl, hb2⟩)
      go_wp2_with (go_at_call 79; refine (repeat_zero _ _).mono ?_; rintro e _ ⟨rfl, rfl⟩)
      go_ret
      exact ⟨by rw [HR.out]; exact congrArg (fun x => Ending.returned (.string x)) (Rd.nil_app t), hb2⟩
  have HD := Lib.hid D
  generalize padB n = r at HD ⊢
  go_enter Tryz.func31, Tryz.ntmps31
  go_wp2_with (go_at_call 63; refine HD.out.mono ?_; rintro e w2 ⟨rfl, hb2⟩)
  go_ret
  exact ⟨rfl, hb2⟩
theorem padded_any (n : Int) (h0 : 0 ≤ n) (h1 : n < 100) (w : World) (hg : Glo w) : Calls Tryz.prog 32 #[.int .i64 n] w fun e w' => e = .returned (.string (padB n)) ∧ Below w.heap.size w w' := by
  have DI := Lib.hid (itoa_any n (by omega) (by omega) w hg)
  have HP : Hid (padB n = if n < 10 then zeroB ++ itoaB n else itoaB n) := Lib.hid rfl
  have hl := Rd.itoaB_size (n := n) (by omega) (by omega)
  generalize padB n = r at HP ⊢
  generalize itoaB n = t at DI HP hl
  by_cases hn : n < 10
  · have t1 : decide (n < 10) = true := by simpa using hn
    have hr := HP.out
    rw [if_pos hn] at hr
    have HR := Lib.hid hr
    clear HP hr hn
    go_enter Tryz.func32, Tryz.ntmps32
    go_wp2_with (go_at_call 30; refine DI.out.mono ?_; rintro e w2 ⟨rfl, hb2⟩)
    go_ret
    exact ⟨by rw [HR.out]; rfl, hb2⟩
  · have t1 : decide (n < 10) = false := by simpa using hn
    have hr := HP.out
    rw [if_neg hn] at hr
    have HR := Lib.hid hr
    clear HP hr hn
    go_enter Tryz.func32, Tryz.ntmps32
    go_wp2_with (go_at_call 30; refine DI.out.mono ?_; rintro e w2 ⟨rfl, hb2⟩)
    go_ret
    exact ⟨by rw [HR.out]; rfl, hb2⟩
/-- what DurationText hands back -/
def durTextR (n : Int) : ByteArray × Int := if n < 0 ∨ 3599999 < n then (⟨#[]⟩, 9) else (durText n, 0)
end Go.Proofs.YthimnjegacdhaaaGreatDoor

/- DateText of both. -/
namespace Go.Proofs.YthimnjegacdhaaaGreatDoor
open Go.RowKit Go.BigFrame
open Rd (sB bt itoaB padB)

def dashB : ByteArray := ⟨#[45]⟩
def dateText (day : Int) : ByteArray := itoaB (Cal.yearOf day) ++ dashB ++ padB (Cal.monthOf day) ++ dashB ++ padB (Cal.dateOf day)
def dateTextR (day : Int) : ByteArray × Int := if dayB day = true then (dateText day, 0) else (⟨#[]⟩, 9)
theorem date_bounds {day : Int} (h : dayB day = true) : 1000 ≤ Cal.yearOf day ∧ Cal.yearOf day ≤ 9999 ∧ 0 ≤ Cal.monthOf day ∧ Cal.monthOf day < 100 ∧ 0 ≤ Cal.dateOf day ∧ Cal.dateOf day < 100 := by
  have hr := dayB_true h
  have h1 := year_range (t := day) (by omega) (by omega)
  obtain ⟨_, _, _, _, b5, b6, b7, b8⟩ := Cal.bounds day
  refine ⟨by omega, by omega, ?_, ?_, ?_, ?_⟩
  · unfold Cal.monthOf; split <;> omega
  · unfold Cal.monthOf; split <;> omega
  · unfold Cal.dateOf Cal.mpOf; omega
  · unfold Cal.dateOf Cal.mpOf; omega
theorem itoa_four {n : Int} (h0 : 1000 ≤ n) (h1 : n ≤ 9999) : (itoaB n).size = 4 := by
  have h2 := Go.Lib.nDigits_unique 3 n.toNat (by omega) (by omega)
  have : (itoaB n).size = (Go.Lib.itoa n).length := rfl
  rw [this, show Go.Lib.itoa n = Go.Lib.decDigits n.toNat by unfold Go.Lib.itoa; rw [if_neg (by omega)], Go.Lib.decDigits_length, h2]
theorem digits4_any (n : Int) (h0 : 1000 ≤ n) (h1 : n ≤ 9999) (w : World) (hg : Glo w) : Calls Tryz.prog 63 #[.int .i64 n, .int .i64 4] w fun e w' => e = .returned (.string (itoaB n)) ∧ Below w.heap.size w w' := by
  have DI := Lib.hid (itoa_any n (by omega) (by omega) w hg)
  have hl := itoa_four h0 h1
  generalize itoaB n = t at DI hl ⊢
  have hl' : ((t.size : Nat) : Int) = 4 := by omega
  go_enter Tryz.func63, Tryz.ntmps63
  go_upto_region 2 with (go_at_call 30; refine DI.out.mono ?_; rintro e w2 ⟨rfl, hb2⟩)
  go_wp2_with (go_at_call 79; refine (repeat_zero _ _).mono ?_; rintro e _ ⟨rfl, rfl⟩)
  go_ret
  exact ⟨congrArg (fun x => Ending.returned (.string x)) (Rd.nil_app t), hb2⟩
set_option maxHeartbeats 2000000 in
theorem dateText_any (day : Int) (w : World) (hg : Glo w) : Calls Tryz.prog 20 #[.int .i64 day] w fun e w' => e = .returned (.tuple #[.string (dateTextR day).1, .int .i64 (dateTextR day).2]) ∧ Below w.heap.size w w' := by
  have D1 := Lib.hid (fun W => isDay_any day W)
  cases hb : dayB day
  · have HX := Lib.hid (show dateTextR day = (⟨#[]⟩, 9) by unfold dateTextR; rw [hb]; rfl)
    rw [hb] at D1
    clear hb
    go_enter Tryz.func20, Tryz.ntmps20
    go_wp2_with (go_at_call 46; refine (D1.out _).mono ?_; rintro e _ ⟨rfl, rfl⟩)
    go_ret2
    exact ⟨by rw [HX.out]; rfl, Below.refl _ _⟩
  · have HX := Lib.hid (show dateTextR day = (dateText day, 0) by unfold dateTextR; rw [hb]; rfl)
    obtain ⟨b1, b2, b3, b4, b5, b6⟩ := date_bounds hb
    have hr := dayB_true hb
    rw [hb] at D1
    have D2 := Lib.hid (fun W => dateOf_any day W (by omega) (by omega))
    have HT : Hid (dateText day = itoaB (Cal.yearOf day) ++ dashB ++ padB (Cal.monthOf day) ++ dashB ++ padB (Cal.dateOf day)) := Lib.hid rfl
    have HG := Lib.hid (fun (W : World) (h : Below w.heap.size w W) => hg.below h)
    have D3 := Lib.hid (fun W h => digits4_any (Cal.yearOf day) b1 b2 W (HG.out W h))
    have D4 := Lib.hid (fun W h => two_any (Cal.monthOf day) b3 b4 W (HG.out W h))
    have D5 := Lib.hid (fun W h => two_any (Cal.dateOf day) b5 b6 W (HG.out W h))
    have z1 := itoa_four b1 b2
    have z2 := Rd.padB_size b3 b4
    have z3 := Rd.padB_size b5 b6
    generalize Cal.yearOf day = y at *
    generalize Cal.monthOf day = m at *
    generalize Cal.dateOf day = d at *
    generalize itoaB y = r1 at HT D3 z1
    obtain ⟨r2, h2⟩ : ∃ x, padB m = x := ⟨_, rfl⟩
    obtain ⟨r3, h3⟩ : ∃ x, padB d = x := ⟨_, rfl⟩
    rw [h2] at D4 z2 HT
    rw [h3] at D5 z3 HT
    have D : Hid (Calls Tryz.prog 51 #[.int .i64 day] w fun e w' => e = .returned (.string (dateText day)) ∧ Below w.heap.size w w') := Lib.hid (by
      generalize dateText day = r at HT ⊢
      clear HX h2 h3 D1 hb
      go_enter Tryz.func51, Tryz.ntmps51
      go_upto_region 2 with (go_at_call 47; refine (D2.out _).mono ?_; rintro e _ ⟨rfl, rfl⟩)
      go_wp2_with fail
      refine (D3.out _ (Below.refl _ _)).mono ?_
      rintro e w1 ⟨rfl, hb1⟩
      go_wp2_with fail
      refine (D4.out w1 hb1).mono ?_
      rintro e w2 ⟨rfl, hb2⟩
      go_wp2_with fail
      refine (D5.out w2 (below_step hb1 hb2)).mono ?_
      rintro e w3 ⟨rfl, hb3⟩
      go_wp2_with fail
      go_ret
      exact ⟨by rw [HT.out]; rfl, below_step (below_step hb1 hb2) hb3⟩)
    generalize dateText day = r at D HX
    clear hb HT D3 D4 D5 D2 h2 h3
    go_enter Tryz.func20, Tryz.ntmps20
    go_wp2_with (first
      | (go_at_call 46; refine (D1.out _).mono ?_; rintro e _ ⟨rfl, rfl⟩)
      | (go_at_call 51; refine D.out.mono ?_; rintro e w1 ⟨rfl, hb1⟩))
    go_ret2
    exact ⟨by rw [HX.out]; rfl, hb1⟩
set_option maxHeartbeats 2000000 in
theorem rDateText_any (day : Int) (w : World) (hg : Glo w) : Calls Tryz.prog 21 #[.int .i64 day] w fun e w' => e = .returned (.tuple #[.string (dateTextR day).1, .int .i64 (dateTextR day).2]) ∧ Below w.heap.size w w' := by
  have D1 := Lib.hid (fun W => rdateOfP_any day W)
  unfold quad at D1
  cases hb : dayB day
  · have HX := Lib.hid (show dateTextR day = (⟨#[]⟩, 9) by unfold dateTextR; rw [hb]; rfl)
    have HF := Lib.hid (show dateOfF day = (0, 0, 0, 9) by unfold dateOfF; rw [hb]; rfl)
    rw [HF.out] at D1
    simp only at D1
    clear hb
    go_enter Tryz.func21, Tryz.ntmps21
    go_wp2_with (go_at_call 19; refine (D1.out _).mono ?_; rintro e _ ⟨rfl, rfl⟩)
    go_ret2
    exact ⟨by rw [HX.out]; rfl, Below.refl _ _⟩
  · have HX := Lib.hid (show dateTextR day = (dateText day, 0) by unfold dateTextR; rw [hb]; rfl)
    have HF := Lib.hid (show dateOfF day = (Cal.yearOf day, Cal.monthOf day, Cal.dateOf day, 0) by unfold dateOfF; rw [hb]; rfl)
    rw [HF.out] at D1
    simp only at D1
    obtain ⟨b1, b2, b3, b4, b5, b6⟩ := date_bounds hb
    have HT : Hid (dateText day = itoaB (Cal.yearOf day) ++ dashB ++ padB (Cal.monthOf day) ++ dashB ++ padB (Cal.dateOf day)) := Lib.hid rfl
    have HG := Lib.hid (fun (W : World) (h : Below w.heap.size w W) => hg.below h)
    have D3 := Lib.hid (fun W h => itoa_any (Cal.yearOf day) (by omega) (by omega) W (HG.out W h))
    have D4 := Lib.hid (fun W h => padded_any (Cal.monthOf day) b3 b4 W (HG.out W h))
    have D5 := Lib.hid (fun W h => padded_any (Cal.dateOf day) b5 b6 W (HG.out W h))
    have z1 := itoa_four b1 b2
    have z2 := Rd.padB_size b3 b4
    have z3 := Rd.padB_size b5 b6
    generalize Cal.yearOf day = y at *
    generalize Cal.monthOf day = m at *
    generalize Cal.dateOf day = d at *
    generalize itoaB y = r1 at HT D3 z1
    obtain ⟨r2, h2⟩ : ∃ x, padB m = x := ⟨_, rfl⟩
    obtain ⟨r3, h3⟩ : ∃ x, padB d = x := ⟨_, rfl⟩
    rw [h2] at D4 z2 HT
    rw [h3] at D5 z3 HT
    generalize dateText day = r at HT HX
    clear hb h2 h3 HF
    go_enter Tryz.func21, Tryz.ntmps21
    go_upto_region 4 with (go_at_call 19; refine (D1.out _).mono ?_; rintro e _ ⟨rfl, rfl⟩)
    go_wp2_with fail
    refine (D3.out _ (Below.refl _ _)).mono ?_
    rintro e w1 ⟨rfl, hb1⟩
    go_wp2_with fail
    refine (D4.out w1 hb1).mono ?_
    rintro e w2 ⟨rfl, hb2⟩
    go_wp2_with fail
    refine (D5.out w2 (below_step hb1 hb2)).mono ?_
    rintro e w3 ⟨rfl, hb3⟩
    go_wp2_with fail
    go_ret2
    exact ⟨by rw [HX.out, HT.out]; rfl, below_step (below_step hb1 hb2) hb3⟩
end Go.Proofs.YthimnjegacdhaaaGreatDoor

/- The reader's row of digits. -/
namespace Go.Proofs.YthimnjegacdhaaaGreatDoor
open Go.RowKit Go.BigFrame

theorem rowEnd {B : Nat} {s : ByteArray} {p : Nat} {ok : Bool} {most least : Nat} {w wr : World} {n : Int} {k q : Nat} (b : Bool) (hR : IsRd wr B s q ok) (hK : Kp B w wr)
    (hX : Rd.rowAt s most ok p = (n, k, q)) (hb : (ok && decide (least ≤ k)) = b) :
    Ending.returned (.tuple #[.int .i64 n, .int .i64 k]) = .returned (.tuple #[.int .i64 (Rd.rowAt s most ok p).1, .int .i64 ((Rd.rowAt s most ok p).2.1 : Nat)]) ∧
      IsRd (wr.setCell ⟨B + 3, 0, none⟩ (.bool b)) B s (Rd.rowAt s most ok p).2.2 (ok && decide (least ≤ (Rd.rowAt s most ok p).2.1)) ∧ Kp B w (wr.setCell ⟨B + 3, 0, none⟩ (.bool b)) := by
  rw [hX]
  refine ⟨rfl, ?_, hK.setOk _⟩
  show IsRd _ B s q (ok && decide (least ≤ k))
  rw [hb]; exact hR.setOk b
set_option maxHeartbeats 2000000 in
set_option maxRecDepth 100000 in
theorem row_any {B : Nat} {s : ByteArray} {p : Nat} {ok : Bool} (least most : Nat) (w : World) (h : IsRd w B s p ok) (hs : s.size ≤ 9223372036854775807) (hd : most ≤ 17) :
    Calls Tryz.prog 84 #[.int .i64 least, .int .i64 most, pt (B + 4), pt (B + 5), pt (B + 3)] w fun e w' =>
      e = .returned (.tuple #[.int .i64 (Rd.rowAt s most ok p).1, .int .i64 ((Rd.rowAt s most ok p).2.1 : Nat)]) ∧ IsRd w' B s (Rd.rowAt s most ok p).2.2 (ok && decide (least ≤ (Rd.rowAt s most ok p).2.1)) ∧ Kp B w w' := by
  have h' := Lib.hid h
  clear h
  unfold pt
  go_enter Tryz.func84, Tryz.ntmps84
  go_wp2_with fail
  go_loopw [7, 8] (fun n m wr => ∃ (nn : Int) (k q : Nat), n = .int .i64 nn ∧ m = .int .i64 k ∧ k ≤ most ∧ 0 ≤ nn ∧ Hid (nn < 10 ^ k) ∧ Hid (IsRd wr B s q ok) ∧ Hid (Kp B w wr) ∧
      Hid (Rd.rowLoop s most ok (most - k) nn k q = Rd.rowAt s most ok p)) (fun _ m _ => most - (intOf m).toNat)
  case atStart => exact ⟨0, 0, p, rfl, rfl, by omega, by omega, Lib.hid (by decide), h', Lib.hid (Kp.refl _ _), Lib.hid rfl⟩
  case round =>
    obtain ⟨n, k, q, rfl, rfl, hk, hn0, HN, HR, HK, HF⟩ := hrel
    obtain ⟨_, c0, c2, cf2, c3, cf3, cd, ct⟩ := HR.out
    unfold digF pt at cd
    unfold takeF pt at ct
    clear h'
    by_cases hkd : k < most
    case neg =>
      have t1 : decide ((k : Int) < (most : Int)) = false := by rw [decide_eq_false_iff_not]; omega
      have t1' : decide (k < most) = false := by simpa using hkd
      have HX := Lib.hid (HF.out.symm.trans (Rd.rowLoop_stop (by simp [hkd])))
      clear HF
      cases ok
      · go_wp2
        go_ret2
        exact rowEnd false HR.out HK.out HX.out rfl
      · obtain ⟨bl, hbl⟩ : ∃ x, decide (least ≤ k) = x := ⟨_, rfl⟩
        have l1 : decide ((least : Int) ≤ (k : Int)) = bl := by
          rw [← hbl]
          by_cases e : least ≤ k
          · rw [decide_eq_true e, decide_eq_true_eq]; omega
          · rw [decide_eq_false e, decide_eq_false_iff_not]; omega
        cases bl
        all_goals
          go_wp2
          go_ret2
          exact rowEnd _ HR.out HK.out HX.out (by rw [hbl]; rfl)
    case pos =>
      have t1 : decide ((k : Int) < (most : Int)) = true := by rw [decide_eq_true_eq]; omega
      have t1' : decide (k < most) = true := by simpa using hkd
      cases hdg : Rd.digAt s q ok
      case false =>
        have HX := Lib.hid (HF.out.symm.trans (Rd.rowLoop_stop (by simp [hdg])))
        have DG := Lib.hid (digit_any wr HR.out)
        rw [hdg] at DG
        clear HF hdg
        go_wp2_with fail
        refine DG.out.mono ?_
        rintro e w1 ⟨rfl, rfl⟩
        cases ok
        · go_wp2
          go_ret2
          exact rowEnd false HR.out HK.out HX.out rfl
        · obtain ⟨bl, hbl⟩ : ∃ x, decide (least ≤ k) = x := ⟨_, rfl⟩
          have l1 : decide ((least : Int) ≤ (k : Int)) = bl := by
            rw [← hbl]
            by_cases e : least ≤ k
            · rw [decide_eq_true e, decide_eq_true_eq]; omega
            · rw [decide_eq_false e, decide_eq_false_iff_not]; omega
          cases bl
          all_goals
            go_wp2
            go_ret2
            exact rowEnd _ HR.out HK.out HX.out (by rw [hbl]; rfl)
      case true =>
        obtain ⟨hok, hq, hb0, hb1⟩ := Rd.digAt_true hdg
        subst hok
        have DG := Lib.hid (digit_any wr HR.out)
        rw [hdg] at DG
        have HD := Lib.hid hdg
        have DT := Lib.hid (fun (W : World) (h : IsRd W B s q true) => take_any W h hs hq hb0)
        have hn9 : n ≤ 99999999999999999 := by
          have h1 := HN.out
          have h2 : (10 : Int) ^ k ≤ 10 ^ 17 := by exact_mod_cast Nat.pow_le_pow_right (show 0 < 10 by omega) (show k ≤ 17 by omega)
          have h3 : (10 : Int) ^ 17 = 100000000000000000 := by decide
          omega
        obtain ⟨d, hdd⟩ : ∃ d : Int, (Rd.byte s q : Int) - 48 = d := ⟨_, rfl⟩
        have hd0 : 0 ≤ d ∧ d ≤ 9 := by omega
        have HST := Lib.hid (show Rd.rowLoop s most true (most - (k + 1)) (10 * n + d) (k + 1) (q + 1) = Rd.rowAt s most true p by
          rw [← HF.out, show most - k = (most - (k + 1)) + 1 by omega, ← hdd]
          conv => rhs; rw [Rd.rowLoop]
          rw [if_pos ⟨hkd, hdg⟩])
        rw [hdd] at DT
        clear hdg HF hdd hb0 hb1
        go_wp2_with fail
        refine DG.out.mono ?_
        rintro e w1 ⟨rfl, rfl⟩
        go_wp2_with fail
        refine (DT.out _ HR.out).mono ?_
        rintro e w2 ⟨rfl, hR1, hK1⟩
        have HR1 := Lib.hid hR1
        have HK1 := Lib.hid (HK.out.trans hK1)
        clear hR1 hK1
        go_wp2
        go_roundw
        case rel =>
          refine ⟨10 * n + d, k + 1, q + 1, rfl, by go_num, by omega, by omega, Lib.hid ?_, HR1, HK1, HST⟩
          have := HN.out
          rw [Int.pow_succ]; omega
        case measure => simp [intOf]; omega
end Go.Proofs.YthimnjegacdhaaaGreatDoor

/- Going along a form, step by step (plain). -/
namespace Rd
theorem exactLoop_le (s t : ByteArray) : ∀ (f i p : Nat), p ≤ s.size → (exactLoop s t f i p).1 ≤ s.size
  | 0, _, p, h => h
  | f + 1, i, p, h => by
    unfold exactLoop
    split
    · split
      · rename_i hc
        exact exactLoop_le s t f (i + 1) (p + 1) (by omega)
      · exact h
    · exact h
theorem pairStep_le {s : ByteArray} {most u n : Int} {q : Nat} {b : Bool} (h : q ≤ s.size) : (pairStep s most u (n, q, b)).2.1 ≤ s.size := by
  unfold pairStep
  split
  · rename_i hc
    have : q < s.size := (digAt_true hc.1).2.1
    show q + 1 ≤ s.size
    omega
  · exact h
theorem rowLoop_le (s : ByteArray) (digits : Nat) (ok : Bool) : ∀ (f : Nat) (n : Int) (m p : Nat), p ≤ s.size → (rowLoop s digits ok f n m p).2.2 ≤ s.size
  | 0, n, m, p, h => h
  | f + 1, n, m, p, h => by
    unfold rowLoop
    split
    · rename_i hc
      have := (digAt_true hc.2).2.1
      exact rowLoop_le s digits ok f _ _ _ (by omega)
    · exact h
theorem runT_le {s : ByteArray} {t : Tok} {p : Nat} (h : p ≤ s.size) : (runT s t p).1 ≤ s.size := by
  unfold runT
  split
  · show (exactAt s t.text p true).1 ≤ _
    unfold exactAt
    rw [if_pos rfl]
    exact exactLoop_le s t.text _ _ _ h
  · split
    · show (pairAt s t.high p true).2.1 ≤ _
      unfold pairAt
      exact pairStep_le (n := (pairStep s t.high 10 (0, p, true)).1) (b := (pairStep s t.high 10 (0, p, true)).2.2) (pairStep_le h)
    · split
      · exact numLoop_pos _ _ _ _ _ _ _ _ _ h
      · exact rowLoop_le _ _ _ _ _ _ _ h
def tok0 : Tok := litT ⟨#[]⟩
/-- behind k tokens of a form, at q, with the values L -/
def MatchAt (s : ByteArray) (f : List Tok) (k q : Nat) (L : List Int) : Prop :=
  matchT s f 0 = ((matchT s (f.drop k) q).1, L ++ (matchT s (f.drop k) q).2.1, (matchT s (f.drop k) q).2.2)
theorem MatchAt.start (s : ByteArray) (f : List Tok) : MatchAt s f 0 0 [] := rfl
theorem MatchAt.next {s : ByteArray} {f : List Tok} {k q : Nat} {L : List Int} (h : MatchAt s f k q L) {t : Tok} (ht : f[k]? = some t) (hr : (runT s t q).2.2 = true) :
    MatchAt s f (k + 1) (runT s t q).1 (if t.kind = 1 then L else L ++ [(runT s t q).2.1]) := by
  unfold MatchAt at h ⊢
  have hk : k < f.length := (List.getElem?_eq_some_iff.1 ht).1
  rw [h, List.drop_eq_getElem_cons hk, (List.getElem?_eq_some_iff.1 ht).2, matchT, if_pos hr]
  split <;> simp
theorem MatchAt.fail {s : ByteArray} {f : List Tok} {k q : Nat} {L : List Int} (h : MatchAt s f k q L) {t : Tok} (ht : f[k]? = some t) (hr : (runT s t q).2.2 = false) : matchT s f 0 = ((runT s t q).1, L, false) := by
  unfold MatchAt at h
  have hk : k < f.length := (List.getElem?_eq_some_iff.1 ht).1
  rw [h, List.drop_eq_getElem_cons hk, (List.getElem?_eq_some_iff.1 ht).2, matchT, if_neg (by rw [hr]; simp)]
  simp
theorem MatchAt.done {s : ByteArray} {f : List Tok} {k q : Nat} {L : List Int} (h : MatchAt s f k q L) (hk : k = f.length) : matchT s f 0 = (q, L, decide (q = s.size)) := by
  unfold MatchAt at h
  rw [h, hk, List.drop_length]
  simp [matchT]
theorem matchT_le {s : ByteArray} : ∀ (f : List Tok) (q : Nat), q ≤ s.size → (matchT s f q).1 ≤ s.size
  | [], q, h => h
  | t :: f, q, h => by
    rw [matchT]
    split
    · exact matchT_le f _ (runT_le h)
    · exact runT_le h
/-- behind k forms -/
def FirstAt (s : ByteArray) (l : List (List Tok)) (k far : Nat) : Prop := firstT s l 0 0 = firstT s (l.drop k) k far
theorem FirstAt.start (s : ByteArray) (l : List (List Tok)) : FirstAt s l 0 0 := rfl
theorem FirstAt.next {s : ByteArray} {l : List (List Tok)} {k far : Nat} (h : FirstAt s l k far) {f : List Tok} (hf : l[k]? = some f) (hm : (matchT s f 0).2.2 = false) : FirstAt s l (k + 1) (max far (matchT s f 0).1) := by
  unfold FirstAt at h ⊢
  have hk : k < l.length := (List.getElem?_eq_some_iff.1 hf).1
  rw [h, List.drop_eq_getElem_cons hk, (List.getElem?_eq_some_iff.1 hf).2, firstT, if_neg (by rw [hm]; simp)]
theorem FirstAt.hit {s : ByteArray} {l : List (List Tok)} {k far : Nat} (h : FirstAt s l k far) {f : List Tok} (hf : l[k]? = some f) (hm : (matchT s f 0).2.2 = true) : firstT s l 0 0 = ((k : Int), (matchT s f 0).2.1, 0) := by
  unfold FirstAt at h
  have hk : k < l.length := (List.getElem?_eq_some_iff.1 hf).1
  rw [h, List.drop_eq_getElem_cons hk, (List.getElem?_eq_some_iff.1 hf).2, firstT, if_pos hm]
theorem FirstAt.done {s : ByteArray} {l : List (List Tok)} {k far : Nat} (h : FirstAt s l k far) (hk : k = l.length) : firstT s l 0 0 = (-1, [], far) := by
  unfold FirstAt at h
  rw [h, hk, List.drop_length]
  rfl
end Rd

/- Dates of both, read, in plain words. -/
namespace Rd
def dash : ByteArray := ⟨#[45]⟩
def dateT : List Tok := [pairT 99, pairT 99, litT dash, pairT 99, litT dash, pairT 99]
/-- the program's form of a date -/
def dateF (s : ByteArray) : Int × Nat × Bool :=
  let y := rowAt s 4 true 0
  let a := exactAt s dash y.2.2 (decide (4 ≤ y.2.1))
  let m := rowAt s 2 a.2 a.1
  let b := exactAt s dash m.2.2 (a.2 && decide (2 ≤ m.2.1))
  let d := rowAt s 2 b.2 b.1
  (if (Cal.dayOfF y.1 m.1 d.1).2 = 0 then (Cal.dayOfF y.1 m.1 d.1).1 else -1, d.2.2, b.2 && decide (2 ≤ d.2.1))
theorem rowAt_no {s : ByteArray} {k p : Nat} : rowAt s k false p = (0, 0, p) := by
  unfold rowAt
  exact rowLoop_stop (by rw [digAt_no]; simp)
theorem pair_no {s : ByteArray} {p : Nat} (h : digAt s p true = false) : pairAt s 99 p true = (0, p, false) := by
  unfold pairAt pairStep
  simp [h, digAt_no]
theorem pair_one {s : ByteArray} {p : Nat} (h : digAt s p true = true) (h2 : digAt s (p + 1) true = false) : pairAt s 99 p true = (10 * ((byte s p : Int) - 48), p + 1, false) := by
  obtain ⟨_, _, h48, h57⟩ := digAt_true h
  unfold pairAt
  have e : pairStep s 99 10 (0, p, true) = (10 * ((byte s p : Int) - 48), p + 1, true) := by
    unfold pairStep
    rw [if_pos ⟨h, by show (0 : Int) + 10 * ((byte s p : Int) - 48) ≤ 99; omega⟩]
    simp
  rw [e]
  unfold pairStep
  simp [h2]
theorem pair_two {s : ByteArray} {p : Nat} (h : digAt s p true = true) (h2 : digAt s (p + 1) true = true) : pairAt s 99 p true = (10 * ((byte s p : Int) - 48) + ((byte s (p + 1) : Int) - 48), p + 2, true) := by
  obtain ⟨_, _, h48, h57⟩ := digAt_true h
  obtain ⟨_, _, g48, g57⟩ := digAt_true h2
  unfold pairAt
  have e : pairStep s 99 10 (0, p, true) = (10 * ((byte s p : Int) - 48), p + 1, true) := by
    unfold pairStep
    rw [if_pos ⟨h, by show (0 : Int) + 10 * ((byte s p : Int) - 48) ≤ 99; omega⟩]
    simp
  rw [e]
  unfold pairStep
  rw [if_pos ⟨h2, by show 10 * ((byte s p : Int) - 48) + 1 * ((byte s (p + 1) : Int) - 48) ≤ 99; omega⟩]
  simp
theorem row_step {s : ByteArray} {k f : Nat} {n : Int} {m p : Nat} (hm : m < k) (h : digAt s p true = true) : rowLoop s k true (f + 1) n m p = rowLoop s k true f (10 * n + ((byte s p : Int) - 48)) (m + 1) (p + 1) := by
  rw [rowLoop, if_pos ⟨hm, h⟩]
theorem row_halt {s : ByteArray} {k f : Nat} {n : Int} {m p : Nat} (h : digAt s p true = false) : rowLoop s k true f n m p = (n, m, p) := rowLoop_stop (by rw [h]; simp)
theorem row2 (s : ByteArray) (p : Nat) : (rowAt s 2 true p).2.2 = (pairAt s 99 p true).2.1 ∧ decide (2 ≤ (rowAt s 2 true p).2.1) = (pairAt s 99 p true).2.2 ∧ ((pairAt s 99 p true).2.2 = true → (rowAt s 2 true p).1 = (pairAt s 99 p true).1) := by
  unfold rowAt
  cases h : digAt s p true
  · rw [row_halt h, pair_no h]; simp
  · rw [row_step (by omega) h]
    cases h2 : digAt s (p + 1) true
    · rw [row_halt h2, pair_one h h2]; simp
    · rw [row_step (by omega) h2, pair_two h h2]
      simp only [rowLoop]
      refine ⟨by trivial, by simp, fun _ => ?_⟩
      omega
theorem row4 (s : ByteArray) (p : Nat) :
    ((pairAt s 99 p true).2.2 = false → (rowAt s 4 true p).2.2 = (pairAt s 99 p true).2.1 ∧ decide (4 ≤ (rowAt s 4 true p).2.1) = false) ∧
    ((pairAt s 99 p true).2.2 = true → (rowAt s 4 true p).2.2 = (pairAt s 99 (pairAt s 99 p true).2.1 true).2.1 ∧ decide (4 ≤ (rowAt s 4 true p).2.1) = (pairAt s 99 (pairAt s 99 p true).2.1 true).2.2 ∧
      ((pairAt s 99 (pairAt s 99 p true).2.1 true).2.2 = true → (rowAt s 4 true p).1 = 100 * (pairAt s 99 p true).1 + (pairAt s 99 (pairAt s 99 p true).2.1 true).1)) := by
  unfold rowAt
  cases h : digAt s p true
  · rw [row_halt h, pair_no h]; simp
  · rw [row_step (by omega) h]
    cases h2 : digAt s (p + 1) true
    · rw [row_halt h2, pair_one h h2]; simp
    · rw [row_step (by omega) h2, pair_two h h2]
      simp only
      refine ⟨fun h => (by cases h), fun _ => ?_⟩
      cases h3 : digAt s (p + 2) true
      · rw [row_halt (p := p + 1 + 1) h3, pair_no h3]
        refine ⟨rfl, by simp, fun h => by cases h⟩
      · rw [row_step (p := p + 1 + 1) (by omega) h3]
        cases h4 : digAt s (p + 3) true
        · rw [row_halt (p := p + 1 + 1 + 1) h4, pair_one h3 h4]
          refine ⟨rfl, by simp, fun h => by cases h⟩
        · rw [row_step (p := p + 1 + 1 + 1) (by omega) h4, pair_two h3 h4]
          simp only [rowLoop]
          refine ⟨by trivial, by simp, fun _ => ?_⟩
          have e1 : byte s (p + 1 + 1) = byte s (p + 2) := rfl
          have e2 : byte s (p + 1 + 1 + 1) = byte s (p + 2 + 1) := rfl
          rw [e1, e2]
          omega
/-- the form and the tokens say the same -/
theorem date_match (s : ByteArray) : (matchT s dateT 0).1 = (dateF s).2.1 ∧ (matchT s dateT 0).2.2 = ((dateF s).2.2 && decide ((dateF s).2.1 = s.size)) ∧
    ((matchT s dateT 0).2.2 = true → ∃ a b m d, (matchT s dateT 0).2.1 = [a, b, m, d] ∧ (dateF s).1 = if (Cal.dayOfF (100 * a + b) m d).2 = 0 then (Cal.dayOfF (100 * a + b) m d).1 else -1) := by
  obtain ⟨o, ho⟩ : ∃ o, dateF s = o := ⟨_, rfl⟩
  rw [ho]
  simp only [dateF] at ho
  unfold dateT
  obtain ⟨r1, r2⟩ := row4 s 0
  rw [matchT_pair]
  obtain ⟨z, hz⟩ : ∃ z, pairAt s 99 0 true = z := ⟨_, rfl⟩
  rw [hz] at r1 r2 ⊢
  obtain ⟨y, hy⟩ : ∃ y, rowAt s 4 true 0 = y := ⟨_, rfl⟩
  rw [hy] at ho r1 r2
  obtain ⟨z1, z2, z3⟩ := z
  cases z3
  case false =>
    obtain ⟨e1, e2⟩ := r1 rfl
    rw [e1, e2] at ho
    simp only [exactAt_no, rowAt_no, Bool.false_and] at ho
    subst ho
    simp
  case true =>
    obtain ⟨e1, e2, e3⟩ := r2 rfl
    simp only [if_true] at e1 e2 e3 ⊢
    rw [matchT_pair]
    obtain ⟨u, hu⟩ : ∃ u, pairAt s 99 z2 true = u := ⟨_, rfl⟩
    rw [hu] at e1 e2 e3 ⊢
    rw [e1, e2] at ho
    obtain ⟨u1, u2, u3⟩ := u
    cases u3
    case false =>
      simp only [exactAt_no, rowAt_no, Bool.false_and] at ho
      subst ho
      simp
    case true =>
      have e3 := e3 rfl
      simp only [if_true] at ho e3 ⊢
      rw [matchT_lit]
      obtain ⟨x, hx⟩ : ∃ x, exactAt s dash u2 true = x := ⟨_, rfl⟩
      rw [hx] at ho ⊢
      obtain ⟨x1, x2⟩ := x
      cases x2
      case false =>
        simp only [exactAt_no, rowAt_no, Bool.false_and] at ho
        subst ho
        simp
      case true =>
        simp only [if_true, Bool.true_and] at ho ⊢
        rw [matchT_pair]
        obtain ⟨q1, q2, q3⟩ := row2 s x1
        obtain ⟨v, hv⟩ : ∃ v, pairAt s 99 x1 true = v := ⟨_, rfl⟩
        rw [hv] at q1 q2 q3 ⊢
        obtain ⟨m, hm⟩ : ∃ m, rowAt s 2 true x1 = m := ⟨_, rfl⟩
        rw [hm] at ho q1 q2 q3
        rw [q1, q2] at ho
        obtain ⟨v1, v2, v3⟩ := v
        cases v3
        case false =>
          simp only [exactAt_no, rowAt_no, Bool.false_and] at ho
          subst ho
          simp
        case true =>
          have q3 := q3 rfl
          simp only [if_true] at ho q3 ⊢
          rw [matchT_lit]
          obtain ⟨t, ht⟩ : ∃ t, exactAt s dash v2 true = t := ⟨_, rfl⟩
          rw [ht] at ho ⊢
          obtain ⟨t1, t2⟩ := t
          cases t2
          case false =>
            simp only [rowAt_no, Bool.false_and] at ho
            subst ho
            simp
          case true =>
            simp only [if_true, Bool.true_and] at ho ⊢
            rw [matchT_pair]
            obtain ⟨p1, p2, p3⟩ := row2 s t1
            obtain ⟨c, hc⟩ : ∃ c, pairAt s 99 t1 true = c := ⟨_, rfl⟩
            rw [hc] at p1 p2 p3 ⊢
            obtain ⟨d, hd⟩ : ∃ d, rowAt s 2 true t1 = d := ⟨_, rfl⟩
            rw [hd] at ho p1 p2 p3
            rw [p1, p2] at ho
            obtain ⟨c1, c2, c3⟩ := c
            cases c3
            case false =>
              subst ho
              simp
            case true =>
              have p3 := p3 rfl
              simp only [if_true] at ho p3 ⊢
              subst ho
              refine ⟨by simp [matchT], by simp [matchT], fun _ => ⟨z1, u1, v1, c1, rfl, ?_⟩⟩
              simp only at e3 q3 p3 ⊢
              rw [e3, q3, p3]
/-- ReadDate of the reference -/
def refDate (s : ByteArray) : Int × Nat × Int :=
  if 1000 < s.size then (0, 0, 3)
  else if (firstT s [dateT] 0 0).1 < 0 then (0, (firstT s [dateT] 0 0).2.2, 6)
  else
    let l := (firstT s [dateT] 0 0).2.1
    let e := Cal.rdayOfF (100 * l.getD 0 0 + l.getD 1 0) (l.getD 2 0) (l.getD 3 0)
    if e.2 = 0 then (e.1, 0, 0) else (0, 0, 9)
theorem dayOf_range (y m d : Int) : ((Cal.dayOfF y m d).2 = 0 ∧ 0 ≤ (Cal.dayOfF y m d).1 ∧ (Cal.dayOfF y m d).1 ≤ 999999) ∨ (Cal.dayOfF y m d).2 = 9 := by
  unfold Cal.dayOfF
  split
  · rename_i h
    exact Or.inl ⟨rfl, h.2.1⟩
  · exact Or.inr rfl
theorem date_eq (s : ByteArray) : refDate s = ranged (readForms s [dateF]) 0 999999 := by
  unfold refDate readForms
  by_cases hz : 1000 < s.size
  · rw [if_pos hz, if_pos hz]; rfl
  rw [if_neg hz, if_neg hz]
  obtain ⟨h1, h2, h3⟩ := date_match s
  unfold formsLoop
  by_cases hm : (matchT s dateT 0).2.2 = true
  · have hc : ((dateF s).2.2 && decide ((dateF s).2.1 = s.size)) = true := by rw [← h2]; exact hm
    rw [if_pos hc]
    obtain ⟨a, b, m, d, hl, hv⟩ := h3 hm
    have hf : firstT s [dateT] 0 0 = ((0 : Int), [a, b, m, d], 0) := by
      unfold firstT
      rw [if_pos hm, hl]; rfl
    rw [hf, if_neg (show ¬ (0 : Int) < 0 by omega), hv]
    simp only [List.getD_cons_zero, List.getD_cons_succ]
    rw [← Cal.dayOf_eq]
    rcases dayOf_range (100 * a + b) m d with ⟨g1, g2, g3⟩ | g
    · rw [if_pos g1, if_pos g1]
      unfold ranged
      rw [if_neg]
      rintro ⟨_, h | h⟩
      · have h : (Cal.dayOfF (100 * a + b) m d).1 < 0 := h
        omega
      · have h : 999999 < (Cal.dayOfF (100 * a + b) m d).1 := h
        omega
    · rw [if_neg (by omega), if_neg (by omega)]
      rfl
  · have hc : ¬ ((dateF s).2.2 && decide ((dateF s).2.1 = s.size)) = true := by rw [← h2]; exact hm
    rw [if_neg hc]
    have hf : firstT s [dateT] 0 0 = (-1, [], max 0 (matchT s dateT 0).1) := by
      unfold firstT
      rw [if_neg hm]; rfl
    rw [hf, if_pos (show (-1 : Int) < 0 by omega), h1]
    rfl
end Rd
