/- Several texts of this claim in one. -/
import Derived.Test.YtdfgpfdnjbildaaGreatDoorProg
import Derived.WalkKit
import Derived.WalkSpells
import Derived.WalkLawsBesides
import Derived.Lib.Hide
import Derived.Test.YtdfgpfdnjbildaaGreatDoorShelf
import Derived.Test.YtdfgpfdnjbildaaGreatDoorLd1
import Derived.RegionTactic
import Derived.ChangeAlike
import Derived.Deep.QuietTactic
import Derived.BigQuiet
import Derived.Deep.Cut
import Derived.Deep.Slices
import Derived.ChangeSame
import Derived.Below
import Derived.Lib.SmallJoins
import Derived.OrdersHeld
import Derived.Laws.AppendOwn
import Derived.Maps.OwnSet
import Derived.Maps.OwnOps
import Derived.Deep.AppendLies
import Derived.Lib.AppendZeros
import Derived.RangeFuncBox
import Derived.RangeFuncLeaves
import Derived.RangeFuncWrites
import Derived.Shelf.Abstract
import Derived.OwnWalkIn
import Derived.TacticsInMore
import Derived.LoopNIn
import Derived.LoopIn
/- Contracts of small functions of rounding: outside, size, more, ways and its functions, IndexFunc over the ways, Compare. -/
namespace Go.Proofs.YtdfgpfdnjbildaaGreatDoor
open Go.RowKit

theorem ret_int {k : IntKind} {a b : Int} (h : a = b) : Ending.returned (.int k a) = .returned (.int k b) := by rw [h]
theorem ret_bool {a b : Bool} (h : a = b) : Ending.returned (.bool a) = .returned (.bool b) := by rw [h]

def cmpF (a b : Int) : Int := if a < b then -1 else if b < a then 1 else 0

def fnv (k : Nat) : Value := .func (.func k) #[] #[]
/-- what 'more' returns -/
def moreF (q r d : Int) (m : Bool) (how : Int) : Bool :=
  if r = 0 then false else if how = 1 then m else if how = 2 then !m else if how = 3 then false else if r ≠ d - r then decide (d - r < r) else if how = 4 then !m else q % 2 == 1
end Go.Proofs.YtdfgpfdnjbildaaGreatDoor

/- math/bits.Div64: the contract, for all arguments whose quotient fits. -/
namespace Go.Proofs.YtdfgpfdnjbildaaGreatDoor
open Go.RowKit

end Go.Proofs.YtdfgpfdnjbildaaGreatDoor

/- math/bits.Div64: the contract, for all arguments whose quotient fits: the exact quotient and the rest. -/
namespace Go.Proofs.YtdfgpfdnjbildaaGreatDoor
open Go.RowKit

theorem bitLen_spec : ∀ (n x : Nat), x ≤ n → x ≠ 0 → x < 2 ^ 64 → 1 ≤ Lib.bitLen x ∧ 2 ^ (Lib.bitLen x - 1) ≤ x ∧ x < 2 ^ Lib.bitLen x
  | 0, x, h, h0, _ => absurd (Nat.le_zero.1 h) h0
  | n + 1, x, h, h0, hx => by
    rw [Lib.bitLen_half x h0 hx]
    by_cases h1 : x / 2 = 0
    · have : x = 1 := by omega
      subst this
      decide
    · have ⟨i1, i2, i3⟩ := bitLen_spec n (x / 2) (by omega) h1 (by omega)
      refine ⟨by omega, ?_, ?_⟩
      · obtain ⟨k, hk⟩ : ∃ k, Lib.bitLen (x / 2) = k + 1 := ⟨Lib.bitLen (x / 2) - 1, by omega⟩
        rw [hk] at i2 ⊢
        rw [show 1 + (k + 1) - 1 = k + 1 by omega, Nat.pow_succ]
        rw [Nat.add_sub_cancel] at i2
        omega
      · rw [Nat.add_comm, Nat.pow_succ]; omega
theorem bitLen_le {x : Nat} (h0 : x ≠ 0) (hx : x < 2 ^ 64) : Lib.bitLen x ≤ 64 := by
  have ⟨_, h2, _⟩ := bitLen_spec x x (Nat.le_refl _) h0 hx
  rcases Nat.lt_or_ge 64 (Lib.bitLen x) with h | h
  · have : 2 ^ 64 ≤ 2 ^ (Lib.bitLen x - 1) := Nat.pow_le_pow_right (by omega) (by omega)
    omega
  · exact h

theorem wrap_nat {n : Nat} (h : n < 18446744073709551616) : IntKind.u64.wrap (n : Int) = n := by rw [IntKind.wrap_u64]; omega

theorem cast_pow2 (s : Nat) : ((2 ^ s : Nat) : Int) = (2 : Int) ^ s := by rw [Int.natCast_pow]; rfl

/-- the rest of a digit's step, as the walk reckons it -/
theorem step_rest {u d q Y r : Nat} (h : Y * q + r = u * 4294967296 + d) (hr : r < 18446744073709551616) :
    IntKind.u64.wrap (IntKind.u64.wrap (IntKind.u64.wrap ((u : Int) * 4294967296) + d) - IntKind.u64.wrap ((q : Int) * Y)) = r := by
  have h' : (q : Int) * Y + r = u * 4294967296 + d := by
    have := congrArg (fun n : Nat => (n : Int)) h
    simp only [Int.natCast_add, Int.natCast_mul] at this
    rw [Int.mul_comm]; exact this
  generalize (q : Int) * Y = C at *
  simp only [IntKind.wrap_u64]; omega

theorem rest_wrap {u a : Nat} (hu : u < 18446744073709551616) : IntKind.u64.wrap (u - IntKind.u64.wrap (((u / a : Nat) : Int) * a)) = (u % a : Nat) := by
  have h := Nat.div_add_mod u a
  rw [← Int.natCast_mul]
  have hm : u / a * a ≤ u := Nat.div_mul_le_self u a
  rw [wrap_nat (show u / a * a < _ by omega), IntKind.wrap_u64]
  rw [Nat.mul_comm] at h
  omega

end Go.Proofs.YtdfgpfdnjbildaaGreatDoor

/- Scale: of the program and of the reference: both return 'Sc.sc'. -/
namespace Go.Proofs.YtdfgpfdnjbildaaGreatDoor
open Go.RowKit

/-- where a way of rounding stands in the table -/
def wayAt (how : Int) : Int := if 1 ≤ how ∧ how ≤ 5 then how - 1 else -1
/-- what the functions of the table return -/
def wayF (how : Int) (b : Bool) (q h : Int) : Bool :=
  if how = 1 then b else if how = 2 then !b else if how = 3 then false else if how = 4 then decide (0 < h) || (h == 0 && !b) else decide (0 < h) || (h == 0 && (q % 2 == 1))
theorem wayF_away (how : Int) (b : Bool) (q r d : Nat) : wayF how b q (cmpF r ((d : Int) - r)) = Sc.away how b q r d := by
  have e1 : (0 < cmpF (r : Int) ((d : Int) - r)) ↔ d < 2 * r := by unfold cmpF; split <;> (try split) <;> omega
  have e2 : (cmpF (r : Int) ((d : Int) - r) = 0) ↔ 2 * r = d := by unfold cmpF; split <;> (try split) <;> omega
  have e3 : ((q : Int) % 2 = 1) ↔ q % 2 = 1 := by omega
  have e4 : (cmpF (r : Int) ((d : Int) - r) == 0) = decide (2 * r = d) := by rw [Bool.eq_iff_iff, beq_iff_eq, decide_eq_true_eq]; exact e2
  have e5 : ((q : Int) % 2 == 1) = decide (q % 2 = 1) := by rw [Bool.eq_iff_iff, beq_iff_eq, decide_eq_true_eq]; exact e3
  unfold wayF Sc.away
  rw [decide_eq_decide.2 e1, e4, e5]
theorem quiet_eq {P : Program} {f : FuncId} {args : Array Value} {w : World} {n : Nat} {v : Value}
    (h : Calls P f args (w.drewN n) fun e w' => e = .returned v ∧ w.drewN n = w') : Calls P f args (w.drewN n) fun e w'' => e = .returned v ∧ ∃ m, w'' = w.drewN m :=
  h.mono fun _ _ ⟨he, hm⟩ => ⟨he, n, hm.symm⟩
theorem below_drewN {B : Nat} {a w : World} (h : Below B a w) (n : Nat) : Below B a (w.drewN n) := h.trans ⟨rfl, rfl, rfl, Nat.le_refl _, fun _ _ => rfl⟩
end Go.Proofs.YtdfgpfdnjbildaaGreatDoor

/- Small lemmas on memory: what a world keeps. -/
namespace Go.Proofs.YtdfgpfdnjbildaaGreatDoor
open Go.RowKit

theorem below_cell {w w' : World} {p : Addr} {v : Value} (hb : Below w.heap.size w w') (h : w.cell? p = some v) : w'.cell? p = some v :=
  (hb.cell (World.block_lt_of_cell? w p h)).trans h
theorem below_al (w : World) (o : Obj) : Below w.heap.size w (w.alloc o) := (Below.refl _ _).alloc (Nat.le_refl _) _
theorem below_ad (w : World) (o : Obj) (n : Nat) : Below w.heap.size w ((w.alloc o).drewN n) := below_drewN (below_al w o) n
/-- two steps, each of which keeps all that was there -/
theorem below_tr {B : Nat} {a b c : World} (h : Below B a b) (hB : B ≤ b.heap.size) (k : Below b.heap.size b c) : Below B a c := h.trans (k.mono hB)
theorem below_step {a b c : World} (h : Below a.heap.size a b) (k : Below b.heap.size b c) : Below a.heap.size a c := h.trans (k.mono h.size)
end Go.Proofs.YtdfgpfdnjbildaaGreatDoor

/- A region that draws its order, whose operations only read, but whose callees may make memory: one walk in the order of the text (the kit's law wp_region_quiet at the class 'all that was there is as it was'). -/
namespace Go.Proofs.YtdfgpfdnjbildaaGreatDoor
open Go.RowKit Go.BigFrame

/-- a world in which all that was there is as it was -/
def Ext (W : World) : Type := { w : World // Below W.heap.size W w }
instance (W : World) : Nonempty (Ext W) := ⟨⟨W, Below.refl _ _⟩⟩
theorem Ext.ex {W : World} {p : Addr} {v : Value} (h : W.cell? p = some v) : ∀ X : Ext W, X.1.cell? p = some v := fun X => below_cell X.2 h
theorem Ext.exa {W : World} {p : Addr} {v : Value} (e : ∀ X : Ext W, X.1.cell? p = some v) : ∀ (X : Ext W) (o : Obj), (X.1.alloc o).cell? p = some v := fun X o => below_cell (below_al _ o) (e X)
theorem Ext.calls {P : Program} {W : World} {f : FuncId} {args : Array Value} {v : Value} (X : Ext W) (h : Calls P f args X.1 fun e w' => e = .returned v ∧ Below X.1.heap.size X.1 w') : Calls P f args X.1 fun e w'' => e = .returned v ∧ ∃ Y : Ext W, w'' = Y.1 :=
  h.mono fun _ w'' ⟨he, hb⟩ => ⟨he, ⟨w'', below_step X.2 hb⟩, rfl⟩
theorem Ext.same {P : Program} {W : World} {f : FuncId} {args : Array Value} {v : Value} (X : Ext W) (h : Calls P f args X.1 fun e w' => e = .returned v ∧ X.1 = w') : Calls P f args X.1 fun e w'' => e = .returned v ∧ ∃ Y : Ext W, w'' = Y.1 :=
  h.mono fun _ _ ⟨he, hb⟩ => ⟨he, X, hb.symm⟩
theorem wp_region_ext {P : Program} {id : Nat} {Q : Exit → Act → World → Prop} {a : Act} {W : World} (X : Ext W) {l : List Oper} (hm : P.follows .mixedOrders = true) (hB : Region.lexB .any l.toArray = true)
    (h : wpQuiet P l.toArray (fun w' => ∃ Y : Ext W, w' = Y.1) (fun a' => ∀ w', (∃ Y : Ext W, w' = Y.1) → Q .normal a' w') l a) : (Code.region id l.toArray true).wp P Q a X.1 :=
  wp_region_quiet (C := fun w' => ∃ Y : Ext W, w' = Y.1) hm hB ⟨⟨{ X.1 with drawn := X.1.drawn + 1 }, below_step X.2 ⟨rfl, rfl, rfl, Nat.le_refl _, fun _ _ => rfl⟩⟩, rfl⟩ (by simpa using h)
/-- the world behind an allocation of cells, under one name -/
theorem alloc_cells (w : World) (cs : Array Value) (T : TypeId) : ∃ W, w.alloc (.cells cs T) = W ∧ Below w.heap.size w W ∧ W.heap.size = w.heap.size + 1 ∧ ∀ i v, cs[i]? = some v → W.cell? ⟨w.heap.size, i, none⟩ = some v :=
  ⟨_, rfl, below_al _ _, by simp, fun i v h => by rw [World.cell?_alloc_at _ _ _ _ rfl, h]⟩
/-- go on in an arbitrary later world -/
theorem ext_wp {P : Program} {c : Code} {Q : Exit → Act → World → Prop} {a : Act} {W : World} (h : ∀ X : Ext W, c.wp P Q a X.1) : c.wp P Q a W := h ⟨W, Below.refl _ _⟩
theorem ext_calls {P : Program} {f : FuncId} {args : Array Value} {R : Ending → World → Prop} {W : World} (h : ∀ X : Ext W, Calls P f args X.1 R) : Calls P f args W R := h ⟨W, Below.refl _ _⟩
theorem Ext.down {W : World} (X : Ext W) {B : Nat} {w : World} (h : Below B w W) (hB : B ≤ W.heap.size) : Below B w X.1 := h.trans (X.2.mono hB)
/-- a later base -/
theorem Ext.re {W W' : World} (h : Below W.heap.size W W') {p : Addr} {v : Value} (e : ∀ X : Ext W, X.1.cell? p = some v) : ∀ X : Ext W', X.1.cell? p = some v := fun X => e ⟨X.1, below_step h X.2⟩
end Go.Proofs.YtdfgpfdnjbildaaGreatDoor

/- Slices of structs of one-cell fields that came in: how they read (any program). -/
namespace Go.Proofs.YtdfgpfdnjbildaaGreatDoor
open Go.RowKit Go.ChangeShapes Go.WideShapes Go.Deep

/-- a slice of structs of k one-cell fields, as it lies in memory: element i has the cells V i -/
structure RowK (w : World) (a : Option Addr) (len k : Nat) (V : Nat → List Value) : Prop where
  here : 0 < len → ∃ b off, a = some ⟨b, off, none⟩ ∧ b < w.heap.size ∧ ∀ i, i < len → ∀ j, j < k → w.cell? ⟨b, off + i * k + j, none⟩ = (V i)[j]?
theorem RowK.below {w w' : World} {a : Option Addr} {len k B : Nat} {V : Nat → List Value} (h : RowK w a len k V) (hb : Below B w w') (hB : w.heap.size ≤ B) : RowK w' a len k V := by
  refine ⟨fun hl => ?_⟩
  obtain ⟨b, off, rfl, hlt, hc⟩ := h.here hl
  exact ⟨b, off, rfl, Nat.lt_of_lt_of_le hlt hb.size, fun i hi j hj => (hb.cell (p := ⟨b, off + i * k + j, none⟩) (Nat.lt_of_lt_of_le hlt hB)).trans (hc i hi j hj)⟩

theorem RowK.at {w : World} {b off len k : Nat} {V : Nat → List Value} (h : RowK w (some ⟨b, off, none⟩) len k V) {i j : Nat} (hi : i < len) (hj : j < k) : w.cell? ⟨b, off + i * k + j, none⟩ = (V i)[j]? := by
  obtain ⟨b', off', he, _, hc⟩ := h.here (by omega)
  injection he with he
  injection he with h1 h2
  subst h1
  subst h2
  exact hc i hi j hj

section
variable {H : Type} {enc : TypeId × Value → H} {P : Program} {w : World} {base : Nat}
theorem open_rowK {t e : TypeId} {fs : Array Field} {fuel : Nat} {v : Value} {x : DataW H × List MemPlace} (ht : P.underlying t = some (.slice e)) (he : P.underlying e = some (.struct fs)) (hC : P.cellsOf e = fs.size) (hfs : 0 < fs.size)
    (hone : ∀ (i : Nat) (f : Field), fs[i]? = some f → f.offset = i ∧ P.cellsOf f.type = 1) (h : DataW.trod enc P w base (fun _ => true) true fuel t [v] = some x) :
    ∃ (a : Option Addr) (len cap : Nat) (V : Nat → List Value), v = .slice a len cap ∧ len ≤ cap ∧ cap ≤ maxLen ∧ RowK w a len fs.size V ∧
      ∀ i, i < len → (V i).length = fs.size ∧ ∀ (j : Nat) (f : Field), fs[j]? = some f → ∃ u n y, (V i)[j]? = some u ∧ DataW.trod enc P w base (fun _ => true) true n f.type [u] = some y := by
  rcases open_slice ht h with ⟨hc, _⟩ | ⟨a, len, cap, m, n, D, Pl, hc, _, hl, hm, hmm, _, hx⟩
  · simp only [List.cons.injEq, and_true] at hc
    exact ⟨none, 0, 0, fun _ => [], hc, Nat.le_refl _, Nat.zero_le _, ⟨fun h => absurd h (by omega)⟩, fun i hi => absurd hi (by omega)⟩
  · simp only [List.cons.injEq, and_true] at hc
    simp only [if_true] at hmm
    subst hmm
    have each : ∀ i, i < m → ∃ cs : List Value, cs.length = fs.size ∧ (∀ j, j < fs.size → w.cell? (a.add (i * fs.size + j)) = cs[j]?) ∧ ∀ (j : Nat) (f : Field), fs[j]? = some f → ∃ u n y, cs[j]? = some u ∧ DataW.trod enc P w base (fun _ => true) true n f.type [u] = some y := by
      intro i hi
      obtain ⟨cs, h1, h2⟩ := hx i hi
      rw [hC] at h1
      obtain ⟨_, hlen, hcell⟩ := World.cells?_some h1
      obtain ⟨xs, k, _, _, _, hxl, hf⟩ := DataW.trod_struct he h2
      refine ⟨cs, hlen, fun j hj => by rw [← add_add]; exact hcell j (by omega), fun j f hj => ?_⟩
      obtain ⟨o1, o2⟩ := hone j f hj
      have g := hf j f hj
      rw [o1, o2] at g
      have hjl : j < cs.length := by
        rw [hlen]
        exact (Array.getElem?_eq_some_iff.1 hj).1
      have hjx : j < xs.length := by rw [hxl]; rw [hlen] at hjl; exact hjl
      have e1 : (cs.drop j).take 1 = [cs[j]] := by rw [List.drop_eq_getElem_cons hjl]; rfl
      rw [e1, List.getElem?_eq_getElem hjx] at g
      exact ⟨cs[j], k, xs[j], List.getElem?_eq_getElem hjl, g⟩
    obtain ⟨V, hV⟩ := choose_lt each
    refine ⟨some a, len, m, V, hc, hl, hm, ⟨fun hl0 => ?_⟩, fun i hi => ⟨(hV i (by omega)).1, (hV i (by omega)).2.2⟩⟩
    obtain ⟨b, o, sp⟩ := a
    have hc0 : ∃ u, w.cell? ((⟨b, o, sp⟩ : Addr).add (0 * fs.size + 0)) = some u := by
      obtain ⟨g1, g2, g3⟩ := hV 0 (by omega)
      exact ⟨(V 0)[0]'(by omega), by rw [g2 0 hfs, List.getElem?_eq_getElem]⟩
    obtain ⟨u, hu⟩ := hc0
    have hspot : sp = none := by simpa [Addr.add] using World.cell?_spot hu
    subst hspot
    rw [Nat.zero_mul, add_plain] at hu
    refine ⟨b, o, rfl, World.block_lt_of_cell? w _ hu, fun i hi j hj => ?_⟩
    have := (hV i (by omega)).2.1 j hj
    rw [add_plain, ← Nat.add_assoc] at this
    exact this
end
end Go.Proofs.YtdfgpfdnjbildaaGreatDoor

/- Worlds in which all that was there is as it was, but for some blocks of the call's own; and drawn regions walked in an order of one's own: quiet operations as soon as they may come up, the others one by one. -/
namespace Go.Proofs.YtdfgpfdnjbildaaGreatDoor
open Go.RowKit Go.BigFrame

/-- all blocks but those in O are as they were -/
structure Kept (O : Nat → Prop) (w w' : World) : Prop where
  os : w'.os = w.os
  tape : w'.tape = w.tape
  output : w'.output = w.output
  size : w.heap.size ≤ w'.heap.size
  block : ∀ k, k < w.heap.size → ¬ O k → w'.heap[k]? = w.heap[k]?
theorem Kept.refl (O : Nat → Prop) (w : World) : Kept O w w := ⟨rfl, rfl, rfl, Nat.le_refl _, fun _ _ _ => rfl⟩
theorem Kept.trans {O : Nat → Prop} {a b c : World} (h : Kept O a b) (k : Kept O b c) : Kept O a c :=
  ⟨k.os.trans h.os, k.tape.trans h.tape, k.output.trans h.output, Nat.le_trans h.size k.size, fun i hi ho => (k.block i (Nat.lt_of_lt_of_le hi h.size) ho).trans (h.block i hi ho)⟩
theorem Kept.of_below {O : Nat → Prop} {a b : World} (h : Below a.heap.size a b) : Kept O a b := ⟨h.os, h.tape, h.output, h.size, fun k hk _ => h.block k hk⟩
theorem Kept.of_grown {O : Nat → Prop} {a b : World} {row : Option Nat} (h : a.grownBy b row) (hr : ∀ g, row = some g → g < a.heap.size → O g) : Kept O a b :=
  ⟨h.os, h.tape, h.output, h.size, fun k hk ho => h.block k hk (fun e => ho (hr k e.symm hk))⟩
theorem Kept.cell {O : Nat → Prop} {w w' : World} {p : Addr} {v : Value} (h : Kept O w w') (ho : ¬ O p.block) (hc : w.cell? p = some v) : w'.cell? p = some v :=
  (World.cell?_of_block (h.block p.block (World.block_lt_of_cell? w p hc) ho)).trans hc
theorem Kept.grown {O : Nat → Prop} {a b c : World} (h : Kept O a b) {row : Option Nat} (hg : b.grownBy c row) (hr : ∀ g, row = some g → g < a.heap.size → O g) : Kept O a c :=
  ⟨hg.os.trans h.os, hg.tape.trans h.tape, hg.output.trans h.output, Nat.le_trans h.size hg.size, fun k hk ho => (hg.block k (Nat.lt_of_lt_of_le hk h.size) (fun e => ho (hr k e.symm hk))).trans (h.block k hk ho)⟩
/-- below the base of the call, nothing has turned -/
theorem Kept.below {O : Nat → Prop} {B : Nat} {w a b : World} (hb : Below B w a) (h : Kept O a b) (hB : B ≤ a.heap.size) (hO : ∀ k, k < B → ¬ O k) : Below B w b :=
  hb.trans ⟨h.os, h.tape, h.output, h.size, fun k hk => h.block k (Nat.lt_of_lt_of_le hk hB) (hO k hk)⟩
theorem Kept.row {O : Nat → Prop} {w w' : World} {a : Option Addr} {len k : Nat} {V : Nat → List Value} (h : RowK w a len k V) (hk : Kept O w w') (hO : ∀ b off, a = some ⟨b, off, none⟩ → ¬ O b) : RowK w' a len k V := by
  refine ⟨fun hl => ?_⟩
  obtain ⟨b, off, rfl, hlt, hc⟩ := h.here hl
  exact ⟨b, off, rfl, Nat.lt_of_lt_of_le hlt hk.size, fun i hi j hj => (World.cell?_of_block (hk.block b hlt (hO _ _ rfl))).trans (hc i hi j hj)⟩
def ExtO (O : Nat → Prop) (W : World) : Type := { w : World // Kept O W w }
instance (O : Nat → Prop) (W : World) : Nonempty (ExtO O W) := ⟨⟨W, Kept.refl _ _⟩⟩
section
variable {O : Nat → Prop} {W : World}
theorem ExtO.ex {p : Addr} {v : Value} (ho : ¬ O p.block) (h : W.cell? p = some v) : ∀ X : ExtO O W, X.1.cell? p = some v := fun X => X.2.cell ho h
theorem ExtO.exa {p : Addr} {v : Value} (e : ∀ X : ExtO O W, X.1.cell? p = some v) : ∀ (X : ExtO O W) (o : Obj), (X.1.alloc o).cell? p = some v := fun X o => below_cell (below_al _ o) (e X)
theorem ExtO.re {W' : World} (h : Kept O W W') {p : Addr} {v : Value} (e : ∀ X : ExtO O W, X.1.cell? p = some v) : ∀ X : ExtO O W', X.1.cell? p = some v := fun X => e ⟨X.1, h.trans X.2⟩
theorem ExtO.calls {P : Program} {f : FuncId} {args : Array Value} {v : Value} (X : ExtO O W) (h : Calls P f args X.1 fun e w' => e = .returned v ∧ Below X.1.heap.size X.1 w') : Calls P f args X.1 fun e w'' => e = .returned v ∧ ∃ Y : ExtO O W, w'' = Y.1 :=
  h.mono fun _ w' ⟨he, hb⟩ => ⟨he, ⟨w', X.2.trans (Kept.of_below hb)⟩, rfl⟩
theorem ExtO.same {P : Program} {f : FuncId} {args : Array Value} {v : Value} (X : ExtO O W) (h : Calls P f args X.1 fun e w' => e = .returned v ∧ X.1 = w') : Calls P f args X.1 fun e w'' => e = .returned v ∧ ∃ Y : ExtO O W, w'' = Y.1 :=
  h.mono fun _ _ ⟨he, hb⟩ => ⟨he, X, hb.symm⟩
/-- go on in an arbitrary later world -/
theorem extO_wp {P : Program} {c : Code} {Q : Exit → Act → World → Prop} {a : Act} (h : ∀ X : ExtO O W, c.wp P Q a X.1) : c.wp P Q a W := h ⟨W, Kept.refl _ _⟩
theorem extO_calls {P : Program} {f : FuncId} {args : Array Value} {R : Ending → World → Prop} (h : ∀ X : ExtO O W, Calls P f args X.1 R) : Calls P f args W R := h ⟨W, Kept.refl _ _⟩
theorem ExtO.down (X : ExtO O W) {B : Nat} {w : World} (h : Below B w W) (hB : B ≤ W.heap.size) (hO : ∀ k, k < B → ¬ O k) : Below B w X.1 := Kept.below h X.2 hB hO
theorem wp_region_extO {P : Program} {id : Nat} {Q : Exit → Act → World → Prop} {a : Act} (X : ExtO O W) {l : List Oper} (hm : P.follows .mixedOrders = true) (hB : Region.lexB .any l.toArray = true)
    (h : wpQuiet P l.toArray (fun w' => ∃ Y : ExtO O W, w' = Y.1) (fun a' => ∀ w', (∃ Y : ExtO O W, w' = Y.1) → Q .normal a' w') l a) : (Code.region id l.toArray true).wp P Q a X.1 :=
  wp_region_quiet (C := fun w' => ∃ Y : ExtO O W, w' = Y.1) hm hB ⟨⟨{ X.1 with drawn := X.1.drawn + 1 }, X.2.trans ⟨rfl, rfl, rfl, Nat.le_refl _, fun _ _ _ => rfl⟩⟩, rfl⟩ (by simpa using h)
end

/-- operations that yield a value and do nothing else -/
def isCalm : Op → Bool
  | .move _ | .assign _ | .pick .. | .build .. | .load .. | .binOp .. | .unOp .. | .fieldAddr .. | .field .. | .indexAddr .. | .index .. | .lookup .. | .extract .. | .slice .. => true
  | _ => false
theorem run_val {α : Type} {P : Program} {s : Sem α} (f : α → Value) {w w' : World} {n : Next} (h : (do pure (Next.value (f (← s))) : Sem Next).run P w = .ok n w') : ∃ x, n = .value x := by
  rw [Sem.run_bind] at h
  cases hs : s.run P w with
  | ok x w1 => rw [hs] at h; simp at h; exact ⟨f x, h.1.symm⟩
  | halt e w1 => rw [hs] at h; simp at h
theorem calm_value {P : Program} {o : Oper} {ρ : Operand → Value} {w w' : World} {n : Next} (hc : isCalm o.op = true) (h : (execOp ρ o).run P w = .ok n w') : ∃ x, n = .value x := by
  obtain ⟨dst, op, type, pos, after, guard⟩ := o
  cases op <;> first | (simp [isCalm] at hc; done) | (simp only [execOp] at h; first | exact run_val (fun x => x) h | exact run_val (fun b : Bool => if b then _ else _) h | (simp at h; exact ⟨_, h.1.symm⟩))
section
variable {P : Program} {ops : Array Oper} {Q : Exit → Act → World → Prop} {C : World → Prop}
theorem yieldsIf_of_quiet {o : Oper} {a : Act} {v : Value} (hc : isCalm o.op = true) (hw : Region.wanted o (yielded ops a.tmps) = true) (h : ∀ w, C w → o.quietAt P a C w v) : YieldsIf P ops C o v a := by
  refine Or.inl ⟨hw, fun w hC => ?_⟩
  have h1 := h w hC
  unfold Oper.quietAt at h1
  cases hr : (execOp a.eval o).run P w with
  | ok n w' =>
    rw [hr] at h1
    obtain ⟨x, rfl⟩ := calm_value hc hr
    simp only [Oper.quietUpon] at h1
    rw [h1.1, h1.2]
  | halt e w' => rw [hr] at h1; simp [Oper.quietUpon] at h1
/-- may these come up now, one behind the other, and is each apart from all that could come before it? -/
def calmB (ops : Array Oper) : List Nat → Array Bool → Bool
  | [], _ => true
  | i :: is, listed => ((ops[i]?).map fun o => isCalm o.op).getD false && Region.free .any ops listed i && (Region.ready .any ops listed).contains i && calmB ops is (listed.setIfInBounds i true)
def listAll (is : List Nat) (listed : Array Bool) : Array Bool := is.foldl (fun l i => l.setIfInBounds i true) listed
theorem held_calm (hsel : Region.noSelect ops = true) (hQ : ∀ c a d v w, Q (.panic c) (Act.put a d v) w → Q (.panic c) a w) {w : World} (hC : C w) : ∀ (is : List Nat) (fuel : Nat) (listed : Array Bool) (a : Act),
    calmB ops is listed = true → wpQuiet P ops C (fun a' => wpAnyH P .any ops Q C fuel (listAll is listed) a' w) (is.filterMap fun i => ops[i]?) a → wpAnyH P .any ops Q C (fuel + is.length) listed a w
  | [], _, _, _, _, h => h
  | i :: is, fuel, listed, a, hB, h => by
    simp only [calmB, Bool.and_eq_true] at hB
    obtain ⟨⟨⟨h1, h2⟩, h3⟩, h4⟩ := hB
    cases ho : ops[i]? with
    | none => rw [ho] at h1; simp at h1
    | some o =>
      rw [ho] at h1
      simp only [Option.map_some, Option.getD_some] at h1
      rw [List.filterMap_cons, ho] at h
      simp only [wpQuiet] at h
      have e : fuel + (i :: is).length = (fuel + is.length) + 1 := by simp; omega
      rw [e]
      by_cases hw : Region.wanted o (yielded ops a.tmps) = true
      · rw [if_pos hw] at h
        obtain ⟨v, hv, hn⟩ := h
        exact wpAnyH_take ho hsel h2 h3 (fun c a w => hQ c a _ _ w) (yieldsIf_of_quiet h1 hw hv) hC (held_calm hsel hQ hC is fuel _ _ h4 hn)
      · rw [if_neg hw] at h
        exact wpAnyH_take ho hsel h2 h3 (fun c a w => hQ c a _ _ w) (Or.inr ⟨by simpa using hw, rfl⟩) hC (held_calm hsel hQ hC is fuel _ _ h4 h)
/-- the i-th of a list, by looking -/
def nth : List Oper → Nat → Option Oper
  | [], _ => none
  | o :: _, 0 => some o
  | _ :: l, i + 1 => nth l i
theorem nth_eq : ∀ (l : List Oper) (i : Nat), nth l i = l.toArray[i]?
  | [], i => by simp [nth]
  | o :: l, 0 => by simp [nth]
  | o :: l, i + 1 => by
    rw [nth, nth_eq l i]
    simp
theorem held_quiet {l : List Oper} (hsel : Region.noSelect l.toArray = true) (hQ : ∀ c a d v w, Q (.panic c) (Act.put a d v) w → Q (.panic c) a w) {w : World} (hC : C w) (is : List Nat) (fuel : Nat) (listed : Array Bool) (a : Act)
    (hB : calmB l.toArray is listed = true) (h : wpQuiet P l.toArray C (fun a' => wpAnyH P .any l.toArray Q C fuel (listAll is listed) a' w) (is.filterMap (nth l)) a) : wpAnyH P .any l.toArray Q C (fuel + is.length) listed a w :=
  held_calm hsel hQ hC is fuel listed a hB (by rw [show (fun i => l.toArray[i]?) = nth l from funext fun i => (nth_eq l i).symm]; exact h)
/-- one operation that alone may come up -/
theorem held_do {l : List Oper} {i fuel : Nat} {listed : Array Bool} {a : Act} {w : World} (o : Oper) (hi : nth l i = some o) (hr : Region.ready .any l.toArray listed = [i]) (hw : Region.wanted o (yielded l.toArray a.tmps) = true)
    (h : ∀ K : Act → World → Prop, (∀ a' w', C w' → wpAnyH P .any l.toArray Q C fuel (listed.setIfInBounds i true) a' w' → K a' w') → o.wp P a w K Q) : wpAnyH P .any l.toArray Q C (fuel + 1) listed a w := by
  rw [nth_eq] at hi
  refine wpAnyH_all hr (by simp) fun j hj => ?_
  simp only [List.mem_singleton] at hj
  subst hj
  unfold wpOp
  simp only [hi, hw, if_true]
  exact Or.inl (h _ fun a' w' h1 h2 => ⟨h1, h2⟩)
theorem held_start {id : Nat} {a : Act} {w : World} {l : List Oper} (hm : P.follows .mixedOrders = true)
    (h : wpAnyH P .any l.toArray Q C l.length (Array.replicate l.length false) a { w with drawn := w.drawn + 1 }) : (Code.region id l.toArray true).wp P Q a w :=
  wp_region_held hm (by simpa using h)
end
end Go.Proofs.YtdfgpfdnjbildaaGreatDoor

/- An append to a row of the call's own: where the new row lies (the old block, or a new one). -/
namespace Go.Proofs.YtdfgpfdnjbildaaGreatDoor
open Go.RowKit

theorem append_where {P : Program} (w : World) (base : Nat) (t ty e : TypeId) (i : TypeInfo) (z : Value) (size bytes : Nat) (ht : P.underlying t = some (.slice e)) (hi : P.info? e = some i) (hz : i.zero = some z)
    (hsize : i.size = size) (hby : i.bytes = bytes) (hsz : 0 < size) (v : Value) (n : Nat) (xs : List Value) (hown : w.ownsRow base e size v n xs)
    (a : Addr) (m c : Nat) (news : List Value) (hl : news.length = m * size) (hnews : ∀ j u, news[j]? = some u → w.cell? (a.add j) = some u) (h1 : ∀ u ∈ news, u.oneCell' = true) (hm : 0 < m)
    (h63 : n + m ≤ maxLen) (hbytes : (n + m) * bytes ≤ 140737488355328) :
    ∃ v' w', (Builtin.append_ #[t, t] ty #[v, .slice (some a) m c]).run P w = .ok v' w' ∧ (v'.ownBlock = v.ownBlock ∨ v'.ownBlock = some w.heap.size) := by
  subst hsize
  subst hby
  have hsmall : n + m ≤ 9223372036854775807 := by simp only [maxLen] at h63; omega
  rcases hown.2 with ⟨rfl, rfl⟩ | ⟨g, cap, cur, rfl, _, hg, hnc, _, hcs, _⟩
  · exact ⟨_, _, run_append_nil w t ty e i z ht hi hz a m c news hl hnews hm (by omega) (by have hb := hbytes; simp only [Nat.zero_add] at hb; omega), Or.inr rfl⟩
  · by_cases hroom : n + m ≤ cap
    · have hfit : n * i.size + news.length ≤ cur.size := by rw [hl, hcs, ← Nat.add_mul]; exact Nat.mul_le_mul_right _ hroom
      exact ⟨_, _, run_append_room w t ty e i ht hi g n cap cur hg a m c news hl hnews h1 hroom hfit, Or.inl rfl⟩
    · have holds : ∀ j u, xs[j]? = some u → w.cell? ((⟨g, 0, none⟩ : Addr).add j) = some u := hown.cells (g := g) rfl
      exact ⟨_, _, run_append_grow w t ty e i z ht hi hz ⟨g, 0, none⟩ n cap xs hown.1 holds a m c news hl hnews (by omega) (by omega) (growslice_fits (by omega) hbytes), Or.inr rfl⟩
theorem wpList_append_where {P : Program} (w : World) {ops : Array Oper} {rest : List Oper} {o : Oper} {a : Act} {Q : Exit → Act → World → Prop} (hgd : o.guard = none) (s x : Operand) (t : TypeId)
    (ho : o.op = .call { callee := .builtin .append, args := #[s, x], argTypes := #[t, t] })
    (base : Nat) (e : TypeId) (i : TypeInfo) (z : Value) (size bytes : Nat) (ht : P.underlying t = some (.slice e)) (hi : P.info? e = some i) (hz : i.zero = some z)
    (hsize : i.size = size) (hby : i.bytes = bytes) (hzs : z.cells.size = size) (hsz : 0 < size)
    (v : Value) (n : Nat) (xs : List Value) (hs : a.eval s = v) (hown : w.ownsRow base e size v n xs)
    (ad : Addr) (m c : Nat) (news : List Value) (hx : a.eval x = .slice (some ad) m c) (hm : 0 < m) (hl : news.length = m * size) (hnews : ∀ j u, news[j]? = some u → w.cell? (ad.add j) = some u) (h1 : ∀ u ∈ news, u.oneCell' = true)
    (h63 : n + m ≤ maxLen) (hbytes : (n + m) * bytes ≤ 140737488355328) (hbase : base ≤ w.heap.size)
    (h : ∀ v' w', w'.ownsRow base e size v' (n + m) (xs ++ news) → w.grownBy w' v.ownBlock → (v'.ownBlock = v.ownBlock ∨ v'.ownBlock = some w.heap.size) → wpList P ops Q rest (a.put o.dst v') w') : wpList P ops Q (o :: rest) a w := by
  refine wpList_plain hgd fun K hK => ?_
  obtain ⟨v', w', hr, h2, h3, _⟩ := run_append_own (P := P) w base t o.type e i z size bytes ht hi hz hsize hby hzs hsz v n xs hown ad m c news hl hnews h1 h63 hbytes hbase
  obtain ⟨v2, w2, hr2, h4⟩ := append_where (P := P) w base t o.type e i z size bytes ht hi hz hsize hby hsz v n xs hown ad m c news hl hnews h1 hm h63 hbytes
  rw [hr] at hr2
  injection hr2 with e1 e2
  subst e1
  unfold Oper.wp execOp
  simp only [ho, resolve, invoke, builtin, Sem.run_bind, Sem.run_pure, Result.andThen_ok, List.map_toArray, List.map_cons, List.map_nil, hs, hx, hr]
  exact hK _ _ (h v' w' h2 h3 h4)
end Go.Proofs.YtdfgpfdnjbildaaGreatDoor

/- A row of a call's own in a loop that appends to it: what is kept (tools). -/
namespace Go.Proofs.YtdfgpfdnjbildaaGreatDoor
open Go.RowKit Go.BigFrame

theorem ownsRow_below {W W' : World} {base e k n : Nat} {v : Value} {xs : List Value} (h : W.ownsRow base e k v n xs) (hb : Below W.heap.size W W') : W'.ownsRow base e k v n xs :=
  h.kept (row := none) ⟨hb.os, hb.tape, hb.output, hb.size, fun k hk _ => hb.block k hk⟩ (by cases v.ownBlock <;> simp)
/-- the row v, which began as v0 in the world V: whatever else was there is kept -/
structure OwnR (V wr : World) (base e k : Nat) (v0 v : Value) (n : Nat) (xs : List Value) : Prop where
  own : wr.ownsRow base e k v n xs
  kept : Kept (fun b => v0.ownBlock = some b) V wr
  lies : ∀ b, v.ownBlock = some b → v0.ownBlock = some b ∨ V.heap.size ≤ b
section
variable {V wr wr' : World} {base e k n : Nat} {v0 v : Value} {xs : List Value}
theorem OwnR.start (h : V.ownsRow base e k v n xs) : OwnR V V base e k v v n xs := ⟨h, Kept.refl _ _, fun _ h => Or.inl h⟩
theorem OwnR.below (h : OwnR V wr base e k v0 v n xs) (hb : Below wr.heap.size wr wr') : OwnR V wr' base e k v0 v n xs := ⟨ownsRow_below h.own hb, h.kept.trans (Kept.of_below hb), h.lies⟩
theorem OwnR.back {V' : World} {n' : Nat} {v' : Value} {xs' : List Value} (h : OwnR V wr base e k v0 v n xs) (hb : Below wr.heap.size wr V') (h' : OwnR V' wr' base e k v v' n' xs') : OwnR V wr' base e k v0 v' n' xs' := by
  have hs : V.heap.size ≤ V'.heap.size := Nat.le_trans h.kept.size hb.size
  refine ⟨h'.own, ⟨h'.kept.os.trans (hb.os.trans h.kept.os), h'.kept.tape.trans (hb.tape.trans h.kept.tape), h'.kept.output.trans (hb.output.trans h.kept.output), Nat.le_trans hs h'.kept.size, fun b hb1 ho => ?_⟩, fun b hb' => ?_⟩
  · have hn : ¬ v.ownBlock = some b := fun e => (h.lies b e).elim ho (fun h => by omega)
    exact (h'.kept.block b (by omega) hn).trans ((hb.block b (Nat.lt_of_lt_of_le hb1 h.kept.size)).trans (h.kept.block b hb1 ho))
  · rcases h'.lies b hb' with e | e
    · exact h.lies b e
    · exact Or.inr (by omega)
theorem OwnR.append {W2 w' : World} {v' : Value} {n' : Nat} {xs' : List Value} (h : OwnR V wr base e k v0 v n xs) (hb : Below wr.heap.size wr W2) (ho : w'.ownsRow base e k v' n' xs') (hg : W2.grownBy w' v.ownBlock) (hw : v'.ownBlock = v.ownBlock ∨ v'.ownBlock = some W2.heap.size) :
    OwnR V w' base e k v0 v' n' xs' := by
  refine ⟨ho, (h.kept.trans (Kept.of_below hb)).grown hg (fun q hq hl => (h.lies q hq).elim id (fun h => by omega)), fun b hb' => ?_⟩
  rcases hw with e | e
  · exact h.lies b (by rw [← e]; exact hb')
  · rw [e] at hb'
    injection hb' with hb'
    exact Or.inr (by have := h.kept.size; have := hb.size; omega)
theorem OwnR.down {n0 B : Nat} {xs0 : List Value} (h : OwnR V wr base e k v0 v n xs) {w : World} (hb : Below B w V) (hB : B ≤ V.heap.size) (hBb : B ≤ base) (ho : V.ownsRow base e k v0 n0 xs0) : Below B w wr :=
  Kept.below hb h.kept hB (fun b hb1 e => by have := (ho.lt b e).1; omega)
theorem OwnR.row (h : OwnR V wr base e k v0 v n xs) {a : Option Addr} {len kk : Nat} {R : Nat → List Value} (hr : RowK V a len kk R) (hn : ∀ b off, a = some ⟨b, off, none⟩ → ¬ v0.ownBlock = some b) : RowK wr a len kk R := Kept.row hr h.kept hn
theorem OwnR.cell (h : OwnR V wr base e k v0 v n xs) {p : Addr} {u : Value} (hn : ¬ v0.ownBlock = some p.block) (hc : V.cell? p = some u) : wr.cell? p = some u := h.kept.cell hn hc
end
end Go.Proofs.YtdfgpfdnjbildaaGreatDoor

/- A drawn region's operations one by one: as in Kp, min and max among the calm ones. (Kp's own lines, turned by a program.) -/
namespace Go.Proofs.YtdfgpfdnjbildaaGreatDoor
open Go.RowKit Go.BigFrame
/-- operations that yield a value and do nothing else -/
def isCalm3 : Op → Bool
  | .call c => match c.callee with
    | .builtin .max => true
    | .builtin .min => true
    | _ => false
  | op => isCalm op
theorem calm_value3 {P : Program} {o : Oper} {ρ : Operand → Value} {w w' : World} {n : Next} (hc : isCalm3 o.op = true) (h : (execOp ρ o).run P w = .ok n w') : ∃ x, n = .value x := by
  obtain ⟨dst, op, type, pos, after, guard⟩ := o
  cases op
  case call c =>
    obtain ⟨callee, args, ats⟩ := c
    cases callee with
    | builtin b =>
      cases b <;> first | (simp [isCalm3] at hc; done) | (simp only [execOp, resolve, invoke, builtin, Sem.run_bind, Sem.run_pure, Result.andThen_ok] at h; exact run_val (fun x => x) (by simpa using h))
    | _ => simp [isCalm3] at hc
  all_goals exact calm_value (by exact hc) h
section
variable {P : Program} {ops : Array Oper} {Q : Exit → Act → World → Prop} {C : World → Prop}
theorem yieldsIf_of_quiet3 {o : Oper} {a : Act} {v : Value} (hc : isCalm3 o.op = true) (hw : Region.wanted o (yielded ops a.tmps) = true) (h : ∀ w, C w → o.quietAt P a C w v) : YieldsIf P ops C o v a := by
  refine Or.inl ⟨hw, fun w hC => ?_⟩
  have h1 := h w hC
  unfold Oper.quietAt at h1
  cases hr : (execOp a.eval o).run P w with
  | ok n w' =>
    rw [hr] at h1
    obtain ⟨x, rfl⟩ := calm_value3 hc hr
    simp only [Oper.quietUpon] at h1
    rw [h1.1, h1.2]
  | halt e w' => rw [hr] at h1; simp [Oper.quietUpon] at h1
/-- may these come up now, one behind the other, and is each apart from all that could come before it? -/
def calmB3 (ops : Array Oper) : List Nat → Array Bool → Bool
  | [], _ => true
  | i :: is, listed => ((ops[i]?).map fun o => isCalm3 o.op).getD false && Region.free .any ops listed i && (Region.ready .any ops listed).contains i && calmB3 ops is (listed.setIfInBounds i true)
theorem held_calm3 (hsel : Region.noSelect ops = true) (hQ : ∀ c a d v w, Q (.panic c) (Act.put a d v) w → Q (.panic c) a w) {w : World} (hC : C w) : ∀ (is : List Nat) (fuel : Nat) (listed : Array Bool) (a : Act),
    calmB3 ops is listed = true → wpQuiet P ops C (fun a' => wpAnyH P .any ops Q C fuel (listAll is listed) a' w) (is.filterMap fun i => ops[i]?) a → wpAnyH P .any ops Q C (fuel + is.length) listed a w
  | [], _, _, _, _, h => h
  | i :: is, fuel, listed, a, hB, h => by
    simp only [calmB3, Bool.and_eq_true] at hB
    obtain ⟨⟨⟨h1, h2⟩, h3⟩, h4⟩ := hB
    cases ho : ops[i]? with
    | none => rw [ho] at h1; simp at h1
    | some o =>
      rw [ho] at h1
      simp only [Option.map_some, Option.getD_some] at h1
      rw [List.filterMap_cons, ho] at h
      simp only [wpQuiet] at h
      have e : fuel + (i :: is).length = (fuel + is.length) + 1 := by simp; omega
      rw [e]
      by_cases hw : Region.wanted o (yielded ops a.tmps) = true
      · rw [if_pos hw] at h
        obtain ⟨v, hv, hn⟩ := h
        exact wpAnyH_take ho hsel h2 h3 (fun c a w => hQ c a _ _ w) (yieldsIf_of_quiet3 h1 hw hv) hC (held_calm3 hsel hQ hC is fuel _ _ h4 hn)
      · rw [if_neg hw] at h
        exact wpAnyH_take ho hsel h2 h3 (fun c a w => hQ c a _ _ w) (Or.inr ⟨by simpa using hw, rfl⟩) hC (held_calm3 hsel hQ hC is fuel _ _ h4 h)
theorem held_quiet3 {l : List Oper} (hsel : Region.noSelect l.toArray = true) (hQ : ∀ c a d v w, Q (.panic c) (Act.put a d v) w → Q (.panic c) a w) {w : World} (hC : C w) (is : List Nat) (fuel : Nat) (listed : Array Bool) (a : Act)
    (hB : calmB3 l.toArray is listed = true) (h : wpQuiet P l.toArray C (fun a' => wpAnyH P .any l.toArray Q C fuel (listAll is listed) a' w) (is.filterMap (nth l)) a) : wpAnyH P .any l.toArray Q C (fuel + is.length) listed a w :=
  held_calm3 hsel hQ hC is fuel listed a hB (by rw [show (fun i => l.toArray[i]?) = nth l from funext fun i => (nth_eq l i).symm]; exact h)
end
end Go.Proofs.YtdfgpfdnjbildaaGreatDoor

/- Loads of days: small functions of package load. -/
namespace Go.Proofs.YtdfgpfdnjbildaaGreatDoor
open Go.RowKit Go.BigFrame
open Tr (inR)
open Ld (floorF stepF serF)

theorem inR_iff {n lo hi : Int} : inR n lo hi = true ↔ lo ≤ n ∧ n ≤ hi := by simp [inR]
theorem wrap_in {x : Int} (h0 : -9223372036854775808 ≤ x) (h1 : x ≤ 9223372036854775807) : IntKind.i64.wrap x = x := by rw [IntKind.wrap_i64]; omega
theorem lin_any (n lo hi : Int) (w : World) : Calls Tryz.prog 14 #[.int .i64 n, .int .i64 lo, .int .i64 hi] w fun e w' => e = .returned (.bool (inR n lo hi)) ∧ w = w' := by
  cases h : decide (lo ≤ n)
  all_goals
    go_enter Tryz.func14, Tryz.ntmps14
    go_wp2
    go_ret
    exact ⟨ret_bool (by simp [inR, h]), rfl⟩
theorem lisState_any (n : Int) (w : World) : Calls Tryz.prog 15 #[.int .i64 n] w fun e w' => e = .returned (.bool (inR n 0 10000000)) ∧ w = w' := by
  have D := Lib.hid (lin_any n 0 10000000 w)
  go_enter Tryz.func15, Tryz.ntmps15
  go_wp2_with fail
  refine D.out.mono ?_
  rintro e _ ⟨rfl, rfl⟩
  go_wp2_with fail
  go_ret
  exact ⟨rfl, rfl⟩
theorem tdiv_small {a b : Int} (h0 : -10000000 ≤ a) (h1 : a ≤ 10000000) : -10000000 ≤ Int.tdiv a b ∧ Int.tdiv a b ≤ 10000000 := by
  have h := Int.natAbs_tdiv_le_natAbs a b
  omega
theorem lfloor_any (a b : Int) (w : World) (h0 : -10000000 ≤ a) (h1 : a ≤ 10000000) (hb : 1 ≤ b) : Calls Tryz.prog 28 #[.int .i64 a, .int .i64 b] w fun e w' => e = .returned (.int .i64 (floorF a b)) ∧ w = w' := by
  have hz : (b == 0) = false := by rw [beq_eq_false_iff_ne]; omega
  have hz' : b ≠ 0 := by omega
  have HV : Hid (floorF a b = if Int.tmod a b < 0 then Int.tdiv a b - 1 else Int.tdiv a b) := Lib.hid rfl
  obtain ⟨s0, s1⟩ := tdiv_small (b := b) h0 h1
  have e1 : IntKind.i64.wrap (Int.tdiv a b) = Int.tdiv a b := wrap_in (by omega) (by omega)
  have e2 : IntKind.i64.wrap (Int.tdiv a b - 1) = Int.tdiv a b - 1 := wrap_in (by omega) (by omega)
  have m1 : Int.tmod a b < b := Int.tmod_lt_of_pos a (by omega)
  have m2 : -b < Int.tmod a b := Int.lt_tmod_of_pos a (by omega)
  by_cases h : Int.tmod a b < 0
  · have t : decide (Int.tmod a b < 0) = true := decide_eq_true h
    have HF := Lib.hid (HV.out.trans (if_pos h))
    clear HV
    go_enter Tryz.func28, Tryz.ntmps28
    go_wp2_with fail
    go_ret
    exact ⟨ret_int HF.out.symm, rfl⟩
  · have t : decide (Int.tmod a b < 0) = false := decide_eq_false h
    have HF := Lib.hid (HV.out.trans (if_neg h))
    clear HV
    go_enter Tryz.func28, Tryz.ntmps28
    go_wp2_with fail
    go_ret
    exact ⟨ret_int HF.out.symm, rfl⟩
end Go.Proofs.YtdfgpfdnjbildaaGreatDoor

/- Loads of days: step, Step, a book, its loads in a map. -/
namespace Go.Proofs.YtdfgpfdnjbildaaGreatDoor
open Go.RowKit Go.BigFrame Go.ChangeMaps Go.WideMaps
open Tr (inR)
open Ld (floorF stepF serF)

theorem bneT {n m : Int} (h : n ≠ m) : (n != m) = true := by rw [bne_iff_ne]; exact h
theorem lstep_any (st ld c : Int) (w : World) (h0 : 0 ≤ st) (h1 : st ≤ 10000000) (h2 : 0 ≤ ld) (h3 : ld ≤ 10000) (hc : 1 ≤ c) : Calls Tryz.prog 20 #[.int .i64 st, .int .i64 ld, .int .i64 c] w fun e w' => e = .returned (.int .i64 (stepF st ld c)) ∧ w = w' := by
  have D := Lib.hid (lfloor_any (ld * 1000 - st) c w (by omega) (by omega) hc)
  have HR := Ld.stepF_range h0 h1 h2 h3 hc
  have HV : Hid (stepF st ld c = st + floorF (ld * 1000 - st) c) := Lib.hid rfl
  have e1 : IntKind.i64.wrap (ld * 1000) = ld * 1000 := wrap_in (by omega) (by omega)
  have e2 : IntKind.i64.wrap (ld * 1000 - st) = ld * 1000 - st := wrap_in (by omega) (by omega)
  unfold stepF at HR
  generalize floorF (ld * 1000 - st) c = q at *
  have e3 : IntKind.i64.wrap (st + q) = st + q := wrap_in (by omega) (by omega)
  go_enter Tryz.func20, Tryz.ntmps20
  go_wp2_with fail
  refine D.out.mono ?_
  rintro e _ ⟨rfl, rfl⟩
  go_wp2_with fail
  go_ret
  exact ⟨ret_int HV.out.symm, rfl⟩
/-- the numbers that Step takes -/
def stepOk (st ld c : Int) : Bool := inR st 0 10000000 && (inR ld 0 10000 && inR c 1 1000)
def stepV (st ld c : Int) : Int := if stepOk st ld c = true then stepF st ld c else 0
def stepE (st ld c : Int) : Int := if stepOk st ld c = true then 0 else 9
theorem lStep_any (st ld c : Int) (w : World) : Calls Tryz.prog 21 #[.int .i64 st, .int .i64 ld, .int .i64 c] w fun e w' => e = .returned (.tuple #[.int .i64 (stepV st ld c), .int .i64 (stepE st ld c)]) ∧ w = w' := by
  have D1 := Lib.hid (fun W => lisState_any st W)
  have D2 := Lib.hid (fun W => lin_any ld 0 10000 W)
  have D3 := Lib.hid (fun W => lin_any c 1 1000 W)
  have D4 := fun (h1 : inR st 0 10000000 = true) (h2 : inR ld 0 10000 = true) (h3 : inR c 1 1000 = true) W => lstep_any st ld c W (inR_iff.1 h1).1 (inR_iff.1 h1).2 (inR_iff.1 h2).1 (inR_iff.1 h2).2 (inR_iff.1 h3).1
  have HV : Hid (stepV st ld c = if stepOk st ld c = true then stepF st ld c else 0) := Lib.hid rfl
  have HE : Hid (stepE st ld c = if stepOk st ld c = true then 0 else 9) := Lib.hid rfl
  unfold stepOk at HV HE
  generalize stepV st ld c = v at *
  generalize stepE st ld c = er at *
  generalize stepF st ld c = r at *
  generalize inR st 0 10000000 = b1 at *
  generalize inR ld 0 10000 = b2 at *
  generalize inR c 1 1000 = b3 at *
  cases b1
  case false =>
    have HV := Lib.hid (HV.out.trans (if_neg (by simp)))
    have HE := Lib.hid (HE.out.trans (if_neg (by simp)))
    clear D2 D3 D4
    rw [HV.out, HE.out]
    go_enter Tryz.func21, Tryz.ntmps21
    go_wp2_with fail
    refine (D1.out _).mono ?_
    rintro e _ ⟨rfl, rfl⟩
    go_wp2_with fail
    exact bodyPost_ret (v := .tuple #[.int .i64 0, .int .i64 9]) (by simp [results, Tryz.results21, go_sem]) rfl ⟨rfl, rfl⟩
  cases b2
  case false =>
    have HV := Lib.hid (HV.out.trans (if_neg (by simp)))
    have HE := Lib.hid (HE.out.trans (if_neg (by simp)))
    clear D3 D4
    rw [HV.out, HE.out]
    go_enter Tryz.func21, Tryz.ntmps21
    go_wp2_with fail
    refine (D1.out _).mono ?_
    rintro e _ ⟨rfl, rfl⟩
    go_wp2_with fail
    refine (D2.out _).mono ?_
    rintro e _ ⟨rfl, rfl⟩
    go_wp2_with fail
    exact bodyPost_ret (v := .tuple #[.int .i64 0, .int .i64 9]) (by simp [results, Tryz.results21, go_sem]) rfl ⟨rfl, rfl⟩
  cases b3
  case false =>
    have HV := Lib.hid (HV.out.trans (if_neg (by simp)))
    have HE := Lib.hid (HE.out.trans (if_neg (by simp)))
    clear D4
    rw [HV.out, HE.out]
    go_enter Tryz.func21, Tryz.ntmps21
    go_wp2_with fail
    refine (D1.out _).mono ?_
    rintro e _ ⟨rfl, rfl⟩
    go_wp2_with fail
    refine (D2.out _).mono ?_
    rintro e _ ⟨rfl, rfl⟩
    go_wp2_with fail
    refine (D3.out _).mono ?_
    rintro e _ ⟨rfl, rfl⟩
    go_wp2_with fail
    exact bodyPost_ret (v := .tuple #[.int .i64 0, .int .i64 9]) (by simp [results, Tryz.results21, go_sem]) rfl ⟨rfl, rfl⟩
  have HV := Lib.hid (HV.out.trans (if_pos rfl))
  have HE := Lib.hid (HE.out.trans (if_pos rfl))
  replace D4 := Lib.hid (fun W => D4 rfl rfl rfl W)
  rw [HV.out, HE.out]
  go_enter Tryz.func21, Tryz.ntmps21
  go_wp2_with fail
  refine (D1.out _).mono ?_
  rintro e _ ⟨rfl, rfl⟩
  go_wp2_with fail
  refine (D2.out _).mono ?_
  rintro e _ ⟨rfl, rfl⟩
  go_wp2_with fail
  refine (D3.out _).mono ?_
  rintro e _ ⟨rfl, rfl⟩
  go_wp2_with fail
  refine (D4.out _).mono ?_
  rintro e _ ⟨rfl, rfl⟩
  go_wp2_with fail
  exact bodyPost_ret (v := .tuple #[.int .i64 r, .int .i64 0]) (by simp [results, Tryz.results21, go_sem]) rfl ⟨rfl, rfl⟩
/-! ### loads in a map -/
def intR : Value → Option (DataW Unit × List MemPlace)
  | .int .i64 x => some (.lit (.int .i64 x), [])
  | _ => none
theorem intR_inv : ∀ v x ps, intR v = some (.lit (.int .i64 x), ps) → v = .int .i64 x := by
  intro v x ps h
  unfold intR at h
  split at h
  · simp at h
    rw [h.1]
  · cases h
/-- block b is a map that tells the numbers of f -/
structure LMap (w : World) (b n : Nat) (f : Int → Int) : Prop where
  ex : ∃ D, w.ownsMap Tryz.prog 3 intR b n D ∧ ∀ j : Int, (Lit.int .i64 j).wf = true → D.atKey (.int .i64 j) (.lit (.int .i64 0)) = .lit (.int .i64 (f j))
def updF (f : Int → Int) (d x : Int) : Int → Int := fun j => if j = d then x else f j
theorem wf_in {j : Int} (h0 : -9223372036854775808 ≤ j) (h1 : j ≤ 9223372036854775807) : (Lit.int .i64 j).wf = true := by
  have e1 : IntKind.i64.min = -9223372036854775808 := by decide
  have e2 : IntKind.i64.max = 9223372036854775807 := by decide
  simp [Lit.wf, e1, e2]
  omega
theorem LMap.made (w : World) : LMap (w.alloc (.map #[] 0)) w.heap.size 0 (fun _ => 0) :=
  ⟨.map [], World.ownsMap_made _ _ _ _, fun _ _ => rfl⟩
theorem LMap.lt {w : World} {b n : Nat} {f : Int → Int} (h : LMap w b n f) : b < w.heap.size := by
  obtain ⟨D, h1, _⟩ := h.ex
  exact h1.lt
theorem LMap.kept {O : Nat → Prop} {w w' : World} {b n : Nat} {f : Int → Int} (h : LMap w b n f) (hk : Kept O w w') (ho : ¬ O b) : LMap w' b n f := by
  obtain ⟨D, h1, h2⟩ := h.ex
  have hlt := h1.lt
  obtain ⟨es, clock, hb, F, hs, hD⟩ := h1
  exact ⟨D, ⟨es, clock, (hk.block b hlt ho).trans hb, F, hs, hD⟩, h2⟩
theorem LMap.below {w w' : World} {b n : Nat} {f : Int → Int} (h : LMap w b n f) (hb : Below w.heap.size w w') : LMap w' b n f := h.kept (O := fun _ => False) (Kept.of_below hb) (fun e => e)
theorem LMap.mono {w : World} {b n n' : Nat} {f : Int → Int} (h : LMap w b n f) (hn : n ≤ n') : LMap w b n' f := by
  obtain ⟨D, h1, h2⟩ := h.ex
  exact ⟨D, h1.mono hn, h2⟩
theorem LMap.look {w : World} {b n : Nat} {f : Int → Int} (h : LMap w b n f) {j : Int} (hj : (Lit.int .i64 j).wf = true) : (Instr.lookup 30 (.map (some b)) (.int .i64 j) false).run Tryz.prog w = .ok (.int .i64 (f j)) w := by
  obtain ⟨D, h1, h2⟩ := h.ex
  obtain ⟨v, ps, hrun, hv⟩ := h1.lookup (Maps.int_keyed Tryz.underlying3) Tryz.underlying30 (z := .int .i64 0) (by go_simp) (zd := .lit (.int .i64 0)) rfl (Maps.keyOf_int_mk Tryz.underlying3 hj)
  rw [h2 j hj] at hv
  rw [intR_inv _ _ _ hv] at hrun
  exact hrun
theorem LMap.put {w : World} {b n : Nat} {f : Int → Int} (h : LMap w b n f) {j : Int} (hj : (Lit.int .i64 j).wf = true) (hn : n < maxLen) (x : Int) : ∃ w', (Instr.mapUpdate 30 (.map (some b)) (.int .i64 j) (.int .i64 x)).run Tryz.prog w = .ok () w' ∧ LMap w' b (n + 1) (updF f j x) ∧ w.grownBy w' (some b) := by
  obtain ⟨D, h1, h2⟩ := h.ex
  obtain ⟨w', r1, r2, r3⟩ := h1.update (Maps.int_keyed Tryz.underlying3) Tryz.underlying30 hn (val := .int .i64 x) (d := .lit (.int .i64 x)) (ps := []) (Maps.keyOf_int_mk Tryz.underlying3 hj) rfl
  refine ⟨w', r1, ⟨_, r2, fun i hi => ?_⟩, r3⟩
  unfold updF
  by_cases e : i = j
  · subst e
    rw [if_pos rfl]
    exact Maps.atKey_put_same h1.isMap ((Maps.int_keyed Tryz.underlying3).key (Maps.keyOf_int_mk Tryz.underlying3 hi)) _ _
  · rw [if_neg e, Maps.atKey_put_other (fun h => by injection h with _ h; exact e h)]
    exact h2 i hi
/-! ### a book -/
structure BookW (w : World) (g b n : Nat) (first fit fat : Int) (f : Int → Int) : Prop where
  blk : w.heap[g]? = some (.cells #[.int .i64 first, .int .i64 fit, .int .i64 fat, .map (some b)] 50 (0, 0))
  map : LMap w b n f
theorem BookW.lt {w : World} {g b n : Nat} {first fit fat : Int} {f : Int → Int} (h : BookW w g b n first fit fat f) : g < w.heap.size := lt_of_block h.blk
theorem BookW.ne {w : World} {g b n : Nat} {first fit fat : Int} {f : Int → Int} (h : BookW w g b n first fit fat f) : g ≠ b := by
  rintro rfl
  obtain ⟨D, h1, _⟩ := h.map.ex
  obtain ⟨es, clock, hb, _⟩ := h1
  rw [h.blk] at hb
  cases hb
theorem BookW.below {w w' : World} {g b n : Nat} {first fit fat : Int} {f : Int → Int} (h : BookW w g b n first fit fat f) (hb : Below w.heap.size w w') : BookW w' g b n first fit fat f := ⟨(hb.block g h.lt).trans h.blk, h.map.below hb⟩
theorem BookW.kept {O : Nat → Prop} {w w' : World} {g b n : Nat} {first fit fat : Int} {f : Int → Int} (h : BookW w g b n first fit fat f) (hk : Kept O w w') (h1 : ¬ O g) (h2 : ¬ O b) : BookW w' g b n first fit fat f := ⟨(hk.block g h.lt h1).trans h.blk, h.map.kept hk h2⟩
theorem BookW.cell {w : World} {g b n : Nat} {first fit fat : Int} {f : Int → Int} (h : BookW w g b n first fit fat f) : w.cell? ⟨g, 0, none⟩ = some (.int .i64 first) ∧ w.cell? ⟨g, 1, none⟩ = some (.int .i64 fit) ∧ w.cell? ⟨g, 2, none⟩ = some (.int .i64 fat) ∧ w.cell? ⟨g, 3, none⟩ = some (.map (some b)) := by
  have := h.blk
  simp [World.cell?, this]
theorem BookW.put {w w' : World} {g b n n' : Nat} {first fit fat : Int} {f f' : Int → Int} (h : BookW w g b n first fit fat f) (hm : LMap w' b n' f') (hg : w.grownBy w' (some b)) : BookW w' g b n' first fit fat f' := ⟨(hg.block g h.lt (fun e => h.ne (by injection e))).trans h.blk, hm⟩
end Go.Proofs.YtdfgpfdnjbildaaGreatDoor

/- A drawn region's operations one by one: as in Kp, min, max and nil checks among the calm ones. (Kp's own lines, turned by a program.) -/
namespace Go.Proofs.YtdfgpfdnjbildaaGreatDoor
open Go.RowKit Go.BigFrame
/-- operations that yield a value, or panic, and do nothing else -/
def isCalm4 : Op → Bool
  | .nilCheck _ => true
  | op => isCalm3 op
theorem calm_value4 {P : Program} {o : Oper} {ρ : Operand → Value} {w w' : World} {n : Next} (hc : isCalm4 o.op = true) (h : (execOp ρ o).run P w = .ok n w') : n ≠ .skip ∧ ∀ f args, n ≠ .enter f args := by
  obtain ⟨dst, op, type, pos, after, guard⟩ := o
  cases op
  case nilCheck x =>
    simp only [execOp] at h
    split at h
    · simp [go_sem, goPanic] at h
    · simp [go_sem, goPanic] at h
    · simp [go_sem, goPanic] at h
    · split at h
      · simp [go_sem, goPanic] at h
      · simp only [Sem.run_bind] at h
        rename_i name first captured _ _ t v hf
        simp only [go_sem] at h
        rw [show Sem.run P program w = .ok P w from rfl] at h
        simp only [Result.andThen_ok] at h
        cases hr : (nilAhead (P.types.size + 100) t v name).run P w with
        | ok b w1 =>
          rw [hr] at h
          simp only [Result.andThen_ok] at h
          split at h
          · simp [go_sem, unsupported] at h
          · simp at h
            exact ⟨by rw [← h.1]; simp, by rw [← h.1]; simp⟩
        | halt e w1 =>
          rw [hr] at h
          simp at h
      · simp at h
        exact ⟨by rw [← h.1]; simp, by rw [← h.1]; simp⟩
    · simp at h
      exact ⟨by rw [← h.1]; simp, by rw [← h.1]; simp⟩
  all_goals
    obtain ⟨x, rfl⟩ := calm_value3 (by exact hc) h
    exact ⟨by simp, by simp⟩
section
variable {P : Program} {ops : Array Oper} {Q : Exit → Act → World → Prop} {C : World → Prop}
theorem yieldsIf_of_quiet4 {o : Oper} {a : Act} {v : Value} (hc : isCalm4 o.op = true) (hw : Region.wanted o (yielded ops a.tmps) = true) (h : ∀ w, C w → o.quietAt P a C w v) : YieldsIf P ops C o v a := by
  refine Or.inl ⟨hw, fun w hC => ?_⟩
  have h1 := h w hC
  unfold Oper.quietAt at h1
  cases hr : (execOp a.eval o).run P w with
  | ok n w' =>
    rw [hr] at h1
    obtain ⟨n1, n2⟩ := calm_value4 hc hr
    cases n with
    | value x =>
      simp only [Oper.quietUpon] at h1
      rw [h1.1, h1.2]
    | skip => exact absurd rfl n1
    | enter f args => exact absurd rfl (n2 f args)
    | _ => simp [Oper.quietUpon] at h1
  | halt e w' => rw [hr] at h1; simp [Oper.quietUpon] at h1
/-- may these come up now, one behind the other, and is each apart from all that could come before it? -/
def calmB4 (ops : Array Oper) : List Nat → Array Bool → Bool
  | [], _ => true
  | i :: is, listed => ((ops[i]?).map fun o => isCalm4 o.op).getD false && Region.free .any ops listed i && (Region.ready .any ops listed).contains i && calmB4 ops is (listed.setIfInBounds i true)
theorem held_calm4 (hsel : Region.noSelect ops = true) (hQ : ∀ c a d v w, Q (.panic c) (Act.put a d v) w → Q (.panic c) a w) {w : World} (hC : C w) : ∀ (is : List Nat) (fuel : Nat) (listed : Array Bool) (a : Act),
    calmB4 ops is listed = true → wpQuiet P ops C (fun a' => wpAnyH P .any ops Q C fuel (listAll is listed) a' w) (is.filterMap fun i => ops[i]?) a → wpAnyH P .any ops Q C (fuel + is.length) listed a w
  | [], _, _, _, _, h => h
  | i :: is, fuel, listed, a, hB, h => by
    simp only [calmB4, Bool.and_eq_true] at hB
    obtain ⟨⟨⟨h1, h2⟩, h3⟩, h4⟩ := hB
    cases ho : ops[i]? with
    | none => rw [ho] at h1; simp at h1
    | some o =>
      rw [ho] at h1
      simp only [Option.map_some, Option.getD_some] at h1
      rw [List.filterMap_cons, ho] at h
      simp only [wpQuiet] at h
      have e : fuel + (i :: is).length = (fuel + is.length) + 1 := by simp; omega
      rw [e]
      by_cases hw : Region.wanted o (yielded ops a.tmps) = true
      · rw [if_pos hw] at h
        obtain ⟨v, hv, hn⟩ := h
        exact wpAnyH_take ho hsel h2 h3 (fun c a w => hQ c a _ _ w) (yieldsIf_of_quiet4 h1 hw hv) hC (held_calm4 hsel hQ hC is fuel _ _ h4 hn)
      · rw [if_neg hw] at h
        exact wpAnyH_take ho hsel h2 h3 (fun c a w => hQ c a _ _ w) (Or.inr ⟨by simpa using hw, rfl⟩) hC (held_calm4 hsel hQ hC is fuel _ _ h4 h)
theorem held_quiet4 {l : List Oper} (hsel : Region.noSelect l.toArray = true) (hQ : ∀ c a d v w, Q (.panic c) (Act.put a d v) w → Q (.panic c) a w) {w : World} (hC : C w) (is : List Nat) (fuel : Nat) (listed : Array Bool) (a : Act)
    (hB : calmB4 l.toArray is listed = true) (h : wpQuiet P l.toArray C (fun a' => wpAnyH P .any l.toArray Q C fuel (listAll is listed) a' w) (is.filterMap (nth l)) a) : wpAnyH P .any l.toArray Q C (fuel + is.length) listed a w :=
  held_calm4 hsel hQ hC is fuel listed a hB (by rw [show (fun i => l.toArray[i]?) = nth l from funext fun i => (nth_eq l i).symm]; exact h)
end
end Go.Proofs.YtdfgpfdnjbildaaGreatDoor

/- A book of loads: has, NewBook, Add, Take. (printed by wip/l/gen_ldd.py) -/
namespace Go.Proofs.YtdfgpfdnjbildaaGreatDoor
open Go.RowKit Go.BigFrame Go.ChangeMaps Go.WideMaps
open Tr (inR)
open Ld (floorF stepF serF)

def hasF (first day : Int) : Bool := inR day first (min (first + 5000 - 1) 999999)
set_option maxHeartbeats 4000000 in
set_option maxRecDepth 100000 in
theorem has_any (first day : Int) (g : Nat) (w : World) (h0 : 0 ≤ first) (h1 : first ≤ 999999) (hc : w.cell? ⟨g, 0, none⟩ = some (.int .i64 first)) :
    Calls Tryz.prog 18 #[.pointer (some ⟨g, 0, none⟩), .int .i64 day] w fun e w' => e = .returned (.bool (hasF first day)) ∧ Below w.heap.size w w' := by
  have C := Ext.ex hc
  have e1 : IntKind.i64.wrap (first + 5000) = first + 5000 := wrap_in (by omega) (by omega)
  have e2 : IntKind.i64.wrap (first + 5000 - 1) = first + 5000 - 1 := wrap_in (by omega) (by omega)
  have D := Lib.hid (fun (Z : Ext w) => Z.calls ((lin_any day first (min (first + 5000 - 1) 999999) Z.1).mono fun e w' ⟨he, hw⟩ => ⟨he, hw ▸ Below.refl _ _⟩))
  unfold hasF
  clear hc
  go_enter Tryz.func18, Tryz.ntmps18
  go_upto_region 1 with (fail)
  refine held_start (C := fun w' => ∃ Z : Ext w, w' = Z.1) (by kernel_rfl) ?_
  obtain ⟨Z0, hZ0⟩ : ∃ Z : Ext w, ({ w with drawn := w.drawn + 1 } : World) = Z.1 := ⟨⟨{ w with drawn := w.drawn + 1 }, ⟨rfl, rfl, rfl, Nat.le_refl _, fun _ _ => rfl⟩⟩, rfl⟩
  rw [hZ0]
  clear hZ0
  refine held_quiet4 (by kernel_rfl) (fun _ _ d _ _ h => by cases d <;> exact h) ⟨Z0, rfl⟩ [0, 1, 2, 3, 4, 5, 6, 7, 8, 9, 10, 11] 2 _ _ (by kernel_rfl) ?_
  change wpQuiet _ _ _ _ (_ :: _ :: _ :: _ :: _ :: _ :: _ :: _ :: _ :: _ :: _ :: _ :: []) _
  repeat go_big_quiet_step (fail)
  refine wpQuiet_nil ?_
  refine held_do (i := 12) _ rfl (by kernel_rfl) rfl (fun K hK => ?_)
  go_simp
  refine (D.out Z0).mono ?_
  rintro e w1 ⟨rfl, Z1, rfl⟩
  refine hK _ _ ⟨Z1, rfl⟩ ?_
  clear hK K
  try simp only [Act.put, List.setIfInBounds_toArray, List.set_cons_zero, List.set_cons_succ]
  refine held_quiet4 (by kernel_rfl) (fun _ _ d _ _ h => by cases d <;> exact h) ⟨Z1, rfl⟩ [13] 0 _ _ (by kernel_rfl) ?_
  change wpQuiet _ _ _ _ (_ :: []) _
  repeat go_big_quiet_step (fail)
  refine wpQuiet_nil ?_
  refine wpAnyH_done (by kernel_rfl) ?_ _
  go_wp2_with fail
  go_ret
  exact ⟨rfl, Z1.2⟩
def bookOk (first fit fat : Int) : Bool := inR first 0 999999 && (inR fit 0 10000000 && inR fat 0 10000000)
def NewRet (first fit fat : Int) (w : World) (e : Ending) (w' : World) : Prop :=
  (bookOk first fit fat = false ∧ e = .returned (.tuple #[.pointer none, .int .i64 9]) ∧ w = w') ∨
  (bookOk first fit fat = true ∧ e = .returned (.tuple #[.pointer (some ⟨w.heap.size + 1, 0, none⟩), .int .i64 0]) ∧ BookW w' (w.heap.size + 1) w.heap.size 0 first fit fat (fun _ => 0) ∧ Below w.heap.size w w')
set_option maxHeartbeats 2000000 in
theorem newBook_any (first fit fat : Int) (w : World) : Calls Tryz.prog 4 #[.int .i64 first, .int .i64 fit, .int .i64 fat] w fun e w' => NewRet first fit fat w e w' := by
  have hmm := @run_makeMap Tryz.prog
  have D1 := Lib.hid (fun W => lin_any first 0 999999 W)
  have D2 := Lib.hid (fun W => lisState_any fit W)
  have D3 := Lib.hid (fun W => lisState_any fat W)
  unfold NewRet bookOk
  generalize inR first 0 999999 = b1 at *
  generalize inR fit 0 10000000 = b2 at *
  generalize inR fat 0 10000000 = b3 at *
  cases b1
  case false =>
    go_enter Tryz.func4, Tryz.ntmps4
    go_wp2_with fail
    refine (D1.out _).mono ?_
    rintro e _ ⟨rfl, rfl⟩
    go_wp2_with fail
    exact bodyPost_ret (v := .tuple #[.pointer none, .int .i64 9]) (by simp [results, Tryz.results4, go_sem]) rfl (Or.inl ⟨by simp, rfl, rfl⟩)
  cases b2
  case false =>
    go_enter Tryz.func4, Tryz.ntmps4
    go_wp2_with fail
    refine (D1.out _).mono ?_
    rintro e _ ⟨rfl, rfl⟩
    go_wp2_with fail
    refine (D2.out _).mono ?_
    rintro e _ ⟨rfl, rfl⟩
    go_wp2_with fail
    exact bodyPost_ret (v := .tuple #[.pointer none, .int .i64 9]) (by simp [results, Tryz.results4, go_sem]) rfl (Or.inl ⟨by simp, rfl, rfl⟩)
  cases b3
  case false =>
    go_enter Tryz.func4, Tryz.ntmps4
    go_wp2_with fail
    refine (D1.out _).mono ?_
    rintro e _ ⟨rfl, rfl⟩
    go_wp2_with fail
    refine (D2.out _).mono ?_
    rintro e _ ⟨rfl, rfl⟩
    go_wp2_with fail
    refine (D3.out _).mono ?_
    rintro e _ ⟨rfl, rfl⟩
    go_wp2_with fail
    exact bodyPost_ret (v := .tuple #[.pointer none, .int .i64 9]) (by simp [results, Tryz.results4, go_sem]) rfl (Or.inl ⟨by simp, rfl, rfl⟩)
  obtain ⟨V1, hV1⟩ : ∃ V, w.alloc (.map #[] 0) = V := ⟨_, rfl⟩
  have hM : LMap V1 w.heap.size 0 (fun _ => 0) := hV1 ▸ LMap.made w
  have hb1 : Below w.heap.size w V1 := hV1 ▸ below_al w _
  have hs1 : V1.heap.size = w.heap.size + 1 := by rw [← hV1]; simp
  obtain ⟨V2, hV2, hb2, hs2, hl2⟩ := alloc_cells V1 #[.int .i64 first, .int .i64 fit, .int .i64 fat, .map (some w.heap.size)] 50
  have HF := Lib.hid (show BookW V2 (w.heap.size + 1) w.heap.size 0 first fit fat (fun _ => 0) ∧ Below w.heap.size w V2 from ⟨⟨by rw [← hV2, ← hs1]; exact heap_alloc_new V1 _, hM.below hb2⟩, below_step hb1 hb2⟩)
  have HV1 := Lib.hid hV1
  have HV2 := Lib.hid hV2
  have HS1 := Lib.hid hs1
  clear hV1 hM hb1 hs1 hV2 hb2 hs2 hl2
  go_enter Tryz.func4, Tryz.ntmps4
  go_wp2_with fail
  refine (D1.out _).mono ?_
  rintro e _ ⟨rfl, rfl⟩
  go_wp2_with fail
  refine (D2.out _).mono ?_
  rintro e _ ⟨rfl, rfl⟩
  go_wp2_with fail
  refine (D3.out _).mono ?_
  rintro e _ ⟨rfl, rfl⟩
  go_wp2_with fail
  rw [HV1.out, HV2.out]
  exact bodyPost_ret (v := .tuple #[.pointer (some ⟨w.heap.size + 1, 0, none⟩), .int .i64 0]) (by simp [results, Tryz.results4, go_sem]) rfl (Or.inr ⟨by simp, rfl, HF.out⟩)
  /-! ### Add, Take -/
  def addE (first : Int) (f : Int → Int) (day ld : Int) : Int := if hasF first day = false ∨ inR ld 0 10000 = false then 9 else if 10000 < f day + ld then 3 else 0
  def takeE (first : Int) (f : Int → Int) (day ld : Int) : Int := if hasF first day = false ∨ inR ld 0 10000 = false then 9 else if f day < ld then 4 else 0
  def addF (first : Int) (f : Int → Int) (day ld : Int) : Int → Int := if addE first f day ld = 0 then updF f day (f day + ld) else f
  def takeF (first : Int) (f : Int → Int) (day ld : Int) : Int → Int := if takeE first f day ld = 0 then updF f day (f day - ld) else f
  /-- numbers that a book holds -/
  structure LoadOk (f : Int → Int) : Prop where
    h : ∀ d, 0 ≤ f d ∧ f d ≤ 10000
  def BookRet (g b n : Nat) (first fit fat : Int) (er : Int) (f' : Int → Int) (w : World) (e : Ending) (w' : World) : Prop :=
    e = .returned (.int .i64 er) ∧ BookW w' g b (n + 1) first fit fat f' ∧ Kept (fun x => x = b) w w' 
set_option maxHeartbeats 4000000 in
set_option maxRecDepth 100000 in
theorem add_any (g b n : Nat) (first fit fat : Int) (f : Int → Int) (day ld : Int) (w : World) (h : BookW w g b n first fit fat f) (hf : LoadOk f) (h0 : 0 ≤ first) (h1 : first ≤ 999999) (hn : n < maxLen) :
    Calls Tryz.prog 6 #[.pointer (some ⟨g, 0, none⟩), .int .i64 day, .int .i64 ld] w fun e w' => BookRet g b n first fit fat (addE first f day ld) (addF first f day ld) w e w' := by
  have HB := Lib.hid h
  have D1 := Lib.hid (has_any first day g w h0 h1 h.cell.1)
  have D2 := Lib.hid (fun W => lin_any ld 0 10000 W)
  have HE : Hid (addE first f day ld = if hasF first day = false ∨ inR ld 0 10000 = false then 9 else if 10000 < f day + ld then 3 else 0) := Lib.hid rfl
  have HU : Hid (addF first f day ld = if addE first f day ld = 0 then updF f day (f day + ld) else f) := Lib.hid rfl
  have HD := Lib.hid (fun hh : hasF first day = true => (inR_iff.1 hh))
  have HL := Lib.hid (fun hh : inR ld 0 10000 = true => (inR_iff.1 hh))
  have hfd := hf.h day
  unfold BookRet
  generalize hasF first day = b1 at *
  generalize inR ld 0 10000 = b2 at *
  generalize addE first f day ld = er at *
  generalize addF first f day ld = f' at *
  cases b1
  case false =>
    have HE := Lib.hid (HE.out.trans (if_pos (by simp)))
    have HU := Lib.hid (HU.out.trans (if_neg (by rw [HE.out]; decide)))
    rw [HE.out, HU.out]
    clear h D2
    go_enter Tryz.func6, Tryz.ntmps6
    go_wp2_with fail
    refine D1.out.mono ?_
    rintro e w1 ⟨rfl, hb1⟩
    have HB1 := Lib.hid (And.intro (HB.out.below hb1) (Kept.of_below (O := fun x => x = b) hb1))
    clear hb1
    go_wp2_with fail
    go_ret
    exact ⟨rfl, ⟨HB1.out.1.blk, HB1.out.1.map.mono (by omega)⟩, HB1.out.2⟩
  cases b2
  case false =>
    have HE := Lib.hid (HE.out.trans (if_pos (by simp)))
    have HU := Lib.hid (HU.out.trans (if_neg (by rw [HE.out]; decide)))
    rw [HE.out, HU.out]
    clear h
    go_enter Tryz.func6, Tryz.ntmps6
    go_wp2_with fail
    refine D1.out.mono ?_
    rintro e w1 ⟨rfl, hb1⟩
    have HB1 := Lib.hid (And.intro (HB.out.below hb1) (Kept.of_below (O := fun x => x = b) hb1))
    clear hb1
    go_wp2_with fail
    refine (D2.out _).mono ?_
    rintro e _ ⟨rfl, rfl⟩
    go_wp2_with fail
    go_ret
    exact ⟨rfl, ⟨HB1.out.1.blk, HB1.out.1.map.mono (by omega)⟩, HB1.out.2⟩
  obtain ⟨d0, d1⟩ := HD.out rfl
  obtain ⟨l0, l1⟩ := HL.out rfl
  have hday : (Lit.int .i64 day).wf = true := wf_in (by omega) (by omega)
  have HE := Lib.hid (HE.out.trans (if_neg (by simp)))
  obtain ⟨x, hx⟩ : ∃ x, f day = x := ⟨_, rfl⟩
  rw [hx] at HE HU hfd
  have e1 : IntKind.i64.wrap (x + ld) = x + ld := wrap_in (by omega) (by omega)
  have HX := Lib.hid hx
  clear h hf hx HD HL d0 d1
  by_cases hc : 10000 < x + ld
  · have t1 : decide (10000 < x + ld) = true := decide_eq_true hc
    have HE := Lib.hid (HE.out.trans (if_pos hc))
    have HU := Lib.hid (HU.out.trans (if_neg (by rw [HE.out]; decide)))
    rw [HE.out, HU.out]
    clear hc
    go_enter Tryz.func6, Tryz.ntmps6
    go_wp2_with fail
    refine D1.out.mono ?_
    rintro e w1 ⟨rfl, hb1⟩
    have HB1 := Lib.hid (And.intro (HB.out.below hb1) (Kept.of_below (O := fun x => x = b) hb1))
    have k1 := HB1.out.1.map.look hday
    rw [HX.out] at k1
    obtain ⟨g0, g1, g2, g3⟩ := HB1.out.1.cell
    clear hb1
    go_wp2_with fail
    refine (D2.out _).mono ?_
    rintro e _ ⟨rfl, rfl⟩
    go_wp2_with fail
    go_ret
    exact ⟨rfl, ⟨HB1.out.1.blk, HB1.out.1.map.mono (by omega)⟩, HB1.out.2⟩
  · have t1 : decide (10000 < x + ld) = false := decide_eq_false hc
    have HE := Lib.hid (HE.out.trans (if_neg hc))
    have HU := Lib.hid (HU.out.trans (if_pos HE.out))
    rw [HE.out, HU.out]
    clear hc
    go_enter Tryz.func6, Tryz.ntmps6
    go_wp2_with fail
    refine D1.out.mono ?_
    rintro e w1 ⟨rfl, hb1⟩
    have HB1 := Lib.hid (And.intro (HB.out.below hb1) (Kept.of_below (O := fun x => x = b) hb1))
    have k1 := HB1.out.1.map.look hday
    rw [HX.out] at k1
    obtain ⟨g0, g1, g2, g3⟩ := HB1.out.1.cell
    obtain ⟨w2, k2, m2, hg2⟩ := HB1.out.1.map.put hday hn (x + ld)
    have HF := Lib.hid (And.intro (HB1.out.1.put m2 hg2) (HB1.out.2.grown hg2 (fun g e _ => by injection e with e; exact e.symm)))
    clear hb1 m2 hg2
    go_wp2_with fail
    refine (D2.out _).mono ?_
    rintro e _ ⟨rfl, rfl⟩
    go_wp2_with fail
    go_ret
    exact ⟨rfl, HF.out.1, HF.out.2⟩
set_option maxHeartbeats 4000000 in
set_option maxRecDepth 100000 in
theorem take_any (g b n : Nat) (first fit fat : Int) (f : Int → Int) (day ld : Int) (w : World) (h : BookW w g b n first fit fat f) (hf : LoadOk f) (h0 : 0 ≤ first) (h1 : first ≤ 999999) (hn : n < maxLen) :
    Calls Tryz.prog 8 #[.pointer (some ⟨g, 0, none⟩), .int .i64 day, .int .i64 ld] w fun e w' => BookRet g b n first fit fat (takeE first f day ld) (takeF first f day ld) w e w' := by
  have HB := Lib.hid h
  have D1 := Lib.hid (has_any first day g w h0 h1 h.cell.1)
  have D2 := Lib.hid (fun W => lin_any ld 0 10000 W)
  have HE : Hid (takeE first f day ld = if hasF first day = false ∨ inR ld 0 10000 = false then 9 else if f day < ld then 4 else 0) := Lib.hid rfl
  have HU : Hid (takeF first f day ld = if takeE first f day ld = 0 then updF f day (f day - ld) else f) := Lib.hid rfl
  have HD := Lib.hid (fun hh : hasF first day = true => (inR_iff.1 hh))
  have HL := Lib.hid (fun hh : inR ld 0 10000 = true => (inR_iff.1 hh))
  have hfd := hf.h day
  unfold BookRet
  generalize hasF first day = b1 at *
  generalize inR ld 0 10000 = b2 at *
  generalize takeE first f day ld = er at *
  generalize takeF first f day ld = f' at *
  cases b1
  case false =>
    have HE := Lib.hid (HE.out.trans (if_pos (by simp)))
    have HU := Lib.hid (HU.out.trans (if_neg (by rw [HE.out]; decide)))
    rw [HE.out, HU.out]
    clear h D2
    go_enter Tryz.func8, Tryz.ntmps8
    go_wp2_with fail
    refine D1.out.mono ?_
    rintro e w1 ⟨rfl, hb1⟩
    have HB1 := Lib.hid (And.intro (HB.out.below hb1) (Kept.of_below (O := fun x => x = b) hb1))
    clear hb1
    go_wp2_with fail
    go_ret
    exact ⟨rfl, ⟨HB1.out.1.blk, HB1.out.1.map.mono (by omega)⟩, HB1.out.2⟩
  cases b2
  case false =>
    have HE := Lib.hid (HE.out.trans (if_pos (by simp)))
    have HU := Lib.hid (HU.out.trans (if_neg (by rw [HE.out]; decide)))
    rw [HE.out, HU.out]
    clear h
    go_enter Tryz.func8, Tryz.ntmps8
    go_wp2_with fail
    refine D1.out.mono ?_
    rintro e w1 ⟨rfl, hb1⟩
    have HB1 := Lib.hid (And.intro (HB.out.below hb1) (Kept.of_below (O := fun x => x = b) hb1))
    clear hb1
    go_wp2_with fail
    refine (D2.out _).mono ?_
    rintro e _ ⟨rfl, rfl⟩
    go_wp2_with fail
    go_ret
    exact ⟨rfl, ⟨HB1.out.1.blk, HB1.out.1.map.mono (by omega)⟩, HB1.out.2⟩
  obtain ⟨d0, d1⟩ := HD.out rfl
  obtain ⟨l0, l1⟩ := HL.out rfl
  have hday : (Lit.int .i64 day).wf = true := wf_in (by omega) (by omega)
  have HE := Lib.hid (HE.out.trans (if_neg (by simp)))
  obtain ⟨x, hx⟩ : ∃ x, f day = x := ⟨_, rfl⟩
  rw [hx] at HE HU hfd
  have e1 : IntKind.i64.wrap (x - ld) = x - ld := wrap_in (by omega) (by omega)
  have HX := Lib.hid hx
  clear h hf hx HD HL d0 d1
  by_cases hc : x < ld
  · have t1 : decide (x < ld) = true := decide_eq_true hc
    have HE := Lib.hid (HE.out.trans (if_pos hc))
    have HU := Lib.hid (HU.out.trans (if_neg (by rw [HE.out]; decide)))
    rw [HE.out, HU.out]
    clear hc
    go_enter Tryz.func8, Tryz.ntmps8
    go_wp2_with fail
    refine D1.out.mono ?_
    rintro e w1 ⟨rfl, hb1⟩
    have HB1 := Lib.hid (And.intro (HB.out.below hb1) (Kept.of_below (O := fun x => x = b) hb1))
    have k1 := HB1.out.1.map.look hday
    rw [HX.out] at k1
    obtain ⟨g0, g1, g2, g3⟩ := HB1.out.1.cell
    clear hb1
    go_wp2_with fail
    refine (D2.out _).mono ?_
    rintro e _ ⟨rfl, rfl⟩
    go_wp2_with fail
    go_ret
    exact ⟨rfl, ⟨HB1.out.1.blk, HB1.out.1.map.mono (by omega)⟩, HB1.out.2⟩
  · have t1 : decide (x < ld) = false := decide_eq_false hc
    have HE := Lib.hid (HE.out.trans (if_neg hc))
    have HU := Lib.hid (HU.out.trans (if_pos HE.out))
    rw [HE.out, HU.out]
    clear hc
    go_enter Tryz.func8, Tryz.ntmps8
    go_wp2_with fail
    refine D1.out.mono ?_
    rintro e w1 ⟨rfl, hb1⟩
    have HB1 := Lib.hid (And.intro (HB.out.below hb1) (Kept.of_below (O := fun x => x = b) hb1))
    have k1 := HB1.out.1.map.look hday
    rw [HX.out] at k1
    obtain ⟨g0, g1, g2, g3⟩ := HB1.out.1.cell
    obtain ⟨w2, k2, m2, hg2⟩ := HB1.out.1.map.put hday hn (x - ld)
    have HF := Lib.hid (And.intro (HB1.out.1.put m2 hg2) (HB1.out.2.grown hg2 (fun g e _ => by injection e with e; exact e.symm)))
    clear hb1 m2 hg2
    go_wp2_with fail
    refine (D2.out _).mono ?_
    rintro e _ ⟨rfl, rfl⟩
    go_wp2_with fail
    go_ret
    exact ⟨rfl, HF.out.1, HF.out.2⟩
end Go.Proofs.YtdfgpfdnjbildaaGreatDoor

/- Rows of things read; rows of states of one's own, of numbers. -/
namespace Go.Proofs.YtdfgpfdnjbildaaGreatDoor
open Go.RowKit Go.BigFrame

/-- a row of structs that is read -/
structure Rw {α : Type} (C : α → List Value) (k : Nat) (w : World) (a : Option Addr) (l : List α) : Prop where
  here : 0 < l.length → ∃ b off, a = some ⟨b, off, none⟩ ∧ b < w.heap.size ∧ ∀ i x, l[i]? = some x → ∀ j v, (C x)[j]? = some v → w.cell? ⟨b, off + i * k + j, none⟩ = some v
theorem Rw.below {α : Type} {C : α → List Value} {k : Nat} {w w' : World} {a : Option Addr} {l : List α} (h : Rw C k w a l) (hb : Below w.heap.size w w') : Rw C k w' a l :=
  ⟨fun hl => by
    obtain ⟨b, off, e, hbl, hc⟩ := h.here hl
    exact ⟨b, off, e, Nat.lt_of_lt_of_le hbl hb.size, fun i x hx j v hv => (hb.cell (p := ⟨b, off + i * k + j, none⟩) hbl).trans (hc i x hx j v hv)⟩⟩
theorem Rw.at {α : Type} {C : α → List Value} {k : Nat} {w : World} {a : Option Addr} {l : List α} (h : Rw C k w a l) {i : Nat} {x : α} (hx : l[i]? = some x) :
    ∃ b off, a = some ⟨b, off, none⟩ ∧ b < w.heap.size ∧ ∀ j v, (C x)[j]? = some v → w.cell? ⟨b, off + i * k + j, none⟩ = some v := by
  obtain ⟨b, off, e, hb, hc⟩ := h.here (by have := (List.getElem?_eq_some_iff.1 hx).1; omega)
  exact ⟨b, off, e, hb, hc i x hx⟩
/-- at a place that is known -/
theorem Rw.on {α : Type} {C : α → List Value} {k : Nat} {w : World} {b off : Nat} {l : List α} (h : Rw C k w (some ⟨b, off, none⟩) l) {i : Nat} {x : α} (hx : l[i]? = some x) :
    ∀ j v, (C x)[j]? = some v → w.cell? ⟨b, off + i * k + j, none⟩ = some v := by
  obtain ⟨b', off', e, _, hc⟩ := h.at hx
  injection e with e
  injection e with e1 e2
  subst e1 e2
  exact hc

theorem addr_plus (b off j : Nat) : (⟨b, off, none⟩ : Addr).add j = ⟨b, off + j, none⟩ := by
  unfold Addr.add
  split <;> simp_all
/-- how somebody is on a day -/
structure St where
  day : Int
  load : Int
  fit : Int
  fat : Int
  form : Int
def stC (s : St) : List Value := [.int .i64 s.day, .int .i64 s.load, .int .i64 s.fit, .int .i64 s.fat, .int .i64 s.form]
theorem flatSt_len (l : List St) : (l.flatMap stC).length = l.length * 5 := by
  induction l with
  | nil => rfl
  | cons t l ih => rw [List.flatMap_cons, List.length_append, ih]; show 5 + l.length * 5 = (l.length + 1) * 5; omega
def StOwn (w : World) (base : Nat) (v : Value) (l : List St) : Prop := w.ownsRow base 41 5 v l.length (l.flatMap stC)
theorem StOwn.nil (w : World) (base : Nat) : StOwn w base (.slice none 0 0) [] := World.ownsRow_nil _ _ _ _
theorem StOwn.below {w w' : World} {base : Nat} {v : Value} {l : List St} (h : StOwn w base v l) (hb : Below w.heap.size w w') : StOwn w' base v l := ownsRow_below h hb
theorem StOwn.lt {w : World} {base : Nat} {v : Value} {l : List St} (h : StOwn w base v l) : ∀ b, v.ownBlock = some b → base ≤ b ∧ b < w.heap.size := fun b e => World.ownsRow.lt h b e
theorem flatSt_get : ∀ (l : List St) (i : Nat) (x : St), l[i]? = some x → ∀ j v, (stC x)[j]? = some v → (l.flatMap stC)[i * 5 + j]? = some v
  | [], i, x, h, _, _, _ => by simp at h
  | y :: l, 0, x, h, j, v, hv => by
    injection h with h
    subst h
    rw [List.flatMap_cons, Nat.zero_mul, Nat.zero_add, List.getElem?_append_left (by have := (List.getElem?_eq_some_iff.1 hv).1; exact this)]
    exact hv
  | y :: l, i + 1, x, h, j, v, hv => by
    have ih := flatSt_get l i x (by simpa using h) j v hv
    have : (stC y).length = 5 := rfl
    rw [List.flatMap_cons, List.getElem?_append_right (by omega), this, show (i + 1) * 5 + j - 5 = i * 5 + j by omega]
    exact ih
theorem StOwn.row {w : World} {base : Nat} {v : Value} {l : List St} (h : StOwn w base v l) : ∃ a c, v = .slice a l.length c ∧ l.length ≤ c ∧ Rw stC 5 w a l := by
  have hh := h
  rcases h.2 with ⟨e, h0⟩ | ⟨g, cap, cur, e, hb, hg, hn, hm, hs, ht⟩
  · exact ⟨none, 0, by rw [e, h0], by omega, ⟨fun hl => by omega⟩⟩
  · refine ⟨_, cap, e, hn, ⟨fun _ => ⟨g, 0, rfl, lt_of_block hg, fun i x hx j v hv => ?_⟩⟩⟩
    have hc := World.ownsRow.cells hh (g := g) (by rw [e]; rfl) (i * 5 + j) _ (flatSt_get l i x hx j v hv)
    rw [addr_plus] at hc
    rw [Nat.zero_add] at hc ⊢
    exact hc
/-- one pair appended -/
theorem append_st {ops : Array Oper} {rest : List Oper} {o : Oper} {a : Act} {Q : Exit → Act → World → Prop} {w : World} (hgd : o.guard = none) (s x : Operand)
    (ho : o.op = .call { callee := .builtin .append, args := #[s, x], argTypes := #[35, 35] }) {base : Nat} {v : Value} {l : List St} (hs : a.eval s = v) (hown : StOwn w base v l)
    {g : Nat} {p : St} (hx : a.eval x = .slice (some ⟨g, 0, none⟩) 1 1) (h0 : ∀ j u, (stC p)[j]? = some u → w.cell? ⟨g, j, none⟩ = some u) (hn : l.length ≤ 10000) (hb : base ≤ w.heap.size)
    (h : ∀ g' c' w', StOwn w' base (.slice (some ⟨g', 0, none⟩) (l.length + 1) c') (l ++ [p]) → w.grownBy w' v.ownBlock → (v.ownBlock = some g' ∨ g' = w.heap.size) → wpList Tryz.prog ops Q rest (a.put o.dst (.slice (some ⟨g', 0, none⟩) (l.length + 1) c')) w') : wpList Tryz.prog ops Q (o :: rest) a w := by
  obtain ⟨i0, hi0, hy0, hy1, hy2⟩ := info_parts (show (Tryz.prog.info? 41).map (fun i => (i.zero, i.size, i.bytes)) = some (some (.agg #[.int .i64 0, .int .i64 0, .int .i64 0, .int .i64 0, .int .i64 0]), 5, 40) by kernel_rfl)
  refine wpList_append_lies w hgd s x 35 ho base 41 i0 (.agg #[.int .i64 0, .int .i64 0, .int .i64 0, .int .i64 0, .int .i64 0]) 5 40 Tryz.underlying35 hi0 hy0 hy1 hy2 rfl (by decide) v l.length (l.flatMap stC) hs hown ⟨g, 0, none⟩ 1 1 (stC p) hx rfl (fun j u hu => ?_) (fun u hu => ?_) (by decide) (by unfold maxLen; omega) (by omega) hb _ rfl ?_
  · rw [addr_plus, Nat.zero_add]
    exact h0 j u hu
  · simp only [stC, List.mem_cons, List.not_mem_nil, or_false] at hu
    rcases hu with rfl | rfl | rfl | rfl | rfl <;> rfl
  · intro g' c' w' k1 k2 k3 _
    refine h g' c' w' ?_ k2 k3
    unfold StOwn
    rw [List.length_append, List.flatMap_append, show ([p].flatMap stC) = stC p from List.append_nil _]
    exact k1
def nC (x : Int) : List Value := [.int .i64 x]
theorem flatNu_len (l : List Int) : (l.flatMap nC).length = l.length * 1 := by
  induction l with
  | nil => rfl
  | cons t l ih => rw [List.flatMap_cons, List.length_append, ih]; show 1 + l.length * 1 = (l.length + 1) * 1; omega
def NuOwn (w : World) (base : Nat) (v : Value) (l : List Int) : Prop := w.ownsRow base 3 1 v l.length (l.flatMap nC)
theorem NuOwn.nil (w : World) (base : Nat) : NuOwn w base (.slice none 0 0) [] := World.ownsRow_nil _ _ _ _
theorem NuOwn.below {w w' : World} {base : Nat} {v : Value} {l : List Int} (h : NuOwn w base v l) (hb : Below w.heap.size w w') : NuOwn w' base v l := ownsRow_below h hb
theorem NuOwn.lt {w : World} {base : Nat} {v : Value} {l : List Int} (h : NuOwn w base v l) : ∀ b, v.ownBlock = some b → base ≤ b ∧ b < w.heap.size := fun b e => World.ownsRow.lt h b e
theorem flatNu_get : ∀ (l : List Int) (i : Nat) (x : Int), l[i]? = some x → ∀ j v, (nC x)[j]? = some v → (l.flatMap nC)[i * 1 + j]? = some v
  | [], i, x, h, _, _, _ => by simp at h
  | y :: l, 0, x, h, j, v, hv => by
    injection h with h
    subst h
    rw [List.flatMap_cons, Nat.zero_mul, Nat.zero_add, List.getElem?_append_left (by have := (List.getElem?_eq_some_iff.1 hv).1; exact this)]
    exact hv
  | y :: l, i + 1, x, h, j, v, hv => by
    have ih := flatNu_get l i x (by simpa using h) j v hv
    have : (nC y).length = 1 := rfl
    rw [List.flatMap_cons, List.getElem?_append_right (by omega), this, show (i + 1) * 1 + j - 1 = i * 1 + j by omega]
    exact ih
theorem NuOwn.row {w : World} {base : Nat} {v : Value} {l : List Int} (h : NuOwn w base v l) : ∃ a c, v = .slice a l.length c ∧ l.length ≤ c ∧ Rw nC 1 w a l := by
  have hh := h
  rcases h.2 with ⟨e, h0⟩ | ⟨g, cap, cur, e, hb, hg, hn, hm, hs, ht⟩
  · exact ⟨none, 0, by rw [e, h0], by omega, ⟨fun hl => by omega⟩⟩
  · refine ⟨_, cap, e, hn, ⟨fun _ => ⟨g, 0, rfl, lt_of_block hg, fun i x hx j v hv => ?_⟩⟩⟩
    have hc := World.ownsRow.cells hh (g := g) (by rw [e]; rfl) (i * 1 + j) _ (flatNu_get l i x hx j v hv)
    rw [addr_plus] at hc
    rw [Nat.zero_add] at hc ⊢
    exact hc
/-- one pair appended -/
theorem append_nu {ops : Array Oper} {rest : List Oper} {o : Oper} {a : Act} {Q : Exit → Act → World → Prop} {w : World} (hgd : o.guard = none) (s x : Operand)
    (ho : o.op = .call { callee := .builtin .append, args := #[s, x], argTypes := #[38, 38] }) {base : Nat} {v : Value} {l : List Int} (hs : a.eval s = v) (hown : NuOwn w base v l)
    {g : Nat} {p : Int} (hx : a.eval x = .slice (some ⟨g, 0, none⟩) 1 1) (h0 : w.cell? ⟨g, 0, none⟩ = some (.int .i64 p)) (hn : l.length ≤ 10000) (hb : base ≤ w.heap.size)
    (h : ∀ g' c' w', NuOwn w' base (.slice (some ⟨g', 0, none⟩) (l.length + 1) c') (l ++ [p]) → w.grownBy w' v.ownBlock → (v.ownBlock = some g' ∨ g' = w.heap.size) → wpList Tryz.prog ops Q rest (a.put o.dst (.slice (some ⟨g', 0, none⟩) (l.length + 1) c')) w') : wpList Tryz.prog ops Q (o :: rest) a w := by
  obtain ⟨i0, hi0, hy0, hy1, hy2⟩ := info_parts (show (Tryz.prog.info? 3).map (fun i => (i.zero, i.size, i.bytes)) = some (some (.int .i64 0), 1, 8) by kernel_rfl)
  refine wpList_append_lies w hgd s x 38 ho base 3 i0 (.int .i64 0) 1 8 Tryz.underlying38 hi0 hy0 hy1 hy2 rfl (by decide) v l.length (l.flatMap nC) hs hown ⟨g, 0, none⟩ 1 1 (nC p) hx rfl (fun j u hu => ?_) (fun u hu => ?_) (by decide) (by unfold maxLen; omega) (by omega) hb _ rfl ?_
  · rw [addr_plus, Nat.zero_add]
    match j, hu with
    | 0, hu => exact h0.trans hu
    | n + 1, hu => cases hu
  · simp only [nC, List.mem_cons, List.not_mem_nil, or_false] at hu
    subst hu
    rfl
  · intro g' c' w' k1 k2 k3 _
    refine h g' c' w' ?_ k2 k3
    unfold NuOwn
    rw [List.length_append, List.flatMap_append, show ([p].flatMap nC) = nC p from List.append_nil _]
    exact k1
end Go.Proofs.YtdfgpfdnjbildaaGreatDoor

/- Series. -/
namespace Go.Proofs.YtdfgpfdnjbildaaGreatDoor
open Go.RowKit Go.BigFrame
open Tr (inR)
open Ld (floorF stepF serF)

def serL (f : Nat → Int) (c first : Int) (n : Nat) : List Int := (List.range n).map fun i => serF f c first (i + 1)
theorem serL_succ (f : Nat → Int) (c first : Int) (n : Nat) : serL f c first (n + 1) = serL f c first n ++ [serF f c first (n + 1)] := by
  unfold serL
  rw [List.range_succ, List.map_append]
  rfl
theorem serL_len (f : Nat → Int) (c first : Int) (n : Nat) : (serL f c first n).length = n := by
  unfold serL
  rw [List.length_map, List.length_range]
theorem step_good {st ld c : Int} (h0 : 0 ≤ st) (h1 : st ≤ 10000000) (h2 : 0 ≤ ld) (h3 : ld ≤ 10000) (hc : 1 ≤ c) (hc2 : c ≤ 1000) : stepV st ld c = stepF st ld c ∧ stepE st ld c = 0 := by
  have : stepOk st ld c = true := by
    unfold stepOk
    rw [inR_iff.2 ⟨h0, h1⟩, inR_iff.2 ⟨h2, h3⟩, inR_iff.2 ⟨hc, hc2⟩]
    rfl
  unfold stepV stepE
  rw [if_pos this, if_pos this]
  exact ⟨rfl, rfl⟩
set_option maxHeartbeats 4000000 in
set_option maxRecDepth 100000 in
theorem series_any (l : List Int) (a : Option Addr) (cp : Nat) (c first : Int) (w : World) (hr : Rw nC 1 w a l) (hl : l.length ≤ 5000) (hl2 : ∀ x, x ∈ l → 0 ≤ x ∧ x ≤ 10000) (hc : 1 ≤ c) (hc2 : c ≤ 1000) (hf : 0 ≤ first) (hf2 : first ≤ 10000000) :
    Calls Tryz.prog 13 #[.slice a l.length cp, .int .i64 c, .int .i64 first] w fun e w' => ∃ v, e = .returned (.tuple #[v, .int .i64 0]) ∧ NuOwn w' w.heap.size v (serL (fun i => l.getD i 0) c first l.length) ∧ Below w.heap.size w w' := by
  have D0 := Lib.hid (fun W => by
    have h := lStep_any first 0 c W
    rw [(step_good hf hf2 (by omega) (by omega) hc hc2).2] at h
    exact h)
  have DS := Lib.hid (fun (st x : Int) (W : World) (h1 : 0 ≤ st) (h2 : st ≤ 10000000) (h3 : 0 ≤ x) (h4 : x ≤ 10000) => by
    have h := lStep_any st x c W
    rw [(step_good h1 h2 h3 h4 hc hc2).1, (step_good h1 h2 h3 h4 hc hc2).2] at h
    exact h)
  obtain ⟨f, hfd⟩ : ∃ f : Nat → Int, (fun i => l.getD i 0) = f := ⟨_, rfl⟩
  have HR := Lib.hid hr
  have HX := Lib.hid (fun (i : Nat) (hi : i < l.length) => show l[i]? = some (f i) ∧ 0 ≤ f i ∧ f i ≤ 10000 from by
    have e : f i = l[i] := by rw [← hfd]; simp [hi]
    rw [e]
    exact ⟨List.getElem?_eq_getElem hi, hl2 _ (List.getElem_mem hi)⟩)
  have HSR := Lib.hid (fun k (hk : k ≤ l.length) => Ld.serF_range (f := f) (c := c) hf hf2 hc k (fun i hi => (HX.out i (by omega)).2))
  rw [hfd]
  obtain ⟨n, hn⟩ : ∃ n, l.length = n := ⟨_, rfl⟩
  rw [hn] at hl HX HSR ⊢
  have q1 : decide ((5000 : Int) < (n : Int)) = false := by rw [decide_eq_false_iff_not]; omega
  have q1' : decide (5000 < n) = false := by rw [decide_eq_false_iff_not]; omega
  clear hr hl2 hfd hn
  go_enter Tryz.func13, Tryz.ntmps13
  go_wp2_with fail
  refine (D0.out _).mono ?_
  rintro e _ ⟨rfl, rfl⟩
  go_wp2_with fail
  go_loopw [2, 10, 29] (fun sv ov iv wr => ∃ (k : Nat), iv = .int .i64 k ∧ k ≤ n ∧ sv = .int .i64 (serF f c first k) ∧ Hid (NuOwn wr w.heap.size ov (serL f c first k)) ∧ ∃ X : Ext w, wr = X.1) (fun _ _ iv _ => n - (intOf iv).toNat)
  case atStart => exact ⟨0, rfl, by omega, rfl, Lib.hid (NuOwn.nil _ _), ⟨w, Below.refl _ _⟩, rfl⟩
  case round =>
    obtain ⟨k, rfl, hk, rfl, HO, X, rfl⟩ := hrel
    by_cases hlt : k < n
    · have t2 : decide ((k : Int) < (n : Int)) = true := by rw [decide_eq_true_eq]; omega
      have t2' : decide (k < n) = true := by simpa using hlt
      obtain ⟨hx, x0, x1⟩ := HX.out k hlt
      obtain ⟨s0, s1⟩ := HSR.out k (by omega)
      have HSS : Hid (serF f c first (k + 1) = stepF (serF f c first k) (f k) c) := Lib.hid rfl
      have HLL := Lib.hid (serL_succ f c first k)
      have HLN := Lib.hid (serL_len f c first k)
      have DK := Lib.hid (fun W => DS.out (serF f c first k) (f k) W s0 s1 x0 x1)
      obtain ⟨ba, oa, rfl, hba, hcl⟩ := (HR.out.below X.2).at hx
      have c0 : X.1.cell? ⟨ba, oa + k, none⟩ = some (.int .i64 (f k)) := by have := hcl 0 _ rfl; simpa using this
      obtain ⟨st, hst⟩ : ∃ z, serF f c first k = z := ⟨_, rfl⟩
      obtain ⟨st', hst'⟩ : ∃ z, serF f c first (k + 1) = z := ⟨_, rfl⟩
      have HST := Lib.hid hst'
      rw [hst] at HSS DK ⊢
      rw [hst'] at HSS
      generalize f k = x at *
      clear hx hcl hst hst'
      go_wp2_with fail
      refine (DK.out _).mono ?_
      rintro e _ ⟨rfl, rfl⟩
      rw [← HSS.out]
      obtain ⟨V4, hV4, hb4, hs4, hl4⟩ := alloc_cells X.1 #[.int .i64 st'] 3
      have p0 := hl4 0 _ rfl
      have HO4 := Lib.hid (HO.out.below hb4)
      have H4 := Lib.hid (below_step X.2 hb4)
      clear hb4 hs4 hl4
      go_wp2_with (at_builtin; refine append_nu rfl _ _ rfl rfl HO4.out (p := st') rfl p0 (by rw [HLN.out]; omega) H4.out.size (fun g' c' w3 ho3 hg3 hor => ?_))
      have HO5 := Lib.hid ho3
      have H5 := Lib.hid (Kept.below (O := fun b => w.heap.size ≤ b) H4.out (Kept.of_grown hg3 (fun g e _ => (HO4.out.lt g e).1)) H4.out.size (fun k hk e => by omega))
      clear ho3 hg3 hor p0 hV4
      go_wp2_with fail
      go_roundw
      case rel => exact ⟨k + 1, by go_num, by omega, by rw [HST.out], Lib.hid (by rw [HLL.out, HST.out]; exact HO5.out), ⟨w3, H5.out⟩, rfl⟩
      case measure => simp [intOf]; omega
    · have t2 : decide ((k : Int) < (n : Int)) = false := by rw [decide_eq_false_iff_not]; omega
      have t2' : decide (k < n) = false := by simpa using hlt
      obtain rfl : k = n := by omega
      clear hlt hk
      go_wp2_with fail
      exact bodyPost_ret (v := .tuple #[u10, .int .i64 0]) (by simp [results, Tryz.results13, go_sem]) rfl ⟨_, rfl, HO.out, X.2⟩
end Go.Proofs.YtdfgpfdnjbildaaGreatDoor

/- Between: from the first day on. -/
namespace Go.Proofs.YtdfgpfdnjbildaaGreatDoor
open Go.RowKit Go.BigFrame
open Tr (inR)
open Ld (floorF stepF serF)

theorem set_cells {w : World} {b i : Nat} {cs : Array Value} {T : TypeId} {fz : Nat × Nat} {v : Value} (h : w.heap[b]? = some (.cells cs T fz)) : (w.setCell ⟨b, i, none⟩ v).heap[b]? = some (.cells (cs.setIfInBounds i v) T fz) := by
  simp [World.setCell, Array.getElem?_modify, h]
theorem keep_set {O : Nat → Prop} {a : World} {b i : Nat} {v : Value} (ho : O b) : Kept O a (a.setCell ⟨b, i, none⟩ v) := by
  refine ⟨rfl, rfl, rfl, Nat.le_of_eq (by simp [World.setCell]), fun k _ hn => Below.heap_setCell a ⟨b, i, none⟩ v k (fun e => hn (e ▸ ho))⟩
/-- a block that holds a state -/
def StB (w : World) (T : Nat) (s : St) : Prop := w.heap[T]? = some (.cells #[.int .i64 s.day, .int .i64 s.load, .int .i64 s.fit, .int .i64 s.fat, .int .i64 s.form] 41 (0, 0))
theorem StB.cell {w : World} {g : Nat} {s : St} (h : StB w g s) : w.cell? ⟨g, 0, none⟩ = some (.int .i64 s.day) ∧ w.cell? ⟨g, 1, none⟩ = some (.int .i64 s.load) ∧ w.cell? ⟨g, 2, none⟩ = some (.int .i64 s.fit) ∧ w.cell? ⟨g, 3, none⟩ = some (.int .i64 s.fat) ∧ w.cell? ⟨g, 4, none⟩ = some (.int .i64 s.form) := by
  unfold StB at h
  simp [World.cell?, h]
theorem StB.free {w : World} {g : Nat} {s : St} (h : StB w g s) (i : Nat) : w.frozen? ⟨g, i, none⟩ = false := by
  unfold StB at h
  simp [World.frozen?, h]
theorem StB.lt {w : World} {g : Nat} {s : St} (h : StB w g s) : g < w.heap.size := lt_of_block h
theorem StB.below {w w' : World} {g : Nat} {s : St} (h : StB w g s) (hb : Below w.heap.size w w') : StB w' g s := (hb.block g h.lt).trans h
theorem StB.set0 {w : World} {g : Nat} {s : St} (h : StB w g s) (v : Int) : StB (w.setCell ⟨g, 0, none⟩ (.int .i64 v)) g { s with day := v } := set_cells h
theorem StB.set1 {w : World} {g : Nat} {s : St} (h : StB w g s) (v : Int) : StB (w.setCell ⟨g, 1, none⟩ (.int .i64 v)) g { s with load := v } := set_cells h
theorem StB.set2 {w : World} {g : Nat} {s : St} (h : StB w g s) (v : Int) : StB (w.setCell ⟨g, 2, none⟩ (.int .i64 v)) g { s with fit := v } := set_cells h
theorem StB.set3 {w : World} {g : Nat} {s : St} (h : StB w g s) (v : Int) : StB (w.setCell ⟨g, 3, none⟩ (.int .i64 v)) g { s with fat := v } := set_cells h
theorem StB.set4 {w : World} {g : Nat} {s : St} (h : StB w g s) (v : Int) : StB (w.setCell ⟨g, 4, none⟩ (.int .i64 v)) g { s with form := v } := set_cells h
def st0 : St := ⟨0, 0, 0, 0, 0⟩
theorem ext_put {W : World} (Z : Ext W) {T : Nat} (hT : W.heap.size ≤ T) {V : World} (hk : Kept (fun b => b = T) Z.1 V) : Below W.heap.size W V := Kept.below Z.2 hk Z.2.size (fun k hk e => by omega)
theorem st_new {W : World} (Z : Ext W) : ∃ (Z' : Ext W) (T : Nat), Z.1.heap.size = T ∧ W.heap.size ≤ T ∧ Z.1.alloc (.cells #[.int .i64 0, .int .i64 0, .int .i64 0, .int .i64 0, .int .i64 0] 41) = Z'.1 ∧ StB Z'.1 T st0 ∧ Below Z.1.heap.size Z.1 Z'.1 :=
  ⟨⟨_, below_step Z.2 (below_al _ _)⟩, _, rfl, Z.2.size, rfl, heap_alloc_new _ _, below_al _ _⟩
theorem st_put {W : World} (Z : Ext W) {T : Nat} {s : St} (h : StB Z.1 T s) (hT : W.heap.size ≤ T) (u : St) : ∃ Z' : Ext W, ((((Z.1.setCell ⟨T, 0, none⟩ (.int .i64 u.day)).setCell ⟨T, 1, none⟩ (.int .i64 u.load)).setCell ⟨T, 2, none⟩ (.int .i64 u.fit)).setCell ⟨T, 3, none⟩ (.int .i64 u.fat)).setCell ⟨T, 4, none⟩ (.int .i64 u.form) = Z'.1 ∧ StB Z'.1 T u ∧ Kept (fun b => b = T) Z.1 Z'.1 := by
  have hk : Kept (fun b => b = T) Z.1 (((((Z.1.setCell ⟨T, 0, none⟩ (.int .i64 u.day)).setCell ⟨T, 1, none⟩ (.int .i64 u.load)).setCell ⟨T, 2, none⟩ (.int .i64 u.fit)).setCell ⟨T, 3, none⟩ (.int .i64 u.fat)).setCell ⟨T, 4, none⟩ (.int .i64 u.form)) := Kept.trans (O := fun b => b = T) (Kept.trans (O := fun b => b = T) (Kept.trans (O := fun b => b = T) (Kept.trans (O := fun b => b = T) (keep_set rfl) (keep_set rfl)) (keep_set rfl)) (keep_set rfl)) (keep_set rfl)
  exact ⟨⟨_, ext_put Z hT hk⟩, rfl, ((((h.set0 u.day).set1 u.load).set2 u.fit).set3 u.fat).set4 u.form, hk⟩
theorem st_two {W : World} (Z : Ext W) {T : Nat} {s : St} (h : StB Z.1 T s) (hT : W.heap.size ≤ T) (a b : Int) : ∃ Z' : Ext W, (Z.1.setCell ⟨T, 2, none⟩ (.int .i64 a)).setCell ⟨T, 3, none⟩ (.int .i64 b) = Z'.1 ∧ StB Z'.1 T { s with fit := a, fat := b } ∧ Kept (fun b => b = T) Z.1 Z'.1 := by
  have hk : Kept (fun b => b = T) Z.1 ((Z.1.setCell ⟨T, 2, none⟩ (.int .i64 a)).setCell ⟨T, 3, none⟩ (.int .i64 b)) := Kept.trans (O := fun b => b = T) (keep_set rfl) (keep_set rfl)
  exact ⟨⟨_, ext_put Z hT hk⟩, rfl, (h.set2 a).set3 b, hk⟩
/-- how somebody is on a day of a book -/
def stAt (f : Int → Int) (first fit fat : Int) (i : Nat) : St :=
  ⟨first + i, f (first + i), serF (fun j => f (first + (j : Nat))) 42 fit (i + 1), serF (fun j => f (first + (j : Nat))) 7 fat (i + 1), serF (fun j => f (first + (j : Nat))) 42 fit i - serF (fun j => f (first + (j : Nat))) 7 fat i⟩
def betL (f : Int → Int) (first fit fat : Int) (n : Nat) : List St := (List.range n).map (stAt f first fit fat)
theorem betL_succ (f : Int → Int) (first fit fat : Int) (n : Nat) : betL f first fit fat (n + 1) = betL f first fit fat n ++ [stAt f first fit fat n] := by
  unfold betL
  rw [List.range_succ, List.map_append]
  rfl
theorem betL_len (f : Int → Int) (first fit fat : Int) (n : Nat) : (betL f first fit fat n).length = n := by
  unfold betL
  rw [List.length_map, List.length_range]
theorem StOwn.keep {w w' : World} {base T : Nat} {v : Value} {l : List St} (h : StOwn w base v l) (hk : Kept (fun b => b = T) w w') (hT : ∀ b, v.ownBlock = some b → b ≠ T) : StOwn w' base v l := by
  refine World.ownsRow.kept (row := some T) h ⟨hk.os, hk.tape, hk.output, hk.size, fun k hk1 hk2 => hk.block k hk1 (fun e => hk2 (by rw [e]))⟩ ?_
  cases e : v.ownBlock with
  | none => exact Or.inl rfl
  | some b => exact Or.inr (fun e2 => by injection e2 with e2; exact hT b e e2)
set_option maxHeartbeats 8000000 in
set_option maxRecDepth 100000 in
theorem between_any (g b nn : Nat) (first fit fat : Int) (f : Int → Int) (n : Nat) (to : Int) (w : World) (h : BookW w g b nn first fit fat f) (hf : LoadOk f) (h0 : 0 ≤ first) (h1 : first ≤ 999999) (h2 : 0 ≤ fit) (h3 : fit ≤ 10000000) (h4 : 0 ≤ fat) (h5 : fat ≤ 10000000)
    (hto : to = first + n - 1) (hn : 1 ≤ n) (hn2 : n ≤ 5000) (hh : hasF first to = true) :
    Calls Tryz.prog 9 #[.pointer (some ⟨g, 0, none⟩), .int .i64 first, .int .i64 to] w fun e w' => ∃ v, e = .returned (.tuple #[v, .int .i64 0]) ∧ StOwn w' w.heap.size v (betL f first fit fat n) ∧ Below w.heap.size w w' := by
  have hh0 : hasF first first = true := by
    unfold hasF
    rw [inR_iff]
    omega
  have D1 := Lib.hid (fun (Z : Ext w) => by
    have d := has_any first first g Z.1 h0 h1 ((h.below Z.2).cell.1)
    rw [hh0] at d
    exact d)
  have D2 := Lib.hid (fun (Z : Ext w) => by
    have d := has_any first to g Z.1 h0 h1 ((h.below Z.2).cell.1)
    rw [hh] at d
    exact d)
  obtain ⟨g0, g1, g2, g3⟩ := h.cell
  have G0 := Ext.ex g0
  have G1 := Ext.ex g1
  have G2 := Ext.ex g2
  have G3 := Ext.ex g3
  have LK := Lib.hid (fun (d : Int) (hd : (Lit.int .i64 d).wf = true) (Z : Ext w) => (h.map.below Z.2).look hd)
  have HSA := Lib.hid (fun k => Ld.serF_range (f := fun j => f (first + (j : Nat))) (c := 42) h2 h3 (by omega) k (fun i _ => hf.h _))
  have HSB := Lib.hid (fun k => Ld.serF_range (f := fun j => f (first + (j : Nat))) (c := 7) h4 h5 (by omega) k (fun i _ => hf.h _))
  have HFD := Lib.hid hf.h
  have e1 : IntKind.i64.wrap (to - first) = (n : Int) - 1 := by rw [wrap_in (by omega) (by omega)]; omega
  have e2 : IntKind.i64.wrap ((n : Int) - 1 + 1) = (n : Int) := by rw [wrap_in (by omega) (by omega)]; omega
  have e3 : IntKind.i64.wrap (n : Int) = (n : Int) := wrap_in (by omega) (by omega)
  have q1 : decide (to < first) = false := by rw [decide_eq_false_iff_not]; omega
  have HHAS := Lib.hid (show (n : Int) ≤ 5000 ∧ first + n - 1 ≤ 999999 from by
    rw [hto] at hh
    unfold hasF at hh
    rw [inR_iff] at hh
    omega)
  clear h hh hh0 g0 g1 g2 g3 hf hto
  go_enter Tryz.func9, Tryz.ntmps9
  go_wp2_with fail
  refine (D1.out ⟨w, Below.refl _ _⟩).mono ?_
  rintro e w1 ⟨rfl, hb1⟩
  obtain ⟨X, rfl⟩ : ∃ Z : Ext w, w1 = Z.1 := ⟨⟨w1, hb1⟩, rfl⟩
  clear hb1
  go_wp2_with fail
  refine (D2.out X).mono ?_
  rintro e w2 ⟨rfl, hb2⟩
  obtain ⟨X2, rfl⟩ : ∃ Z : Ext w, w2 = Z.1 := ⟨⟨w2, below_step X.2 hb2⟩, rfl⟩
  clear hb2
  go_wp2_with fail
  refine wp_region_ext (W := X2.1) ⟨X2.1, Below.refl _ _⟩ (by kernel_rfl) (by kernel_rfl) ?_
  have G1' := Ext.re X2.2 G1
  have G2' := Ext.re X2.2 G2
  repeat go_big_quiet_step (fail)
  refine wpQuiet_nil ?_
  rintro _ ⟨Y, rfl⟩
  obtain ⟨X3, hX3⟩ : ∃ Z : Ext w, Y.1 = Z.1 := ⟨⟨Y.1, below_step X2.2 Y.2⟩, rfl⟩
  rw [hX3]
  clear hX3 G1' G2'
  go_wp2_with fail
  clear q1 e1 e2 e3 D1 D2
  go_loopw [8, 9, 10, 43] (fun ov av cv iv wr => ∃ (k : Nat), iv = .int .i64 k ∧ k ≤ n ∧ av = .int .i64 (serF (fun j => f (first + (j : Nat))) 42 fit k) ∧ cv = .int .i64 (serF (fun j => f (first + (j : Nat))) 7 fat k) ∧ Hid (StOwn wr w.heap.size ov (betL f first fit fat k)) ∧ ∃ X : Ext w, wr = X.1) (fun _ _ _ iv _ => n - (intOf iv).toNat)
  case atStart => exact ⟨0, rfl, by omega, rfl, rfl, Lib.hid (StOwn.nil _ _), X3, rfl⟩
  case round =>
    clear X X2 X3 Y
    obtain ⟨k, rfl, hk, rfl, rfl, HO, X, rfl⟩ := hrel
    by_cases hlt : k < n
    · have t2 : decide ((k : Int) < (n : Int)) = true := by rw [decide_eq_true_eq]; omega
      have t2' : decide (k < n) = true := by simpa using hlt
      obtain ⟨hs1, hs2⟩ := HHAS.out
      have HLL := Lib.hid (betL_succ f first fit fat k)
      have HLN := Lib.hid (betL_len f first fit fat k)
      have hst : stAt f first fit fat k = ⟨first + k, f (first + k), serF (fun j => f (first + (j : Nat))) 42 fit (k + 1), serF (fun j => f (first + (j : Nat))) 7 fat (k + 1), serF (fun j => f (first + (j : Nat))) 42 fit k - serF (fun j => f (first + (j : Nat))) 7 fat k⟩ := rfl
      have ha : serF (fun j => f (first + (j : Nat))) 42 fit (k + 1) = stepF (serF (fun j => f (first + (j : Nat))) 42 fit k) (f (first + k)) 42 := rfl
      have hc : serF (fun j => f (first + (j : Nat))) 7 fat (k + 1) = stepF (serF (fun j => f (first + (j : Nat))) 7 fat k) (f (first + k)) 7 := rfl
      obtain ⟨a0, a1⟩ := HSA.out k
      obtain ⟨c0, c1⟩ := HSB.out k
      obtain ⟨x0, x1⟩ := HFD.out (first + k)
      have L1 := fun Z => LK.out (first + k) (wf_in (by omega) (by omega)) Z
      obtain ⟨sa, hsa⟩ : ∃ z, serF (fun j => f (first + (j : Nat))) 42 fit k = z := ⟨_, rfl⟩
      obtain ⟨sc, hsc⟩ : ∃ z, serF (fun j => f (first + (j : Nat))) 7 fat k = z := ⟨_, rfl⟩
      obtain ⟨sa', hsa'⟩ : ∃ z, serF (fun j => f (first + (j : Nat))) 42 fit (k + 1) = z := ⟨_, rfl⟩
      obtain ⟨sc', hsc'⟩ : ∃ z, serF (fun j => f (first + (j : Nat))) 7 fat (k + 1) = z := ⟨_, rfl⟩
      obtain ⟨x, hx⟩ : ∃ z, f (first + k) = z := ⟨_, rfl⟩
      have HSA' := Lib.hid hsa'
      have HSC' := Lib.hid hsc'
      rw [hsa', hsa, hx] at ha
      rw [hsc', hsc, hx] at hc
      rw [hx, hsa', hsc', hsa, hsc] at hst
      rw [hsa] at a0 a1 ⊢
      rw [hsc] at c0 c1 ⊢
      rw [hx] at x0 x1
      simp only [hx] at L1
      have D42 := Lib.hid (fun W => ha ▸ lstep_any sa x 42 W a0 a1 x0 x1 (by omega))
      have D7 := Lib.hid (fun W => hc ▸ lstep_any sc x 7 W c0 c1 x0 x1 (by omega))
      have HST := Lib.hid hst
      have v1 : IntKind.i64.wrap (first + (k : Int)) = first + k := wrap_in (by omega) (by omega)
      have v2 : IntKind.i64.wrap (sa - sc) = sa - sc := wrap_in (by omega) (by omega)
      have v3 : decide (first ≤ first + (k : Int)) = true := by rw [decide_eq_true_eq]; omega
      clear hsa hsc hsa' hsc' hx hst ha hc
      go_upto_region 10 with (fail)
      refine held_start (C := fun w' => ∃ Z : Ext w, w' = Z.1) (by kernel_rfl) ?_
      have hdr : Below X.1.heap.size X.1 ({ X.1 with drawn := X.1.drawn + 1 } : World) := ⟨rfl, rfl, rfl, Nat.le_refl _, fun _ _ => rfl⟩
      have HO0 := Lib.hid (HO.out.below hdr)
      obtain ⟨Z0, hZ0⟩ : ∃ Z : Ext w, ({ X.1 with drawn := X.1.drawn + 1 } : World) = Z.1 := ⟨⟨_, below_step X.2 hdr⟩, rfl⟩
      rw [hZ0] at HO0 ⊢
      clear hZ0 hdr
      refine held_quiet4 (by kernel_rfl) (fun _ _ d _ _ h => by cases d <;> exact h) ⟨Z0, rfl⟩ [0, 1, 2, 3, 4, 5, 6, 7, 8, 9, 10, 11, 12, 13, 14, 15, 16, 17, 18, 19, 20] 2 _ _ (by kernel_rfl) ?_
      change wpQuiet _ _ _ _ (_ :: _ :: _ :: _ :: _ :: _ :: _ :: _ :: _ :: _ :: _ :: _ :: _ :: _ :: _ :: _ :: _ :: _ :: _ :: _ :: _ :: []) _
      repeat go_big_quiet_step (fail)
      refine wpQuiet_nil ?_
      refine held_do (i := 21) _ rfl (by kernel_rfl) rfl (fun K hK => ?_)
      go_simp
      obtain ⟨Z1, T, hT, hXT, hZn, hTB, hZb⟩ := st_new Z0
      have HT1 := Lib.hid hTB
      have HXT := Lib.hid hXT
      have hfresh : ∀ b, u8.ownBlock = some b → b ≠ T := fun b e => by have := (HO0.out.lt b e).2; omega
      have HO1 := Lib.hid (HO0.out.below hZb)
      rw [hZn, hT]
      refine hK _ _ ⟨Z1, rfl⟩ ?_
      clear hK K hT hXT hZn hTB hZb
      try simp only [Act.put, List.setIfInBounds_toArray, List.set_cons_zero, List.set_cons_succ]
      obtain ⟨r0, r1, r2, r3, r4⟩ := HT1.out.cell
      have f0 := HT1.out.free 0
      have f1 := HT1.out.free 1
      have f2 := HT1.out.free 2
      have f3 := HT1.out.free 3
      have f4 := HT1.out.free 4
      obtain ⟨Z2, hZ2, hT2, hk2⟩ := st_put Z1 HT1.out HXT.out ⟨first + k, x, 0, 0, sa - sc⟩
      have HO2 := Lib.hid (HO1.out.keep hk2 hfresh)
      have HT2 := Lib.hid hT2
      refine held_do (i := 22) _ rfl (by kernel_rfl) rfl (fun K hK => ?_)
      unfold st0 at r0 r1 r2 r3 r4
      try simp only at r0 r1 r2 r3 r4 hZ2
      go_simp
      try rw [hZ2]
      refine hK _ _ ⟨Z2, rfl⟩ ?_
      clear hK K r0 r1 r2 r3 r4 f0 f1 f2 f3 f4 hZ2 HT1 hk2 hT2 HO1 HO0
      try simp only [Act.put, List.setIfInBounds_toArray, List.set_cons_zero, List.set_cons_succ]
      refine wpAnyH_done (by kernel_rfl) ?_ _
      go_wp2_with fail
      have U1 := Ext.ex HT2.out.cell.2.1
      simp only at U1
      refine held_start (C := fun w' => ∃ Z : Ext Z2.1, w' = Z.1) (by kernel_rfl) ?_
      have hdr : Below Z2.1.heap.size Z2.1 ({ Z2.1 with drawn := Z2.1.drawn + 1 } : World) := ⟨rfl, rfl, rfl, Nat.le_refl _, fun _ _ => rfl⟩
      obtain ⟨Z3, hZ3⟩ : ∃ Z : Ext Z2.1, ({ Z2.1 with drawn := Z2.1.drawn + 1 } : World) = Z.1 := ⟨⟨_, hdr⟩, rfl⟩
      rw [hZ3]
      clear hZ3 hdr
      refine held_quiet4 (by kernel_rfl) (fun _ _ d _ _ h => by cases d <;> exact h) ⟨Z3, rfl⟩ [0, 1, 2, 4, 5, 6] 4 _ _ (by kernel_rfl) ?_
      change wpQuiet _ _ _ _ (_ :: _ :: _ :: _ :: _ :: _ :: []) _
      repeat go_big_quiet_step (fail)
      refine wpQuiet_nil ?_
      refine held_do (i := 3) _ rfl (by kernel_rfl) rfl (fun K hK => ?_)
      go_simp
      refine (D42.out _).mono ?_
      rintro e _ ⟨rfl, rfl⟩
      refine hK _ _ ⟨Z3, rfl⟩ ?_
      clear hK K
      try simp only [Act.put, List.setIfInBounds_toArray, List.set_cons_zero, List.set_cons_succ]
      refine held_do (i := 7) _ rfl (by kernel_rfl) rfl (fun K hK => ?_)
      go_simp
      refine (D7.out _).mono ?_
      rintro e _ ⟨rfl, rfl⟩
      refine hK _ _ ⟨Z3, rfl⟩ ?_
      clear hK K
      try simp only [Act.put, List.setIfInBounds_toArray, List.set_cons_zero, List.set_cons_succ]
      refine held_quiet4 (by kernel_rfl) (fun _ _ d _ _ h => by cases d <;> exact h) ⟨Z3, rfl⟩ [8, 9] 0 _ _ (by kernel_rfl) ?_
      change wpQuiet _ _ _ _ (_ :: _ :: []) _
      repeat go_big_quiet_step (fail)
      refine wpQuiet_nil ?_
      refine wpAnyH_done (by kernel_rfl) ?_ _
      have HT3 := Lib.hid (HT2.out.below Z3.2)
      have HO3 := Lib.hid (HO2.out.below Z3.2)
      obtain ⟨Z4, hZ4⟩ : ∃ Z : Ext w, Z3.1 = Z.1 := ⟨⟨Z3.1, below_step Z2.2 Z3.2⟩, rfl⟩
      rw [hZ4] at HT3 HO3 ⊢
      clear hZ4 U1 HT2 HO2
      obtain ⟨r0, r1, r2, r3, r4⟩ := HT3.out.cell
      have f2 := HT3.out.free 2
      have f3 := HT3.out.free 3
      obtain ⟨Z5, hZ5, hT5, hk5⟩ := st_two Z4 HT3.out HXT.out sa' sc'
      have HO5 := Lib.hid (HO3.out.keep hk5 hfresh)
      obtain ⟨p0, p1, p2, p3, p4⟩ := hT5.cell
      have HZ5 := Lib.hid hZ5
      clear hk5 hT5 hZ5 HT3 HO3 hfresh
      try simp only at r0 r1 r2 r3 r4 p0 p1 p2 p3 p4
      go_upto_region 13 with (fail)
      rw [HZ5.out]
      clear r0 r1 r2 r3 r4 f2 f3
      obtain ⟨V6, hV6, hb6, hs6, hl6⟩ := alloc_cells Z5.1 #[.int .i64 (first + k), .int .i64 x, .int .i64 sa', .int .i64 sc', .int .i64 (sa - sc)] 41
      have HC6 := Lib.hid (fun j u (hj : (stC ⟨first + k, x, sa', sc', sa - sc⟩)[j]? = some u) => show V6.cell? ⟨Z5.1.heap.size, j, none⟩ = some u from hl6 j u (by
        rw [← hj]
        simp [stC]))
      have HO6 := Lib.hid (HO5.out.below hb6)
      have H6 := Lib.hid (below_step Z5.2 hb6)
      clear hb6 hs6 hl6
      go_wp2_with (at_builtin; refine append_st rfl _ _ rfl rfl HO6.out (p := ⟨first + k, x, sa', sc', sa - sc⟩) rfl HC6.out (by rw [HLN.out]; omega) H6.out.size (fun g' c' w7 ho7 hg7 hor => ?_))
      have HO7 := Lib.hid ho7
      have H7 := Lib.hid (Kept.below (O := fun b => w.heap.size ≤ b) H6.out (Kept.of_grown hg7 (fun g e _ => (HO6.out.lt g e).1)) H6.out.size (fun k hk e => by omega))
      clear ho7 hg7 hor hV6 p0 p1 p2 p3 p4
      go_wp2_with fail
      go_roundw
      case rel => exact ⟨k + 1, by go_num, by omega, by rw [HSA'.out], by rw [HSC'.out], Lib.hid (by rw [HLL.out, HST.out]; exact HO7.out), ⟨w7, H7.out⟩, rfl⟩
      case measure => simp [intOf]; omega
    · have t2 : decide ((k : Int) < (n : Int)) = false := by rw [decide_eq_false_iff_not]; omega
      have t2' : decide (k < n) = false := by simpa using hlt
      obtain rfl : k = n := by omega
      clear hlt hk
      go_wp2_with fail
      exact bodyPost_ret (v := .tuple #[u8, .int .i64 0]) (by simp [results, Tryz.results9, go_sem]) rfl ⟨_, rfl, HO.out, X.2⟩
end Go.Proofs.YtdfgpfdnjbildaaGreatDoor

/- Rows of states compared. -/
namespace Go.Proofs.YtdfgpfdnjbildaaGreatDoor
open Go.RowKit Go.BigFrame

def stV (s : St) : Value := .agg #[.int .i64 s.day, .int .i64 s.load, .int .i64 s.fit, .int .i64 s.fat, .int .i64 s.form]
theorem alike1_any (x y : St) (w : World) : Calls Tryz.prog 11 #[stV x, stV y] w fun e w' => e = .returned (.bool (x.load == y.load)) ∧ Below w.heap.size w w' := by
  unfold stV
  obtain ⟨V0, hV0, hb0, hs0, hl0⟩ := alloc_cells w #[.int .i64 x.day, .int .i64 x.load, .int .i64 x.fit, .int .i64 x.fat, .int .i64 x.form] 41
  obtain ⟨V1, hV1, hb1, hs1, hl1⟩ := alloc_cells V0 #[.int .i64 y.day, .int .i64 y.load, .int .i64 y.fit, .int .i64 y.fat, .int .i64 y.form] 41
  rw [hs0] at hl1
  have A1 := below_cell hb1 (hl0 1 _ rfl)
  have B1 := hl1 1 _ rfl
  have HB := Lib.hid (below_step hb0 hb1)
  have HV0 := Lib.hid hV0
  have HV1 := Lib.hid hV1
  clear hV0 hb0 hs0 hl0 hV1 hb1 hs1 hl1
  go_enter Tryz.func11, Tryz.ntmps11
  go_upto_region 1 with (fail)
  rw [HV0.out, HV1.out]
  go_wp2_with fail
  go_ret
  exact ⟨rfl, HB.out⟩
/-- are the loads the same, so far? -/
def eqLd (l m : List St) : Nat → Bool
  | 0 => true
  | k + 1 => eqLd l m k && (match l[k]?, m[k]? with
    | some x, some y => x.load == y.load
    | _, _ => true)
theorem eqLd_false {l m : List St} {n : Nat} : ∀ k, eqLd l m k = false → k ≤ n → eqLd l m n = false := by
  induction n with
  | zero => intro k h hk; obtain rfl : k = 0 := by omega
            exact h
  | succ n ih =>
    intro k h hk
    by_cases e : k = n + 1
    · rw [← e]; exact h
    · rw [eqLd, ih k h (by omega)]
      rfl
theorem eqLd_all {l m : List St} : ∀ n, eqLd l m n = true → ∀ i x y, i < n → l[i]? = some x → m[i]? = some y → x.load = y.load
  | 0, _, i, _, _, hi, _, _ => by omega
  | n + 1, h, i, x, y, hi, hx, hy => by
    rw [eqLd, Bool.and_eq_true] at h
    by_cases e : i = n
    · subst e
      rw [hx, hy] at h
      exact beq_iff_eq.1 h.2
    · exact eqLd_all n h.1 i x y (by omega) hx hy
set_option maxHeartbeats 4000000 in
set_option maxRecDepth 100000 in
theorem eqFunc_any (l m : List St) (a b : Option Addr) (c d : Nat) (w : World) (hr : Rw stC 5 w a l) (hq : Rw stC 5 w b m) (hl : l.length ≤ 1000000) (hm : m.length = l.length) :
    Calls Tryz.prog 10 #[.slice a l.length c, .slice b m.length d, .func (.func 11) #[] #[]] w fun e w' => e = .returned (.bool (eqLd l m l.length)) ∧ Below w.heap.size w w' := by
  have HR := Lib.hid hr
  have HQ := Lib.hid hq
  have HLT := Lib.hid (fun (i : Nat) (h : i < l.length) => show (∃ x, l[i]? = some x) ∧ ∃ y, m[i]? = some y from ⟨⟨_, List.getElem?_eq_getElem h⟩, ⟨_, List.getElem?_eq_getElem (by omega)⟩⟩)
  rw [hm]
  obtain ⟨nl, hnl⟩ : ∃ n, l.length = n := ⟨_, rfl⟩
  rw [hnl] at hl HLT ⊢
  have hneq : ((nl : Int) != (nl : Int)) = false := by simp
  clear hr hq hnl hm
  go_enter Tryz.func10, Tryz.ntmps10
  go_wp2_with fail
  go_loopw [17] (fun iv wr => ∃ (k : Nat), iv = .int .i64 k ∧ k ≤ nl ∧ Hid (eqLd l m k = true) ∧ ∃ X : Ext w, wr = X.1) (fun iv _ => nl - (intOf iv).toNat)
  case atStart => exact ⟨0, rfl, by omega, Lib.hid rfl, ⟨w, Below.refl _ _⟩, rfl⟩
  case round =>
    obtain ⟨k, rfl, hk, HE, X, rfl⟩ := hrel
    by_cases hlt : k < nl
    · have t1 : decide ((k : Int) < (nl : Int)) = true := by rw [decide_eq_true_eq]; omega
      have t1' : decide (k < nl) = true := by simpa using hlt
      obtain ⟨⟨x, hx⟩, y, hy⟩ := HLT.out k hlt
      obtain ⟨b1, o1, rfl, hb1, e⟩ := (HR.out.below X.2).at hx
      obtain ⟨b2, o2, rfl, hb2, f⟩ := (HQ.out.below X.2).at hy
      have e0 : X.1.cell? ⟨b1, o1 + k * 5, none⟩ = some (.int .i64 x.day) := e 0 _ rfl
      have e1 : X.1.cell? ⟨b1, o1 + k * 5 + 1, none⟩ = some (.int .i64 x.load) := e 1 _ rfl
      have e2 : X.1.cell? ⟨b1, o1 + k * 5 + 2, none⟩ = some (.int .i64 x.fit) := e 2 _ rfl
      have e3 : X.1.cell? ⟨b1, o1 + k * 5 + 3, none⟩ = some (.int .i64 x.fat) := e 3 _ rfl
      have e4 : X.1.cell? ⟨b1, o1 + k * 5 + 4, none⟩ = some (.int .i64 x.form) := e 4 _ rfl
      obtain ⟨V1, hV1, hvb1, hvs1, hvl1⟩ := alloc_cells X.1 #[.int .i64 x.day, .int .i64 x.load, .int .i64 x.fit, .int .i64 x.fat, .int .i64 x.form] 41
      have f0 : V1.cell? ⟨b2, o2 + k * 5, none⟩ = some (.int .i64 y.day) := below_cell hvb1 (f 0 _ rfl)
      have f1 : V1.cell? ⟨b2, o2 + k * 5 + 1, none⟩ = some (.int .i64 y.load) := below_cell hvb1 (f 1 _ rfl)
      have f2 : V1.cell? ⟨b2, o2 + k * 5 + 2, none⟩ = some (.int .i64 y.fit) := below_cell hvb1 (f 2 _ rfl)
      have f3 : V1.cell? ⟨b2, o2 + k * 5 + 3, none⟩ = some (.int .i64 y.fat) := below_cell hvb1 (f 3 _ rfl)
      have f4 : V1.cell? ⟨b2, o2 + k * 5 + 4, none⟩ = some (.int .i64 y.form) := below_cell hvb1 (f 4 _ rfl)
      obtain ⟨V2, hV2, hvb2, hvs2, hvl2⟩ := alloc_cells V1 #[.int .i64 y.day, .int .i64 y.load, .int .i64 y.fit, .int .i64 y.fat, .int .i64 y.form] 41
      rw [hvs1] at hvl2
      obtain ⟨T, hT⟩ : ∃ T, X.1.heap.size = T := ⟨_, rfl⟩
      rw [hT] at hvl1 hvl2 hvs1
      have a0 := below_cell hvb2 (hvl1 0 _ rfl)
      have a1 := below_cell hvb2 (hvl1 1 _ rfl)
      have a2 := below_cell hvb2 (hvl1 2 _ rfl)
      have a3 := below_cell hvb2 (hvl1 3 _ rfl)
      have a4 := below_cell hvb2 (hvl1 4 _ rfl)
      have d0 := hvl2 0 _ rfl
      have d1 := hvl2 1 _ rfl
      have d2 := hvl2 2 _ rfl
      have d3 := hvl2 3 _ rfl
      have d4 := hvl2 4 _ rfl
      have HV1 := Lib.hid hV1
      have HV2 := Lib.hid hV2
      have HT := Lib.hid hT
      have HS1 := Lib.hid hvs1
      have HB2 := Lib.hid (below_step (below_step X.2 hvb1) hvb2)
      have D := Lib.hid (alike1_any x y V2)
      have HN : Hid (eqLd l m (k + 1) = (x.load == y.load)) := Lib.hid (by
        rw [eqLd, HE.out, hx, hy]
        rfl)
      unfold stV at D
      clear hx hy e f hV1 hvb1 hvs1 hvl1 hV2 hvb2 hvs2 hvl2 hT HE
      cases hb : x.load == y.load
      · rw [hb] at D HN
        have HF := Lib.hid (eqLd_false (n := nl) (k + 1) HN.out (by omega))
        clear hb
        go_upto_region 6 with (fail)
        rw [HV1.out, HT.out]
        go_upto_region 7 with (fail)
        rw [HV2.out, HS1.out]
        go_wp2_with fail
        refine D.out.mono ?_
        rintro e w3 ⟨rfl, hb3⟩
        have HB3 := Lib.hid (below_step HB2.out hb3)
        clear hb3
        go_wp2_with fail
        go_ret
        exact ⟨ret_bool HF.out.symm, HB3.out⟩
      · rw [hb] at D HN
        clear hb
        go_upto_region 6 with (fail)
        rw [HV1.out, HT.out]
        go_upto_region 7 with (fail)
        rw [HV2.out, HS1.out]
        go_wp2_with fail
        refine D.out.mono ?_
        rintro e w3 ⟨rfl, hb3⟩
        have HB3 := Lib.hid (below_step HB2.out hb3)
        clear hb3
        go_wp2_with fail
        go_roundw
        case rel => exact ⟨k + 1, by go_num, by omega, HN, ⟨w3, HB3.out⟩, rfl⟩
        case measure => simp [intOf]; omega
    · have t1 : decide ((k : Int) < (nl : Int)) = false := by rw [decide_eq_false_iff_not]; omega
      have t1' : decide (k < nl) = false := by simpa using hlt
      obtain rfl : k = nl := by omega
      clear hlt hk
      go_wp2_with fail
      go_ret
      exact ⟨ret_bool HE.out.symm, X.2⟩
set_option maxHeartbeats 1000000 in
theorem eqSt_self (p : St) (w : World) : (Op.equalIn 10000 41 (.agg #[.int .i64 p.day, .int .i64 p.load, .int .i64 p.fit, .int .i64 p.fat, .int .i64 p.form]) (.agg #[.int .i64 p.day, .int .i64 p.load, .int .i64 p.fit, .int .i64 p.fat, .int .i64 p.form])).run Tryz.prog w = .ok true w := by
  have u3 := Tryz.underlying3
  have a3 := Tryz.isAgg3
  have z3 := Tryz.sizeOf3
  have hS : Tryz.prog.underlying 41 = some (.struct (Tryz.prog.fieldsOf 41)) := by kernel_rfl
  have hp : Tryz.prog.stoodInHeld 41 = false := by kernel_rfl
  obtain ⟨a, b, c, d, e⟩ := p
  simp only
  rw [show (10000 : Nat) = 9999 + 1 from rfl, run_equalIn_agg w 9999 41 _ _ hS hp]
  simp only [Program.fieldsOf, Tryz.underlying41]
  have h1 : (a == a) = true := by simp
  have h2 : (b == b) = true := by simp
  have h3 : (c == c) = true := by simp
  have h4 : (d == d) = true := by simp
  have h5 : (e == e) = true := by simp
  go_simp
set_option maxHeartbeats 4000000 in
set_option maxRecDepth 100000 in
theorem equalS_self (l : List St) (a b : Option Addr) (c d : Nat) (w : World) (hr : Rw stC 5 w a l) (hq : Rw stC 5 w b l) (hl : l.length ≤ 1000000) :
    Calls Tryz.prog 12 #[.slice a l.length c, .slice b l.length d] w fun e w' => e = .returned (.bool true) ∧ ∃ q, w' = w.drewN q := by
  have HR := Lib.hid hr
  have HQ := Lib.hid hq
  have HLT := Lib.hid (fun (i : Nat) (h : i < l.length) => show ∃ x, l[i]? = some x from ⟨_, List.getElem?_eq_getElem h⟩)
  obtain ⟨nl, hnl⟩ : ∃ n, l.length = n := ⟨_, rfl⟩
  rw [hnl] at hl HLT ⊢
  have hneq : ((nl : Int) != (nl : Int)) = false := by simp
  clear hr hq hnl
  go_enter Tryz.func12, Tryz.ntmps12
  go_wp2_with fail
  go_loopw [13] (fun iv wr => ∃ (k : Nat), iv = .int .i64 k ∧ k ≤ nl ∧ (∃ q, wr = w.drewN q)) (fun iv _ => nl - (intOf iv).toNat)
  case atStart => exact ⟨0, rfl, by omega, ⟨0, rfl⟩⟩
  case round =>
    obtain ⟨k, rfl, hk, ⟨q, rfl⟩⟩ := hrel
    by_cases hlt : k < nl
    · have t1 : decide ((k : Int) < (nl : Int)) = true := by rw [decide_eq_true_eq]; omega
      have t1' : decide (k < nl) = true := by simpa using hlt
      obtain ⟨x, hx⟩ := HLT.out k hlt
      obtain ⟨b1, o1, rfl, hb1, e⟩ := HR.out.at hx
      obtain ⟨b2, o2, rfl, hb2, f⟩ := HQ.out.at hx
      have e0 : w.cell? ⟨b1, o1 + k * 5, none⟩ = some (.int .i64 x.day) := e 0 _ rfl
      have e1 : w.cell? ⟨b1, o1 + k * 5 + 1, none⟩ = some (.int .i64 x.load) := e 1 _ rfl
      have e2 : w.cell? ⟨b1, o1 + k * 5 + 2, none⟩ = some (.int .i64 x.fit) := e 2 _ rfl
      have e3 : w.cell? ⟨b1, o1 + k * 5 + 3, none⟩ = some (.int .i64 x.fat) := e 3 _ rfl
      have e4 : w.cell? ⟨b1, o1 + k * 5 + 4, none⟩ = some (.int .i64 x.form) := e 4 _ rfl
      have f0 : w.cell? ⟨b2, o2 + k * 5, none⟩ = some (.int .i64 x.day) := f 0 _ rfl
      have f1 : w.cell? ⟨b2, o2 + k * 5 + 1, none⟩ = some (.int .i64 x.load) := f 1 _ rfl
      have f2 : w.cell? ⟨b2, o2 + k * 5 + 2, none⟩ = some (.int .i64 x.fit) := f 2 _ rfl
      have f3 : w.cell? ⟨b2, o2 + k * 5 + 3, none⟩ = some (.int .i64 x.fat) := f 3 _ rfl
      have f4 : w.cell? ⟨b2, o2 + k * 5 + 4, none⟩ = some (.int .i64 x.form) := f 4 _ rfl
      have hgd : Tryz.prog.eqGuardType Tryz.prog.depth 41 = false := by kernel_rfl
      have hq := fun W => eqSt_self x W
      clear hx e f
      go_wp2_with fail
      go_quiet (fail)
      go_wp2_with fail
      go_roundw
      case rel => exact ⟨k + 1, by go_num, by omega, ⟨_, rfl⟩⟩
      case measure => simp [intOf]; omega
    · have t1 : decide ((k : Int) < (nl : Int)) = false := by rw [decide_eq_false_iff_not]; omega
      have t1' : decide (k < nl) = false := by simpa using hlt
      go_wp2_with fail
      go_ret
      exact ⟨rfl, _, rfl⟩
end Go.Proofs.YtdfgpfdnjbildaaGreatDoor

/- What books hold, plain. -/
namespace Go.Proofs.YtdfgpfdnjbildaaGreatDoor
open Tr (inR)
open Ld (floorF stepF serF)

theorem LoadOk.upd {f : Int → Int} (h : LoadOk f) {d x : Int} (h0 : 0 ≤ x) (h1 : x ≤ 10000) : LoadOk (updF f d x) := ⟨fun j => by
  unfold updF
  split
  · exact ⟨h0, h1⟩
  · exact h.h j⟩
theorem addE_zero {first : Int} {f : Int → Int} {d x : Int} (h : addE first f d x = 0) : hasF first d = true ∧ (0 ≤ x ∧ x ≤ 10000) ∧ f d + x ≤ 10000 := by
  unfold addE at h
  split at h
  · cases h
  · rename_i h1
    split at h
    · cases h
    · rename_i h2
      refine ⟨?_, ?_, by omega⟩
      · cases e : hasF first d
        · exact absurd (Or.inl e) h1
        · rfl
      · cases e : inR x 0 10000
        · exact absurd (Or.inr e) h1
        · exact inR_iff.1 e
theorem addF_ok {first : Int} {f : Int → Int} (h : LoadOk f) (d x : Int) : LoadOk (addF first f d x) := by
  unfold addF
  split
  · rename_i h0
    obtain ⟨_, h1, h2⟩ := addE_zero h0
    have := h.h d
    exact h.upd (by omega) (by omega)
  · exact h
theorem has_in {first d : Int} (h : hasF first d = true) : first ≤ d ∧ d ≤ first + 4999 ∧ d ≤ 999999 := by
  unfold hasF at h
  rw [inR_iff] at h
  omega
theorem has_of {first d : Int} (h0 : first ≤ d) (h1 : d ≤ first + 4999) (h2 : d ≤ 999999) : hasF first d = true := by
  unfold hasF
  rw [inR_iff]
  omega
/-- what is known of a book and the last day of its loads -/
structure Adds (first : Int) (f : Int → Int) (last : Int) : Prop where
  ok : LoadOk f
  has : hasF first last = true
  out : ∀ d, f d ≠ 0 → first ≤ d ∧ d ≤ last
theorem Adds.start {first : Int} (h1 : first ≤ 999999) : Adds first (fun _ => 0) first :=
  ⟨⟨fun _ => ⟨Int.le_refl _, by omega⟩⟩, has_of (Int.le_refl _) (by omega) h1, fun d h => absurd rfl h⟩
theorem Adds.step {first : Int} {f : Int → Int} {last d x : Int} (h : Adds first f last) (he : addE first f d x = 0) : Adds first (addF first f d x) (max last d) := by
  obtain ⟨h1, h2, h3⟩ := addE_zero he
  obtain ⟨a0, a1, a2⟩ := has_in h1
  obtain ⟨b0, b1, b2⟩ := has_in h.has
  refine ⟨addF_ok h.ok d x, has_of (by omega) (by omega) (by omega), fun j hj => ?_⟩
  unfold addF at hj
  rw [if_pos he] at hj
  unfold updF at hj
  split at hj
  · omega
  · have := h.out j hj
    omega
theorem addF_bad {first : Int} {f : Int → Int} {d x : Int} (h : addE first f d x ≠ 0) : addF first f d x = f := if_neg h
theorem addF_good {first : Int} {f : Int → Int} {d x : Int} (h : addE first f d x = 0) : addF first f d x = updF f d (f d + x) := if_pos h
/-- the guest comes and goes -/
theorem guest {first : Int} {f : Int → Int} (hf : LoadOk f) (h : addE first f first 1 = 0) : takeE first (addF first f first 1) first 1 = 0 ∧ takeF first (addF first f first 1) first 1 = f := by
  obtain ⟨h1, _, _⟩ := addE_zero h
  have hv : updF f first (f first + 1) first = f first + 1 := if_pos rfl
  have h0 := hf.h first
  have he : takeE first (addF first f first 1) first 1 = 0 := by
    rw [addF_good h]
    unfold takeE
    rw [if_neg (by rw [h1]; decide), if_neg (by rw [hv]; omega)]
  refine ⟨he, ?_⟩
  unfold takeF
  rw [if_pos he, addF_good h, hv]
  funext j
  unfold updF
  by_cases e : j = first
  · rw [if_pos e, e]; omega
  · rw [if_neg e, if_neg e]
theorem stAt_congr {f g : Int → Int} {first fit fat : Int} {n : Nat} (h : ∀ i : Nat, i < n → f (first + i) = g (first + i)) {i : Nat} (hi : i < n) : stAt f first fit fat i = stAt g first fit fat i := by
  unfold stAt
  rw [h i hi, Ld.serF_congr (i + 1) (fun j hj => h j (by omega)), Ld.serF_congr (c := 7) (i + 1) (fun j hj => h j (by omega)), Ld.serF_congr (c := 42) i (fun j hj => h j (by omega)), Ld.serF_congr (c := 7) i (fun j hj => h j (by omega))]
theorem betL_get {f : Int → Int} {first fit fat : Int} {n i : Nat} (hi : i < n) : (betL f first fit fat n)[i]? = some (stAt f first fit fat i) := by
  unfold betL
  rw [List.getElem?_map, List.getElem?_range hi]
  rfl
/-- the same loads: the same states -/
theorem betL_alike {f g : Int → Int} {first fit fat : Int} {n : Nat} (h : eqLd (betL f first fit fat n) (betL g first fit fat n) n = true) : betL f first fit fat n = betL g first fit fat n := by
  have hl : ∀ i : Nat, i < n → f (first + i) = g (first + i) := fun i hi => eqLd_all n h i _ _ hi (betL_get hi) (betL_get hi)
  unfold betL
  refine List.map_congr_left fun i hi => stAt_congr hl (List.mem_range.1 hi)
/-- one load more: no state is less -/
theorem stAt_more {f : Int → Int} {first fit fat d x : Int} (h0 : 0 ≤ x) (i : Nat) : (stAt f first fit fat i).fit ≤ (stAt (updF f d (f d + x)) first fit fat i).fit ∧ (stAt f first fit fat i).fat ≤ (stAt (updF f d (f d + x)) first fit fat i).fat := by
  have hle : ∀ j, f j ≤ updF f d (f d + x) j := fun j => by
    unfold updF
    split
    · rename_i e
      rw [e]
      omega
    · exact Int.le_refl _
  exact ⟨Ld.serF_mono (by decide) (i + 1) (fun j _ => hle _), Ld.serF_mono (by decide) (i + 1) (fun j _ => hle _)⟩
end Go.Proofs.YtdfgpfdnjbildaaGreatDoor

/- slices.Backward at days: the iterator's contract. (Turned from the kit's worked text on slices.All.) -/
namespace Go.Proofs.YtdfgpfdnjbildaaGreatDoor
open Go.RowKit Go.BigFrame Go.Shelf
attribute [local go_sem] Oper.semAt_some

def upto {α : Type} (f : Nat → α) (k : Nat) : List α := (List.range k).map f
theorem upto_succ {α : Type} (f : Nat → α) (k : Nat) : upto f (k + 1) = upto f k ++ [f k] := by simp [upto, List.range_succ]
theorem upto_length {α : Type} (f : Nat → α) (k : Nat) : (upto f k).length = k := by simp [upto]
/-- a day and a load -/
def dyC (x : Int × Int) : List Value := [.int .i64 x.1, .int .i64 x.2]
/-- what comes in round j, from behind -/
def backF (zs : List (Int × Int)) (j : Nat) : Int × (Int × Int) := ((zs.length : Int) - 1 - j, zs[zs.length - 1 - j]?.getD (0, 0))
def backV (x : Int × (Int × Int)) : Array Value := #[.int .i64 x.1, .agg #[.int .i64 x.2.1, .int .i64 x.2.2]]
set_option maxRecDepth 100000 in
set_option maxHeartbeats 2000000 in
theorem back1_in (F : Fence) (n : Nat) (h8 : F.fn 19) (hro : F.round = none) (hn : 1 ≤ n) (O : Nat → Prop) (l Bs b off cap : Nat) (zs : List (Int × Int)) (hlen : zs.length ≤ 140737488351232) (hb : ¬ O b) (J Jx : List (Int × (Int × Int)) → World → Prop)
    (hY : ∀ pre x W, J pre W → pre.length < zs.length → YieldAt F (n - 1) Tryz.prog l (backV x) W fun e W' =>
      (e = .returned (.bool true) ∧ J (pre ++ [x]) W' ∧ Kept O W W') ∨ (e = .returned (.bool false) ∧ Jx (pre ++ [x]) W'))
    (W : World) (hBs : ∀ W', Kept O W W' → W'.cell? ⟨Bs, 0, none⟩ = some (.slice (some ⟨b, off, none⟩) zs.length cap)) (hc : Rw dyC 2 W (some ⟨b, off, none⟩) zs) (h0 : J [] W) :
    CallsIn F n Tryz.prog 19 #[.func (.yield l) #[] #[], .pointer (some ⟨Bs, 0, none⟩)] W fun e W' => (∃ v, e = .returned v) ∧
      ((∃ ys, ys = upto (backF zs) zs.length ∧ J ys W') ∨ (∃ pre, (∃ k, k ≤ zs.length ∧ pre = upto (backF zs) k) ∧ Jx pre W')) := by
  refine callsIn_of_wp Tryz.func19 rfl h8 ?_ hro
  simp only [Tryz.ntmps19, List.size_toArray, List.length_cons, List.length_nil, Nat.reduceAdd, Nat.reduceSub, Array.replicate_succ, Array.replicate_zero, List.push_toArray, List.append_toArray, List.nil_append, List.cons_append]
  have hB0 := hBs W (Kept.refl _ _)
  obtain ⟨m, hm⟩ : ∃ m, zs.length = m := ⟨_, rfl⟩
  have HFL := Lib.hid (fun j : Nat => show backF zs j = ((m : Int) - 1 - j, zs[m - 1 - j]?.getD (0, 0)) from by unfold backF; rw [hm])
  have HCL := Lib.hid (fun (j : Nat) (hj : j < m) => show W.cell? ⟨b, off + j * 2, none⟩ = some (.int .i64 (zs[j]?.getD (0, 0)).1) ∧ W.cell? ⟨b, off + j * 2 + 1, none⟩ = some (.int .i64 (zs[j]?.getD (0, 0)).2) from by
    have hx : zs[j]? = some (zs[j]'(by omega)) := List.getElem?_eq_getElem (by omega)
    rw [hx]
    exact ⟨hc.on hx 0 _ rfl, hc.on hx 1 _ rfl⟩)
  rw [hm] at hlen hBs hY hB0 ⊢
  have e1 : IntKind.i64.wrap ((m : Int) - 1) = (m : Int) - 1 := wrap_in (by omega) (by omega)
  gi_wp2
  gi_loopw [3] (fun i wr => ∃ (k : Nat) (z : Int), i = .int .i64 z ∧ k ≤ m ∧ z = (m : Int) - 1 - k ∧ J (upto (backF zs) k) wr ∧ Kept O W wr) (fun i _ => (intOf i + 1).toNat)
  case atStart => exact ⟨0, _, rfl, Nat.zero_le _, by omega, h0, Kept.refl _ _⟩
  case round =>
    obtain ⟨k, z, rfl, hk, hz, hJs, hnx⟩ := hrel
    have hBw := hBs wr hnx
    by_cases hlt : k < m
    · obtain ⟨j, hj⟩ : ∃ j : Nat, m - 1 - k = j := ⟨_, rfl⟩
      obtain rfl : z = (j : Int) := by omega
      obtain ⟨c0, c1⟩ := HCL.out j (by omega)
      have hbk : backF zs k = ((j : Int), zs[j]?.getD (0, 0)) := by rw [HFL.out k, hj, ← hz]
      obtain ⟨d, hd⟩ : ∃ d, zs[j]?.getD (0, 0) = d := ⟨_, rfl⟩
      rw [hd] at c0 c1 hbk
      have c0' : wr.cell? ⟨b, off + j * 2, none⟩ = some (.int .i64 d.1) := hnx.cell (p := ⟨b, off + j * 2, none⟩) hb c0
      have c1' : wr.cell? ⟨b, off + j * 2 + 1, none⟩ = some (.int .i64 d.2) := hnx.cell (p := ⟨b, off + j * 2 + 1, none⟩) hb c1
      obtain ⟨fn, tmps, assign, body, hy, hR⟩ := hY _ ((j : Int), d) wr hJs (by rw [upto_length]; exact hlt)
      simp only [backV] at hy
      have hJn : ∀ W', J (upto (backF zs) k ++ [((j : Int), d)]) W' → J (upto (backF zs) (k + 1)) W' := fun W' h => by rw [upto_succ, hbk]; exact h
      have hXn : ∀ W', Jx (upto (backF zs) k ++ [((j : Int), d)]) W' → Jx (upto (backF zs) (k + 1)) W' := fun W' h => by rw [upto_succ, hbk]; exact h
      have t0 : decide ((0 : Int) ≤ (j : Int)) = true := by rw [decide_eq_true_eq]; omega
      have hjm : j < m := by omega
      have hjm' : (j : Int) < (m : Int) := by omega
      have e2 : IntKind.i64.wrap ((j : Int) - 1) = (j : Int) - 1 := wrap_in (by omega) (by omega)
      have HZ := Lib.hid hz
      clear hd c0 c1 hbk hj hz
      gi_wp2
      refine hR.mono ?_
      rintro e W3 (⟨rfl, hJ3, hk3⟩ | ⟨rfl, hJx3⟩)
      · gi_wp2
        go_roundw
        case rel => exact ⟨k + 1, _, rfl, by omega, by have := HZ.out; omega, hJn _ hJ3, hnx.trans hk3⟩
        case measure => simp [intOf]
      · gi_wp2
        refine bodyPost_ret (results_none rfl _ _ _) rfl ?_
        exact ⟨⟨_, rfl⟩, .inr ⟨_, ⟨k + 1, by omega, rfl⟩, hXn _ hJx3⟩⟩
    · obtain rfl : k = m := by omega
      obtain rfl : z = -1 := by omega
      gi_wp2
      go_end0
      exact ⟨⟨_, rfl⟩, .inl ⟨_, rfl, hJs⟩⟩
set_option maxRecDepth 100000 in
set_option maxHeartbeats 1000000 in
theorem back1_nil_in (F : Fence) (n : Nat) (h8 : F.fn 19) (hro : F.round = none) (l Bs : Nat) (a : Option Addr) (cap : Nat) (J : List (Int × (Int × Int)) → World → Prop) (W : World) (hBs : W.cell? ⟨Bs, 0, none⟩ = some (.slice a 0 cap)) (h0 : J [] W) :
    CallsIn F n Tryz.prog 19 #[.func (.yield l) #[] #[], .pointer (some ⟨Bs, 0, none⟩)] W fun e W' => (∃ v, e = .returned v) ∧ J [] W' := by
  refine callsIn_of_wp Tryz.func19 rfl h8 ?_ hro
  simp only [Tryz.ntmps19, List.size_toArray, List.length_cons, List.length_nil, Nat.reduceAdd, Nat.reduceSub, Array.replicate_succ, Array.replicate_zero, List.push_toArray, List.append_toArray, List.nil_append, List.cons_append]
  gi_wp2
  gi_loopw [3] (fun i wr => i = .int .i64 (-1) ∧ J [] wr) (fun _ _ => 0)
  case atStart => exact ⟨rfl, h0⟩
  case round =>
    obtain ⟨rfl, hJs⟩ := hrel
    gi_wp2
    go_end0
    exact ⟨⟨_, rfl⟩, hJs⟩
set_option maxHeartbeats 1000000 in
theorem back_in (F : Fence) (n : Nat) (h6 : F.fn 7) (hro : F.round = none) (a : Option Addr) (len cap : Nat) (w : World) :
    CallsIn F n Tryz.prog 7 #[.slice a len cap] w fun e w' => e = .returned (.func (.func 19) #[] #[.pointer (some ⟨w.heap.size, 0, none⟩)]) ∧ w' = w.alloc (.cells #[.slice a len cap] 22) := by
  refine callsIn_of_wp Tryz.func7 rfl h6 ?_ hro
  simp only [Tryz.ntmps7, List.size_toArray, List.length_cons, List.length_nil, Nat.reduceAdd, Nat.reduceSub, Array.replicate_succ, Array.replicate_zero, List.push_toArray, List.append_toArray, List.nil_append, List.cons_append]
  gi_wp2
  go_ret
  exact ⟨rfl, rfl⟩
/-- what slices.Backward hands back: all days from behind come, or the first k of them -/
theorem back_stops (F : Fence) (n : Nat) (h8 : F.fn 19) (hro : F.round = none) (hn : 1 ≤ n) (O : Nat → Prop) (Bs : Nat) (a : Option Addr) (cap : Nat) (zs : List (Int × Int)) (hlen : zs.length ≤ 140737488351232) (w : World) (hBs : Bs < w.heap.size) (hO : ¬ O Bs)
    (hc : w.cell? ⟨Bs, 0, none⟩ = some (.slice a zs.length cap)) (hr : Rw dyC 2 w a zs) (ha : ∀ b off, 0 < zs.length → a = some ⟨b, off, none⟩ → ¬ O b) :
    SeqStopsK F n Tryz.prog 19 #[.pointer (some ⟨Bs, 0, none⟩)] backV (Kept O) (fun ys => ys = upto (backF zs) zs.length)
      (fun pre => ∃ k, k ≤ zs.length ∧ pre = upto (backF zs) k) zs.length w := fun l J Jx W hW _ _ hY h0 => by
  have hc' := (hW.cell (p := ⟨Bs, 0, none⟩) hBs).trans hc
  by_cases h : zs.length = 0
  · rw [h] at hc'
    refine (back1_nil_in F n h8 hro l Bs a cap J W hc' h0).mono fun e W' ⟨he, hj⟩ => ⟨he, .inl ⟨_, rfl, ?_⟩⟩
    rw [h]
    exact hj
  · obtain ⟨b, off, rfl, hb, _⟩ := hr.here (by omega)
    exact back1_in F n h8 hro hn O l Bs b off cap zs hlen (ha b off (by omega) rfl) J Jx hY W (fun W' hb' => hb'.cell (p := ⟨Bs, 0, none⟩) hO hc') (hr.below hW) h0
theorem kept_putObj {O : Nat → Prop} (W : World) (l : Nat) (o : Obj) (h : O l) : Kept O W (W.putObj l o) := by
  have g := grownBy_putObj' W l o
  exact Kept.of_grown g (fun b e _ => by injection e with e; exact e ▸ h)
theorem keepsFrom_kept {O : Nat → Prop} {B : Nat} {W W' : World} (h : Kept O W W') (hO : ∀ k, B ≤ k → ¬ O k) : KeepsFrom B W W' :=
  ⟨h.size, fun k _ hB hk _ => (h.block k (Array.getElem?_eq_some_iff.1 hk).1 (hO k hB)).trans hk⟩
end Go.Proofs.YtdfgpfdnjbildaaGreatDoor

/- ask.ReadCond of "run": the reader's words. -/
namespace Go.Proofs.YtdfgpfdnjbildaaGreatDoor
open Go.RowKit Go.BigFrame
open Tr (inR)

def runB : ByteArray := ⟨#[114, 117, 110]⟩
def noW : ByteArray := ⟨#[]⟩
/-- a reader of this text -/
def RdR (w : World) (g : Nat) (at_ nest : Int) : Prop := w.heap[g]? = some (.cells #[.string ⟨#[114, 117, 110]⟩, .int .i64 at_, .int .i64 nest, .int .i64 (-1)] 68 (0, 0))
theorem RdR.cell {w : World} {g : Nat} {a n : Int} (h : RdR w g a n) : w.cell? ⟨g, 0, none⟩ = some (.string ⟨#[114, 117, 110]⟩) ∧ w.cell? ⟨g, 1, none⟩ = some (.int .i64 a) ∧ w.cell? ⟨g, 2, none⟩ = some (.int .i64 n) ∧ w.cell? ⟨g, 3, none⟩ = some (.int .i64 (-1)) := by
  unfold RdR at h
  simp [World.cell?, h]
theorem RdR.free {w : World} {g : Nat} {a n : Int} (h : RdR w g a n) (i : Nat) : w.frozen? ⟨g, i, none⟩ = false := by
  unfold RdR at h
  simp [World.frozen?, h]
theorem RdR.lt {w : World} {g : Nat} {a n : Int} (h : RdR w g a n) : g < w.heap.size := lt_of_block h
theorem RdR.below {w w' : World} {g : Nat} {a n : Int} (h : RdR w g a n) (hb : Below w.heap.size w w') : RdR w' g a n := (hb.block g h.lt).trans h
set_option maxHeartbeats 2000000 in
set_option maxRecDepth 100000 in
theorem skip_told (g : Nat) (at_ nest : Int) (w : World) (h : RdR w g at_ nest) (ha : at_ = 0 ∨ at_ = 3) :
    Calls Tryz.prog 34 #[.pointer (some ⟨g, 0, none⟩)] w fun e w' => e = .returned (.tuple #[]) ∧ Below w.heap.size w w' := by
  obtain ⟨g0, g1, g2, g3⟩ := h.cell
  clear h
  rcases ha with rfl | rfl
  all_goals
    have G0 := Ext.ex g0
    have G1 := Ext.ex g1
    clear g0 g1 g2 g3
    go_enter Tryz.func34, Tryz.ntmps34
    go_wp2_with fail
    go_loopw [2] (fun pv wr => wr = w) (fun _ _ => 0)
    case atStart => rfl
    case round =>
      obtain rfl := hrel
      go_wp2_with fail
      refine wp_region_ext (W := wr) ⟨wr, Below.refl _ _⟩ (by kernel_rfl) (by kernel_rfl) ?_
      repeat go_big_quiet_step (fail)
      refine wpQuiet_nil ?_
      rintro _ ⟨Y, rfl⟩
      go_wp2_with fail
      go_end0
      exact ⟨rfl, Y.2⟩
theorem isLetter_any (b : Int) (w : World) : Calls Tryz.prog 57 #[.int .u8 b] w fun e w' => e = .returned (.bool (decide (97 ≤ b) && decide (b ≤ 122) || decide (65 ≤ b) && decide (b ≤ 90))) ∧ w = w' := by
  cases h1 : decide (97 ≤ b) <;> cases h2 : decide (b ≤ 122) <;> cases h3 : decide (65 ≤ b)
  all_goals
    go_enter Tryz.func57, Tryz.ntmps57
    go_wp2
    go_ret
    exact ⟨ret_bool (by simp), rfl⟩
theorem letter_told (b : Int) (hb : b = 114 ∨ b = 117 ∨ b = 110) (w : World) : Calls Tryz.prog 57 #[.int .u8 b] w fun e w' => e = .returned (.bool true) ∧ w = w' := by
  have h := isLetter_any b w
  rcases hb with rfl | rfl | rfl <;> exact h
set_option maxHeartbeats 4000000 in
set_option maxRecDepth 100000 in
theorem row_told0 (g : Nat) (nest : Int) (w : World) (h : RdR w g 0 nest) :
    Calls Tryz.prog 43 #[.pointer (some ⟨g, 0, none⟩), .func (.func 57) #[] #[]] w fun e w' => e = .returned (.string ⟨#[114, 117, 110]⟩) ∧ Below w.heap.size w w' := by
  obtain ⟨g0, g1, g2, g3⟩ := h.cell
  have G0 := Ext.ex g0
  have G1 := Ext.ex g1
  have D := Lib.hid letter_told
  clear h g2 g3
  go_enter Tryz.func43, Tryz.ntmps43
  go_wp2_with fail
  clear g0 g1
  go_loopw [5] (fun iv wr => ∃ (k : Nat), iv = .int .i64 k ∧ k ≤ 3 ∧ wr = w) (fun iv _ => 3 - (intOf iv).toNat)
  case atStart => exact ⟨0, rfl, by omega, rfl⟩
  case round =>
    obtain ⟨k, rfl, hk, rfl⟩ := hrel
    have g0 := G0 ⟨wr, Below.refl _ _⟩
    have g1 := G1 ⟨wr, Below.refl _ _⟩
    obtain rfl | rfl | rfl | rfl : k = 0 ∨ k = 1 ∨ k = 2 ∨ k = 3 := by omega
    · go_wp2_with fail
      refine (D.out 114 (Or.inl rfl) _).mono ?_
      rintro e _ ⟨rfl, rfl⟩
      go_wp2_with fail
      go_roundw
      case rel => exact ⟨1, rfl, by omega, by first | rfl | trivial⟩
      case measure => simp [intOf]
    · go_wp2_with fail
      refine (D.out 117 (Or.inr (Or.inl rfl)) _).mono ?_
      rintro e _ ⟨rfl, rfl⟩
      go_wp2_with fail
      go_roundw
      case rel => exact ⟨2, rfl, by omega, by first | rfl | trivial⟩
      case measure => simp [intOf]
    · go_wp2_with fail
      refine (D.out 110 (Or.inr (Or.inr rfl)) _).mono ?_
      rintro e _ ⟨rfl, rfl⟩
      go_wp2_with fail
      go_roundw
      case rel => exact ⟨3, rfl, by omega, by first | rfl | trivial⟩
      case measure => simp [intOf]
    · go_wp2_with fail
      refine wp_region_ext (W := wr) ⟨wr, Below.refl _ _⟩ (by kernel_rfl) (by kernel_rfl) ?_
      repeat go_big_quiet_step (fail)
      refine wpQuiet_nil ?_
      rintro _ ⟨Y, rfl⟩
      go_wp2_with fail
      go_ret
      exact ⟨rfl, Y.2⟩
set_option maxHeartbeats 4000000 in
set_option maxRecDepth 100000 in
theorem row_told3 (g : Nat) (nest : Int) (w : World) (h : RdR w g 3 nest) :
    Calls Tryz.prog 43 #[.pointer (some ⟨g, 0, none⟩), .func (.func 57) #[] #[]] w fun e w' => e = .returned (.string ⟨#[]⟩) ∧ Below w.heap.size w w' := by
  obtain ⟨g0, g1, g2, g3⟩ := h.cell
  have G0 := Ext.ex g0
  have G1 := Ext.ex g1
  clear h g2 g3
  go_enter Tryz.func43, Tryz.ntmps43
  go_wp2_with fail
  clear g0 g1
  go_loopw [5] (fun iv wr => iv = .int .i64 3 ∧ wr = w) (fun iv _ => 0)
  case atStart => exact ⟨rfl, rfl⟩
  case round =>
    obtain ⟨rfl, rfl⟩ := hrel
    have g0 := G0 ⟨wr, Below.refl _ _⟩
    have g1 := G1 ⟨wr, Below.refl _ _⟩
    go_wp2_with fail
    refine wp_region_ext (W := wr) ⟨wr, Below.refl _ _⟩ (by kernel_rfl) (by kernel_rfl) ?_
    repeat go_big_quiet_step (fail)
    refine wpQuiet_nil ?_
    rintro _ ⟨Y, rfl⟩
    go_wp2_with fail
    go_ret
    exact ⟨rfl, Y.2⟩
end Go.Proofs.YtdfgpfdnjbildaaGreatDoor

/- ask.ReadCond of "run": word, takes, sign. (printed by wip/l/gen_ldl.py) -/
namespace Go.Proofs.YtdfgpfdnjbildaaGreatDoor
open Go.RowKit Go.BigFrame

theorem prefix_told (p : ByteArray) (hp : Go.Lib.hasPrefix [114, 117, 110] p.data.toList = false) (w : World) : Calls Tryz.prog 53 #[.string ⟨#[114, 117, 110]⟩, .string p] w fun e w' => e = .returned (.bool false) ∧ Below w.heap.size w w' := by
  refine (Tryz.strings_HasPrefix ⟨#[114, 117, 110]⟩ p w).mono ?_
  rintro e w' ⟨rfl, rfl⟩
  exact ⟨ret_bool hp, Below.refl _ _⟩
theorem word_told0 (g : Nat) (nest : Int) (w : World) (h : RdR w g 0 nest) :
    Calls Tryz.prog 39 #[.pointer (some ⟨g, 0, none⟩)] w fun e w' => e = .returned (.string ⟨#[114, 117, 110]⟩) ∧ Below w.heap.size w w' := by
  have D1 := Lib.hid (skip_told g 0 nest w h (by simp))
  have D2 := Lib.hid (fun (W : World) (hb : Below w.heap.size w W) => row_told0 g nest W (h.below hb))
  clear h
  go_enter Tryz.func39, Tryz.ntmps39
  go_wp2_with fail
  refine D1.out.mono ?_
  rintro e w1 ⟨rfl, hb1⟩
  have HB1 := Lib.hid hb1
  clear hb1
  go_wp2_with fail
  refine (D2.out _ HB1.out).mono ?_
  rintro e w2 ⟨rfl, hb2⟩
  have HB2 := Lib.hid (below_step HB1.out hb2)
  clear hb2
  go_wp2_with fail
  go_ret
  exact ⟨rfl, HB2.out⟩
theorem word_told3 (g : Nat) (nest : Int) (w : World) (h : RdR w g 3 nest) :
    Calls Tryz.prog 39 #[.pointer (some ⟨g, 0, none⟩)] w fun e w' => e = .returned (.string ⟨#[]⟩) ∧ Below w.heap.size w w' := by
  have D1 := Lib.hid (skip_told g 3 nest w h (by simp))
  have D2 := Lib.hid (fun (W : World) (hb : Below w.heap.size w W) => row_told3 g nest W (h.below hb))
  clear h
  go_enter Tryz.func39, Tryz.ntmps39
  go_wp2_with fail
  refine D1.out.mono ?_
  rintro e w1 ⟨rfl, hb1⟩
  have HB1 := Lib.hid hb1
  clear hb1
  go_wp2_with fail
  refine (D2.out _ HB1.out).mono ?_
  rintro e w2 ⟨rfl, hb2⟩
  have HB2 := Lib.hid (below_step HB1.out hb2)
  clear hb2
  go_wp2_with fail
  go_ret
  exact ⟨rfl, HB2.out⟩
theorem takes_not (g : Nat) (nest : Int) (w : World) (h : RdR w g 0 nest) :
    Calls Tryz.prog 38 #[.pointer (some ⟨g, 0, none⟩), .string ⟨#[110, 111, 116]⟩] w fun e w' => e = .returned (.bool false) ∧ Below w.heap.size w w' := by
  have D1 := Lib.hid (word_told0 g nest w h)
  obtain ⟨g0, g1, g2, g3⟩ := h.cell
  clear h g0 g1 g2
  go_enter Tryz.func38, Tryz.ntmps38
  go_wp2_with fail
  refine D1.out.mono ?_
  rintro e w1 ⟨rfl, hb1⟩
  have HB1 := Lib.hid hb1
  clear hb1
  go_wp2_with fail
  go_ret
  exact ⟨rfl, HB1.out⟩
theorem takes_any (g : Nat) (nest : Int) (w : World) (h : RdR w g 0 nest) :
    Calls Tryz.prog 38 #[.pointer (some ⟨g, 0, none⟩), .string ⟨#[97, 110, 121]⟩] w fun e w' => e = .returned (.bool false) ∧ Below w.heap.size w w' := by
  have D1 := Lib.hid (word_told0 g nest w h)
  obtain ⟨g0, g1, g2, g3⟩ := h.cell
  clear h g0 g1 g2
  go_enter Tryz.func38, Tryz.ntmps38
  go_wp2_with fail
  refine D1.out.mono ?_
  rintro e w1 ⟨rfl, hb1⟩
  have HB1 := Lib.hid hb1
  clear hb1
  go_wp2_with fail
  go_ret
  exact ⟨rfl, HB1.out⟩
theorem takes_none (g : Nat) (nest : Int) (w : World) (h : RdR w g 0 nest) :
    Calls Tryz.prog 38 #[.pointer (some ⟨g, 0, none⟩), .string ⟨#[110, 111, 110, 101]⟩] w fun e w' => e = .returned (.bool false) ∧ Below w.heap.size w w' := by
  have D1 := Lib.hid (word_told0 g nest w h)
  obtain ⟨g0, g1, g2, g3⟩ := h.cell
  clear h g0 g1 g2
  go_enter Tryz.func38, Tryz.ntmps38
  go_wp2_with fail
  refine D1.out.mono ?_
  rintro e w1 ⟨rfl, hb1⟩
  have HB1 := Lib.hid hb1
  clear hb1
  go_wp2_with fail
  go_ret
  exact ⟨rfl, HB1.out⟩
theorem takes_all (g : Nat) (nest : Int) (w : World) (h : RdR w g 0 nest) :
    Calls Tryz.prog 38 #[.pointer (some ⟨g, 0, none⟩), .string ⟨#[97, 108, 108]⟩] w fun e w' => e = .returned (.bool false) ∧ Below w.heap.size w w' := by
  have D1 := Lib.hid (word_told0 g nest w h)
  obtain ⟨g0, g1, g2, g3⟩ := h.cell
  clear h g0 g1 g2
  go_enter Tryz.func38, Tryz.ntmps38
  go_wp2_with fail
  refine D1.out.mono ?_
  rintro e w1 ⟨rfl, hb1⟩
  have HB1 := Lib.hid hb1
  clear hb1
  go_wp2_with fail
  go_ret
  exact ⟨rfl, HB1.out⟩
theorem takes_name (g : Nat) (nest : Int) (w : World) (h : RdR w g 0 nest) :
    Calls Tryz.prog 38 #[.pointer (some ⟨g, 0, none⟩), .string ⟨#[110, 97, 109, 101]⟩] w fun e w' => e = .returned (.bool false) ∧ Below w.heap.size w w' := by
  have D1 := Lib.hid (word_told0 g nest w h)
  obtain ⟨g0, g1, g2, g3⟩ := h.cell
  clear h g0 g1 g2
  go_enter Tryz.func38, Tryz.ntmps38
  go_wp2_with fail
  refine D1.out.mono ?_
  rintro e w1 ⟨rfl, hb1⟩
  have HB1 := Lib.hid hb1
  clear hb1
  go_wp2_with fail
  go_ret
  exact ⟨rfl, HB1.out⟩
theorem takes_and (g : Nat) (nest : Int) (w : World) (h : RdR w g 3 nest) :
    Calls Tryz.prog 38 #[.pointer (some ⟨g, 0, none⟩), .string ⟨#[97, 110, 100]⟩] w fun e w' => e = .returned (.bool false) ∧ Below w.heap.size w w' := by
  have D1 := Lib.hid (word_told3 g nest w h)
  obtain ⟨g0, g1, g2, g3⟩ := h.cell
  clear h g0 g1 g2
  go_enter Tryz.func38, Tryz.ntmps38
  go_wp2_with fail
  refine D1.out.mono ?_
  rintro e w1 ⟨rfl, hb1⟩
  have HB1 := Lib.hid hb1
  clear hb1
  go_wp2_with fail
  go_ret
  exact ⟨rfl, HB1.out⟩
theorem takes_or (g : Nat) (nest : Int) (w : World) (h : RdR w g 3 nest) :
    Calls Tryz.prog 38 #[.pointer (some ⟨g, 0, none⟩), .string ⟨#[111, 114]⟩] w fun e w' => e = .returned (.bool false) ∧ Below w.heap.size w w' := by
  have D1 := Lib.hid (word_told3 g nest w h)
  obtain ⟨g0, g1, g2, g3⟩ := h.cell
  clear h g0 g1 g2
  go_enter Tryz.func38, Tryz.ntmps38
  go_wp2_with fail
  refine D1.out.mono ?_
  rintro e w1 ⟨rfl, hb1⟩
  have HB1 := Lib.hid hb1
  clear hb1
  go_wp2_with fail
  go_ret
  exact ⟨rfl, HB1.out⟩
set_option maxHeartbeats 2000000 in
set_option maxRecDepth 100000 in
theorem sign_open (g : Nat) (nest : Int) (w : World) (h : RdR w g 0 nest) :
    Calls Tryz.prog 42 #[.pointer (some ⟨g, 0, none⟩), .string ⟨#[40]⟩] w fun e w' => e = .returned (.bool false) ∧ Below w.heap.size w w' := by
  have D1 := Lib.hid (skip_told g 0 nest w h (by simp))
  have HD := fun (Z : World) => prefix_told ⟨#[40]⟩ (by decide) Z
  have HR := Lib.hid h
  clear h
  go_enter Tryz.func42, Tryz.ntmps42
  go_wp2_with fail
  refine D1.out.mono ?_
  rintro e w1 ⟨rfl, hb1⟩
  have HB1 := Lib.hid hb1
  have HR1 := HR.out.below hb1
  obtain ⟨g0, g1, g2, g3⟩ := HR1.cell
  have G0 := Ext.ex g0
  have G1 := Ext.ex g1
  have G3 := Ext.ex g3
  have D2 := Lib.hid (fun (Y : Ext w1) => Y.calls (HD Y.1))
  clear hb1 g0 g1 g2 g3 HR1 HD
  go_wp2_with fail
  refine wp_region_ext (W := w1) ⟨w1, Below.refl _ _⟩ (by kernel_rfl) (by kernel_rfl) ?_
  repeat go_big_quiet_step (exact D2.out _)
  refine wpQuiet_nil ?_
  rintro _ ⟨Y, rfl⟩
  go_wp2_with fail
  go_ret
  exact ⟨rfl, below_step HB1.out Y.2⟩
set_option maxHeartbeats 2000000 in
set_option maxRecDepth 100000 in
theorem sign_hash (g : Nat) (nest : Int) (w : World) (h : RdR w g 0 nest) :
    Calls Tryz.prog 42 #[.pointer (some ⟨g, 0, none⟩), .string ⟨#[35]⟩] w fun e w' => e = .returned (.bool false) ∧ Below w.heap.size w w' := by
  have D1 := Lib.hid (skip_told g 0 nest w h (by simp))
  have HD := fun (Z : World) => prefix_told ⟨#[35]⟩ (by decide) Z
  have HR := Lib.hid h
  clear h
  go_enter Tryz.func42, Tryz.ntmps42
  go_wp2_with fail
  refine D1.out.mono ?_
  rintro e w1 ⟨rfl, hb1⟩
  have HB1 := Lib.hid hb1
  have HR1 := HR.out.below hb1
  obtain ⟨g0, g1, g2, g3⟩ := HR1.cell
  have G0 := Ext.ex g0
  have G1 := Ext.ex g1
  have G3 := Ext.ex g3
  have D2 := Lib.hid (fun (Y : Ext w1) => Y.calls (HD Y.1))
  clear hb1 g0 g1 g2 g3 HR1 HD
  go_wp2_with fail
  refine wp_region_ext (W := w1) ⟨w1, Below.refl _ _⟩ (by kernel_rfl) (by kernel_rfl) ?_
  repeat go_big_quiet_step (exact D2.out _)
  refine wpQuiet_nil ?_
  rintro _ ⟨Y, rfl⟩
  go_wp2_with fail
  go_ret
  exact ⟨rfl, below_step HB1.out Y.2⟩
end Go.Proofs.YtdfgpfdnjbildaaGreatDoor

/- effort.Best of three seconds, as the kernel's tale asks. -/
namespace Go.Proofs.YtdfgpfdnjbildaaGreatDoor
open Go.RowKit Go.BigFrame
open Tr (inR)

theorem ein_any (n lo hi : Int) (w : World) : Calls Tryz.prog 23 #[.int .i64 n, .int .i64 lo, .int .i64 hi] w fun e w' => e = .returned (.bool (inR n lo hi)) ∧ w = w' := by
  cases h : decide (lo ≤ n)
  all_goals
    go_enter Tryz.func23, Tryz.ntmps23
    go_wp2
    go_ret
    exact ⟨ret_bool (by simp [inR, h]), rfl⟩
theorem checkStream_any (l : List Int) (a : Option Addr) (c : Nat) (w : World) (hr : Rw nC 1 w a l) (hl : l.length ≤ 1000000) (hx : ∀ (i : Nat) (x : Int), l[i]? = some x → inR x (-1) 1000000000 = true) :
    Calls Tryz.prog 22 #[.slice a l.length c] w fun e w' => e = .returned (.int .i64 0) ∧ w = w' := by
  have HR := Lib.hid hr
  have HX := Lib.hid (fun (i : Nat) (h : i < l.length) => show ∃ x, l[i]? = some x ∧ inR x (-1) 1000000000 = true from ⟨_, List.getElem?_eq_getElem h, hx i _ (List.getElem?_eq_getElem h)⟩)
  obtain ⟨n, hn⟩ : ∃ n, l.length = n := ⟨_, rfl⟩
  rw [hn] at hl HX ⊢
  have q1 : decide ((1000000 : Int) < (n : Int)) = false := by rw [decide_eq_false_iff_not]; omega
  have q1' : decide (1000000 < n) = false := by rw [decide_eq_false_iff_not]; omega
  clear hr hx hn
  go_enter Tryz.func22, Tryz.ntmps22
  go_wp2_with fail
  go_loopw [10] (fun iv wr => ∃ (k : Nat), iv = .int .i64 k ∧ k ≤ n ∧ wr = w) (fun iv _ => n - (intOf iv).toNat)
  case atStart => exact ⟨0, rfl, by omega, rfl⟩
  case round =>
    obtain ⟨k, rfl, hk, rfl⟩ := hrel
    by_cases hlt : k < n
    · have t2 : decide ((k : Int) < (n : Int)) = true := by rw [decide_eq_true_eq]; omega
      have t2' : decide (k < n) = true := by simpa using hlt
      obtain ⟨x, hx, hin⟩ := HX.out k hlt
      obtain ⟨ba, oa, rfl, hba, hcl⟩ := HR.out.at hx
      have c0 : wr.cell? ⟨ba, oa + k, none⟩ = some (.int .i64 x) := by have := hcl 0 _ rfl; simpa using this
      have D := Lib.hid (fun W => by
        have d := ein_any x (-1) 1000000000 W
        rw [hin] at d
        exact d)
      clear hx hcl hin
      go_wp2_with fail
      refine (D.out _).mono ?_
      rintro e _ ⟨rfl, rfl⟩
      go_wp2_with fail
      go_roundw
      case rel => exact ⟨k + 1, by go_num, by omega, by first | rfl | trivial⟩
      case measure => simp [intOf]; omega
    · have t2 : decide ((k : Int) < (n : Int)) = false := by rw [decide_eq_false_iff_not]; omega
      have t2' : decide (k < n) = false := by simpa using hlt
      go_wp2_with fail
      go_ret
      first | exact ⟨rfl, rfl⟩ | exact ⟨rfl, trivial⟩
/-- a block with the best window so far -/
def BeB (w : World) (T : Nat) (size sum at_ : Int) (found : Bool) : Prop := w.heap[T]? = some (.cells #[.int .i64 size, .int .i64 sum, .int .i64 at_, .bool found] 52 (0, 0))
theorem BeB.cell {w : World} {g : Nat} {a b c : Int} {d : Bool} (h : BeB w g a b c d) : w.cell? ⟨g, 0, none⟩ = some (.int .i64 a) ∧ w.cell? ⟨g, 1, none⟩ = some (.int .i64 b) ∧ w.cell? ⟨g, 2, none⟩ = some (.int .i64 c) ∧ w.cell? ⟨g, 3, none⟩ = some (.bool d) := by
  unfold BeB at h
  simp [World.cell?, h]
theorem BeB.free {w : World} {g : Nat} {a b c : Int} {d : Bool} (h : BeB w g a b c d) (i : Nat) : w.frozen? ⟨g, i, none⟩ = false := by
  unfold BeB at h
  simp [World.frozen?, h]
theorem BeB.lt {w : World} {g : Nat} {a b c : Int} {d : Bool} (h : BeB w g a b c d) : g < w.heap.size := lt_of_block h
theorem BeB.below {w w' : World} {g : Nat} {a b c : Int} {d : Bool} (h : BeB w g a b c d) (hb : Below w.heap.size w w') : BeB w' g a b c d := (hb.block g h.lt).trans h
theorem set_cells' {w : World} {b i : Nat} {cs : Array Value} {T : TypeId} {fz : Nat × Nat} {v : Value} (h : w.heap[b]? = some (.cells cs T fz)) : (w.setCell ⟨b, i, none⟩ v).heap[b]? = some (.cells (cs.setIfInBounds i v) T fz) := by
  simp [World.setCell, Array.getElem?_modify, h]
theorem keep_set' {O : Nat → Prop} {a : World} {b i : Nat} {v : Value} (ho : O b) : Kept O a (a.setCell ⟨b, i, none⟩ v) := by
  refine ⟨rfl, rfl, rfl, Nat.le_of_eq (by simp [World.setCell]), fun k _ hn => Below.heap_setCell a ⟨b, i, none⟩ v k (fun e => hn (e ▸ ho))⟩
theorem BeB.found {w : World} {g : Nat} {a b c : Int} {d : Bool} (h : BeB w g a b c d) (s f : Int) : ∃ W, ((w.setCell ⟨g, 3, none⟩ (.bool true)).setCell ⟨g, 1, none⟩ (.int .i64 s)).setCell ⟨g, 2, none⟩ (.int .i64 f) = W ∧ BeB W g a s f true ∧ Kept (fun x => x = g) w W := by
  refine ⟨_, rfl, ?_, Kept.trans (O := fun x => x = g) (Kept.trans (O := fun x => x = g) (keep_set' rfl) (keep_set' rfl)) (keep_set' rfl)⟩
  have h1 : (w.setCell ⟨g, 3, none⟩ (.bool true)).heap[g]? = _ := set_cells' h
  have h2 := set_cells' (i := 1) (v := .int .i64 s) h1
  exact set_cells' (i := 2) (v := .int .i64 f) h2
theorem found_any (T : Nat) (a b c f s : Int) (d : Bool) (w : World) (h : BeB w T a b c d) (hs : d = false ∨ b < s) :
    Calls Tryz.prog 30 #[.int .i64 f, .int .i64 s, .pointer (some ⟨T, 0, none⟩)] w fun e w' => e = .returned (.tuple #[]) ∧ BeB w' T a s f true ∧ Kept (fun x => x = T) w w' := by
  obtain ⟨g0, g1, g2, g3⟩ := h.cell
  have f1 := h.free 1
  have f2 := h.free 2
  have f3 := h.free 3
  obtain ⟨W, hW, hB, hK⟩ := h.found s f
  have HW := Lib.hid hW
  have HB := Lib.hid hB
  have HK := Lib.hid hK
  clear hW hB hK h
  cases d
  · go_enter Tryz.func30, Tryz.ntmps30
    go_wp2_with fail
    rw [HW.out]
    go_end0
    exact ⟨rfl, HB.out, HK.out⟩
  · have t : decide (b < s) = true := by
      rcases hs with h | h
      · cases h
      · exact decide_eq_true h
    clear hs
    go_enter Tryz.func30, Tryz.ntmps30
    go_wp2_with fail
    rw [HW.out]
    go_end0
    exact ⟨rfl, HB.out, HK.out⟩
def toldR : List Int := [1, 5, 2]
/-- the sum behind k seconds; what was found then -/
def tS : Nat → Int
  | 0 => 0
  | 1 => 1
  | 2 => 6
  | _ => 7
def tB (w : World) (T : Nat) : Nat → Prop
  | 0 => BeB w T 2 0 0 false
  | 1 => BeB w T 2 0 0 false
  | 2 => BeB w T 2 6 0 true
  | _ => BeB w T 2 7 1 true
set_option maxHeartbeats 4000000 in
set_option maxRecDepth 100000 in
theorem windows_told (ba oa c T : Nat) (w : World) (hne : ba ≠ T) (h0 : w.cell? ⟨ba, oa, none⟩ = some (.int .i64 1)) (h1 : w.cell? ⟨ba, oa + 1, none⟩ = some (.int .i64 5)) (h2 : w.cell? ⟨ba, oa + 2, none⟩ = some (.int .i64 2)) (hT : BeB w T 2 0 0 false) :
    Calls Tryz.prog 29 #[.slice (some ⟨ba, oa, none⟩) 3 c, .int .i64 2, .func (.func 30) #[] #[.pointer (some ⟨T, 0, none⟩)]] w fun e w' => e = .returned (.tuple #[]) ∧ BeB w' T 2 7 1 true ∧ Kept (fun x => x = T) w w' := by
  have C0 := ExtO.ex (O := fun b => b = T) hne h0
  have C1 := ExtO.ex (O := fun b => b = T) hne h1
  have C2 := ExtO.ex (O := fun b => b = T) hne h2
  have HT := Lib.hid hT
  clear h0 h1 h2 hT
  go_enter Tryz.func29, Tryz.ntmps29
  go_wp2_with fail
  go_loopw [6, 7, 12] (fun sv uv iv wr => ∃ (k : Nat), iv = .int .i64 k ∧ k ≤ 3 ∧ sv = .int .i64 (tS k) ∧ uv = .int .i64 0 ∧ ∃ X : ExtO (fun b => b = T) w, wr = X.1 ∧ Hid (tB X.1 T k)) (fun _ _ iv _ => 3 - (intOf iv).toNat)
  case atStart => exact ⟨0, rfl, by omega, rfl, rfl, ⟨w, Kept.refl _ _⟩, rfl, HT⟩
  case round =>
    clear HT
    obtain ⟨k, rfl, hk, rfl, rfl, X, rfl, HX⟩ := hrel
    have c0 := C0 X
    have c1 := C1 X
    have c2 := C2 X
    obtain rfl | rfl | rfl | rfl : k = 0 ∨ k = 1 ∨ k = 2 ∨ k = 3 := by omega
    · have HX : Hid (BeB X.1 T 2 0 0 false) := HX
      simp only [tS]
      go_wp2_with fail
      go_roundw
      case rel => exact ⟨1, rfl, by omega, rfl, rfl, X, rfl, HX⟩
      case measure => simp [intOf]
    · have HX : Hid (BeB X.1 T 2 0 0 false) := HX
      have D := Lib.hid (found_any T 2 0 0 0 6 false X.1 HX.out (Or.inl rfl))
      simp only [tS]
      go_wp2_with fail
      refine D.out.mono ?_
      rintro e w2 ⟨rfl, hB, hK⟩
      obtain ⟨Y, rfl⟩ : ∃ Z : ExtO (fun b => b = T) w, w2 = Z.1 := ⟨⟨w2, X.2.trans hK⟩, rfl⟩
      have HY : Hid (tB Y.1 T 2) := Lib.hid hB
      clear hB hK
      go_wp2_with fail
      go_roundw
      case rel => exact ⟨2, rfl, by omega, rfl, rfl, Y, rfl, HY⟩
      case measure => simp [intOf]
    · have HX : Hid (BeB X.1 T 2 6 0 true) := HX
      have D := Lib.hid (found_any T 2 6 0 1 7 true X.1 HX.out (Or.inr (by decide)))
      simp only [tS]
      go_wp2_with fail
      refine D.out.mono ?_
      rintro e w2 ⟨rfl, hB, hK⟩
      obtain ⟨Y, rfl⟩ : ∃ Z : ExtO (fun b => b = T) w, w2 = Z.1 := ⟨⟨w2, X.2.trans hK⟩, rfl⟩
      have HY : Hid (tB Y.1 T 3) := Lib.hid hB
      clear hB hK
      go_wp2_with fail
      go_roundw
      case rel => exact ⟨3, rfl, by omega, rfl, rfl, Y, rfl, HY⟩
      case measure => simp [intOf]
    · have HX : Hid (BeB X.1 T 2 7 1 true) := HX
      go_wp2_with fail
      go_end0
      exact ⟨rfl, HX.out, X.2⟩
theorem alloc_be (w : World) (a : Int) : ∃ W, w.alloc (.cells #[.int .i64 a, .int .i64 0, .int .i64 0, .bool false] 52) = W ∧ Below w.heap.size w W ∧ W.heap.size = w.heap.size + 1 ∧ BeB W w.heap.size a 0 0 false :=
  ⟨_, rfl, below_al _ _, by simp, heap_alloc_new w _⟩
theorem BeB.fill {w : World} {g : Nat} {a b c : Int} {d : Bool} (h : BeB w g a b c d) (a' b' c' : Int) (d' : Bool) : ∃ W, (((w.setCell ⟨g, 0, none⟩ (.int .i64 a')).setCell ⟨g, 1, none⟩ (.int .i64 b')).setCell ⟨g, 2, none⟩ (.int .i64 c')).setCell ⟨g, 3, none⟩ (.bool d') = W ∧ BeB W g a' b' c' d' ∧ Kept (fun x => x = g) w W := by
  refine ⟨_, rfl, ?_, Kept.trans (O := fun x => x = g) (Kept.trans (O := fun x => x = g) (Kept.trans (O := fun x => x = g) (keep_set' rfl) (keep_set' rfl)) (keep_set' rfl)) (keep_set' rfl)⟩
  have h1 := set_cells' (i := 0) (v := .int .i64 a') h
  have h2 := set_cells' (i := 1) (v := .int .i64 b') h1
  have h3 := set_cells' (i := 2) (v := .int .i64 c') h2
  exact set_cells' (i := 3) (v := .bool d') h3
set_option maxHeartbeats 4000000 in
set_option maxRecDepth 100000 in
theorem best_told (ba oa c : Nat) (w : World) (hba : ba < w.heap.size) (h0 : w.cell? ⟨ba, oa, none⟩ = some (.int .i64 1)) (h1 : w.cell? ⟨ba, oa + 1, none⟩ = some (.int .i64 5)) (h2 : w.cell? ⟨ba, oa + 2, none⟩ = some (.int .i64 2)) :
    Calls Tryz.prog 24 #[.slice (some ⟨ba, oa, none⟩) 3 c, .int .i64 2] w fun e w' => e = .returned (.agg #[.int .i64 2, .int .i64 7, .int .i64 1, .bool true]) ∧ Below w.heap.size w w' := by
  have hmf : ∀ fn first cap w, (Instr.makeFunc fn first cap).run Tryz.prog w = .ok (.func fn first cap) w := fun _ _ _ _ => rfl
  obtain ⟨V0, hV0, hb0, hs0, hl0⟩ := alloc_be w 0
  obtain ⟨V1, hV1, hb1, hs1, hl1⟩ := alloc_be V0 2
  rw [hs0] at hl1
  have D := Lib.hid (windows_told ba oa c (w.heap.size + 1) V1 (by omega) (below_cell hb1 (below_cell hb0 h0)) (below_cell hb1 (below_cell hb0 h1)) (below_cell hb1 (below_cell hb0 h2)) hl1)
  have HB := Lib.hid (below_step hb0 hb1)
  have HR := Lib.hid (hl0.below hb1)
  have HI : Hid ((Tryz.prog.info? 52).map (·.size) = some 4) := Lib.hid (by kernel_rfl)
  have HV0 := Lib.hid hV0
  have HV1 := Lib.hid hV1
  have HS := Lib.hid hs0
  clear hV0 hb0 hs0 hl0 hV1 hb1 hs1 hl1 h0 h1 h2
  go_enter Tryz.func24, Tryz.ntmps24
  go_upto_region 1 with (fail)
  rw [HV0.out]
  go_upto_region 2 with (fail)
  rw [HV1.out, HS.out]
  go_wp2_with fail
  refine D.out.mono ?_
  rintro e w2 ⟨rfl, hB, hK⟩
  have hR2 : BeB w2 w.heap.size 0 0 0 false := (hK.block w.heap.size HR.out.lt (fun e => by omega)).trans HR.out
  obtain ⟨g0, g1, g2, g3⟩ := hB.cell
  obtain ⟨r0, r1, r2, r3⟩ := hR2.cell
  have f0 := hR2.free 0
  have f1 := hR2.free 1
  have f2 := hR2.free 2
  have f3 := hR2.free 3
  obtain ⟨W, hW, hWB, hWK⟩ := hR2.fill 2 7 1 true
  obtain ⟨q0, q1, q2, q3⟩ := hWB.cell
  have HBE := Lib.hid (Kept.below (Kept.below HB.out hK HB.out.size (fun k hk e => by omega)) hWK (Nat.le_trans HB.out.size hK.size) (fun k hk e => by omega))
  have HW := Lib.hid hW
  clear hB hK hR2 hW hWB hWK
  go_wp2_with fail
  rw [HW.out]
  exact bodyPost_ret (v := .agg #[.int .i64 2, .int .i64 7, .int .i64 1, .bool true]) (by simp [results, Tryz.results24, go_sem, q0, q1, q2, q3]) rfl ⟨rfl, HBE.out⟩
set_option maxHeartbeats 4000000 in
set_option maxRecDepth 100000 in
theorem Best_told (ba oa c : Nat) (w : World) (hba : ba < w.heap.size) (h0 : w.cell? ⟨ba, oa, none⟩ = some (.int .i64 1)) (h1 : w.cell? ⟨ba, oa + 1, none⟩ = some (.int .i64 5)) (h2 : w.cell? ⟨ba, oa + 2, none⟩ = some (.int .i64 2)) :
    Calls Tryz.prog 16 #[.slice (some ⟨ba, oa, none⟩) 3 c, .int .i64 2] w fun e w' => e = .returned (.tuple #[.agg #[.int .i64 2, .int .i64 7, .int .i64 1, .bool true], .int .i64 0]) ∧ Below w.heap.size w w' := by
  obtain ⟨V0, hV0, hb0, hs0, hl0⟩ := alloc_be w 0
  have k0 := below_cell hb0 h0
  have k1 := below_cell hb0 h1
  have k2 := below_cell hb0 h2
  have hrow : Rw nC 1 V0 (some ⟨ba, oa, none⟩) toldR := ⟨fun _ => ⟨ba, oa, rfl, by omega, fun i x hx j v hv => by
    obtain rfl : j = 0 := by
      have := (List.getElem?_eq_some_iff.1 hv).1
      simp [nC] at this
      exact this
    injection hv with hv
    subst hv
    match i, hx with
    | 0, hx => injection hx with hx; subst hx; simpa using k0
    | 1, hx => injection hx with hx; subst hx; simpa using k1
    | 2, hx => injection hx with hx; subst hx; simpa using k2
    | n + 3, hx => simp [toldR] at hx⟩⟩
  have D1 := Lib.hid (checkStream_any toldR (some ⟨ba, oa, none⟩) c V0 hrow (by decide) (fun i x hx => by
    match i, hx with
    | 0, hx => injection hx with hx; subst hx; rfl
    | 1, hx => injection hx with hx; subst hx; rfl
    | 2, hx => injection hx with hx; subst hx; rfl
    | n + 3, hx => simp [toldR] at hx))
  have D2 := Lib.hid (show ∀ W, Calls Tryz.prog 23 #[.int .i64 2, .int .i64 1, .int .i64 1000000] W fun e w' => e = .returned (.bool true) ∧ W = w' from fun W => ein_any 2 1 1000000 W)
  have D3 := Lib.hid (best_told ba oa c V0 (by omega) k0 k1 k2)
  have HR := Lib.hid hl0
  have HB := Lib.hid hb0
  have HV0 := Lib.hid hV0
  clear hV0 hb0 hs0 hl0 h0 h1 h2 k0 k1 k2 hrow
  go_enter Tryz.func16, Tryz.ntmps16
  go_upto_region 1 with (fail)
  rw [HV0.out]
  go_wp2_with fail
  refine D1.out.mono ?_
  rintro e _ ⟨rfl, rfl⟩
  go_wp2_with fail
  refine (D2.out _).mono ?_
  rintro e _ ⟨rfl, rfl⟩
  go_wp2_with fail
  refine D3.out.mono ?_
  rintro e w2 ⟨rfl, hb2⟩
  have hR2 := HR.out.below hb2
  obtain ⟨r0, r1, r2, r3⟩ := hR2.cell
  have f0 := hR2.free 0
  have f1 := hR2.free 1
  have f2 := hR2.free 2
  have f3 := hR2.free 3
  obtain ⟨W, hW, hWB, hWK⟩ := hR2.fill 2 7 1 true
  obtain ⟨q0, q1, q2, q3⟩ := hWB.cell
  have HBE := Lib.hid (Kept.below (below_step HB.out hb2) hWK (Nat.le_trans HB.out.size hb2.size) (fun k hk e => by omega))
  have HW := Lib.hid hW
  clear hb2 hR2 hW hWB hWK
  go_wp2_with fail
  rw [HW.out]
  exact bodyPost_ret (v := .tuple #[.agg #[.int .i64 2, .int .i64 7, .int .i64 1, .bool true], .int .i64 0]) (by simp [results, Tryz.results16, go_sem, q0, q1, q2, q3]) rfl ⟨rfl, HBE.out⟩
end Go.Proofs.YtdfgpfdnjbildaaGreatDoor

/- ask.ReadCond of "run": the words for sports, choice. -/
namespace Go.Proofs.YtdfgpfdnjbildaaGreatDoor
open Go.RowKit Go.BigFrame

/-- the words for sports, in memory -/
structure SpR (w : World) (q : Nat) : Prop where
  lt : q < w.heap.size
  c0 : w.cell? ⟨q, 0, none⟩ = some (.string ⟨#[]⟩)
  c1 : w.cell? ⟨q, 1, none⟩ = some (.string ⟨#[114, 117, 110]⟩)
theorem SpR.below {w w' : World} {q : Nat} (h : SpR w q) (hb : Below w.heap.size w w') : SpR w' q := ⟨Nat.lt_of_lt_of_le h.lt hb.size, below_cell hb h.c0, below_cell hb h.c1⟩
theorem sports_told (w : World) : Calls Tryz.prog 49 #[] w fun e w' => e = .returned (.slice (some ⟨w.heap.size, 0, none⟩) 6 6) ∧ SpR w' w.heap.size ∧ Below w.heap.size w w' := by
  obtain ⟨V, hV, hb, hs, hl⟩ := alloc_cells w #[.string ⟨#[]⟩, .string ⟨#[114, 117, 110]⟩, .string ⟨#[114, 105, 100, 101]⟩, .string ⟨#[115, 119, 105, 109]⟩, .string ⟨#[119, 97, 108, 107]⟩, .string ⟨#[115, 107, 105]⟩] 9
  have HF := Lib.hid (show SpR V w.heap.size ∧ Below w.heap.size w V from ⟨⟨by omega, hl 0 _ rfl, hl 1 _ rfl⟩, hb⟩)
  have HV := Lib.hid hV
  clear hV hb hs hl
  go_enter Tryz.func49, Tryz.ntmps49
  go_wp2_with fail
  rw [HV.out]
  go_ret
  exact ⟨rfl, HF.out⟩
set_option maxHeartbeats 2000000 in
set_option maxRecDepth 100000 in
theorem index_run (q : Nat) (w : World) (h : SpR w q) : Calls Tryz.prog 60 #[.slice (some ⟨q, 0, none⟩) 6 6, .string ⟨#[114, 117, 110]⟩] w fun e w' => e = .returned (.int .i64 1) ∧ w = w' := by
  have C0 := h.c0
  have C1 := h.c1
  clear h
  go_enter Tryz.func60, Tryz.ntmps60
  go_wp2_with fail
  go_loopw [8] (fun iv wr => ∃ (k : Nat), iv = .int .i64 k ∧ k ≤ 1 ∧ wr = w) (fun iv _ => 1 - (intOf iv).toNat)
  case atStart => exact ⟨0, rfl, by omega, rfl⟩
  case round =>
    obtain ⟨k, rfl, hk, rfl⟩ := hrel
    obtain rfl | rfl : k = 0 ∨ k = 1 := by omega
    · go_wp2_with fail
      go_roundw
      case rel => exact ⟨1, rfl, by omega, by first | rfl | trivial⟩
      case measure => simp [intOf]
    · go_wp2_with fail
      go_ret
      first | exact ⟨rfl, rfl⟩ | exact ⟨rfl, trivial⟩
theorem contains_run (q : Nat) (w : World) (h : SpR w q) : Calls Tryz.prog 48 #[.slice (some ⟨q, 0, none⟩) 6 6, .string ⟨#[114, 117, 110]⟩] w fun e w' => e = .returned (.bool true) ∧ w = w' := by
  have D := Lib.hid (index_run q w h)
  clear h
  go_enter Tryz.func48, Tryz.ntmps48
  go_wp2_with fail
  refine D.out.mono ?_
  rintro e _ ⟨rfl, rfl⟩
  go_wp2_with fail
  go_ret
  exact ⟨rfl, rfl⟩
set_option maxHeartbeats 2000000 in
set_option maxRecDepth 100000 in
theorem choice_run (g q : Nat) (nest : Int) (w : World) (h : RdR w g 0 nest) (hq : SpR w q) : Calls Tryz.prog 50 #[.pointer (some ⟨g, 0, none⟩), .slice (some ⟨q, 0, none⟩) 6 6] w fun e w' => e = .returned (.int .i64 1) ∧ RdR w' g 3 nest ∧ Kept (fun x => x = g) w w' := by
  have D1 := Lib.hid (word_told0 g nest w h)
  have HR := Lib.hid h
  have HQ := Lib.hid hq
  clear h hq
  go_enter Tryz.func50, Tryz.ntmps50
  go_wp2_with fail
  refine D1.out.mono ?_
  rintro e w1 ⟨rfl, hb1⟩
  have hR1 := HR.out.below hb1
  obtain ⟨g0, g1, g2, g3⟩ := hR1.cell
  have f1 := hR1.free 1
  have D2 := Lib.hid (index_run q w1 (HQ.out.below hb1))
  obtain ⟨W, hW⟩ : ∃ W, w1.setCell ⟨g, 1, none⟩ (.int .i64 3) = W := ⟨_, rfl⟩
  have HF := Lib.hid (show RdR W g 3 nest ∧ Kept (fun x => x = g) w W from ⟨by rw [← hW]; exact set_cells' hR1, by rw [← hW]; exact Kept.trans (Kept.of_below hb1) (keep_set' (O := fun x => x = g) rfl)⟩)
  have HW := Lib.hid hW
  clear hb1 hR1 hW
  go_wp2_with fail
  refine D2.out.mono ?_
  rintro e _ ⟨rfl, rfl⟩
  go_wp2_with fail
  rw [HW.out]
  go_ret
  exact ⟨rfl, HF.out⟩
end Go.Proofs.YtdfgpfdnjbildaaGreatDoor

/- ask.ReadCond of "run": one part. -/
namespace Go.Proofs.YtdfgpfdnjbildaaGreatDoor
open Go.RowKit Go.BigFrame

/-- a block with a plain condition -/
def CoB (w : World) (T : Nat) (kind low : Int) : Prop := w.heap[T]? = some (.cells #[.int .i64 kind, .int .i64 0, .int .i64 low, .int .i64 0, .string ⟨#[]⟩, .slice none 0 0] 57 (0, 0))
theorem CoB.cell {w : World} {g : Nat} {a n : Int} (h : CoB w g a n) : w.cell? ⟨g, 0, none⟩ = some (.int .i64 a) ∧ w.cell? ⟨g, 1, none⟩ = some (.int .i64 0) ∧ w.cell? ⟨g, 2, none⟩ = some (.int .i64 n) ∧ w.cell? ⟨g, 3, none⟩ = some (.int .i64 0) ∧ w.cell? ⟨g, 4, none⟩ = some (.string ⟨#[]⟩) ∧ w.cell? ⟨g, 5, none⟩ = some (.slice none 0 0) := by
  unfold CoB at h
  simp [World.cell?, h]
theorem CoB.free {w : World} {g : Nat} {a n : Int} (h : CoB w g a n) (i : Nat) : w.frozen? ⟨g, i, none⟩ = false := by
  unfold CoB at h
  simp [World.frozen?, h]
theorem CoB.lt {w : World} {g : Nat} {a n : Int} (h : CoB w g a n) : g < w.heap.size := lt_of_block h
theorem CoB.below {w w' : World} {g : Nat} {a n : Int} (h : CoB w g a n) (hb : Below w.heap.size w w') : CoB w' g a n := (hb.block g h.lt).trans h
theorem CoB.kept {O : Nat → Prop} {w w' : World} {g : Nat} {a n : Int} (h : CoB w g a n) (hk : Kept O w w') (ho : ¬ O g) : CoB w' g a n := (hk.block g h.lt ho).trans h
theorem alloc_co (w : World) : ∃ W, w.alloc (.cells #[.int .i64 0, .int .i64 0, .int .i64 0, .int .i64 0, .string ⟨#[]⟩, .slice none 0 0] 57) = W ∧ Below w.heap.size w W ∧ W.heap.size = w.heap.size + 1 ∧ CoB W w.heap.size 0 0 :=
  ⟨_, rfl, below_al _ _, by simp, heap_alloc_new w _⟩
theorem CoB.fill {w : World} {g : Nat} {a n : Int} (h : CoB w g a n) (k low : Int) : ∃ W, (((((w.setCell ⟨g, 0, none⟩ (.int .i64 k)).setCell ⟨g, 1, none⟩ (.int .i64 0)).setCell ⟨g, 2, none⟩ (.int .i64 low)).setCell ⟨g, 3, none⟩ (.int .i64 0)).setCell ⟨g, 4, none⟩ (.string ⟨#[]⟩)).setCell ⟨g, 5, none⟩ (.slice none 0 0) = W ∧ CoB W g k low ∧ Kept (fun x => x = g) w W := by
  refine ⟨_, rfl, ?_, Kept.trans (O := fun x => x = g) (Kept.trans (O := fun x => x = g) (Kept.trans (O := fun x => x = g) (Kept.trans (O := fun x => x = g) (Kept.trans (O := fun x => x = g) (keep_set' rfl) (keep_set' rfl)) (keep_set' rfl)) (keep_set' rfl)) (keep_set' rfl)) (keep_set' rfl)⟩
  have h1 := set_cells' (i := 0) (v := .int .i64 k) h
  have h2 := set_cells' (i := 1) (v := .int .i64 0) h1
  have h3 := set_cells' (i := 2) (v := .int .i64 low) h2
  have h4 := set_cells' (i := 3) (v := .int .i64 0) h3
  have h5 := set_cells' (i := 4) (v := .string ⟨#[]⟩) h4
  exact set_cells' (i := 5) (v := .slice none 0 0) h5
theorem kept_new {O : Nat → Prop} {w a b : World} {T : Nat} (h : Kept O w a) (k : Kept (fun x => x = T) a b) (hT : w.heap.size ≤ T) : Kept O w b :=
  ⟨k.os.trans h.os, k.tape.trans h.tape, k.output.trans h.output, Nat.le_trans h.size k.size, fun i hi ho => (k.block i (Nat.lt_of_lt_of_le hi h.size) (fun e => by omega)).trans (h.block i hi ho)⟩
set_option maxHeartbeats 8000000 in
set_option maxRecDepth 100000 in
theorem one_run (g : Nat) (nest : Int) (w : World) (h : RdR w g 0 nest) :
    Calls Tryz.prog 33 #[.pointer (some ⟨g, 0, none⟩)] w fun e w' => e = .returned (.agg #[.int .i64 4, .int .i64 0, .int .i64 1, .int .i64 0, .string ⟨#[]⟩, .slice none 0 0]) ∧ RdR w' g 3 nest ∧ Kept (fun x => x = g) w w' := by
  have hmf : ∀ fn first cap w, (Instr.makeFunc fn first cap).run Tryz.prog w = .ok (.func fn first cap) w := fun _ _ _ _ => rfl
  have hgl := h.lt
  obtain ⟨V0, hV0, hb0, hs0, hl0⟩ := alloc_cells w #[.pointer (some ⟨g, 0, none⟩)] 66
  obtain ⟨V1, hV1, hb1, hs1, hl1⟩ := alloc_co V0
  rw [hs0] at hl1
  have hR1 := h.below (below_step hb0 hb1)
  have D1 := Lib.hid (word_told0 g nest V1 hR1)
  have HR1 := Lib.hid hR1
  have HT1 := Lib.hid hl1
  have HB1 := Lib.hid (below_step hb0 hb1)
  have K0 := below_cell hb1 (hl0 0 _ rfl)
  have HV0 := Lib.hid hV0
  have HV1 := Lib.hid hV1
  clear hV0 hb0 hs0 hl0 hV1 hb1 hs1 hl1 hR1 h
  go_enter Tryz.func33, Tryz.ntmps33
  go_upto_region 1 with (fail)
  rw [HV0.out, HV1.out]
  go_wp2_with fail
  refine D1.out.mono ?_
  rintro e w1 ⟨rfl, hb⟩
  have HW1 := Lib.hid (below_step HB1.out hb)
  have HR2 := Lib.hid (HR1.out.below hb)
  have HT2 := Lib.hid (HT1.out.below hb)
  have K1 := below_cell hb K0
  obtain ⟨g0, g1, g2, g3⟩ := HR2.out.cell
  obtain ⟨V2, hV2, hb2, hs2, hl2⟩ := alloc_cells w1 #[.int .i64 0] 3
  have hblk : V2.heap[w1.heap.size]? = some (.cells #[.int .i64 0] 3 (0, 0)) := by rw [← hV2]; exact heap_alloc_new w1 _
  have f4 : V2.frozen? ⟨w1.heap.size, 0, none⟩ = false := by simp [World.frozen?, hblk]
  have k4 := hl2 0 _ rfl
  obtain ⟨W2, hW2⟩ : ∃ W, V2.setCell ⟨w1.heap.size, 0, none⟩ (.int .i64 0) = W := ⟨_, rfl⟩
  have hbw : Below w1.heap.size w1 W2 := Kept.below (O := fun x => x = w1.heap.size) hb2 (by rw [← hW2]; exact keep_set' rfl) (by omega) (fun k hk e => by omega)
  have HB2 := Lib.hid (below_step HW1.out hbw)
  have HR3 := Lib.hid (HR2.out.below hbw)
  have HT3 := Lib.hid (HT2.out.below hbw)
  have K2 := Ext.ex (below_cell hbw K1)
  have HW2 := Lib.hid hW2
  have S1 := Lib.hid (fun (X : Ext W2) => X.calls (sign_open g nest X.1 (HR3.out.below X.2)))
  have S2 := Lib.hid (fun (X : Ext W2) => X.calls (sign_hash g nest X.1 (HR3.out.below X.2)))
  have T1 := Lib.hid (fun (X : Ext W2) => X.calls (takes_not g nest X.1 (HR3.out.below X.2)))
  have T2 := Lib.hid (fun (X : Ext W2) => X.calls (takes_any g nest X.1 (HR3.out.below X.2)))
  have T3 := Lib.hid (fun (X : Ext W2) => X.calls (takes_none g nest X.1 (HR3.out.below X.2)))
  have T4 := Lib.hid (fun (X : Ext W2) => X.calls (takes_all g nest X.1 (HR3.out.below X.2)))
  have T5 := Lib.hid (fun (X : Ext W2) => X.calls (takes_name g nest X.1 (HR3.out.below X.2)))
  clear hb K0 D1 hblk hW2 hbw hb2 hs2 hl2
  go_upto_region 3 with (fail)
  rw [HW2.out]
  clear f4 k4 hV2 g0 g1 g2 g3 K1
  refine ext_wp fun X => ?_
  go_wp2_with fail
  refine (S1.out X).mono ?_
  rintro e _ ⟨rfl, Z1, rfl⟩
  go_wp2_with fail
  refine (S2.out Z1).mono ?_
  rintro e _ ⟨rfl, Z2, rfl⟩
  go_wp2_with fail
  refine (T1.out Z2).mono ?_
  rintro e _ ⟨rfl, Z3, rfl⟩
  go_wp2_with fail
  refine (T2.out Z3).mono ?_
  rintro e _ ⟨rfl, Z4, rfl⟩
  go_wp2_with fail
  refine (T3.out Z4).mono ?_
  rintro e _ ⟨rfl, Z5, rfl⟩
  go_wp2_with fail
  refine (T4.out Z5).mono ?_
  rintro e _ ⟨rfl, Z6, rfl⟩
  go_wp2_with fail
  refine (T5.out Z6).mono ?_
  rintro e _ ⟨rfl, Z7, rfl⟩
  go_wp2_with fail
  refine (sports_told Z7.1).mono ?_
  rintro e w8 ⟨rfl, hq8, hb8⟩
  obtain ⟨q, hq⟩ : ∃ q, Z7.1.heap.size = q := ⟨_, rfl⟩
  rw [hq] at hq8 ⊢
  obtain ⟨Z8, rfl⟩ : ∃ Z : Ext W2, w8 = Z.1 := ⟨⟨w8, below_step Z7.2 hb8⟩, rfl⟩
  have DC := Lib.hid (contains_run q Z8.1 hq8)
  clear hb8 hq8 hq S1 S2 T1 T2 T3 T4 T5
  go_wp2_with fail
  refine DC.out.mono ?_
  rintro e _ ⟨rfl, rfl⟩
  go_wp2_with fail
  have K3 := ExtO.ex (O := fun b => b = g ∨ b = w.heap.size + 1) (W := W2) (show ¬ (w.heap.size = g ∨ w.heap.size = w.heap.size + 1) by omega) (K2 ⟨W2, Below.refl _ _⟩)
  refine held_start (C := fun w' => ∃ Z : ExtO (fun b => b = g ∨ b = w.heap.size + 1) W2, w' = Z.1) (by kernel_rfl) ?_
  have hdr : Below Z8.1.heap.size Z8.1 ({ Z8.1 with drawn := Z8.1.drawn + 1 } : World) := ⟨rfl, rfl, rfl, Nat.le_refl _, fun _ _ => rfl⟩
  obtain ⟨w9, hw9⟩ : ∃ V, ({ Z8.1 with drawn := Z8.1.drawn + 1 } : World) = V := ⟨_, rfl⟩
  rw [hw9] at hdr ⊢
  have h29 := below_step Z8.2 hdr
  obtain ⟨Z9, rfl⟩ : ∃ Z : ExtO (fun b => b = g ∨ b = w.heap.size + 1) W2, w9 = Z.1 := ⟨⟨w9, Kept.of_below h29⟩, rfl⟩
  refine held_quiet (by kernel_rfl) (fun _ _ d _ _ h => by cases d <;> exact h) ⟨Z9, rfl⟩ [0] 4 _ _ (by kernel_rfl) ?_
  clear hw9 hdr K2
  change wpQuiet _ _ _ _ (_ :: []) _
  repeat go_big_quiet_step (fail)
  refine wpQuiet_nil ?_
  refine held_do (i := 1) _ rfl (by kernel_rfl) rfl (fun K hK => ?_)
  go_simp
  refine (sports_told Z9.1).mono ?_
  rintro e w10 ⟨rfl, hq10, hb10⟩
  have h210 := below_step h29 hb10
  refine hK _ _ ⟨⟨w10, Kept.of_below h210⟩, rfl⟩ ?_
  clear hK K
  try simp only [Act.put, List.setIfInBounds_toArray, List.set_cons_zero, List.set_cons_succ]
  have D3 := Lib.hid (choice_run g Z9.1.heap.size nest w10 (HR3.out.below h210) hq10)
  have HT10 := Lib.hid (HT3.out.below h210)
  have HB10 := Lib.hid (below_step HB2.out h210)
  refine held_do (i := 2) _ rfl (by kernel_rfl) rfl (fun K hK => ?_)
  go_simp
  refine D3.out.mono ?_
  rintro e w11 ⟨rfl, hR11, hK11⟩
  have hk211 : Kept (fun b => b = g ∨ b = w.heap.size + 1) W2 w11 := Kept.trans (Kept.of_below h210) ⟨hK11.os, hK11.tape, hK11.output, hK11.size, fun k hk ho => hK11.block k hk (fun e => ho (Or.inl e))⟩
  have hT11 := HT10.out.kept hK11 (fun e => by omega)
  refine hK _ _ ⟨⟨w11, hk211⟩, rfl⟩ ?_
  clear hK K
  try simp only [Act.put, List.setIfInBounds_toArray, List.set_cons_zero, List.set_cons_succ]
  refine held_quiet (by kernel_rfl) (fun _ _ d _ _ h => by cases d <;> exact h) ⟨⟨w11, hk211⟩, rfl⟩ [3] 1 _ _ (by kernel_rfl) ?_
  change wpQuiet _ _ _ _ (_ :: []) _
  repeat go_big_quiet_step (fail)
  refine wpQuiet_nil ?_
  obtain ⟨r0, r1, r2, r3, r4, r5⟩ := hT11.cell
  have f0 := hT11.free 0
  have f1 := hT11.free 1
  have f2 := hT11.free 2
  have f3 := hT11.free 3
  have f4 := hT11.free 4
  have f5 := hT11.free 5
  obtain ⟨W12, hW12, hC12, hK12⟩ := hT11.fill 4 1
  refine held_do (i := 4) _ rfl (by kernel_rfl) rfl (fun K hK => ?_)
  go_simp
  try rw [hW12]
  refine hK _ _ ⟨⟨W12, hk211.trans ⟨hK12.os, hK12.tape, hK12.output, hK12.size, fun k hk ho => hK12.block k hk (fun e => ho (Or.inr e))⟩⟩, rfl⟩ ?_
  clear hK K
  try simp only [Act.put, List.setIfInBounds_toArray, List.set_cons_zero, List.set_cons_succ]
  have HF := Lib.hid (show RdR W12 g 3 nest ∧ Kept (fun x => x = g) w W12 from ⟨(hK12.block g hR11.lt (fun e => by omega)).trans hR11, kept_new (Kept.trans (Kept.of_below HB10.out) hK11) hK12 (by omega)⟩)
  obtain ⟨q0, q1, q2, q3, q4, q5⟩ := hC12.cell
  clear r0 r1 r2 r3 r4 r5 f0 f1 f2 f3 f4 f5 hW12 hC12 hK12 hT11 hk211 hR11 hK11 h210 h29 hq10 hb10
  refine wpAnyH_done (by kernel_rfl) ?_ _
  go_wp2_with fail
  exact bodyPost_ret (v := .agg #[.int .i64 4, .int .i64 0, .int .i64 1, .int .i64 0, .string ⟨#[]⟩, .slice none 0 0]) (by simp [results, Tryz.results33, go_sem, q0, q1, q2, q3, q4, q5]) rfl ⟨rfl, HF.out⟩
end Go.Proofs.YtdfgpfdnjbildaaGreatDoor
