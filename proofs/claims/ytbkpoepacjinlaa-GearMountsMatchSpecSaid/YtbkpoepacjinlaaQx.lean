/- A region that draws its order, whose operations only read, but whose callees may make memory: one walk in the order of the text (the kit's law wp_region_quiet at the class 'all that was there is as it was'). -/
import Derived.Test.YtbkpoepacjinlaaHl
import Derived.Deep.QuietTactic
import Derived.BigQuiet
import Derived.Deep.Cut
namespace Go.Proofs.Ytbkpoepacjinlaa
open Go.RowKit Go.BigFrame

/-- a world in which all that was there is as it was -/
def Ext (W : World) : Type := { w : World // Below W.heap.size W w }
instance (W : World) : Nonempty (Ext W) := ⟨⟨W, Below.refl _ _⟩⟩
theorem Ext.ex {W : World} {p : Addr} {v : Value} (h : W.cell? p = some v) : ∀ X : Ext W, X.1.cell? p = some v := fun X => below_cell X.2 h
theorem Ext.exa {W : World} {p : Addr} {v : Value} (e : ∀ X : Ext W, X.1.cell? p = some v) : ∀ (X : Ext W) (o : Obj), (X.1.alloc o).cell? p = some v := fun X o => below_cell (below_al _ o) (e X)
theorem Ext.calls {P : Program} {W : World} {f : FuncId} {args : Array Value} {v : Value} (X : Ext W) (h : Calls P f args X.1 fun e w' => e = .returned v ∧ Below X.1.heap.size X.1 w') : Calls P f args X.1 fun e w'' => e = .returned v ∧ ∃ Y : Ext W, w'' = Y.1 :=
  h.mono fun _ w'' ⟨he, hb⟩ => ⟨he, ⟨w'', below_step X.2 hb⟩, rfl⟩
theorem Ext.same {P : Program} {W : World} {f : FuncId} {args : Array Value} {v : Value} (X : Ext W) (h : Calls P f args X.1 fun e w' => e = .returned v ∧ X.1 = w') : Calls P f args X.1 fun e w'' => e = .returned v ∧ ∃ Y : Ext W, w'' = Y.1 :=
  h.mono fun _ _ ⟨he, hb⟩ => ⟨he, X, hb.symm⟩
theorem wp_region_ext {P : Program} {id : Nat} {Q : Exit → Act → World → Prop} {a : Act} {W : World} (X : Ext W) {l : List Oper} (hm : P.follows .mixedOrders = true) (hB : Region.lexB .any l.toArray = true)
    (h : wpQuiet P l.toArray (fun w' => ∃ Y : Ext W, w' = Y.1) (fun a' => ∀ w', (∃ Y : Ext W, w' = Y.1) → Q .normal a' w') l a) : (Code.region id l.toArray true).wp P Q a X.1 :=
  wp_region_quiet (C := fun w' => ∃ Y : Ext W, w' = Y.1) hm hB ⟨⟨{ X.1 with drawn := X.1.drawn + 1 }, below_step X.2 ⟨rfl, rfl, rfl, Nat.le_refl _, fun _ _ => rfl⟩⟩, rfl⟩ (by simpa using h)
/-- the world behind an allocation of cells, under one name -/
theorem alloc_cells (w : World) (cs : Array Value) (T : TypeId) : ∃ W, w.alloc (.cells cs T) = W ∧ Below w.heap.size w W ∧ W.heap.size = w.heap.size + 1 ∧ ∀ i v, cs[i]? = some v → W.cell? ⟨w.heap.size, i, none⟩ = some v :=
  ⟨_, rfl, below_al _ _, by simp, fun i v h => by rw [World.cell?_alloc_at _ _ _ _ rfl, h]⟩
/-- go on in an arbitrary later world -/
theorem ext_wp {P : Program} {c : Code} {Q : Exit → Act → World → Prop} {a : Act} {W : World} (h : ∀ X : Ext W, c.wp P Q a X.1) : c.wp P Q a W := h ⟨W, Below.refl _ _⟩
theorem ext_calls {P : Program} {f : FuncId} {args : Array Value} {R : Ending → World → Prop} {W : World} (h : ∀ X : Ext W, Calls P f args X.1 R) : Calls P f args W R := h ⟨W, Below.refl _ _⟩
theorem Ext.down {W : World} (X : Ext W) {B : Nat} {w : World} (h : Below B w W) (hB : B ≤ W.heap.size) : Below B w X.1 := h.trans (X.2.mono hB)
/-- a later base -/
theorem Ext.re {W W' : World} (h : Below W.heap.size W W') {p : Addr} {v : Value} (e : ∀ X : Ext W, X.1.cell? p = some v) : ∀ X : Ext W', X.1.cell? p = some v := fun X => e ⟨X.1, below_step h X.2⟩
end Go.Proofs.Ytbkpoepacjinlaa
