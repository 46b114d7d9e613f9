/- Maps with strings for keys that the call itself made: what they hold is said as a function of the key. -/
import Derived.Test.YtbkpoepacjinlaaProg
import Derived.WalkKit
import Derived.Maps.OwnSet
import Derived.Maps.OwnOps
import Derived.StringKeys
namespace Go.Proofs.Ytbkpoepacjinlaa
open Go.RowKit Go.ChangeMaps Go.WideMaps
open Go.Maps (Keyed)

/-- the function, turned at one key -/
def setF {α : Type} (f : ByteArray → α) (s : ByteArray) (y : α) : ByteArray → α := fun s' => if s' = s then y else f s'
/-- block b is a map of at most n entries: at each key s it gives 'val (f s)' -/
structure StrMap {α : Type} (w : World) (P : Program) (k : TypeId) (R : Value → Option (DataW Unit × List MemPlace)) (b n : Nat) (dat : α → DataW Unit) (zd : DataW Unit) (f : ByteArray → α) : Prop where
  ex : ∃ D, w.ownsMap P k R b n D ∧ ∀ s : ByteArray, s.size ≤ maxLen → D.atKey (.string s.data.toList) zd = dat (f s)
section
variable {α : Type} {w : World} {P : Program} {k e t : TypeId} {R : Value → Option (DataW Unit × List MemPlace)} {b n : Nat} {dat : α → DataW Unit} {zd : DataW Unit} {f : ByteArray → α}
theorem str_ne {s s' : ByteArray} (h : s ≠ s') : (Lit.string s.data.toList) ≠ .string s'.data.toList := by
  intro h1
  injection h1 with h1
  apply h
  cases s with | mk a => cases s' with | mk a' =>
  have : a = a' := by
    cases a; cases a'
    simpa using h1
  rw [this]
theorem StrMap.made (w : World) (P : Program) (k : TypeId) (R : Value → Option (DataW Unit × List MemPlace)) {f : ByteArray → α} (hf : ∀ s, dat (f s) = zd) : StrMap (w.alloc (.map #[] 0)) P k R w.heap.size 0 dat zd f :=
  ⟨.map [], World.ownsMap_made _ _ _ _, fun s _ => by rw [hf s]; rfl⟩
theorem StrMap.kept {w' : World} {row : Option Nat} (h : StrMap w P k R b n dat zd f) (hg : w.grownBy w' row) (hne : some b ≠ row) : StrMap w' P k R b n dat zd f := by
  obtain ⟨D, h1, h2⟩ := h.ex
  exact ⟨D, h1.kept hg hne, h2⟩
theorem StrMap.lt (h : StrMap w P k R b n dat zd f) : b < w.heap.size := by
  obtain ⟨D, h1, _⟩ := h.ex
  exact h1.lt
theorem StrMap.mono (h : StrMap w P k R b n dat zd f) {n' : Nat} (hn : n ≤ n') : StrMap w P k R b n' dat zd f := by
  obtain ⟨D, h1, h2⟩ := h.ex
  exact ⟨D, h1.mono hn, h2⟩
theorem StrMap.put {w' : World} {D : DataW Unit} {s : ByteArray} {x : α} (hk : P.underlying k = some .string) (hs : s.size ≤ maxLen) (h : w.ownsMap P k R b n D) (hD : ∀ s : ByteArray, s.size ≤ maxLen → D.atKey (.string s.data.toList) zd = dat (f s))
    (h' : w'.ownsMap P k R b (n + 1) (D.put (.string s.data.toList) (dat x))) : StrMap w' P k R b (n + 1) dat zd (setF f s x) := by
  refine ⟨_, h', fun s' hs' => ?_⟩
  unfold setF
  by_cases e : s' = s
  · subst e
    rw [if_pos rfl]
    exact Maps.atKey_put_same h.isMap ((Maps.string_keyed hk).key (keyOf_string_mk hk hs)) _ _
  · rw [if_neg e, Maps.atKey_put_other (str_ne e)]
    exact hD s' hs'
end
/-- a look-up -/
theorem wpList_lookup_str {α : Type} {P : Program} (w : World) {ops : Array Oper} {rest : List Oper} {o : Oper} {a : Act} {Q : Exit → Act → World → Prop}
    (hg : o.guard = none) (m x : Operand) (t : TypeId) (hop : o.op = Op.lookup t m x false)
    (k e : TypeId) (hk : P.underlying k = some .string) (ht : P.underlying t = some (.map k e)) {z : Value} (hz : (zeroValue e).run P w = .ok z w)
    (R : Value → Option (DataW Unit × List MemPlace)) (val : α → Value) (dat : α → DataW Unit) (zd : DataW Unit) (zp : List MemPlace) (hzd : R z = some (zd, zp)) (hR : ∀ v x ps, R v = some (dat x, ps) → v = val x)
    (b n : Nat) (f : ByteArray → α) (hm : a.eval m = .map (some b)) (hown : StrMap w P k R b n dat zd f) (s : ByteArray) (hx : a.eval x = .string s) (hs : s.size ≤ maxLen)
    (hK : wpList P ops Q rest (a.put o.dst (val (f s))) w) : wpList P ops Q (o :: rest) a w := by
  obtain ⟨D, h1, h2⟩ := hown.ex
  refine wpList_plain hg fun K' hK' => ?_
  obtain ⟨v, ps, hrun, hv⟩ := h1.lookup (Maps.string_keyed hk) ht hz hzd (keyOf_string_mk hk hs)
  rw [h2 s hs] at hv
  obtain rfl := hR _ _ _ hv
  unfold Oper.wp
  simp [execOp, hop, hm, hx, hrun, Result.andThen]
  exact hK' _ _ hK
/-- a store -/
theorem wpList_update_str {α : Type} {P : Program} (w : World) {ops : Array Oper} {rest : List Oper} {o : Oper} {a : Act} {Q : Exit → Act → World → Prop}
    (hg : o.guard = none) (m x v : Operand) (t : TypeId) (hop : o.op = Op.mapUpdate t m x v)
    (k e : TypeId) (hk : P.underlying k = some .string) (ht : P.underlying t = some (.map k e)) (R : Value → Option (DataW Unit × List MemPlace)) (dat : α → DataW Unit) (zd : DataW Unit)
    (b n : Nat) (f : ByteArray → α) (hm : a.eval m = .map (some b)) (hown : StrMap w P k R b n dat zd f) (hn : n < maxLen) (s : ByteArray) (hx : a.eval x = .string s) (hs : s.size ≤ maxLen) (u : Value) (y : α) (hv : a.eval v = u) (ps : List MemPlace) (hR : R u = some (dat y, ps))
    (hK : ∀ w', StrMap w' P k R b (n + 1) dat zd (setF f s y) → w.grownBy w' (some b) → wpList P ops Q rest (a.put o.dst undef) w') :
    wpList P ops Q (o :: rest) a w := by
  obtain ⟨D, h1, h2⟩ := hown.ex
  refine wpList_mapUpdate_own w hg m x v t hop k e (Maps.string_keyed hk) ht R b n D hm h1 hn (.string s) u (.string s.data.toList) hx hv (keyOf_string_mk hk hs) (dat y) ps hR fun w' h' hg' => ?_
  exact hK w' (StrMap.put hk hs h1 h2 h') hg'

/-- maps of bools -/
def boolR : Value → Option (DataW Unit × List MemPlace)
  | .bool x => some (.lit (.bool x), [])
  | _ => none
theorem boolR_inv : ∀ v x ps, boolR v = some (.lit (.bool x), ps) → v = .bool x := by
  intro v x ps h
  cases v <;> simp [boolR] at h
  rw [h.1]
/-- maps of integers -/
def intR : Value → Option (DataW Unit × List MemPlace)
  | .int .i64 x => some (.lit (.int .i64 x), [])
  | _ => none
theorem intR_inv : ∀ v x ps, intR v = some (.lit (.int .i64 x), ps) → v = .int .i64 x := by
  intro v x ps h
  unfold intR at h
  split at h
  · simp at h
    rw [h.1]
  · cases h
end Go.Proofs.Ytbkpoepacjinlaa
