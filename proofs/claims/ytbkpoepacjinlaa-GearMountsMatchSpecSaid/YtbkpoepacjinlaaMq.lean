/- Maps with strings for keys: an entry first, its value later (the order of 'm[k], .. = ..'); the laws at one operation. -/
import Derived.Test.YtbkpoepacjinlaaMp
import Derived.Test.YtbkpoepacjinlaaKp
import Derived.WideKeyEntry
namespace Go.Proofs.Ytbkpoepacjinlaa
open Go.RowKit Go.ChangeMaps Go.WideMaps Go.WideElems
open Go.Maps (Keyed)

section
variable {α : Type} {P : Program} {k e t : TypeId} {R : Value → Option (DataW Unit × List MemPlace)} {b n : Nat} {dat : α → DataW Unit} {zd : DataW Unit} {f : ByteArray → α}
/-- an entry at this key waits for its value -/
def Pend (P : Program) (k t : TypeId) (R : Value → Option (DataW Unit × List MemPlace)) (b n : Nat) (dat : α → DataW Unit) (zd : DataW Unit) (f : ByteArray → α) (s : ByteArray) (st : Nat) (w : World) : Prop :=
  ∃ es clock, w.heap[b]? = some (.map es clock) ∧ ∀ (w2 : World) (y : α) (u : Value) (ps : List MemPlace), w2.heap[b]? = some (.map es clock) → R u = some (dat y, ps) →
    ∃ w3, (Instr.entryStore t (.map (some b)) (goInt st) u).run P w2 = .ok () w3 ∧ StrMap w3 P k R b (n + 1) dat zd (setF f s y) ∧ w2.grownBy w3 (some b)
theorem Pend.kept {s : ByteArray} {st : Nat} {w w' : World} {O : Nat → Prop} (h : Pend P k t R b n dat zd f s st w) (hk : Kept O w w') (hO : ¬ O b) : Pend P k t R b n dat zd f s st w' := by
  obtain ⟨es, clock, h1, h2⟩ := h
  exact ⟨es, clock, (hk.block b (Array.getElem?_eq_some_iff.1 h1).1 hO).trans h1, h2⟩
theorem StrMap.keptO {w w' : World} {O : Nat → Prop} (h : StrMap w P k R b n dat zd f) (hk : Kept O w w') (hO : ¬ O b) : StrMap w' P k R b n dat zd f := by
  obtain ⟨D, ⟨es, clock, h1, h2⟩, h3⟩ := h.ex
  exact ⟨D, ⟨es, clock, (hk.block b (Array.getElem?_eq_some_iff.1 h1).1 hO).trans h1, h2⟩, h3⟩
theorem StrMap.entry {w : World} (h : StrMap w P k R b n dat zd f) (hk : P.underlying k = some .string) (ht : P.underlying t = some (.map k e)) {z : Value} (hz : ∀ u : World, (zeroValue e).run P u = .ok z u) (hn : n < maxLen) {s : ByteArray} (hs : s.size ≤ maxLen) :
    ∃ (v0 : Value) (st : Nat) (w1 : World), (Instr.mapEntry t (.map (some b)) (.string s)).run P w = .ok (.tuple #[v0, goInt st]) w1 ∧ w.grownBy w1 (some b) ∧ Pend P k t R b n dat zd f s st w1 := by
  obtain ⟨D, hD, hf⟩ := h.ex
  obtain ⟨es, clock, hb, F, hsz, hDe⟩ := hD
  obtain ⟨v0, st, es1, clock1, hrun, _, hst⟩ := WideElems.entry_then_store (string_law hk) ht hz hb F (keyOf_string_mk hk hs)
  refine ⟨v0, st, _, hrun, ⟨rfl, rfl, rfl, by simp [setBlock], fun i _ hi => heap_setBlock_other hb _ (fun e => hi (by rw [e]))⟩, es1, clock1, heap_setBlock_same hb _, fun w2 y u ps hw2 hu => ?_⟩
  obtain ⟨es', clock', hr1, hr2⟩ := hst w2 u hw2
  obtain ⟨w', hr3, hown, _⟩ := World.ownsMap.update ⟨es, clock, hb, F, hsz, hDe⟩ (Maps.string_keyed hk) ht hn (keyOf_string_mk hk hs) hu
  rw [hr2] at hr3
  injection hr3 with _ hr3
  obtain ⟨es2, clock2, g1, g2, g3, g4⟩ := hown
  rw [← hr3, heap_setBlock_same hb] at g1
  injection g1 with g1
  injection g1 with g1 g5
  subst g1
  subst g5
  refine ⟨_, hr1, StrMap.put (w := w) hk hs ⟨es, clock, hb, F, hsz, hDe⟩ hf ⟨es', clock', heap_setBlock_same hw2 _, g2, g3, g4⟩, ⟨rfl, rfl, rfl, by simp [setBlock], fun i _ hi => heap_setBlock_other hw2 _ (fun e => hi (by rw [e]))⟩⟩

theorem wp_mapEntry_str {w : World} {o : Oper} {a : Act} {K : Act → World → Prop} {Q : Exit → Act → World → Prop} (m x : Operand) (hop : o.op = .mapEntry t m x) (hk : P.underlying k = some .string) (ht : P.underlying t = some (.map k e)) {z : Value} (hz : ∀ u : World, (zeroValue e).run P u = .ok z u)
    (hm : a.eval m = .map (some b)) (hown : StrMap w P k R b n dat zd f) (hn : n < maxLen) {s : ByteArray} (hx : a.eval x = .string s) (hs : s.size ≤ maxLen)
    (hK : ∀ v0 st w1, w.grownBy w1 (some b) → Pend P k t R b n dat zd f s st w1 → K (a.put o.dst (.tuple #[v0, goInt st])) w1) : o.wp P a w K Q := by
  obtain ⟨v0, st, w1, hrun, h1, h2⟩ := hown.entry hk ht hz hn hs
  unfold Oper.wp
  simp [execOp, hop, hm, hx, hrun, Result.andThen]
  exact hK _ _ _ h1 h2
theorem wp_entryStore_str {w : World} {o : Oper} {a : Act} {K : Act → World → Prop} {Q : Exit → Act → World → Prop} (m x v : Operand) (hop : o.op = .entryStore t m x v)
    (hm : a.eval m = .map (some b)) {s : ByteArray} {st : Nat} (hx : a.eval x = goInt st) (hp : Pend P k t R b n dat zd f s st w) {u : Value} (hv : a.eval v = u) {y : α} {ps : List MemPlace} (hR : R u = some (dat y, ps))
    (hK : ∀ w1, StrMap w1 P k R b (n + 1) dat zd (setF f s y) → w.grownBy w1 (some b) → K (a.put o.dst undef) w1) : o.wp P a w K Q := by
  obtain ⟨es, clock, h1, h2⟩ := hp
  obtain ⟨w3, hrun, h3, h4⟩ := h2 w y u ps h1 hR
  unfold Oper.wp
  simp [execOp, hop, hm, hx, hv, hrun, Result.andThen]
  exact hK _ h3 h4
theorem wp_update_str {w : World} {o : Oper} {a : Act} {K : Act → World → Prop} {Q : Exit → Act → World → Prop} (m x v : Operand) (hop : o.op = .mapUpdate t m x v) (hk : P.underlying k = some .string) (ht : P.underlying t = some (.map k e))
    (hm : a.eval m = .map (some b)) (hown : StrMap w P k R b n dat zd f) (hn : n < maxLen) {s : ByteArray} (hx : a.eval x = .string s) (hs : s.size ≤ maxLen) {u : Value} (hv : a.eval v = u) {y : α} {ps : List MemPlace} (hR : R u = some (dat y, ps))
    (hK : ∀ w1, StrMap w1 P k R b (n + 1) dat zd (setF f s y) → w.grownBy w1 (some b) → K (a.put o.dst undef) w1) : o.wp P a w K Q := by
  obtain ⟨D, h1, h2⟩ := hown.ex
  obtain ⟨w', hrun, r1, r2⟩ := h1.update (Maps.string_keyed hk) ht hn (keyOf_string_mk hk hs) hR
  unfold Oper.wp
  simp [execOp, hop, hm, hx, hv, hrun, Result.andThen]
  exact hK _ (StrMap.put hk hs h1 h2 r1) r2
/-- a look-up, in a quiet walk -/
theorem StrMap.look {w : World} (h : StrMap w P k R b n dat zd f) (hk : P.underlying k = some .string) (ht : P.underlying t = some (.map k e)) {z : Value} (hz : (zeroValue e).run P w = .ok z w) {zp : List MemPlace} (hzd : R z = some (zd, zp)) (val : α → Value) (hR : ∀ v x ps, R v = some (dat x, ps) → v = val x)
    {s : ByteArray} (hs : s.size ≤ maxLen) : (Instr.lookup t (.map (some b)) (.string s) false).run P w = .ok (val (f s)) w := by
  obtain ⟨D, h1, h2⟩ := h.ex
  obtain ⟨v, ps, hrun, hv⟩ := h1.lookup (Maps.string_keyed hk) ht hz hzd (keyOf_string_mk hk hs)
  rw [h2 s hs] at hv
  obtain rfl := hR _ _ _ hv
  exact hrun
end
end Go.Proofs.Ytbkpoepacjinlaa
