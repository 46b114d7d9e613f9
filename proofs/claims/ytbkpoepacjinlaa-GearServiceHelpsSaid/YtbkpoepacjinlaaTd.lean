/- Gear: the mounts of each slot, in a map (program). -/
import Derived.Test.YtbkpoepacjinlaaTb
namespace Go.Proofs.Ytbkpoepacjinlaa
open Go.RowKit Go.BigFrame Go.ChangeMaps Go.WideMaps

/-- a slice's header -/
abbrev Hdr := Option (Nat × Nat × Nat)
def hval : Hdr → Value
  | none => .slice none 0 0
  | some (g, n, c) => .slice (some ⟨g, 0, none⟩) n c
def hdat : Hdr → DataW Unit
  | none => .nil
  | some (g, n, c) => .agg [.lit (.int .i64 g), .lit (.int .i64 n), .lit (.int .i64 c)]
def hdrR : Value → Option (DataW Unit × List MemPlace)
  | .slice none 0 0 => some (.nil, [])
  | .slice (some ⟨g, 0, none⟩) n c => some (.agg [.lit (.int .i64 g), .lit (.int .i64 n), .lit (.int .i64 c)], [])
  | _ => none
theorem hdrR_inv : ∀ v x ps, hdrR v = some (hdat x, ps) → v = hval x := by
  intro v x ps h
  unfold hdrR at h
  split at h
  · cases x with
    | none => rfl
    | some y => simp [hdat] at h
  · cases x with
    | none => simp [hdat] at h
    | some y =>
      obtain ⟨a, b, c⟩ := y
      simp only [hdat, Option.some.injEq, Prod.mk.injEq, DataW.agg.injEq, List.cons.injEq, DataW.lit.injEq, Lit.int.injEq] at h
      obtain ⟨⟨⟨_, h1⟩, ⟨_, h2⟩, ⟨_, h3⟩, _⟩, _⟩ := h
      have e1 := Int.ofNat.inj h1
      have e2 := Int.ofNat.inj h2
      have e3 := Int.ofNat.inj h3
      subst e1 e2 e3
      rfl
  · cases h
def mcells (ms : List Pcs.Mnt) : List Value := ms.flatMap mcell
/-- two operations that may come up -/
theorem held_two {P : Program} {Q : Exit → Act → World → Prop} {C : World → Prop} {l : List Oper} {i j fuel : Nat} {listed : Array Bool} {a : Act} {w : World} (oi oj : Oper) (hi : nth l i = some oi) (hj : nth l j = some oj) (hr : Region.ready .any l.toArray listed = [i, j])
    (hwi : Region.wanted oi (yielded l.toArray a.tmps) = true) (hwj : Region.wanted oj (yielded l.toArray a.tmps) = true)
    (h1 : ∀ K : Act → World → Prop, (∀ a' w', C w' → wpAnyH P .any l.toArray Q C fuel (listed.setIfInBounds i true) a' w' → K a' w') → oi.wp P a w K Q)
    (h2 : ∀ K : Act → World → Prop, (∀ a' w', C w' → wpAnyH P .any l.toArray Q C fuel (listed.setIfInBounds j true) a' w' → K a' w') → oj.wp P a w K Q) : wpAnyH P .any l.toArray Q C (fuel + 1) listed a w := by
  rw [nth_eq] at hi hj
  refine wpAnyH_all hr (by simp) fun q hq => ?_
  simp only [List.mem_cons, List.not_mem_nil, or_false] at hq
  rcases hq with rfl | rfl
  · unfold wpOp
    simp only [hi, hwi, if_true]
    exact Or.inl (h1 _ fun a' w' h3 h4 => ⟨h3, h4⟩)
  · unfold wpOp
    simp only [hj, hwj, if_true]
    exact Or.inl (h2 _ fun a' w' h3 h4 => ⟨h3, h4⟩)
theorem wp_lookup_str {α : Type} {P : Program} {k e t : TypeId} {R : Value → Option (DataW Unit × List MemPlace)} {b n : Nat} {dat : α → DataW Unit} {zd : DataW Unit} {f : ByteArray → α} {w : World} {o : Oper} {a : Act} {K : Act → World → Prop} {Q : Exit → Act → World → Prop} (m x : Operand) (hop : o.op = .lookup t m x false)
    (hk : P.underlying k = some .string) (ht : P.underlying t = some (.map k e)) {z : Value} (hz : (zeroValue e).run P w = .ok z w) {zp : List MemPlace} (hzd : R z = some (zd, zp)) (val : α → Value) (hR : ∀ v x ps, R v = some (dat x, ps) → v = val x)
    (hm : a.eval m = .map (some b)) (hown : StrMap w P k R b n dat zd f) {s : ByteArray} (hx : a.eval x = .string s) (hs : s.size ≤ maxLen) (hK : K (a.put o.dst (val (f s))) w) : o.wp P a w K Q := by
  have hrun := hown.look hk ht hz hzd val hR hs
  unfold Oper.wp
  simp [execOp, hop, hm, hx, hrun, Result.andThen]
  exact hK
/-- the mounts of each slot lie in rows of the call's own -/
structure Had (w : World) (base : Nat) (g : Gar) (k : Nat) (hd : ByteArray → Hdr) : Prop where
  row : ∀ s, w.ownsRow base 54 4 (hval (hd s)) (Gar.mountsK g s k).length (mcells (Gar.mountsK g s k))
  nil : ∀ s, Gar.mountsK g s k = [] → hd s = none
theorem Had.kept {w w' : World} {base : Nat} {g : Gar} {k : Nat} {hd : ByteArray → Hdr} (h : Had w base g k hd) {O : Nat → Prop} (hk : Kept O w w') (hO : ∀ b, base ≤ b → ¬ O b) : Had w' base g k hd := by
  refine ⟨fun s => ?_, h.nil⟩
  obtain ⟨h1, h2⟩ := h.row s
  refine ⟨h1, ?_⟩
  rcases h2 with h7 | ⟨q, cap, cur, e1, e2, e3, e4⟩
  · exact Or.inl h7
  · exact Or.inr ⟨q, cap, cur, e1, e2, (hk.block q (lt_of_block e3) (hO q e2)).trans e3, e4⟩
theorem mountsK_mem {g : Gar} {s : ByteArray} {k : Nat} {m : Pcs.Mnt} (h : m ∈ Gar.mountsK g s k) : m.s = s := by
  obtain ⟨i, _, h2, rfl⟩ := Gar.mem_mountsK h
  exact h2
/-- the first cell of a row names its slot -/
theorem Had.first {w : World} {base : Nat} {g : Gar} {k : Nat} {hd : ByteArray → Hdr} (h : Had w base g k hd) {s : ByteArray} {q : Nat} (hq : (hval (hd s)).ownBlock = some q) : w.cell? ⟨q, 0, none⟩ = some (.string s) := by
  cases hl : Gar.mountsK g s k with
  | nil => rw [h.nil s hl] at hq; simp [hval, Value.ownBlock] at hq
  | cons m l =>
    have h1 := (h.row s).cells hq 0 (.string s) (by
      rw [hl]
      have : m.s = s := mountsK_mem (k := k) (g := g) (by rw [hl]; simp)
      simp [mcells, mcell, this])
    rwa [addr_add0] at h1
theorem Had.apart {w : World} {base : Nat} {g : Gar} {k : Nat} {hd : ByteArray → Hdr} (h : Had w base g k hd) {s s' : ByteArray} (hs : s' ≠ s) : (hval (hd s')).ownBlock = none ∨ (hval (hd s')).ownBlock ≠ (hval (hd s)).ownBlock := by
  cases h1 : (hval (hd s')).ownBlock with
  | none => exact Or.inl rfl
  | some q =>
    refine Or.inr fun h2 => hs ?_
    have h3 := h.first h1
    have h4 := h.first h2.symm
    rw [h3] at h4
    injection h4 with h4
    injection h4
/-- one mount more -/
theorem Had.step {w w1 w2 : World} {base B : Nat} {g : Gar} {k : Nat} {hd : ByteArray → Hdr} {y : Hdr} (h : Had w base g k hd) (hB : B < base) (h1 : w.grownBy w1 (hval (hd (g.ms k))).ownBlock)
    (ho : w1.ownsRow base 54 4 (hval y) ((Gar.mountsK g (g.ms k) k).length + 1) (mcells (Gar.mountsK g (g.ms k) k) ++ mcell (g.mnt k))) (h2 : w1.grownBy w2 (some B)) : Had w2 base g (k + 1) (setF hd (g.ms k) y) := by
  have nb : ∀ {v : Value} {n : Nat} {xs : List Value} {w : World}, w.ownsRow base 54 4 v n xs → v.ownBlock = none ∨ v.ownBlock ≠ some B := fun {v n xs w} h => by
    cases hv : v.ownBlock with
    | none => exact Or.inl rfl
    | some q => exact Or.inr fun e => by injection e with e; have := (h.lt q hv).1; omega
  refine ⟨fun s => ?_, fun s hs => ?_⟩
  · by_cases e : g.ms k = s
    · subst e
      rw [Gar.mountsK, if_pos rfl, List.length_append]
      unfold setF
      rw [if_pos rfl]
      unfold mcells
      rw [List.flatMap_append]
      have := ho.kept h2 (nb ho)
      simpa [mcells] using this
    · rw [Gar.mountsK, if_neg e]
      unfold setF
      rw [if_neg (fun e' => e e'.symm)]
      have h3 := (h.row s).kept h1 (h.apart (fun e' => e e'.symm))
      exact h3.kept h2 (nb h3)
  · by_cases e : g.ms k = s
    · rw [Gar.mountsK, if_pos e] at hs
      simp at hs
    · rw [Gar.mountsK, if_neg e] at hs
      unfold setF
      rw [if_neg (fun e' => e e'.symm)]
      exact h.nil s hs
end Go.Proofs.Ytbkpoepacjinlaa
