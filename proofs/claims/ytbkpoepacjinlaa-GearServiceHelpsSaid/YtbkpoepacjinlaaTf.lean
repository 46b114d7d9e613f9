/- Gear: all pieces in their order, and the protocol of what is called for each. -/
import Derived.Test.YtbkpoepacjinlaaTe
namespace Go.Proofs.Ytbkpoepacjinlaa
open Go.RowKit Go.BigFrame

/-- a piece that is told: its use, slot, part, seconds, way -/
structure Ev where
  i : Nat
  s : ByteArray
  p : ByteArray
  sec : Int
  way : Int
def pcsOf (g : Gar) (i j : Nat) : List Pcs.Pc := Pcs.pieces (g.uf i) (g.uf i + g.us i) (g.mounts (g.sn j))
def evP (g : Gar) (i j q : Nat) : Ev := ⟨i, g.sn j, (pget (pcsOf g i j) q).1, (pget (pcsOf g i j) q).2, wayG (g.uw i) (g.us i) (secW (pcsOf g i j)) (pcsOf g i j).length q⟩
def evQ (g : Gar) (i j : Nat) : Nat → List Ev
  | 0 => []
  | q + 1 => evQ g i j q ++ [evP g i j q]
def evS (g : Gar) (i : Nat) : Nat → List Ev
  | 0 => []
  | j + 1 => evS g i j ++ (if g.sr j = g.ur i then evQ g i j (pcsOf g i j).length else [])
def evG (g : Gar) : Nat → List Ev
  | 0 => []
  | i + 1 => evG g i ++ evS g i g.ns
def evV (g : Gar) (e : Ev) : Value := .agg #[.string (g.un e.i), .string e.s, .string e.p, .int .i64 e.sec, .int .i64 e.way]

/-- what is kept while pieces are told: 'Inv done S w': the called one has been told 'done'; it may write to the blocks S alone, and to new ones -/
structure Pr (Inv : List Ev → (Nat → Prop) → World → Prop) (done : List Ev) (S0 : Nat → Prop) (V wr : World) : Prop where
  ex : ∃ S : Nat → Prop, Inv done S wr ∧ (∀ b, S b → S0 b ∨ V.heap.size ≤ b) ∧ (∀ b, S b → b < wr.heap.size)
  kept : Kept S0 V wr
theorem Pr.start {Inv : List Ev → (Nat → Prop) → World → Prop} {done : List Ev} {S : Nat → Prop} {V : World} (h : Inv done S V) (hb : ∀ b, S b → b < V.heap.size) : Pr Inv done S V V :=
  ⟨⟨S, h, fun _ hb => Or.inl hb, hb⟩, Kept.refl _ _⟩
theorem Pr.below {Inv : List Ev → (Nat → Prop) → World → Prop} (hkeep : ∀ done S W W', Inv done S W → Below W.heap.size W W' → Inv done S W') {done : List Ev} {S0 : Nat → Prop} {V wr wr' : World} (h : Pr Inv done S0 V wr) (hb : Below wr.heap.size wr wr') : Pr Inv done S0 V wr' := by
  obtain ⟨S, h1, h2, h3⟩ := h.ex
  exact ⟨⟨S, hkeep _ _ _ _ h1 hb, h2, fun b hS => Nat.lt_of_lt_of_le (h3 b hS) hb.size⟩, h.kept.trans (Kept.of_below hb)⟩
/-- a later base: what lies there and may not be written is kept from now on -/
theorem Pr.rebase {Inv : List Ev → (Nat → Prop) → World → Prop} (hkeep : ∀ done S W W', Inv done S W → Below W.heap.size W W' → Inv done S W') {done : List Ev} {S0 : Nat → Prop} {V wr V' : World} (h : Pr Inv done S0 V wr) (hb : Below wr.heap.size wr V') :
    ∃ S : Nat → Prop, Pr Inv done S V' V' ∧ (∀ b, S b → b < wr.heap.size) ∧ (∀ b, b < V.heap.size → ¬ S0 b → ¬ S b) ∧ ∀ done' wr', Pr Inv done' S V' wr' → Pr Inv done' S0 V wr' := by
  obtain ⟨S, h1, h2, h3⟩ := h.ex
  refine ⟨S, Pr.start (hkeep _ _ _ _ h1 hb) (fun b hS => Nat.lt_of_lt_of_le (h3 b hS) hb.size), h3, fun b hb1 hb2 hS => (h2 b hS).elim hb2 (fun h => by omega), fun done' wr' h' => ?_⟩
  obtain ⟨S', g1, g2, g3⟩ := h'.ex
  have hVV' : V.heap.size ≤ V'.heap.size := Nat.le_trans h.kept.size hb.size
  refine ⟨⟨S', g1, fun b hb' => (g2 b hb').elim (h2 b) (fun h => Or.inr (by omega)), g3⟩, ?_⟩
  refine ⟨h'.kept.os.trans (hb.os.trans h.kept.os), h'.kept.tape.trans (hb.tape.trans h.kept.tape), h'.kept.output.trans (hb.output.trans h.kept.output), Nat.le_trans hVV' h'.kept.size, fun k hk ho => ?_⟩
  have hkS : ¬ S k := fun hS => (h2 k hS).elim ho (fun h => by omega)
  exact (h'.kept.block k (by omega) hkS).trans ((hb.block k (Nat.lt_of_lt_of_le hk h.kept.size)).trans (h.kept.block k hk ho))
/-- one piece is told -/
theorem Pr.told {Inv : List Ev → (Nat → Prop) → World → Prop} (hkeep : ∀ done S W W', Inv done S W → Below W.heap.size W W' → Inv done S W') {done : List Ev} {S0 : Nat → Prop} {V wr Wc : World} (h : Pr Inv done S0 V wr) (hb : Below wr.heap.size wr Wc) :
    ∃ S : Nat → Prop, Inv done S Wc ∧ (∀ b, S b → b < Wc.heap.size) ∧ ∀ done' S' W', Inv done' S' W' → (∀ b, S' b → S b ∨ Wc.heap.size ≤ b) → (∀ b, S' b → b < W'.heap.size) → Kept S Wc W' → Pr Inv done' S0 V W' := by
  obtain ⟨S, h1, h2, h3⟩ := h.ex
  have hV : V.heap.size ≤ Wc.heap.size := Nat.le_trans h.kept.size hb.size
  refine ⟨S, hkeep _ _ _ _ h1 hb, fun b hS => Nat.lt_of_lt_of_le (h3 b hS) hb.size, fun done' S' W' g1 g2 g3 gk => ⟨⟨S', g1, fun b hb' => (g2 b hb').elim (h2 b) (fun h => Or.inr (by omega)), g3⟩, ?_⟩⟩
  refine ⟨gk.os.trans (hb.os.trans h.kept.os), gk.tape.trans (hb.tape.trans h.kept.tape), gk.output.trans (hb.output.trans h.kept.output), Nat.le_trans hV gk.size, fun k hk ho => ?_⟩
  have hkS : ¬ S k := fun hS => (h2 k hS).elim ho (fun h => by omega)
  exact (gk.block k (by omega) hkS).trans ((hb.block k (Nat.lt_of_lt_of_le hk h.kept.size)).trans (h.kept.block k hk ho))
theorem flatN {β : Type} {f : β → List Value} {m : Nat} (d : β) (hf : ∀ q, (f q).length = m) : ∀ (l : List β) (k j : Nat), k < l.length → j < m → (l.flatMap f)[k * m + j]? = (f (l.getD k d))[j]?
  | [], k, j, h, _ => by simp at h
  | q :: l, 0, j, _, hj => by
    rw [List.flatMap_cons, Nat.zero_mul, Nat.zero_add, List.getElem?_append_left (by rw [hf]; exact hj)]
    rfl
  | q :: l, k + 1, j, h, hj => by
    rw [List.flatMap_cons, List.getElem?_append_right (by rw [hf, Nat.succ_mul]; omega), hf, show (k + 1) * m + j - m = k * m + j by rw [Nat.succ_mul]; omega]
    exact flatN d hf l k j (by simpa using h) hj
/-- the row of a slot, as a slice that piecesOf may read -/
theorem Had.rowK {w : World} {base : Nat} {g : Gar} {k : Nat} {hd : ByteArray → Hdr} (h : Had w base g k hd) (s : ByteArray) :
    ∃ (am : Option Addr) (cm : Nat), hval (hd s) = .slice am (Gar.mountsK g s k).length cm ∧ RowK w am (Gar.mountsK g s k).length 4 (fun i => mcell (mget (Gar.mountsK g s k) i)) := by
  have hr := h.row s
  rcases hr.2 with ⟨e, hn⟩ | ⟨q, cap, cur, e, _, h3, _⟩
  · exact ⟨none, 0, by rw [e, hn], ⟨fun h => by omega⟩⟩
  · refine ⟨some ⟨q, 0, none⟩, cap, e, ⟨fun hl => ⟨q, 0, rfl, lt_of_block h3, fun i hi j hj => ?_⟩⟩⟩
    have hc := flatN (f := mcell) (m := 4) ⟨⟨#[]⟩, ⟨#[]⟩, 0, 0⟩ (fun q => rfl) (Gar.mountsK g s k) i j hi hj
    have hv : ∃ v, (mcell (mget (Gar.mountsK g s k) i))[j]? = some v := ⟨_, List.getElem?_eq_getElem (by simpa [mcell] using hj)⟩
    obtain ⟨v, hv⟩ := hv
    have h6 := hr.cells (g := q) (by rw [e]; rfl) (i * 4 + j) v (hc.trans hv)
    rw [addr_add0] at h6
    rw [Nat.zero_add, hv]
    exact h6
end Go.Proofs.Ytbkpoepacjinlaa
