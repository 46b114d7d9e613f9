/- Several texts of this claim in one. -/
import Derived.Test.YthimnjegacdhaaaGreatDoorPt2
import Derived.OrdersHeld
import Derived.Laws.AppendOwn
import Derived.Deep.Onto
import Derived.Lib.OwnKind
import Derived.Deep.AppendLies
/- Worlds in which all that was there is as it was, but for some blocks of the call's own; and drawn regions walked in an order of one's own: quiet operations as soon as they may come up, the others one by one. -/
namespace Go.Proofs.YthimnjegacdhaaaGreatDoor
open Go.RowKit Go.BigFrame

/-- all blocks but those in O are as they were -/
structure Kept (O : Nat → Prop) (w w' : World) : Prop where
  os : w'.os = w.os
  tape : w'.tape = w.tape
  output : w'.output = w.output
  size : w.heap.size ≤ w'.heap.size
  block : ∀ k, k < w.heap.size → ¬ O k → w'.heap[k]? = w.heap[k]?
theorem Kept.refl (O : Nat → Prop) (w : World) : Kept O w w := ⟨rfl, rfl, rfl, Nat.le_refl _, fun _ _ _ => rfl⟩
theorem Kept.trans {O : Nat → Prop} {a b c : World} (h : Kept O a b) (k : Kept O b c) : Kept O a c :=
  ⟨k.os.trans h.os, k.tape.trans h.tape, k.output.trans h.output, Nat.le_trans h.size k.size, fun i hi ho => (k.block i (Nat.lt_of_lt_of_le hi h.size) ho).trans (h.block i hi ho)⟩
theorem Kept.of_below {O : Nat → Prop} {a b : World} (h : Below a.heap.size a b) : Kept O a b := ⟨h.os, h.tape, h.output, h.size, fun k hk _ => h.block k hk⟩
theorem Kept.of_grown {O : Nat → Prop} {a b : World} {row : Option Nat} (h : a.grownBy b row) (hr : ∀ g, row = some g → g < a.heap.size → O g) : Kept O a b :=
  ⟨h.os, h.tape, h.output, h.size, fun k hk ho => h.block k hk (fun e => ho (hr k e.symm hk))⟩
theorem Kept.cell {O : Nat → Prop} {w w' : World} {p : Addr} {v : Value} (h : Kept O w w') (ho : ¬ O p.block) (hc : w.cell? p = some v) : w'.cell? p = some v :=
  (World.cell?_of_block (h.block p.block (World.block_lt_of_cell? w p hc) ho)).trans hc
theorem Kept.grown {O : Nat → Prop} {a b c : World} (h : Kept O a b) {row : Option Nat} (hg : b.grownBy c row) (hr : ∀ g, row = some g → g < a.heap.size → O g) : Kept O a c :=
  ⟨hg.os.trans h.os, hg.tape.trans h.tape, hg.output.trans h.output, Nat.le_trans h.size hg.size, fun k hk ho => (hg.block k (Nat.lt_of_lt_of_le hk h.size) (fun e => ho (hr k e.symm hk))).trans (h.block k hk ho)⟩
/-- below the base of the call, nothing has turned -/
theorem Kept.below {O : Nat → Prop} {B : Nat} {w a b : World} (hb : Below B w a) (h : Kept O a b) (hB : B ≤ a.heap.size) (hO : ∀ k, k < B → ¬ O k) : Below B w b :=
  hb.trans ⟨h.os, h.tape, h.output, h.size, fun k hk => h.block k (Nat.lt_of_lt_of_le hk hB) (hO k hk)⟩
theorem Kept.row {O : Nat → Prop} {w w' : World} {a : Option Addr} {len k : Nat} {V : Nat → List Value} (h : RowK w a len k V) (hk : Kept O w w') (hO : ∀ b off, a = some ⟨b, off, none⟩ → ¬ O b) : RowK w' a len k V := by
  refine ⟨fun hl => ?_⟩
  obtain ⟨b, off, rfl, hlt, hc⟩ := h.here hl
  exact ⟨b, off, rfl, Nat.lt_of_lt_of_le hlt hk.size, fun i hi j hj => (World.cell?_of_block (hk.block b hlt (hO _ _ rfl))).trans (hc i hi j hj)⟩
def ExtO (O : Nat → Prop) (W : World) : Type := { w : World // Kept O W w }
instance (O : Nat → Prop) (W : World) : Nonempty (ExtO O W) := ⟨⟨W, Kept.refl _ _⟩⟩
section
variable {O : Nat → Prop} {W : World}
theorem ExtO.ex {p : Addr} {v : Value} (ho : ¬ O p.block) (h : W.cell? p = some v) : ∀ X : ExtO O W, X.1.cell? p = some v := fun X => X.2.cell ho h
theorem ExtO.exa {p : Addr} {v : Value} (e : ∀ X : ExtO O W, X.1.cell? p = some v) : ∀ (X : ExtO O W) (o : Obj), (X.1.alloc o).cell? p = some v := fun X o => below_cell (below_al _ o) (e X)
theorem ExtO.re {W' : World} (h : Kept O W W') {p : Addr} {v : Value} (e : ∀ X : ExtO O W, X.1.cell? p = some v) : ∀ X : ExtO O W', X.1.cell? p = some v := fun X => e ⟨X.1, h.trans X.2⟩
theorem ExtO.calls {P : Program} {f : FuncId} {args : Array Value} {v : Value} (X : ExtO O W) (h : Calls P f args X.1 fun e w' => e = .returned v ∧ Below X.1.heap.size X.1 w') : Calls P f args X.1 fun e w'' => e = .returned v ∧ ∃ Y : ExtO O W, w'' = Y.1 :=
  h.mono fun _ w' ⟨he, hb⟩ => ⟨he, ⟨w', X.2.trans (Kept.of_below hb)⟩, rfl⟩
theorem ExtO.same {P : Program} {f : FuncId} {args : Array Value} {v : Value} (X : ExtO O W) (h : Calls P f args X.1 fun e w' => e = .returned v ∧ X.1 = w') : Calls P f args X.1 fun e w'' => e = .returned v ∧ ∃ Y : ExtO O W, w'' = Y.1 :=
  h.mono fun _ _ ⟨he, hb⟩ => ⟨he, X, hb.symm⟩
/-- go on in an arbitrary later world -/
theorem extO_wp {P : Program} {c : Code} {Q : Exit → Act → World → Prop} {a : Act} (h : ∀ X : ExtO O W, c.wp P Q a X.1) : c.wp P Q a W := h ⟨W, Kept.refl _ _⟩
theorem extO_calls {P : Program} {f : FuncId} {args : Array Value} {R : Ending → World → Prop} (h : ∀ X : ExtO O W, Calls P f args X.1 R) : Calls P f args W R := h ⟨W, Kept.refl _ _⟩
theorem ExtO.down (X : ExtO O W) {B : Nat} {w : World} (h : Below B w W) (hB : B ≤ W.heap.size) (hO : ∀ k, k < B → ¬ O k) : Below B w X.1 := Kept.below h X.2 hB hO
theorem wp_region_extO {P : Program} {id : Nat} {Q : Exit → Act → World → Prop} {a : Act} (X : ExtO O W) {l : List Oper} (hm : P.follows .mixedOrders = true) (hB : Region.lexB .any l.toArray = true)
    (h : wpQuiet P l.toArray (fun w' => ∃ Y : ExtO O W, w' = Y.1) (fun a' => ∀ w', (∃ Y : ExtO O W, w' = Y.1) → Q .normal a' w') l a) : (Code.region id l.toArray true).wp P Q a X.1 :=
  wp_region_quiet (C := fun w' => ∃ Y : ExtO O W, w' = Y.1) hm hB ⟨⟨{ X.1 with drawn := X.1.drawn + 1 }, X.2.trans ⟨rfl, rfl, rfl, Nat.le_refl _, fun _ _ _ => rfl⟩⟩, rfl⟩ (by simpa using h)
end

/-- operations that yield a value and do nothing else -/
def isCalm : Op → Bool
  | .move _ | .assign _ | .pick .. | .build .. | .load .. | .binOp .. | .unOp .. | .fieldAddr .. | .field .. | .indexAddr .. | .index .. | .lookup .. | .extract .. | .slice .. => true
  | _ => false
theorem run_val {α : Type} {P : Program} {s : Sem α} (f : α → Value) {w w' : World} {n : Next} (h : (do pure (Next.value (f (← s))) : Sem Next).run P w = .ok n w') : ∃ x, n = .value x := by
  rw [Sem.run_bind] at h
  cases hs : s.run P w with
  | ok x w1 => rw [hs] at h; simp at h; exact ⟨f x, h.1.symm⟩
  | halt e w1 => rw [hs] at h; simp at h
theorem calm_value {P : Program} {o : Oper} {ρ : Operand → Value} {w w' : World} {n : Next} (hc : isCalm o.op = true) (h : (execOp ρ o).run P w = .ok n w') : ∃ x, n = .value x := by
  obtain ⟨dst, op, type, pos, after, guard⟩ := o
  cases op <;> first | (simp [isCalm] at hc; done) | (simp only [execOp] at h; first | exact run_val (fun x => x) h | exact run_val (fun b : Bool => if b then _ else _) h | (simp at h; exact ⟨_, h.1.symm⟩))
section
variable {P : Program} {ops : Array Oper} {Q : Exit → Act → World → Prop} {C : World → Prop}
theorem yieldsIf_of_quiet {o : Oper} {a : Act} {v : Value} (hc : isCalm o.op = true) (hw : Region.wanted o (yielded ops a.tmps) = true) (h : ∀ w, C w → o.quietAt P a C w v) : YieldsIf P ops C o v a := by
  refine Or.inl ⟨hw, fun w hC => ?_⟩
  have h1 := h w hC
  unfold Oper.quietAt at h1
  cases hr : (execOp a.eval o).run P w with
  | ok n w' =>
    rw [hr] at h1
    obtain ⟨x, rfl⟩ := calm_value hc hr
    simp only [Oper.quietUpon] at h1
    rw [h1.1, h1.2]
  | halt e w' => rw [hr] at h1; simp [Oper.quietUpon] at h1
/-- may these come up now, one behind the other, and is each apart from all that could come before it? -/
def calmB (ops : Array Oper) : List Nat → Array Bool → Bool
  | [], _ => true
  | i :: is, listed => ((ops[i]?).map fun o => isCalm o.op).getD false && Region.free .any ops listed i && (Region.ready .any ops listed).contains i && calmB ops is (listed.setIfInBounds i true)
def listAll (is : List Nat) (listed : Array Bool) : Array Bool := is.foldl (fun l i => l.setIfInBounds i true) listed
theorem held_calm (hsel : Region.noSelect ops = true) (hQ : ∀ c a d v w, Q (.panic c) (Act.put a d v) w → Q (.panic c) a w) {w : World} (hC : C w) : ∀ (is : List Nat) (fuel : Nat) (listed : Array Bool) (a : Act),
    calmB ops is listed = true → wpQuiet P ops C (fun a' => wpAnyH P .any ops Q C fuel (listAll is listed) a' w) (is.filterMap fun i => ops[i]?) a → wpAnyH P .any ops Q C (fuel + is.length) listed a w
  | [], _, _, _, _, h => h
  | i :: is, fuel, listed, a, hB, h => by
    simp only [calmB, Bool.and_eq_true] at hB
    obtain ⟨⟨⟨h1, h2⟩, h3⟩, h4⟩ := hB
    cases ho : ops[i]? with
    | none => rw [ho] at h1; simp at h1
    | some o =>
      rw [ho] at h1
      simp only [Option.map_some, Option.getD_some] at h1
      rw [List.filterMap_cons, ho] at h
      simp only [wpQuiet] at h
      have e : fuel + (i :: is).length = (fuel + is.length) + 1 := by simp; omega
      rw [e]
      by_cases hw : Region.wanted o (yielded ops a.tmps) = true
      · rw [if_pos hw] at h
        obtain ⟨v, hv, hn⟩ := h
        exact wpAnyH_take ho hsel h2 h3 (fun c a w => hQ c a _ _ w) (yieldsIf_of_quiet h1 hw hv) hC (held_calm hsel hQ hC is fuel _ _ h4 hn)
      · rw [if_neg hw] at h
        exact wpAnyH_take ho hsel h2 h3 (fun c a w => hQ c a _ _ w) (Or.inr ⟨by simpa using hw, rfl⟩) hC (held_calm hsel hQ hC is fuel _ _ h4 h)
/-- the i-th of a list, by looking -/
def nth : List Oper → Nat → Option Oper
  | [], _ => none
  | o :: _, 0 => some o
  | _ :: l, i + 1 => nth l i
theorem nth_eq : ∀ (l : List Oper) (i : Nat), nth l i = l.toArray[i]?
  | [], i => by simp [nth]
  | o :: l, 0 => by simp [nth]
  | o :: l, i + 1 => by
    rw [nth, nth_eq l i]
    simp
theorem held_quiet {l : List Oper} (hsel : Region.noSelect l.toArray = true) (hQ : ∀ c a d v w, Q (.panic c) (Act.put a d v) w → Q (.panic c) a w) {w : World} (hC : C w) (is : List Nat) (fuel : Nat) (listed : Array Bool) (a : Act)
    (hB : calmB l.toArray is listed = true) (h : wpQuiet P l.toArray C (fun a' => wpAnyH P .any l.toArray Q C fuel (listAll is listed) a' w) (is.filterMap (nth l)) a) : wpAnyH P .any l.toArray Q C (fuel + is.length) listed a w :=
  held_calm hsel hQ hC is fuel listed a hB (by rw [show (fun i => l.toArray[i]?) = nth l from funext fun i => (nth_eq l i).symm]; exact h)
/-- one operation that alone may come up -/
theorem held_do {l : List Oper} {i fuel : Nat} {listed : Array Bool} {a : Act} {w : World} (o : Oper) (hi : nth l i = some o) (hr : Region.ready .any l.toArray listed = [i]) (hw : Region.wanted o (yielded l.toArray a.tmps) = true)
    (h : ∀ K : Act → World → Prop, (∀ a' w', C w' → wpAnyH P .any l.toArray Q C fuel (listed.setIfInBounds i true) a' w' → K a' w') → o.wp P a w K Q) : wpAnyH P .any l.toArray Q C (fuel + 1) listed a w := by
  rw [nth_eq] at hi
  refine wpAnyH_all hr (by simp) fun j hj => ?_
  simp only [List.mem_singleton] at hj
  subst hj
  unfold wpOp
  simp only [hi, hw, if_true]
  exact Or.inl (h _ fun a' w' h1 h2 => ⟨h1, h2⟩)
theorem held_start {id : Nat} {a : Act} {w : World} {l : List Oper} (hm : P.follows .mixedOrders = true)
    (h : wpAnyH P .any l.toArray Q C l.length (Array.replicate l.length false) a { w with drawn := w.drawn + 1 }) : (Code.region id l.toArray true).wp P Q a w :=
  wp_region_held hm (by simpa using h)
end
end Go.Proofs.YthimnjegacdhaaaGreatDoor

/- An append to a row of the call's own: where the new row lies (the old block, or a new one). -/
namespace Go.Proofs.YthimnjegacdhaaaGreatDoor
open Go.RowKit

theorem append_where {P : Program} (w : World) (base : Nat) (t ty e : TypeId) (i : TypeInfo) (z : Value) (size bytes : Nat) (ht : P.underlying t = some (.slice e)) (hi : P.info? e = some i) (hz : i.zero = some z)
    (hsize : i.size = size) (hby : i.bytes = bytes) (hsz : 0 < size) (v : Value) (n : Nat) (xs : List Value) (hown : w.ownsRow base e size v n xs)
    (a : Addr) (m c : Nat) (news : List Value) (hl : news.length = m * size) (hnews : ∀ j u, news[j]? = some u → w.cell? (a.add j) = some u) (h1 : ∀ u ∈ news, u.oneCell' = true) (hm : 0 < m)
    (h63 : n + m ≤ maxLen) (hbytes : (n + m) * bytes ≤ 140737488355328) :
    ∃ v' w', (Builtin.append_ #[t, t] ty #[v, .slice (some a) m c]).run P w = .ok v' w' ∧ (v'.ownBlock = v.ownBlock ∨ v'.ownBlock = some w.heap.size) := by
  subst hsize
  subst hby
  have hsmall : n + m ≤ 9223372036854775807 := by simp only [maxLen] at h63; omega
  rcases hown.2 with ⟨rfl, rfl⟩ | ⟨g, cap, cur, rfl, _, hg, hnc, _, hcs, _⟩
  · exact ⟨_, _, run_append_nil w t ty e i z ht hi hz a m c news hl hnews hm (by omega) (by have hb := hbytes; simp only [Nat.zero_add] at hb; omega), Or.inr rfl⟩
  · by_cases hroom : n + m ≤ cap
    · have hfit : n * i.size + news.length ≤ cur.size := by rw [hl, hcs, ← Nat.add_mul]; exact Nat.mul_le_mul_right _ hroom
      exact ⟨_, _, run_append_room w t ty e i ht hi g n cap cur hg a m c news hl hnews h1 hroom hfit, Or.inl rfl⟩
    · have holds : ∀ j u, xs[j]? = some u → w.cell? ((⟨g, 0, none⟩ : Addr).add j) = some u := hown.cells (g := g) rfl
      exact ⟨_, _, run_append_grow w t ty e i z ht hi hz ⟨g, 0, none⟩ n cap xs hown.1 holds a m c news hl hnews (by omega) (by omega) (growslice_fits (by omega) hbytes), Or.inr rfl⟩
theorem wpList_append_where {P : Program} (w : World) {ops : Array Oper} {rest : List Oper} {o : Oper} {a : Act} {Q : Exit → Act → World → Prop} (hgd : o.guard = none) (s x : Operand) (t : TypeId)
    (ho : o.op = .call { callee := .builtin .append, args := #[s, x], argTypes := #[t, t] })
    (base : Nat) (e : TypeId) (i : TypeInfo) (z : Value) (size bytes : Nat) (ht : P.underlying t = some (.slice e)) (hi : P.info? e = some i) (hz : i.zero = some z)
    (hsize : i.size = size) (hby : i.bytes = bytes) (hzs : z.cells.size = size) (hsz : 0 < size)
    (v : Value) (n : Nat) (xs : List Value) (hs : a.eval s = v) (hown : w.ownsRow base e size v n xs)
    (ad : Addr) (m c : Nat) (news : List Value) (hx : a.eval x = .slice (some ad) m c) (hm : 0 < m) (hl : news.length = m * size) (hnews : ∀ j u, news[j]? = some u → w.cell? (ad.add j) = some u) (h1 : ∀ u ∈ news, u.oneCell' = true)
    (h63 : n + m ≤ maxLen) (hbytes : (n + m) * bytes ≤ 140737488355328) (hbase : base ≤ w.heap.size)
    (h : ∀ v' w', w'.ownsRow base e size v' (n + m) (xs ++ news) → w.grownBy w' v.ownBlock → (v'.ownBlock = v.ownBlock ∨ v'.ownBlock = some w.heap.size) → wpList P ops Q rest (a.put o.dst v') w') : wpList P ops Q (o :: rest) a w := by
  refine wpList_plain hgd fun K hK => ?_
  obtain ⟨v', w', hr, h2, h3, _⟩ := run_append_own (P := P) w base t o.type e i z size bytes ht hi hz hsize hby hzs hsz v n xs hown ad m c news hl hnews h1 h63 hbytes hbase
  obtain ⟨v2, w2, hr2, h4⟩ := append_where (P := P) w base t o.type e i z size bytes ht hi hz hsize hby hsz v n xs hown ad m c news hl hnews h1 hm h63 hbytes
  rw [hr] at hr2
  injection hr2 with e1 e2
  subst e1
  unfold Oper.wp execOp
  simp only [ho, resolve, invoke, builtin, Sem.run_bind, Sem.run_pure, Result.andThen_ok, List.map_toArray, List.map_cons, List.map_nil, hs, hx, hr]
  exact hK _ _ (h v' w' h2 h3 h4)
end Go.Proofs.YthimnjegacdhaaaGreatDoor

/- A row of a call's own in a loop that appends to it: what is kept (tools). -/
namespace Go.Proofs.YthimnjegacdhaaaGreatDoor
open Go.RowKit Go.BigFrame

theorem ownsRow_below {W W' : World} {base e k n : Nat} {v : Value} {xs : List Value} (h : W.ownsRow base e k v n xs) (hb : Below W.heap.size W W') : W'.ownsRow base e k v n xs :=
  h.kept (row := none) ⟨hb.os, hb.tape, hb.output, hb.size, fun k hk _ => hb.block k hk⟩ (by cases v.ownBlock <;> simp)
/-- the row v, which began as v0 in the world V: whatever else was there is kept -/
structure OwnR (V wr : World) (base e k : Nat) (v0 v : Value) (n : Nat) (xs : List Value) : Prop where
  own : wr.ownsRow base e k v n xs
  kept : Kept (fun b => v0.ownBlock = some b) V wr
  lies : ∀ b, v.ownBlock = some b → v0.ownBlock = some b ∨ V.heap.size ≤ b
section
variable {V wr wr' : World} {base e k n : Nat} {v0 v : Value} {xs : List Value}
theorem OwnR.start (h : V.ownsRow base e k v n xs) : OwnR V V base e k v v n xs := ⟨h, Kept.refl _ _, fun _ h => Or.inl h⟩
theorem OwnR.below (h : OwnR V wr base e k v0 v n xs) (hb : Below wr.heap.size wr wr') : OwnR V wr' base e k v0 v n xs := ⟨ownsRow_below h.own hb, h.kept.trans (Kept.of_below hb), h.lies⟩
theorem OwnR.back {V' : World} {n' : Nat} {v' : Value} {xs' : List Value} (h : OwnR V wr base e k v0 v n xs) (hb : Below wr.heap.size wr V') (h' : OwnR V' wr' base e k v v' n' xs') : OwnR V wr' base e k v0 v' n' xs' := by
  have hs : V.heap.size ≤ V'.heap.size := Nat.le_trans h.kept.size hb.size
  refine ⟨h'.own, ⟨h'.kept.os.trans (hb.os.trans h.kept.os), h'.kept.tape.trans (hb.tape.trans h.kept.tape), h'.kept.output.trans (hb.output.trans h.kept.output), Nat.le_trans hs h'.kept.size, fun b hb1 ho => ?_⟩, fun b hb' => ?_⟩
  · have hn : ¬ v.ownBlock = some b := fun e => (h.lies b e).elim ho (fun h => by omega)
    exact (h'.kept.block b (by omega) hn).trans ((hb.block b (Nat.lt_of_lt_of_le hb1 h.kept.size)).trans (h.kept.block b hb1 ho))
  · rcases h'.lies b hb' with e | e
    · exact h.lies b e
    · exact Or.inr (by omega)
theorem OwnR.append {W2 w' : World} {v' : Value} {n' : Nat} {xs' : List Value} (h : OwnR V wr base e k v0 v n xs) (hb : Below wr.heap.size wr W2) (ho : w'.ownsRow base e k v' n' xs') (hg : W2.grownBy w' v.ownBlock) (hw : v'.ownBlock = v.ownBlock ∨ v'.ownBlock = some W2.heap.size) :
    OwnR V w' base e k v0 v' n' xs' := by
  refine ⟨ho, (h.kept.trans (Kept.of_below hb)).grown hg (fun q hq hl => (h.lies q hq).elim id (fun h => by omega)), fun b hb' => ?_⟩
  rcases hw with e | e
  · exact h.lies b (by rw [← e]; exact hb')
  · rw [e] at hb'
    injection hb' with hb'
    exact Or.inr (by have := h.kept.size; have := hb.size; omega)
theorem OwnR.down {n0 B : Nat} {xs0 : List Value} (h : OwnR V wr base e k v0 v n xs) {w : World} (hb : Below B w V) (hB : B ≤ V.heap.size) (hBb : B ≤ base) (ho : V.ownsRow base e k v0 n0 xs0) : Below B w wr :=
  Kept.below hb h.kept hB (fun b hb1 e => by have := (ho.lt b e).1; omega)
theorem OwnR.row (h : OwnR V wr base e k v0 v n xs) {a : Option Addr} {len kk : Nat} {R : Nat → List Value} (hr : RowK V a len kk R) (hn : ∀ b off, a = some ⟨b, off, none⟩ → ¬ v0.ownBlock = some b) : RowK wr a len kk R := Kept.row hr h.kept hn
theorem OwnR.cell (h : OwnR V wr base e k v0 v n xs) {p : Addr} {u : Value} (hn : ¬ v0.ownBlock = some p.block) (hc : V.cell? p = some u) : wr.cell? p = some u := h.kept.cell hn hc
end
end Go.Proofs.YthimnjegacdhaaaGreatDoor

/- Tokens: the functions that make them; are digits the beginning of a number (reference). -/
namespace Go.Proofs.YthimnjegacdhaaaGreatDoor
open Go.RowKit Go.BigFrame
open Rd (sB bt itoaB Tok begF)

def tokCells (t : Tok) : List Value := [.int .i64 t.kind, .string t.text, .int .i64 t.low, .int .i64 t.high, .int .i64 t.digits]
def tokV (t : Tok) : Value := .agg #[.int .i64 t.kind, .string t.text, .int .i64 t.low, .int .i64 t.high, .int .i64 t.digits]
theorem rIsDigit_any (c : Nat) (w : World) : Calls Tryz.prog 107 #[.int .u8 c] w fun e w' => e = .returned (.bool (Rd.isD c)) ∧ w = w' := by
  by_cases h : 48 ≤ c
  · have h1 : decide ((48 : Int) ≤ (c : Int)) = true := by rw [decide_eq_true_eq]; omega
    by_cases h2 : c ≤ 57
    · have h3 : decide ((c : Int) ≤ 57) = true := by rw [decide_eq_true_eq]; omega
      go_enter Tryz.func107, Tryz.ntmps107
      go_wp2
      go_ret
      exact ⟨ret_bool (by simp [Rd.isD, h, h2]), rfl⟩
    · have h3 : decide ((c : Int) ≤ 57) = false := by rw [decide_eq_false_iff_not]; omega
      go_enter Tryz.func107, Tryz.ntmps107
      go_wp2
      go_ret
      exact ⟨ret_bool (by simp [Rd.isD, h2]), rfl⟩
  · have h1 : decide ((48 : Int) ≤ (c : Int)) = false := by rw [decide_eq_false_iff_not]; omega
    go_enter Tryz.func107, Tryz.ntmps107
    go_wp2
    go_ret
    exact ⟨ret_bool (by simp [Rd.isD, h]), rfl⟩
theorem num_any (lo hi : Int) (dg : Nat) (w : World) : Calls Tryz.prog 38 #[.int .i64 lo, .int .i64 hi, .int .i64 dg] w fun e w' => e = .returned (tokV (Rd.numT lo hi dg)) ∧ Below w.heap.size w w' := by
  obtain ⟨V, hV, hbV, hsV, hcV⟩ := alloc_cells w #[.int .i64 2, .string ⟨#[]⟩, .int .i64 lo, .int .i64 hi, .int .i64 dg] 57
  have g0 := hcV 0 _ rfl
  have g1 := hcV 1 _ rfl
  have g2 := hcV 2 _ rfl
  have g3 := hcV 3 _ rfl
  have g4 := hcV 4 _ rfl
  have HV := Lib.hid hV
  have HB := Lib.hid hbV
  clear hcV hV hbV hsV
  go_enter Tryz.func38, Tryz.ntmps38
  go_wp2_with fail
  rw [HV.out]
  exact bodyPost_ret (v := .agg #[.int .i64 2, .string ⟨#[]⟩, .int .i64 lo, .int .i64 hi, .int .i64 dg]) (by simp [results, Tryz.results38, go_sem, g0, g1, g2, g3, g4]) rfl ⟨rfl, HB.out⟩
theorem lit_any (tx : ByteArray) (w : World) : Calls Tryz.prog 39 #[.string tx] w fun e w' => e = .returned (tokV (Rd.litT tx)) ∧ Below w.heap.size w w' := by
  obtain ⟨V, hV, hbV, hsV, hcV⟩ := alloc_cells w #[.int .i64 1, .string tx, .int .i64 0, .int .i64 0, .int .i64 0] 57
  have g0 := hcV 0 _ rfl
  have g1 := hcV 1 _ rfl
  have g2 := hcV 2 _ rfl
  have g3 := hcV 3 _ rfl
  have g4 := hcV 4 _ rfl
  have HV := Lib.hid hV
  have HB := Lib.hid hbV
  clear hcV hV hbV hsV
  go_enter Tryz.func39, Tryz.ntmps39
  go_wp2_with fail
  rw [HV.out]
  exact bodyPost_ret (v := .agg #[.int .i64 1, .string tx, .int .i64 0, .int .i64 0, .int .i64 0]) (by simp [results, Tryz.results39, go_sem, g0, g1, g2, g3, g4]) rfl ⟨rfl, HB.out⟩
theorem rpair_any (hi : Int) (w : World) : Calls Tryz.prog 40 #[.int .i64 hi] w fun e w' => e = .returned (tokV (Rd.pairT hi)) ∧ Below w.heap.size w w' := by
  obtain ⟨V, hV, hbV, hsV, hcV⟩ := alloc_cells w #[.int .i64 3, .string ⟨#[]⟩, .int .i64 0, .int .i64 hi, .int .i64 0] 57
  have g0 := hcV 0 _ rfl
  have g1 := hcV 1 _ rfl
  have g2 := hcV 2 _ rfl
  have g3 := hcV 3 _ rfl
  have g4 := hcV 4 _ rfl
  have HV := Lib.hid hV
  have HB := Lib.hid hbV
  clear hcV hV hbV hsV
  go_enter Tryz.func40, Tryz.ntmps40
  go_wp2_with fail
  rw [HV.out]
  exact bodyPost_ret (v := .agg #[.int .i64 3, .string ⟨#[]⟩, .int .i64 0, .int .i64 hi, .int .i64 0]) (by simp [results, Tryz.results40, go_sem, g0, g1, g2, g3, g4]) rfl ⟨rfl, HB.out⟩
theorem form_any (v : Value) (w : World) : Calls Tryz.prog 37 #[v] w fun e w' => e = .returned v ∧ w = w' := by
  go_enter Tryz.func37, Tryz.ntmps37
  go_wp2
  go_ret
  exact ⟨rfl, rfl⟩
set_option maxHeartbeats 4000000 in
set_option maxRecDepth 100000 in
/-- digits that spell n -/
theorem begins_any (t : Tok) (s : ByteArray) (n : Int) (w : World) (hg : Glo w) (h0 : 0 < s.size) (h18 : s.size ≤ 18) (hn : Lib.atoiAll (sB s) = .ok n) (hn0 : 0 ≤ n) (hlow : t.low = 0 ∨ t.low = 1) :
    Calls Tryz.prog 108 #[tokV t, .string s] w fun e w' => e = .returned (.bool (begF t.digits t.low t.high s.size (Rd.byte s 0) n)) ∧ Below w.heap.size w w' := by
  obtain ⟨kd, tx, lo, hi, dg⟩ := t
  unfold tokV
  simp only at hlow ⊢
  obtain ⟨V, hV, hbV, hsV, hcV⟩ := alloc_cells w #[.int .i64 kd, .string tx, .int .i64 lo, .int .i64 hi, .int .i64 dg] 57
  have c2 := Ext.ex (hcV 2 _ rfl)
  have c3 := Ext.ex (hcV 3 _ rfl)
  have c4 := Ext.ex (hcV 4 _ rfl)
  have DA := Lib.hid (fun (X : Ext V) => atoi_every s (by omega) X.1 (hg.below (below_step hbV X.2)))
  have END := Lib.hid (fun (X : Ext V) => below_step hbV X.2)
  have HV := Lib.hid hV
  have HN := Lib.hid hn
  have e0 := Rd.byte_lt h0
  clear hcV hV hg hn hbV
  obtain ⟨bt0, hbt⟩ : ∃ x : Bool, decide (s[0].toNat = 48) = x := ⟨_, rfl⟩
  have hbi : (((s[0].toNat : Nat) : Int) == 48) = bt0 := by
    rw [← hbt]
    by_cases e : s[0].toNat = 48
    · simp [e]
    · simp [e]; omega
  by_cases hA : dg < s.size
  · have t1 : decide ((dg : Int) < (s.size : Int)) = true := by rw [decide_eq_true_eq]; omega
    have t2 : decide (dg < s.size) = true := by simpa using hA
    go_enter Tryz.func108, Tryz.ntmps108
    go_upto_region 1 with fail
    rw [HV.out]
    refine ext_wp fun X => ?_
    have c4' := c4 X
    go_wp2_with fail
    go_ret
    refine ⟨ret_bool ?_, END.out X⟩
    unfold begF
    have : decide (s.size ≤ dg) = false := by rw [decide_eq_false_iff_not]; omega
    rw [this]; rfl
  have t1 : decide ((dg : Int) < (s.size : Int)) = false := by rw [decide_eq_false_iff_not]; omega
  have t2 : decide (dg < s.size) = false := by simpa using hA
  have B1 : decide (s.size ≤ dg) = true := by rw [decide_eq_true_eq]; omega
  have FIRST : Hid (∀ b : Bool, b = (decide (1 < s.size) && bt0) → b = true → Calls Tryz.prog 108 #[.agg #[.int .i64 kd, .string tx, .int .i64 lo, .int .i64 hi, .int .i64 dg], .string s] w fun e w' => e = .returned (.bool (begF dg lo hi s.size (Rd.byte s 0) n)) ∧ Below w.heap.size w w') := Lib.hid (by
    intro b hb hbt'
    rw [hbt', eq_comm, Bool.and_eq_true] at hb
    obtain ⟨u1, u2⟩ := hb
    have u1' : decide ((1 : Int) < (s.size : Int)) = true := by
      rw [decide_eq_true_eq] at u1 ⊢; omega
    rw [u2] at hbi hbt
    go_enter Tryz.func108, Tryz.ntmps108
    go_upto_region 1 with fail
    rw [HV.out]
    refine ext_wp fun X => ?_
    have c4' := c4 X
    go_wp2_with fail
    go_ret
    refine ⟨ret_bool ?_, END.out X⟩
    unfold begF
    rw [u1, e0, hbt, Bool.and_self, Bool.not_true, Bool.and_false]; rfl)
  obtain ⟨bz, hbz⟩ : ∃ x : Bool, x = (decide (1 < s.size) && bt0) := ⟨_, rfl⟩
  cases bz
  case true => exact FIRST.out true hbz rfl
  clear FIRST
  have B2 : (decide (1 < s.size) && decide (Rd.byte s 0 = 48)) = false := by rw [e0, hbt, ← hbz]
  have RES : begF dg lo hi s.size (Rd.byte s 0) n = (decide (n ≤ hi) && decide (lo ≤ n)) := by
    unfold begF
    rw [B1, B2]; rfl
  rw [RES]
  have u1 : decide ((1 : Int) < (s.size : Int)) = decide (1 < s.size) := by
    by_cases e : 1 < s.size
    · rw [decide_eq_true e, decide_eq_true_eq]; omega
    · rw [decide_eq_false e, decide_eq_false_iff_not]; omega
  clear RES B1 B2 e0
  obtain ⟨bs1, hbs1⟩ : ∃ x : Bool, decide (1 < s.size) = x := ⟨_, rfl⟩
  rw [hbs1] at u1 hbz
  go_enter Tryz.func108, Tryz.ntmps108
  go_upto_region 1 with fail
  rw [HV.out]
  refine ext_wp fun X => ?_
  have c4' := c4 X
  have HZ : Hid (false = (bs1 && bt0)) := Lib.hid hbz
  clear hbz
  have GO : Hid (∀ (X : Ext V), True) := Lib.hid fun _ => trivial
  cases bs1
  all_goals cases bt0
  case true.true => exact absurd HZ.out (by decide)
  all_goals
    go_upto_region 4 with (go_at_call 109; refine (DA.out X).mono ?_; rintro e w2 ⟨nn, ev, rfl, hb2, _, _, hv⟩; obtain rfl := hv n HN.out)
    obtain ⟨Y, rfl⟩ : ∃ Y : Ext V, w2 = Y.1 := ⟨⟨w2, below_step X.2 hb2⟩, rfl⟩
    clear hb2
    go_wp2_with fail
    go_loopw [7] (fun mv wr => mv = .int .i64 nn ∧ wr = Y.1) (fun _ _ => 1)
    case atStart => exact ⟨rfl, rfl⟩
    case round =>
      obtain ⟨rfl, rfl⟩ := hrel
      have c2' := c2 Y
      have c3' := c3 Y
      by_cases hH : nn ≤ hi
      · have v1 : decide (nn ≤ hi) = true := by simpa using hH
        by_cases hL : lo ≤ nn
        · have v2 : decide (lo ≤ nn) = true := by simpa using hL
          go_wp2_with fail
          go_ret
          exact ⟨ret_bool (by first | rfl | (rw [v1, v2]; rfl) | simp_all), END.out Y⟩
        · have v2 : decide (lo ≤ nn) = false := by simpa using hL
          obtain rfl : nn = 0 := by omega
          go_wp2_with fail
          go_ret
          exact ⟨ret_bool (by first | rfl | (rw [v1, v2]; rfl) | simp_all), END.out Y⟩
      · have v1 : decide (nn ≤ hi) = false := by simpa using hH
        go_wp2_with fail
        go_ret
        exact ⟨ret_bool (by first | rfl | (rw [v1]; rfl) | simp_all), END.out Y⟩
end Go.Proofs.YthimnjegacdhaaaGreatDoor

/- A token's way along a text (reference). -/
namespace Go.Proofs.YthimnjegacdhaaaGreatDoor
open Go.RowKit Go.BigFrame
open Rd (sB bt itoaB Tok begF numAt pairAt exactAt NumSt RowSt DigRow byte isD digAt)

/-- what run hands back -/
def RunRet (s : ByteArray) (t : Tok) (p : Nat) (w : World) (e : Ending) (w' : World) : Prop :=
  ∃ v : Int, e = .returned (.tuple #[.int .i64 (Rd.runT s t p).1, .int .i64 v, .bool (Rd.runT s t p).2.2]) ∧ ((Rd.runT s t p).2.2 = true → v = (Rd.runT s t p).2.1) ∧ Below w.heap.size w w'
theorem RunRet.mk {s : ByteArray} {t : Tok} {p : Nat} {w w' : World} {e : Ending} (q : Nat) (v : Int) (b : Bool) {u : Int} (he : e = .returned (.tuple #[.int .i64 q, .int .i64 v, .bool b])) (h : Rd.runT s t p = (q, u, b)) (hv : b = true → v = u) (hb : Below w.heap.size w w') : RunRet s t p w e w' := by
  refine ⟨v, ?_, ?_, hb⟩
  · rw [h]; exact he
  · rw [h]; exact hv
theorem dig_cases (s : ByteArray) (q : Nat) (hq : q ≤ s.size) : q = s.size ∧ digAt s q true = false ∨ (∃ h : q < s.size, isD (s[q].toNat) = false ∧ digAt s q true = false) ∨ (∃ h : q < s.size, isD (s[q].toNat) = true ∧ digAt s q true = true ∧ 48 ≤ s[q].toNat ∧ s[q].toNat ≤ 57 ∧ byte s q = s[q].toNat) := by
  unfold digAt
  rcases Nat.lt_or_ge q s.size with h | h
  · have e := Rd.byte_lt h
    cases hd : isD (s[q].toNat)
    · exact Or.inr (Or.inl ⟨h, hd, by rw [e, hd]; simp⟩)
    · have := Rd.isD_bounds hd
      exact Or.inr (Or.inr ⟨h, hd, by rw [e, hd]; simp [h], this.1, this.2, e⟩)
  · exact Or.inl ⟨by omega, by simp; omega⟩
theorem lt_b {a b : Nat} : decide ((a : Int) < (b : Int)) = decide (a < b) := by
  by_cases h : a < b
  · rw [decide_eq_true h, decide_eq_true_eq]; omega
  · rw [decide_eq_false h, decide_eq_false_iff_not]; omega
theorem eq_b {a b : Nat} : ((a : Int) == (b : Int)) = decide (a = b) := by
  by_cases h : a = b
  · simp [h]
  · rw [decide_eq_false h]; simp; omega
set_option maxHeartbeats 8000000 in
set_option maxRecDepth 100000 in
theorem runNum_any (t : Tok) (hk : t.kind = 2) (s : ByteArray) (p : Nat) (hs : s.size ≤ 1000000) (hp : p ≤ s.size) (hT : (t.low = 0 ∨ t.low = 1) ∧ 0 ≤ t.high ∧ t.high ≤ 9999999999999 ∧ t.digits ≤ 13) (w : World) (hg : Glo w) :
    Calls Tryz.prog 94 #[tokV t, .string s, .int .i64 p] w fun e w' => RunRet s t p w e w' := by
  obtain ⟨kd, tx, lo, hi, dg⟩ := t
  simp only at hk hT
  subst hk
  unfold tokV
  simp only
  obtain ⟨V, hV, hbV, hsV, hcV⟩ := alloc_cells w #[.int .i64 (2 : Nat), .string tx, .int .i64 lo, .int .i64 hi, .int .i64 dg] 57
  have hkI : ((2 : Nat) : Int) = 2 := rfl
  rw [hkI] at hV hcV ⊢
  have c0 := Ext.ex (hcV 0 _ rfl)
  have c1 := Ext.ex (hcV 1 _ rfl)
  have c2 := Ext.ex (hcV 2 _ rfl)
  have c3 := Ext.ex (hcV 3 _ rfl)
  have c4 := Ext.ex (hcV 4 _ rfl)
  have END := Lib.hid (fun (X : Ext V) => below_step hbV X.2)
  have HG := Lib.hid (fun (X : Ext V) => hg.below (below_step hbV X.2))
  have HD := Lib.hid (fun (c : Nat) (X : Ext V) => Ext.same X (rIsDigit_any c X.1))
  have HV := Lib.hid hV
  have HP := Lib.hid hp
  have HS := Lib.hid hs
  clear hcV hV hbV hg hkI
  have RT : ∀ x, numAt s dg lo hi true p = x → Rd.runT s ⟨2, tx, lo, hi, dg⟩ p = (x.2.2, x.1, Rd.numOk lo true x) := fun x hx => by simp [Rd.runT, hx]
  have RT := Lib.hid RT
  have HTT := Lib.hid hT
  go_enter Tryz.func94, Tryz.ntmps94
  go_upto_region 1 with fail
  rw [HV.out]
  refine ext_wp fun X => ?_
  have x0 := c0 X
  go_upto_region 18 with fail
  go_wp2_with fail
  go_loopw [2] (fun mv wr => ∃ (q m : Nat) (n : Int) (Y : Ext V), mv = .int .i64 q ∧ q = p + m ∧ wr = Y.1 ∧ NumSt s dg lo hi p m n) (fun mv _ => s.size - (intOf mv).toNat)
  case atStart => exact ⟨p, 0, 0, X, rfl, rfl, rfl, NumSt.start HP.out⟩
  case round =>
    obtain ⟨q, m, n, Y, rfl, hqm, rfl, hN⟩ := hrel
    have y0 := c0 Y
    have y1 := c1 Y
    have y2 := c2 Y
    have y3 := c3 Y
    have y4 := c4 Y
    have hle := hN.row.le
    have hm13 := hN.le
    have HN := Lib.hid hN
    have hq1 : q ≤ 1000000 := by omega
    clear hN x0
    rcases dig_cases s q (by omega) with ⟨hq, hd⟩ | ⟨hq, hisd, hd⟩ | ⟨hq, hisd, hd, h48, h57, hby⟩
    rotate_left
    rotate_left
    · have hqd : decide ((q : Int) < (s.size : Int)) = true := by rw [decide_eq_true_eq]; omega
      have hqd' : decide (q < s.size) = true := by simpa using hq
      have hd' : digAt s (p + m) true = true := by rw [← hqm]; exact hd
      have hrow := HN.out.row.next hd'
      have hex : p + (m + 1) ≤ s.size := by omega
      have DB := Lib.hid (fun (X : Ext V) => Ext.calls X (begins_any ⟨2, tx, lo, hi, dg⟩ (s.extract p (p + (m + 1))) _ X.1 (HG.out X) (by rw [Rd.ext_size hex]; omega) (by rw [Rd.ext_size hex]; have := HTT.out.2.2.2; omega) (hrow.num (by omega) (by have := HTT.out.2.2.2; omega)) hrow.lt.1 HTT.out.1))
      rw [Rd.ext_size hex, Rd.ext_byte hex (by omega)] at DB
      simp only at DB
      unfold tokV at DB
      simp only at DB
      rw [show ((2 : Nat) : Int) = 2 from rfl] at DB
      have HNX := Lib.hid (HN.out.next hd')
      have HHA := Lib.hid (HN.out.halt HTT.out.1 hd')
      have HR := Lib.hid (hrow)
      have hlt := hrow.lt
      obtain ⟨bb, hbb⟩ : ∃ x, begF dg lo hi (m + 1) (byte s p) (10 * n + ((byte s (p + m) : Int) - 48)) = x := ⟨_, rfl⟩
      rw [hbb] at DB HNX HHA
      obtain ⟨nn, hnn⟩ : ∃ x, 10 * n + ((byte s (p + m) : Int) - 48) = x := ⟨_, rfl⟩
      rw [hnn] at HNX
      rw [show p + (m + 1) = q + 1 by omega] at DB
      have hsl : ∀ W : World, (Instr.slice 9 (.string s) (some (.int .i64 (p : Int))) (some (.int .i64 ((q : Int) + 1))) none).run Tryz.prog W = .ok (.string (s.extract p (q + 1))) W := fun W => by
        rw [run_slice_string W _ _ _ _ _ _ (by kernel_rfl) (by omega) (by omega) (by omega)]
        rw [show ((p : Int)).toNat = p by omega, show ((q : Int) + 1).toNat = q + 1 by omega]
      clear hrow hlt hbb hnn hd hd' HR
      cases bb
      case true =>
        clear HHA
        have HQM := Lib.hid hqm
        clear hqm
        go_upto_region 19 with fail
        refine wp_region_ext Y (by kernel_rfl) (by kernel_rfl) ?_
        repeat (go_big_quiet_step ((first
          | (go_at_call 107; with_reducible exact HD.out _ _)
          | (go_at_call 108; with_reducible exact DB.out _))))
        refine wpQuiet_nil ?_
        intro _ hw'
        obtain ⟨Z, rfl⟩ := hw'
        go_wp2_with fail
        go_roundw
        case rel => exact ⟨q + 1, m + 1, nn, Z, by go_num, by have := HQM.out; omega, rfl, HNX.out rfl⟩
        case measure => simp [intOf]; omega
      case false =>
        have HX := Lib.hid (HHA.out rfl)
        clear HNX HHA
        have HQM := Lib.hid hqm
        clear hqm
        go_upto_region 19 with fail
        refine wp_region_ext Y (by kernel_rfl) (by kernel_rfl) ?_
        repeat (go_big_quiet_step ((first
          | (go_at_call 107; with_reducible exact HD.out _ _)
          | (go_at_call 108; with_reducible exact DB.out _))))
        refine wpQuiet_nil ?_
        intro _ hw'
        obtain ⟨Z, rfl⟩ := hw'
        have HXT := Lib.hid (RT.out _ HX.out)
        have HROW := Lib.hid (HN.out.row)
        have hle2 := HROW.out.le
        have DA := Lib.hid (atoi_every (s.extract p (p + m)) (by rw [Rd.ext_size hle2]; omega) Z.1 (HG.out Z))
        rw [← HQM.out] at DA
        have hsl2 : ∀ W : World, (Instr.slice 9 (.string s) (some (.int .i64 (p : Int))) (some (.int .i64 (q : Int))) none).run Tryz.prog W = .ok (.string (s.extract p q)) W := fun W => by
          have := HQM.out
          rw [run_slice_string W _ _ _ _ _ _ (by kernel_rfl) (by omega) (by omega) (by omega)]
          rw [show ((p : Int)).toNat = p by omega, show ((q : Int)).toNat = q by omega]
        go_upto_region 22 with (go_at_call 109; refine DA.out.mono ?_; rintro e w3 ⟨nn, ev, rfl, hb3, _, _, hv⟩)
        obtain ⟨U, rfl⟩ : ∃ U : Ext V, w3 = U.1 := ⟨⟨w3, below_step Z.2 hb3⟩, rfl⟩
        have u2 := c2 U
        have hpq : decide ((p : Int) < (q : Int)) = decide (0 < m) := by rw [lt_b]; congr 1; rw [eq_iff_iff]; have := HQM.out; omega
        have hpq' : decide (p < q) = decide (0 < m) := by congr 1; rw [eq_iff_iff]; have := HQM.out; omega
        have HVN : Hid (0 < m → nn = n) := Lib.hid (fun h0 => hv n (by have := HROW.out.num h0 (by have := HTT.out.2.2.2; omega); rw [← HQM.out] at this; exact this))
        clear hb3 hv DA
        obtain ⟨bm, hbm⟩ : ∃ x, decide (0 < m) = x := ⟨_, rfl⟩
        rw [hbm] at hpq hpq'
        cases bm
        · refine wp_region_ext U (by kernel_rfl) (by kernel_rfl) ?_
          repeat (go_big_quiet_step (fail))
          refine wpQuiet_nil ?_
          intro _ hw'
          obtain ⟨Z2, rfl⟩ := hw'
          go_wp2_with fail
          go_ret3
          refine RunRet.mk q nn false (u := n) rfl (HXT.out.trans ?_) (fun h => by cases h) (END.out _)
          have := HQM.out
          simp [Rd.numOk, hbm]
          omega
        · obtain rfl := HVN.out (by simpa using hbm)
          obtain ⟨bl, hbl⟩ : ∃ x, decide (lo ≤ nn) = x := ⟨_, rfl⟩
          cases bl
          all_goals
            refine wp_region_ext U (by kernel_rfl) (by kernel_rfl) ?_
            repeat (go_big_quiet_step (fail))
            refine wpQuiet_nil ?_
            intro _ hw'
            obtain ⟨Z2, rfl⟩ := hw'
            go_wp2_with fail
            go_ret3
          · refine RunRet.mk q nn false (u := nn) rfl (HXT.out.trans ?_) (fun _ => rfl) (END.out _)
            have := HQM.out
            simp [Rd.numOk, hbm, hbl]
            omega
          · refine RunRet.mk q nn true (u := nn) rfl (HXT.out.trans ?_) (fun _ => rfl) (END.out _)
            have := HQM.out
            simp [Rd.numOk, hbm, hbl]
            omega
    · have hqd : decide ((q : Int) < (s.size : Int)) = false := by rw [decide_eq_false_iff_not]; omega
      have hqd' : decide (q < s.size) = false := by rw [decide_eq_false_iff_not]; omega
      have HX := Lib.hid (HN.out.stop (by rw [← hqm]; exact hd))
      clear hd hq
      have HQM := Lib.hid hqm
      clear hqm
      go_upto_region 19 with fail
      refine wp_region_ext Y (by kernel_rfl) (by kernel_rfl) ?_
      repeat (go_big_quiet_step ((first
        | (go_at_call 107; with_reducible exact HD.out _ _))))
      refine wpQuiet_nil ?_
      intro _ hw'
      obtain ⟨Z, rfl⟩ := hw'
      have HXT := Lib.hid (RT.out _ HX.out)
      have HROW := Lib.hid (HN.out.row)
      have hle2 := HROW.out.le
      have DA := Lib.hid (atoi_every (s.extract p (p + m)) (by rw [Rd.ext_size hle2]; omega) Z.1 (HG.out Z))
      rw [← HQM.out] at DA
      have hsl2 : ∀ W : World, (Instr.slice 9 (.string s) (some (.int .i64 (p : Int))) (some (.int .i64 (q : Int))) none).run Tryz.prog W = .ok (.string (s.extract p q)) W := fun W => by
        have := HQM.out
        rw [run_slice_string W _ _ _ _ _ _ (by kernel_rfl) (by omega) (by omega) (by omega)]
        rw [show ((p : Int)).toNat = p by omega, show ((q : Int)).toNat = q by omega]
      go_upto_region 22 with (go_at_call 109; refine DA.out.mono ?_; rintro e w3 ⟨nn, ev, rfl, hb3, _, _, hv⟩)
      obtain ⟨U, rfl⟩ : ∃ U : Ext V, w3 = U.1 := ⟨⟨w3, below_step Z.2 hb3⟩, rfl⟩
      have u2 := c2 U
      have hpq : decide ((p : Int) < (q : Int)) = decide (0 < m) := by rw [lt_b]; congr 1; rw [eq_iff_iff]; have := HQM.out; omega
      have hpq' : decide (p < q) = decide (0 < m) := by congr 1; rw [eq_iff_iff]; have := HQM.out; omega
      have HVN : Hid (0 < m → nn = n) := Lib.hid (fun h0 => hv n (by have := HROW.out.num h0 (by have := HTT.out.2.2.2; omega); rw [← HQM.out] at this; exact this))
      clear hb3 hv DA
      obtain ⟨bm, hbm⟩ : ∃ x, decide (0 < m) = x := ⟨_, rfl⟩
      rw [hbm] at hpq hpq'
      cases bm
      · refine wp_region_ext U (by kernel_rfl) (by kernel_rfl) ?_
        repeat (go_big_quiet_step (fail))
        refine wpQuiet_nil ?_
        intro _ hw'
        obtain ⟨Z2, rfl⟩ := hw'
        go_wp2_with fail
        go_ret3
        refine RunRet.mk q nn false (u := n) rfl (HXT.out.trans ?_) (fun h => by cases h) (END.out _)
        have := HQM.out
        simp [Rd.numOk, hbm]
        omega
      · obtain rfl := HVN.out (by simpa using hbm)
        obtain ⟨bl, hbl⟩ : ∃ x, decide (lo ≤ nn) = x := ⟨_, rfl⟩
        cases bl
        all_goals
          refine wp_region_ext U (by kernel_rfl) (by kernel_rfl) ?_
          repeat (go_big_quiet_step (fail))
          refine wpQuiet_nil ?_
          intro _ hw'
          obtain ⟨Z2, rfl⟩ := hw'
          go_wp2_with fail
          go_ret3
        · refine RunRet.mk q nn false (u := nn) rfl (HXT.out.trans ?_) (fun _ => rfl) (END.out _)
          have := HQM.out
          simp [Rd.numOk, hbm, hbl]
          omega
        · refine RunRet.mk q nn true (u := nn) rfl (HXT.out.trans ?_) (fun _ => rfl) (END.out _)
          have := HQM.out
          simp [Rd.numOk, hbm, hbl]
          omega
    · have hqd : decide ((q : Int) < (s.size : Int)) = true := by rw [decide_eq_true_eq]; omega
      have hqd' : decide (q < s.size) = true := by simpa using hq
      have HX := Lib.hid (HN.out.stop (by rw [← hqm]; exact hd))
      clear hd
      have HQM := Lib.hid hqm
      clear hqm
      go_upto_region 19 with fail
      refine wp_region_ext Y (by kernel_rfl) (by kernel_rfl) ?_
      repeat (go_big_quiet_step ((first
        | (go_at_call 107; with_reducible exact HD.out _ _))))
      refine wpQuiet_nil ?_
      intro _ hw'
      obtain ⟨Z, rfl⟩ := hw'
      have HXT := Lib.hid (RT.out _ HX.out)
      have HROW := Lib.hid (HN.out.row)
      have hle2 := HROW.out.le
      have DA := Lib.hid (atoi_every (s.extract p (p + m)) (by rw [Rd.ext_size hle2]; omega) Z.1 (HG.out Z))
      rw [← HQM.out] at DA
      have hsl2 : ∀ W : World, (Instr.slice 9 (.string s) (some (.int .i64 (p : Int))) (some (.int .i64 (q : Int))) none).run Tryz.prog W = .ok (.string (s.extract p q)) W := fun W => by
        have := HQM.out
        rw [run_slice_string W _ _ _ _ _ _ (by kernel_rfl) (by omega) (by omega) (by omega)]
        rw [show ((p : Int)).toNat = p by omega, show ((q : Int)).toNat = q by omega]
      go_upto_region 22 with (go_at_call 109; refine DA.out.mono ?_; rintro e w3 ⟨nn, ev, rfl, hb3, _, _, hv⟩)
      obtain ⟨U, rfl⟩ : ∃ U : Ext V, w3 = U.1 := ⟨⟨w3, below_step Z.2 hb3⟩, rfl⟩
      have u2 := c2 U
      have hpq : decide ((p : Int) < (q : Int)) = decide (0 < m) := by rw [lt_b]; congr 1; rw [eq_iff_iff]; have := HQM.out; omega
      have hpq' : decide (p < q) = decide (0 < m) := by congr 1; rw [eq_iff_iff]; have := HQM.out; omega
      have HVN : Hid (0 < m → nn = n) := Lib.hid (fun h0 => hv n (by have := HROW.out.num h0 (by have := HTT.out.2.2.2; omega); rw [← HQM.out] at this; exact this))
      clear hb3 hv DA
      obtain ⟨bm, hbm⟩ : ∃ x, decide (0 < m) = x := ⟨_, rfl⟩
      rw [hbm] at hpq hpq'
      cases bm
      · refine wp_region_ext U (by kernel_rfl) (by kernel_rfl) ?_
        repeat (go_big_quiet_step (fail))
        refine wpQuiet_nil ?_
        intro _ hw'
        obtain ⟨Z2, rfl⟩ := hw'
        go_wp2_with fail
        go_ret3
        refine RunRet.mk q nn false (u := n) rfl (HXT.out.trans ?_) (fun h => by cases h) (END.out _)
        have := HQM.out
        simp [Rd.numOk, hbm]
        omega
      · obtain rfl := HVN.out (by simpa using hbm)
        obtain ⟨bl, hbl⟩ : ∃ x, decide (lo ≤ nn) = x := ⟨_, rfl⟩
        cases bl
        all_goals
          refine wp_region_ext U (by kernel_rfl) (by kernel_rfl) ?_
          repeat (go_big_quiet_step (fail))
          refine wpQuiet_nil ?_
          intro _ hw'
          obtain ⟨Z2, rfl⟩ := hw'
          go_wp2_with fail
          go_ret3
        · refine RunRet.mk q nn false (u := nn) rfl (HXT.out.trans ?_) (fun _ => rfl) (END.out _)
          have := HQM.out
          simp [Rd.numOk, hbm, hbl]
          omega
        · refine RunRet.mk q nn true (u := nn) rfl (HXT.out.trans ?_) (fun _ => rfl) (END.out _)
          have := HQM.out
          simp [Rd.numOk, hbm, hbl]
          omega
theorem idx_at (s : ByteArray) (q : Nat) (h : q < s.size) (W : World) : (Instr.index 9 (.string s) (.int .i64 (q : Int))).run Tryz.prog W = .ok (.int .u8 (s[q].toNat)) W := by
  rw [run_index_string W _ _ _ _ (by kernel_rfl)]
  simp [h]
/-! ### two digits -/
theorem pairNo {s : ByteArray} {hi : Int} {p : Nat} (h : ¬ (digAt s p true = true ∧ 10 * ((byte s p : Int) - 48) ≤ hi)) : pairAt s hi p true = (0, p, false) := by
  unfold pairAt Rd.pairStep
  simp only [Int.zero_add]
  rw [if_neg h]
  simp [Rd.digAt_no]
theorem pairYes {s : ByteArray} {hi : Int} {p : Nat} (h : digAt s p true = true ∧ 10 * ((byte s p : Int) - 48) ≤ hi) : pairAt s hi p true = Rd.pairStep s hi 1 (10 * ((byte s p : Int) - 48), p + 1, true) := by
  unfold pairAt
  congr 1
  unfold Rd.pairStep
  simp only [Int.zero_add]
  rw [if_pos h]
theorem pairNo2 {s : ByteArray} {hi n : Int} {p : Nat} (h : ¬ (digAt s p true = true ∧ n + ((byte s p : Int) - 48) ≤ hi)) : Rd.pairStep s hi 1 (n, p, true) = (n, p, false) := by
  unfold Rd.pairStep
  simp only [Int.one_mul]
  rw [if_neg h]
theorem pairYes2 {s : ByteArray} {hi n : Int} {p : Nat} (h : digAt s p true = true ∧ n + ((byte s p : Int) - 48) ≤ hi) : Rd.pairStep s hi 1 (n, p, true) = (n + ((byte s p : Int) - 48), p + 1, true) := by
  unfold Rd.pairStep
  simp only [Int.one_mul]
  rw [if_pos h]
set_option maxHeartbeats 8000000 in
set_option maxRecDepth 100000 in
theorem runPair_any (t : Tok) (hk : t.kind = 3) (s : ByteArray) (p : Nat) (hs : s.size ≤ 1000000) (hp : p ≤ s.size) (hT : 0 ≤ t.high ∧ t.high ≤ 99) (w : World) (hg : Glo w) :
    Calls Tryz.prog 94 #[tokV t, .string s, .int .i64 p] w fun e w' => RunRet s t p w e w' := by
  obtain ⟨kd, tx, lo, hi, dg⟩ := t
  simp only at hk hT
  subst hk
  unfold tokV
  simp only
  obtain ⟨V, hV, hbV, hsV, hcV⟩ := alloc_cells w #[.int .i64 (3 : Nat), .string tx, .int .i64 lo, .int .i64 hi, .int .i64 dg] 57
  have hkI : ((3 : Nat) : Int) = 3 := rfl
  rw [hkI] at hV hcV ⊢
  have c0 := Ext.ex (hcV 0 _ rfl)
  have c1 := Ext.ex (hcV 1 _ rfl)
  have c2 := Ext.ex (hcV 2 _ rfl)
  have c3 := Ext.ex (hcV 3 _ rfl)
  have c4 := Ext.ex (hcV 4 _ rfl)
  have END := Lib.hid (fun (X : Ext V) => below_step hbV X.2)
  have HG := Lib.hid (fun (X : Ext V) => hg.below (below_step hbV X.2))
  have HD := Lib.hid (fun (c : Nat) (X : Ext V) => Ext.same X (rIsDigit_any c X.1))
  have HV := Lib.hid hV
  have HP := Lib.hid hp
  have HS := Lib.hid hs
  clear hcV hV hbV hg hkI
  have RT : ∀ x, pairAt s hi p true = x → Rd.runT s ⟨3, tx, lo, hi, dg⟩ p = (x.2.1, x.1, x.2.2) := fun x hx => by simp [Rd.runT, hx]
  have RT := Lib.hid RT
  obtain ⟨hh0, hh99⟩ := hT
  have hdiv : hi.tdiv 10 = hi / 10 := Int.tdiv_eq_ediv_of_nonneg hh0
  go_enter Tryz.func94, Tryz.ntmps94
  go_upto_region 1 with fail
  rw [HV.out]
  refine ext_wp fun X => ?_
  have x0 := c0 X
  go_upto_region 11 with fail
  have y0 := c0 X
  have y1 := c1 X
  have y2 := c2 X
  have y3 := c3 X
  have y4 := c4 X
  rcases dig_cases s p hp with ⟨hq, hd⟩ | ⟨hq, hisd, hd⟩ | ⟨hq, hisd, hd, h48, h57, hby⟩
  · have hqd : ((p : Int) == (s.size : Int)) = true := by rw [eq_b, decide_eq_true_eq]; exact hq
    have hqd' : decide (p = s.size) = true := by simpa using hq
    have HXT := Lib.hid ((RT.out _ rfl).trans (show _ = (p, (0 : Int), false) from by rw [pairNo (by rw [hd]; simp)]))
    clear hd
    have HQ := Lib.hid hq
    clear hq
    refine wp_region_ext X (by kernel_rfl) (by kernel_rfl) ?_
    repeat (go_big_quiet_step ((first
      | (go_at_call 107; with_reducible exact HD.out _ _))))
    refine wpQuiet_nil ?_
    intro _ hw'
    obtain ⟨Z, rfl⟩ := hw'
    go_wp2_with fail
    go_ret3
    exact RunRet.mk _ _ false rfl HXT.out (fun h => by cases h) (END.out _)
  · have hqd : ((p : Int) == (s.size : Int)) = false := by rw [eq_b, decide_eq_false_iff_not]; omega
    have hqd' : decide (p = s.size) = false := by rw [decide_eq_false_iff_not]; omega
    have HXT := Lib.hid ((RT.out _ rfl).trans (show _ = (p, (0 : Int), false) from by rw [pairNo (by rw [hd]; simp)]))
    clear hd
    refine wp_region_ext X (by kernel_rfl) (by kernel_rfl) ?_
    repeat (go_big_quiet_step ((first
      | (go_at_call 107; with_reducible exact HD.out _ _))))
    refine wpQuiet_nil ?_
    intro _ hw'
    obtain ⟨Z, rfl⟩ := hw'
    go_wp2_with fail
    go_ret3
    exact RunRet.mk _ _ false rfl HXT.out (fun h => by cases h) (END.out _)
  · have hqd : ((p : Int) == (s.size : Int)) = false := by rw [eq_b, decide_eq_false_iff_not]; omega
    have hqd' : decide (p = s.size) = false := by rw [decide_eq_false_iff_not]; omega
    by_cases hb1 : hi / 10 < (s[p].toNat : Int) - 48
    · have z1 : decide (hi / 10 < (s[p].toNat : Int) - 48) = true := by simpa using hb1
      have HXT := Lib.hid ((RT.out _ rfl).trans (show _ = (p, (0 : Int), false) from by rw [pairNo (by rw [hby]; omega)]))
      clear hd
      refine wp_region_ext X (by kernel_rfl) (by kernel_rfl) ?_
      repeat (go_big_quiet_step ((first
        | (go_at_call 107; with_reducible exact HD.out _ _))))
      refine wpQuiet_nil ?_
      intro _ hw'
      obtain ⟨Z, rfl⟩ := hw'
      go_wp2_with fail
      go_ret3
      exact RunRet.mk _ _ false rfl HXT.out (fun h => by cases h) (END.out _)
    · have z1 : decide (hi / 10 < (s[p].toNat : Int) - 48) = false := by simpa using hb1
      have HF1 := Lib.hid (pairYes (s := s) (hi := hi) (p := p) ⟨hd, by rw [hby]; omega⟩)
      rw [hby] at HF1
      obtain ⟨d1, hd1⟩ : ∃ x : Int, (s[p].toNat : Int) - 48 = x := ⟨_, rfl⟩
      have hd1n : 0 ≤ d1 ∧ d1 ≤ 9 := by omega
      clear hd
      refine wp_region_ext X (by kernel_rfl) (by kernel_rfl) ?_
      repeat (go_big_quiet_step ((first
        | (go_at_call 107; with_reducible exact HD.out _ _))))
      refine wpQuiet_nil ?_
      intro _ hw'
      obtain ⟨Z, rfl⟩ := hw'
      go_upto_region 14 with fail
      try rw [hd1] at HF1
      try rw [hd1]
      clear hd1
      have w0 := c0 Z
      have w1 := c1 Z
      have w2 := c2 Z
      have w3 := c3 Z
      have w4 := c4 Z
      rcases dig_cases s (p + 1) (by omega) with ⟨hq2, hd2⟩ | ⟨hq2, hisd2, hd2⟩ | ⟨hq2, hisd2, hd2, h482, h572, hby2⟩
      · have hqe : (((p : Int) + 1) == (s.size : Int)) = true := by simp; omega
        have hqe' : decide (p + 1 = s.size) = true := by simpa using hq2
        have HXT := Lib.hid ((RT.out _ HF1.out).trans (show _ = (p + 1, 10 * d1, false) from by rw [pairNo2 (by rw [hd2]; simp)]))
        clear hd2
        have HQ := Lib.hid hq2
        clear hq2
        refine wp_region_ext Z (by kernel_rfl) (by kernel_rfl) ?_
        repeat (go_big_quiet_step ((first
          | (go_at_call 107; with_reducible exact HD.out _ _))))
        refine wpQuiet_nil ?_
        intro _ hw'
        obtain ⟨Z, rfl⟩ := hw'
        go_wp2_with fail
        go_ret3
        exact RunRet.mk _ _ false rfl HXT.out (fun h => by cases h) (END.out _)
      · have hix : ∀ W : World, (Instr.index 9 (.string s) (.int .i64 ((p : Int) + 1))).run Tryz.prog W = .ok (.int .u8 (s[p + 1].toNat)) W := fun W => idx_at s (p + 1) hq2 W
        have hqe : (((p : Int) + 1) == (s.size : Int)) = false := by simp; omega
        have hqe' : decide (p + 1 = s.size) = false := by rw [decide_eq_false_iff_not]; omega
        have HXT := Lib.hid ((RT.out _ HF1.out).trans (show _ = (p + 1, 10 * d1, false) from by rw [pairNo2 (by rw [hd2]; simp)]))
        clear hd2
        refine wp_region_ext Z (by kernel_rfl) (by kernel_rfl) ?_
        repeat (go_big_quiet_step ((first
          | (go_at_call 107; with_reducible exact HD.out _ _))))
        refine wpQuiet_nil ?_
        intro _ hw'
        obtain ⟨Z, rfl⟩ := hw'
        go_wp2_with fail
        go_ret3
        exact RunRet.mk _ _ false rfl HXT.out (fun h => by cases h) (END.out _)
      · have hix : ∀ W : World, (Instr.index 9 (.string s) (.int .i64 ((p : Int) + 1))).run Tryz.prog W = .ok (.int .u8 (s[p + 1].toNat)) W := fun W => idx_at s (p + 1) hq2 W
        have hqe : (((p : Int) + 1) == (s.size : Int)) = false := by simp; omega
        have hqe' : decide (p + 1 = s.size) = false := by rw [decide_eq_false_iff_not]; omega
        by_cases hb2 : hi < 10 * d1 + ((s[p + 1].toNat : Int) - 48)
        · have z2 : decide (hi < 10 * d1 + ((s[p + 1].toNat : Int) - 48)) = true := by simpa using hb2
          have HXT := Lib.hid ((RT.out _ HF1.out).trans (show _ = (p + 1, 10 * d1, false) from by rw [pairNo2 (by rw [hby2]; omega)]))
          clear hd2
          refine wp_region_ext Z (by kernel_rfl) (by kernel_rfl) ?_
          repeat (go_big_quiet_step ((first
            | (go_at_call 107; with_reducible exact HD.out _ _))))
          refine wpQuiet_nil ?_
          intro _ hw'
          obtain ⟨Z, rfl⟩ := hw'
          go_wp2_with fail
          go_ret3
          exact RunRet.mk _ _ false rfl HXT.out (fun h => by cases h) (END.out _)
        · have z2 : decide (hi < 10 * d1 + ((s[p + 1].toNat : Int) - 48)) = false := by simpa using hb2
          have HXT := Lib.hid ((RT.out _ HF1.out).trans (show _ = (p + 2, 10 * d1 + ((s[p + 1].toNat : Int) - 48), true) from by rw [pairYes2 ⟨hd2, by rw [hby2]; omega⟩, hby2]))
          clear hd2
          refine wp_region_ext Z (by kernel_rfl) (by kernel_rfl) ?_
          repeat (go_big_quiet_step ((first
            | (go_at_call 107; with_reducible exact HD.out _ _))))
          refine wpQuiet_nil ?_
          intro _ hw'
          obtain ⟨U, rfl⟩ := hw'
          go_upto_region 16 with fail
          refine wp_region_ext U (by kernel_rfl) (by kernel_rfl) ?_
          repeat (go_big_quiet_step (fail))
          refine wpQuiet_nil ?_
          intro _ hw'
          obtain ⟨U2, rfl⟩ := hw'
          go_wp2_with fail
          go_ret3
          exact RunRet.mk _ _ true rfl HXT.out (fun _ => rfl) (END.out _)
set_option maxHeartbeats 8000000 in
set_option maxRecDepth 100000 in
theorem runLit_any (t : Tok) (hk : t.kind = 1) (s : ByteArray) (p : Nat) (hs : s.size ≤ 1000000) (hp : p ≤ s.size) (hT : t.text.size ≤ 100) (w : World) (hg : Glo w) :
    Calls Tryz.prog 94 #[tokV t, .string s, .int .i64 p] w fun e w' => RunRet s t p w e w' := by
  obtain ⟨kd, tx, lo, hi, dg⟩ := t
  simp only at hk hT
  subst hk
  unfold tokV
  simp only
  obtain ⟨V, hV, hbV, hsV, hcV⟩ := alloc_cells w #[.int .i64 (1 : Nat), .string tx, .int .i64 lo, .int .i64 hi, .int .i64 dg] 57
  have hkI : ((1 : Nat) : Int) = 1 := rfl
  rw [hkI] at hV hcV ⊢
  have c0 := Ext.ex (hcV 0 _ rfl)
  have c1 := Ext.ex (hcV 1 _ rfl)
  have c2 := Ext.ex (hcV 2 _ rfl)
  have c3 := Ext.ex (hcV 3 _ rfl)
  have c4 := Ext.ex (hcV 4 _ rfl)
  have END := Lib.hid (fun (X : Ext V) => below_step hbV X.2)
  have HG := Lib.hid (fun (X : Ext V) => hg.below (below_step hbV X.2))
  have HD := Lib.hid (fun (c : Nat) (X : Ext V) => Ext.same X (rIsDigit_any c X.1))
  have HV := Lib.hid hV
  have HP := Lib.hid hp
  have HS := Lib.hid hs
  clear hcV hV hbV hg hkI
  have RT : ∀ x, exactAt s tx p true = x → Rd.runT s ⟨1, tx, lo, hi, dg⟩ p = (x.1, 0, x.2) := fun x hx => by simp [Rd.runT, hx]
  have RT := Lib.hid RT
  have HTT := Lib.hid hT
  go_enter Tryz.func94, Tryz.ntmps94
  go_upto_region 1 with fail
  rw [HV.out]
  refine ext_wp fun X => ?_
  have x0 := c0 X
  go_upto_region 4 with fail
  go_loopw [2, 9] (fun mv iv wr => ∃ (q i : Nat) (Y : Ext V), mv = .int .i64 q ∧ iv = .int .i64 i ∧ i ≤ tx.size ∧ q ≤ s.size ∧ wr = Y.1 ∧ Rd.exactLoop s tx (tx.size - i) i q = exactAt s tx p true) (fun _ iv _ => tx.size - (intOf iv).toNat)
  case atStart => exact ⟨p, 0, X, rfl, rfl, Nat.zero_le _, HP.out, rfl, rfl⟩
  case round =>
    obtain ⟨q, i, Y, rfl, rfl, hi0, hq0, rfl, hL⟩ := hrel
    have y0 := c0 Y
    have y1 := c1 Y
    have y2 := c2 Y
    have y3 := c3 Y
    have y4 := c4 Y
    have HL := Lib.hid hL
    have hT := HTT.out
    have hq1 : q ≤ 1000000 := by omega
    clear hL x0
    by_cases hit : i < tx.size
    case neg =>
      have g1 : decide ((i : Int) < (tx.size : Int)) = false := by rw [lt_b]; simpa using hit
      have g2 : decide (i < tx.size) = false := by simpa using hit
      have HXT := Lib.hid (RT.out (q, true) (by rw [← HL.out, show tx.size - i = 0 by omega]; rfl))
      go_wp2_with fail
      go_ret3
      exact RunRet.mk _ _ true rfl HXT.out (fun _ => rfl) (END.out _)
    case pos =>
      have g1 : decide ((i : Int) < (tx.size : Int)) = true := by rw [lt_b]; simpa using hit
      have g2 : decide (i < tx.size) = true := by simpa using hit
      have hstep : Rd.exactLoop s tx (tx.size - i) i q = if q < s.size ∧ byte s q = byte tx i then Rd.exactLoop s tx (tx.size - (i + 1)) (i + 1) (q + 1) else (q, false) := by
        rw [show tx.size - i = (tx.size - (i + 1)) + 1 by omega]
        conv => lhs; rw [Rd.exactLoop]
        rw [if_pos hit]
      by_cases hq : q < s.size
      case neg =>
        have g3 : ((q : Int) == (s.size : Int)) = true := by rw [eq_b]; simp; omega
        have g4 : decide (q = s.size) = true := by simp; omega
        have HXT := Lib.hid (RT.out (q, false) (by rw [← HL.out, hstep, if_neg (fun h => hq h.1)]))
        clear hstep
        go_upto_region 6 with fail
        refine wp_region_ext Y (by kernel_rfl) (by kernel_rfl) ?_
        repeat (go_big_quiet_step (fail))
        refine wpQuiet_nil ?_
        intro _ hw'
        obtain ⟨Z, rfl⟩ := hw'
        go_wp2_with fail
        go_ret3
        exact RunRet.mk _ _ false rfl HXT.out (fun h => by cases h) (END.out _)
      case pos =>
        have g3 : ((q : Int) == (s.size : Int)) = false := by rw [eq_b]; simp; omega
        have g4 : decide (q = s.size) = false := by simp; omega
        rw [Rd.byte_lt hq, Rd.byte_lt hit] at hstep
        by_cases he : s[q].toNat = tx[i].toNat
        case neg =>
          have g5 : ((s[q].toNat : Int) == (tx[i].toNat : Int)) = false := by rw [eq_b]; simpa using he
          have g6 : ((s[q].toNat : Int) != (tx[i].toNat : Int)) = true := by rw [bne, g5]; rfl
          have g7 : decide (s[q].toNat = tx[i].toNat) = false := by simpa using he
          have HXT := Lib.hid (RT.out (q, false) (by rw [← HL.out, hstep, if_neg (fun h => he h.2)]))
          clear hstep
          go_upto_region 6 with fail
          refine wp_region_ext Y (by kernel_rfl) (by kernel_rfl) ?_
          repeat (go_big_quiet_step (fail))
          refine wpQuiet_nil ?_
          intro _ hw'
          obtain ⟨Z, rfl⟩ := hw'
          go_wp2_with fail
          go_ret3
          exact RunRet.mk _ _ false rfl HXT.out (fun h => by cases h) (END.out _)
        case pos =>
          have g5 : ((s[q].toNat : Int) == (tx[i].toNat : Int)) = true := by rw [eq_b]; simpa using he
          have g6 : ((s[q].toNat : Int) != (tx[i].toNat : Int)) = false := by rw [bne, g5]; rfl
          have g7 : decide (s[q].toNat = tx[i].toNat) = true := by simpa using he
          have HN := Lib.hid (show Rd.exactLoop s tx (tx.size - (i + 1)) (i + 1) (q + 1) = exactAt s tx p true by rw [← HL.out, hstep, if_pos ⟨hq, he⟩])
          clear hstep
          go_upto_region 6 with fail
          refine wp_region_ext Y (by kernel_rfl) (by kernel_rfl) ?_
          repeat (go_big_quiet_step (fail))
          refine wpQuiet_nil ?_
          intro _ hw'
          obtain ⟨Z, rfl⟩ := hw'
          go_wp2_with fail
          go_roundw
          case rel => exact ⟨q + 1, i + 1, Z, by go_num, by go_num, by omega, by omega, rfl, HN.out⟩
          case measure => simp [intOf]; omega
/-! ### a row of digits behind a point -/
theorem atoi_dig {s : ByteArray} {p m : Nat} {n : Int} (h : DigRow s p m n) (hm : m ≤ 18) (w : World) (hg : Glo w) :
    Calls Tryz.prog 109 #[.string (s.extract p (p + m))] w fun e w' => ∃ ev, e = .returned (.tuple #[.int .i64 n, ev]) ∧ Below w.heap.size w w' := by
  have hz := Rd.ext_size h.le
  rcases Nat.eq_zero_or_pos m with h0 | h0
  · have hl := h.lt
    subst h0
    have hn : n = 0 := by
      have := hl.2
      simp at this
      omega
    subst hn
    obtain ⟨tp, q, hv⟩ := hg.s
    have he : Lib.atoiAll (s.extract p (p + 0)).data.toList = Lib.atoiAll [] := by
      have : (s.extract p (p + 0)).data.toList = [] := List.eq_nil_of_length_eq_zero hz
      rw [this]
    refine (Tryz.strconv_Atoi_syntax_var (s.extract p (p + 0)) (by omega) he tp q w hv).mono ?_
    rintro e w' ⟨N, rfl, _, _, hb⟩
    exact ⟨_, rfl, hb⟩
  · refine (atoi_every (s.extract p (p + m)) (by omega) w hg).mono ?_
    rintro e w' ⟨nn, ev, rfl, hb, _, _, hv⟩
    obtain rfl := hv n (h.num h0 hm)
    exact ⟨ev, rfl, hb⟩
theorem scaled_lt {n : Int} {m i : Nat} (h0 : 0 ≤ n) (h : n < 10 ^ m) (hm : m ≤ i) (hi : i ≤ 5) : 0 ≤ n * 10 ^ (i - m) ∧ n * 10 ^ (i - m) ≤ 100000 := by
  obtain ⟨k, rfl⟩ : ∃ k, i = m + k := ⟨i - m, by omega⟩
  rw [show m + k - m = k by omega]
  have hk : (0 : Int) < 10 ^ k := Int.pow_pos (by omega)
  have h1 : n * 10 ^ k < 10 ^ m * 10 ^ k := Int.mul_lt_mul_of_pos_right h hk
  rw [← Int.pow_add] at h1
  have h2 : (10 : Int) ^ (m + k) ≤ 10 ^ 5 := by exact_mod_cast Nat.pow_le_pow_right (show 0 < 10 by omega) hi
  have h3 : (10 : Int) ^ 5 = 100000 := by decide
  exact ⟨Int.mul_nonneg h0 (Int.le_of_lt hk), by omega⟩
set_option maxHeartbeats 8000000 in
set_option maxRecDepth 100000 in
theorem runPart_any (t : Tok) (hk : t.kind = 4) (s : ByteArray) (p : Nat) (hs : s.size ≤ 1000000) (hp : p ≤ s.size) (hT : t.digits ≤ 6) (w : World) (hg : Glo w) :
    Calls Tryz.prog 94 #[tokV t, .string s, .int .i64 p] w fun e w' => RunRet s t p w e w' := by
  obtain ⟨kd, tx, lo, hi, dg⟩ := t
  simp only at hk hT
  subst hk
  unfold tokV
  simp only
  obtain ⟨V, hV, hbV, hsV, hcV⟩ := alloc_cells w #[.int .i64 (4 : Nat), .string tx, .int .i64 lo, .int .i64 hi, .int .i64 dg] 57
  have hkI : ((4 : Nat) : Int) = 4 := rfl
  rw [hkI] at hV hcV ⊢
  have c0 := Ext.ex (hcV 0 _ rfl)
  have c1 := Ext.ex (hcV 1 _ rfl)
  have c2 := Ext.ex (hcV 2 _ rfl)
  have c3 := Ext.ex (hcV 3 _ rfl)
  have c4 := Ext.ex (hcV 4 _ rfl)
  have END := Lib.hid (fun (X : Ext V) => below_step hbV X.2)
  have HG := Lib.hid (fun (X : Ext V) => hg.below (below_step hbV X.2))
  have HD := Lib.hid (fun (c : Nat) (X : Ext V) => Ext.same X (rIsDigit_any c X.1))
  have HV := Lib.hid hV
  have HP := Lib.hid hp
  have HS := Lib.hid hs
  clear hcV hV hbV hg hkI
  have RT : ∀ x, Rd.rowAt s dg true p = x → Rd.runT s ⟨4, tx, lo, hi, dg⟩ p = (x.2.2, x.1 * 10 ^ (dg - x.2.1), decide (0 < x.2.1)) := fun x hx => by simp [Rd.runT, hx]
  have RT := Lib.hid RT
  have HTT := Lib.hid hT
  go_enter Tryz.func94, Tryz.ntmps94
  go_upto_region 1 with fail
  rw [HV.out]
  refine ext_wp fun X => ?_
  have x0 := c0 X
  go_upto_region 23 with fail
  go_wp2_with fail
  go_loopw [2] (fun mv wr => ∃ (q m : Nat) (n : Int) (Y : Ext V), mv = .int .i64 q ∧ q = p + m ∧ wr = Y.1 ∧ RowSt s dg p m n) (fun mv _ => s.size - (intOf mv).toNat)
  case atStart => exact ⟨p, 0, 0, X, rfl, rfl, rfl, RowSt.start HP.out⟩
  case round =>
    obtain ⟨q, m, n, Y, rfl, hqm, rfl, hN⟩ := hrel
    have y0 := c0 Y
    have y1 := c1 Y
    have y2 := c2 Y
    have y3 := c3 Y
    have y4 := c4 Y
    have hle := hN.row.le
    have hm6 := hN.le
    have HN := Lib.hid hN
    have hq1 : q ≤ 1000000 := by omega
    have hsub : (q : Int) - (p : Int) = (m : Int) := by omega
    clear hN x0
    rcases dig_cases s q (by omega) with ⟨hq, hd⟩ | ⟨hq, hisd, hd⟩ | ⟨hq, hisd, hd, h48, h57, hby⟩
    rotate_left
    rotate_left
    · have hqd : decide ((q : Int) < (s.size : Int)) = true := by rw [decide_eq_true_eq]; omega
      have hqd' : decide (q < s.size) = true := by simpa using hq
      have hd' : digAt s (p + m) true = true := by rw [← hqm]; exact hd
      by_cases hmd : m < dg
      case pos =>
        have k1 : decide ((q : Int) - (p : Int) < (dg : Int)) = true := by rw [hsub, lt_b]; simpa using hmd
        have k2 : decide ((m : Int) < (dg : Int)) = true := by rw [lt_b]; simpa using hmd
        have HNX := Lib.hid (HN.out.next hmd hd')
        obtain ⟨nn, hnn⟩ : ∃ x, 10 * n + ((byte s (p + m) : Int) - 48) = x := ⟨_, rfl⟩
        rw [hnn] at HNX
        clear hd hd' hnn
        have HQM := Lib.hid hqm
        clear hqm
        have DIG := Lib.hid (rIsDigit_any (s[q].toNat) Y.1)
        rw [hisd] at DIG
        go_wp2_with (go_at_call 107; refine DIG.out.mono ?_; rintro e _ ⟨rfl, rfl⟩)
        go_roundw
        case rel => exact ⟨q + 1, m + 1, nn, Y, by go_num, by have := HQM.out; omega, rfl, HNX.out⟩
        case measure => simp [intOf]; omega
      case neg =>
        have k1 : decide ((q : Int) - (p : Int) < (dg : Int)) = false := by rw [hsub, lt_b]; simpa using hmd
        have k2 : decide ((m : Int) < (dg : Int)) = false := by rw [lt_b]; simpa using hmd
        have HX := Lib.hid (HN.out.stop (fun h => hmd h.1))
        clear hd hd'
        have HQM := Lib.hid hqm
        clear hqm
        have DIG := Lib.hid (rIsDigit_any (s[q].toNat) Y.1)
        rw [hisd] at DIG
        go_upto_region 26 with (go_at_call 107; refine DIG.out.mono ?_; rintro e _ ⟨rfl, rfl⟩)
        have HXT := Lib.hid (RT.out _ HX.out)
        have HROW := Lib.hid (HN.out.row)
        have hle2 := HROW.out.le
        have DA := Lib.hid (atoi_dig HN.out.row (by omega) Y.1 (HG.out Y))
        rw [← HQM.out] at DA
        have hsl2 : ∀ W : World, (Instr.slice 9 (.string s) (some (.int .i64 (p : Int))) (some (.int .i64 (q : Int))) none).run Tryz.prog W = .ok (.string (s.extract p q)) W := fun W => by
          have := HQM.out
          rw [run_slice_string W _ _ _ _ _ _ (by kernel_rfl) (by omega) (by omega) (by omega)]
          rw [show ((p : Int)).toNat = p by omega, show ((q : Int)).toNat = q by omega]
        go_upto_region 27 with (go_at_call 109; refine DA.out.mono ?_; rintro e w3 ⟨ev, rfl, hb3⟩)
        obtain ⟨U, rfl⟩ : ∃ U : Ext V, w3 = U.1 := ⟨⟨w3, below_step Y.2 hb3⟩, rfl⟩
        have HLT := Lib.hid (HROW.out.lt)
        have hdg6 := HTT.out
        clear hb3 DA
        go_upto_region 28 with fail
        go_loopw [15, 17] (fun vv iv wr => ∃ (i : Nat), vv = .int .i64 (n * 10 ^ (i - m)) ∧ iv = .int .i64 i ∧ m ≤ i ∧ i ≤ dg ∧ wr = U.1) (fun _ iv _ => dg - (intOf iv).toNat)
        case atStart => exact ⟨m, by simp, congrArg (Value.int .i64) (by have := HQM.out; omega), Nat.le_refl _, hm6, rfl⟩
        case round =>
          obtain ⟨i, rfl, rfl, him, hid, rfl⟩ := hrel
          have u0 := c0 U
          have u1 := c1 U
          have u2 := c2 U
          have u3 := c3 U
          have u4 := c4 U
          by_cases hlt : i < dg
          case pos =>
            exfalso
            omega
          case neg =>
            have l1 : decide ((i : Int) < (dg : Int)) = false := by rw [lt_b]; simpa using hlt
            have l2 : decide (i < dg) = false := by simpa using hlt
            have hid2 : i = dg := by omega
            have HXU := Lib.hid (show Rd.runT s ⟨4, tx, lo, hi, dg⟩ p = (q, n * 10 ^ (i - m), decide (0 < m)) by rw [HXT.out, hid2, HQM.out])
            have hpq : decide ((p : Int) < (q : Int)) = decide (0 < m) := by rw [lt_b]; congr 1; rw [eq_iff_iff]; have := HQM.out; omega
            have hpq' : decide (p < q) = decide (0 < m) := by congr 1; rw [eq_iff_iff]; have := HQM.out; omega
            obtain ⟨bm, hbm⟩ : ∃ x, decide (0 < m) = x := ⟨_, rfl⟩
            rw [hbm] at hpq hpq' HXU
            obtain ⟨vv, hvv⟩ : ∃ vv, n * 10 ^ (i - m) = vv := ⟨_, rfl⟩
            rw [hvv] at HXU ⊢
            clear hvv hid2 hlt
            cases bm
            all_goals
              go_wp2_with fail
              go_ret3
              exact RunRet.mk q vv _ rfl HXU.out (fun _ => rfl) (END.out _)
    · have hqd : decide ((q : Int) < (s.size : Int)) = false := by rw [decide_eq_false_iff_not]; omega
      have hqd' : decide (q < s.size) = false := by rw [decide_eq_false_iff_not]; omega
      have HX := Lib.hid (HN.out.stop (by rw [← hqm, hd]; simp))
      clear hd hq
      have HQM := Lib.hid hqm
      clear hqm
      go_upto_region 26 with fail
      have HXT := Lib.hid (RT.out _ HX.out)
      have HROW := Lib.hid (HN.out.row)
      have hle2 := HROW.out.le
      have DA := Lib.hid (atoi_dig HN.out.row (by omega) Y.1 (HG.out Y))
      rw [← HQM.out] at DA
      have hsl2 : ∀ W : World, (Instr.slice 9 (.string s) (some (.int .i64 (p : Int))) (some (.int .i64 (q : Int))) none).run Tryz.prog W = .ok (.string (s.extract p q)) W := fun W => by
        have := HQM.out
        rw [run_slice_string W _ _ _ _ _ _ (by kernel_rfl) (by omega) (by omega) (by omega)]
        rw [show ((p : Int)).toNat = p by omega, show ((q : Int)).toNat = q by omega]
      go_upto_region 27 with (go_at_call 109; refine DA.out.mono ?_; rintro e w3 ⟨ev, rfl, hb3⟩)
      obtain ⟨U, rfl⟩ : ∃ U : Ext V, w3 = U.1 := ⟨⟨w3, below_step Y.2 hb3⟩, rfl⟩
      have HLT := Lib.hid (HROW.out.lt)
      have hdg6 := HTT.out
      clear hb3 DA
      go_upto_region 28 with fail
      go_loopw [15, 17] (fun vv iv wr => ∃ (i : Nat), vv = .int .i64 (n * 10 ^ (i - m)) ∧ iv = .int .i64 i ∧ m ≤ i ∧ i ≤ dg ∧ wr = U.1) (fun _ iv _ => dg - (intOf iv).toNat)
      case atStart => exact ⟨m, by simp, congrArg (Value.int .i64) (by have := HQM.out; omega), Nat.le_refl _, hm6, rfl⟩
      case round =>
        obtain ⟨i, rfl, rfl, him, hid, rfl⟩ := hrel
        have u0 := c0 U
        have u1 := c1 U
        have u2 := c2 U
        have u3 := c3 U
        have u4 := c4 U
        by_cases hlt : i < dg
        case pos =>
          have l1 : decide ((i : Int) < (dg : Int)) = true := by rw [lt_b]; simpa using hlt
          have l2 : decide (i < dg) = true := by simpa using hlt
          have hsc := scaled_lt HLT.out.1 HLT.out.2 him (show i ≤ 5 by omega)
          have HPW := Lib.hid (show n * 10 ^ (i + 1 - m) = n * 10 ^ (i - m) * 10 by rw [show i + 1 - m = (i - m) + 1 by omega, Int.pow_succ, Int.mul_assoc])
          obtain ⟨vv, hvv⟩ : ∃ vv, n * 10 ^ (i - m) = vv := ⟨_, rfl⟩
          rw [hvv] at hsc HPW ⊢
          clear hvv
          go_wp2_with fail
          go_roundw
          case rel => exact ⟨i + 1, by rw [HPW.out], by go_num, by omega, by omega, by trivial⟩
          case measure => simp [intOf]; omega
        case neg =>
          have l1 : decide ((i : Int) < (dg : Int)) = false := by rw [lt_b]; simpa using hlt
          have l2 : decide (i < dg) = false := by simpa using hlt
          have hid2 : i = dg := by omega
          have HXU := Lib.hid (show Rd.runT s ⟨4, tx, lo, hi, dg⟩ p = (q, n * 10 ^ (i - m), decide (0 < m)) by rw [HXT.out, hid2, HQM.out])
          have hpq : decide ((p : Int) < (q : Int)) = decide (0 < m) := by rw [lt_b]; congr 1; rw [eq_iff_iff]; have := HQM.out; omega
          have hpq' : decide (p < q) = decide (0 < m) := by congr 1; rw [eq_iff_iff]; have := HQM.out; omega
          obtain ⟨bm, hbm⟩ : ∃ x, decide (0 < m) = x := ⟨_, rfl⟩
          rw [hbm] at hpq hpq' HXU
          obtain ⟨vv, hvv⟩ : ∃ vv, n * 10 ^ (i - m) = vv := ⟨_, rfl⟩
          rw [hvv] at HXU ⊢
          clear hvv hid2 hlt
          cases bm
          all_goals
            go_wp2_with fail
            go_ret3
            exact RunRet.mk q vv _ rfl HXU.out (fun _ => rfl) (END.out _)
    · have hqd : decide ((q : Int) < (s.size : Int)) = true := by rw [decide_eq_true_eq]; omega
      have hqd' : decide (q < s.size) = true := by simpa using hq
      have HX := Lib.hid (HN.out.stop (by rw [← hqm, hd]; simp))
      clear hd
      have HQM := Lib.hid hqm
      clear hqm
      have DIG := Lib.hid (rIsDigit_any (s[q].toNat) Y.1)
      rw [hisd] at DIG
      go_upto_region 26 with (go_at_call 107; refine DIG.out.mono ?_; rintro e _ ⟨rfl, rfl⟩)
      have HXT := Lib.hid (RT.out _ HX.out)
      have HROW := Lib.hid (HN.out.row)
      have hle2 := HROW.out.le
      have DA := Lib.hid (atoi_dig HN.out.row (by omega) Y.1 (HG.out Y))
      rw [← HQM.out] at DA
      have hsl2 : ∀ W : World, (Instr.slice 9 (.string s) (some (.int .i64 (p : Int))) (some (.int .i64 (q : Int))) none).run Tryz.prog W = .ok (.string (s.extract p q)) W := fun W => by
        have := HQM.out
        rw [run_slice_string W _ _ _ _ _ _ (by kernel_rfl) (by omega) (by omega) (by omega)]
        rw [show ((p : Int)).toNat = p by omega, show ((q : Int)).toNat = q by omega]
      go_upto_region 27 with (go_at_call 109; refine DA.out.mono ?_; rintro e w3 ⟨ev, rfl, hb3⟩)
      obtain ⟨U, rfl⟩ : ∃ U : Ext V, w3 = U.1 := ⟨⟨w3, below_step Y.2 hb3⟩, rfl⟩
      have HLT := Lib.hid (HROW.out.lt)
      have hdg6 := HTT.out
      clear hb3 DA
      go_upto_region 28 with fail
      go_loopw [15, 17] (fun vv iv wr => ∃ (i : Nat), vv = .int .i64 (n * 10 ^ (i - m)) ∧ iv = .int .i64 i ∧ m ≤ i ∧ i ≤ dg ∧ wr = U.1) (fun _ iv _ => dg - (intOf iv).toNat)
      case atStart => exact ⟨m, by simp, congrArg (Value.int .i64) (by have := HQM.out; omega), Nat.le_refl _, hm6, rfl⟩
      case round =>
        obtain ⟨i, rfl, rfl, him, hid, rfl⟩ := hrel
        have u0 := c0 U
        have u1 := c1 U
        have u2 := c2 U
        have u3 := c3 U
        have u4 := c4 U
        by_cases hlt : i < dg
        case pos =>
          have l1 : decide ((i : Int) < (dg : Int)) = true := by rw [lt_b]; simpa using hlt
          have l2 : decide (i < dg) = true := by simpa using hlt
          have hsc := scaled_lt HLT.out.1 HLT.out.2 him (show i ≤ 5 by omega)
          have HPW := Lib.hid (show n * 10 ^ (i + 1 - m) = n * 10 ^ (i - m) * 10 by rw [show i + 1 - m = (i - m) + 1 by omega, Int.pow_succ, Int.mul_assoc])
          obtain ⟨vv, hvv⟩ : ∃ vv, n * 10 ^ (i - m) = vv := ⟨_, rfl⟩
          rw [hvv] at hsc HPW ⊢
          clear hvv
          go_wp2_with fail
          go_roundw
          case rel => exact ⟨i + 1, by rw [HPW.out], by go_num, by omega, by omega, by trivial⟩
          case measure => simp [intOf]; omega
        case neg =>
          have l1 : decide ((i : Int) < (dg : Int)) = false := by rw [lt_b]; simpa using hlt
          have l2 : decide (i < dg) = false := by simpa using hlt
          have hid2 : i = dg := by omega
          have HXU := Lib.hid (show Rd.runT s ⟨4, tx, lo, hi, dg⟩ p = (q, n * 10 ^ (i - m), decide (0 < m)) by rw [HXT.out, hid2, HQM.out])
          have hpq : decide ((p : Int) < (q : Int)) = decide (0 < m) := by rw [lt_b]; congr 1; rw [eq_iff_iff]; have := HQM.out; omega
          have hpq' : decide (p < q) = decide (0 < m) := by congr 1; rw [eq_iff_iff]; have := HQM.out; omega
          obtain ⟨bm, hbm⟩ : ∃ x, decide (0 < m) = x := ⟨_, rfl⟩
          rw [hbm] at hpq hpq' HXU
          obtain ⟨vv, hvv⟩ : ∃ vv, n * 10 ^ (i - m) = vv := ⟨_, rfl⟩
          rw [hvv] at HXU ⊢
          clear hvv hid2 hlt
          cases bm
          all_goals
            go_wp2_with fail
            go_ret3
            exact RunRet.mk q vv _ rfl HXU.out (fun _ => rfl) (END.out _)
theorem run_any (t : Tok) (ht : Rd.TokOk t) (s : ByteArray) (p : Nat) (hs : s.size ≤ 1000000) (hp : p ≤ s.size) (w : World) (hg : Glo w) :
    Calls Tryz.prog 94 #[tokV t, .string s, .int .i64 p] w fun e w' => RunRet s t p w e w' := by
  rcases ht with h | h | h | h
  · exact runLit_any t h.1 s p hs hp h.2 w hg
  · exact runNum_any t h.1 s p hs hp h.2 w hg
  · exact runPair_any t h.1 s p hs hp h.2 w hg
  · exact runPart_any t h.1 s p hs hp h.2 w hg
end Go.Proofs.YthimnjegacdhaaaGreatDoor

/- Going along a form, step by step (plain). -/
namespace Rd
theorem exactLoop_le (s t : ByteArray) : ∀ (f i p : Nat), p ≤ s.size → (exactLoop s t f i p).1 ≤ s.size
  | 0, _, p, h => h
  | f + 1, i, p, h => by
    unfold exactLoop
    split
    · split
      · rename_i hc
        exact exactLoop_le s t f (i + 1) (p + 1) (by omega)
      · exact h
    · exact h
theorem pairStep_le {s : ByteArray} {most u n : Int} {q : Nat} {b : Bool} (h : q ≤ s.size) : (pairStep s most u (n, q, b)).2.1 ≤ s.size := by
  unfold pairStep
  split
  · rename_i hc
    have : q < s.size := (digAt_true hc.1).2.1
    show q + 1 ≤ s.size
    omega
  · exact h
theorem rowLoop_le (s : ByteArray) (digits : Nat) (ok : Bool) : ∀ (f : Nat) (n : Int) (m p : Nat), p ≤ s.size → (rowLoop s digits ok f n m p).2.2 ≤ s.size
  | 0, n, m, p, h => h
  | f + 1, n, m, p, h => by
    unfold rowLoop
    split
    · rename_i hc
      have := (digAt_true hc.2).2.1
      exact rowLoop_le s digits ok f _ _ _ (by omega)
    · exact h
theorem runT_le {s : ByteArray} {t : Tok} {p : Nat} (h : p ≤ s.size) : (runT s t p).1 ≤ s.size := by
  unfold runT
  split
  · show (exactAt s t.text p true).1 ≤ _
    unfold exactAt
    rw [if_pos rfl]
    exact exactLoop_le s t.text _ _ _ h
  · split
    · show (pairAt s t.high p true).2.1 ≤ _
      unfold pairAt
      exact pairStep_le (n := (pairStep s t.high 10 (0, p, true)).1) (b := (pairStep s t.high 10 (0, p, true)).2.2) (pairStep_le h)
    · split
      · exact numLoop_pos _ _ _ _ _ _ _ _ _ h
      · exact rowLoop_le _ _ _ _ _ _ _ h
def tok0 : Tok := litT ⟨#[]⟩
/-- behind k tokens of a form, at q, with the values L -/
def MatchAt (s : ByteArray) (f : List Tok) (k q : Nat) (L : List Int) : Prop :=
  matchT s f 0 = ((matchT s (f.drop k) q).1, L ++ (matchT s (f.drop k) q).2.1, (matchT s (f.drop k) q).2.2)
theorem MatchAt.start (s : ByteArray) (f : List Tok) : MatchAt s f 0 0 [] := rfl
theorem MatchAt.next {s : ByteArray} {f : List Tok} {k q : Nat} {L : List Int} (h : MatchAt s f k q L) {t : Tok} (ht : f[k]? = some t) (hr : (runT s t q).2.2 = true) :
    MatchAt s f (k + 1) (runT s t q).1 (if t.kind = 1 then L else L ++ [(runT s t q).2.1]) := by
  unfold MatchAt at h ⊢
  have hk : k < f.length := (List.getElem?_eq_some_iff.1 ht).1
  rw [h, List.drop_eq_getElem_cons hk, (List.getElem?_eq_some_iff.1 ht).2, matchT, if_pos hr]
  split <;> simp
theorem MatchAt.fail {s : ByteArray} {f : List Tok} {k q : Nat} {L : List Int} (h : MatchAt s f k q L) {t : Tok} (ht : f[k]? = some t) (hr : (runT s t q).2.2 = false) : matchT s f 0 = ((runT s t q).1, L, false) := by
  unfold MatchAt at h
  have hk : k < f.length := (List.getElem?_eq_some_iff.1 ht).1
  rw [h, List.drop_eq_getElem_cons hk, (List.getElem?_eq_some_iff.1 ht).2, matchT, if_neg (by rw [hr]; simp)]
  simp
theorem MatchAt.done {s : ByteArray} {f : List Tok} {k q : Nat} {L : List Int} (h : MatchAt s f k q L) (hk : k = f.length) : matchT s f 0 = (q, L, decide (q = s.size)) := by
  unfold MatchAt at h
  rw [h, hk, List.drop_length]
  simp [matchT]
theorem matchT_le {s : ByteArray} : ∀ (f : List Tok) (q : Nat), q ≤ s.size → (matchT s f q).1 ≤ s.size
  | [], q, h => h
  | t :: f, q, h => by
    rw [matchT]
    split
    · exact matchT_le f _ (runT_le h)
    · exact runT_le h
/-- behind k forms -/
def FirstAt (s : ByteArray) (l : List (List Tok)) (k far : Nat) : Prop := firstT s l 0 0 = firstT s (l.drop k) k far
theorem FirstAt.start (s : ByteArray) (l : List (List Tok)) : FirstAt s l 0 0 := rfl
theorem FirstAt.next {s : ByteArray} {l : List (List Tok)} {k far : Nat} (h : FirstAt s l k far) {f : List Tok} (hf : l[k]? = some f) (hm : (matchT s f 0).2.2 = false) : FirstAt s l (k + 1) (max far (matchT s f 0).1) := by
  unfold FirstAt at h ⊢
  have hk : k < l.length := (List.getElem?_eq_some_iff.1 hf).1
  rw [h, List.drop_eq_getElem_cons hk, (List.getElem?_eq_some_iff.1 hf).2, firstT, if_neg (by rw [hm]; simp)]
theorem FirstAt.hit {s : ByteArray} {l : List (List Tok)} {k far : Nat} (h : FirstAt s l k far) {f : List Tok} (hf : l[k]? = some f) (hm : (matchT s f 0).2.2 = true) : firstT s l 0 0 = ((k : Int), (matchT s f 0).2.1, 0) := by
  unfold FirstAt at h
  have hk : k < l.length := (List.getElem?_eq_some_iff.1 hf).1
  rw [h, List.drop_eq_getElem_cons hk, (List.getElem?_eq_some_iff.1 hf).2, firstT, if_pos hm]
theorem FirstAt.done {s : ByteArray} {l : List (List Tok)} {k far : Nat} (h : FirstAt s l k far) (hk : k = l.length) : firstT s l 0 0 = (-1, [], far) := by
  unfold FirstAt at h
  rw [h, hk, List.drop_length]
  rfl
end Rd

/- Going along a form; the first form that a text has (reference). -/
namespace Go.Proofs.YthimnjegacdhaaaGreatDoor
open Go.RowKit Go.BigFrame
open Rd (sB bt itoaB Tok TokOk matchT firstT tok0 MatchAt FirstAt)

/-- a form as it lies in memory -/
def FormIn (w : World) (a : Option Addr) (f : List Tok) : Prop := RowK w a f.length 5 (fun i => tokCells (f.getD i tok0))
/-- what match hands back -/
def MatchRet (s : ByteArray) (f : List Tok) (w : World) (e : Ending) (w' : World) : Prop :=
  ∃ lv, e = .returned (.tuple #[.int .i64 (matchT s f 0).1, lv, .bool (matchT s f 0).2.2]) ∧ Below w.heap.size w w' ∧ ((matchT s f 0).2.2 = true → w'.ownsRow w.heap.size 3 1 lv (matchT s f 0).2.1.length ((matchT s f 0).2.1.map (.int .i64)))
theorem MatchRet.mk {s : ByteArray} {f : List Tok} {w w' : World} {e : Ending} {q : Nat} {L : List Int} {b : Bool} (lv : Value) (he : e = .returned (.tuple #[.int .i64 q, lv, .bool b])) (h : matchT s f 0 = (q, L, b)) (hb : Below w.heap.size w w') (ho : b = true → w'.ownsRow w.heap.size 3 1 lv L.length (L.map (.int .i64))) : MatchRet s f w e w' := by
  refine ⟨lv, ?_, hb, ?_⟩
  · rw [h]; exact he
  · rw [h]; exact ho
set_option maxHeartbeats 4000000 in
set_option maxRecDepth 100000 in
theorem match_any (s : ByteArray) (f : List Tok) (a : Option Addr) (c : Nat) (w : World) (hs : s.size ≤ 1000000) (hr : FormIn w a f) (hok : ∀ t, t ∈ f → TokOk t) (hfl : f.length ≤ 1000) (hg : Glo w) :
    Calls Tryz.prog 65 #[.string s, .slice a f.length c] w fun e w' => MatchRet s f w e w' := by
  have HR := Lib.hid hr
  have HG := Lib.hid hg
  have D := Lib.hid (fun (t : Tok) (ht : TokOk t) (q : Nat) (hq : q ≤ s.size) (W : World) (hW : Below w.heap.size w W) => run_any t ht s q hs hq W (hg.below hW))
  have HOK := Lib.hid (fun (k : Nat) (hk : k < f.length) => hok (f.getD k tok0) (by rw [List.getD_eq_getElem?_getD, List.getElem?_eq_getElem hk]; exact List.getElem_mem hk))
  have HGT := Lib.hid (fun (k : Nat) (hk : k < f.length) => (show f[k]? = some (f.getD k tok0) by rw [List.getD_eq_getElem?_getD, List.getElem?_eq_getElem hk]; rfl))
  clear hg hok hr
  obtain ⟨i0, hi0, hz0, hz1, hz2⟩ := info_parts (show (Tryz.prog.info? 3).map (fun i => (i.zero, i.size, i.bytes)) = some (some (.int .i64 0), 1, 8) by kernel_rfl)
  go_enter Tryz.func65, Tryz.ntmps65
  go_wp2_with fail
  go_loopw [7, 8, 16] (fun av lv iv wr => ∃ (q k : Nat) (L : List Int), av = .int .i64 q ∧ iv = .int .i64 k ∧ k ≤ f.length ∧ q ≤ s.size ∧ L.length ≤ k ∧ Hid (Below w.heap.size w wr) ∧ Hid (wr.ownsRow w.heap.size 3 1 lv L.length (L.map (.int .i64))) ∧ Hid (MatchAt s f k q L)) (fun _ _ iv _ => f.length - (intOf iv).toNat)
  case atStart => exact ⟨0, 0, [], rfl, rfl, by omega, by omega, by simp, Lib.hid (Below.refl _ _), Lib.hid (World.ownsRow_nil _ _ _ _), Lib.hid (MatchAt.start s f)⟩
  case round =>
    obtain ⟨q, k, L, rfl, rfl, hk, hq, hL, HB, HO, HM⟩ := hrel
    have hq1 : q ≤ 1000000 := by omega
    by_cases hlt : k < f.length
    case neg =>
      have t1 : decide ((k : Int) < (f.length : Int)) = false := by rw [lt_b]; simpa using hlt
      have t1' : decide (k < f.length) = false := by simpa using hlt
      have HX := Lib.hid (HM.out.done (by omega))
      obtain ⟨be, hbe⟩ : ∃ x, decide (q = s.size) = x := ⟨_, rfl⟩
      have hbe' : ((q : Int) == (s.size : Int)) = be := by rw [eq_b, hbe]
      rw [hbe] at HX
      clear HM hbe
      go_wp2_with fail
      go_ret3
      exact MatchRet.mk u8 rfl HX.out HB.out (fun _ => HO.out)
    case pos =>
      have t1 : decide ((k : Int) < (f.length : Int)) = true := by rw [lt_b]; simpa using hlt
      have t1' : decide (k < f.length) = true := by simpa using hlt
      have hsz := HB.out.size
      obtain ⟨b, off, rfl, hbl, hcc⟩ := (HR.out.below HB.out (Nat.le_refl _)).here (by omega)
      have ht := HGT.out k hlt
      have hto := HOK.out k hlt
      have e0 := hcc k hlt 0 (by omega)
      have e1 := hcc k hlt 1 (by omega)
      have e2 := hcc k hlt 2 (by omega)
      have e3 := hcc k hlt 3 (by omega)
      have e4 := hcc k hlt 4 (by omega)
      clear hcc
      obtain ⟨t, htt⟩ : ∃ t, f.getD k tok0 = t := ⟨_, rfl⟩
      rw [htt] at ht hto e0 e1 e2 e3 e4
      have HT := Lib.hid ht
      have HTO := Lib.hid hto
      clear ht hto htt
      replace e0 : wr.cell? ⟨b, off + k * 5, none⟩ = some (.int .i64 t.kind) := e0
      replace e1 : wr.cell? ⟨b, off + k * 5 + 1, none⟩ = some (.string t.text) := e1
      replace e2 : wr.cell? ⟨b, off + k * 5 + 2, none⟩ = some (.int .i64 t.low) := e2
      replace e3 : wr.cell? ⟨b, off + k * 5 + 3, none⟩ = some (.int .i64 t.high) := e3
      replace e4 : wr.cell? ⟨b, off + k * 5 + 4, none⟩ = some (.int .i64 t.digits) := e4
      obtain ⟨V, hV, hvb, hvs, hvl⟩ := alloc_cells wr #[.int .i64 t.kind, .string t.text, .int .i64 t.low, .int .i64 t.high, .int .i64 t.digits] 57
      have M0 := Ext.ex (hvl 0 _ rfl)
      have M1 := Ext.ex (hvl 1 _ rfl)
      have M2 := Ext.ex (hvl 2 _ rfl)
      have M3 := Ext.ex (hvl 3 _ rfl)
      have M4 := Ext.ex (hvl 4 _ rfl)
      have HV := Lib.hid hV
      have HBV := Lib.hid (HB.out.trans (hvb.mono hsz))
      have HOV := Lib.hid (ownsRow_below HO.out hvb)
      have HSV := Lib.hid (show w.heap.size ≤ V.heap.size by omega)
      have DR := Lib.hid (fun (X : Ext V) => D.out t HTO.out q hq X.1 (X.down HBV.out HSV.out))
      have HNX := Lib.hid (fun h => HM.out.next HT.out h)
      have HFA := Lib.hid (fun h => HM.out.fail HT.out h)
      have hrl := Rd.runT_le (t := t) hq
      unfold tokV at DR
      clear hvl hV hvb hvs HO HM
      obtain ⟨p6, hp6⟩ : ∃ p6, wr.heap.size = p6 := ⟨_, rfl⟩
      rw [hp6] at M0 M1 M2 M3 M4
      have HP6 := Lib.hid hp6
      clear hp6
      go_upto_region 6 with fail
      rw [HV.out, HP6.out]
      refine ext_wp fun X => ?_
      have m0 := M0 X
      have m1 := M1 X
      have m2 := M2 X
      have m3 := M3 X
      have m4 := M4 X
      clear e0 e1 e2 e3 e4
      go_upto_region 7 with (go_at_call 94; refine (DR.out X).mono ?_; rintro e w2 ⟨v, rfl, hv, hb2⟩)
      obtain ⟨Y, rfl⟩ : ∃ Y : Ext V, w2 = Y.1 := ⟨⟨w2, below_step X.2 hb2⟩, rfl⟩
      have n0 := M0 Y
      have HV2 := Lib.hid hv
      clear hb2 m0 m1 m2 m3 m4 M0 M1 M2 M3 M4 hv HV
      obtain ⟨ret, hret⟩ : ∃ x, Rd.runT s t q = x := ⟨_, rfl⟩
      rw [hret] at HNX HFA hrl HV2 ⊢
      obtain ⟨q2, u, ok⟩ := ret
      simp only at HNX HFA hrl HV2 ⊢
      clear hret
      cases ok
      case false =>
        have HX := Lib.hid (HFA.out rfl)
        clear HNX HFA
        go_wp2_with fail
        go_ret3
        exact MatchRet.mk (.slice none 0 0) rfl HX.out (Y.down HBV.out HSV.out) (fun h => by cases h)
      case true =>
      obtain rfl := HV2.out rfl
      have HN := Lib.hid (HNX.out rfl)
      clear HNX HFA HV2
      have HBY := Lib.hid (Y.down HBV.out HSV.out)
      have HOY := Lib.hid (ownsRow_below HOV.out Y.2)
      have hys := HBY.out.size
      by_cases hkd : t.kind = 1
      case pos =>
        have k1 : ((t.kind : Int) != 1) = false := by simp; omega
        have k2 : ((t.kind : Int) == 1) = true := by simp; omega
        rw [if_pos hkd] at HN
        go_wp2_with fail
        go_roundw
        case rel => exact ⟨q2, k + 1, L, rfl, by go_num, by omega, hrl, by omega, HBY, HOY, HN⟩
        case measure => simp [intOf]; omega
      case neg =>
        have k1 : ((t.kind : Int) != 1) = true := by simp; omega
        have k2 : ((t.kind : Int) == 1) = false := by simp; omega
        rw [if_neg hkd] at HN
        have O2 := HOY.out
        go_wp2_with (first
          | (at_builtin; go_loud (
             refine wpList_append_own _ rfl _ _ 63 rfl w.heap.size 3 i0 (.int .i64 0) 1 8 Tryz.underlying63 hi0 hz0 hz1 hz2 rfl (by decide) u8 L.length (L.map (.int .i64)) rfl (O2.alloc _) ⟨Y.1.heap.size, 0, none⟩ 1 1 [.int .i64 v] rfl rfl (fun j u hj => by match j, hj with | 0, hj => (simp at hj; subst hj; simp [Addr.add])) (fun u hu => by simp at hu; subst hu; rfl) (by unfold maxLen; omega) (by omega) (by simp; omega) ?_
             intro v' w3 hown' hgrow _
             have HW3 := Lib.hid hown'
             have HG3 := Lib.hid hgrow
             clear hown' hgrow))
          | fail)
        go_roundw
        case rel => exact ⟨q2, k + 1, L ++ [v], rfl, by go_num, by omega, hrl, by simp; omega, Lib.hid ((HBY.out.alloc (by omega) _).grown HG3.out (by simp; omega) (fun b hb => by have := O2.lt b hb; omega)), Lib.hid (by simpa using HW3.out), HN⟩
        case measure => simp [intOf]; omega
/-- forms as they lie in memory -/
def FormsIn (w : World) (a : Option Addr) (l : List (List Tok)) : Prop :=
  ∀ j f, l[j]? = some f → ∃ b off aj cj, a = some ⟨b, off, none⟩ ∧ b < w.heap.size ∧ w.cell? ⟨b, off + j, none⟩ = some (.slice aj f.length cj) ∧ FormIn w aj f ∧ (∀ t, t ∈ f → TokOk t) ∧ f.length ≤ 1000
theorem FormsIn.below {w w' : World} {a : Option Addr} {l : List (List Tok)} (h : FormsIn w a l) (hb : Below w.heap.size w w') : FormsIn w' a l := by
  intro j f hf
  obtain ⟨b, off, aj, cj, h1, h2, h3, h4, h5, h6⟩ := h j f hf
  exact ⟨b, off, aj, cj, h1, Nat.lt_of_lt_of_le h2 hb.size, below_cell hb h3, RowK.below h4 hb (Nat.le_refl _), h5, h6⟩
/-- what first hands back -/
def FirstRet (s : ByteArray) (l : List (List Tok)) (w : World) (e : Ending) (w' : World) : Prop :=
  ∃ lv, e = .returned (.tuple #[.int .i64 (firstT s l 0 0).1, lv, .int .i64 ((firstT s l 0 0).2.2 : Nat)]) ∧ Below w.heap.size w w' ∧ (0 ≤ (firstT s l 0 0).1 → w'.ownsRow w.heap.size 3 1 lv (firstT s l 0 0).2.1.length ((firstT s l 0 0).2.1.map (.int .i64)))
theorem FirstRet.mk {s : ByteArray} {l : List (List Tok)} {w w' : World} {e : Ending} {n : Int} {far : Nat} {L : List Int} (lv : Value) (he : e = .returned (.tuple #[.int .i64 n, lv, .int .i64 (far : Nat)])) (h : firstT s l 0 0 = (n, L, far)) (hb : Below w.heap.size w w') (ho : 0 ≤ n → w'.ownsRow w.heap.size 3 1 lv L.length (L.map (.int .i64))) : FirstRet s l w e w' := by
  refine ⟨lv, ?_, hb, ?_⟩
  · rw [h]; exact he
  · rw [h]; exact ho
set_option maxHeartbeats 4000000 in
set_option maxRecDepth 100000 in
theorem first_any (s : ByteArray) (l : List (List Tok)) (a : Option Addr) (c : Nat) (w : World) (hs : s.size ≤ 1000000) (hr : FormsIn w a l) (hl : l.length ≤ 1000) (hg : Glo w) :
    Calls Tryz.prog 43 #[.string s, .slice a l.length c] w fun e w' => FirstRet s l w e w' := by
  have HR := Lib.hid hr
  have D := Lib.hid (fun (f : List Tok) (hfo : ∀ t, t ∈ f → TokOk t) (hfl : f.length ≤ 1000) (a : Option Addr) (c : Nat) (W : World) (hW : Below w.heap.size w W) (hf : FormIn W a f) => match_any s f a c W hs hf hfo hfl (hg.below hW))
  have HGT := Lib.hid (fun (k : Nat) (hk : k < l.length) => (show l[k]? = some (l[k]) from List.getElem?_eq_getElem hk))
  clear hg hr
  go_enter Tryz.func43, Tryz.ntmps43
  go_wp2_with fail
  go_loopw [7, 15] (fun fv iv wr => ∃ (far k : Nat), fv = .int .i64 far ∧ iv = .int .i64 k ∧ k ≤ l.length ∧ far ≤ s.size ∧ Hid (Below w.heap.size w wr) ∧ Hid (FirstAt s l k far)) (fun _ iv _ => l.length - (intOf iv).toNat)
  case atStart => exact ⟨0, 0, rfl, rfl, by omega, by omega, Lib.hid (Below.refl _ _), Lib.hid (FirstAt.start s l)⟩
  case round =>
    obtain ⟨far, k, rfl, rfl, hk, hfar, HB, HF⟩ := hrel
    by_cases hlt : k < l.length
    case neg =>
      have t1 : decide ((k : Int) < (l.length : Int)) = false := by rw [lt_b]; simpa using hlt
      have t1' : decide (k < l.length) = false := by simpa using hlt
      have HX := Lib.hid (HF.out.done (by omega))
      clear HF
      go_wp2_with fail
      go_ret3
      exact FirstRet.mk (.slice none 0 0) rfl HX.out HB.out (fun h => absurd h (by omega))
    case pos =>
      have t1 : decide ((k : Int) < (l.length : Int)) = true := by rw [lt_b]; simpa using hlt
      have t1' : decide (k < l.length) = true := by simpa using hlt
      have hsz := HB.out.size
      have ht := HGT.out k hlt
      obtain ⟨f, hff⟩ : ∃ f, l[k] = f := ⟨_, rfl⟩
      rw [hff] at ht
      obtain ⟨b, off, aj, cj, rfl, hbl, hc, hin, hto, hfl⟩ := (HR.out.below HB.out) k f ht
      have HT := Lib.hid ht
      have DM := Lib.hid (D.out f hto hfl aj cj wr HB.out hin)
      have hml := Rd.matchT_le (s := s) f 0 (Nat.zero_le _)
      clear ht hto hin hff
      obtain ⟨m, hm⟩ : ∃ x, matchT s f 0 = x := ⟨_, rfl⟩
      have HNX := Lib.hid (fun h => HF.out.next HT.out h)
      have HHI := Lib.hid (fun h => HF.out.hit HT.out h)
      unfold MatchRet at DM
      rw [hm] at DM HNX HHI hml
      obtain ⟨q2, L, ok⟩ := m
      simp only at DM HNX HHI hml
      clear hm HF
      go_upto_region 6 with (go_at_call 65; refine DM.out.mono ?_; rintro e w2 ⟨lv, rfl, hb2, hown⟩)
      have HB2 := Lib.hid (HB.out.trans (hb2.mono hsz))
      cases ok
      case true =>
        have HX := Lib.hid (HHI.out rfl)
        have HO := Lib.hid ((hown rfl).mono hsz)
        clear HNX HHI hown hb2
        go_wp2_with fail
        go_ret3
        exact FirstRet.mk lv rfl HX.out HB2.out (fun _ => HO.out)
      case false =>
        have HN := Lib.hid (HNX.out rfl)
        clear HNX HHI hown hb2
        go_wp2_with fail
        go_roundw
        case rel => exact ⟨max far q2, k + 1, by go_num, by go_num, by omega, by omega, HB2, HN⟩
        case measure => simp [intOf]; omega
end Go.Proofs.YthimnjegacdhaaaGreatDoor

/- What the values of a form are at most; the letters of a form (plain). -/
namespace Rd
/-- values of tokens that are no fractions -/
theorem runT_val {s : ByteArray} {t : Tok} {p : Nat} {M : Int} (hk : t.kind = 2 ∨ t.kind = 3) (h0 : 0 ≤ t.high) (hM : t.high ≤ M) : 0 ≤ (runT s t p).2.1 ∧ (runT s t p).2.1 ≤ M := by
  unfold runT
  rcases hk with hk | hk
  · rw [if_neg (by omega), if_neg (by omega), if_pos hk]
    have := numAt_val s t.digits t.low t.high true p h0
    exact ⟨this.1, Int.le_trans this.2 hM⟩
  · rw [if_neg (by omega), if_pos hk]
    have := pairAt_val s (most := t.high) p true h0
    exact ⟨this.1, Int.le_trans this.2 hM⟩
def Small (M : Int) (t : Tok) : Prop := t.kind = 1 ∨ ((t.kind = 2 ∨ t.kind = 3) ∧ 0 ≤ t.high ∧ t.high ≤ M)
theorem matchT_vals {s : ByteArray} {M : Int} : ∀ (f : List Tok) (p : Nat), (∀ t, t ∈ f → Small M t) → ∀ v, v ∈ (matchT s f p).2.1 → 0 ≤ v ∧ v ≤ M
  | [], p, _, v, hv => by simp [matchT] at hv
  | t :: f, p, h, v, hv => by
    have ih := matchT_vals (s := s) f (runT s t p).1 (fun t ht => h t (List.mem_cons_of_mem _ ht)) v
    rw [matchT] at hv
    split at hv
    · by_cases hk : t.kind = 1
      · simp only [if_pos hk] at hv
        exact ih hv
      · simp only [if_neg hk] at hv
        rcases List.mem_cons.1 hv with rfl | hv
        · rcases h t (List.mem_cons_self ..) with h1 | ⟨h1, h2, h3⟩
          · exact absurd h1 hk
          · exact runT_val h1 h2 h3
        · exact ih hv
    · simp at hv
def nVals : List Tok → Nat
  | [] => 0
  | t :: f => (if t.kind = 1 then 0 else 1) + nVals f
theorem matchT_len {s : ByteArray} : ∀ (f : List Tok) (p : Nat), (matchT s f p).2.2 = true → (matchT s f p).2.1.length = nVals f
  | [], p, _ => rfl
  | t :: f, p, h => by
    rw [matchT] at h ⊢
    by_cases hr : (runT s t p).2.2 = true
    · rw [if_pos hr] at h ⊢
      have ih := matchT_len (s := s) f (runT s t p).1 h
      unfold nVals
      by_cases hk : t.kind = 1
      · simp only [if_pos hk]
        rw [ih]; omega
      · simp only [if_neg hk, List.length_cons]
        rw [ih]; omega
    · rw [if_neg hr] at h
      cases h
theorem firstT_len {s : ByteArray} (l : List (List Tok)) (h : 0 ≤ (firstT s l 0 0).1) : ∃ (k : Nat) (f : List Tok), l[k]? = some f ∧ (firstT s l 0 0).1 = (k : Int) ∧ (matchT s f 0).2.2 = true ∧ (firstT s l 0 0).2.1 = (matchT s f 0).2.1 := by
  by_cases hex : ∃ f, f ∈ l ∧ (matchT s f 0).2.2 = true
  · obtain ⟨k, f, h1, h2, _, h4⟩ := firstT_some l 0 0 hex
    rw [h4]
    exact ⟨k, f, h1, by simp, h2, rfl⟩
  · rw [firstT_none l 0 0 (fun f hf => by
      cases hm : (matchT s f 0).2.2 with
      | false => rfl
      | true => exact absurd ⟨f, hf, hm⟩ hex)] at h
    exact absurd h (by show ¬ (0 : Int) ≤ -1; omega)
/-! ### the forms of durations -/
theorem dot_step : ∀ (k : Nat) (L us : List Int), k < L.length → k < us.length → dotU (L.take (k + 1)) (us.take (k + 1)) = dotU (L.take k) (us.take k) + L.getD k 0 * us.getD k 0
  | _, [], _, h, _ => by simp at h
  | _, _ :: _, [], _, h => by simp at h
  | 0, v :: L, u :: us, _, _ => by simp [dotU]
  | k + 1, v :: L, u :: us, h1, h2 => by
    have := dot_step k L us (by simpa using h1) (by simpa using h2)
    rw [List.take_succ_cons, List.take_succ_cons, dotU, this, List.take_succ_cons, List.take_succ_cons, dotU]
    simp only [List.getD_cons_succ]
    omega
theorem dot_small {M : Int} : ∀ (k : Nat) (L us : List Int), (∀ v, v ∈ L → 0 ≤ v ∧ v ≤ M) → (∀ u, u ∈ us → 0 ≤ u ∧ u ≤ 3600) → 0 ≤ M → 0 ≤ dotU (L.take k) (us.take k) ∧ dotU (L.take k) (us.take k) ≤ k * (M * 3600)
  | 0, L, us, _, _, _ => by simp [dotU]
  | k + 1, [], us, _, _, hM => by
    rw [List.take_nil, show dotU [] (List.take (k + 1) us) = 0 from rfl]
    exact ⟨Int.le_refl _, Int.mul_nonneg (by omega) (by omega)⟩
  | k + 1, v :: L, [], _, _, hM => by
    rw [List.take_nil, show dotU (List.take (k + 1) (v :: L)) [] = 0 from rfl]
    exact ⟨Int.le_refl _, Int.mul_nonneg (by omega) (by omega)⟩
  | k + 1, v :: L, u :: us, h1, h2, hM => by
    have ih := dot_small k L us (fun v hv => h1 v (List.mem_cons_of_mem _ hv)) (fun u hu => h2 u (List.mem_cons_of_mem _ hu)) hM
    have hv := h1 v (List.mem_cons_self ..)
    have hu := h2 u (List.mem_cons_self ..)
    rw [List.take_succ_cons, List.take_succ_cons, dotU]
    have a1 : 0 ≤ v * u := Int.mul_nonneg hv.1 hu.1
    have a2 : v * u ≤ M * 3600 := Int.le_trans (Int.mul_le_mul_of_nonneg_right hv.2 hu.1) (Int.mul_le_mul_of_nonneg_left hu.2 hM)
    refine ⟨by omega, ?_⟩
    rw [show ((k + 1 : Nat) : Int) * (M * 3600) = (k : Int) * (M * 3600) + M * 3600 by rw [Int.natCast_add, Int.add_mul]; simp]
    omega
def letL (i : Nat) : Nat := [104, 109, 115].getD i 0
def bitOn (k i : Nat) : Bool := k / 2 ^ i % 2 == 1
/-- the letters of form k below i -/
def sel (k : Nat) : Nat → List Nat
  | 0 => []
  | i + 1 => if bitOn k i = true then sel k i ++ [letL i] else sel k i
theorem lform_snoc (c : Nat) : ∀ S : List Nat, lform (S ++ [c]) = lform S ++ [numT 0 9999999 7, litT (byteT c)]
  | [] => rfl
  | d :: S => by
    show _ :: _ :: lform (S ++ [c]) = _ :: _ :: (lform S ++ _)
    rw [lform_snoc c S]
theorem sel_dur {k : Nat} (h1 : 1 ≤ k) (h7 : k ≤ 7) : durT[k + 1]? = some (lform (sel k 3)) ∧ durU[k + 1]? = some ((sel k 3).map unitL) ∧ sel k 3 ≠ [] := by
  rcases (show k = 1 ∨ k = 2 ∨ k = 3 ∨ k = 4 ∨ k = 5 ∨ k = 6 ∨ k = 7 by omega) with rfl | rfl | rfl | rfl | rfl | rfl | rfl
  all_goals exact ⟨rfl, rfl, by decide⟩
theorem sel_len (k : Nat) : ∀ i, (sel k i).length ≤ i
  | 0 => Nat.le_refl _
  | i + 1 => by
    have := sel_len k i
    unfold sel
    split
    · simp; omega
    · omega
theorem lform_len : ∀ S : List Nat, (lform S).length = 2 * S.length
  | [] => rfl
  | c :: S => by
    show (lform S).length + 1 + 1 = _
    rw [lform_len S]
    simp only [List.length_cons]; omega
theorem lform_ok : ∀ S : List Nat, ∀ t, t ∈ lform S → TokOk t ∧ Small 9999999 t
  | [], t, h => by cases h
  | c :: S, t, h => by
    rcases List.mem_cons.1 h with rfl | h
    · exact ⟨Or.inr (Or.inl ⟨rfl, Or.inl rfl, by decide, by decide, by decide⟩), Or.inr ⟨Or.inl rfl, by decide, by decide⟩⟩
    · rcases List.mem_cons.1 h with rfl | h
      · exact ⟨Or.inl ⟨rfl, by show 1 ≤ 100; decide⟩, Or.inl rfl⟩
      · exact lform_ok S t h
theorem num_ok {lo hi : Int} {d : Nat} (h0 : lo = 0 ∨ lo = 1) (h1 : 0 ≤ hi) (h2 : hi ≤ 9999999) (h3 : d ≤ 13) : TokOk (numT lo hi d) ∧ Small 9999999 (numT lo hi d) := ⟨Or.inr (Or.inl ⟨rfl, h0, h1, by show hi ≤ _; omega, h3⟩), Or.inr ⟨Or.inl rfl, h1, h2⟩⟩
theorem pair_ok {hi : Int} (h1 : 0 ≤ hi) (h2 : hi ≤ 99) : TokOk (pairT hi) ∧ Small 9999999 (pairT hi) := ⟨Or.inr (Or.inr (Or.inl ⟨rfl, h1, h2⟩)), Or.inr ⟨Or.inr rfl, h1, by show hi ≤ _; omega⟩⟩
theorem colon_ok : TokOk (litT colon) ∧ Small 9999999 (litT colon) := ⟨Or.inl ⟨rfl, by decide⟩, Or.inl rfl⟩
theorem dur_ok {f : List Tok} (hf : f ∈ durT) : (∀ t, t ∈ f → TokOk t ∧ Small 9999999 t) ∧ f.length ≤ 6 := by
  simp only [durT, List.mem_cons, List.not_mem_nil, or_false] at hf
  rcases hf with rfl | rfl | h
  · refine ⟨fun t ht => ?_, by decide⟩
    simp only [shortT, List.mem_cons, List.not_mem_nil, or_false] at ht
    rcases ht with rfl | rfl | rfl
    · exact num_ok (Or.inl rfl) (by decide) (by decide) (by decide)
    · exact colon_ok
    · exact pair_ok (by decide) (by decide)
  · refine ⟨fun t ht => ?_, by decide⟩
    simp only [longT, List.mem_cons, List.not_mem_nil, or_false] at ht
    rcases ht with rfl | rfl | rfl | rfl | rfl
    · exact num_ok (Or.inr rfl) (by decide) (by decide) (by decide)
    · exact colon_ok
    · exact pair_ok (by decide) (by decide)
    · exact colon_ok
    · exact pair_ok (by decide) (by decide)
  · have : ∃ S : List Nat, f = lform S ∧ S.length ≤ 3 := by
      rcases h with rfl | rfl | rfl | rfl | rfl | rfl | rfl
      · exact ⟨_, rfl, by decide⟩
      · exact ⟨_, rfl, by decide⟩
      · exact ⟨_, rfl, by decide⟩
      · exact ⟨_, rfl, by decide⟩
      · exact ⟨_, rfl, by decide⟩
      · exact ⟨_, rfl, by decide⟩
      · exact ⟨_, rfl, by decide⟩
    obtain ⟨S, rfl, hS⟩ := this
    exact ⟨lform_ok S, by rw [lform_len]; omega⟩
/-- what a duration's values are like -/
theorem dur_vals {s : ByteArray} (h : 0 ≤ (firstT s durT 0 0).1) : ∃ k : Nat, (firstT s durT 0 0).1 = (k : Int) ∧ k < 9 ∧ (firstT s durT 0 0).2.1.length = (durU.getD k []).length ∧ (∀ v, v ∈ (firstT s durT 0 0).2.1 → 0 ≤ v ∧ v ≤ 9999999) := by
  obtain ⟨k, f, h1, h2, h3, h4⟩ := firstT_len durT h
  have hk : k < 9 := (List.getElem?_eq_some_iff.1 h1).1
  refine ⟨k, h2, hk, ?_, ?_⟩
  · rw [h4, matchT_len f 0 h3]
    have : durT[k]? = some f := h1
    rcases (show k = 0 ∨ k = 1 ∨ k = 2 ∨ k = 3 ∨ k = 4 ∨ k = 5 ∨ k = 6 ∨ k = 7 ∨ k = 8 by omega) with rfl | rfl | rfl | rfl | rfl | rfl | rfl | rfl | rfl
    all_goals
      injection h1 with h1
      subst h1
      rfl
  · rw [h4]
    exact matchT_vals f 0 (fun t ht => ((dur_ok (List.mem_of_getElem? h1)).1 t ht).2)
theorem durU_small {k : Nat} (hk : k < 9) : (∀ u, u ∈ durU.getD k [] → 0 ≤ u ∧ u ≤ 3600) ∧ (durU.getD k []).length ≤ 3 ∧ 0 < (durU.getD k []).length := by
  rcases (show k = 0 ∨ k = 1 ∨ k = 2 ∨ k = 3 ∨ k = 4 ∨ k = 5 ∨ k = 6 ∨ k = 7 ∨ k = 8 by omega) with rfl | rfl | rfl | rfl | rfl | rfl | rfl | rfl | rfl
  all_goals exact ⟨by decide, by decide, by decide⟩
end Rd

/- ReadDuration of the reference. -/
namespace Go.Proofs.YthimnjegacdhaaaGreatDoor
open Go.RowKit Go.BigFrame
open Rd (sB bt itoaB Tok TokOk matchT firstT tok0 durT durU refDur dotU shortT longT lform litT numT pairT byteT unitL sel letL bitOn)

theorem lt_of_block {w : World} {b : Nat} {o : Obj} (h : w.heap[b]? = some o) : b < w.heap.size := (Array.getElem?_eq_some_iff.1 h).1
theorem block_cell {w : World} {b i : Nat} {cs : Array Value} {T : TypeId} {v : Value} (h : w.heap[b]? = some (.cells cs T (0, 0))) (hv : cs[i]? = some v) : w.cell? ⟨b, i, none⟩ = some v := by simp [World.cell?, h, hv]
theorem alloc_block (w : World) (cs : Array Value) (T : TypeId) : ∃ W, w.alloc (.cells cs T) = W ∧ Below w.heap.size w W ∧ W.heap.size = w.heap.size + 1 ∧ W.heap[w.heap.size]? = some (.cells cs T (0, 0)) :=
  ⟨_, rfl, below_al _ _, by simp, heap_alloc_new w _⟩
theorem below_block {w w' : World} {b : Nat} {o : Obj} (hb : Below w.heap.size w w') (h : w.heap[b]? = some o) : w'.heap[b]? = some o := (hb.block b (lt_of_block h)).trans h
theorem addr_add0 (b j : Nat) : (⟨b, 0, none⟩ : Addr).add j = ⟨b, j, none⟩ := by
  unfold Addr.add
  split <;> simp_all
theorem flatN {β : Type} {f : β → List Value} {m : Nat} (d : β) (hf : ∀ q, (f q).length = m) : ∀ (l : List β) (k j : Nat), k < l.length → j < m → (l.flatMap f)[k * m + j]? = (f (l.getD k d))[j]?
  | [], k, j, h, _ => by simp at h
  | q :: l, 0, j, _, hj => by
    rw [List.flatMap_cons, Nat.zero_mul, Nat.zero_add, List.getElem?_append_left (by rw [hf]; exact hj)]
    rfl
  | q :: l, k + 1, j, h, hj => by
    rw [List.flatMap_cons, List.getElem?_append_right (by rw [hf, Nat.succ_mul]; omega), hf, show (k + 1) * m + j - m = k * m + j by rw [Nat.succ_mul]; omega]
    exact flatN d hf l k j (by simpa using h) hj
/-- a form in a block of its own -/
def FormBlk (w : World) (v : Value) (f : List Tok) : Prop := ∃ (b c : Nat) (cs : Array Value), v = .slice (some ⟨b, 0, none⟩) f.length c ∧ w.heap[b]? = some (.cells cs 57 (0, 0)) ∧ ∀ i j, i < f.length → j < 5 → cs[i * 5 + j]? = (tokCells (f.getD i tok0))[j]?
def UnitBlk (w : World) (v : Value) (us : List Int) : Prop := ∃ (b c : Nat) (cs : Array Value), v = .slice (some ⟨b, 0, none⟩) us.length c ∧ w.heap[b]? = some (.cells cs 3 (0, 0)) ∧ ∀ i, i < us.length → cs[i]? = some (.int .i64 (us.getD i 0))
/-- what lies in blocks of other types than e is as it was -/
def Still (e : TypeId) (w w' : World) : Prop := ∀ (b : Nat) (cs : Array Value) (T : TypeId) (fr : Nat × Nat), T ≠ e → w.heap[b]? = some (Obj.cells cs T fr) → w'.heap[b]? = some (Obj.cells cs T fr)
theorem Still.of_below {e : TypeId} {w w' : World} (h : Below w.heap.size w w') : Still e w w' := fun _ _ _ _ _ hb => below_block h hb
theorem Still.of_grown {e : TypeId} {w w' : World} {base size n : Nat} {v : Value} {xs : List Value} (ho : w.ownsRow base e size v n xs) (hg : w.grownBy w' v.ownBlock) : Still e w w' := fun b cs T fr hT hb => by
  have hk : Kept (fun k => v.ownBlock = some k) w w' := Kept.of_grown hg (fun g hg _ => hg)
  refine (hk.block b (lt_of_block hb) (fun hv => ?_)).trans hb
  obtain ⟨c, fz, hc⟩ := Lib.ownsRow_kind ho b hv
  rw [hb] at hc
  injection hc with hc
  injection hc with _ h2 _
  exact hT h2
theorem Still.trans {e : TypeId} {a b c : World} (h : Still e a b) (k : Still e b c) : Still e a c := fun x cs T fr hT hb => k x cs T fr hT (h x cs T fr hT hb)
theorem FormBlk.still {e : TypeId} {w w' : World} {v : Value} {f : List Tok} (h : FormBlk w v f) (hs : Still e w w') (he : 57 ≠ e) : FormBlk w' v f := by
  obtain ⟨b, c, cs, h1, h2, h3⟩ := h
  exact ⟨b, c, cs, h1, hs _ _ _ _ he h2, h3⟩
theorem UnitBlk.still {e : TypeId} {w w' : World} {v : Value} {us : List Int} (h : UnitBlk w v us) (hs : Still e w w') (he : 3 ≠ e) : UnitBlk w' v us := by
  obtain ⟨b, c, cs, h1, h2, h3⟩ := h
  exact ⟨b, c, cs, h1, hs _ _ _ _ he h2, h3⟩
theorem FormBlk.below {w w' : World} {v : Value} {f : List Tok} (h : FormBlk w v f) (hb : Below w.heap.size w w') : FormBlk w' v f := by
  obtain ⟨b, c, cs, h1, h2, h3⟩ := h
  exact ⟨b, c, cs, h1, below_block hb h2, h3⟩
theorem UnitBlk.below {w w' : World} {v : Value} {us : List Int} (h : UnitBlk w v us) (hb : Below w.heap.size w w') : UnitBlk w' v us := by
  obtain ⟨b, c, cs, h1, h2, h3⟩ := h
  exact ⟨b, c, cs, h1, below_block hb h2, h3⟩
theorem FormBlk.form {w : World} {v : Value} {f : List Tok} (h : FormBlk w v f) : ∃ a c, v = .slice a f.length c ∧ FormIn w a f := by
  obtain ⟨b, c, cs, h1, h2, h3⟩ := h
  refine ⟨_, c, h1, ⟨fun hl => ⟨b, 0, rfl, lt_of_block h2, fun i hi j hj => ?_⟩⟩⟩
  rw [Nat.zero_add]
  have hv : ∃ v, (tokCells (f.getD i tok0))[j]? = some v := ⟨_, List.getElem?_eq_getElem (by show j < 5; omega)⟩
  obtain ⟨v, hv⟩ := hv
  show w.cell? _ = (tokCells (f.getD i tok0))[j]?
  rw [hv]
  exact block_cell h2 (by rw [h3 i j hi hj, hv])
/-- the forms and the units, as they lie in memory -/
structure Durs (base : Nat) (w : World) (k : Nat) (v6 v7 : Value) : Prop where
  f : ∃ vf : List Value, w.ownsRow base 54 1 v6 k vf ∧ ∀ j, j < k → ∃ v f, vf[j]? = some v ∧ durT[j]? = some f ∧ FormBlk w v f
  u : ∃ vu : List Value, w.ownsRow base 63 1 v7 k vu ∧ ∀ j, j < k → ∃ v us, vu[j]? = some v ∧ durU[j]? = some us ∧ UnitBlk w v us
theorem Durs.below {base k : Nat} {w w' : World} {v6 v7 : Value} (h : Durs base w k v6 v7) (hb : Below w.heap.size w w') : Durs base w' k v6 v7 := by
  obtain ⟨⟨vf, h1, h2⟩, ⟨vu, h3, h4⟩⟩ := h
  refine ⟨⟨vf, ownsRow_below h1 hb, fun j hj => ?_⟩, ⟨vu, ownsRow_below h3 hb, fun j hj => ?_⟩⟩
  · obtain ⟨v, f, a, b, c⟩ := h2 j hj
    exact ⟨v, f, a, b, c.below hb⟩
  · obtain ⟨v, f, a, b, c⟩ := h4 j hj
    exact ⟨v, f, a, b, c.below hb⟩
theorem own_open {w : World} {b e k n : Nat} {v : Value} {xs : List Value} (h : w.ownsRow b e k v n xs) (hn : 0 < n) : ∃ g c, v = .slice (some ⟨g, 0, none⟩) n c := by
  rcases h.2 with ⟨_, h0⟩ | ⟨g, cap, cur, e, _⟩
  · omega
  · exact ⟨g, cap, e⟩
theorem own_cur {w : World} {b e k n : Nat} {v : Value} {xs : List Value} (h : w.ownsRow b e k v n xs) (hn : 0 < n) : ∃ (g c : Nat) (cs : Array Value), v = .slice (some ⟨g, 0, none⟩) n c ∧ w.heap[g]? = some (.cells cs e (0, 0)) ∧ ∀ j, j < n * k → cs[j]? = xs[j]? := by
  rcases h.2 with ⟨_, h0⟩ | ⟨g, cap, cur, e, _, h3, _, _, _, h7⟩
  · omega
  · refine ⟨g, cap, cur, e, h3, fun j hj => ?_⟩
    rw [← h7, List.getElem?_take_of_lt hj]
    simp
theorem form_of_own {w : World} {b : Nat} {v : Value} {f : List Tok} (h : w.ownsRow b 57 5 v f.length (f.flatMap tokCells)) (hn : 0 < f.length) : FormBlk w v f := by
  obtain ⟨g, c, cs, h1, h2, h3⟩ := own_cur h hn
  refine ⟨g, c, cs, h1, h2, fun i j hi hj => ?_⟩
  rw [h3 (i * 5 + j) (by omega)]
  exact flatN (f := tokCells) (m := 5) tok0 (fun _ => rfl) f i j hi hj
theorem unit_of_own {w : World} {b : Nat} {v : Value} {us : List Int} (h : w.ownsRow b 3 1 v us.length (us.map (.int .i64))) (hn : 0 < us.length) : UnitBlk w v us := by
  obtain ⟨g, c, cs, h1, h2, h3⟩ := own_cur h hn
  refine ⟨g, c, cs, h1, h2, fun i hi => ?_⟩
  rw [h3 i (by omega)]
  simp [List.getD_eq_getElem?_getD, List.getElem?_eq_getElem hi]
theorem own_ne {w : World} {b b' e e' k k' n n' : Nat} {v v' : Value} {xs xs' : List Value} (h : w.ownsRow b e k v n xs) (h' : w.ownsRow b' e' k' v' n' xs') (hne : e ≠ e') : v'.ownBlock = none ∨ v'.ownBlock ≠ v.ownBlock := by
  cases hv : v'.ownBlock with
  | none => exact Or.inl rfl
  | some g =>
    refine Or.inr fun hx => ?_
    obtain ⟨c, fz, h1⟩ := Lib.ownsRow_kind h g hx.symm
    obtain ⟨c', fz', h2⟩ := Lib.ownsRow_kind h' g hv
    rw [h1] at h2
    injection h2 with h2
    injection h2 with _ h2 _
    exact hne h2
end Go.Proofs.YthimnjegacdhaaaGreatDoor

/- A form with more tokens behind it (reference). -/
namespace Go.Proofs.YthimnjegacdhaaaGreatDoor
open Go.RowKit Go.BigFrame
open Rd (Tok tok0)

theorem part_any (dg : Nat) (w : World) : Calls Tryz.prog 42 #[.int .i64 dg] w fun e w' => e = .returned (tokV (Rd.partT dg)) ∧ Below w.heap.size w w' := by
  obtain ⟨V, hV, hbV, hsV, hcV⟩ := alloc_cells w #[.int .i64 4, .string ⟨#[]⟩, .int .i64 0, .int .i64 0, .int .i64 dg] 57
  have g0 := hcV 0 _ rfl
  have g1 := hcV 1 _ rfl
  have g2 := hcV 2 _ rfl
  have g3 := hcV 3 _ rfl
  have g4 := hcV 4 _ rfl
  have HV := Lib.hid hV
  have HB := Lib.hid hbV
  clear hcV hV hbV hsV
  go_enter Tryz.func42, Tryz.ntmps42
  go_wp2_with fail
  rw [HV.out]
  exact bodyPost_ret (v := .agg #[.int .i64 4, .string ⟨#[]⟩, .int .i64 0, .int .i64 0, .int .i64 dg]) (by simp [results, Tryz.results42, go_sem, g0, g1, g2, g3, g4]) rfl ⟨rfl, HB.out⟩
/-- the cells of a form in a block, one behind the other -/
theorem FormBlk.cells {w : World} {v : Value} {f : List Tok} (h : FormBlk w v f) : ∃ b c, v = .slice (some ⟨b, 0, none⟩) f.length c ∧ b < w.heap.size ∧ (∃ cs, w.heap[b]? = some (.cells cs 57 (0, 0))) ∧ ∀ j u, (f.flatMap tokCells)[j]? = some u → w.cell? ⟨b, j, none⟩ = some u := by
  obtain ⟨b, c, cs, h1, h2, h3⟩ := h
  refine ⟨b, c, h1, lt_of_block h2, ⟨cs, h2⟩, fun j u hu => ?_⟩
  have hlen : (f.flatMap tokCells).length = f.length * 5 := by
    clear h1 h2 h3 hu
    induction f with
    | nil => rfl
    | cons t f ih =>
      rw [List.flatMap_cons, List.length_append, ih]
      show 5 + f.length * 5 = (f.length + 1) * 5
      omega
  have hj : j < f.length * 5 := by rw [← hlen]; exact (List.getElem?_eq_some_iff.1 hu).1
  have hx := h3 (j / 5) (j % 5) (by omega) (by omega)
  have hy := flatN (f := tokCells) (m := 5) tok0 (fun _ => rfl) f (j / 5) (j % 5) (by omega) (by omega)
  rw [show j / 5 * 5 + j % 5 = j by omega] at hx hy
  rw [hy] at hu
  exact block_cell h2 (hx.trans hu)
theorem tokCells_one (f : List Tok) : ∀ u, u ∈ f.flatMap tokCells → u.oneCell' = true := by
  intro u hu
  obtain ⟨t, _, ht⟩ := List.mem_flatMap.1 hu
  simp only [tokCells, List.mem_cons, List.not_mem_nil, or_false] at ht
  rcases ht with rfl | rfl | rfl | rfl | rfl <;> rfl
theorem flat_len (f : List Tok) : (f.flatMap tokCells).length = f.length * 5 := by
  induction f with
  | nil => rfl
  | cons t f ih =>
    rw [List.flatMap_cons, List.length_append, ih]
    show 5 + f.length * 5 = (f.length + 1) * 5
    omega
set_option maxHeartbeats 2000000 in
set_option maxRecDepth 100000 in
theorem with_any (f t : List Tok) (vf vt : Value) (w : World) (hf : FormBlk w vf f) (ht : FormBlk w vt t) (hfl : f.length ≤ 100) (htl : t.length ≤ 100) (hf0 : 0 < f.length) (ht0 : 0 < t.length) :
    Calls Tryz.prog 41 #[vf, vt] w fun e w' => ∃ v, e = .returned v ∧ FormBlk w' v (f ++ t) ∧ Below w.heap.size w w' := by
  obtain ⟨b1, c1, rfl, hl1, _, hc1⟩ := hf.cells
  obtain ⟨b2, c2, rfl, hl2, _, hc2⟩ := ht.cells
  obtain ⟨j0, hj0, hy0, hy1, hy2⟩ := info_parts (show (Tryz.prog.info? 57).map (fun i => (i.zero, i.size, i.bytes)) = some (some (.agg #[.int .i64 0, .string ⟨#[]⟩, .int .i64 0, .int .i64 0, .int .i64 0]), 5, 48) by kernel_rfl)
  have o1 := tokCells_one f
  have o2 := tokCells_one t
  have L1 := flat_len f
  have L2 := flat_len t
  have hfa : f.flatMap tokCells ++ t.flatMap tokCells = (f ++ t).flatMap tokCells := by rw [List.flatMap_append]
  have hla : f.length + t.length = (f ++ t).length := by rw [List.length_append]
  obtain ⟨cf, hcf⟩ : ∃ x, f.flatMap tokCells = x := ⟨_, rfl⟩
  obtain ⟨ct, hct⟩ : ∃ x, t.flatMap tokCells = x := ⟨_, rfl⟩
  rw [hcf] at hc1 o1 L1 hfa
  rw [hct] at hc2 o2 L2 hfa
  obtain ⟨n1, hn1⟩ : ∃ n, f.length = n := ⟨_, rfl⟩
  obtain ⟨n2, hn2⟩ : ∃ n, t.length = n := ⟨_, rfl⟩
  rw [hn1] at hfl hf0 L1 hla ⊢
  rw [hn2] at htl ht0 L2 hla ⊢
  have hO : (w.alloc (.cells #[] 57)).ownsRow w.heap.size 57 5 (.slice (some ⟨w.heap.size, 0, none⟩) 0 0) 0 [] := World.ownsRow_made w #[] 0 (Nat.le_refl _) (by unfold maxLen; omega) rfl
  have hbA := below_al w (.cells #[] 57)
  have HC1 : Hid (∀ j u, cf[j]? = some u → (w.alloc (.cells #[] 57)).cell? ((⟨b1, 0, none⟩ : Addr).add j) = some u) := Lib.hid (fun j u hu => by
    rw [addr_add0]
    exact below_cell hbA (hc1 j u hu))
  have HC2 := Lib.hid hc2
  have HFA := Lib.hid hfa
  have HLA := Lib.hid hla
  have HO := Lib.hid hO
  have HBA := Lib.hid hbA
  clear hc1 hc2 hfa hla hcf hct hn1 hn2 hO hbA hf ht
  go_enter Tryz.func41, Tryz.ntmps41
  go_wp2_with (first
    | (at_builtin; go_loud (
       refine wpList_append_own _ rfl _ _ 54 rfl w.heap.size 57 j0 (.agg #[.int .i64 0, .string ⟨#[]⟩, .int .i64 0, .int .i64 0, .int .i64 0]) 5 48 Tryz.underlying54 hj0 hy0 hy1 hy2 rfl (by decide) (.slice (some ⟨w.heap.size, 0, none⟩) 0 0) 0 [] rfl HO.out ⟨b1, 0, none⟩ n1 c1 cf rfl (by omega) HC1.out o1 (by unfold maxLen; omega) (by omega) (by simp) ?_
       intro v' w3 hown' hgrow _
       have HW3 := Lib.hid hown'
       have HG3 := Lib.hid hgrow
       have HC3 : Hid (∀ j u, ct[j]? = some u → w3.cell? ((⟨b2, 0, none⟩ : Addr).add j) = some u) := Lib.hid (fun j u hu => by
         rw [addr_add0]
         exact hgrow.cell (below_cell HBA.out (HC2.out j u hu)) (by show some b2 ≠ some w.heap.size; intro e; injection e with e; omega))
       have hs3 := hgrow.size
       clear hown' hgrow))
    | (at_builtin; go_loud (
       refine wpList_append_own _ rfl _ _ 54 rfl w.heap.size 57 j0 (.agg #[.int .i64 0, .string ⟨#[]⟩, .int .i64 0, .int .i64 0, .int .i64 0]) 5 48 Tryz.underlying54 hj0 hy0 hy1 hy2 rfl (by decide) v' (0 + n1) ([] ++ cf) rfl HW3.out ⟨b2, 0, none⟩ n2 c2 ct rfl (by omega) HC3.out o2 (by unfold maxLen; omega) (by omega) (by simp at hs3; omega) ?_
       intro v'' w4 hown' hgrow _
       have HW4 := Lib.hid hown'
       have HG4 := Lib.hid hgrow
       clear hown' hgrow))
    | fail)
  go_ret
  have h := HW4.out
  rw [List.nil_append, HFA.out, Nat.zero_add, HLA.out] at h
  refine ⟨v'', rfl, form_of_own (f := f ++ t) h (by rw [← HLA.out]; omega), ?_⟩
  · have hb3 := HBA.out.grown HG3.out (by simp) (fun b hb => by have := HO.out.lt b hb; omega)
    exact hb3.grown HG4.out (by simp at hs3; omega) (fun b hb => by have := HW3.out.lt b hb; omega)
end Go.Proofs.YthimnjegacdhaaaGreatDoor
