/- Several texts of this claim in one. -/
import Derived.Test.YtkejjlghelnfjaaRa3
import Derived.Maps.RangeWalk
import Derived.Maps.OwnSet
import Derived.Test.YtkejjlghelnfjaaRa2
import Derived.Test.YtkejjlghelnfjaaShelf2
import Derived.BigQuiet
import Derived.ChangeAlike
import Derived.Deep.QuietTactic
import Derived.RegionTactic
import Derived.Laws.StructEq
import Derived.Deep.Draws
/- A map from moments to samples; the samples of such a map in whatever order. -/
namespace Go.Proofs.Ytkejjlghelnfjaa
open Go.RowKit Go.BigFrame

def smD (s : Sm) : DataW Unit := .agg [.lit (.int .i64 s.tm), .lit (.int .i64 s.x), .lit (.int .i64 s.y), .lit (.int .i64 s.z), .lit (.int .i64 s.pu), .lit (.int .i64 s.po), .lit (.int .i64 s.st)]
theorem smD_inj {s t : Sm} (h : smD s = smD t) : s = t := by
  cases s
  cases t
  simp only [smD] at h
  injection h with h
  simp only [List.cons.injEq, DataW.lit.injEq, Lit.int.injEq, true_and, and_true] at h
  obtain ⟨a, b, c, d, e, f, g⟩ := h
  rw [a, b, c, d, e, f, g]
def smR : Value → Option (DataW Unit × List MemPlace)
  | .agg cs => match cs.toList with
    | [.int .i64 a, .int .i64 b, .int .i64 c, .int .i64 d, .int .i64 e, .int .i64 f, .int .i64 g] => some (smD ⟨a, b, c, d, e, f, g⟩, [])
    | _ => none
  | _ => none
theorem smR_of (s : Sm) : smR (smV s) = some (smD s, []) := rfl
theorem smR_inv : ∀ v y, smR v = some y → ∃ s : Sm, v = smV s ∧ y = (smD s, []) := by
  intro v y h
  unfold smR at h
  split at h
  · rename_i cs
    split at h
    · rename_i a b c d e f g hc
      injection h with h
      refine ⟨⟨a, b, c, d, e, f, g⟩, ?_, h.symm⟩
      unfold smV
      rw [← Array.toArray_toList (xs := cs), hc]
    · cases h
  · cases h
theorem smR_val : ∀ v y, smR v = some y → ∃ s : Sm, v = smV s := fun v y h => by
  obtain ⟨s, e, _⟩ := smR_inv v y h
  exact ⟨s, e⟩
theorem key_int : ∀ key kl, keyOf Try.prog 3 key = some kl → ∃ x : Int, key = .int .i64 x := by
  intro key kl h
  obtain ⟨x, rfl, _⟩ := Maps.keyOf_int_inv Try.underlying3 h
  exact ⟨x, rfl⟩
/-- block b is a map that tells f -/
structure SMap (w : World) (b n : Nat) (f : Int → Option Sm) : Prop where
  ex : ∃ D, w.ownsMap Try.prog 3 smR b n D ∧ ∀ j : Int, (Lit.int .i64 j).wf = true → (∀ u, f j = some u → ∀ z, D.atKey (.int .i64 j) z = smD u) ∧ (f j = none → ∀ z, D.atKey (.int .i64 j) z = z)
def putS (f : Int → Option Sm) (d : Int) (x : Sm) : Int → Option Sm := fun j => if j = d then some x else f j
theorem tm_wf {j : Int} (h0 : -9223372036854775808 ≤ j) (h1 : j ≤ 9223372036854775807) : (Lit.int .i64 j).wf = true := by
  have e1 : IntKind.i64.min = -9223372036854775808 := by decide
  have e2 : IntKind.i64.max = 9223372036854775807 := by decide
  simp [Lit.wf, e1, e2]
  omega
theorem SMap.made (w : World) : SMap (w.alloc (.map #[] 0)) w.heap.size 0 (fun _ => none) :=
  ⟨.map [], World.ownsMap_made _ _ _ _, fun _ _ => ⟨fun _ h => by (cases h), fun _ _ => rfl⟩⟩
theorem SMap.lt {w : World} {b n : Nat} {f : Int → Option Sm} (h : SMap w b n f) : b < w.heap.size := by
  obtain ⟨D, h1, _⟩ := h.ex
  exact h1.lt
theorem SMap.kept {O : Nat → Prop} {w w' : World} {b n : Nat} {f : Int → Option Sm} (h : SMap w b n f) (hk : Kept O w w') (ho : ¬ O b) : SMap w' b n f := by
  obtain ⟨D, h1, h2⟩ := h.ex
  have hlt := h1.lt
  obtain ⟨es, clock, hb, F, hs, hD⟩ := h1
  exact ⟨D, ⟨es, clock, (hk.block b hlt ho).trans hb, F, hs, hD⟩, h2⟩
theorem SMap.below {w w' : World} {b n : Nat} {f : Int → Option Sm} (h : SMap w b n f) (hb : Below w.heap.size w w') : SMap w' b n f := h.kept (O := fun _ => False) (Kept.of_below hb) (fun e => e)
theorem SMap.look {w : World} {b n : Nat} {f : Int → Option Sm} (h : SMap w b n f) {j : Int} (hj : (Lit.int .i64 j).wf = true) : (Instr.lookup 53 (.map (some b)) (.int .i64 j) true).run Try.prog w = .ok (.tuple #[smV ((f j).getD sm0), .bool (f j).isSome]) w := by
  obtain ⟨D, h1, h2⟩ := h.ex
  obtain ⟨v, ps, hrun, hv⟩ := h1.look_ok (Maps.int_keyed Try.underlying3) Try.underlying53 (z := smV sm0) (by show (zeroValue 37).run Try.prog w = .ok (.agg #[.int .i64 0, .int .i64 0, .int .i64 0, .int .i64 0, .int .i64 0, .int .i64 0, .int .i64 0]) w; go_simp) (zd := smD sm0) rfl (Maps.keyOf_int_mk Try.underlying3 hj)
  obtain ⟨s, rfl, hs⟩ := smR_inv _ _ hv
  have hs := (Prod.mk.inj hs).1
  cases hf : f j with
  | none =>
    rw [(h2 j hj).2 hf] at hs
    rw [← smD_inj hs] at hrun
    rw [Maps.has_false_of_atKey ((h2 j hj).2 hf)] at hrun
    exact hrun
  | some u =>
    rw [(h2 j hj).1 u hf] at hs
    rw [← smD_inj hs] at hrun
    rw [Maps.has_true_of_atKey ((h2 j hj).1 u hf)] at hrun
    exact hrun
theorem SMap.put {w : World} {b n : Nat} {f : Int → Option Sm} (h : SMap w b n f) {j : Int} (hj : (Lit.int .i64 j).wf = true) (hn : n < maxLen) (x : Sm) : ∃ w', (Instr.mapUpdate 53 (.map (some b)) (.int .i64 j) (smV x)).run Try.prog w = .ok () w' ∧ SMap w' b (n + 1) (putS f j x) ∧ w.grownBy w' (some b) := by
  obtain ⟨D, h1, h2⟩ := h.ex
  obtain ⟨w', r1, r2, r3⟩ := h1.update (Maps.int_keyed Try.underlying3) Try.underlying53 hn (val := smV x) (d := smD x) (ps := []) (Maps.keyOf_int_mk Try.underlying3 hj) rfl
  refine ⟨w', r1, ⟨_, r2, fun i hi => ?_⟩, r3⟩
  unfold putS
  by_cases e : i = j
  · subst e
    rw [if_pos rfl]
    refine ⟨fun u hu z => ?_, fun h => by cases h⟩
    have hu := Option.some.inj hu
    subst hu
    exact Maps.atKey_put_same h1.isMap ((Maps.int_keyed Try.underlying3).key (Maps.keyOf_int_mk Try.underlying3 hi)) _ _
  · rw [if_neg e]
    have hne : (Lit.int .i64 i) ≠ .int .i64 j := fun h => by injection h with _ h; exact e h
    exact ⟨fun u hu z => by rw [Maps.atKey_put_other hne]; exact (h2 i hi).1 u hu z, fun hu z => by rw [Maps.atKey_put_other hne]; exact (h2 i hi).2 hu z⟩
/-! ### its samples in whatever order -/
structure RgS (f : Int → Option Sm) (left : Lit → Bool) (L : List Sm) : Prop where
  of : ∀ s, s ∈ L → left (.int .i64 s.tm) = false ∧ ∃ u, f s.tm = some u ∧ s = { u with tm := s.tm }
  has : ∀ (j : Int) (u : Sm), (Lit.int .i64 j).wf = true → f j = some u → left (.int .i64 j) = false → { u with tm := j } ∈ L
  nd : L.Pairwise (fun x y => x.tm ≠ y.tm)
theorem RgS.start {f : Int → Option Sm} {left : Lit → Bool} (h : ∀ (j : Int) (u : Sm), (Lit.int .i64 j).wf = true → f j = some u → left (.int .i64 j) = true) : RgS f left [] :=
  ⟨fun s hs => absurd hs (by simp), fun j u hj hu hl => absurd (h j u hj hu) (by rw [hl]; decide), List.Pairwise.nil⟩
theorem RgS.step {f : Int → Option Sm} {left : Lit → Bool} {L : List Sm} (h : RgS f left L) {x : Int} {u : Sm} (hx : left (.int .i64 x) = true) (hu : f x = some u) : RgS f (fun z => left z && !z.sameKey (.int .i64 x)) (L ++ [{ u with tm := x }]) := by
  have hsame : ∀ j : Int, (Lit.int .i64 j).sameKey (.int .i64 x) = decide (j = x) := fun j => by
    by_cases e : j = x
    · subst e
      rw [WideAt.sameKey_self (a := .int .i64 j) trivial]
      simp
    · rw [Maps.sameKey_ne (fun h => by injection h with _ h; exact e h)]
      simp [e]
  refine ⟨fun s hs => ?_, fun j v hj hv hl => ?_, ?_⟩
  · rcases List.mem_append.1 hs with hs | hs
    · obtain ⟨h1, h2⟩ := h.of s hs
      exact ⟨by rw [h1]; rfl, h2⟩
    · rw [List.mem_singleton.1 hs]
      exact ⟨by simp [hsame], u, hu, rfl⟩
  · rw [hsame] at hl
    by_cases e : j = x
    · subst e
      rw [hu] at hv
      have hv := Option.some.inj hv
      subst hv
      simp
    · have : left (.int .i64 j) = false := by simpa [e] using hl
      exact List.mem_append.2 (Or.inl (h.has j v hj hv this))
  · rw [List.pairwise_append]
    refine ⟨h.nd, by simp, fun s hs y hy => ?_⟩
    rw [List.mem_singleton.1 hy]
    intro e
    have := (h.of s hs).1
    rw [show s.tm = x from e, hx] at this
    cases this
theorem RgS.done {f : Int → Option Sm} {left : Lit → Bool} {L : List Sm} (h : RgS f left L) (hl : ∀ k, left k = false) (hw : ∀ (j : Int) (u : Sm), f j = some u → (Lit.int .i64 j).wf = true) (s : Sm) : s ∈ L ↔ ∃ u, f s.tm = some u ∧ s = { u with tm := s.tm } := by
  constructor
  · exact fun hs => (h.of s hs).2
  · rintro ⟨u, hu, e⟩
    have := h.has s.tm u (hw _ _ hu) hu (hl _)
    rw [← e] at this
    exact this
/-! ### what the map tells -/
def mapB (B : Acv) (shift : Int) (l : List Sm) : Int → Option Sm := l.foldl (fun f s => putS f (B.start + s.tm - shift) s) (fun _ => none)
def stepA (A : Acv) (f : Int → Option Sm) (s : Sm) : Int → Option Sm := putS f (A.start + s.tm) (match f (A.start + s.tm) with | some t => fillS s t | none => s)
def mapA (A : Acv) (f : Int → Option Sm) (l : List Sm) : Int → Option Sm := l.foldl (stepA A) f
theorem mapB_snoc {B : Acv} {shift : Int} {l : List Sm} {k : Nat} {x : Sm} (hx : l[k]? = some x) : mapB B shift (l.take (k + 1)) = putS (mapB B shift (l.take k)) (B.start + x.tm - shift) x := by
  unfold mapB
  rw [List.take_add_one, hx, List.foldl_append]
  rfl
theorem mapA_snoc {A : Acv} {f : Int → Option Sm} {l : List Sm} {k : Nat} {x : Sm} (hx : l[k]? = some x) : mapA A f (l.take (k + 1)) = stepA A (mapA A f (l.take k)) x := by
  unfold mapA
  rw [List.take_add_one, hx, List.foldl_append]
  rfl
end Go.Proofs.Ytkejjlghelnfjaa

/- trail.Merge of two right activities of one sport. -/
namespace Go.Proofs.Ytkejjlghelnfjaa
open Go.RowKit Go.BigFrame
open Tr (inR)

def mgF (A B : Acv) (shift : Int) : Int → Option Sm := mapA A (mapB B shift B.sm) A.sm
structure MgIs (A B : Acv) (shift : Int) (L : List Sm) (T : List ByteArray) : Prop where
  sorted : L.Pairwise (fun x y => x.tm < y.tm)
  mem : ∀ s, s ∈ L ↔ ∃ u, mgF A B shift s.tm = some u ∧ s = { u with tm := s.tm }
  tsorted : T.Pairwise (fun x y => bL x < bL y)
  tmem : ∀ x, x ∈ T ↔ x ∈ A.tg ∨ x ∈ B.tg
def mgSt (A : Acv) (L : List Sm) : Int := match L[0]? with
  | some s => s.tm
  | none => A.start
def addL (d : Int) (p : Lp) : Lp := ⟨p.f + d, p.t + d, p.s⟩
def mgZ (A : Acv) (L : List Sm) (T : List ByteArray) : Acv := ⟨A.name, A.sport, mgSt A L, L.map (backS (mgSt A L)), A.lp.map (addL (A.start - mgSt A L)), T⟩
def MergeRet (A B : Acv) (shift : Int) (w : World) (e : Ending) (w' : World) : Prop :=
  ∃ L T, MgIs A B shift L T ∧ (((20000 < L.length ∨ 20 < T.length) ∧ e = .returned (.tuple #[ac0, .int .i64 3]) ∧ Below w.heap.size w w') ∨ (¬ (20000 < L.length ∨ 20 < T.length) ∧ ActRet (mgZ A L T) w e w'))
theorem mapB_some {B : Acv} {shift : Int} : ∀ (l : List Sm) (f0 : Int → Option Sm) (j : Int) (u : Sm), l.foldl (fun f s => putS f (B.start + s.tm - shift) s) f0 j = some u → (∃ s, s ∈ l ∧ j = B.start + s.tm - shift) ∨ f0 j = some u
  | [], _, _, _, h => Or.inr h
  | s :: l, f0, j, u, h => by
    rcases mapB_some l _ j u h with ⟨t, ht, e⟩ | h
    · exact Or.inl ⟨t, List.mem_cons_of_mem _ ht, e⟩
    · replace h : (if j = B.start + s.tm - shift then some s else f0 j) = some u := h
      split at h
      · rename_i e
        exact Or.inl ⟨s, List.mem_cons_self, e⟩
      · exact Or.inr h
theorem mapA_some {A : Acv} : ∀ (l : List Sm) (f0 : Int → Option Sm) (j : Int) (u : Sm), l.foldl (stepA A) f0 j = some u → (∃ s, s ∈ l ∧ j = A.start + s.tm) ∨ f0 j = some u
  | [], _, _, _, h => Or.inr h
  | s :: l, f0, j, u, h => by
    rcases mapA_some l _ j u h with ⟨t, ht, e⟩ | h
    · exact Or.inl ⟨t, List.mem_cons_of_mem _ ht, e⟩
    · unfold stepA putS at h
      split at h
      · rename_i e
        exact Or.inl ⟨s, List.mem_cons_self, e⟩
      · exact Or.inr h
theorem mgF_key {A B : Acv} {shift j : Int} {u : Sm} (h : mgF A B shift j = some u) : (∃ s, s ∈ A.sm ∧ j = A.start + s.tm) ∨ ∃ s, s ∈ B.sm ∧ j = B.start + s.tm - shift := by
  unfold mgF mapA mapB at h
  rcases mapA_some _ _ _ _ h with h | h
  · exact Or.inl h
  · rcases mapB_some _ _ _ _ h with h | h
    · exact Or.inr h
    · cases h
theorem mgF_range {A B : Acv} {shift j : Int} {u : Sm} (oA : AcOk A) (oB : AcOk B) (h0 : -86399999999 ≤ shift) (h1 : shift ≤ 86399999999) (h : mgF A B shift j = some u) : -86399999999 ≤ j ∧ j ≤ 172800000000 := by
  have r : ∀ {Z : Acv} {s : Sm}, AcOk Z → s ∈ Z.sm → 0 ≤ s.tm ∧ Z.start + s.tm ≤ 86399999999 := fun {Z s} o hs => by
    obtain ⟨i, hi, rfl⟩ := List.getElem_of_mem hs
    exact ⟨o.sm.nonneg (List.getElem?_eq_getElem hi), (o.sm.upto i _ (List.getElem?_eq_getElem hi)).2.1⟩
  rcases mgF_key h with ⟨s, hs, rfl⟩ | ⟨s, hs, rfl⟩
  · have := r oA hs
    have := oA.start
    omega
  · have := r oB hs
    have := oB.start
    omega
theorem map_upto {α : Type} (f : α → α) (l : List α) (k : Nat) (x : α) (hx : l[k]? = some x) : ((l.take k).map f ++ l.drop k).set k (f x) = (l.take (k + 1)).map f ++ l.drop (k + 1) := by
  obtain ⟨hk, e⟩ := List.getElem?_eq_some_iff.1 hx
  have hl : ((l.take k).map f).length = k := by rw [List.length_map, List.length_take]; omega
  rw [List.set_append_right _ _ (by rw [hl]; exact Nat.le_refl _), hl, Nat.sub_self, List.drop_eq_getElem_cons hk, List.set_cons_zero, List.take_add_one, hx, List.map_append, List.append_assoc]
  rfl
theorem at_upto {α : Type} (f : α → α) (l : List α) (k : Nat) (x : α) (hx : l[k]? = some x) : ((l.take k).map f ++ l.drop k)[k]? = some x := by
  obtain ⟨hk, e⟩ := List.getElem?_eq_some_iff.1 hx
  have hl : ((l.take k).map f).length = k := by rw [List.length_map, List.length_take]; omega
  rw [List.getElem?_append_right (by rw [hl]; exact Nat.le_refl _), hl, Nat.sub_self, List.getElem?_drop]
  exact hx
theorem len_upto {α : Type} (f : α → α) (l : List α) (k : Nat) (hk : k ≤ l.length) : ((l.take k).map f ++ l.drop k).length = l.length := by
  rw [List.length_append, List.length_map, List.length_take, List.length_drop]
  omega
/-- blocks of texts -/
def OT (w : World) (q : Nat) : Prop := ∃ cs fz, w.heap[q]? = some (.cells cs 9 fz)
theorem Own.typed {α : Type} {C : α → List Value} {k : Nat} {e : TypeId} {w : World} {base : Nat} {v : Value} {l : List α} (h : Own C k e w base v l) {b : Nat} (hb : v.ownBlock = some b) : ∃ cs fz, w.heap[b]? = some (.cells cs e fz) := by
  rcases h.2 with ⟨h0, _⟩ | ⟨g, cap, cur, hv, _, hg, _⟩
  · rw [h0] at hb
    cases hb
  · rw [hv] at hb
    injection hb with hb
    subst hb
    exact ⟨_, _, hg⟩
theorem Own.notText {α : Type} {C : α → List Value} {k : Nat} {e : TypeId} {w : World} {base : Nat} {v : Value} {l : List α} (h : Own C k e w base v l) (he : e ≠ 9) {b : Nat} (hb : v.ownBlock = some b) : ¬ OT w b := by
  rintro ⟨cs, fz, h2⟩
  obtain ⟨cs', fz', h1⟩ := h.typed hb
  rw [h1] at h2
  injection h2 with h2
  injection h2 with _ h2 _
  exact he h2
theorem AcB.notText {w : World} {g : Nat} {nm : ByteArray} {sp st : Int} {vs vl vt : Value} (h : AcB w g nm sp st vs vl vt) : ¬ OT w g := by
  rintro ⟨cs, fz, h2⟩
  unfold AcB at h
  rw [h] at h2
  injection h2 with h2
  injection h2 with _ h2 _
  revert h2
  decide
theorem AcB.ne {w : World} {g : Nat} {nm : ByteArray} {sp st : Int} {vs vl vt : Value} (h : AcB w g nm sp st vs vl vt) {base : Nat} {v : Value} {l : List ByteArray} (ho : Own tgC 1 9 w base v l) : ∀ b, v.ownBlock = some b → b ≠ g := fun b hb e => by
  subst e
  exact h.notText (ho.typed hb)
/-- a row of texts of one's own is written -/
theorem Kept.text {O : Nat → Prop} {W w w' : World} {base : Nat} {v : Value} {l : List ByteArray} (hk : Kept O W w) (ho : Own tgC 1 9 w base v l) (hO : ∀ q, base ≤ q → OT W q → O q) (hg : w.grownBy w' v.ownBlock) : Kept O W w' :=
  hk.grown hg (fun g e hlt => Classical.byContradiction fun hn => by
    obtain ⟨cs, fz, h1⟩ := ho.typed e
    rw [hk.block g hlt hn] at h1
    exact hn (hO g (ho.lt g e).1 ⟨cs, fz, h1⟩))
theorem AcB.ne' {w : World} {g : Nat} {nm : ByteArray} {sp st : Int} {vs vl vt : Value} (h : AcB w g nm sp st vs vl vt) {α : Type} {C : α → List Value} {k : Nat} {e : TypeId} {base : Nat} {v : Value} {l : List α} (ho : Own C k e w base v l) (he : e ≠ 26) : ∀ b, v.ownBlock = some b → b ≠ g := fun b hb hbg => by
  subst hbg
  obtain ⟨cs', fz', h1⟩ := ho.typed hb
  unfold AcB at h
  rw [h] at h1
  injection h1 with h1
  injection h1 with _ h1 _
  exact he h1.symm
set_option maxHeartbeats 100000000 in
set_option maxRecDepth 100000 in
theorem mergeOk_any (A B : Acv) (a b c a' b' c' : Option Addr) (ca cb cc ca' cb' cc' : Nat) (shift : Int) (w : World) (hA : ActIn w A a b c) (hB : ActIn w B a' b' c') (oA : AcOk A) (oB : AcOk B) (hsp : A.sport = B.sport) (h0 : -86399999999 ≤ shift) (h1 : shift ≤ 86399999999) :
    Calls Try.prog 7 #[actV A a b c ca cb cc, actV B a' b' c' ca' cb' cc', .int .i64 shift] w fun e w' => MergeRet A B shift w e w' := by
  have hmm := @run_makeMap Try.prog
  obtain ⟨V0, hV0, hb0, hs0, ha0⟩ := alloc_ac w A.name A.sport A.start (.slice a A.sm.length ca) (.slice b A.lp.length cb) (.slice c A.tg.length cc)
  obtain ⟨V1, hV1, hb1, hs1, ha1⟩ := alloc_ac V0 B.name B.sport B.start (.slice a' B.sm.length ca') (.slice b' B.lp.length cb') (.slice c' B.tg.length cc')
  obtain ⟨V2, hV2, hb2, hs2, ha2⟩ := alloc_ac V1 ⟨#[]⟩ 0 0 (.slice none 0 0) (.slice none 0 0) (.slice none 0 0)
  rw [hs0] at ha1
  rw [hs1, hs0] at ha2
  have hs11 : V1.heap.size = w.heap.size + 1 + 1 := by rw [hs1, hs0]
  have hA0 := (ha0.below hb1).below hb2
  have hA1 := ha1.below hb2
  have HB := Lib.hid (below_step (below_step hb0 hb1) hb2)
  have HIA := Lib.hid (hA.below HB.out)
  have HIB := Lib.hid (hB.below HB.out)
  have HOA := Lib.hid oA
  have HOB := Lib.hid oB
  have HSZ := Lib.hid (show V2.heap.size = w.heap.size + 3 from by rw [hs2, hs1, hs0])
  have HA0 := Lib.hid hA0
  have HA1 := Lib.hid hA1
  have HA2 := Lib.hid ha2
  have hspb : (A.sport != B.sport) = false := by rw [hsp]; simp
  have HIR := Lib.hid (show inR shift (-86399999999) 86399999999 = true from inR_iff.2 ⟨h0, h1⟩)
  have DIN := Lib.hid (fun n lo hi W => tin_any n lo hi W)
  have DA := Lib.hid (fun X : Ext V2 => show Calls Try.prog 4 #[.agg #[.string A.name, .int .i64 A.sport, .int .i64 A.start, .slice a A.sm.length ca, .slice b A.lp.length cb, .slice c A.tg.length cc]] X.1 fun e w'' => e = .returned (.int .i64 0) ∧ ∃ Y : Ext V2, w'' = Y.1 from by
    have h := check_any A a b c ca cb cc X.1 (HIA.out.below X.2)
    unfold ChkG actV at h
    rw [chkA_zero.2 HOA.out] at h
    exact X.calls h)
  have DB := Lib.hid (fun X : Ext V2 => show Calls Try.prog 4 #[.agg #[.string B.name, .int .i64 B.sport, .int .i64 B.start, .slice a' B.sm.length ca', .slice b' B.lp.length cb', .slice c' B.tg.length cc']] X.1 fun e w'' => e = .returned (.int .i64 0) ∧ ∃ Y : Ext V2, w'' = Y.1 from by
    have h := check_any B a' b' c' ca' cb' cc' X.1 (HIB.out.below X.2)
    unfold ChkG actV at h
    rw [chkA_zero.2 HOB.out] at h
    exact X.calls h)
  obtain ⟨z0, z1, z2, z3, z4, z5⟩ := hA0.cell
  have A0 := Ext.ex z0
  have A1 := Ext.ex z1
  have A2 := Ext.ex z2
  have A3 := Ext.ex z3
  have A4 := Ext.ex z4
  have A5 := Ext.ex z5
  obtain ⟨y0, y1, y2, y3, y4, y5⟩ := hA1.cell
  have B0 := Ext.ex y0
  have B1 := Ext.ex y1
  have B2 := Ext.ex y2
  have B3 := Ext.ex y3
  have B4 := Ext.ex y4
  have B5 := Ext.ex y5
  have HV := Lib.hid (And.intro hV0 (And.intro hV1 hV2))
  clear hA hB oA oB hb0 hb1 hb2 ha0 ha1 ha2 hA0 hA1 hs1 hs2 hsp z0 z1 z2 z3 z4 z5 y0 y1 y2 y3 y4 y5
  unfold actV
  go_enter Try.func7, Try.ntmps7
  go_upto_region 1 with (fail)
  clear hV0 hV1 hV2
  refine ext_wp (W := V2) fun X => ?_
  refine held_start (C := fun w' => ∃ Z : Ext V2, w' = Z.1) (by kernel_rfl) ?_
  obtain ⟨Z0, hZ0⟩ : ∃ Z : Ext V2, ({ X.1 with drawn := X.1.drawn + 1 } : World) = Z.1 := ⟨⟨{ X.1 with drawn := X.1.drawn + 1 }, below_step X.2 ⟨rfl, rfl, rfl, Nat.le_refl _, fun _ _ => rfl⟩⟩, rfl⟩
  rw [hZ0]
  clear hZ0
  refine held_quiet (by kernel_rfl) (fun _ _ d _ _ h => by cases d <;> exact h) ⟨Z0, rfl⟩ [0, 2] 5 _ _ (by kernel_rfl) ?_
  change wpQuiet _ _ _ _ (_ :: _ :: []) _
  repeat go_big_quiet_step (fail)
  refine wpQuiet_nil ?_
  refine held_do (i := 1) _ rfl (by kernel_rfl) rfl (fun K hK => ?_)
  go_simp
  refine (DA.out Z0).mono ?_
  rintro e w1 ⟨rfl, Z1, rfl⟩
  refine hK _ _ ⟨Z1, rfl⟩ ?_
  clear hK K
  try simp only [Act.put, List.setIfInBounds_toArray, List.set_cons_zero, List.set_cons_succ]
  refine held_do (i := 3) _ rfl (by kernel_rfl) rfl (fun K hK => ?_)
  go_simp
  refine (DB.out Z1).mono ?_
  rintro e w1 ⟨rfl, Z2, rfl⟩
  refine hK _ _ ⟨Z2, rfl⟩ ?_
  clear hK K
  try simp only [Act.put, List.setIfInBounds_toArray, List.set_cons_zero, List.set_cons_succ]
  refine held_do (i := 4) _ rfl (by kernel_rfl) rfl (fun K hK => ?_)
  go_simp
  obtain ⟨Wb, hWb, hwb1, hwb2, hwq⟩ := alloc_cells Z2.1 #[.int .i64 0, .int .i64 0] 28
  rw [hWb]
  obtain ⟨Z3, rfl⟩ : ∃ Z : Ext V2, Wb = Z.1 := ⟨⟨Wb, below_step Z2.2 hwb1⟩, rfl⟩
  have DO := Lib.hid (orE_any [0, 0] Z2.1.heap.size 2 Z3.1 (by simp) (fun i v hv => hwq i _ (by
    match i, hv with
    | 0, h => injection h with h; subst h; rfl
    | 1, h => injection h with h; subst h; rfl
    | n + 2, h => simp at h)))
  rw [show orL [0, 0] = 0 from rfl] at DO
  refine hK _ _ ⟨Z3, rfl⟩ ?_
  clear hK K hWb hwb1 hwb2 hwq
  try simp only [Act.put, List.setIfInBounds_toArray, List.set_cons_zero, List.set_cons_succ]
  refine held_do (i := 5) _ rfl (by kernel_rfl) rfl (fun K hK => ?_)
  go_simp
  refine DO.out.mono ?_
  rintro e w1 ⟨rfl, rfl⟩
  refine hK _ _ ⟨Z3, rfl⟩ ?_
  clear hK K DO
  try simp only [Act.put, List.setIfInBounds_toArray, List.set_cons_zero, List.set_cons_succ]
  refine held_quiet (by kernel_rfl) (fun _ _ d _ _ h => by cases d <;> exact h) ⟨Z3, rfl⟩ [6] 0 _ _ (by kernel_rfl) ?_
  change wpQuiet _ _ _ _ (_ :: []) _
  repeat go_big_quiet_step (fail)
  refine wpQuiet_nil ?_
  refine wpAnyH_done (by kernel_rfl) ?_ _
  clear DA DB X Z0 Z1
  go_wp2_with fail
  refine (DIN.out _ _ _ _).mono ?_
  rintro e _ ⟨rfl, rfl⟩
  rw [HIR.out]
  obtain ⟨V3, hV3⟩ : ∃ V, Z3.1.alloc (.map #[] 0) = V := ⟨_, rfl⟩
  have HM3 := Lib.hid (show SMap V3 Z3.1.heap.size 0 (fun _ => none) from hV3 ▸ SMap.made Z3.1)
  have HB3 := Lib.hid (show Below V2.heap.size V2 V3 from below_step Z3.2 (hV3 ▸ below_al Z3.1 _))
  have c3 := B3 ⟨V3, HB3.out⟩
  go_wp2_with fail
  obtain ⟨MB, hMB⟩ : ∃ q, Z3.1.heap.size = q := ⟨_, rfl⟩
  rw [hMB] at HM3 ⊢
  have HMB := Lib.hid (show V2.heap.size ≤ MB ∧ MB < V3.heap.size from ⟨by rw [← hMB]; exact Z3.2.size, HM3.out.lt⟩)
  have HC := Lib.hid (fun (X : ExtO (fun q => q = MB) V3) (p : Addr) (v : Value) (hp : p.block < V2.heap.size) (h : V2.cell? p = some v) => show X.1.cell? p = some v from X.2.cell (by have := HMB.out; omega) (below_cell HB3.out h))
  clear c3 hV3 hMB
  go_loopw [48] (fun iv wr => ∃ k : Nat, iv = .int .i64 k ∧ k ≤ B.sm.length ∧ ∃ X : ExtO (fun q => q = MB) V3, wr = X.1 ∧ Hid (SMap X.1 MB k (mapB B shift (B.sm.take k)))) (fun iv _ => B.sm.length - (intOf iv).toNat)
  case atStart => exact ⟨0, rfl, by omega, ⟨V3, Kept.refl _ _⟩, rfl, Lib.hid HM3.out⟩
  case round =>
    obtain ⟨k, rfl, hk, X, rfl, HM⟩ := hrel
    by_cases hlt : k < B.sm.length
    · have t2 : decide ((k : Int) < (B.sm.length : Int)) = true := by rw [decide_eq_true_eq]; omega
      have t2' : decide (k < B.sm.length) = true := by simpa using hlt
      obtain ⟨x, hx⟩ : ∃ x, B.sm[k]? = some x := ⟨_, List.getElem?_eq_getElem hlt⟩
      have HSN := Lib.hid (mapB_snoc (B := B) (shift := shift) hx)
      have x0 := HOB.out.sm.nonneg hx
      have x1 := (HOB.out.sm.upto k x hx).1
      obtain ⟨s0, s1⟩ := HOB.out.start
      have hnb := HOB.out.nsm
      obtain ⟨b3, o3, rfl, hb3, hd⟩ := HIB.out.sm.at hx
      have e0 := HC.out X ⟨b3, o3 + k * 7, none⟩ (.int .i64 x.tm) hb3 (hd 0 _ rfl)
      have e1 := HC.out X ⟨b3, o3 + k * 7 + 1, none⟩ (.int .i64 x.x) hb3 (hd 1 _ rfl)
      have e2 := HC.out X ⟨b3, o3 + k * 7 + 2, none⟩ (.int .i64 x.y) hb3 (hd 2 _ rfl)
      have e3 := HC.out X ⟨b3, o3 + k * 7 + 3, none⟩ (.int .i64 x.z) hb3 (hd 3 _ rfl)
      have e4 := HC.out X ⟨b3, o3 + k * 7 + 4, none⟩ (.int .i64 x.pu) hb3 (hd 4 _ rfl)
      have e5 := HC.out X ⟨b3, o3 + k * 7 + 5, none⟩ (.int .i64 x.po) hb3 (hd 5 _ rfl)
      have e6 := HC.out X ⟨b3, o3 + k * 7 + 6, none⟩ (.int .i64 x.st) hb3 (hd 6 _ rfl)
      have j2 := HC.out X ⟨w.heap.size + 1, 2, none⟩ _ HA1.out.lt HA1.out.cell.2.2.1
      obtain ⟨V6, hV6, hb6, hs6, ha6⟩ := alloc_sm X.1 x
      have i2 := below_cell hb6 j2
      obtain ⟨q0, q1, q2, q3, q4, q5, q6⟩ := ha6.cell
      have w1 : IntKind.i64.wrap (B.start + x.tm) = B.start + x.tm := tm_wrap (by omega) (by omega)
      have w2 : IntKind.i64.wrap (B.start + x.tm - shift) = B.start + x.tm - shift := tm_wrap (by omega) (by omega)
      obtain ⟨w8, k2, m8, g8⟩ := (HM.out.below hb6).put (j := B.start + x.tm - shift) (tm_wf (by omega) (by omega)) (by unfold maxLen; omega) x
      replace k2 : (Instr.mapUpdate 53 (.map (some MB)) (.int .i64 (B.start + x.tm - shift)) (.agg #[.int .i64 x.tm, .int .i64 x.x, .int .i64 x.y, .int .i64 x.z, .int .i64 x.pu, .int .i64 x.po, .int .i64 x.st])).run Try.prog V6 = .ok () w8 := k2
      have HM8 := Lib.hid m8
      have HK8 := Lib.hid ((X.2.trans (Kept.of_below hb6)).trans (Kept.of_grown (O := fun q => q = MB) g8 (fun g e _ => by injection e with e; exact e.symm)))
      clear hx hd hb3 hb6 hs6 ha6 m8 g8 HM x0 x1 s0 s1
      go_wp2_with fail
      go_roundw
      case rel => exact ⟨k + 1, by go_num, by omega, ⟨w8, HK8.out⟩, rfl, Lib.hid (by rw [HSN.out]; exact HM8.out)⟩
      case measure => simp [intOf]; omega
    · have t2 : decide ((k : Int) < (B.sm.length : Int)) = false := by rw [decide_eq_false_iff_not]; omega
      have t2' : decide (k < B.sm.length) = false := by simpa using hlt
      obtain rfl : k = B.sm.length := by omega
      obtain ⟨F0, hF0⟩ : ∃ F, mapB B shift B.sm = F := ⟨_, rfl⟩
      have HF0 := Lib.hid hF0
      have HMX := HM.out
      rw [List.take_length, hF0] at HMX
      have j3 := HC.out X ⟨w.heap.size, 3, none⟩ _ HA0.out.lt HA0.out.cell.2.2.2.1
      clear hlt hk hF0 HM
      go_wp2_with fail
      clear j3
      go_loopw [65] (fun iv wr => ∃ k : Nat, iv = .int .i64 k ∧ k ≤ A.sm.length ∧ ∃ X : ExtO (fun q => q = MB) V3, wr = X.1 ∧ Hid (SMap X.1 MB (B.sm.length + k) (mapA A F0 (A.sm.take k)))) (fun iv _ => A.sm.length - (intOf iv).toNat)
      case atStart => exact ⟨0, rfl, by omega, X, rfl, Lib.hid HMX⟩
      case round =>
        clear HMX X
        obtain ⟨k, rfl, hk, X, rfl, HM⟩ := hrel
        by_cases hlt : k < A.sm.length
        · have t3 : decide ((k : Int) < (A.sm.length : Int)) = true := by rw [decide_eq_true_eq]; omega
          have t3' : decide (k < A.sm.length) = true := by simpa using hlt
          obtain ⟨x, hx⟩ : ∃ x, A.sm[k]? = some x := ⟨_, List.getElem?_eq_getElem hlt⟩
          obtain ⟨F1, hF1⟩ : ∃ F, mapA A F0 (A.sm.take k) = F := ⟨_, rfl⟩
          have HSN := Lib.hid (show mapA A F0 (A.sm.take (k + 1)) = stepA A F1 x by rw [mapA_snoc hx, hF1])
          have hM := HM.out
          rw [hF1] at hM
          have x0 := HOA.out.sm.nonneg hx
          have x1 := (HOA.out.sm.upto k x hx).1
          obtain ⟨s0, s1⟩ := HOA.out.start
          have hna := HOA.out.nsm
          have hnb := HOB.out.nsm
          obtain ⟨b3, o3, rfl, hb3, hd⟩ := HIA.out.sm.at hx
          have e0 := HC.out X ⟨b3, o3 + k * 7, none⟩ (.int .i64 x.tm) hb3 (hd 0 _ rfl)
          have e1 := HC.out X ⟨b3, o3 + k * 7 + 1, none⟩ (.int .i64 x.x) hb3 (hd 1 _ rfl)
          have e2 := HC.out X ⟨b3, o3 + k * 7 + 2, none⟩ (.int .i64 x.y) hb3 (hd 2 _ rfl)
          have e3 := HC.out X ⟨b3, o3 + k * 7 + 3, none⟩ (.int .i64 x.z) hb3 (hd 3 _ rfl)
          have e4 := HC.out X ⟨b3, o3 + k * 7 + 4, none⟩ (.int .i64 x.pu) hb3 (hd 4 _ rfl)
          have e5 := HC.out X ⟨b3, o3 + k * 7 + 5, none⟩ (.int .i64 x.po) hb3 (hd 5 _ rfl)
          have e6 := HC.out X ⟨b3, o3 + k * 7 + 6, none⟩ (.int .i64 x.st) hb3 (hd 6 _ rfl)
          have j2 := HC.out X ⟨w.heap.size, 2, none⟩ _ HA0.out.lt HA0.out.cell.2.2.1
          obtain ⟨V6, hV6, hb6, hs6, ha6⟩ := alloc_sm X.1 x
          have i2 := below_cell hb6 j2
          obtain ⟨q0, q1, q2, q3, q4, q5, q6⟩ := ha6.cell
          have w1 : IntKind.i64.wrap (A.start + x.tm) = A.start + x.tm := tm_wrap (by omega) (by omega)
          have hkwf : (Lit.int .i64 (A.start + x.tm)).wf = true := tm_wf (by omega) (by omega)
          have hlk := (hM.below hb6).look hkwf
          obtain ⟨st, hst⟩ : ∃ s, (F1 (A.start + x.tm)).getD sm0 = s := ⟨_, rfl⟩
          obtain ⟨bl, hbl⟩ : ∃ s, (F1 (A.start + x.tm)).isSome = s := ⟨_, rfl⟩
          rw [hst, hbl] at hlk
          replace hlk : (Instr.lookup 53 (.map (some MB)) (.int .i64 (A.start + x.tm)) true).run Try.prog V6 = .ok (.tuple #[.agg #[.int .i64 st.tm, .int .i64 st.x, .int .i64 st.y, .int .i64 st.z, .int .i64 st.pu, .int .i64 st.po, .int .i64 st.st], .bool bl]) V6 := hlk
          obtain ⟨V7, hV7, hb7, hs7, ha7⟩ := alloc_sm V6 st
          have i3 := below_cell hb7 i2
          have hc6 := ha6.below hb7
          obtain ⟨r0, r1, r2, r3, r4, r5, r6⟩ := hc6.cell
          obtain ⟨u0, u1, u2, u3, u4, u5, u6⟩ := ha7.cell
          have HMM := Lib.hid ((hM.below hb6).below hb7)
          have HK7 := Lib.hid ((X.2.trans (Kept.of_below hb6)).trans (Kept.of_below hb7))
          have HC6 := Lib.hid hc6
          have HKW := Lib.hid hkwf
          have HNN := Lib.hid (show B.sm.length + k < maxLen from by unfold maxLen; omega)
          have HSB := Lib.hid (And.intro hst hbl)
          clear hx hd hb3 hb6 hb7 hs6 ha6 ha7 hc6 hM HM x0 x1 s0 s1 hnb hkwf hF1 hst hbl
          cases bl
          case false =>
            have HST := Lib.hid (show stepA A F1 x = putS F1 (A.start + x.tm) x from by
              unfold stepA
              cases hf : F1 (A.start + x.tm) with
              | none => rfl
              | some t => have := HSB.out.2; rw [hf] at this; cases this)
            obtain ⟨w8, k2, m8, g8⟩ := HMM.out.put (j := A.start + x.tm) HKW.out HNN.out x
            replace k2 : (Instr.mapUpdate 53 (.map (some MB)) (.int .i64 (A.start + x.tm)) (.agg #[.int .i64 x.tm, .int .i64 x.x, .int .i64 x.y, .int .i64 x.z, .int .i64 x.pu, .int .i64 x.po, .int .i64 x.st])).run Try.prog V7 = .ok () w8 := k2
            have HM8 := Lib.hid m8
            have HK8 := Lib.hid (HK7.out.trans (Kept.of_grown (O := fun q => q = MB) g8 (fun g e _ => by injection e with e; exact e.symm)))
            clear m8 g8
            go_wp2_with fail
            go_roundw
            case rel => exact ⟨k + 1, by go_num, by omega, ⟨w8, HK8.out⟩, rfl, Lib.hid (by rw [HSN.out, HST.out]; exact HM8.out)⟩
            case measure => simp [intOf]; omega
          case true =>
            have HST := Lib.hid (show stepA A F1 x = putS F1 (A.start + x.tm) (fillS x st) from by
              unfold stepA
              cases hf : F1 (A.start + x.tm) with
              | none => have := HSB.out.2; rw [hf] at this; cases this
              | some t => have := HSB.out.1; rw [hf] at this; rw [← this]; rfl)
            have hfe : fillS x st = ⟨x.tm, x.x, x.y, x.z, orNeg x.pu st.pu, orNeg x.po st.po, orNeg x.st st.st⟩ := rfl
            have hDF := fun W => filled_any x st W
            obtain ⟨p4, hp4⟩ : ∃ z, orNeg x.pu st.pu = z := ⟨_, rfl⟩
            obtain ⟨p5, hp5⟩ : ∃ z, orNeg x.po st.po = z := ⟨_, rfl⟩
            obtain ⟨p6, hp6⟩ : ∃ z, orNeg x.st st.st = z := ⟨_, rfl⟩
            rw [hp4, hp5, hp6] at hfe
            rw [hfe] at hDF HST
            have DF := Lib.hid (fun W => show Calls Try.prog 20 #[.agg #[.int .i64 x.tm, .int .i64 x.x, .int .i64 x.y, .int .i64 x.z, .int .i64 x.pu, .int .i64 x.po, .int .i64 x.st], .agg #[.int .i64 st.tm, .int .i64 st.x, .int .i64 st.y, .int .i64 st.z, .int .i64 st.pu, .int .i64 st.po, .int .i64 st.st]] W fun e w' => e = .returned (.agg #[.int .i64 x.tm, .int .i64 x.x, .int .i64 x.y, .int .i64 x.z, .int .i64 p4, .int .i64 p5, .int .i64 p6]) ∧ Below W.heap.size W w' from hDF W)
            clear hfe hDF hp4 hp5 hp6
            go_wp2_with fail
            refine (DF.out _).mono ?_
            rintro e W8 ⟨rfl, hb8⟩
            have hc8 := HC6.out.below hb8
            have fr := hc8.free
            obtain ⟨v0, v1, v2, v3, v4, v5, v6⟩ := hc8.cell
            obtain ⟨W9, hW9, hc9, hk9⟩ := hc8.store ⟨x.tm, x.x, x.y, x.z, p4, p5, p6⟩
            obtain ⟨n0, n1, n2, n3, n4, n5, n6⟩ := hc9.cell
            simp only at hW9 n0 n1 n2 n3 n4 n5 n6
            have hbb : Below V7.heap.size V7 W9 ∨ True := Or.inr trivial
            have hk79 : Kept (fun q => q = X.1.heap.size) V7 W9 := (Kept.of_below hb8).trans (hk9 (fun q => q = X.1.heap.size) rfl)
            have hne : ¬ MB = X.1.heap.size := by have := HMB.out; have := X.2.size; omega
            have hne2 : ¬ w.heap.size = X.1.heap.size := by have := HMB.out; have := X.2.size; have := HSZ.out; omega
            have i4 : W9.cell? ⟨w.heap.size, 2, none⟩ = some (.int .i64 A.start) := hk79.cell (p := ⟨w.heap.size, 2, none⟩) hne2 i3
            obtain ⟨w10, k2, m8, g8⟩ := (HMM.out.kept hk79 hne).put (j := A.start + x.tm) HKW.out HNN.out ⟨x.tm, x.x, x.y, x.z, p4, p5, p6⟩
            replace k2 : (Instr.mapUpdate 53 (.map (some MB)) (.int .i64 (A.start + x.tm)) (.agg #[.int .i64 x.tm, .int .i64 x.x, .int .i64 x.y, .int .i64 x.z, .int .i64 p4, .int .i64 p5, .int .i64 p6])).run Try.prog W9 = .ok () w10 := k2
            have HM8 := Lib.hid m8
            have HK8 := Lib.hid (show Kept (fun q => q = MB) V3 w10 from by
              have h1 : Kept (fun q => q = MB) V3 W9 := ⟨hk79.os.trans HK7.out.os, hk79.tape.trans HK7.out.tape, hk79.output.trans HK7.out.output, Nat.le_trans HK7.out.size hk79.size, fun g hg ho => (hk79.block g (Nat.lt_of_lt_of_le hg HK7.out.size) (fun e => by have := X.2.size; omega)).trans (HK7.out.block g hg ho)⟩
              exact h1.trans (Kept.of_grown (O := fun q => q = MB) g8 (fun g e _ => by injection e with e; exact e.symm)))
            clear hb8 hc8 hc9 hk9 hbb hk79 m8 g8
            go_wp2_with fail
            go_roundw
            case rel => exact ⟨k + 1, by go_num, by omega, ⟨w10, HK8.out⟩, rfl, Lib.hid (by rw [HSN.out, HST.out]; exact HM8.out)⟩
            case measure => simp [intOf]; omega
        · have t3 : decide ((k : Int) < (A.sm.length : Int)) = false := by rw [decide_eq_false_iff_not]; omega
          have t3' : decide (k < A.sm.length) = false := by simpa using hlt
          obtain rfl : k = A.sm.length := by omega
          have hFF : mapA A F0 A.sm = mgF A B shift := by unfold mgF; rw [HF0.out]
          have HM3 := HM.out
          rw [List.take_length, hFF] at HM3
          have hna := HOA.out.nsm
          have hnb := HOB.out.nsm
          have hnl := HOA.out.nlp
          have hnt := HOA.out.ntg
          obtain ⟨N, hN⟩ : ∃ N, B.sm.length + A.sm.length = N := ⟨_, rfl⟩
          rw [hN] at HM3
          have HN := Lib.hid (show N ≤ 40000 from by omega)
          have HMX := Lib.hid HM3
          have HINX := Lib.hid (show ActIn X.1 A a b c from by
            have hv : ∀ {α : Type} {C : α → List Value} {m : Nat} {x : Option Addr} {ll : List α}, Rw C m V2 x ll → Rw C m X.1 x ll := fun hr => ⟨fun hl => by
              obtain ⟨bb, off, e, hb, hc⟩ := hr.here hl
              exact ⟨bb, off, e, by have := X.2.size; have := HB3.out.size; omega, fun i x hx j v hv => HC.out X ⟨bb, off + i * _ + j, none⟩ v hb (hc i x hx j v hv)⟩⟩
            exact ⟨hv HIA.out.sm, hv HIA.out.lp, hv HIA.out.tg, HIA.out.name, HIA.out.titles, HIA.out.tags, HIA.out.nsm, HIA.out.nlp, HIA.out.ntg⟩)
          have DC := Lib.hid (cloneA_any A a b c ca cb cc X.1 HINX.out (by omega) (by omega) (by omega))
          unfold actV CloneRet at DC
          obtain ⟨m0, m1, m2, m3, m4, m5⟩ := HA0.out.cell
          have g0 := HC.out X ⟨w.heap.size, 0, none⟩ _ HA0.out.lt m0
          have g1 := HC.out X ⟨w.heap.size, 1, none⟩ _ HA0.out.lt m1
          have g2 := HC.out X ⟨w.heap.size, 2, none⟩ _ HA0.out.lt m2
          have g3 := HC.out X ⟨w.heap.size, 3, none⟩ _ HA0.out.lt m3
          have g4 := HC.out X ⟨w.heap.size, 4, none⟩ _ HA0.out.lt m4
          have g5 := HC.out X ⟨w.heap.size, 5, none⟩ _ HA0.out.lt m5
          clear hlt hk HM HM3 hFF hN m0 m1 m2 m3 m4 m5 HF0
          go_wp2_with fail
          refine (DC.out).mono ?_
          rintro e w1 ⟨⟨a1, b1, c1, ca1, cb1, cc1, rfl, ho3⟩, hb1⟩
          obtain ⟨V4, hV4, hb4, hs4, ha4⟩ := alloc_ac w1 A.name A.sport A.start (.slice a1 A.sm.length ca1) (.slice b1 A.lp.length cb1) (.slice c1 A.tg.length cc1)
          have hA5 := ha4.set3 (.slice none 0 0)
          obtain ⟨W, hW⟩ : ∃ W, V4.setCell ⟨w1.heap.size, 3, none⟩ (.slice none 0 0) = W := ⟨_, rfl⟩
          rw [hW] at hA5
          have i3 := ha4.cell.2.2.2.1
          have fr3 := ha4.free 3
          have HBW := Lib.hid (show Below w1.heap.size w1 W from Kept.below hb4 (by rw [← hW]; exact keep_set (O := fun b => b = w1.heap.size) rfl) hb4.size (fun k hk e => by omega))
          have HB1 := Lib.hid hb1
          have HO3 := Lib.hid ho3
          have HA5 := Lib.hid hA5
          have HMW := Lib.hid ((HMX.out.below hb1).below HBW.out)
          obtain ⟨DM, hown, hat⟩ := HMW.out.ex
          have HDM := Lib.hid (And.intro hown hat)
          have HBO := Lib.hid (show X.1.heap.size ≤ w1.heap.size ∧ w1.heap.size < W.heap.size from ⟨hb1.size, HA5.out.lt⟩)
          clear hA5 ha4 hb4 hs4 hb1 ho3 hown hat g0 g1 g2 g3 g4 g5
          unfold actV
          obtain ⟨r, hr⟩ : ∃ r, W.heap.size = r := ⟨_, rfl⟩
          have HR := Lib.hid hr
          clear hr
          go_wp2_with (at_range; refine wpList_range_own _ rfl _ 53 rfl 3 37 (Maps.int_keyed Try.underlying3) Try.underlying53 smR MB N DM rfl HDM.out.1 ?_; intro w0 hrg0 hgr0 hs0)
          go_frame
          obtain ⟨BO, hBO⟩ : ∃ q, w1.heap.size = q := ⟨_, rfl⟩
          rw [hBO] at HA5 HBO ⊢
          rw [HR.out] at hrg0 hs0 ⊢
          clear i3 fr3 hV4 hW
          have HW0 := Lib.hid (show Below W.heap.size W w0 from (Below.refl _ _).grown hgr0 (Nat.le_refl _) (fun j hj => by cases hj))
          have HS0 := Lib.hid (show w0.heap.size = r + 1 from hs0)
          clear hgr0 hs0
          go_loopw [17] (fun _ wr => ∃ (left : Lit → Bool) (cnt : Nat) (L : List Sm), Hid (wr.ranges Try.prog 3 smR MB r N DM left cnt) ∧ Hid (RgS (mgF A B shift) left L ∧ L.length + cnt ≤ N) ∧ Hid (∃ vs, AcB wr BO A.name A.sport A.start vs (.slice b1 A.lp.length cb1) (.slice c1 A.tg.length cc1) ∧ Own smC 7 37 wr w0.heap.size vs L) ∧ ∃ Y : ExtO (fun q => q = BO) W, wr = Y.1) (fun _ wr => wr.rangeLeft MB r)
          case atStart =>
            refine ⟨Maps.has DM, Maps.size DM, [], Lib.hid hrg0, Lib.hid ⟨RgS.start fun j u hj hu => Maps.has_true_of_atKey ((HDM.out.2 j hj).1 u hu), by have := HDM.out.1.size_le; simpa using this⟩, Lib.hid ⟨_, HA5.out.below HW0.out, Own.nil _ _ _ _ _⟩, ⟨w0, Kept.of_below HW0.out⟩, rfl⟩
          case round =>
            obtain ⟨left, cnt, L, HRG, HRS, HST, Y, rfl⟩ := hrel
            go_wp2_with (at_next; refine wpList_next_ranges _ rfl _ rfl 3 (Maps.int_keyed Try.underlying3) smR (fun x : Int => Value.int .i64 x) smV key_int smR_val MB r N _ _ _ rfl HRG.out ?_ ?_)
            · intro hc0 hl0
              have HMEM := Lib.hid (HRS.out.1.done hl0 (fun j u hj => by have := mgF_range HOA.out HOB.out h0 h1 hj; exact tm_wf (by omega) (by omega)))
              have HND := Lib.hid HRS.out.1.nd
              have HLN := Lib.hid (show L.length ≤ 40000 from by have := HRS.out.2; have := HN.out; omega)
              obtain ⟨vs, hac, hown⟩ := HST.out
              obtain ⟨a2, c2, rfl, -, -, -⟩ := hown.row smEl
              have DSO := Lib.hid (sortSm_any L a2 c2 w0.heap.size Y.1 hown (by have := HLN.out; omega))
              have HAC := Lib.hid hac
              have HOW := Lib.hid hown
              have k3 := hac.cell.2.2.2.1
              clear hac hown HST HRS HRG hl0 hc0
              go_wp2_with fail
              refine (DSO.out).mono ?_
              rintro e U ⟨rfl, ⟨LS, hperm, hsort, hown⟩, hgU⟩
              have hll : LS.length = L.length := hperm.length_eq
              have HLS := Lib.hid (show LS.Pairwise (fun x y => x.tm < y.tm) from by
                have hnd : LS.Pairwise (fun x y => x.tm ≠ y.tm) := (hperm.pairwise_iff (fun {x y} h => Ne.symm h)).2 HND.out
                exact (hsort.and hnd).imp (fun ⟨h1, h2⟩ => by omega))
              have HSM := Lib.hid (fun s => show s ∈ LS ↔ ∃ u, mgF A B shift s.tm = some u ∧ s = { u with tm := s.tm } from (hperm.mem_iff).trans (HMEM.out s))
              have hbo := HBO.out
              have hrr := HR.out
              have hss := HS0.out
              have HOU := Lib.hid hown
              have HAU := Lib.hid (HAC.out.kept (O := fun q => w0.heap.size ≤ q) (Kept.of_grown hgU (fun g e _ => (HOW.out.lt g e).1)) (by omega))
              have HKU := Lib.hid (Y.2.grown hgU (fun g e hlt => by have := (HOW.out.lt g e).1; omega))
              have HLL := Lib.hid hll
              have HLR := Lib.hid (fun (i : Nat) (x : Sm) (hx : LS[i]? = some x) => show (-86399999999 ≤ x.tm ∧ x.tm ≤ 172800000000) from by
                obtain ⟨u, hu, _⟩ := (HSM.out x).1 (List.mem_of_getElem? hx)
                exact mgF_range HOA.out HOB.out h0 h1 hu)
              rw [← hll] at HOU HAU ⊢
              obtain ⟨n, hn⟩ : ∃ n, LS.length = n := ⟨_, rfl⟩
              rw [hn] at HOU HAU ⊢
              have HNN := Lib.hid (show LS.length = n ∧ n ≤ 40000 from ⟨hn, by have := HLN.out; omega⟩)
              clear hperm hsort hown hgU hll k3 hn HAC HOW HND HMEM DSO HLN HLL
              obtain ⟨o0, o1, o2, o3, o4, o5⟩ := HAU.out.cell
              have fo := HAU.out.free
              by_cases hn0 : 0 < n
              case' pos =>
                have t4 : decide ((0 : Int) < (n : Int)) = true := by rw [decide_eq_true_eq]; omega
                have t4' : decide (0 < n) = true := by rw [decide_eq_true_eq]; omega
                obtain ⟨x, hx⟩ : ∃ x, LS[0]? = some x := ⟨_, List.getElem?_eq_getElem (by rw [HNN.out.1]; exact hn0)⟩
                obtain ⟨b3, o3', rfl, hb3, hd⟩ := (HOU.out.rw_ smEl).1.at hx
                have e0 : U.cell? ⟨b3, o3', none⟩ = some (.int .i64 x.tm) := by have := hd 0 _ rfl; simpa using this
                have HST := Lib.hid (show mgSt A LS = x.tm by unfold mgSt; rw [hx])
                have hxr := HLR.out 0 x hx
                obtain ⟨st, hst⟩ : ∃ z, x.tm = z := ⟨_, rfl⟩
                rw [hst] at e0 HST hxr
                have ha4 := HAU.out.set2 st
                obtain ⟨W4, hW4⟩ : ∃ z, U.setCell ⟨BO, 2, none⟩ (.int .i64 st) = z := ⟨_, rfl⟩
                rw [hW4] at ha4
                have hk4 : Kept (fun q => q = BO) U W4 := by rw [← hW4]; exact keep_set (O := fun q => q = BO) rfl
                have HOW4 := Lib.hid (HOU.out.keepO hk4 (fun b hb e => by have := (HOU.out.lt b hb).1; omega))
                have HA4 := Lib.hid ha4
                have HK4 := Lib.hid (HKU.out.trans hk4)
                have k34 := ha4.cell.2.2.2.1
                have HSR := Lib.hid hxr
                clear hx hb3 hd hst hk4 ha4 hxr hbo hrr hss
                go_wp2_with fail
                clear e0 hW4 k34 t4 t4'
                obtain ⟨a2, ha2⟩ : ∃ q, some (⟨b3, o3', none⟩ : Addr) = q := ⟨_, rfl⟩
                rw [ha2] at HA4 HOW4 ⊢
                clear o0 o1 o2 o3 o4 o5 fo HOU HAU HKU ha2
              case' neg =>
                have t4 : decide ((0 : Int) < (n : Int)) = false := by rw [decide_eq_false_iff_not]; omega
                have t4' : decide (0 < n) = false := by rw [decide_eq_false_iff_not]; omega
                clear hbo hrr hss
                go_wp2_with fail
                clear t4
                obtain ⟨st, hst⟩ : ∃ z, A.start = z := ⟨_, rfl⟩
                have HST := Lib.hid (show mgSt A LS = st by
                  unfold mgSt
                  rw [List.getElem?_eq_none (by rw [HNN.out.1]; omega)]
                  exact hst)
                have HSR := Lib.hid (show -86399999999 ≤ st ∧ st ≤ 172800000000 from by have := HOA.out.start; omega)
                obtain ⟨W4, hW4⟩ : ∃ z, U = z := ⟨_, rfl⟩
                have HA4 := Lib.hid (show AcB W4 BO A.name A.sport st (.slice a2 n c2) (.slice b1 A.lp.length cb1) (.slice c1 A.tg.length cc1) from by rw [← hW4, ← hst]; exact HAU.out)
                have HOW4 := Lib.hid (show Own smC 7 37 W4 w0.heap.size (.slice a2 n c2) LS from hW4 ▸ HOU.out)
                have HK4 := Lib.hid (show Kept (fun q => q = BO) W W4 from hW4 ▸ HKU.out)
                rw [hW4]
                clear hst hW4 t4'
                clear o0 o1 o2 o3 o4 o5 fo HOU HAU HKU
              all_goals
                clear hn0
                have HOL := Lib.hid (show ∃ Bl, X.1.heap.size ≤ Bl ∧ Own lpC 3 48 w1 Bl (.slice b1 A.lp.length cb1) A.lp from by
                  obtain ⟨B1, B2, h1, h2, _, _, hl, _, _⟩ := HO3.out.ex
                  exact ⟨B1, h1, hl⟩)
                obtain ⟨Bl, hBl, hlw⟩ := HOL.out
                have HLB := Lib.hid (fun q (hq : b1 = some ⟨q, 0, none⟩) => show X.1.heap.size ≤ q ∧ q < BO from by
                  have := hlw.lt q (by rw [hq]; rfl)
                  omega)
                have HLW := Lib.hid hlw
                have HBLO := Lib.hid hBl
                clear hBl hlw HOL
                go_loopw [125] (fun iv wr => ∃ k : Nat, iv = .int .i64 k ∧ k ≤ n ∧ Hid (Own smC 7 37 wr w0.heap.size (.slice a2 n c2) ((LS.take k).map (backS st) ++ LS.drop k)) ∧ ∃ Z : ExtO (fun q => w0.heap.size ≤ q) W4, wr = Z.1) (fun iv _ => n - (intOf iv).toNat)
                case atStart => exact ⟨0, rfl, by omega, Lib.hid HOW4.out, ⟨W4, Kept.refl _ _⟩, rfl⟩
                case round =>
                  obtain ⟨k, rfl, hk, HO, Z, rfl⟩ := hrel
                  have hbow : ¬ w0.heap.size ≤ BO := by have := HBO.out; have := HR.out; have := HS0.out; omega
                  have hacz := HA4.out.kept Z.2 hbow
                  by_cases hlt : k < n
                  · have t5 : decide ((k : Int) < (n : Int)) = true := by rw [decide_eq_true_eq]; omega
                    have t5' : decide (k < n) = true := by simpa using hlt
                    obtain ⟨x, hx⟩ : ∃ x, LS[k]? = some x := ⟨_, List.getElem?_eq_getElem (by rw [HNN.out.1]; exact hlt)⟩
                    have hxr := HLR.out k x hx
                    have hsr := HSR.out
                    have hat := at_upto (backS st) LS k x hx
                    have HUP := Lib.hid (map_upto (backS st) LS k x hx)
                    have hlen := len_upto (backS st) LS k (by rw [HNN.out.1]; exact hk)
                    obtain ⟨q, c', he, hq1, hq2⟩ := HO.out.open (by rw [hlen, HNN.out.1]; omega)
                    injection he with he1 he2 he3
                    subst he1
                    have hcell : Z.1.cell? ⟨q, k * 7, none⟩ = some (.int .i64 x.tm) := by
                      have := (HO.out.rw_ smEl).1.on hat 0 _ rfl
                      simpa using this
                    have hw : IntKind.i64.wrap (x.tm - st) = x.tm - st := tm_wrap (by omega) (by omega)
                    have E0 := Ext.ex hcell
                    have G2 := Ext.ex hacz.cell.2.2.1
                    have G3 := Ext.ex hacz.cell.2.2.2.1
                    have HAT := Lib.hid hat
                    have HQ1 := Lib.hid hq1
                    have HLT := Lib.hid hlt
                    clear hx hxr hsr hat hlen he2 he3 hcell hacz hbow hq1 hq2 hk hlt
                    go_wp2_with fail
                    refine late_start (s := 11) (C := fun w' => ∃ Y : Ext Z.1, w' = Y.1) (by kernel_rfl) ?_
                    obtain ⟨Q0, hQ0⟩ : ∃ Y : Ext Z.1, ({ Z.1 with drawn := Z.1.drawn + 1 } : World) = Y.1 := ⟨⟨{ Z.1 with drawn := Z.1.drawn + 1 }, ⟨rfl, rfl, rfl, Nat.le_refl _, fun _ _ => rfl⟩⟩, rfl⟩
                    rw [hQ0]
                    clear hQ0
                    refine late_quiet (by kernel_rfl) (fun _ _ d _ _ h => by cases d <;> exact h) ⟨Q0, rfl⟩ [0, 1, 2] 9 _ _ (by kernel_rfl) (by kernel_rfl) ?_
                    change wpQuiet _ _ _ _ (_ :: _ :: _ :: []) _
                    repeat go_big_quiet_step (fail)
                    refine wpQuiet_nil ?_
                    have hlt := HLT.out
                    refine late_quiet (by kernel_rfl) (fun _ _ d _ _ h => by cases d <;> exact h) ⟨Q0, rfl⟩ [3] 8 _ _ (by kernel_rfl) (by kernel_rfl) ?_
                    change wpQuiet _ _ _ _ (_ :: []) _
                    repeat go_big_quiet_step (fail)
                    refine wpQuiet_nil ?_
                    clear hlt
                    refine late_quiet (by kernel_rfl) (fun _ _ d _ _ h => by cases d <;> exact h) ⟨Q0, rfl⟩ [4, 5, 6, 7, 8] 3 _ _ (by kernel_rfl) (by kernel_rfl) ?_
                    change wpQuiet _ _ _ _ (_ :: _ :: _ :: _ :: _ :: []) _
                    repeat go_big_quiet_step (fail)
                    refine wpQuiet_nil ?_
                    have hlt := HLT.out
                    refine late_quiet (by kernel_rfl) (fun _ _ d _ _ h => by cases d <;> exact h) ⟨Q0, rfl⟩ [9] 2 _ _ (by kernel_rfl) (by kernel_rfl) ?_
                    change wpQuiet _ _ _ _ (_ :: []) _
                    repeat go_big_quiet_step (fail)
                    refine wpQuiet_nil ?_
                    clear hlt
                    refine late_quiet (by kernel_rfl) (fun _ _ d _ _ h => by cases d <;> exact h) ⟨Q0, rfl⟩ [10] 1 _ _ (by kernel_rfl) (by kernel_rfl) ?_
                    change wpQuiet _ _ _ _ (_ :: []) _
                    repeat go_big_quiet_step (fail)
                    refine wpQuiet_nil ?_
                    have hoq := HO.out.below Q0.2
                    have fq := hoq.free (k * 7)
                    obtain ⟨hos, hks⟩ := hoq.set smEl (j := 0) HAT.out (by decide) (y := backS st x) (u := .int .i64 (x.tm - st)) rfl
                    rw [Nat.add_zero] at hos hks
                    obtain ⟨W9, hW9⟩ : ∃ z, Q0.1.setCell ⟨q, k * 7, none⟩ (.int .i64 (x.tm - st)) = z := ⟨_, rfl⟩
                    rw [hW9] at hos hks
                    rw [HUP.out] at hos
                    have HOS := Lib.hid hos
                    have HKS := Lib.hid ((Z.2.trans (Kept.of_below Q0.2)).trans (show Kept (fun g => w0.heap.size ≤ g) Q0.1 W9 from ⟨hks.os, hks.tape, hks.output, hks.size, fun g hg ho => hks.block g hg (fun e => ho (by rw [e]; exact HQ1.out))⟩))
                    clear hoq hos hks
                    refine late_do (i := 11) _ rfl (by kernel_rfl) rfl (fun K hK => ?_)
                    go_simp
                    refine hK _ _ (fun h => nomatch (show true = false from h)) ?_
                    clear hK K
                    try simp only [Act.put, List.setIfInBounds_toArray, List.set_cons_zero, List.set_cons_succ]
                    refine late_done (by kernel_rfl) ?_ _
                    have hn4 := HNN.out.2
                    have hlt := HLT.out
                    go_wp2_with fail
                    go_roundw
                    case rel => exact ⟨k + 1, by go_num, by omega, HOS, ⟨W9, HKS.out⟩, rfl⟩
                    case measure => simp [intOf]; omega
                  · have t5 : decide ((k : Int) < (n : Int)) = false := by rw [decide_eq_false_iff_not]; omega
                    have t5' : decide (k < n) = false := by simpa using hlt
                    obtain rfl : k = n := by omega
                    obtain ⟨W5, hW5⟩ : ∃ z, Z.1 = z := ⟨_, rfl⟩
                    have hbo := HBO.out
                    have hrr := HR.out
                    have hss := HS0.out
                    have hmb := HMB.out
                    have hx3 := X.2.size
                    have hsz2 := HSZ.out
                    have hk45 : Kept (fun q => w0.heap.size ≤ q) W4 W5 := hW5 ▸ Z.2
                    have HK5 := Lib.hid (show Kept (fun q => q = BO ∨ w0.heap.size ≤ q) W W5 from Kept.trans (O := fun q => q = BO ∨ w0.heap.size ≤ q) ⟨HK4.out.os, HK4.out.tape, HK4.out.output, HK4.out.size, fun g hg ho => HK4.out.block g hg (fun e => ho (Or.inl e))⟩ ⟨hk45.os, hk45.tape, hk45.output, hk45.size, fun g hg ho => hk45.block g hg (fun e => ho (Or.inr e))⟩)
                    have HA5' := Lib.hid (hW5 ▸ hacz)
                    have HO5 := Lib.hid (show Own smC 7 37 W5 w0.heap.size (.slice a2 k c2) (LS.map (backS st)) from by
                      have h := HO.out
                      rw [← HNN.out.1, List.take_length, List.drop_length, List.append_nil, HNN.out.1, hW5] at h
                      exact h)
                    have HL5 := Lib.hid ((HLW.out.below HBW.out).keepO HK5.out (fun q hq e => by have := (HLW.out.lt q hq).2; omega))
                    have HCA := Lib.hid (show W5.cell? ⟨w.heap.size, 2, none⟩ = some (.int .i64 A.start) from HK5.out.cell (p := ⟨w.heap.size, 2, none⟩) (by simp only; omega) (below_cell HBW.out (below_cell HB1.out (HC.out X ⟨w.heap.size, 2, none⟩ _ HA0.out.lt HA0.out.cell.2.2.1))))
                    have j4 := HA5'.out.cell.2.2.2.2.1
                    have hnl' := hnl
                    rw [hW5]
                    clear hlt hk HO hacz hk45 hW5 hbo hrr hss hmb hx3 hsz2 hbow HOW4 HA4
                    go_wp2_with fail
                    clear j4 t5 t5'
                    go_loopw [143] (fun iv wr => ∃ j : Nat, iv = .int .i64 j ∧ j ≤ A.lp.length ∧ Hid (Own lpC 3 48 wr Bl (.slice b1 A.lp.length cb1) ((A.lp.take j).map (addL (A.start - st)) ++ A.lp.drop j)) ∧ ∃ Z : ExtO (fun q => b1 = some ⟨q, 0, none⟩) W5, wr = Z.1) (fun iv _ => A.lp.length - (intOf iv).toNat)
                    case atStart => exact ⟨0, rfl, by omega, Lib.hid HL5.out, ⟨W5, Kept.refl _ _⟩, rfl⟩
                    case round =>
                      obtain ⟨n', hn'⟩ : ∃ z, k = z := ⟨_, rfl⟩
                      subst hn'
                      clear Z
                      obtain ⟨j, rfl, hj, HO, Z, rfl⟩ := hrel
                      by_cases hlt : j < A.lp.length
                      · have t5 : decide ((j : Int) < (A.lp.length : Int)) = true := by rw [decide_eq_true_eq]; omega
                        have t5' : decide (j < A.lp.length) = true := by simpa using hlt
                        obtain ⟨p, hp⟩ : ∃ p, A.lp[j]? = some p := ⟨_, List.getElem?_eq_getElem hlt⟩
                        obtain ⟨p0, p1, p2, _⟩ := HOA.out.lp.each j p hp
                        have p3 := (spanS_range HOA.out.sm).2
                        have hsr := HSR.out
                        obtain ⟨as0, as1⟩ := HOA.out.start
                        have hat := at_upto (addL (A.start - st)) A.lp j p hp
                        have HUP := Lib.hid (map_upto (addL (A.start - st)) A.lp j p hp)
                        have hlen := len_upto (addL (A.start - st)) A.lp j hj
                        obtain ⟨q, c9, he, hq1, hq2⟩ := HO.out.open (by rw [hlen]; omega)
                        injection he with he1 he2 he3
                        have HLQ := Lib.hid (HLB.out q he1)
                        subst he1
                        have hroww := (HO.out.rw_ lpEl).1.on hat
                        have e0 : Z.1.cell? ⟨q, j * 3, none⟩ = some (.int .i64 p.f) := by have := hroww 0 _ rfl; simpa using this
                        have e1 : Z.1.cell? ⟨q, j * 3 + 1, none⟩ = some (.int .i64 p.t) := by have := hroww 1 _ rfl; simpa using this
                        have hwd : IntKind.i64.wrap (A.start - st) = A.start - st := tm_wrap (by omega) (by omega)
                        have hw1 : IntKind.i64.wrap (p.f + (A.start - st)) = p.f + (A.start - st) := tm_wrap (by omega) (by omega)
                        have hw2 : IntKind.i64.wrap (p.t + (A.start - st)) = p.t + (A.start - st) := tm_wrap (by omega) (by omega)
                        have hOq : ∀ g, (some (⟨q, 0, none⟩ : Addr) = some ⟨g, 0, none⟩) → g = q := fun g e => by injection e with e; injection e with e; exact e.symm
                        have hacz := HA5'.out.kept Z.2 (fun e => by have := hOq _ e; have := HLQ.out; omega)
                        have haq := Z.2.cell (p := ⟨w.heap.size, 2, none⟩) (fun e => by have hh : w.heap.size = q := hOq _ e; have := HLQ.out; have := X.2.size; have := HMB.out; have := HSZ.out; omega) HCA.out
                        have E0 := Ext.ex e0
                        have G2 := Ext.ex hacz.cell.2.2.1
                        have G4 := Ext.ex hacz.cell.2.2.2.2.1
                        have GA := Ext.ex haq
                        have HAT := Lib.hid hat
                        have HLT := Lib.hid hlt
                        have HE1 := Lib.hid e1
                        have HACZ := Lib.hid hacz
                        have HAQ := Lib.hid haq
                        clear hp p0 p1 p2 p3 hsr as0 as1 hat hlen he2 he3 hroww e0 e1 hacz haq hlt hj hq1 hq2
                        go_wp2_with fail
                        refine late_start (s := 14) (C := fun w' => ∃ Y : Ext Z.1, w' = Y.1) (by kernel_rfl) ?_
                        obtain ⟨Q0, hQ0⟩ : ∃ Y : Ext Z.1, ({ Z.1 with drawn := Z.1.drawn + 1 } : World) = Y.1 := ⟨⟨{ Z.1 with drawn := Z.1.drawn + 1 }, ⟨rfl, rfl, rfl, Nat.le_refl _, fun _ _ => rfl⟩⟩, rfl⟩
                        rw [hQ0]
                        clear hQ0
                        refine late_quiet (by kernel_rfl) (fun _ _ d _ _ h => by cases d <;> exact h) ⟨Q0, rfl⟩ [0, 1, 2] 12 _ _ (by kernel_rfl) (by kernel_rfl) ?_
                        change wpQuiet _ _ _ _ (_ :: _ :: _ :: []) _
                        repeat go_big_quiet_step (fail)
                        refine wpQuiet_nil ?_
                        have hlt := HLT.out
                        refine late_quiet (by kernel_rfl) (fun _ _ d _ _ h => by cases d <;> exact h) ⟨Q0, rfl⟩ [3] 11 _ _ (by kernel_rfl) (by kernel_rfl) ?_
                        change wpQuiet _ _ _ _ (_ :: []) _
                        repeat go_big_quiet_step (fail)
                        refine wpQuiet_nil ?_
                        clear hlt
                        refine late_quiet (by kernel_rfl) (fun _ _ d _ _ h => by cases d <;> exact h) ⟨Q0, rfl⟩ [4, 5, 6, 7, 8, 9, 10, 11] 3 _ _ (by kernel_rfl) (by kernel_rfl) ?_
                        change wpQuiet _ _ _ _ (_ :: _ :: _ :: _ :: _ :: _ :: _ :: _ :: []) _
                        repeat go_big_quiet_step (fail)
                        refine wpQuiet_nil ?_
                        have hlt := HLT.out
                        refine late_quiet (by kernel_rfl) (fun _ _ d _ _ h => by cases d <;> exact h) ⟨Q0, rfl⟩ [12] 2 _ _ (by kernel_rfl) (by kernel_rfl) ?_
                        change wpQuiet _ _ _ _ (_ :: []) _
                        repeat go_big_quiet_step (fail)
                        refine wpQuiet_nil ?_
                        clear hlt
                        refine late_quiet (by kernel_rfl) (fun _ _ d _ _ h => by cases d <;> exact h) ⟨Q0, rfl⟩ [13] 1 _ _ (by kernel_rfl) (by kernel_rfl) ?_
                        change wpQuiet _ _ _ _ (_ :: []) _
                        repeat go_big_quiet_step (fail)
                        refine wpQuiet_nil ?_
                        have hoq := HO.out.below Q0.2
                        have fq := hoq.free (j * 3)
                        obtain ⟨hos, hks⟩ := hoq.set lpEl (j := 0) HAT.out (by decide) (y := ⟨p.f + (A.start - st), p.t, p.s⟩) (u := .int .i64 (p.f + (A.start - st))) rfl
                        rw [Nat.add_zero] at hos hks
                        obtain ⟨W9, hW9⟩ : ∃ z, Q0.1.setCell ⟨q, j * 3, none⟩ (.int .i64 (p.f + (A.start - st))) = z := ⟨_, rfl⟩
                        rw [hW9] at hos hks
                        have HOS := Lib.hid hos
                        have hkz : Kept (fun g => g = q) Z.1 W9 := (Kept.of_below Q0.2).trans hks
                        have hneB : ¬ BO = q := by have := HLQ.out; omega
                        have hneA : ¬ w.heap.size = q := by have := HLQ.out; have := X.2.size; have := HMB.out; have := HSZ.out; omega
                        have hac9 := HACZ.out.kept hkz hneB
                        have haq9 := hkz.cell (p := ⟨w.heap.size, 2, none⟩) hneA HAQ.out
                        have HK9 := Lib.hid hkz
                        have HAT2 := Lib.hid (show (((A.lp.take j).map (addL (A.start - st)) ++ A.lp.drop j).set j ⟨p.f + (A.start - st), p.t, p.s⟩)[j]? = some ⟨p.f + (A.start - st), p.t, p.s⟩ from List.getElem?_set_self (List.getElem?_eq_some_iff.1 HAT.out).1)
                        have hr9 := (hos.rw_ lpEl).1.on HAT2.out
                        have e1 : W9.cell? ⟨q, j * 3 + 1, none⟩ = some (.int .i64 p.t) := by have := hr9 1 _ rfl; simpa using this
                        clear hoq hos hks hkz
                        refine late_do (i := 14) _ rfl (by kernel_rfl) rfl (fun K hK => ?_)
                        generalize hA : ({ tmps := _, defers := _ } : Act) = A0
                        have hp1 : A0.tmps[159]?.getD undef = .pointer (some ⟨q, j * 3, none⟩) := by rw [← hA]; rfl
                        have hv1 : A0.tmps[157]?.getD undef = .int .i64 (p.f + (A.start - st)) := by rw [← hA]; rfl
                        go_simp
                        refine hK _ _ (fun h => nomatch (show true = false from h)) ?_
                        subst hA
                        clear hK K hp1 hv1
                        try simp only [Act.put, List.setIfInBounds_toArray, List.set_cons_zero, List.set_cons_succ]
                        refine late_done (by kernel_rfl) ?_ _
                        clear fq hW9 E0 G2 G4 GA Q0
                        have E1 := Ext.ex e1
                        have G2 := Ext.ex hac9.cell.2.2.1
                        have G4 := Ext.ex hac9.cell.2.2.2.2.1
                        have GA := Ext.ex haq9
                        clear hr9 e1 hac9 haq9 hneB hneA
                        go_wp2_with fail
                        refine late_start (s := 14) (C := fun w' => ∃ Y : Ext W9, w' = Y.1) (by kernel_rfl) ?_
                        obtain ⟨Q0, hQ0⟩ : ∃ Y : Ext W9, ({ W9 with drawn := W9.drawn + 1 } : World) = Y.1 := ⟨⟨{ W9 with drawn := W9.drawn + 1 }, ⟨rfl, rfl, rfl, Nat.le_refl _, fun _ _ => rfl⟩⟩, rfl⟩
                        rw [hQ0]
                        clear hQ0
                        refine late_quiet (by kernel_rfl) (fun _ _ d _ _ h => by cases d <;> exact h) ⟨Q0, rfl⟩ [0, 1, 2] 12 _ _ (by kernel_rfl) (by kernel_rfl) ?_
                        change wpQuiet _ _ _ _ (_ :: _ :: _ :: []) _
                        repeat go_big_quiet_step (fail)
                        refine wpQuiet_nil ?_
                        have hlt := HLT.out
                        refine late_quiet (by kernel_rfl) (fun _ _ d _ _ h => by cases d <;> exact h) ⟨Q0, rfl⟩ [3] 11 _ _ (by kernel_rfl) (by kernel_rfl) ?_
                        change wpQuiet _ _ _ _ (_ :: []) _
                        repeat go_big_quiet_step (fail)
                        refine wpQuiet_nil ?_
                        clear hlt
                        refine late_quiet (by kernel_rfl) (fun _ _ d _ _ h => by cases d <;> exact h) ⟨Q0, rfl⟩ [4, 5, 6, 7, 8, 9, 10, 11] 3 _ _ (by kernel_rfl) (by kernel_rfl) ?_
                        change wpQuiet _ _ _ _ (_ :: _ :: _ :: _ :: _ :: _ :: _ :: _ :: []) _
                        repeat go_big_quiet_step (fail)
                        refine wpQuiet_nil ?_
                        have hlt := HLT.out
                        refine late_quiet (by kernel_rfl) (fun _ _ d _ _ h => by cases d <;> exact h) ⟨Q0, rfl⟩ [12] 2 _ _ (by kernel_rfl) (by kernel_rfl) ?_
                        change wpQuiet _ _ _ _ (_ :: []) _
                        repeat go_big_quiet_step (fail)
                        refine wpQuiet_nil ?_
                        clear hlt
                        refine late_quiet (by kernel_rfl) (fun _ _ d _ _ h => by cases d <;> exact h) ⟨Q0, rfl⟩ [13] 1 _ _ (by kernel_rfl) (by kernel_rfl) ?_
                        change wpQuiet _ _ _ _ (_ :: []) _
                        repeat go_big_quiet_step (fail)
                        refine wpQuiet_nil ?_
                        have hoq := HOS.out.below Q0.2
                        have fq := hoq.free (j * 3 + 1)
                        obtain ⟨hos, hks⟩ := hoq.set lpEl (j := 1) HAT2.out (by decide) (y := addL (A.start - st) p) (u := .int .i64 (p.t + (A.start - st))) rfl
                        obtain ⟨W10, hW10⟩ : ∃ z, Q0.1.setCell ⟨q, j * 3 + 1, none⟩ (.int .i64 (p.t + (A.start - st))) = z := ⟨_, rfl⟩
                        rw [hW10] at hos hks
                        rw [List.set_set, HUP.out] at hos
                        have HOT := Lib.hid hos
                        have HKT := Lib.hid (show Kept (fun g => some (⟨q, 0, none⟩ : Addr) = some ⟨g, 0, none⟩) W5 W10 from by
                          have h1 : Kept (fun g => g = q) Z.1 W10 := (HK9.out.trans (Kept.of_below Q0.2)).trans hks
                          exact Z.2.trans ⟨h1.os, h1.tape, h1.output, h1.size, fun g hg ho => h1.block g hg (fun e => ho (by rw [e]))⟩)
                        clear hoq hos hks
                        refine late_do (i := 14) _ rfl (by kernel_rfl) rfl (fun K hK => ?_)
                        generalize hA : ({ tmps := _, defers := _ } : Act) = A0
                        have hp1 : A0.tmps[173]?.getD undef = .pointer (some ⟨q, j * 3 + 1, none⟩) := by rw [← hA]; rfl
                        have hv1 : A0.tmps[171]?.getD undef = .int .i64 (p.t + (A.start - st)) := by rw [← hA]; rfl
                        go_simp
                        refine hK _ _ (fun h => nomatch (show true = false from h)) ?_
                        subst hA
                        clear hK K hp1 hv1
                        try simp only [Act.put, List.setIfInBounds_toArray, List.set_cons_zero, List.set_cons_succ]
                        refine late_done (by kernel_rfl) ?_ _
                        have hlt := HLT.out
                        go_wp2_with fail
                        go_roundw
                        case rel => exact ⟨j + 1, by go_num, by omega, HOT, ⟨W10, HKT.out⟩, rfl⟩
                        case measure => simp [intOf]; omega
                      · have t5 : decide ((j : Int) < (A.lp.length : Int)) = false := by rw [decide_eq_false_iff_not]; omega
                        have t5' : decide (j < A.lp.length) = false := by simpa using hlt
                        obtain rfl : j = A.lp.length := by omega
                        obtain ⟨W6, hW6⟩ : ∃ z, Z.1 = z := ⟨_, rfl⟩
                        have hk56 : Kept (fun q => b1 = some ⟨q, 0, none⟩) W5 W6 := hW6 ▸ Z.2
                        have hbo := HBO.out
                        have hrr := HR.out
                        have hss := HS0.out
                        have hmb := HMB.out
                        have hx3 := X.2.size
                        have hsz2 := HSZ.out
                        have HO6 := Lib.hid (HO5.out.keepO hk56 (fun b hb e => by have := (HO5.out.lt b hb).1; have := HLB.out b e; omega))
                        have HA6 := Lib.hid (HA5'.out.kept hk56 (fun e => by have := HLB.out _ e; omega))
                        have HL6 := Lib.hid (show Own lpC 3 48 W6 Bl (.slice b1 A.lp.length cb1) (A.lp.map (addL (A.start - st))) from by
                          have h := HO.out
                          rw [List.take_length, List.drop_length, List.append_nil, hW6] at h
                          exact h)
                        have HT6 := Lib.hid (show ∃ Bt, X.1.heap.size ≤ Bt ∧ Bt ≤ W6.heap.size ∧ Own tgC 1 9 W6 Bt (.slice c1 A.tg.length cc1) A.tg from by
                          obtain ⟨B1, B2, hb1, hb2, _, _, hl3, hl3', ht⟩ := HO3.out.ex
                          have htw : ∀ b, (Value.slice c1 A.tg.length cc1).ownBlock = some b → B2 ≤ b ∧ b < BO := fun b hb => by have := ht.lt b hb; omega
                          have h5 := (ht.below HBW.out).keepO HK5.out (fun b hb e => by have := htw b hb; omega)
                          have h6 := h5.keepO hk56 (fun b hb e => by
                            have := htw b hb
                            have hq := hl3' b (by rw [e]; rfl)
                            omega)
                          by_cases hz : 0 < A.tg.length
                          · obtain ⟨q, c9, he, hq1, hq2⟩ := h6.open hz
                            exact ⟨B2, by omega, by omega, h6⟩
                          · exact ⟨X.1.heap.size, Nat.le_refl _, by have := HK5.out.size; have := hk56.size; omega, h6.weaken (by omega)⟩)
                        obtain ⟨Bt, hBt1, hBt2, hT6⟩ := HT6.out
                        have HT7 := Lib.hid hT6
                        have HCV := Lib.hid (fun (p : Addr) (v : Value) (hp : p.block < V2.heap.size) (h : V2.cell? p = some v) => show W6.cell? p = some v from
                          hk56.cell (p := p) (fun e => by have hh := HLB.out p.block e; omega) (HK5.out.cell (p := p) (by omega) (below_cell HBW.out (below_cell HB1.out (HC.out X p v hp h)))))
                        have HBT := Lib.hid (show Rw tgC 1 W6 c' B.tg from ⟨fun hl => by
                          obtain ⟨bb, off, e, hb, hc⟩ := HIB.out.tg.here hl
                          exact ⟨bb, off, e, by have := HK5.out.size; have := hk56.size; omega, fun i x hx j v hv => HCV.out ⟨bb, off + i * _ + j, none⟩ v hb (hc i x hx j v hv)⟩⟩)
                        have j5 := HA6.out.cell.2.2.2.2.2
                        have i5 := HCV.out ⟨w.heap.size + 1, 5, none⟩ _ HA1.out.lt HA1.out.cell.2.2.2.2.2
                        have HNB := Lib.hid (show A.tg.length + B.tg.length ≤ 40 from by have := HOB.out.ntg; omega)
                        have HK6 := Lib.hid (show Kept (fun q => q = BO ∨ (Bt ≤ q ∧ OT W6 q)) W6 W6 from Kept.refl _ _)
                        have HKW6 := Lib.hid hk56
                        have HSB := Lib.hid hBt2
                        have HSB1 := Lib.hid hBt1
                        rw [hW6]
                        clear hW6 hk56 hbo hrr hss hmb hx3 hsz2 hlt hj HO hBt1 hBt2 hT6 HT6
                        go_wp2_with (at_builtin; refine append_Tgs rfl _ _ rfl rfl HT7.out (m := B.tg) rfl rfl HBT.out (by have := HNB.out; omega) HSB.out (fun v7 w7 ho7 hg7 => ?_); obtain ⟨a7, c7, rfl, hc7, -, -⟩ := ho7.row tgEl; have HA7 := Lib.hid (HA6.out.kept (O := fun q => (Value.slice c1 A.tg.length cc1).ownBlock = some q) (Kept.of_grown hg7 (fun g e _ => e)) (fun e => (HA6.out.ne HT7.out _ e) rfl)); have j7 := HA7.out.cell.2.2.2.2.2; have f7 := HA7.out.free 5; obtain ⟨W8, hW8⟩ : ∃ z, w7.setCell ⟨BO, 5, none⟩ (.slice a7 (A.tg ++ B.tg).length c7) = z := ⟨_, rfl⟩)
                        have hcp7 := hc7
                        rw [List.length_append] at hW8 hcp7
                        rw [hW8]
                        have ha8 := HA7.out.set5 (.slice a7 (A.tg.length + B.tg.length) c7)
                        rw [hW8] at ha8
                        have hks8 : Kept (fun q => q = BO) w7 W8 := by rw [← hW8]; exact keep_set (O := fun q => q = BO) rfl
                        have ho8 := ho7.keepO hks8 (fun b hb e => (HA7.out.ne ho7 b hb) e)
                        have hO8 : ∀ {P Q : World}, Kept (fun q => q = BO) P Q → Kept (fun q => q = BO ∨ (Bt ≤ q ∧ OT W6 q)) P Q := fun h => ⟨h.os, h.tape, h.output, h.size, fun k hk ho => h.block k hk (fun e => ho (Or.inl e))⟩
                        have HK8 := Lib.hid ((HK6.out.text HT7.out (fun q h1 hq => Or.inr ⟨h1, hq⟩) hg7).trans (hO8 hks8))
                        have HA8 := Lib.hid ha8
                        have HO8 := Lib.hid ho8
                        have hTL : (A.tg ++ B.tg).length = A.tg.length + B.tg.length := List.length_append
                        have DSR := Lib.hid (sortTg_any (A.tg ++ B.tg) a7 c7 Bt W8 ho8 (by rw [hTL]; have := HNB.out; omega))
                        rw [hTL] at DSR HO8
                        have HCP := Lib.hid hcp7
                        have HTL := Lib.hid hTL
                        clear ho7 hg7 hc7 hcp7 hW8 ha8 hks8 ho8 hTL j7 f7 j5 i5
                        refine (DSR.out).mono ?_
                        rintro e U1 ⟨rfl, ⟨T1, hperm, hsort, hownU⟩, hgU⟩
                        have hT1 : T1.length = A.tg.length + B.tg.length := by rw [hperm.length_eq, HTL.out]
                        have HAU1 := Lib.hid (HA8.out.kept (O := fun q => (Value.slice a7 (A.tg.length + B.tg.length) c7).ownBlock = some q) (Kept.of_grown hgU (fun g e _ => e)) (fun e => (HA8.out.ne HO8.out _ e) rfl))
                        have HKU1 := Lib.hid (HK8.out.text HO8.out (fun q h1 hq => Or.inr ⟨h1, hq⟩) hgU)
                        rw [← hT1] at hownU
                        have DCP := Lib.hid (compactTg_any T1 a7 c7 Bt U1 hownU (by rw [hT1]; have := HNB.out; omega) hsort (by rw [hT1]; exact HCP.out))
                        rw [hT1] at DCP hownU
                        have HOU1 := Lib.hid hownU
                        have HP1 := Lib.hid hperm
                        have j7 := HAU1.out.cell.2.2.2.2.2
                        clear hperm hsort hownU hgU hT1 DSR
                        go_wp2_with fail
                        refine (DCP.out).mono ?_
                        rintro e U2 ⟨T2, rfl, hmem, hst2, hle, hown2, hg2⟩
                        have HAU2 := Lib.hid (HAU1.out.kept (O := fun q => (Value.slice a7 (A.tg.length + B.tg.length) c7).ownBlock = some q) (Kept.of_grown hg2 (fun g e _ => e)) (fun e => (HAU1.out.ne HOU1.out _ e) rfl))
                        have HKU2 := Lib.hid (HKU1.out.text HOU1.out (fun q h1 hq => Or.inr ⟨h1, hq⟩) hg2)
                        have HMG := Lib.hid (show MgIs A B shift LS T2 from ⟨HLS.out, HSM.out, hst2, fun x => (hmem x).trans ((HP1.out.mem_iff).trans List.mem_append)⟩)
                        obtain ⟨m2, hm2⟩ : ∃ z, T2.length = z := ⟨_, rfl⟩
                        have HM2 := Lib.hid hm2
                        rw [hm2] at hown2 ⊢
                        have ha9 := HAU2.out.set5 (.slice a7 m2 c7)
                        obtain ⟨W9, hW9⟩ : ∃ z, U2.setCell ⟨BO, 5, none⟩ (.slice a7 m2 c7) = z := ⟨_, rfl⟩
                        rw [hW9] at ha9
                        have hks9 : Kept (fun q => q = BO) U2 W9 := by rw [← hW9]; exact keep_set (O := fun q => q = BO) rfl
                        have HO9 := Lib.hid (hown2.keepO hks9 (fun b hb e => (HAU2.out.ne hown2 b hb) e))
                        have HK9 := Lib.hid (HKU2.out.trans (hO8 hks9))
                        have HA9 := Lib.hid ha9
                        have j8 := HAU2.out.cell.2.2.2.2.2
                        have f8 := HAU2.out.free 5
                        obtain ⟨z0, z1, z2, z3, z4, z5⟩ := ha9.cell
                        have HM40 := Lib.hid (show m2 ≤ 40 from by have := HNB.out; omega)
                        clear hmem hst2 hle hown2 hg2 hm2 ha9 hks9 hO8 j7 DCP
                        have hn4 := HNN.out.2
                        have HZ := Lib.hid (show mgZ A LS T2 = ⟨A.name, A.sport, st, LS.map (backS st), A.lp.map (addL (A.start - st)), T2⟩ from by unfold mgZ; rw [HST.out])
                        have HNUM := Lib.hid (show w.heap.size + 3 ≤ MB ∧ MB < X.1.heap.size ∧ X.1.heap.size ≤ BO ∧ BO < W.heap.size ∧ w0.heap.size = W.heap.size + 1 from by
                          have := HMB.out
                          have := HSZ.out
                          have := X.2.size
                          have := HBO.out
                          have := HR.out
                          have := HS0.out
                          omega)
                        have HBL := Lib.hid (show Below w.heap.size w W9 from by
                          have hh := HNUM.out
                          have h1 := below_step HB.out HB3.out
                          have h2 : Below w.heap.size w X.1 := Kept.below h1 X.2 h1.size (fun q hq e => by omega)
                          have h3 := below_step (below_step h2 HB1.out) HBW.out
                          have h4 : Below w.heap.size w W5 := Kept.below h3 HK5.out h3.size (fun q hq e => by omega)
                          have h5 : Below w.heap.size w W6 := Kept.below h4 HKW6.out h4.size (fun q hq e => by have := HLB.out q e; omega)
                          exact Kept.below h5 HK9.out h5.size (fun q hq e => by
                            have := HSB1.out
                            rcases e with e | e
                            · omega
                            · have := e.1
                              omega))
                        have HR9 := Lib.hid (show AcB W9 (w.heap.size + 1 + 1) ⟨#[]⟩ 0 0 (.slice none 0 0) (.slice none 0 0) (.slice none 0 0) from by
                          have hh := HNUM.out
                          have h6 := (((((HA2.out.below HB3.out).kept X.2 (by omega)).below HB1.out).below HBW.out).kept HK5.out (by omega)).kept HKW6.out (fun e => by have := HLB.out _ e; omega)
                          exact h6.kept HK9.out (fun e => by
                            rcases e with e | e
                            · omega
                            · exact h6.notText e.2))
                        have HINX := Lib.hid (fun (WX : World) (hkx : Kept (fun q => q = w.heap.size + 1 + 1) W9 WX) => show ActIn WX ⟨A.name, A.sport, st, LS.map (backS st), A.lp.map (addL (A.start - st)), T2⟩ a2 b1 a7 from by
                          have hh := HNUM.out
                          have hb1 := HSB1.out
                          have s9 := HO6.out.keepO HK9.out (fun b hb e => by
                            rcases e with e | e
                            · exact HA6.out.ne' HO6.out (by decide) b hb e
                            · exact HO6.out.notText (by decide) hb e.2)
                          have l9 := HL6.out.keepO HK9.out (fun b hb e => by
                            rcases e with e | e
                            · exact HA6.out.ne' HL6.out (by decide) b hb e
                            · exact HL6.out.notText (by decide) hb e.2)
                          have sx := s9.keepO hkx (fun b hb e => (HR9.out.ne' s9 (by decide) b hb) e)
                          have lx := l9.keepO hkx (fun b hb e => (HR9.out.ne' l9 (by decide) b hb) e)
                          have tx := HO9.out.keepO hkx (fun b hb e => (HR9.out.ne' HO9.out (by decide) b hb) e)
                          refine ⟨(sx.rw_ smEl).1, (lx.rw_ lpEl).1, (tx.rw_ tgEl).1, HIA.out.name, fun p hp => ?_, fun t ht => ?_, ?_, ?_, ?_⟩
                          · obtain ⟨p', hp', rfl⟩ := List.mem_map.1 hp
                            exact HIA.out.titles p' hp'
                          · rcases (HMG.out.tmem t).1 ht with h | h
                            · exact HIA.out.tags t h
                            · exact HIB.out.tags t h
                          · show ((LS.map (backS st)).length : Int) ≤ _
                            rw [List.length_map, HNN.out.1]
                            omega
                          · show ((A.lp.map (addL (A.start - st))).length : Int) ≤ _
                            rw [List.length_map]
                            omega
                          · show (T2.length : Int) ≤ _
                            rw [HM2.out]
                            have := HM40.out
                            omega)
                        have HFAR := Lib.hid (fun g (hg : a2 = some g ∨ b1 = some g ∨ a7 = some g) => show w.heap.size ≤ g.block from by
                          have hh := HNUM.out
                          rcases hg with e | e | e
                          · have := ((HO6.out.rw_ smEl).2.2 g e).1
                            omega
                          · have := ((HL6.out.rw_ lpEl).2.2 g e).1
                            have := HBLO.out
                            omega
                          · have := ((HO9.out.rw_ tgEl).2.2 g e).1
                            have := HSB1.out
                            omega)
                        have DCK := Lib.hid (show Calls Try.prog 4 #[.agg #[.string A.name, .int .i64 A.sport, .int .i64 st, .slice a2 k c2, .slice b1 A.lp.length cb1, .slice a7 m2 c7]] W9 fun e w' => e = .returned (.int .i64 (chkA (mgZ A LS T2))) ∧ Below W9.heap.size W9 w' from by
                          have h := check_any ⟨A.name, A.sport, st, LS.map (backS st), A.lp.map (addL (A.start - st)), T2⟩ a2 b1 a7 c2 cb1 c7 W9 (HINX.out W9 (Kept.refl _ _))
                          unfold ChkG actV at h
                          simp only [List.length_map, HNN.out.1, HM2.out] at h
                          rw [← HZ.out] at h
                          exact h)
                        have HMGR := Lib.hid (fun e w' => show (((20000 < LS.length ∨ 20 < T2.length) ∧ e = .returned (.tuple #[ac0, .int .i64 3]) ∧ Below w.heap.size w w') ∨ (¬ (20000 < LS.length ∨ 20 < T2.length) ∧ ActRet (mgZ A LS T2) w e w')) → MergeRet A B shift w e w' from fun h => ⟨LS, T2, HMG.out, h⟩)
                        obtain ⟨r0, r1, r2, r3, r4, r5⟩ := HR9.out.cell
                        have fr := HR9.out.free
                        by_cases hbig : 20000 < k
                        case' pos =>
                          have t6 : decide ((20000 : Int) < (k : Int)) = true := by rw [decide_eq_true_eq]; omega
                          have t6' : decide (20000 < k) = true := by rw [decide_eq_true_eq]; omega
                          have HBAD := Lib.hid (show 20000 < LS.length ∨ 20 < T2.length from Or.inl (by rw [HNN.out.1]; exact hbig))
                        case' neg =>
                          have t6 : decide ((20000 : Int) < (k : Int)) = false := by rw [decide_eq_false_iff_not]; omega
                          have t6' : decide (20000 < k) = false := by rw [decide_eq_false_iff_not]; omega
                          by_cases hbt : 20 < m2
                          case' pos =>
                            have t7 : decide ((20 : Int) < (m2 : Int)) = true := by rw [decide_eq_true_eq]; omega
                            have t7' : decide (20 < m2) = true := by rw [decide_eq_true_eq]; omega
                            have HBAD := Lib.hid (show 20000 < LS.length ∨ 20 < T2.length from Or.inr (by rw [HM2.out]; exact hbt))
                          case' neg =>
                            have t7 : decide ((20 : Int) < (m2 : Int)) = false := by rw [decide_eq_false_iff_not]; omega
                            have t7' : decide (20 < m2) = false := by rw [decide_eq_false_iff_not]; omega
                            have HGOOD := Lib.hid (show ¬ (20000 < LS.length ∨ 20 < T2.length) from by rw [HNN.out.1, HM2.out]; omega)
                            go_wp2_with fail
                            refine (DCK.out).mono ?_
                            rintro e W12 ⟨rfl, hb12⟩
                            obtain ⟨er, her⟩ : ∃ z, chkA (mgZ A LS T2) = z := ⟨_, rfl⟩
                            have HER := Lib.hid her
                            rw [her]
                            have hA12 := HA9.out.below hb12
                            have hR12 := HR9.out.below hb12
                            have HR12 := Lib.hid hR12
                            have HK12 := Lib.hid (show Kept (fun q => q = w.heap.size + 1 + 1) W9 W12 from Kept.of_below hb12)
                            have HW12 := Lib.hid (below_step HBL.out hb12)
                            obtain ⟨x0, x1, x2, x3, x4, x5⟩ := hA12.cell
                            obtain ⟨v0, v1, v2, v3, v4, v5⟩ := hR12.cell
                            have fv := hR12.free
                            clear her hb12 hA12 hR12 r0 r1 r2 r3 r4 r5 fr z0 z1 z2 z3 z4 z5 j8 f8 hW9
                            by_cases h0' : er = 0
                            · subst h0'
                              obtain ⟨WF, hWF, haF, hkF⟩ := HR12.out.store A.name A.sport st (.slice a2 k c2) (.slice b1 A.lp.length cb1) (.slice a7 m2 c7)
                              have HAF := Lib.hid haF
                              have HKF := Lib.hid hkF
                              have HBF := Lib.hid (show Below w.heap.size w WF from Kept.below HW12.out (hkF (fun q => q = w.heap.size + 1 + 1) rfl) HW12.out.size (fun q hq e => by omega))
                              clear haF hkF
                              go_wp2_with fail
                              have q := HAF.out.cell
                              refine bodyPost_ret (v := .tuple #[.agg #[.string A.name, .int .i64 A.sport, .int .i64 st, .slice a2 k c2, .slice b1 A.lp.length cb1, .slice a7 m2 c7], .int .i64 0]) (by simp [results, Try.results7, go_sem, q]) rfl (HMGR.out _ _ (Or.inr ⟨HGOOD.out, HBF.out, 0, HER.out, Or.inr ⟨rfl, a2, b1, a7, c2, cb1, c7, ?_, ?_, HFAR.out⟩⟩))
                              · rw [HZ.out]
                                unfold actV
                                simp only [List.length_map, HNN.out.1, HM2.out]
                              · rw [HZ.out]
                                exact HINX.out WF (HK12.out.trans (HKF.out _ rfl))
                            · have b0 : (er != 0) = true := by rw [bne_iff_ne]; exact h0'
                              obtain ⟨WF, hWF, haF, hkF⟩ := HR12.out.store ⟨#[]⟩ 0 0 (.slice none 0 0) (.slice none 0 0) (.slice none 0 0)
                              have HAF := Lib.hid haF
                              have H0 := Lib.hid h0'
                              have HBF := Lib.hid (show Below w.heap.size w WF from Kept.below HW12.out (hkF (fun q => q = w.heap.size + 1 + 1) rfl) HW12.out.size (fun q hq e => by omega))
                              clear haF hkF h0'
                              go_wp2_with fail
                              have q := HAF.out.cell
                              exact bodyPost_ret (v := .tuple #[ac0, .int .i64 er]) (by simp [results, Try.results7, go_sem, q, ac0]) rfl (HMGR.out _ _ (Or.inr ⟨HGOOD.out, HBF.out, er, HER.out, Or.inl ⟨H0.out, rfl⟩⟩))
                        all_goals
                          obtain ⟨WF, hWF, haF, hkF⟩ := HR9.out.store ⟨#[]⟩ 0 0 (.slice none 0 0) (.slice none 0 0) (.slice none 0 0)
                          have HAF := Lib.hid haF
                          have HBF := Lib.hid (show Below w.heap.size w WF from Kept.below HBL.out (hkF (fun q => q = w.heap.size + 1 + 1) rfl) HBL.out.size (fun q hq e => by omega))
                          clear haF hkF
                          go_wp2_with fail
                          have q := HAF.out.cell
                          exact bodyPost_ret (v := .tuple #[ac0, .int .i64 3]) (by simp [results, Try.results7, go_sem, q, ac0]) rfl (HMGR.out _ _ (Or.inl ⟨HBAD.out, rfl, HBF.out⟩))
            · intro x c kl yd yp wn cnt1 hkey hlk hRy hat hrg1 hlt hg1 hs1 hen
              obtain ⟨x', ex, rfl, hwx⟩ := Maps.keyOf_int_inv Try.underlying3 hkey
              cases ex
              rw [smR_of] at hRy
              have hyd : smD c = yd := (Prod.mk.inj (Option.some.inj hRy)).1
              have hF : mgF A B shift x = some c := by
                cases hf : mgF A B shift x with
                | none =>
                  have h1 := (HDM.out.2 x hwx).2 hf .nil
                  rw [hat, ← hyd] at h1
                  cases h1
                | some u =>
                  have h1 := (HDM.out.2 x hwx).1 u hf .nil
                  rw [hat, ← hyd] at h1
                  rw [smD_inj h1]
              obtain ⟨vs, hac, hown⟩ := HST.out
              obtain ⟨a2, c2, rfl, -, -, -⟩ := hown.row smEl
              have hbo := HBO.out
              have hrr := HR.out
              have hss := HS0.out
              have hk1 : Kept (fun q => q = r) Y.1 wn := Kept.of_grown hg1 (fun g e _ => by injection e with e; exact e.symm)
              have hac1 := hac.kept hk1 (by omega)
              have hown1 := hown.keepO hk1 (fun g hg e => by have := (hown.lt g hg).1; omega)
              have hYn : Kept (fun q => q = BO) W wn := Y.2.grown hg1 (fun g e hlt => by injection e with e; omega)
              obtain ⟨V6, hV6, hb6, hs6, ha6⟩ := alloc_sm wn c
              have ha7 := ha6.set0 x
              obtain ⟨W6, hW6⟩ : ∃ z, V6.setCell ⟨wn.heap.size, 0, none⟩ (.int .i64 x) = z := ⟨_, rfl⟩
              rw [hW6] at ha7
              have hB6 : Below wn.heap.size wn W6 := Kept.below hb6 (by rw [← hW6]; exact keep_set (O := fun q => q = wn.heap.size) rfl) hb6.size (fun k hk e => by omega)
              have q0 := ha6.cell.1
              have f0 := ha6.free 0
              obtain ⟨p0, p1, p2, p3, p4, p5, p6⟩ := ha7.cell
              simp only at p0 p1 p2 p3 p4 p5 p6
              have k3 := (hac1.below hB6).cell.2.2.2.1
              obtain ⟨V7, hV7, hb7, hs7, hl7⟩ := alloc_cells W6 #[.int .i64 x, .int .i64 c.x, .int .i64 c.y, .int .i64 c.z, .int .i64 c.pu, .int .i64 c.po, .int .i64 c.st] 37
              have HC7 := Lib.hid (fun j u (hj : (smC { c with tm := x })[j]? = some u) => show V7.cell? ⟨W6.heap.size, j, none⟩ = some u from hl7 j u (by rw [← hj]; simp [smC]))
              have hB7 := below_step hB6 hb7
              have HO7 := Lib.hid (hown1.below hB7)
              have HA7 := Lib.hid (hac1.below hB7)
              have HK7 := Lib.hid (hYn.trans (Kept.of_below hB7))
              have HG7 := Lib.hid (show wn.grownBy V7 none from ⟨hB7.os, hB7.tape, hB7.output, hB7.size, fun i hi _ => hB7.block i hi⟩)
              have HS7 := Lib.hid (show w0.heap.size ≤ V7.heap.size from by have := hrg1.lt; have := hB7.size; omega)
              have HG1 := Lib.hid (And.intro hrg1 (And.intro hlt (And.intro hlk hF)))
              have hLL : L.length ≤ 40000 := by have := HRS.out.2; have := HN.out; omega
              have HLL := Lib.hid hLL
              unfold smV at hen ⊢
              clear hac hown hac1 hown1 hb6 hs6 ha6 ha7 hB6 hb7 hs7 hl7 hB7 hkey hlk hRy hat hrg1 hlt hg1 hs1 hyd hF hk1 hYn hwx hLL hbo hrr hss
              go_wp2_with (at_builtin; refine append_Sm rfl _ _ rfl rfl HO7.out (p := { c with tm := x }) rfl HC7.out (by have := HLL.out; omega) HS7.out (fun g' c3 w8 ho8 hg8 hor => ?_); have HA8 := Lib.hid (HA7.out.kept (O := fun b => w0.heap.size ≤ b) (Kept.of_grown hg8 (fun g e _ => (HO7.out.lt g e).1)) (by have := HBO.out; have := HR.out; have := HS0.out; omega)); have j8 := HA8.out.cell.2.2.2.1; have f8 := HA8.out.free 3; obtain ⟨W9, hW9⟩ : ∃ z, w8.setCell ⟨BO, 3, none⟩ (.slice (some ⟨g', 0, none⟩) (L.length + 1) c3) = z := ⟨_, rfl⟩)
              have ha9 := HA8.out.set3 (.slice (some ⟨g', 0, none⟩) (L.length + 1) c3)
              rw [hW9] at ha9
              have hk9 : Kept (fun q => q = BO) w8 W9 := by rw [← hW9]; exact keep_set (O := fun q => q = BO) rfl
              have hbo := HBO.out
              have hrr := HR.out
              have hss := HS0.out
              have hmb := HMB.out
              have hx3 := X.2.size
              have HO9 := Lib.hid (ho8.keepO hk9 (fun b hb e => by have := (ho8.lt b hb).1; omega))
              have HA9 := Lib.hid ha9
              have HK9 := Lib.hid ((HK7.out.grown hg8 (fun g e hlt => by have := (HO7.out.lt g e).1; omega)).trans hk9)
              have hrg9 := ((HG1.out.1.kept HG7.out (by simp) (by simp)).kept hg8 (fun e => by have := (HO7.out.lt _ e.symm).1; omega) (fun e => by have := (HO7.out.lt _ e.symm).1; omega)).kept (row := some BO) (w' := W9) ⟨hk9.os, hk9.tape, hk9.output, hk9.size, fun i hi hn => hk9.block i hi (fun e => hn (by rw [e]))⟩ (fun e => by injection e with e; omega) (fun e => by injection e with e; omega)
              have HM9 := Lib.hid (show W9.rangeLeft MB r < Y.1.rangeLeft MB r from by rw [hrg9.left_eq, HRG.out.left_eq]; exact HG1.out.2.1)
              have HRG9 := Lib.hid hrg9
              have HRS9 := Lib.hid (show RgS (mgF A B shift) (fun z => left z && !z.sameKey (.int .i64 x)) (L ++ [{ c with tm := x }]) ∧ (L ++ [{ c with tm := x }]).length + cnt1 ≤ N from ⟨HRS.out.1.step HG1.out.2.2.1 HG1.out.2.2.2, by rw [List.length_append]; have := HRS.out.2; have := HG1.out.2.1; simp only [List.length_singleton]; omega⟩)
              clear ho8 hg8 hor ha9 hk9 hW9 j8 f8 hrg9
              go_roundw
              case rel => exact ⟨_, cnt1, _, HRG9, HRS9, Lib.hid ⟨_, HA9.out, HO9.out⟩, ⟨W9, HK9.out⟩, rfl⟩
              case measure => exact HM9.out
end Go.Proofs.Ytkejjlghelnfjaa

/- Two recordings of one: the law's plain side. -/
namespace Go.Proofs.Ytkejjlghelnfjaa
open Tr (inR)

/-- two lists in strict order with the same members are one -/
theorem uniq_sorted {α : Type} {R : α → α → Prop} (irr : ∀ x, ¬ R x x) (tr : ∀ x y z, R x y → R y z → R x z) : ∀ (l1 l2 : List α), l1.Pairwise R → l2.Pairwise R → (∀ x, x ∈ l1 ↔ x ∈ l2) → l1 = l2
  | [], l2, _, _, h => by
    cases l2 with
    | nil => rfl
    | cons b l2 => exact absurd ((h b).2 List.mem_cons_self) (by simp)
  | a :: l1, [], _, _, h => absurd ((h a).1 List.mem_cons_self) (by simp)
  | a :: l1, b :: l2, h1, h2, h => by
    rw [List.pairwise_cons] at h1 h2
    have hab : a = b := by
      rcases List.mem_cons.1 ((h a).1 List.mem_cons_self) with e | ha
      · exact e
      · rcases List.mem_cons.1 ((h b).2 List.mem_cons_self) with e | hb
        · exact e.symm
        · exact absurd (tr _ _ _ (h1.1 b hb) (h2.1 a ha)) (irr a)
    subst hab
    rw [uniq_sorted irr tr l1 l2 h1.2 h2.2 (fun x => ⟨fun hx => by
      rcases List.mem_cons.1 ((h x).1 (List.mem_cons_of_mem _ hx)) with e | e
      · subst e
        exact absurd (h1.1 x hx) (irr x)
      · exact e, fun hx => by
      rcases List.mem_cons.1 ((h x).2 (List.mem_cons_of_mem _ hx)) with e | e
      · subst e
        exact absurd (h2.1 x hx) (irr x)
      · exact e⟩)]
theorem tg_sorted {l : List ByteArray} (h : TgOk l) : l.Pairwise (fun x y => bL x < bL y) := by
  have h1 : ∀ i p s, l[i]? = some p → l[i + 1]? = some s → bL p < bL s := fun i p s hp hs => by
    have := h.next i p s hp hs
    rw [ByteArray.toList_eq, ByteArray.toList_eq, bytesLess_eq, decide_eq_true_eq] at this
    exact this
  have h2 : ∀ d i p s, l[i]? = some p → l[i + d + 1]? = some s → bL p < bL s := by
    intro d
    induction d with
    | zero => exact fun i p s hp hs => h1 i p s hp hs
    | succ d ih =>
      intro i p s hp hs
      obtain ⟨t, ht⟩ : ∃ t, l[i + d + 1]? = some t := ⟨_, List.getElem?_eq_getElem (by have := (List.getElem?_eq_some_iff.1 hs).1; omega)⟩
      exact List.lt_trans (ih i p t hp ht) (h1 _ t s ht hs)
  rw [List.pairwise_iff_getElem]
  intro i j hi hj hij
  exact h2 (j - i - 1) i _ _ (List.getElem?_eq_getElem hi) (by rw [show i + (j - i - 1) + 1 = j by omega]; exact List.getElem?_eq_getElem hj)
theorem bL_irr (x : ByteArray) : ¬ bL x < bL x := List.lt_irrefl _
theorem sm_inj {A : Acv} (h : SmOk A.start A.sm) {s t : Sm} (hs : s ∈ A.sm) (ht : t ∈ A.sm) (e : s.tm = t.tm) : s = t := by
  obtain ⟨i, hi, rfl⟩ := List.getElem_of_mem hs
  obtain ⟨j, hj, rfl⟩ := List.getElem_of_mem ht
  rcases Nat.lt_trichotomy i j with g | g | g
  · have := h.lt g (List.getElem?_eq_getElem hi) (List.getElem?_eq_getElem hj)
    omega
  · subst g
    rfl
  · have := h.lt g (List.getElem?_eq_getElem hj) (List.getElem?_eq_getElem hi)
    omega
/-- alike but for their seconds -/
def Sim (u s : Sm) : Prop := ∀ t : Int, ({ u with tm := t } : Sm) = { s with tm := t }
theorem Sim.back (d : Int) (s : Sm) : Sim (backS d s) s := fun _ => rfl
structure Good (A : Acv) (f : Int → Option Sm) (S : List Sm) : Prop where
  of : ∀ j u, f j = some u → ∃ s, s ∈ S ∧ j = A.start + s.tm ∧ Sim u s
  has : ∀ s, s ∈ S → ∃ u, f (A.start + s.tm) = some u ∧ Sim u s
theorem Good.put {A : Acv} (hA : SmOk A.start A.sm) {f : Int → Option Sm} {S : List Sm} (h : Good A f S) (hS : ∀ s, s ∈ S → s ∈ A.sm) {s u : Sm} (hs : s ∈ A.sm) (hu : Sim u s) : Good A (putS f (A.start + s.tm) u) (S ++ [s]) := by
  refine ⟨fun j v hv => ?_, fun t ht => ?_⟩
  · unfold putS at hv
    split at hv
    · rename_i e
      have hv := Option.some.inj hv
      subst hv
      exact ⟨s, by simp, e, hu⟩
    · obtain ⟨t, h1, h2⟩ := h.of j v hv
      exact ⟨t, by simp [h1], h2⟩
  · unfold putS
    rcases List.mem_append.1 ht with ht | ht
    · by_cases e : A.start + t.tm = A.start + s.tm
      · have : t = s := sm_inj hA (hS t ht) hs (by omega)
        subst this
        rw [if_pos rfl]
        exact ⟨u, rfl, hu⟩
      · rw [if_neg e]
        exact h.has t ht
    · rw [List.mem_singleton.1 ht, if_pos rfl]
      exact ⟨u, rfl, hu⟩
theorem goodB {A : Acv} (hA : SmOk A.start A.sm) {bs shift d : Int} (hb : bs - shift = A.start + d) : ∀ (l S : List Sm) (f : Int → Option Sm), Good A f S → (∀ s, s ∈ S → s ∈ A.sm) → (∀ s, s ∈ l → s ∈ A.sm) →
    Good A ((l.map (backS d)).foldl (fun f s => putS f (bs + s.tm - shift) s) f) (S ++ l)
  | [], S, f, h, _, _ => by simpa using h
  | s :: l, S, f, h, hS, hl => by
    rw [List.map_cons, List.foldl_cons]
    have e : bs + (backS d s).tm - shift = A.start + s.tm := by
      show bs + (s.tm - d) - shift = _
      omega
    rw [e]
    have h1 := h.put hA hS (hl s List.mem_cons_self) (Sim.back d s)
    have h2 := goodB hA hb l (S ++ [s]) _ h1 (fun t ht => by
      rcases List.mem_append.1 ht with ht | ht
      · exact hS t ht
      · rw [List.mem_singleton.1 ht]
        exact hl s List.mem_cons_self) (fun t ht => hl t (List.mem_cons_of_mem _ ht))
    rw [List.append_assoc] at h2
    exact h2
theorem goodA {A X : Acv} (hA : SmOk A.start A.sm) {d : Int} (hx : X.start = A.start + d) : ∀ (l S : List Sm) (f : Int → Option Sm), Good A f S → (∀ s, s ∈ S → s ∈ A.sm) → (∀ s, s ∈ l → s ∈ A.sm) → (∀ s, s ∈ l → s ∉ S) → l.Nodup →
    Good A ((l.map (backS d)).foldl (stepA X) f) (S ++ l)
  | [], S, f, h, _, _, _, _ => by simpa using h
  | s :: l, S, f, h, hS, hl, hd, hn => by
    rw [List.map_cons, List.foldl_cons]
    have e : X.start + (backS d s).tm = A.start + s.tm := by
      show X.start + (s.tm - d) = _
      omega
    have hf : f (A.start + s.tm) = none := by
      cases hf : f (A.start + s.tm) with
      | none => rfl
      | some u =>
        obtain ⟨t, ht, he, _⟩ := h.of _ u hf
        have : s = t := sm_inj hA (hl s List.mem_cons_self) (hS t ht) (by omega)
        subst this
        exact absurd ht (hd s List.mem_cons_self)
    have hst : stepA X f (backS d s) = putS f (A.start + s.tm) (backS d s) := by
      unfold stepA
      rw [e, hf]
    rw [hst]
    rw [List.nodup_cons] at hn
    have h1 := h.put hA hS (hl s List.mem_cons_self) (Sim.back d s)
    have h2 := goodA hA hx l (S ++ [s]) _ h1 (fun t ht => by
      rcases List.mem_append.1 ht with ht | ht
      · exact hS t ht
      · rw [List.mem_singleton.1 ht]
        exact hl s List.mem_cons_self) (fun t ht => hl t (List.mem_cons_of_mem _ ht)) (fun t ht hh => by
      rcases List.mem_append.1 hh with hh | hh
      · exact hd t (List.mem_cons_of_mem _ ht) hh
      · rw [List.mem_singleton.1 hh] at ht
        exact hn.1 ht) hn.2
    rw [List.append_assoc] at h2
    exact h2
theorem good_start (A : Acv) : Good A (fun _ => none) [] := ⟨fun _ _ h => by (cases h), fun s h => absurd h (by simp)⟩
end Go.Proofs.Ytkejjlghelnfjaa

/- Two recordings of one: merged again they are the activity's samples; the shift fits. (plain) -/
namespace Go.Proofs.Ytkejjlghelnfjaa
open Tr (inR)

structure Halves (n : Nat) (ks1 ks2 : List Nat) : Prop where
  inc1 : ks1.Pairwise (fun a b => a < b)
  inc2 : ks2.Pairwise (fun a b => a < b)
  zero : ks1[0]? = some 0
  lt1 : ∀ k, k ∈ ks1 → k < n
  lt2 : ∀ k, k ∈ ks2 → k < n
  all : ∀ i, i < n → i ∈ ks1 ∨ i ∈ ks2
  dis : ∀ i, i ∈ ks1 → i ∉ ks2
theorem pickS_has {l : List Sm} {ks : List Nat} {k : Nat} {s : Sm} (hk : k ∈ ks) (hs : l[k]? = some s) : s ∈ pickS l ks := by
  unfold pickS
  exact List.mem_filterMap.2 ⟨k, hk, hs⟩
theorem pick_sorted {start : Int} {l : List Sm} (h : SmOk start l) {ks : List Nat} (hi : ks.Pairwise (fun a b => a < b)) : (pickS l ks).Pairwise (fun x y => x.tm < y.tm) := by
  unfold pickS
  rw [List.pairwise_filterMap]
  exact hi.imp (fun {a b} hab x hx y hy => h.lt hab hx hy)
theorem sm_sorted {start : Int} {l : List Sm} (h : SmOk start l) : l.Pairwise (fun x y => x.tm < y.tm) := by
  rw [List.pairwise_iff_getElem]
  intro i j hi hj hij
  exact h.lt hij (List.getElem?_eq_getElem hi) (List.getElem?_eq_getElem hj)
theorem nodup_of_sorted {l : List Sm} (h : l.Pairwise (fun x y => x.tm < y.tm)) : l.Nodup := h.imp (fun {a b} hab e => by subst e; omega)
theorem fromS_zero {A : Acv} (hA : SmOk A.start A.sm) {ks : List Nat} (h0 : ks[0]? = some 0) (hn : 0 < A.sm.length) : fromS (pickS A.sm ks) = 0 := by
  cases ks with
  | nil => cases h0
  | cons k ks =>
    have hk : k = 0 := Option.some.inj h0
    subst hk
    obtain ⟨s, hs⟩ : ∃ s, A.sm[0]? = some s := ⟨_, List.getElem?_eq_getElem hn⟩
    unfold fromS pickS
    rw [List.filterMap_cons, hs]
    exact hA.first s hs
theorem onlyA_eq (A : Acv) (ks : List Nat) : onlyA A ks = ⟨A.name, A.sport, A.start + fromS (pickS A.sm ks), (pickS A.sm ks).map (backS (fromS (pickS A.sm ks))), movedF A.lp (fromS (pickS A.sm ks)) (spanS ((pickS A.sm ks).map (backS (fromS (pickS A.sm ks))))), A.tg⟩ := rfl
theorem back_zero (l : List Sm) : l.map (backS 0) = l := by
  have : backS 0 = id := by
    funext s
    unfold backS
    rw [Int.sub_zero]
    rfl
  rw [this, List.map_id]
/-- the second clock put forward -/
def later (B : Acv) (shift : Int) : Acv := { B with start := B.start + shift }
theorem rec_plain {A : Acv} (hA : AcOk A) {ks1 ks2 : List Nat} (hH : Halves A.sm.length ks1 ks2) (hn : 0 < A.sm.length) {shift : Int} (hX : AcOk (onlyA A ks1)) {L : List Sm} {T : List ByteArray}
    (hM : MgIs (onlyA A ks1) (later (onlyA A ks2) shift) shift L T) :
    mgZ (onlyA A ks1) L T = ⟨A.name, A.sport, A.start, A.sm, (onlyA A ks1).lp, A.tg⟩ ∧ AcOk ⟨A.name, A.sport, A.start, A.sm, (onlyA A ks1).lp, A.tg⟩ ∧ L.length ≤ 20000 ∧ T.length ≤ 20 := by
  have d1 := fromS_zero hA.sm hH.zero hn
  obtain ⟨P1, hP1⟩ : ∃ P, pickS A.sm ks1 = P := ⟨_, rfl⟩
  obtain ⟨P2, hP2⟩ : ∃ P, pickS A.sm ks2 = P := ⟨_, rfl⟩
  have m1 : ∀ s, s ∈ P1 → s ∈ A.sm := fun s hs => by
    rw [← hP1] at hs
    obtain ⟨k, _, hk⟩ := pickS_mem hs
    exact List.mem_of_getElem? hk
  have m2 : ∀ s, s ∈ P2 → s ∈ A.sm := fun s hs => by
    rw [← hP2] at hs
    obtain ⟨k, _, hk⟩ := pickS_mem hs
    exact List.mem_of_getElem? hk
  have hxe := onlyA_eq A ks1
  have hye := onlyA_eq A ks2
  rw [hP1] at hxe d1
  rw [d1] at hxe
  rw [hP2] at hye
  obtain ⟨d2, hd2⟩ : ∃ d, fromS P2 = d := ⟨_, rfl⟩
  rw [hd2] at hye
  have g1 : Good A (mapB (later (onlyA A ks2) shift) shift (later (onlyA A ks2) shift).sm) P2 := by
    have h := goodB hA.sm (bs := (later (onlyA A ks2) shift).start) (shift := shift) (d := d2) (by unfold later; rw [hye]; show A.start + d2 + shift - shift = _; omega) P2 [] _ (good_start A) (fun s hs => absurd hs (by simp)) m2
    rw [List.nil_append] at h
    unfold mapB
    have e : (later (onlyA A ks2) shift).sm = P2.map (backS d2) := by unfold later; rw [hye]
    rw [e]
    exact h
  have g2 : Good A (mgF (onlyA A ks1) (later (onlyA A ks2) shift) shift) (P2 ++ P1) := by
    have h := goodA (X := onlyA A ks1) hA.sm (d := 0) (by rw [hxe]) P1 P2 _ g1 m2 m1 (fun s hs hs2 => by
      rw [← hP1] at hs
      rw [← hP2] at hs2
      obtain ⟨k, hk, e⟩ := pickS_mem hs
      obtain ⟨k2, hk2, e2⟩ := pickS_mem hs2
      have : k = k2 := by
        rcases Nat.lt_trichotomy k k2 with g | g | g
        · have := hA.sm.lt g e e2
          omega
        · exact g
        · have := hA.sm.lt g e2 e
          omega
      subst this
      exact hH.dis k hk hk2) (nodup_of_sorted (by rw [← hP1]; exact pick_sorted hA.sm hH.inc1))
    unfold mgF mapA
    have e : (onlyA A ks1).sm = P1.map (backS 0) := by rw [hxe]
    rw [e]
    exact h
  have mem : ∀ s, s ∈ P2 ++ P1 ↔ s ∈ A.sm := fun s => ⟨fun h => by
    rcases List.mem_append.1 h with h | h
    · exact m2 s h
    · exact m1 s h, fun h => by
    obtain ⟨i, hi, rfl⟩ := List.getElem_of_mem h
    rw [List.mem_append, ← hP1, ← hP2]
    rcases hH.all i hi with hk | hk
    · exact Or.inr (pickS_has hk (List.getElem?_eq_getElem hi))
    · exact Or.inl (pickS_has hk (List.getElem?_eq_getElem hi))⟩
  have hL : L = A.sm.map (fun s => { s with tm := A.start + s.tm }) := by
    refine uniq_sorted (R := fun x y : Sm => x.tm < y.tm) (fun x => by omega) (fun x y z h1 h2 => by omega) _ _ hM.sorted ?_ (fun s => ?_)
    · rw [List.pairwise_map]
      exact (sm_sorted hA.sm).imp (fun {a b} h => by show A.start + a.tm < A.start + b.tm; omega)
    · rw [hM.mem s, List.mem_map]
      constructor
      · rintro ⟨u, hu, e⟩
        obtain ⟨t, ht, hj, hs⟩ := g2.of _ u hu
        refine ⟨t, (mem t).1 ht, ?_⟩
        rw [e, hj]
        exact (hs _).symm
      · rintro ⟨t, ht, rfl⟩
        obtain ⟨u, hu, hs⟩ := g2.has t ((mem t).2 ht)
        exact ⟨u, hu, (hs _).symm⟩
  have hXtg : (onlyA A ks1).tg = A.tg := by rw [hxe]
  have hYtg : (later (onlyA A ks2) shift).tg = A.tg := by unfold later; rw [hye]
  have hT : T = A.tg := by
    refine uniq_sorted (R := fun x y : ByteArray => bL x < bL y) bL_irr (fun x y z h1 h2 => List.lt_trans h1 h2) _ _ hM.tsorted (tg_sorted hA.tg) (fun x => ?_)
    rw [hM.tmem, hXtg, hYtg]
    exact or_self_iff
  obtain ⟨s0, hs0⟩ : ∃ s, A.sm[0]? = some s := ⟨_, List.getElem?_eq_getElem hn⟩
  have hst : mgSt (onlyA A ks1) L = A.start := by
    unfold mgSt
    rw [hL, List.getElem?_map, hs0]
    show A.start + s0.tm = A.start
    rw [hA.sm.first s0 hs0]
    omega
  have hXs : (onlyA A ks1).start = A.start := by rw [hxe]; show A.start + 0 = _; omega
  have hz : mgZ (onlyA A ks1) L T = ⟨A.name, A.sport, A.start, A.sm, (onlyA A ks1).lp, A.tg⟩ := by
    unfold mgZ
    rw [hst, hXs, hT, hL, List.map_map]
    have e1 : (backS A.start ∘ fun s : Sm => ({ s with tm := A.start + s.tm } : Sm)) = id := by
      funext s
      show ({ s with tm := A.start + s.tm - A.start } : Sm) = s
      rw [show A.start + s.tm - A.start = s.tm by omega]
    have e2 : addL (A.start - A.start) = id := by
      funext p
      unfold addL
      rw [Int.sub_self, Int.add_zero, Int.add_zero]
      rfl
    rw [e1, e2, List.map_id, List.map_id, hxe]
  refine ⟨hz, ⟨hA.name, hA.sport, hA.start, hA.nsm, hX.nlp, hA.ntg, hA.sm, ?_, hA.tg⟩, by rw [hL, List.length_map]; exact hA.nsm, by rw [hT]; exact hA.ntg⟩
  have hspan : spanS (onlyA A ks1).sm ≤ spanS A.sm := by
    have e : (onlyA A ks1).sm = P1 := by rw [hxe]; exact back_zero P1
    rw [e]
    have hall : ∀ s, s ∈ A.sm → s.tm ≤ spanS A.sm := fun s hs => by
      obtain ⟨i, hi, rfl⟩ := List.getElem_of_mem hs
      obtain ⟨t, ht⟩ : ∃ t, A.sm[A.sm.length - 1]? = some t := ⟨_, List.getElem?_eq_getElem (by omega)⟩
      unfold spanS
      rw [ht]
      show A.sm[i].tm ≤ t.tm
      rcases Nat.lt_or_ge i (A.sm.length - 1) with g | g
      · have := hA.sm.lt g (List.getElem?_eq_getElem hi) ht
        omega
      · have e : A.sm[i]? = some t := by rw [show i = A.sm.length - 1 by omega]; exact ht
        rw [List.getElem?_eq_getElem hi] at e
        rw [Option.some.inj e]
        omega
    unfold spanS
    cases hl : P1[P1.length - 1]? with
    | none => exact (spanS_range hA.sm).1
    | some s => exact hall s (m1 s (List.mem_of_getElem? hl))
  exact ⟨fun i p hp => by
    obtain ⟨a1, a2, a3, a4⟩ := hX.lp.each i p hp
    exact ⟨a1, a2, Int.le_trans a3 hspan, a4⟩, hX.lp.next⟩
end Go.Proofs.Ytkejjlghelnfjaa

/- A shift that fits without rest is found. (plain) -/
namespace Go.Proofs.Ytkejjlghelnfjaa
open Tr (inR)
open Ft (Mt)

theorem whereS_at {start : Int} {l : List Sm} (h : SmOk start l) {k : Nat} {s : Sm} (hs : l[k]? = some s) : whereS l s.tm = s := by
  have hk : lbS l s.tm = k := lbS_unique (Nat.le_of_lt (List.getElem?_eq_some_iff.1 hs).1) (fun i t hi ht => h.lt hi ht hs) (fun t ht => by rw [hs] at ht; rw [Option.some.inj ht]; exact Int.le_refl _)
  unfold whereS
  rw [hk, hs]
  exact if_pos rfl
theorem fold_zero {A : Acv} (hA : AcOk A) {bs shift d : Int} (hb : bs - shift = A.start + d) (hn : 0 < A.sm.length) : ∀ (l : List Sm) (m : Mt), (∀ s, s ∈ l → s ∈ A.sm) →
    ((l.map (backS d)).foldl (mtStep A bs shift) m).sum = m.sum ∧ ((l.map (backS d)).foldl (mtStep A bs shift) m).many = m.many + l.length
  | [], m, _ => ⟨rfl, by simp⟩
  | s :: l, m, hl => by
    rw [List.map_cons, List.foldl_cons]
    obtain ⟨k, hk, rfl⟩ := List.getElem_of_mem (hl s List.mem_cons_self)
    have hs := List.getElem?_eq_getElem hk
    have e : secOf A bs shift (backS d A.sm[k]) = A.sm[k].tm := by
      unfold secOf
      show bs + (A.sm[k].tm - d) - shift - A.start = _
      omega
    have hle : A.sm[k].tm ≤ spanS A.sm := by
      obtain ⟨t, ht⟩ : ∃ t, A.sm[A.sm.length - 1]? = some t := ⟨_, List.getElem?_eq_getElem (by omega)⟩
      unfold spanS
      rw [ht]
      show A.sm[k].tm ≤ t.tm
      rcases Nat.lt_or_ge k (A.sm.length - 1) with g | g
      · have := hA.sm.lt g hs ht
        omega
      · have e : A.sm[k]? = some t := by rw [show k = A.sm.length - 1 by omega]; exact ht
        rw [hs] at e
        rw [Option.some.inj e]
        omega
    have hst : mtStep A bs shift m (backS d A.sm[k]) = ⟨m.shift, m.many + 1, m.sum + 0⟩ := by
      unfold mtStep
      rw [if_neg (by omega), e, if_pos (inR_iff.2 ⟨hA.sm.nonneg hs, hle⟩), whereS_at hA.sm hs]
      have hd : dist2 (backS d A.sm[k]) A.sm[k] = 0 := by
        unfold dist2
        show min ((A.sm[k].x - A.sm[k].x) * (A.sm[k].x - A.sm[k].x) + (A.sm[k].y - A.sm[k].y) * (A.sm[k].y - A.sm[k].y)) 1000000000000 = 0
        rw [Int.sub_self, Int.sub_self]
        decide
      rw [hd]
    rw [hst]
    obtain ⟨h1, h2⟩ := fold_zero hA hb hn l ⟨m.shift, m.many + 1, m.sum + 0⟩ (fun t ht => hl t (List.mem_cons_of_mem _ ht))
    refine ⟨by rw [h1]; exact Int.add_zero _, ?_⟩
    rw [h2, List.length_cons]
    show m.many + 1 + (l.length : Int) = m.many + ((l.length + 1 : Nat) : Int)
    omega
theorem fit_plain {A : Acv} (hA : AcOk A) {ks1 ks2 : List Nat} (hH : Halves A.sm.length ks1 ks2) (hn : 0 < A.sm.length) {shift : Int} (h0 : 0 ≤ shift) (hf : fitE A (later (onlyA A ks2) shift) shift 1 = 0) (h2 : 0 < ks2.length) :
    ∃ m, fitO A (later (onlyA A ks2) shift) shift 1 = some m ∧ m.sum = 0 := by
  have hye := onlyA_eq A ks2
  obtain ⟨P2, hP2⟩ : ∃ P, pickS A.sm ks2 = P := ⟨_, rfl⟩
  have m2 : ∀ s, s ∈ P2 → s ∈ A.sm := fun s hs => by
    rw [← hP2] at hs
    obtain ⟨k, _, hk⟩ := pickS_mem hs
    exact List.mem_of_getElem? hk
  have hl2 : P2.length = ks2.length := by rw [← hP2, pickS_len hH.lt2]
  rw [hP2] at hye
  obtain ⟨d2, hd2⟩ : ∃ d, fromS P2 = d := ⟨_, rfl⟩
  rw [hd2] at hye
  have hD : (shiftedF A (later (onlyA A ks2) shift) shift).sum = 0 ∧ (shiftedF A (later (onlyA A ks2) shift) shift).many = P2.length := by
    have h := fold_zero hA (bs := (later (onlyA A ks2) shift).start) (shift := shift) (d := d2) (by unfold later; rw [hye]; show A.start + d2 + shift - shift = _; omega) hn P2 ⟨shift, 0, 0⟩ m2
    unfold shiftedF mtFold
    have e : (later (onlyA A ks2) shift).sm = P2.map (backS d2) := by unfold later; rw [hye]
    rw [e]
    exact ⟨h.1, by rw [h.2]; show (0 : Int) + _ = _; omega⟩
  have hB := Ft.fitM_best (D := shiftedF A (later (onlyA A ks2) shift)) (most := shift) (least := 1) (Int.le_refl _) h0
  unfold fitO
  rw [if_pos hf]
  cases hm : Ft.fitM (shiftedF A (later (onlyA A ks2) shift)) shift 1 with
  | none =>
    have := hB.none_ hm shift (by omega) (by omega)
    rw [hD.2] at this
    omega
  | some m =>
    refine ⟨m, rfl, ?_⟩
    obtain ⟨⟨s, s1, s2, rfl⟩, hm1, hbest⟩ := hB.some_ m hm
    have := hbest shift (by omega) (by omega) (by rw [hD.2]; omega)
    unfold Ft.notWorse at this
    rw [hD.1, hD.2, Int.zero_mul] at this
    have hat := shiftedF_at A (later (onlyA A ks2) shift) s
    have hs0 : 0 ≤ (shiftedF A (later (onlyA A ks2) shift) s).sum := hat.u1
    rcases Int.lt_or_le 0 (shiftedF A (later (onlyA A ks2) shift) s).sum with g | g
    · have hp : 0 < (shiftedF A (later (onlyA A ks2) shift) s).sum * (P2.length : Int) := Int.mul_pos g (by omega)
      omega
    · omega
end Go.Proofs.Ytkejjlghelnfjaa

/- What wants contracts that the first shelf text lacked. -/
namespace Go.Proofs.Ytkejjlghelnfjaa
open Go.RowKit
open Go.RowKit Go.BigFrame
set_option maxHeartbeats 4000000 in
set_option maxRecDepth 100000 in
theorem div64_high (hi lo y : Int) (s Y a b u l d1 d0 u2 qh rh qh2 rh2 qq rr Q1 Q0 : Nat) (w : World) (h1 : 1 ≤ hi) (hy : hi < y) (hY : y ≤ 18446744073709551615)
    (hs : Hid (64 - (Lib.bitLen y.toNat : Int) = (s : Int))) (hs63 : s ≤ 63)
    (e1 : IntKind.u64.wrap (y * 2 ^ s) = Y) (e2 : (Y : Int) / 4294967296 = a) (e3 : bits BinOp.and IntKind.u64 Y 4294967295 = b)
    (e4 : bits BinOp.or IntKind.u64 (IntKind.u64.wrap (hi * 2 ^ s)) (lo / 2 ^ (64 - s)) = u) (e5 : IntKind.u64.wrap (lo * 2 ^ s) = l) (e6 : (l : Int) / 4294967296 = d1) (e7 : bits BinOp.and IntKind.u64 l 4294967295 = d0)
    (e8 : (u : Int) / a = qh) (e9 : IntKind.u64.wrap (u - IntKind.u64.wrap (qh * a)) = rh) (hst : Hid (Knuth.Dig u d1 a b qh rh))
    (e10 : IntKind.u64.wrap (IntKind.u64.wrap (IntKind.u64.wrap ((u : Int) * 4294967296) + d1) - IntKind.u64.wrap ((Q1 : Int) * Y)) = u2)
    (e11 : (u2 : Int) / a = qh2) (e12 : IntKind.u64.wrap (u2 - IntKind.u64.wrap (qh2 * a)) = rh2) (hst2 : Hid (Knuth.Dig u2 d0 a b qh2 rh2))
    (e13 : IntKind.u64.wrap (IntKind.u64.wrap ((Q1 : Int) * 4294967296) + Q0) = qq) (e14 : IntKind.u64.wrap (IntKind.u64.wrap (IntKind.u64.wrap ((u2 : Int) * 4294967296) + d0) - IntKind.u64.wrap ((Q0 : Int) * Y)) / 2 ^ s = rr)
    (hP : Hid (Knuth.Par u d1 a b)) (hP2 : Hid (Knuth.Par u2 d0 a b))
    (hQ1 : Hid (Q1 = (u * 4294967296 + d1) / (a * 4294967296 + b))) (hQ0 : Hid (Q0 = (u2 * 4294967296 + d0) / (a * 4294967296 + b)))
    (ha : (2147483648 : Int) ≤ a) (ha' : (a : Int) < 4294967296) (hb' : Hid (b < 4294967296)) (_hb2 : (b : Int) < 4294967296) (_hu' : (u : Int) ≤ 18446744073709551615) (hd1' : (d1 : Int) < 4294967296) (hd0' : (d0 : Int) < 4294967296) (hqh : (qh : Int) ≤ 4294967297) (_hrh : (rh : Int) < 4294967296)
    (_hu2 : (u2 : Int) ≤ 18446744073709551615) (hqh2 : (qh2 : Int) ≤ 4294967297) (_hrh2 : (rh2 : Int) < 4294967296) :
    Calls Try.prog 46 #[.int .u64 hi, .int .u64 lo, .int .u64 y] w fun e w' => e = .returned (.tuple #[.int .u64 qq, .int .u64 rr]) ∧ w' = w := by
  have b1 : (y == 0) = false := by rw [beq_eq_false_iff_ne]; omega
  have b2 : decide (y ≤ hi) = false := by simp; omega
  have b3 : (hi == 0) = false := by rw [beq_eq_false_iff_ne]; omega
  go_enter Try.func46, Try.ntmps46
  go_wp2_with fail
  refine (Go.Proofs.Try.bits_LeadingZeros64 _ _ (by omega) (by omega)).mono ?_
  rintro e w' ⟨rfl, rfl⟩
  rw [hs.out]
  go_wp2_with fail
  clear e1 e2 e3 e4 e5 e6 e7 e8 e9 b1 b2 b3
  go_loop [15, 16] (fun q r => ∃ qn rn : Nat, q = .int .u64 qn ∧ r = .int .u64 rn ∧ Knuth.Dig u d1 a b qn rn) (fun q _ => (intOf q).toNat)
  case atStart => exact ⟨_, _, rfl, rfl, hst.out⟩
  case round =>
    obtain ⟨q, r, rfl, rfl, hD'⟩ := hrel
    have hD := Lib.hid hD'
    have hq1 : (q : Int) ≤ 4294967297 := by have := hD'.1; omega
    have hr1 : (r : Int) < 4294967296 := by have := hD'.2.1; omega
    clear hD'
    by_cases hq : 4294967296 ≤ q
    · have c1 : decide ((4294967296 : Int) ≤ (q : Int)) = true := by rw [decide_eq_true_eq]; omega
      have hpos := hD.out.pos hP.out (.inl hq)
      have hqi : (1 : Int) ≤ q := by omega
      by_cases hr : r + a < 4294967296
      · have c3 : decide ((4294967296 : Int) ≤ (r : Int) + (a : Int)) = false := by rw [decide_eq_false_iff_not]; omega
        have hN := Lib.hid (hD.out.less hP.out (.inl hq) hr)
        have Hp := Lib.hid hpos; clear hpos
        clear hq hr
        go_wp2
        go_round
        case rel => exact ⟨q - 1, r + a, by rw [Int.ofNat_sub Hp.out]; rfl, by go_num, hN.out⟩
        case measure => simp [intOf]; omega
      · have c3 : decide ((4294967296 : Int) ≤ (r : Int) + (a : Int)) = true := by rw [decide_eq_true_eq]; omega
        have hN := hD.out.last hP.out (.inl hq) (by omega)
        have e15 : (q : Int) - 1 = (Q1 : Nat) := by rw [hQ1.out, ← hN]; omega
        clear hN
        clear hq hr
        clear hpos
        go_wp2_with fail
        go_loop [18, 16] (fun q r => ∃ qn rn : Nat, q = .int .u64 qn ∧ r = .int .u64 rn ∧ Knuth.Dig u2 d0 a b qn rn) (fun q _ => (intOf q).toNat)
        case atStart => exact ⟨_, _, rfl, rfl, hst2.out⟩
        case round =>
          obtain ⟨q, r, rfl, rfl, hD'⟩ := hrel
          have hD := Lib.hid hD'
          have hq1 : (q : Int) ≤ 4294967297 := by have := hD'.1; omega
          have hr1 : (r : Int) < 4294967296 := by have := hD'.2.1; omega
          clear hD'
          by_cases hq : 4294967296 ≤ q
          · have c1 : decide ((4294967296 : Int) ≤ (q : Int)) = true := by rw [decide_eq_true_eq]; omega
            have hpos := hD.out.pos hP2.out (.inl hq)
            have hqi : (1 : Int) ≤ q := by omega
            by_cases hr : r + a < 4294967296
            · have c3 : decide ((4294967296 : Int) ≤ (r : Int) + (a : Int)) = false := by rw [decide_eq_false_iff_not]; omega
              have hN := Lib.hid (hD.out.less hP2.out (.inl hq) hr)
              have Hp := Lib.hid hpos; clear hpos
              clear hq hr
              go_wp2
              go_round
              case rel => exact ⟨q - 1, r + a, by rw [Int.ofNat_sub Hp.out]; rfl, by go_num, hN.out⟩
              case measure => simp [intOf]; omega
            · have c3 : decide ((4294967296 : Int) ≤ (r : Int) + (a : Int)) = true := by rw [decide_eq_true_eq]; omega
              have hN := hD.out.last hP2.out (.inl hq) (by omega)
              have e15 : (q : Int) - 1 = (Q0 : Nat) := by rw [hQ0.out, ← hN]; omega
              clear hN
              clear hq hr
              clear hpos
              go_wp2
              go_ret2
              exact ⟨rfl, rfl⟩
          · have c1 : decide ((4294967296 : Int) ≤ (q : Int)) = false := by rw [decide_eq_false_iff_not]; omega
            have hq' : q < 4294967296 := by omega
            clear hq
            obtain ⟨m, hm0⟩ : ∃ m : Nat, m = q * b := ⟨_, rfl⟩
            have hm : IntKind.u64.wrap ((q : Int) * b) = m := by
              rw [IntKind.wrap_u64]; have := Knuth.mul_half hq' hb'.out
              rw [← Int.natCast_mul, ← hm0]; omega
            have Hm := Lib.hid hm0
            clear hm0 hq'
            by_cases ht : 4294967296 * r + d0 < m
            · have c2 : decide (4294967296 * (r : Int) + (d0 : Int) < (m : Int)) = true := by rw [decide_eq_true_eq]; omega
              have hpos := hD.out.pos hP2.out (.inr (by rw [← Hm.out]; omega))
              have hqi : (1 : Int) ≤ q := by omega
              by_cases hr : r + a < 4294967296
              · have c3 : decide ((4294967296 : Int) ≤ (r : Int) + (a : Int)) = false := by rw [decide_eq_false_iff_not]; omega
                have hN := Lib.hid (hD.out.less hP2.out (.inr (by rw [← Hm.out]; omega)) hr)
                have Hp := Lib.hid hpos; clear hpos
                clear ht hr
                go_wp2
                go_round
                case rel => exact ⟨q - 1, r + a, by rw [Int.ofNat_sub Hp.out]; rfl, by go_num, hN.out⟩
                case measure => simp [intOf]; omega
              · have c3 : decide ((4294967296 : Int) ≤ (r : Int) + (a : Int)) = true := by rw [decide_eq_true_eq]; omega
                have hN := hD.out.last hP2.out (.inr (by rw [← Hm.out]; omega)) (by omega)
                have e15 : (q : Int) - 1 = (Q0 : Nat) := by rw [hQ0.out, ← hN]; omega
                clear hN
                clear ht hr
                clear hpos
                go_wp2
                go_ret2
                exact ⟨rfl, rfl⟩
            · have c2 : decide (4294967296 * (r : Int) + (d0 : Int) < (m : Int)) = false := by rw [decide_eq_false_iff_not]; omega
              have hN := hD.out.done hP2.out (by rw [← Hm.out]; omega)
              rw [← hQ0.out] at hN
              subst hN
              clear ht
              go_wp2
              go_ret2
              exact ⟨rfl, rfl⟩
    · have c1 : decide ((4294967296 : Int) ≤ (q : Int)) = false := by rw [decide_eq_false_iff_not]; omega
      have hq' : q < 4294967296 := by omega
      clear hq
      obtain ⟨m, hm0⟩ : ∃ m : Nat, m = q * b := ⟨_, rfl⟩
      have hm : IntKind.u64.wrap ((q : Int) * b) = m := by
        rw [IntKind.wrap_u64]; have := Knuth.mul_half hq' hb'.out
        rw [← Int.natCast_mul, ← hm0]; omega
      have Hm := Lib.hid hm0
      clear hm0 hq'
      by_cases ht : 4294967296 * r + d1 < m
      · have c2 : decide (4294967296 * (r : Int) + (d1 : Int) < (m : Int)) = true := by rw [decide_eq_true_eq]; omega
        have hpos := hD.out.pos hP.out (.inr (by rw [← Hm.out]; omega))
        have hqi : (1 : Int) ≤ q := by omega
        by_cases hr : r + a < 4294967296
        · have c3 : decide ((4294967296 : Int) ≤ (r : Int) + (a : Int)) = false := by rw [decide_eq_false_iff_not]; omega
          have hN := Lib.hid (hD.out.less hP.out (.inr (by rw [← Hm.out]; omega)) hr)
          have Hp := Lib.hid hpos; clear hpos
          clear ht hr
          go_wp2
          go_round
          case rel => exact ⟨q - 1, r + a, by rw [Int.ofNat_sub Hp.out]; rfl, by go_num, hN.out⟩
          case measure => simp [intOf]; omega
        · have c3 : decide ((4294967296 : Int) ≤ (r : Int) + (a : Int)) = true := by rw [decide_eq_true_eq]; omega
          have hN := hD.out.last hP.out (.inr (by rw [← Hm.out]; omega)) (by omega)
          have e15 : (q : Int) - 1 = (Q1 : Nat) := by rw [hQ1.out, ← hN]; omega
          clear hN
          clear ht hr
          clear hpos
          go_wp2_with fail
          go_loop [18, 16] (fun q r => ∃ qn rn : Nat, q = .int .u64 qn ∧ r = .int .u64 rn ∧ Knuth.Dig u2 d0 a b qn rn) (fun q _ => (intOf q).toNat)
          case atStart => exact ⟨_, _, rfl, rfl, hst2.out⟩
          case round =>
            obtain ⟨q, r, rfl, rfl, hD'⟩ := hrel
            have hD := Lib.hid hD'
            have hq1 : (q : Int) ≤ 4294967297 := by have := hD'.1; omega
            have hr1 : (r : Int) < 4294967296 := by have := hD'.2.1; omega
            clear hD'
            by_cases hq : 4294967296 ≤ q
            · have c1 : decide ((4294967296 : Int) ≤ (q : Int)) = true := by rw [decide_eq_true_eq]; omega
              have hpos := hD.out.pos hP2.out (.inl hq)
              have hqi : (1 : Int) ≤ q := by omega
              by_cases hr : r + a < 4294967296
              · have c3 : decide ((4294967296 : Int) ≤ (r : Int) + (a : Int)) = false := by rw [decide_eq_false_iff_not]; omega
                have hN := Lib.hid (hD.out.less hP2.out (.inl hq) hr)
                have Hp := Lib.hid hpos; clear hpos
                clear hq hr
                go_wp2
                go_round
                case rel => exact ⟨q - 1, r + a, by rw [Int.ofNat_sub Hp.out]; rfl, by go_num, hN.out⟩
                case measure => simp [intOf]; omega
              · have c3 : decide ((4294967296 : Int) ≤ (r : Int) + (a : Int)) = true := by rw [decide_eq_true_eq]; omega
                have hN := hD.out.last hP2.out (.inl hq) (by omega)
                have e15 : (q : Int) - 1 = (Q0 : Nat) := by rw [hQ0.out, ← hN]; omega
                clear hN
                clear hq hr
                clear hpos
                go_wp2
                go_ret2
                exact ⟨rfl, rfl⟩
            · have c1 : decide ((4294967296 : Int) ≤ (q : Int)) = false := by rw [decide_eq_false_iff_not]; omega
              have hq' : q < 4294967296 := by omega
              clear hq
              obtain ⟨m, hm0⟩ : ∃ m : Nat, m = q * b := ⟨_, rfl⟩
              have hm : IntKind.u64.wrap ((q : Int) * b) = m := by
                rw [IntKind.wrap_u64]; have := Knuth.mul_half hq' hb'.out
                rw [← Int.natCast_mul, ← hm0]; omega
              have Hm := Lib.hid hm0
              clear hm0 hq'
              by_cases ht : 4294967296 * r + d0 < m
              · have c2 : decide (4294967296 * (r : Int) + (d0 : Int) < (m : Int)) = true := by rw [decide_eq_true_eq]; omega
                have hpos := hD.out.pos hP2.out (.inr (by rw [← Hm.out]; omega))
                have hqi : (1 : Int) ≤ q := by omega
                by_cases hr : r + a < 4294967296
                · have c3 : decide ((4294967296 : Int) ≤ (r : Int) + (a : Int)) = false := by rw [decide_eq_false_iff_not]; omega
                  have hN := Lib.hid (hD.out.less hP2.out (.inr (by rw [← Hm.out]; omega)) hr)
                  have Hp := Lib.hid hpos; clear hpos
                  clear ht hr
                  go_wp2
                  go_round
                  case rel => exact ⟨q - 1, r + a, by rw [Int.ofNat_sub Hp.out]; rfl, by go_num, hN.out⟩
                  case measure => simp [intOf]; omega
                · have c3 : decide ((4294967296 : Int) ≤ (r : Int) + (a : Int)) = true := by rw [decide_eq_true_eq]; omega
                  have hN := hD.out.last hP2.out (.inr (by rw [← Hm.out]; omega)) (by omega)
                  have e15 : (q : Int) - 1 = (Q0 : Nat) := by rw [hQ0.out, ← hN]; omega
                  clear hN
                  clear ht hr
                  clear hpos
                  go_wp2
                  go_ret2
                  exact ⟨rfl, rfl⟩
              · have c2 : decide (4294967296 * (r : Int) + (d0 : Int) < (m : Int)) = false := by rw [decide_eq_false_iff_not]; omega
                have hN := hD.out.done hP2.out (by rw [← Hm.out]; omega)
                rw [← hQ0.out] at hN
                subst hN
                clear ht
                go_wp2
                go_ret2
                exact ⟨rfl, rfl⟩
      · have c2 : decide (4294967296 * (r : Int) + (d1 : Int) < (m : Int)) = false := by rw [decide_eq_false_iff_not]; omega
        have hN := hD.out.done hP.out (by rw [← Hm.out]; omega)
        rw [← hQ1.out] at hN
        subst hN
        clear ht
        go_wp2_with fail
        go_loop [18, 16] (fun q r => ∃ qn rn : Nat, q = .int .u64 qn ∧ r = .int .u64 rn ∧ Knuth.Dig u2 d0 a b qn rn) (fun q _ => (intOf q).toNat)
        case atStart => exact ⟨_, _, rfl, rfl, hst2.out⟩
        case round =>
          obtain ⟨q, r, rfl, rfl, hD'⟩ := hrel
          have hD := Lib.hid hD'
          have hq1 : (q : Int) ≤ 4294967297 := by have := hD'.1; omega
          have hr1 : (r : Int) < 4294967296 := by have := hD'.2.1; omega
          clear hD'
          by_cases hq : 4294967296 ≤ q
          · have c1 : decide ((4294967296 : Int) ≤ (q : Int)) = true := by rw [decide_eq_true_eq]; omega
            have hpos := hD.out.pos hP2.out (.inl hq)
            have hqi : (1 : Int) ≤ q := by omega
            by_cases hr : r + a < 4294967296
            · have c3 : decide ((4294967296 : Int) ≤ (r : Int) + (a : Int)) = false := by rw [decide_eq_false_iff_not]; omega
              have hN := Lib.hid (hD.out.less hP2.out (.inl hq) hr)
              have Hp := Lib.hid hpos; clear hpos
              clear hq hr
              go_wp2
              go_round
              case rel => exact ⟨q - 1, r + a, by rw [Int.ofNat_sub Hp.out]; rfl, by go_num, hN.out⟩
              case measure => simp [intOf]; omega
            · have c3 : decide ((4294967296 : Int) ≤ (r : Int) + (a : Int)) = true := by rw [decide_eq_true_eq]; omega
              have hN := hD.out.last hP2.out (.inl hq) (by omega)
              have e15 : (q : Int) - 1 = (Q0 : Nat) := by rw [hQ0.out, ← hN]; omega
              clear hN
              clear hq hr
              clear hpos
              go_wp2
              go_ret2
              exact ⟨rfl, rfl⟩
          · have c1 : decide ((4294967296 : Int) ≤ (q : Int)) = false := by rw [decide_eq_false_iff_not]; omega
            have hq' : q < 4294967296 := by omega
            clear hq
            obtain ⟨m, hm0⟩ : ∃ m : Nat, m = q * b := ⟨_, rfl⟩
            have hm : IntKind.u64.wrap ((q : Int) * b) = m := by
              rw [IntKind.wrap_u64]; have := Knuth.mul_half hq' hb'.out
              rw [← Int.natCast_mul, ← hm0]; omega
            have Hm := Lib.hid hm0
            clear hm0 hq'
            by_cases ht : 4294967296 * r + d0 < m
            · have c2 : decide (4294967296 * (r : Int) + (d0 : Int) < (m : Int)) = true := by rw [decide_eq_true_eq]; omega
              have hpos := hD.out.pos hP2.out (.inr (by rw [← Hm.out]; omega))
              have hqi : (1 : Int) ≤ q := by omega
              by_cases hr : r + a < 4294967296
              · have c3 : decide ((4294967296 : Int) ≤ (r : Int) + (a : Int)) = false := by rw [decide_eq_false_iff_not]; omega
                have hN := Lib.hid (hD.out.less hP2.out (.inr (by rw [← Hm.out]; omega)) hr)
                have Hp := Lib.hid hpos; clear hpos
                clear ht hr
                go_wp2
                go_round
                case rel => exact ⟨q - 1, r + a, by rw [Int.ofNat_sub Hp.out]; rfl, by go_num, hN.out⟩
                case measure => simp [intOf]; omega
              · have c3 : decide ((4294967296 : Int) ≤ (r : Int) + (a : Int)) = true := by rw [decide_eq_true_eq]; omega
                have hN := hD.out.last hP2.out (.inr (by rw [← Hm.out]; omega)) (by omega)
                have e15 : (q : Int) - 1 = (Q0 : Nat) := by rw [hQ0.out, ← hN]; omega
                clear hN
                clear ht hr
                clear hpos
                go_wp2
                go_ret2
                exact ⟨rfl, rfl⟩
            · have c2 : decide (4294967296 * (r : Int) + (d0 : Int) < (m : Int)) = false := by rw [decide_eq_false_iff_not]; omega
              have hN := hD.out.done hP2.out (by rw [← Hm.out]; omega)
              rw [← hQ0.out] at hN
              subst hN
              clear ht
              go_wp2
              go_ret2
              exact ⟨rfl, rfl⟩
theorem div64_nat (hi lo y : Nat) (w : World) (h1 : 1 ≤ hi) (hy : hi < y) (hL : lo < 18446744073709551616) (hY : y < 18446744073709551616) :
    Calls Try.prog 46 #[.int .u64 hi, .int .u64 lo, .int .u64 y] w fun e w' =>
      e = .returned (.tuple #[.int .u64 ((hi * 18446744073709551616 + lo) / y : Nat), .int .u64 ((hi * 18446744073709551616 + lo) % y : Nat)]) ∧ w' = w := by
  obtain ⟨hB1, hB2, hB3⟩ := bitLen_spec y y (Nat.le_refl _) (by omega) hY
  have hB4 := bitLen_le (x := y) (by omega) hY
  obtain ⟨s, hs⟩ : ∃ s, s = 64 - Lib.bitLen y := ⟨_, rfl⟩
  have hP : 0 < 2 ^ s := Nat.two_pow_pos s
  have hPP : 2 ^ (64 - s) * 2 ^ s = 18446744073709551616 := by rw [← Nat.pow_add, show 64 - s + s = 64 by omega]
  -- the divisor
  have hY1 : 9223372036854775808 ≤ y * 2 ^ s := by
    have : 2 ^ (Lib.bitLen y - 1) * 2 ^ s ≤ y * 2 ^ s := Nat.mul_le_mul_right _ hB2
    rw [← Nat.pow_add, show Lib.bitLen y - 1 + s = 63 by omega] at this
    omega
  have hY2 : y * 2 ^ s < 18446744073709551616 := by
    have : y * 2 ^ s < 2 ^ Lib.bitLen y * 2 ^ s := Nat.mul_lt_mul_of_pos_right hB3 hP
    rw [← Nat.pow_add, show Lib.bitLen y + s = 64 by omega] at this
    omega
  generalize hYe : y * 2 ^ s = Y at *
  have hhi : hi * 2 ^ s < 18446744073709551616 := by
    have : hi * 2 ^ s ≤ y * 2 ^ s := Nat.mul_le_mul_right _ (Nat.le_of_lt hy)
    omega
  have hlo : lo / 2 ^ (64 - s) < 2 ^ s := by
    rw [Nat.div_lt_iff_lt_mul (Nat.two_pow_pos _), Nat.mul_comm, hPP]; exact hL
  -- the dividend
  have hsplit : lo * 2 ^ s = lo / 2 ^ (64 - s) * 18446744073709551616 + lo * 2 ^ s % 18446744073709551616 := by
    have h := Nat.div_add_mod (lo * 2 ^ s) 18446744073709551616
    have e : lo * 2 ^ s / 18446744073709551616 = lo / 2 ^ (64 - s) := by
      rw [← hPP, Nat.mul_div_mul_right _ _ hP]
    rw [e] at h
    omega
  generalize hl : lo * 2 ^ s % 18446744073709551616 = l at *
  have hl2 : l < 18446744073709551616 := by rw [← hl]; exact Nat.mod_lt _ (by omega)
  obtain ⟨u, hu⟩ : ∃ u, u = hi * 2 ^ s + lo / 2 ^ (64 - s) := ⟨_, rfl⟩
  have hN : (hi * 18446744073709551616 + lo) * 2 ^ s = (u * 4294967296 + l / 4294967296) * 4294967296 + l % 4294967296 := by
    rw [Nat.add_mul, hsplit, hu]
    have : hi * 18446744073709551616 * 2 ^ s = hi * 2 ^ s * 18446744073709551616 := by rw [Nat.mul_right_comm]
    omega
  have huY : u < Y := by
    have h2 : (hi * 18446744073709551616 + lo) * 2 ^ s < Y * 18446744073709551616 := by
      have h3 : hi * 18446744073709551616 + lo < y * 18446744073709551616 := by omega
      have h4 := Nat.mul_lt_mul_of_pos_right h3 hP
      rw [Nat.mul_right_comm y, hYe] at h4
      exact h4
    omega
  have hl3 : l / 4294967296 < 4294967296 := by omega
  generalize hd1 : l / 4294967296 = d1 at *
  generalize hd0 : l % 4294967296 = d0 at *
  have hd0' : d0 < 4294967296 := by omega
  generalize ha : Y / 4294967296 = a at *
  generalize hb : Y % 4294967296 = b at *
  have hb' : b < 4294967296 := by omega
  have hYab : a * 4294967296 + b = Y := by omega
  have ha1 : 2147483648 ≤ a := by omega
  have ha2 : a < 4294967296 := by omega
  have hPar : Knuth.Par u d1 a b := ⟨by omega, hl3, ha1, ha2, hb'⟩
  obtain ⟨Q1, u2, Q0, r2, hQ1, hQ0, c1, c2, hu2, hr2, hq, hr⟩ := Knuth.digits hYe (by omega) hN
  rw [hq, hr]
  have hlt := Knuth.dig_lt hPar
  rw [hYab, ← hQ1] at hlt
  have hPar2 : Knuth.Par u2 d0 a b := ⟨by omega, hd0', ha1, ha2, hb'⟩
  have hlt2 := Knuth.dig_lt hPar2
  rw [hYab, ← hQ0] at hlt2
  obtain ⟨qh, rh, g1, g2, f1, m1, hD⟩ := Knuth.start hPar
  obtain ⟨qh2, rh2, g3, g4, f2, m2, hD2⟩ := Knuth.start hPar2
  have w1 := rest_wrap (u := u) (a := a) (by omega)
  have w2 := rest_wrap (u := u2) (a := a) (by omega)
  have v1 := (Int.natCast_ediv u a).symm
  have v2 := (Int.natCast_ediv u2 a).symm
  rw [← g1] at v1 w1
  rw [← g2] at w1
  rw [← g3] at v2 w2
  rw [← g4] at w2
  have s1 := step_rest c1 (by omega)
  have s2 := step_rest c2 (by omega)
  refine div64_high hi lo y s Y a b u l d1 d0 u2 qh rh qh2 rh2 _ _ Q1 Q0 w
    (by omega) (by omega) (by omega) (Lib.hid (by rw [Int.toNat_natCast]; omega)) (by omega)
    ?e1 (by omega) ?e3 ?e4 ?e5 (by omega) ?e7 v1 w1 (Lib.hid hD)
    s1 v2 w2 (Lib.hid hD2) ?e13 ?e14 (Lib.hid hPar) (Lib.hid hPar2) (Lib.hid (by rw [hYab]; exact hQ1)) (Lib.hid (by rw [hYab]; exact hQ0))
    (by omega) (by omega) (Lib.hid hb') (by omega) (by omega) (by omega) (by omega) (by omega) (by omega) (by omega) (by omega) (by omega)
  case e1 => rw [← cast_pow2, ← Int.natCast_mul, hYe]; exact wrap_nat hY2
  case e3 => rw [show (4294967295 : Int) = ((4294967295 : Nat) : Int) from rfl, bits_and_u64_nat _ _ hY2 (by omega), show (4294967295 : Nat) = 2 ^ 32 - 1 from rfl, Nat.and_two_pow_sub_one_eq_mod]; omega
  case e4 =>
    rw [← cast_pow2, ← cast_pow2, ← Int.natCast_mul, wrap_nat hhi, ← Int.natCast_ediv, bits_or_u64_nat _ _ hhi (by omega), hu, Nat.mul_comm hi, Nat.two_pow_add_eq_or_of_lt hlo]
  case e5 => rw [← cast_pow2, ← Int.natCast_mul, IntKind.wrap_u64]; omega
  case e7 => rw [show (4294967295 : Int) = ((4294967295 : Nat) : Int) from rfl, bits_and_u64_nat _ _ hl2 (by omega), show (4294967295 : Nat) = 2 ^ 32 - 1 from rfl, Nat.and_two_pow_sub_one_eq_mod]; omega
  case e13 => rw [IntKind.wrap_u64, IntKind.wrap_u64]; omega
  case e14 => rw [s2, ← cast_pow2, ← Int.natCast_ediv]
theorem div64_any (hi lo y : Nat) (w : World) (hy : hi < y) (hL : lo < 18446744073709551616) (hY : y < 18446744073709551616) :
    Calls Try.prog 46 #[.int .u64 hi, .int .u64 lo, .int .u64 y] w fun e w' =>
      e = .returned (.tuple #[.int .u64 ((hi * 18446744073709551616 + lo) / y : Nat), .int .u64 ((hi * 18446744073709551616 + lo) % y : Nat)]) ∧ ∃ n, w' = w.drewN n := by
  by_cases h : hi = 0
  · subst h
    refine (div64_low lo y w (by omega) (by omega) (by omega)).mono ?_
    rintro e w' ⟨rfl, h⟩
    refine ⟨?_, h⟩
    simp only [Nat.zero_mul, Nat.zero_add, Int.natCast_ediv, Int.natCast_emod]
  · refine (div64_nat hi lo y w (by omega) hy hL hY).mono ?_
    rintro e w' ⟨rfl, rfl⟩
    exact ⟨rfl, 0, rfl⟩
set_option maxHeartbeats 2000000 in
set_option maxRecDepth 100000 in
/-- the product's quotient fits one word -/
theorem scale_neg (a how : Int) (num den hi lo q r k A : Nat) (w : World) (hk : Hid (how = (k : Int) + 1)) (hk5 : k < 5) (hd : 1 ≤ den) (hD : (den : Int) ≤ 9223372036854775807) (hM : (num : Int) ≤ 9223372036854775807)
    (hs : a < 0) (_ha1 : -9223372036854775808 ≤ a) (hneg : IntKind.u64.wrap (-IntKind.u64.wrap a) = (A : Int))
    (hhi' : ((A * num / 18446744073709551616 : Nat) : Int) = hi) (hlo' : ((A * num % 18446744073709551616 : Nat) : Int) = lo) (hlt : (hi : Int) < den)
    (hq' : (((hi * 18446744073709551616 + lo) / den : Nat) : Int) = q) (hr' : (((hi * 18446744073709551616 + lo) % den : Nat) : Int) = r) (hr0 : (r : Int) < den) (_hlo2 : (lo : Int) ≤ 18446744073709551615) (hq2 : (q : Int) ≤ 18446744073709551615) (hA : (A : Int) ≤ 9223372036854775808)
    (hfin : Hid (Sc.sc a num den how = if 4611686018427387904 < Sc.quo how true q r den then (0, 9) else (Sc.sgn true (Sc.quo how true q r den), 0))) :
    Calls Try.prog 30 #[.int .i64 a, .int .i64 num, .int .i64 den, .int .i64 how] w fun e w' => e = scRet (Sc.sc a num den how) ∧ Below w.heap.size w w' := by
  have hw : wayAt how = (k : Int) := by have := hk.out; unfold wayAt; rw [if_pos (by omega)]; omega
  have hmf : ∀ (fn : Fn) (first cap : Array Value) (w : World), (Instr.makeFunc fn first cap).run Try.prog w = .ok (.func fn first cap) w := fun _ _ _ _ => rfl
  have b1 : decide ((den : Int) ≤ 0) = false := by rw [decide_eq_false_iff_not]; omega
  have b2 : decide ((den : Int) ≤ hi) = false := by rw [decide_eq_false_iff_not]; omega
  have hmul := Lib.hid (Go.Proofs.Try.bits_Mul64 A num)
  have hdiv := Lib.hid (div64_any hi lo den)
  obtain ⟨f, g0, g1, hcf, hf'⟩ := way_any k hk5
  have hf := Lib.hid hf'
  clear hf'
  unfold fnv at g1
  go_enter Try.func30, Try.ntmps30
  go_wp2_with fail
  refine (ways_any _).mono ?_
  rintro e w1 ⟨rfl, rfl⟩
  go_wp2_with fail
  refine (index_any _ _ how _ (hasRow_new w _) (how_new w how _) (by simp) (by simp; omega)).mono ?_
  rintro e w1 ⟨rfl, hb⟩
  rw [hw]
  have hrow := (hasRow_new w (.cells #[.int .i64 how] 3)).at hb (by simp)
  have hb' := (below_two w _ _).trans (hb.mono (by simp; omega))
  have hk5i : (k : Int) < 5 := by omega
  have r0 := hrow (k * 2) (by omega)
  have r1 := hrow (k * 2 + 1) (by omega)
  rw [g0] at r0; rw [g1] at r1
  clear hb hw hrow g0 g1
  go_wp2_with fail
  refine (hmul.out (by omega) (by omega) _).mono ?_
  rintro e w2 ⟨rfl, rfl⟩
  rw [hhi', hlo']
  go_wp2_with fail
  refine (hdiv.out _ (by omega) (by omega) (by omega)).mono ?_
  rintro e w3 ⟨rfl, hn⟩
  rw [hq', hr']
  obtain ⟨r0', r1', hb2⟩ : w3.cell? ⟨w.heap.size + 1, k * 2, none⟩ = some (.int .i64 ((k : Int) + 1)) ∧ w3.cell? ⟨w.heap.size + 1, k * 2 + 1, none⟩ = some (.func (.func f) #[] #[]) ∧ Below w.heap.size w w3 := by
    obtain ⟨n, rfl⟩ := hn
    exact ⟨r0, r1, below_drewN hb' n⟩
  have Hb2 := Lib.hid hb2
  clear hn r0 r1 hb' hb2 hmul hdiv hq' hr' hhi' hlo' b2
  by_cases hr1 : r = 0
  · subst hr1
    have hQ := Lib.hid (quo_rest0 how true q den)
    go_wp2_with fail
    go_quiet (fail)
    go_wp2
    all_goals go_ret2
    all_goals refine ⟨?_, below_drewN Hb2.out _⟩
    all_goals first | exact fin_ok hfin.out hQ.out (by assumption) (by simp [Sc.sgn]) | exact fin_big hfin.out hQ.out (by assumption)
  · have c1 : decide ((0 : Int) < (r : Int)) = true := by rw [decide_eq_true_eq]; omega
    have hr1' : 0 < r := by omega
    clear hr1
    by_cases hq3 : q ≤ 4611686018427387904
    · have c2 : decide ((q : Int) ≤ 4611686018427387904) = true := by rw [decide_eq_true_eq]; omega
      have hq3i : (q : Int) ≤ 4611686018427387904 := by omega
      clear hq3
      cases haw : Sc.away how true q r den
      · have hwf : wayF ((k : Int) + 1) true q (cmpF r ((den : Int) - r)) = false := by rw [← hk.out, wayF_away, haw]
        have hQ := Lib.hid (quo_stay haw)
        clear haw
        go_wp2_with fail
        refine wp_region_quiet_lit (by kernel_rfl) (by kernel_rfl) ?_
        repeat (go_big_quiet_step (fail))
        go_big_quiet_want
        go_big_quiet_op
        go_big_quiet_call ((refine (compare_any _ _ _).mono ?_; exact fun _ _ h => ⟨h.1, _, h.2.symm⟩))
        go_big_quiet_want
        go_big_quiet_op
        go_big_quiet_call ((refine (hf.out _ _ _ _ (by omega)).mono ?_; exact fun _ _ h => ⟨h.1, _, h.2.symm⟩))
        repeat (go_big_quiet_step (fail))
        refine wpQuiet_nil ?_
        intro w4 hw4
        obtain ⟨nq, rfl⟩ := hw4
        have c4 : decide (4611686018427387904 < (q : Int)) = false := by rw [decide_eq_false_iff_not]; omega
        clear hk5 hd hr1' hmf hcf hlt
        go_wp2
        go_ret2
        refine ⟨?_, below_drewN Hb2.out _⟩
        exact fin_ok hfin.out hQ.out (by omega) (by simp [Sc.sgn])
      · have hwf : wayF ((k : Int) + 1) true q (cmpF r ((den : Int) - r)) = true := by rw [← hk.out, wayF_away, haw]
        have hQ := Lib.hid (quo_up hr1' haw)
        clear haw
        go_wp2_with fail
        refine wp_region_quiet_lit (by kernel_rfl) (by kernel_rfl) ?_
        repeat (go_big_quiet_step (fail))
        go_big_quiet_want
        go_big_quiet_op
        go_big_quiet_call ((refine (compare_any _ _ _).mono ?_; exact fun _ _ h => ⟨h.1, _, h.2.symm⟩))
        go_big_quiet_want
        go_big_quiet_op
        go_big_quiet_call ((refine (hf.out _ _ _ _ (by omega)).mono ?_; exact fun _ _ h => ⟨h.1, _, h.2.symm⟩))
        repeat (go_big_quiet_step (fail))
        refine wpQuiet_nil ?_
        intro w4 hw4
        obtain ⟨nq, rfl⟩ := hw4
        by_cases hq4 : (q : Int) = 4611686018427387904
        · have c4 : decide (4611686018427387904 < (q : Int) + 1) = true := by rw [decide_eq_true_eq]; omega
          have Hq4 := Lib.hid hq4
          clear hk5 hd hr1' hmf hcf hlt hq4
          go_wp2
          go_ret2
          refine ⟨?_, below_drewN Hb2.out _⟩
          exact fin_big hfin.out hQ.out (by have := Hq4.out; omega)
        · have c4 : decide (4611686018427387904 < (q : Int) + 1) = false := by rw [decide_eq_false_iff_not]; omega
          have hq5 : (q : Int) ≤ 4611686018427387903 := by omega
          clear hk5 hd hr1' hmf hcf hlt hq4 hq3i
          go_wp2
          go_ret2
          refine ⟨?_, below_drewN Hb2.out _⟩
          exact fin_ok hfin.out hQ.out (by omega) (by simp [Sc.sgn]; try omega)
    · have c2 : decide ((q : Int) ≤ 4611686018427387904) = false := by rw [decide_eq_false_iff_not]; omega
      have hq3i : 4611686018427387904 < (q : Int) := by omega
      clear hq3
      go_wp2_with fail
      go_quiet (fail)
      go_wp2
      go_ret2
      refine ⟨?_, below_drewN Hb2.out _⟩
      cases haw : Sc.away how true q r den
      · exact fin_big hfin.out (quo_stay haw) hq3i
      · exact fin_big hfin.out (quo_up hr1' haw) (by omega)
set_option maxHeartbeats 2000000 in
set_option maxRecDepth 100000 in
/-- the product's quotient fits one word -/
theorem scale_pos (how : Int) (num den hi lo q r k A : Nat) (w : World) (hk : Hid (how = (k : Int) + 1)) (hk5 : k < 5) (hd : 1 ≤ den) (hD : (den : Int) ≤ 9223372036854775807) (hM : (num : Int) ≤ 9223372036854775807)
    
    (hhi' : ((A * num / 18446744073709551616 : Nat) : Int) = hi) (hlo' : ((A * num % 18446744073709551616 : Nat) : Int) = lo) (hlt : (hi : Int) < den)
    (hq' : (((hi * 18446744073709551616 + lo) / den : Nat) : Int) = q) (hr' : (((hi * 18446744073709551616 + lo) % den : Nat) : Int) = r) (hr0 : (r : Int) < den) (_hlo2 : (lo : Int) ≤ 18446744073709551615) (hq2 : (q : Int) ≤ 18446744073709551615) (hA : (A : Int) ≤ 9223372036854775807)
    (hfin : Hid (Sc.sc A num den how = if 4611686018427387904 < Sc.quo how false q r den then (0, 9) else (Sc.sgn false (Sc.quo how false q r den), 0))) :
    Calls Try.prog 30 #[.int .i64 A, .int .i64 num, .int .i64 den, .int .i64 how] w fun e w' => e = scRet (Sc.sc A num den how) ∧ Below w.heap.size w w' := by
  have hw : wayAt how = (k : Int) := by have := hk.out; unfold wayAt; rw [if_pos (by omega)]; omega
  have hmf : ∀ (fn : Fn) (first cap : Array Value) (w : World), (Instr.makeFunc fn first cap).run Try.prog w = .ok (.func fn first cap) w := fun _ _ _ _ => rfl
  have b5 : decide ((A : Int) < 0) = false := by rw [decide_eq_false_iff_not]; omega
  have b1 : decide ((den : Int) ≤ 0) = false := by rw [decide_eq_false_iff_not]; omega
  have b2 : decide ((den : Int) ≤ hi) = false := by rw [decide_eq_false_iff_not]; omega
  have hmul := Lib.hid (Go.Proofs.Try.bits_Mul64 A num)
  have hdiv := Lib.hid (div64_any hi lo den)
  obtain ⟨f, g0, g1, hcf, hf'⟩ := way_any k hk5
  have hf := Lib.hid hf'
  clear hf'
  unfold fnv at g1
  go_enter Try.func30, Try.ntmps30
  go_wp2_with fail
  refine (ways_any _).mono ?_
  rintro e w1 ⟨rfl, rfl⟩
  go_wp2_with fail
  refine (index_any _ _ how _ (hasRow_new w _) (how_new w how _) (by simp) (by simp; omega)).mono ?_
  rintro e w1 ⟨rfl, hb⟩
  rw [hw]
  have hrow := (hasRow_new w (.cells #[.int .i64 how] 3)).at hb (by simp)
  have hb' := (below_two w _ _).trans (hb.mono (by simp; omega))
  have hk5i : (k : Int) < 5 := by omega
  have r0 := hrow (k * 2) (by omega)
  have r1 := hrow (k * 2 + 1) (by omega)
  rw [g0] at r0; rw [g1] at r1
  clear hb hw hrow g0 g1
  go_wp2_with fail
  refine (hmul.out (by omega) (by omega) _).mono ?_
  rintro e w2 ⟨rfl, rfl⟩
  rw [hhi', hlo']
  go_wp2_with fail
  refine (hdiv.out _ (by omega) (by omega) (by omega)).mono ?_
  rintro e w3 ⟨rfl, hn⟩
  rw [hq', hr']
  obtain ⟨r0', r1', hb2⟩ : w3.cell? ⟨w.heap.size + 1, k * 2, none⟩ = some (.int .i64 ((k : Int) + 1)) ∧ w3.cell? ⟨w.heap.size + 1, k * 2 + 1, none⟩ = some (.func (.func f) #[] #[]) ∧ Below w.heap.size w w3 := by
    obtain ⟨n, rfl⟩ := hn
    exact ⟨r0, r1, below_drewN hb' n⟩
  have Hb2 := Lib.hid hb2
  clear hn r0 r1 hb' hb2 hmul hdiv hq' hr' hhi' hlo' b2
  by_cases hr1 : r = 0
  · subst hr1
    have hQ := Lib.hid (quo_rest0 how false q den)
    go_wp2_with fail
    go_quiet (fail)
    go_wp2
    all_goals go_ret2
    all_goals refine ⟨?_, below_drewN Hb2.out _⟩
    all_goals first | exact fin_ok hfin.out hQ.out (by assumption) (by simp [Sc.sgn]) | exact fin_big hfin.out hQ.out (by assumption)
  · have c1 : decide ((0 : Int) < (r : Int)) = true := by rw [decide_eq_true_eq]; omega
    have hr1' : 0 < r := by omega
    clear hr1
    by_cases hq3 : q ≤ 4611686018427387904
    · have c2 : decide ((q : Int) ≤ 4611686018427387904) = true := by rw [decide_eq_true_eq]; omega
      have hq3i : (q : Int) ≤ 4611686018427387904 := by omega
      clear hq3
      cases haw : Sc.away how false q r den
      · have hwf : wayF ((k : Int) + 1) false q (cmpF r ((den : Int) - r)) = false := by rw [← hk.out, wayF_away, haw]
        have hQ := Lib.hid (quo_stay haw)
        clear haw
        go_wp2_with fail
        refine wp_region_quiet_lit (by kernel_rfl) (by kernel_rfl) ?_
        repeat (go_big_quiet_step (fail))
        go_big_quiet_want
        go_big_quiet_op
        go_big_quiet_call ((refine (compare_any _ _ _).mono ?_; exact fun _ _ h => ⟨h.1, _, h.2.symm⟩))
        go_big_quiet_want
        go_big_quiet_op
        go_big_quiet_call ((refine (hf.out _ _ _ _ (by omega)).mono ?_; exact fun _ _ h => ⟨h.1, _, h.2.symm⟩))
        repeat (go_big_quiet_step (fail))
        refine wpQuiet_nil ?_
        intro w4 hw4
        obtain ⟨nq, rfl⟩ := hw4
        have c4 : decide (4611686018427387904 < (q : Int)) = false := by rw [decide_eq_false_iff_not]; omega
        clear hk5 hd hr1' hmf hcf hlt
        go_wp2
        go_ret2
        refine ⟨?_, below_drewN Hb2.out _⟩
        exact fin_ok hfin.out hQ.out (by omega) (by simp [Sc.sgn])
      · have hwf : wayF ((k : Int) + 1) false q (cmpF r ((den : Int) - r)) = true := by rw [← hk.out, wayF_away, haw]
        have hQ := Lib.hid (quo_up hr1' haw)
        clear haw
        go_wp2_with fail
        refine wp_region_quiet_lit (by kernel_rfl) (by kernel_rfl) ?_
        repeat (go_big_quiet_step (fail))
        go_big_quiet_want
        go_big_quiet_op
        go_big_quiet_call ((refine (compare_any _ _ _).mono ?_; exact fun _ _ h => ⟨h.1, _, h.2.symm⟩))
        go_big_quiet_want
        go_big_quiet_op
        go_big_quiet_call ((refine (hf.out _ _ _ _ (by omega)).mono ?_; exact fun _ _ h => ⟨h.1, _, h.2.symm⟩))
        repeat (go_big_quiet_step (fail))
        refine wpQuiet_nil ?_
        intro w4 hw4
        obtain ⟨nq, rfl⟩ := hw4
        by_cases hq4 : (q : Int) = 4611686018427387904
        · have c4 : decide (4611686018427387904 < (q : Int) + 1) = true := by rw [decide_eq_true_eq]; omega
          have Hq4 := Lib.hid hq4
          clear hk5 hd hr1' hmf hcf hlt hq4
          go_wp2
          go_ret2
          refine ⟨?_, below_drewN Hb2.out _⟩
          exact fin_big hfin.out hQ.out (by have := Hq4.out; omega)
        · have c4 : decide (4611686018427387904 < (q : Int) + 1) = false := by rw [decide_eq_false_iff_not]; omega
          have hq5 : (q : Int) ≤ 4611686018427387903 := by omega
          clear hk5 hd hr1' hmf hcf hlt hq4 hq3i
          go_wp2
          go_ret2
          refine ⟨?_, below_drewN Hb2.out _⟩
          exact fin_ok hfin.out hQ.out (by omega) (by simp [Sc.sgn]; try omega)
    · have c2 : decide ((q : Int) ≤ 4611686018427387904) = false := by rw [decide_eq_false_iff_not]; omega
      have hq3i : 4611686018427387904 < (q : Int) := by omega
      clear hq3
      go_wp2_with fail
      go_quiet (fail)
      go_wp2
      go_ret2
      refine ⟨?_, below_drewN Hb2.out _⟩
      cases haw : Sc.away how false q r den
      · exact fin_big hfin.out (quo_stay haw) hq3i
      · exact fin_big hfin.out (quo_up hr1' haw) (by omega)
theorem scale_high_neg (a how : Int) (num den hi k A : Nat) (w : World) (hk : Hid (how = (k : Int) + 1)) (hk5 : k < 5) (hd : 1 ≤ den) (hD : (den : Int) ≤ 9223372036854775807) (hM : (num : Int) ≤ 9223372036854775807)
    (hs : a < 0) (hneg : IntKind.u64.wrap (-IntKind.u64.wrap a) = (A : Int)) (hA : (A : Int) ≤ 9223372036854775808)
    (hhi' : ((A * num / 18446744073709551616 : Nat) : Int) = hi) (hle : (den : Int) ≤ hi) :
    Calls Try.prog 30 #[.int .i64 a, .int .i64 num, .int .i64 den, .int .i64 how] w fun e w' => e = scRet (0, 9) ∧ Below w.heap.size w w' := by
  have hw : wayAt how = (k : Int) := by have := hk.out; unfold wayAt; rw [if_pos (by omega)]; omega
  have hmf : ∀ (fn : Fn) (first cap : Array Value) (w : World), (Instr.makeFunc fn first cap).run Try.prog w = .ok (.func fn first cap) w := fun _ _ _ _ => rfl
  have b1 : decide ((den : Int) ≤ 0) = false := by rw [decide_eq_false_iff_not]; omega
  have b2 : decide ((den : Int) ≤ hi) = true := by rw [decide_eq_true_eq]; omega
  have hmul := Lib.hid (Go.Proofs.Try.bits_Mul64 A num)
  go_enter Try.func30, Try.ntmps30
  go_wp2_with fail
  refine (ways_any _).mono ?_
  rintro e w1 ⟨rfl, rfl⟩
  go_wp2_with fail
  refine (index_any _ _ how _ (hasRow_new w _) (how_new w how _) (by simp) (by simp; omega)).mono ?_
  rintro e w1 ⟨rfl, hb⟩
  rw [hw]
  have hb' := (below_two w _ _).trans (hb.mono (by simp; omega))
  have hk5i : (k : Int) < 5 := by omega
  clear hb hw
  go_wp2_with fail
  refine (hmul.out (by omega) (by omega) _).mono ?_
  rintro e w2 ⟨rfl, rfl⟩
  rw [hhi']
  go_wp2
  go_ret2
  exact ⟨rfl, hb'⟩
theorem scale_high_pos (how : Int) (num den hi k A : Nat) (w : World) (hk : Hid (how = (k : Int) + 1)) (hk5 : k < 5) (hd : 1 ≤ den) (hD : (den : Int) ≤ 9223372036854775807) (hM : (num : Int) ≤ 9223372036854775807)
    (hA : (A : Int) ≤ 9223372036854775807)
    (hhi' : ((A * num / 18446744073709551616 : Nat) : Int) = hi) (hle : (den : Int) ≤ hi) :
    Calls Try.prog 30 #[.int .i64 A, .int .i64 num, .int .i64 den, .int .i64 how] w fun e w' => e = scRet (0, 9) ∧ Below w.heap.size w w' := by
  have hw : wayAt how = (k : Int) := by have := hk.out; unfold wayAt; rw [if_pos (by omega)]; omega
  have hmf : ∀ (fn : Fn) (first cap : Array Value) (w : World), (Instr.makeFunc fn first cap).run Try.prog w = .ok (.func fn first cap) w := fun _ _ _ _ => rfl
  have b5 : decide ((A : Int) < 0) = false := by rw [decide_eq_false_iff_not]; omega
  have b1 : decide ((den : Int) ≤ 0) = false := by rw [decide_eq_false_iff_not]; omega
  have b2 : decide ((den : Int) ≤ hi) = true := by rw [decide_eq_true_eq]; omega
  have hmul := Lib.hid (Go.Proofs.Try.bits_Mul64 A num)
  go_enter Try.func30, Try.ntmps30
  go_wp2_with fail
  refine (ways_any _).mono ?_
  rintro e w1 ⟨rfl, rfl⟩
  go_wp2_with fail
  refine (index_any _ _ how _ (hasRow_new w _) (how_new w how _) (by simp) (by simp; omega)).mono ?_
  rintro e w1 ⟨rfl, hb⟩
  rw [hw]
  have hb' := (below_two w _ _).trans (hb.mono (by simp; omega))
  have hk5i : (k : Int) < 5 := by omega
  clear hb hw
  go_wp2_with fail
  refine (hmul.out (by omega) (by omega) _).mono ?_
  rintro e w2 ⟨rfl, rfl⟩
  rw [hhi']
  go_wp2
  go_ret2
  exact ⟨rfl, hb'⟩
/-- the program's Scale -/
theorem scale_any (a num den how : Int) (w : World) (ha1 : -9223372036854775808 ≤ a) (ha2 : a ≤ 9223372036854775807) (hn : num ≤ 9223372036854775807) (hd : den ≤ 9223372036854775807) :
    Calls Try.prog 30 #[.int .i64 a, .int .i64 num, .int .i64 den, .int .i64 how] w fun e w' => e = scRet (Sc.sc a num den how) ∧ Below w.heap.size w w' := by
  by_cases h1 : how < 1 ∨ 5 < how
  · rw [Sc.sc_kind _ _ _ _ h1]; exact scale_kind a num den how w h1
  by_cases h2 : den ≤ 0 ∨ num < 0
  · rw [Sc.sc_arg _ _ _ _ (by omega) (by omega) h2]; exact scale_arg a num den how w (by omega) (by omega) h2
  obtain ⟨num, rfl⟩ := Int.eq_ofNat_of_zero_le (show 0 ≤ num by omega)
  obtain ⟨den, rfl⟩ := Int.eq_ofNat_of_zero_le (show 0 ≤ den by omega)
  obtain ⟨k, hk⟩ : ∃ k : Nat, how = (k : Int) + 1 := ⟨(how - 1).toNat, by omega⟩
  have hk5 : k < 5 := by omega
  obtain ⟨N, hN⟩ : ∃ N, N = a.natAbs * num := ⟨_, rfl⟩
  have hN2 : N ≤ 9223372036854775808 * 9223372036854775807 := by rw [hN]; exact Nat.mul_le_mul (by omega) (by omega)
  by_cases h3 : den ≤ a.natAbs * num / 18446744073709551616
  · rw [Sc.sc_high a how num den (by omega) (by omega) (by omega) h3]
    by_cases h4 : a < 0
    · exact scale_high_neg a how num den _ k a.natAbs w (Lib.hid hk) hk5 (by omega) hd hn h4 (neg_wrap h4 ha1) (by omega) rfl (by omega)
    · obtain ⟨A, rfl⟩ := Int.eq_ofNat_of_zero_le (show 0 ≤ a by omega)
      rw [Int.natAbs_natCast] at h3
      exact scale_high_pos how num den _ k A w (Lib.hid hk) hk5 (by omega) hd hn ha2 rfl (by omega)
  · have hfin := Sc.sc_of a how num den (by omega) (by omega) (by omega) (by omega)
    rw [← hN] at hfin h3
    have hr := Nat.mod_lt N (show 0 < den by omega)
    have hq : N / den < 18446744073709551616 := by
      rw [Nat.div_lt_iff_lt_mul (by omega)]
      omega
    have hlo := Nat.mod_lt N (show 0 < 18446744073709551616 by omega)
    by_cases h4 : a < 0
    · rw [show decide (a < 0) = true by simpa using h4] at hfin
      refine scale_neg a how num den (N / 18446744073709551616) (N % 18446744073709551616) (N / den) (N % den) k a.natAbs w (Lib.hid hk) hk5 (by omega) hd hn h4 ha1 (neg_wrap h4 ha1) (by rw [← hN]) (by rw [← hN]) (by omega) (by rw [word_split]) (by rw [word_split]) (by omega) (by omega) (by omega) (by omega) (Lib.hid hfin)
    · obtain ⟨A, rfl⟩ := Int.eq_ofNat_of_zero_le (show 0 ≤ a by omega)
      rw [show decide ((A : Int) < 0) = false by rw [decide_eq_false_iff_not]; exact h4] at hfin
      rw [Int.natAbs_natCast] at hN
      refine scale_pos how num den (N / 18446744073709551616) (N % 18446744073709551616) (N / den) (N % den) k A w (Lib.hid hk) hk5 (by omega) hd hn (by rw [← hN]) (by rw [← hN]) (by omega) (by rw [word_split]) (by rw [word_split]) (by omega) (by omega) (by omega) (by omega) (Lib.hid hfin)
theorem div_any (a den how : Int) (w : World) (ha1 : -9223372036854775808 ≤ a) (ha2 : a ≤ 9223372036854775807) (hd : den ≤ 9223372036854775807) :
    Calls Try.prog 15 #[.int .i64 a, .int .i64 den, .int .i64 how] w fun e w' => e = scRet (Sc.sc a 1 den how) ∧ Below w.heap.size w w' := by
  have h := Lib.hid (scale_any a 1 den how w ha1 ha2 (by omega) hd)
  go_enter Try.func15, Try.ntmps15
  go_wp2_with fail
  refine h.out.mono ?_
  rintro e w1 ⟨rfl, hb⟩
  unfold scRet
  go_wp2
  go_ret2
  exact ⟨rfl, hb⟩
end Go.Proofs.Ytkejjlghelnfjaa

/- Rows of samples that are one are equal; what the law tells besides. -/
namespace Go.Proofs.Ytkejjlghelnfjaa
open Go.RowKit Go.BigFrame

set_option maxHeartbeats 1000000 in
theorem eqSm_self (p : Sm) (w : World) : (Op.equalIn 10000 37 (.agg #[.int .i64 p.tm, .int .i64 p.x, .int .i64 p.y, .int .i64 p.z, .int .i64 p.pu, .int .i64 p.po, .int .i64 p.st]) (.agg #[.int .i64 p.tm, .int .i64 p.x, .int .i64 p.y, .int .i64 p.z, .int .i64 p.pu, .int .i64 p.po, .int .i64 p.st])).run Try.prog w = .ok true w := by
  have u3 := Try.underlying3
  have a3 := Try.isAgg3
  have z3 := Try.sizeOf3
  have hS : Try.prog.underlying 37 = some (.struct (Try.prog.fieldsOf 37)) := by kernel_rfl
  have hp : Try.prog.stoodInHeld 37 = false := by kernel_rfl
  obtain ⟨a, b, c, d, e, f, g⟩ := p
  simp only
  rw [show (10000 : Nat) = 9999 + 1 from rfl, run_equalIn_agg w 9999 37 _ _ hS hp]
  simp only [Program.fieldsOf, Try.underlying37]
  have h1 : (a == a) = true := by simp
  have h2 : (b == b) = true := by simp
  have h3 : (c == c) = true := by simp
  have h4 : (d == d) = true := by simp
  have h5 : (e == e) = true := by simp
  have h6 : (f == f) = true := by simp
  have h7 : (g == g) = true := by simp
  go_simp
set_option maxHeartbeats 4000000 in
set_option maxRecDepth 100000 in
theorem equalSm_self (l : List Sm) (a b : Option Addr) (c d : Nat) (w : World) (hr : Rw smC 7 w a l) (hq : Rw smC 7 w b l) (hl : l.length ≤ 1000000) :
    Calls Try.prog 8 #[.slice a l.length c, .slice b l.length d] w fun e w' => e = .returned (.bool true) ∧ ∃ q, w' = w.drewN q := by
  have HR := Lib.hid hr
  have HQ := Lib.hid hq
  have HLT := Lib.hid (fun (i : Nat) (h : i < l.length) => show ∃ x, l[i]? = some x from ⟨_, List.getElem?_eq_getElem h⟩)
  obtain ⟨nl, hnl⟩ : ∃ n, l.length = n := ⟨_, rfl⟩
  rw [hnl] at hl HLT ⊢
  have hneq : ((nl : Int) != (nl : Int)) = false := by simp
  clear hr hq hnl
  go_enter Try.func8, Try.ntmps8
  go_wp2_with fail
  go_loopw [13] (fun iv wr => ∃ (k : Nat), iv = .int .i64 k ∧ k ≤ nl ∧ (∃ q, wr = w.drewN q)) (fun iv _ => nl - (intOf iv).toNat)
  case atStart => exact ⟨0, rfl, by omega, ⟨0, rfl⟩⟩
  case round =>
    obtain ⟨k, rfl, hk, ⟨q, rfl⟩⟩ := hrel
    by_cases hlt : k < nl
    · have t1 : decide ((k : Int) < (nl : Int)) = true := by rw [decide_eq_true_eq]; omega
      have t1' : decide (k < nl) = true := by simpa using hlt
      obtain ⟨x, hx⟩ := HLT.out k hlt
      obtain ⟨b1, o1, rfl, hb1, e⟩ := HR.out.at hx
      obtain ⟨b2, o2, rfl, hb2, f⟩ := HQ.out.at hx
      have e0 : w.cell? ⟨b1, o1 + k * 7, none⟩ = some (.int .i64 x.tm) := e 0 _ rfl
      have e1 : w.cell? ⟨b1, o1 + k * 7 + 1, none⟩ = some (.int .i64 x.x) := e 1 _ rfl
      have e2 : w.cell? ⟨b1, o1 + k * 7 + 2, none⟩ = some (.int .i64 x.y) := e 2 _ rfl
      have e3 : w.cell? ⟨b1, o1 + k * 7 + 3, none⟩ = some (.int .i64 x.z) := e 3 _ rfl
      have e4 : w.cell? ⟨b1, o1 + k * 7 + 4, none⟩ = some (.int .i64 x.pu) := e 4 _ rfl
      have e5 : w.cell? ⟨b1, o1 + k * 7 + 5, none⟩ = some (.int .i64 x.po) := e 5 _ rfl
      have e6 : w.cell? ⟨b1, o1 + k * 7 + 6, none⟩ = some (.int .i64 x.st) := e 6 _ rfl
      have f0 : w.cell? ⟨b2, o2 + k * 7, none⟩ = some (.int .i64 x.tm) := f 0 _ rfl
      have f1 : w.cell? ⟨b2, o2 + k * 7 + 1, none⟩ = some (.int .i64 x.x) := f 1 _ rfl
      have f2 : w.cell? ⟨b2, o2 + k * 7 + 2, none⟩ = some (.int .i64 x.y) := f 2 _ rfl
      have f3 : w.cell? ⟨b2, o2 + k * 7 + 3, none⟩ = some (.int .i64 x.z) := f 3 _ rfl
      have f4 : w.cell? ⟨b2, o2 + k * 7 + 4, none⟩ = some (.int .i64 x.pu) := f 4 _ rfl
      have f5 : w.cell? ⟨b2, o2 + k * 7 + 5, none⟩ = some (.int .i64 x.po) := f 5 _ rfl
      have f6 : w.cell? ⟨b2, o2 + k * 7 + 6, none⟩ = some (.int .i64 x.st) := f 6 _ rfl
      have hgd : Try.prog.eqGuardType Try.prog.depth 37 = false := by kernel_rfl
      have hq := fun W => eqSm_self x W
      clear hx e f
      go_wp2_with fail
      go_quiet (fail)
      go_wp2_with fail
      go_roundw
      case rel => exact ⟨k + 1, by go_num, by omega, ⟨_, rfl⟩⟩
      case measure => simp [intOf]; omega
    · have t1 : decide ((k : Int) < (nl : Int)) = false := by rw [decide_eq_false_iff_not]; omega
      have t1' : decide (k < nl) = false := by simpa using hlt
      go_wp2_with fail
      go_ret
      exact ⟨rfl, _, rfl⟩
theorem hTold_any (w : World) : Calls Try.prog 5 #[] w fun e w' => e = .returned (.bool true) ∧ Below w.heap.size w w' := by
  have D1 := Lib.hid (show Calls Try.prog 15 #[.int .i64 (-7), .int .i64 2, .int .i64 5] w fun e w' => e = .returned (.tuple #[.int .i64 (-4), .int .i64 0]) ∧ Below w.heap.size w w' from by
    have h := div_any (-7) 2 5 w (by decide) (by decide) (by decide)
    have e : scRet (Sc.sc (-7) 1 2 5) = .returned (.tuple #[.int .i64 (-4), .int .i64 0]) := by kernel_rfl
    rw [e] at h
    exact h)
  have e1 : nameB ⟨#[97, 46, 66, 45, 49]⟩ = true := by kernel_rfl
  have e2 : nameB ⟨#[]⟩ = false := by kernel_rfl
  have D2 := Lib.hid (fun W => isName_any ⟨#[97, 46, 66, 45, 49]⟩ W (by decide))
  have D3 := Lib.hid (fun W => isName_any ⟨#[]⟩ W (by decide))
  rw [e1] at D2
  rw [e2] at D3
  clear e1 e2
  go_enter Try.func5, Try.ntmps5
  go_wp2_with fail
  refine (D1.out).mono ?_
  rintro e w1 ⟨rfl, hb1⟩
  have HB1 := Lib.hid hb1
  clear hb1
  go_wp2_with fail
  refine (D2.out _).mono ?_
  rintro e w2 ⟨rfl, rfl⟩
  go_wp2_with fail
  refine (D3.out _).mono ?_
  rintro e w3 ⟨rfl, rfl⟩
  go_wp2_with fail
  go_ret
  exact ⟨rfl, HB1.out⟩
end Go.Proofs.Ytkejjlghelnfjaa

/- Samples divided among two recordings, as the law does it; numbers appended to own rows. -/
namespace Go.Proofs.Ytkejjlghelnfjaa
open Go.RowKit Go.BigFrame
open Tr (inR)

theorem iEl : El iC 1 := ⟨fun _ => rfl, by decide, fun x v hv => by
  simp only [iC, List.mem_cons, List.not_mem_nil, or_false] at hv
  subst hv
  rfl⟩
def bC (x : Bool) : List Value := [.bool x]
/-- the first k samples, divided -/
structure Divd (k : Nat) (ks1 ks2 : List Nat) : Prop where
  inc1 : ks1.Pairwise (fun a b => a < b)
  inc2 : ks2.Pairwise (fun a b => a < b)
  zero : ks1[0]? = some 0
  lt1 : ∀ x, x ∈ ks1 → x < k ∨ x = 0
  lt2 : ∀ x, x ∈ ks2 → x < k
  all : ∀ i, i < k → i ∈ ks1 ∨ i ∈ ks2
  dis : ∀ i, i ∈ ks1 → i ∉ ks2
  n1 : ks1.length ≤ k ∨ k = 0
  n2 : ks2.length ≤ k
theorem divd_start : Divd 0 [0] [] := ⟨by simp, by simp, rfl, by simp, by simp, by omega, by simp, by simp, by simp⟩
theorem divd_one {a b : List Nat} (h : Divd 0 a b) (h1 : a = [0]) (h2 : b = []) : Divd 1 a b := by
  subst h1 h2
  exact ⟨by simp, by simp, rfl, by simp, by simp, fun i hi => Or.inl (by simp; omega), by simp, by simp, by simp⟩
theorem Divd.left {k : Nat} {a b : List Nat} (h : Divd k a b) (h0 : 0 < k) : Divd (k + 1) (a ++ [k]) b := by
  have hl : ∀ x, x ∈ a → x < k := fun x hx => by rcases h.lt1 x hx with g | g <;> omega
  refine ⟨?_, h.inc2, ?_, ?_, fun x hx => by have := h.lt2 x hx; omega, ?_, ?_, ?_, by have := h.n2; omega⟩
  · rw [List.pairwise_append]
    exact ⟨h.inc1, by simp, fun x hx y hy => by simp only [List.mem_singleton] at hy; subst hy; exact hl x hx⟩
  · have h0 := (List.getElem?_eq_some_iff.1 h.zero).1
    rw [List.getElem?_append_left h0]
    exact h.zero
  · intro x hx
    rcases List.mem_append.1 hx with hx | hx
    · exact Or.inl (by have := hl x hx; omega)
    · simp only [List.mem_singleton] at hx
      exact Or.inl (by omega)
  · intro i hi
    by_cases e : i = k
    · exact Or.inl (List.mem_append.2 (Or.inr (by simp [e])))
    · rcases h.all i (by omega) with g | g
      · exact Or.inl (List.mem_append.2 (Or.inl g))
      · exact Or.inr g
  · intro i hi hb
    rcases List.mem_append.1 hi with hi | hi
    · exact h.dis i hi hb
    · simp only [List.mem_singleton] at hi
      have := h.lt2 i hb
      omega
  · have := h.n1
    simp
    omega
theorem Divd.right {k : Nat} {a b : List Nat} (h : Divd k a b) (h0 : 0 < k) : Divd (k + 1) a (b ++ [k]) := by
  have hl : ∀ x, x ∈ a → x < k := fun x hx => by rcases h.lt1 x hx with g | g <;> omega
  refine ⟨h.inc1, ?_, h.zero, fun x hx => by have := h.lt1 x hx; omega, ?_, ?_, ?_, by have := h.n1; omega, ?_⟩
  · rw [List.pairwise_append]
    exact ⟨h.inc2, by simp, fun x hx y hy => by simp only [List.mem_singleton] at hy; subst hy; exact h.lt2 x hx⟩
  · intro x hx
    rcases List.mem_append.1 hx with hx | hx
    · have := h.lt2 x hx; omega
    · simp only [List.mem_singleton] at hx
      omega
  · intro i hi
    by_cases e : i = k
    · exact Or.inr (List.mem_append.2 (Or.inr (by simp [e])))
    · rcases h.all i (by omega) with g | g
      · exact Or.inl g
      · exact Or.inr (List.mem_append.2 (Or.inl g))
  · intro i hi hb
    rcases List.mem_append.1 hb with hb | hb
    · exact h.dis i hi hb
    · simp only [List.mem_singleton] at hb
      have := hl i hi
      omega
  · have := h.n2
    simp
    omega
theorem Divd.halves {n : Nat} {a b : List Nat} (h : Divd n a b) (h0 : 0 < n) : Halves n a b :=
  ⟨h.inc1, h.inc2, h.zero, fun x hx => by rcases h.lt1 x hx with g | g <;> omega, h.lt2, h.all, h.dis⟩
theorem adj_of {l : List Nat} (h : l.Pairwise (fun a b => a < b)) : ∀ (i p q : Nat), l[i]? = some p → l[i + 1]? = some q → p < q := by
  intro i p q hp hq
  obtain ⟨h1, rfl⟩ := List.getElem?_eq_some_iff.1 hp
  obtain ⟨h2, rfl⟩ := List.getElem?_eq_some_iff.1 hq
  exact (List.pairwise_iff_getElem.1 h) i (i + 1) h1 h2 (by omega)
/-- one number appended -/
theorem append_I {ops : Array Oper} {rest : List Oper} {o : Oper} {a : Act} {Q : Exit → Act → World → Prop} {w : World} (hgd : o.guard = none) (s x : Operand)
    (ho : o.op = .call { callee := .builtin .append, args := #[s, x], argTypes := #[31, 31] }) {base : Nat} {v : Value} {l : List Int} (hs : a.eval s = v) (hown : Own iC 1 3 w base v l)
    {g : Nat} {p : Int} (hx : a.eval x = .slice (some ⟨g, 0, none⟩) 1 1) (h0 : w.cell? ⟨g, 0, none⟩ = some (.int .i64 p)) (hn : l.length ≤ 1000000) (hb : base ≤ w.heap.size)
    (h : ∀ g' c' w', Own iC 1 3 w' base (.slice (some ⟨g', 0, none⟩) (l.length + 1) c') (l ++ [p]) → w.grownBy w' v.ownBlock → (v.ownBlock = some g' ∨ g' = w.heap.size) → wpList Try.prog ops Q rest (a.put o.dst (.slice (some ⟨g', 0, none⟩) (l.length + 1) c')) w') : wpList Try.prog ops Q (o :: rest) a w := by
  obtain ⟨i0, hi0, hy0, hy1, hy2⟩ := info_parts (show (Try.prog.info? 3).map (fun i => (i.zero, i.size, i.bytes)) = some (some (.int .i64 0), 1, 8) by kernel_rfl)
  refine wpList_append_lies w hgd s x 31 ho base 3 i0 (.int .i64 0) 1 8 Try.underlying31 hi0 hy0 hy1 hy2 rfl (by decide) v l.length (l.flatMap iC) hs hown ⟨g, 0, none⟩ 1 1 (iC p) hx rfl (fun j u hu => ?_) (fun u hu => ?_) (by decide) (by unfold maxLen; omega) (by omega) hb _ rfl ?_
  · rw [addr_plus, Nat.zero_add]
    match j, hu with
    | 0, hu => exact h0.trans hu
    | n + 1, hu => cases hu
  · simp only [iC, List.mem_cons, List.not_mem_nil, or_false] at hu
    subst hu
    rfl
  · intro g' c' w' k1 k2 k3 _
    refine h g' c' w' ?_ k2 k3
    unfold Own
    rw [List.length_append, List.flatMap_append, show ([p].flatMap iC) = iC p from List.append_nil _]
    exact k1
/-- two own rows of numbers, apart -/
structure TwoI (w : World) (base : Nat) (v1 v2 : Value) (a b : List Nat) : Prop where
  o1 : Own iC 1 3 w base v1 (a.map Int.ofNat)
  o2 : Own iC 1 3 w base v2 (b.map Int.ofNat)
  apart : ∀ g, v1.ownBlock = some g → v2.ownBlock = some g → False
theorem TwoI.below {w w' : World} {base : Nat} {v1 v2 : Value} {a b : List Nat} (h : TwoI w base v1 v2 a b) (hb : Below w.heap.size w w') : TwoI w' base v1 v2 a b :=
  ⟨h.o1.below hb, h.o2.below hb, h.apart⟩
theorem TwoI.left {w w' : World} {base : Nat} {v1 v2 v' : Value} {a b : List Nat} {k : Nat} (h : TwoI w base v1 v2 a b) {g' n c' : Nat} (hv : v' = .slice (some ⟨g', 0, none⟩) n c') (ho : Own iC 1 3 w' base v' (a.map Int.ofNat ++ [(k : Int)])) (hg : w.grownBy w' v1.ownBlock) (hor : v1.ownBlock = some g' ∨ g' = w.heap.size) : TwoI w' base v' v2 (a ++ [k]) b := by
  refine ⟨?_, World.ownsRow.kept h.o2 hg ?_, ?_⟩
  · rw [List.map_append]
    exact ho
  · cases e : v2.ownBlock with
    | none => exact Or.inl rfl
    | some q => exact Or.inr (fun e2 => h.apart q e2.symm e)
  · intro g e1 e2
    rw [hv] at e1
    injection e1 with e1
    replace e1 : g' = g := e1
    subst e1
    rcases hor with e3 | e3
    · exact h.apart _ e3 e2
    · have := (h.o2.lt _ e2).2
      omega
theorem TwoI.right {w w' : World} {base : Nat} {v1 v2 v' : Value} {a b : List Nat} {k : Nat} (h : TwoI w base v1 v2 a b) {g' n c' : Nat} (hv : v' = .slice (some ⟨g', 0, none⟩) n c') (ho : Own iC 1 3 w' base v' (b.map Int.ofNat ++ [(k : Int)])) (hg : w.grownBy w' v2.ownBlock) (hor : v2.ownBlock = some g' ∨ g' = w.heap.size) : TwoI w' base v1 v' a (b ++ [k]) := by
  refine ⟨World.ownsRow.kept h.o1 hg ?_, ?_, ?_⟩
  · cases e : v1.ownBlock with
    | none => exact Or.inl rfl
    | some q => exact Or.inr (fun e2 => h.apart q e e2.symm)
  · rw [List.map_append]
    exact ho
  · intro g e1 e2
    rw [hv] at e2
    injection e2 with e2
    replace e2 : g' = g := e2
    subst e2
    rcases hor with e3 | e3
    · exact h.apart _ e1 e3
    · have := (h.o1.lt _ e1).2
      omega
theorem grown_ext {w w' : World} {base : Nat} {v : Value} {l : List Int} (h : Own iC 1 3 w base v l) (hg : w.grownBy w' v.ownBlock) : Kept (fun b => base ≤ b) w w' := Kept.of_grown hg (fun g e _ => (h.lt g e).1)
theorem ActRet.gen {Z : Acv} {w w' : World} {e : Ending} (h : ActRet Z w e w') : Below w.heap.size w w' ∧ ∃ (nm : ByteArray) (sp st : Int) (a b c : Option Addr) (na nb nc ca cb cc : Nat), e = .returned (.tuple #[.agg #[.string nm, .int .i64 sp, .int .i64 st, .slice a na ca, .slice b nb cb, .slice c nc cc], .int .i64 (chkA Z)]) := by
  obtain ⟨hb, er, her, h⟩ := h
  refine ⟨hb, ?_⟩
  rcases h with ⟨_, rfl⟩ | ⟨rfl, a, b, c, ca, cb, cc, rfl, _⟩
  · exact ⟨_, _, _, _, _, _, _, _, _, _, _, _, by rw [her]; rfl⟩
  · exact ⟨_, _, _, _, _, _, _, _, _, _, _, _, by rw [her]; rfl⟩
theorem ActRet.ok {Z : Acv} {w w' : World} {e : Ending} (h : ActRet Z w e w') (h0 : chkA Z = 0) : Below w.heap.size w w' ∧ ∃ a b c ca cb cc, e = .returned (.tuple #[.agg #[.string Z.name, .int .i64 Z.sport, .int .i64 Z.start, .slice a Z.sm.length ca, .slice b Z.lp.length cb, .slice c Z.tg.length cc], .int .i64 0]) ∧ ActIn w' Z a b c := by
  obtain ⟨hb, er, her, h⟩ := h
  refine ⟨hb, ?_⟩
  rcases h with ⟨h1, _⟩ | ⟨rfl, a, b, c, ca, cb, cc, rfl, h2, _⟩
  · omega
  · exact ⟨a, b, c, ca, cb, cc, rfl, h2⟩
theorem ActIn.later {Z : Acv} {a b c : Option Addr} {w : World} (h : ActIn w Z a b c) (d : Int) : ActIn w (later Z d) a b c :=
  ⟨h.sm, h.lp, h.tg, h.name, h.titles, h.tags, h.nsm, h.nlp, h.ntg⟩
end Go.Proofs.Ytkejjlghelnfjaa
