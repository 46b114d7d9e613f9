/- Several texts of this claim in one. -/
import Derived.Test.YtlffdahbnhdnjaaHb4
import Derived.Test.YtlffdahbnhdnjaaHb3
import Derived.Test.YtlffdahbnhdnjaaHb2
import Derived.Test.YtlffdahbnhdnjaaRows
import Derived.ProofKit
import Derived.OpenShut
import Derived.Lib.SmallJoins
import Derived.Carry
import Derived.ChangeMaps5
/- trail.Merge of two right activities of one sport. -/
namespace Go.Proofs.Ytlffdahbnhdnjaa
open Go.RowKit Go.BigFrame
open Tr (inR)

def mgF (A B : Acv) (shift : Int) : Int → Option Sm := mapA A (mapB B shift B.sm) A.sm
structure MgIs (A B : Acv) (shift : Int) (L : List Sm) (T : List ByteArray) : Prop where
  sorted : L.Pairwise (fun x y => x.tm < y.tm)
  mem : ∀ s, s ∈ L ↔ ∃ u, mgF A B shift s.tm = some u ∧ s = { u with tm := s.tm }
  tsorted : T.Pairwise (fun x y => bL x < bL y)
  tmem : ∀ x, x ∈ T ↔ x ∈ A.tg ∨ x ∈ B.tg
def mgSt (A : Acv) (L : List Sm) : Int := match L[0]? with
  | some s => s.tm
  | none => A.start
def addL (d : Int) (p : Lp) : Lp := ⟨p.f + d, p.t + d, p.s⟩
def mgZ (A : Acv) (L : List Sm) (T : List ByteArray) : Acv := ⟨A.name, A.sport, mgSt A L, L.map (backS (mgSt A L)), A.lp.map (addL (A.start - mgSt A L)), T⟩
def MergeRet (A B : Acv) (shift : Int) (w : World) (e : Ending) (w' : World) : Prop :=
  ∃ L T, MgIs A B shift L T ∧ (((20000 < L.length ∨ 20 < T.length) ∧ e = .returned (.tuple #[ac0, .int .i64 3]) ∧ Below w.heap.size w w') ∨ (¬ (20000 < L.length ∨ 20 < T.length) ∧ ActRet (mgZ A L T) w e w'))
theorem mapB_some {B : Acv} {shift : Int} : ∀ (l : List Sm) (f0 : Int → Option Sm) (j : Int) (u : Sm), l.foldl (fun f s => putS f (B.start + s.tm - shift) s) f0 j = some u → (∃ s, s ∈ l ∧ j = B.start + s.tm - shift) ∨ f0 j = some u
  | [], _, _, _, h => Or.inr h
  | s :: l, f0, j, u, h => by
    rcases mapB_some l _ j u h with ⟨t, ht, e⟩ | h
    · exact Or.inl ⟨t, List.mem_cons_of_mem _ ht, e⟩
    · replace h : (if j = B.start + s.tm - shift then some s else f0 j) = some u := h
      split at h
      · rename_i e
        exact Or.inl ⟨s, List.mem_cons_self, e⟩
      · exact Or.inr h
theorem mapA_some {A : Acv} : ∀ (l : List Sm) (f0 : Int → Option Sm) (j : Int) (u : Sm), l.foldl (stepA A) f0 j = some u → (∃ s, s ∈ l ∧ j = A.start + s.tm) ∨ f0 j = some u
  | [], _, _, _, h => Or.inr h
  | s :: l, f0, j, u, h => by
    rcases mapA_some l _ j u h with ⟨t, ht, e⟩ | h
    · exact Or.inl ⟨t, List.mem_cons_of_mem _ ht, e⟩
    · unfold stepA putS at h
      split at h
      · rename_i e
        exact Or.inl ⟨s, List.mem_cons_self, e⟩
      · exact Or.inr h
theorem mgF_key {A B : Acv} {shift j : Int} {u : Sm} (h : mgF A B shift j = some u) : (∃ s, s ∈ A.sm ∧ j = A.start + s.tm) ∨ ∃ s, s ∈ B.sm ∧ j = B.start + s.tm - shift := by
  unfold mgF mapA mapB at h
  rcases mapA_some _ _ _ _ h with h | h
  · exact Or.inl h
  · rcases mapB_some _ _ _ _ h with h | h
    · exact Or.inr h
    · cases h
theorem mgF_range {A B : Acv} {shift j : Int} {u : Sm} (oA : AcOk A) (oB : AcOk B) (h0 : -86399999999 ≤ shift) (h1 : shift ≤ 86399999999) (h : mgF A B shift j = some u) : -86399999999 ≤ j ∧ j ≤ 172800000000 := by
  have r : ∀ {Z : Acv} {s : Sm}, AcOk Z → s ∈ Z.sm → 0 ≤ s.tm ∧ Z.start + s.tm ≤ 86399999999 := fun {Z s} o hs => by
    obtain ⟨i, hi, rfl⟩ := List.getElem_of_mem hs
    exact ⟨o.sm.nonneg (List.getElem?_eq_getElem hi), (o.sm.upto i _ (List.getElem?_eq_getElem hi)).2.1⟩
  rcases mgF_key h with ⟨s, hs, rfl⟩ | ⟨s, hs, rfl⟩
  · have := r oA hs
    have := oA.start
    omega
  · have := r oB hs
    have := oB.start
    omega
theorem map_upto {α : Type} (f : α → α) (l : List α) (k : Nat) (x : α) (hx : l[k]? = some x) : ((l.take k).map f ++ l.drop k).set k (f x) = (l.take (k + 1)).map f ++ l.drop (k + 1) := by
  obtain ⟨hk, e⟩ := List.getElem?_eq_some_iff.1 hx
  have hl : ((l.take k).map f).length = k := by rw [List.length_map, List.length_take]; omega
  rw [List.set_append_right _ _ (by rw [hl]; exact Nat.le_refl _), hl, Nat.sub_self, List.drop_eq_getElem_cons hk, List.set_cons_zero, List.take_add_one, hx, List.map_append, List.append_assoc]
  rfl
theorem at_upto {α : Type} (f : α → α) (l : List α) (k : Nat) (x : α) (hx : l[k]? = some x) : ((l.take k).map f ++ l.drop k)[k]? = some x := by
  obtain ⟨hk, e⟩ := List.getElem?_eq_some_iff.1 hx
  have hl : ((l.take k).map f).length = k := by rw [List.length_map, List.length_take]; omega
  rw [List.getElem?_append_right (by rw [hl]; exact Nat.le_refl _), hl, Nat.sub_self, List.getElem?_drop]
  exact hx
theorem len_upto {α : Type} (f : α → α) (l : List α) (k : Nat) (hk : k ≤ l.length) : ((l.take k).map f ++ l.drop k).length = l.length := by
  rw [List.length_append, List.length_map, List.length_take, List.length_drop]
  omega
/-- blocks of texts -/
def OT (w : World) (q : Nat) : Prop := ∃ cs fz, w.heap[q]? = some (.cells cs 9 fz)
theorem Own.typed {α : Type} {C : α → List Value} {k : Nat} {e : TypeId} {w : World} {base : Nat} {v : Value} {l : List α} (h : Own C k e w base v l) {b : Nat} (hb : v.ownBlock = some b) : ∃ cs fz, w.heap[b]? = some (.cells cs e fz) := by
  rcases h.2 with ⟨h0, _⟩ | ⟨g, cap, cur, hv, _, hg, _⟩
  · rw [h0] at hb
    cases hb
  · rw [hv] at hb
    injection hb with hb
    subst hb
    exact ⟨_, _, hg⟩
theorem Own.notText {α : Type} {C : α → List Value} {k : Nat} {e : TypeId} {w : World} {base : Nat} {v : Value} {l : List α} (h : Own C k e w base v l) (he : e ≠ 9) {b : Nat} (hb : v.ownBlock = some b) : ¬ OT w b := by
  rintro ⟨cs, fz, h2⟩
  obtain ⟨cs', fz', h1⟩ := h.typed hb
  rw [h1] at h2
  injection h2 with h2
  injection h2 with _ h2 _
  exact he h2
theorem AcB.notText {w : World} {g : Nat} {nm : ByteArray} {sp st : Int} {vs vl vt : Value} (h : AcB w g nm sp st vs vl vt) : ¬ OT w g := by
  rintro ⟨cs, fz, h2⟩
  unfold AcB at h
  rw [h] at h2
  injection h2 with h2
  injection h2 with _ h2 _
  revert h2
  decide
theorem AcB.ne {w : World} {g : Nat} {nm : ByteArray} {sp st : Int} {vs vl vt : Value} (h : AcB w g nm sp st vs vl vt) {base : Nat} {v : Value} {l : List ByteArray} (ho : Own tgC 1 9 w base v l) : ∀ b, v.ownBlock = some b → b ≠ g := fun b hb e => by
  subst e
  exact h.notText (ho.typed hb)
/-- a row of texts of one's own is written -/
theorem Kept.text {O : Nat → Prop} {W w w' : World} {base : Nat} {v : Value} {l : List ByteArray} (hk : Kept O W w) (ho : Own tgC 1 9 w base v l) (hO : ∀ q, base ≤ q → OT W q → O q) (hg : w.grownBy w' v.ownBlock) : Kept O W w' :=
  hk.grown hg (fun g e hlt => Classical.byContradiction fun hn => by
    obtain ⟨cs, fz, h1⟩ := ho.typed e
    rw [hk.block g hlt hn] at h1
    exact hn (hO g (ho.lt g e).1 ⟨cs, fz, h1⟩))
theorem AcB.ne' {w : World} {g : Nat} {nm : ByteArray} {sp st : Int} {vs vl vt : Value} (h : AcB w g nm sp st vs vl vt) {α : Type} {C : α → List Value} {k : Nat} {e : TypeId} {base : Nat} {v : Value} {l : List α} (ho : Own C k e w base v l) (he : e ≠ 26) : ∀ b, v.ownBlock = some b → b ≠ g := fun b hb hbg => by
  subst hbg
  obtain ⟨cs', fz', h1⟩ := ho.typed hb
  unfold AcB at h
  rw [h] at h1
  injection h1 with h1
  injection h1 with _ h1 _
  exact he h1.symm
set_option maxHeartbeats 100000000 in
set_option maxRecDepth 100000 in
theorem mergeOk_any (A B : Acv) (a b c a' b' c' : Option Addr) (ca cb cc ca' cb' cc' : Nat) (shift : Int) (w : World) (hA : ActIn w A a b c) (hB : ActIn w B a' b' c') (oA : AcOk A) (oB : AcOk B) (hsp : A.sport = B.sport) (h0 : -86399999999 ≤ shift) (h1 : shift ≤ 86399999999) :
    Calls Try.prog 4 #[actV A a b c ca cb cc, actV B a' b' c' ca' cb' cc', .int .i64 shift] w fun e w' => MergeRet A B shift w e w' := by
  have hmm := @run_makeMap Try.prog
  obtain ⟨V0, hV0, hb0, hs0, ha0⟩ := alloc_ac w A.name A.sport A.start (.slice a A.sm.length ca) (.slice b A.lp.length cb) (.slice c A.tg.length cc)
  obtain ⟨V1, hV1, hb1, hs1, ha1⟩ := alloc_ac V0 B.name B.sport B.start (.slice a' B.sm.length ca') (.slice b' B.lp.length cb') (.slice c' B.tg.length cc')
  obtain ⟨V2, hV2, hb2, hs2, ha2⟩ := alloc_ac V1 ⟨#[]⟩ 0 0 (.slice none 0 0) (.slice none 0 0) (.slice none 0 0)
  rw [hs0] at ha1
  rw [hs1, hs0] at ha2
  have hs11 : V1.heap.size = w.heap.size + 1 + 1 := by rw [hs1, hs0]
  have hA0 := (ha0.below hb1).below hb2
  have hA1 := ha1.below hb2
  have HB := Lib.hid (below_step (below_step hb0 hb1) hb2)
  have HIA := Lib.hid (hA.below HB.out)
  have HIB := Lib.hid (hB.below HB.out)
  have HOA := Lib.hid oA
  have HOB := Lib.hid oB
  have HSZ := Lib.hid (show V2.heap.size = w.heap.size + 3 from by rw [hs2, hs1, hs0])
  have HA0 := Lib.hid hA0
  have HA1 := Lib.hid hA1
  have HA2 := Lib.hid ha2
  have hspb : (A.sport != B.sport) = false := by rw [hsp]; simp
  have HIR := Lib.hid (show inR shift (-86399999999) 86399999999 = true from inR_iff.2 ⟨h0, h1⟩)
  have DIN := Lib.hid (fun n lo hi W => tin_any n lo hi W)
  have DA := Lib.hid (fun X : Ext V2 => show Calls Try.prog 10 #[.agg #[.string A.name, .int .i64 A.sport, .int .i64 A.start, .slice a A.sm.length ca, .slice b A.lp.length cb, .slice c A.tg.length cc]] X.1 fun e w'' => e = .returned (.int .i64 0) ∧ ∃ Y : Ext V2, w'' = Y.1 from by
    have h := check_any A a b c ca cb cc X.1 (HIA.out.below X.2)
    unfold ChkG actV at h
    rw [chkA_zero.2 HOA.out] at h
    exact X.calls h)
  have DB := Lib.hid (fun X : Ext V2 => show Calls Try.prog 10 #[.agg #[.string B.name, .int .i64 B.sport, .int .i64 B.start, .slice a' B.sm.length ca', .slice b' B.lp.length cb', .slice c' B.tg.length cc']] X.1 fun e w'' => e = .returned (.int .i64 0) ∧ ∃ Y : Ext V2, w'' = Y.1 from by
    have h := check_any B a' b' c' ca' cb' cc' X.1 (HIB.out.below X.2)
    unfold ChkG actV at h
    rw [chkA_zero.2 HOB.out] at h
    exact X.calls h)
  obtain ⟨z0, z1, z2, z3, z4, z5⟩ := hA0.cell
  have A0 := Ext.ex z0
  have A1 := Ext.ex z1
  have A2 := Ext.ex z2
  have A3 := Ext.ex z3
  have A4 := Ext.ex z4
  have A5 := Ext.ex z5
  obtain ⟨y0, y1, y2, y3, y4, y5⟩ := hA1.cell
  have B0 := Ext.ex y0
  have B1 := Ext.ex y1
  have B2 := Ext.ex y2
  have B3 := Ext.ex y3
  have B4 := Ext.ex y4
  have B5 := Ext.ex y5
  have HV := Lib.hid (And.intro hV0 (And.intro hV1 hV2))
  clear hA hB oA oB hb0 hb1 hb2 ha0 ha1 ha2 hA0 hA1 hs1 hs2 hsp z0 z1 z2 z3 z4 z5 y0 y1 y2 y3 y4 y5
  unfold actV
  go_enter Try.func4, Try.ntmps4
  go_upto_region 1 with (fail)
  clear hV0 hV1 hV2
  refine ext_wp (W := V2) fun X => ?_
  refine held_start (C := fun w' => ∃ Z : Ext V2, w' = Z.1) (by kernel_rfl) ?_
  obtain ⟨Z0, hZ0⟩ : ∃ Z : Ext V2, ({ X.1 with drawn := X.1.drawn + 1 } : World) = Z.1 := ⟨⟨{ X.1 with drawn := X.1.drawn + 1 }, below_step X.2 ⟨rfl, rfl, rfl, Nat.le_refl _, fun _ _ => rfl⟩⟩, rfl⟩
  rw [hZ0]
  clear hZ0
  refine held_quiet (by kernel_rfl) (fun _ _ d _ _ h => by cases d <;> exact h) ⟨Z0, rfl⟩ [0, 2] 5 _ _ (by kernel_rfl) ?_
  change wpQuiet _ _ _ _ (_ :: _ :: []) _
  repeat go_big_quiet_step (fail)
  refine wpQuiet_nil ?_
  refine held_do (i := 1) _ rfl (by kernel_rfl) rfl (fun K hK => ?_)
  go_simp
  refine (DA.out Z0).mono ?_
  rintro e w1 ⟨rfl, Z1, rfl⟩
  refine hK _ _ ⟨Z1, rfl⟩ ?_
  clear hK K
  try simp only [Act.put, List.setIfInBounds_toArray, List.set_cons_zero, List.set_cons_succ]
  refine held_do (i := 3) _ rfl (by kernel_rfl) rfl (fun K hK => ?_)
  go_simp
  refine (DB.out Z1).mono ?_
  rintro e w1 ⟨rfl, Z2, rfl⟩
  refine hK _ _ ⟨Z2, rfl⟩ ?_
  clear hK K
  try simp only [Act.put, List.setIfInBounds_toArray, List.set_cons_zero, List.set_cons_succ]
  refine held_do (i := 4) _ rfl (by kernel_rfl) rfl (fun K hK => ?_)
  go_simp
  obtain ⟨Wb, hWb, hwb1, hwb2, hwq⟩ := alloc_cells Z2.1 #[.int .i64 0, .int .i64 0] 27
  rw [hWb]
  obtain ⟨Z3, rfl⟩ : ∃ Z : Ext V2, Wb = Z.1 := ⟨⟨Wb, below_step Z2.2 hwb1⟩, rfl⟩
  have DO := Lib.hid (orE_any [0, 0] Z2.1.heap.size 2 Z3.1 (by simp) (fun i v hv => hwq i _ (by
    match i, hv with
    | 0, h => injection h with h; subst h; rfl
    | 1, h => injection h with h; subst h; rfl
    | n + 2, h => simp at h)))
  rw [show orL [0, 0] = 0 from rfl] at DO
  refine hK _ _ ⟨Z3, rfl⟩ ?_
  clear hK K hWb hwb1 hwb2 hwq
  try simp only [Act.put, List.setIfInBounds_toArray, List.set_cons_zero, List.set_cons_succ]
  refine held_do (i := 5) _ rfl (by kernel_rfl) rfl (fun K hK => ?_)
  go_simp
  refine DO.out.mono ?_
  rintro e w1 ⟨rfl, rfl⟩
  refine hK _ _ ⟨Z3, rfl⟩ ?_
  clear hK K DO
  try simp only [Act.put, List.setIfInBounds_toArray, List.set_cons_zero, List.set_cons_succ]
  refine held_quiet (by kernel_rfl) (fun _ _ d _ _ h => by cases d <;> exact h) ⟨Z3, rfl⟩ [6] 0 _ _ (by kernel_rfl) ?_
  change wpQuiet _ _ _ _ (_ :: []) _
  repeat go_big_quiet_step (fail)
  refine wpQuiet_nil ?_
  refine wpAnyH_done (by kernel_rfl) ?_ _
  clear DA DB X Z0 Z1
  go_wp2_with fail
  refine (DIN.out _ _ _ _).mono ?_
  rintro e _ ⟨rfl, rfl⟩
  rw [HIR.out]
  obtain ⟨V3, hV3⟩ : ∃ V, Z3.1.alloc (.map #[] 0) = V := ⟨_, rfl⟩
  have HM3 := Lib.hid (show SMap V3 Z3.1.heap.size 0 (fun _ => none) from hV3 ▸ SMap.made Z3.1)
  have HB3 := Lib.hid (show Below V2.heap.size V2 V3 from below_step Z3.2 (hV3 ▸ below_al Z3.1 _))
  have c3 := B3 ⟨V3, HB3.out⟩
  go_wp2_with fail
  obtain ⟨MB, hMB⟩ : ∃ q, Z3.1.heap.size = q := ⟨_, rfl⟩
  rw [hMB] at HM3 ⊢
  have HMB := Lib.hid (show V2.heap.size ≤ MB ∧ MB < V3.heap.size from ⟨by rw [← hMB]; exact Z3.2.size, HM3.out.lt⟩)
  have HC := Lib.hid (fun (X : ExtO (fun q => q = MB) V3) (p : Addr) (v : Value) (hp : p.block < V2.heap.size) (h : V2.cell? p = some v) => show X.1.cell? p = some v from X.2.cell (by have := HMB.out; omega) (below_cell HB3.out h))
  clear c3 hV3 hMB
  go_loopw [48] (fun iv wr => ∃ k : Nat, iv = .int .i64 k ∧ k ≤ B.sm.length ∧ ∃ X : ExtO (fun q => q = MB) V3, wr = X.1 ∧ Hid (SMap X.1 MB k (mapB B shift (B.sm.take k)))) (fun iv _ => B.sm.length - (intOf iv).toNat)
  case atStart => exact ⟨0, rfl, by omega, ⟨V3, Kept.refl _ _⟩, rfl, Lib.hid HM3.out⟩
  case round =>
    obtain ⟨k, rfl, hk, X, rfl, HM⟩ := hrel
    by_cases hlt : k < B.sm.length
    · have t2 : decide ((k : Int) < (B.sm.length : Int)) = true := by rw [decide_eq_true_eq]; omega
      have t2' : decide (k < B.sm.length) = true := by simpa using hlt
      obtain ⟨x, hx⟩ : ∃ x, B.sm[k]? = some x := ⟨_, List.getElem?_eq_getElem hlt⟩
      have HSN := Lib.hid (mapB_snoc (B := B) (shift := shift) hx)
      have x0 := HOB.out.sm.nonneg hx
      have x1 := (HOB.out.sm.upto k x hx).1
      obtain ⟨s0, s1⟩ := HOB.out.start
      have hnb := HOB.out.nsm
      obtain ⟨b3, o3, rfl, hb3, hd⟩ := HIB.out.sm.at hx
      have e0 := HC.out X ⟨b3, o3 + k * 7, none⟩ (.int .i64 x.tm) hb3 (hd 0 _ rfl)
      have e1 := HC.out X ⟨b3, o3 + k * 7 + 1, none⟩ (.int .i64 x.x) hb3 (hd 1 _ rfl)
      have e2 := HC.out X ⟨b3, o3 + k * 7 + 2, none⟩ (.int .i64 x.y) hb3 (hd 2 _ rfl)
      have e3 := HC.out X ⟨b3, o3 + k * 7 + 3, none⟩ (.int .i64 x.z) hb3 (hd 3 _ rfl)
      have e4 := HC.out X ⟨b3, o3 + k * 7 + 4, none⟩ (.int .i64 x.pu) hb3 (hd 4 _ rfl)
      have e5 := HC.out X ⟨b3, o3 + k * 7 + 5, none⟩ (.int .i64 x.po) hb3 (hd 5 _ rfl)
      have e6 := HC.out X ⟨b3, o3 + k * 7 + 6, none⟩ (.int .i64 x.st) hb3 (hd 6 _ rfl)
      have j2 := HC.out X ⟨w.heap.size + 1, 2, none⟩ _ HA1.out.lt HA1.out.cell.2.2.1
      obtain ⟨V6, hV6, hb6, hs6, ha6⟩ := alloc_sm X.1 x
      have i2 := below_cell hb6 j2
      obtain ⟨q0, q1, q2, q3, q4, q5, q6⟩ := ha6.cell
      have w1 : IntKind.i64.wrap (B.start + x.tm) = B.start + x.tm := tm_wrap (by omega) (by omega)
      have w2 : IntKind.i64.wrap (B.start + x.tm - shift) = B.start + x.tm - shift := tm_wrap (by omega) (by omega)
      obtain ⟨w8, k2, m8, g8⟩ := (HM.out.below hb6).put (j := B.start + x.tm - shift) (tm_wf (by omega) (by omega)) (by unfold maxLen; omega) x
      replace k2 : (Instr.mapUpdate 42 (.map (some MB)) (.int .i64 (B.start + x.tm - shift)) (.agg #[.int .i64 x.tm, .int .i64 x.x, .int .i64 x.y, .int .i64 x.z, .int .i64 x.pu, .int .i64 x.po, .int .i64 x.st])).run Try.prog V6 = .ok () w8 := k2
      have HM8 := Lib.hid m8
      have HK8 := Lib.hid ((X.2.trans (Kept.of_below hb6)).trans (Kept.of_grown (O := fun q => q = MB) g8 (fun g e _ => by injection e with e; exact e.symm)))
      clear hx hd hb3 hb6 hs6 ha6 m8 g8 HM x0 x1 s0 s1
      go_wp2_with fail
      go_roundw
      case rel => exact ⟨k + 1, by go_num, by omega, ⟨w8, HK8.out⟩, rfl, Lib.hid (by rw [HSN.out]; exact HM8.out)⟩
      case measure => simp [intOf]; omega
    · have t2 : decide ((k : Int) < (B.sm.length : Int)) = false := by rw [decide_eq_false_iff_not]; omega
      have t2' : decide (k < B.sm.length) = false := by simpa using hlt
      obtain rfl : k = B.sm.length := by omega
      obtain ⟨F0, hF0⟩ : ∃ F, mapB B shift B.sm = F := ⟨_, rfl⟩
      have HF0 := Lib.hid hF0
      have HMX := HM.out
      rw [List.take_length, hF0] at HMX
      have j3 := HC.out X ⟨w.heap.size, 3, none⟩ _ HA0.out.lt HA0.out.cell.2.2.2.1
      clear hlt hk hF0 HM
      go_wp2_with fail
      clear j3
      go_loopw [65] (fun iv wr => ∃ k : Nat, iv = .int .i64 k ∧ k ≤ A.sm.length ∧ ∃ X : ExtO (fun q => q = MB) V3, wr = X.1 ∧ Hid (SMap X.1 MB (B.sm.length + k) (mapA A F0 (A.sm.take k)))) (fun iv _ => A.sm.length - (intOf iv).toNat)
      case atStart => exact ⟨0, rfl, by omega, X, rfl, Lib.hid HMX⟩
      case round =>
        clear HMX X
        obtain ⟨k, rfl, hk, X, rfl, HM⟩ := hrel
        by_cases hlt : k < A.sm.length
        · have t3 : decide ((k : Int) < (A.sm.length : Int)) = true := by rw [decide_eq_true_eq]; omega
          have t3' : decide (k < A.sm.length) = true := by simpa using hlt
          obtain ⟨x, hx⟩ : ∃ x, A.sm[k]? = some x := ⟨_, List.getElem?_eq_getElem hlt⟩
          obtain ⟨F1, hF1⟩ : ∃ F, mapA A F0 (A.sm.take k) = F := ⟨_, rfl⟩
          have HSN := Lib.hid (show mapA A F0 (A.sm.take (k + 1)) = stepA A F1 x by rw [mapA_snoc hx, hF1])
          have hM := HM.out
          rw [hF1] at hM
          have x0 := HOA.out.sm.nonneg hx
          have x1 := (HOA.out.sm.upto k x hx).1
          obtain ⟨s0, s1⟩ := HOA.out.start
          have hna := HOA.out.nsm
          have hnb := HOB.out.nsm
          obtain ⟨b3, o3, rfl, hb3, hd⟩ := HIA.out.sm.at hx
          have e0 := HC.out X ⟨b3, o3 + k * 7, none⟩ (.int .i64 x.tm) hb3 (hd 0 _ rfl)
          have e1 := HC.out X ⟨b3, o3 + k * 7 + 1, none⟩ (.int .i64 x.x) hb3 (hd 1 _ rfl)
          have e2 := HC.out X ⟨b3, o3 + k * 7 + 2, none⟩ (.int .i64 x.y) hb3 (hd 2 _ rfl)
          have e3 := HC.out X ⟨b3, o3 + k * 7 + 3, none⟩ (.int .i64 x.z) hb3 (hd 3 _ rfl)
          have e4 := HC.out X ⟨b3, o3 + k * 7 + 4, none⟩ (.int .i64 x.pu) hb3 (hd 4 _ rfl)
          have e5 := HC.out X ⟨b3, o3 + k * 7 + 5, none⟩ (.int .i64 x.po) hb3 (hd 5 _ rfl)
          have e6 := HC.out X ⟨b3, o3 + k * 7 + 6, none⟩ (.int .i64 x.st) hb3 (hd 6 _ rfl)
          have j2 := HC.out X ⟨w.heap.size, 2, none⟩ _ HA0.out.lt HA0.out.cell.2.2.1
          obtain ⟨V6, hV6, hb6, hs6, ha6⟩ := alloc_sm X.1 x
          have i2 := below_cell hb6 j2
          obtain ⟨q0, q1, q2, q3, q4, q5, q6⟩ := ha6.cell
          have w1 : IntKind.i64.wrap (A.start + x.tm) = A.start + x.tm := tm_wrap (by omega) (by omega)
          have hkwf : (Lit.int .i64 (A.start + x.tm)).wf = true := tm_wf (by omega) (by omega)
          have hlk := (hM.below hb6).look hkwf
          obtain ⟨st, hst⟩ : ∃ s, (F1 (A.start + x.tm)).getD sm0 = s := ⟨_, rfl⟩
          obtain ⟨bl, hbl⟩ : ∃ s, (F1 (A.start + x.tm)).isSome = s := ⟨_, rfl⟩
          rw [hst, hbl] at hlk
          replace hlk : (Instr.lookup 42 (.map (some MB)) (.int .i64 (A.start + x.tm)) true).run Try.prog V6 = .ok (.tuple #[.agg #[.int .i64 st.tm, .int .i64 st.x, .int .i64 st.y, .int .i64 st.z, .int .i64 st.pu, .int .i64 st.po, .int .i64 st.st], .bool bl]) V6 := hlk
          obtain ⟨V7, hV7, hb7, hs7, ha7⟩ := alloc_sm V6 st
          have i3 := below_cell hb7 i2
          have hc6 := ha6.below hb7
          obtain ⟨r0, r1, r2, r3, r4, r5, r6⟩ := hc6.cell
          obtain ⟨u0, u1, u2, u3, u4, u5, u6⟩ := ha7.cell
          have HMM := Lib.hid ((hM.below hb6).below hb7)
          have HK7 := Lib.hid ((X.2.trans (Kept.of_below hb6)).trans (Kept.of_below hb7))
          have HC6 := Lib.hid hc6
          have HKW := Lib.hid hkwf
          have HNN := Lib.hid (show B.sm.length + k < maxLen from by unfold maxLen; omega)
          have HSB := Lib.hid (And.intro hst hbl)
          clear hx hd hb3 hb6 hb7 hs6 ha6 ha7 hc6 hM HM x0 x1 s0 s1 hnb hkwf hF1 hst hbl
          cases bl
          case false =>
            have HST := Lib.hid (show stepA A F1 x = putS F1 (A.start + x.tm) x from by
              unfold stepA
              cases hf : F1 (A.start + x.tm) with
              | none => rfl
              | some t => have := HSB.out.2; rw [hf] at this; cases this)
            obtain ⟨w8, k2, m8, g8⟩ := HMM.out.put (j := A.start + x.tm) HKW.out HNN.out x
            replace k2 : (Instr.mapUpdate 42 (.map (some MB)) (.int .i64 (A.start + x.tm)) (.agg #[.int .i64 x.tm, .int .i64 x.x, .int .i64 x.y, .int .i64 x.z, .int .i64 x.pu, .int .i64 x.po, .int .i64 x.st])).run Try.prog V7 = .ok () w8 := k2
            have HM8 := Lib.hid m8
            have HK8 := Lib.hid (HK7.out.trans (Kept.of_grown (O := fun q => q = MB) g8 (fun g e _ => by injection e with e; exact e.symm)))
            clear m8 g8
            go_wp2_with fail
            go_roundw
            case rel => exact ⟨k + 1, by go_num, by omega, ⟨w8, HK8.out⟩, rfl, Lib.hid (by rw [HSN.out, HST.out]; exact HM8.out)⟩
            case measure => simp [intOf]; omega
          case true =>
            have HST := Lib.hid (show stepA A F1 x = putS F1 (A.start + x.tm) (fillS x st) from by
              unfold stepA
              cases hf : F1 (A.start + x.tm) with
              | none => have := HSB.out.2; rw [hf] at this; cases this
              | some t => have := HSB.out.1; rw [hf] at this; rw [← this]; rfl)
            have hfe : fillS x st = ⟨x.tm, x.x, x.y, x.z, orNeg x.pu st.pu, orNeg x.po st.po, orNeg x.st st.st⟩ := rfl
            have hDF := fun W => filled_any x st W
            obtain ⟨p4, hp4⟩ : ∃ z, orNeg x.pu st.pu = z := ⟨_, rfl⟩
            obtain ⟨p5, hp5⟩ : ∃ z, orNeg x.po st.po = z := ⟨_, rfl⟩
            obtain ⟨p6, hp6⟩ : ∃ z, orNeg x.st st.st = z := ⟨_, rfl⟩
            rw [hp4, hp5, hp6] at hfe
            rw [hfe] at hDF HST
            have DF := Lib.hid (fun W => show Calls Try.prog 12 #[.agg #[.int .i64 x.tm, .int .i64 x.x, .int .i64 x.y, .int .i64 x.z, .int .i64 x.pu, .int .i64 x.po, .int .i64 x.st], .agg #[.int .i64 st.tm, .int .i64 st.x, .int .i64 st.y, .int .i64 st.z, .int .i64 st.pu, .int .i64 st.po, .int .i64 st.st]] W fun e w' => e = .returned (.agg #[.int .i64 x.tm, .int .i64 x.x, .int .i64 x.y, .int .i64 x.z, .int .i64 p4, .int .i64 p5, .int .i64 p6]) ∧ Below W.heap.size W w' from hDF W)
            clear hfe hDF hp4 hp5 hp6
            go_wp2_with fail
            refine (DF.out _).mono ?_
            rintro e W8 ⟨rfl, hb8⟩
            have hc8 := HC6.out.below hb8
            have fr := hc8.free
            obtain ⟨v0, v1, v2, v3, v4, v5, v6⟩ := hc8.cell
            obtain ⟨W9, hW9, hc9, hk9⟩ := hc8.store ⟨x.tm, x.x, x.y, x.z, p4, p5, p6⟩
            obtain ⟨n0, n1, n2, n3, n4, n5, n6⟩ := hc9.cell
            simp only at hW9 n0 n1 n2 n3 n4 n5 n6
            have hbb : Below V7.heap.size V7 W9 ∨ True := Or.inr trivial
            have hk79 : Kept (fun q => q = X.1.heap.size) V7 W9 := (Kept.of_below hb8).trans (hk9 (fun q => q = X.1.heap.size) rfl)
            have hne : ¬ MB = X.1.heap.size := by have := HMB.out; have := X.2.size; omega
            have hne2 : ¬ w.heap.size = X.1.heap.size := by have := HMB.out; have := X.2.size; have := HSZ.out; omega
            have i4 : W9.cell? ⟨w.heap.size, 2, none⟩ = some (.int .i64 A.start) := hk79.cell (p := ⟨w.heap.size, 2, none⟩) hne2 i3
            obtain ⟨w10, k2, m8, g8⟩ := (HMM.out.kept hk79 hne).put (j := A.start + x.tm) HKW.out HNN.out ⟨x.tm, x.x, x.y, x.z, p4, p5, p6⟩
            replace k2 : (Instr.mapUpdate 42 (.map (some MB)) (.int .i64 (A.start + x.tm)) (.agg #[.int .i64 x.tm, .int .i64 x.x, .int .i64 x.y, .int .i64 x.z, .int .i64 p4, .int .i64 p5, .int .i64 p6])).run Try.prog W9 = .ok () w10 := k2
            have HM8 := Lib.hid m8
            have HK8 := Lib.hid (show Kept (fun q => q = MB) V3 w10 from by
              have h1 : Kept (fun q => q = MB) V3 W9 := ⟨hk79.os.trans HK7.out.os, hk79.tape.trans HK7.out.tape, hk79.output.trans HK7.out.output, Nat.le_trans HK7.out.size hk79.size, fun g hg ho => (hk79.block g (Nat.lt_of_lt_of_le hg HK7.out.size) (fun e => by have := X.2.size; omega)).trans (HK7.out.block g hg ho)⟩
              exact h1.trans (Kept.of_grown (O := fun q => q = MB) g8 (fun g e _ => by injection e with e; exact e.symm)))
            clear hb8 hc8 hc9 hk9 hbb hk79 m8 g8
            go_wp2_with fail
            go_roundw
            case rel => exact ⟨k + 1, by go_num, by omega, ⟨w10, HK8.out⟩, rfl, Lib.hid (by rw [HSN.out, HST.out]; exact HM8.out)⟩
            case measure => simp [intOf]; omega
        · have t3 : decide ((k : Int) < (A.sm.length : Int)) = false := by rw [decide_eq_false_iff_not]; omega
          have t3' : decide (k < A.sm.length) = false := by simpa using hlt
          obtain rfl : k = A.sm.length := by omega
          have hFF : mapA A F0 A.sm = mgF A B shift := by unfold mgF; rw [HF0.out]
          have HM3 := HM.out
          rw [List.take_length, hFF] at HM3
          have hna := HOA.out.nsm
          have hnb := HOB.out.nsm
          have hnl := HOA.out.nlp
          have hnt := HOA.out.ntg
          obtain ⟨N, hN⟩ : ∃ N, B.sm.length + A.sm.length = N := ⟨_, rfl⟩
          rw [hN] at HM3
          have HN := Lib.hid (show N ≤ 40000 from by omega)
          have HMX := Lib.hid HM3
          have HINX := Lib.hid (show ActIn X.1 A a b c from by
            have hv : ∀ {α : Type} {C : α → List Value} {m : Nat} {x : Option Addr} {ll : List α}, Rw C m V2 x ll → Rw C m X.1 x ll := fun hr => ⟨fun hl => by
              obtain ⟨bb, off, e, hb, hc⟩ := hr.here hl
              exact ⟨bb, off, e, by have := X.2.size; have := HB3.out.size; omega, fun i x hx j v hv => HC.out X ⟨bb, off + i * _ + j, none⟩ v hb (hc i x hx j v hv)⟩⟩
            exact ⟨hv HIA.out.sm, hv HIA.out.lp, hv HIA.out.tg, HIA.out.name, HIA.out.titles, HIA.out.tags, HIA.out.nsm, HIA.out.nlp, HIA.out.ntg⟩)
          have DC := Lib.hid (cloneA_any A a b c ca cb cc X.1 HINX.out (by omega) (by omega) (by omega))
          unfold actV CloneRet at DC
          obtain ⟨m0, m1, m2, m3, m4, m5⟩ := HA0.out.cell
          have g0 := HC.out X ⟨w.heap.size, 0, none⟩ _ HA0.out.lt m0
          have g1 := HC.out X ⟨w.heap.size, 1, none⟩ _ HA0.out.lt m1
          have g2 := HC.out X ⟨w.heap.size, 2, none⟩ _ HA0.out.lt m2
          have g3 := HC.out X ⟨w.heap.size, 3, none⟩ _ HA0.out.lt m3
          have g4 := HC.out X ⟨w.heap.size, 4, none⟩ _ HA0.out.lt m4
          have g5 := HC.out X ⟨w.heap.size, 5, none⟩ _ HA0.out.lt m5
          clear hlt hk HM HM3 hFF hN m0 m1 m2 m3 m4 m5 HF0
          go_wp2_with fail
          refine (DC.out).mono ?_
          rintro e w1 ⟨⟨a1, b1, c1, ca1, cb1, cc1, rfl, ho3⟩, hb1⟩
          obtain ⟨V4, hV4, hb4, hs4, ha4⟩ := alloc_ac w1 A.name A.sport A.start (.slice a1 A.sm.length ca1) (.slice b1 A.lp.length cb1) (.slice c1 A.tg.length cc1)
          have hA5 := ha4.set3 (.slice none 0 0)
          obtain ⟨W, hW⟩ : ∃ W, V4.setCell ⟨w1.heap.size, 3, none⟩ (.slice none 0 0) = W := ⟨_, rfl⟩
          rw [hW] at hA5
          have i3 := ha4.cell.2.2.2.1
          have fr3 := ha4.free 3
          have HBW := Lib.hid (show Below w1.heap.size w1 W from Kept.below hb4 (by rw [← hW]; exact keep_set (O := fun b => b = w1.heap.size) rfl) hb4.size (fun k hk e => by omega))
          have HB1 := Lib.hid hb1
          have HO3 := Lib.hid ho3
          have HA5 := Lib.hid hA5
          have HMW := Lib.hid ((HMX.out.below hb1).below HBW.out)
          obtain ⟨DM, hown, hat⟩ := HMW.out.ex
          have HDM := Lib.hid (And.intro hown hat)
          have HBO := Lib.hid (show X.1.heap.size ≤ w1.heap.size ∧ w1.heap.size < W.heap.size from ⟨hb1.size, HA5.out.lt⟩)
          clear hA5 ha4 hb4 hs4 hb1 ho3 hown hat g0 g1 g2 g3 g4 g5
          unfold actV
          obtain ⟨r, hr⟩ : ∃ r, W.heap.size = r := ⟨_, rfl⟩
          have HR := Lib.hid hr
          clear hr
          go_wp2_with (at_range; refine wpList_range_own _ rfl _ 42 rfl 3 32 (Maps.int_keyed Try.underlying3) Try.underlying42 smR MB N DM rfl HDM.out.1 ?_; intro w0 hrg0 hgr0 hs0)
          go_frame
          obtain ⟨BO, hBO⟩ : ∃ q, w1.heap.size = q := ⟨_, rfl⟩
          rw [hBO] at HA5 HBO ⊢
          rw [HR.out] at hrg0 hs0 ⊢
          clear i3 fr3 hV4 hW
          have HW0 := Lib.hid (show Below W.heap.size W w0 from (Below.refl _ _).grown hgr0 (Nat.le_refl _) (fun j hj => by cases hj))
          have HS0 := Lib.hid (show w0.heap.size = r + 1 from hs0)
          clear hgr0 hs0
          go_loopw [17] (fun _ wr => ∃ (left : Lit → Bool) (cnt : Nat) (L : List Sm), Hid (wr.ranges Try.prog 3 smR MB r N DM left cnt) ∧ Hid (RgS (mgF A B shift) left L ∧ L.length + cnt ≤ N) ∧ Hid (∃ vs, AcB wr BO A.name A.sport A.start vs (.slice b1 A.lp.length cb1) (.slice c1 A.tg.length cc1) ∧ Own smC 7 32 wr w0.heap.size vs L) ∧ ∃ Y : ExtO (fun q => q = BO) W, wr = Y.1) (fun _ wr => wr.rangeLeft MB r)
          case atStart =>
            refine ⟨Maps.has DM, Maps.size DM, [], Lib.hid hrg0, Lib.hid ⟨RgS.start fun j u hj hu => Maps.has_true_of_atKey ((HDM.out.2 j hj).1 u hu), by have := HDM.out.1.size_le; simpa using this⟩, Lib.hid ⟨_, HA5.out.below HW0.out, Own.nil _ _ _ _ _⟩, ⟨w0, Kept.of_below HW0.out⟩, rfl⟩
          case round =>
            obtain ⟨left, cnt, L, HRG, HRS, HST, Y, rfl⟩ := hrel
            go_wp2_with (at_next; refine wpList_next_ranges _ rfl _ rfl 3 (Maps.int_keyed Try.underlying3) smR (fun x : Int => Value.int .i64 x) smV key_int smR_val MB r N _ _ _ rfl HRG.out ?_ ?_)
            · intro hc0 hl0
              have HMEM := Lib.hid (HRS.out.1.done hl0 (fun j u hj => by have := mgF_range HOA.out HOB.out h0 h1 hj; exact tm_wf (by omega) (by omega)))
              have HND := Lib.hid HRS.out.1.nd
              have HLN := Lib.hid (show L.length ≤ 40000 from by have := HRS.out.2; have := HN.out; omega)
              obtain ⟨vs, hac, hown⟩ := HST.out
              obtain ⟨a2, c2, rfl, -, -, -⟩ := hown.row smEl
              have DSO := Lib.hid (sortSm_any L a2 c2 w0.heap.size Y.1 hown (by have := HLN.out; omega))
              have HAC := Lib.hid hac
              have HOW := Lib.hid hown
              have k3 := hac.cell.2.2.2.1
              clear hac hown HST HRS HRG hl0 hc0
              go_wp2_with fail
              refine (DSO.out).mono ?_
              rintro e U ⟨rfl, ⟨LS, hperm, hsort, hown⟩, hgU⟩
              have hll : LS.length = L.length := hperm.length_eq
              have HLS := Lib.hid (show LS.Pairwise (fun x y => x.tm < y.tm) from by
                have hnd : LS.Pairwise (fun x y => x.tm ≠ y.tm) := (hperm.pairwise_iff (fun {x y} h => Ne.symm h)).2 HND.out
                exact (hsort.and hnd).imp (fun ⟨h1, h2⟩ => by omega))
              have HSM := Lib.hid (fun s => show s ∈ LS ↔ ∃ u, mgF A B shift s.tm = some u ∧ s = { u with tm := s.tm } from (hperm.mem_iff).trans (HMEM.out s))
              have hbo := HBO.out
              have hrr := HR.out
              have hss := HS0.out
              have HOU := Lib.hid hown
              have HAU := Lib.hid (HAC.out.kept (O := fun q => w0.heap.size ≤ q) (Kept.of_grown hgU (fun g e _ => (HOW.out.lt g e).1)) (by omega))
              have HKU := Lib.hid (Y.2.grown hgU (fun g e hlt => by have := (HOW.out.lt g e).1; omega))
              have HLL := Lib.hid hll
              have HLR := Lib.hid (fun (i : Nat) (x : Sm) (hx : LS[i]? = some x) => show (-86399999999 ≤ x.tm ∧ x.tm ≤ 172800000000) from by
                obtain ⟨u, hu, _⟩ := (HSM.out x).1 (List.mem_of_getElem? hx)
                exact mgF_range HOA.out HOB.out h0 h1 hu)
              rw [← hll] at HOU HAU ⊢
              obtain ⟨n, hn⟩ : ∃ n, LS.length = n := ⟨_, rfl⟩
              rw [hn] at HOU HAU ⊢
              have HNN := Lib.hid (show LS.length = n ∧ n ≤ 40000 from ⟨hn, by have := HLN.out; omega⟩)
              clear hperm hsort hown hgU hll k3 hn HAC HOW HND HMEM DSO HLN HLL
              obtain ⟨o0, o1, o2, o3, o4, o5⟩ := HAU.out.cell
              have fo := HAU.out.free
              by_cases hn0 : 0 < n
              case' pos =>
                have t4 : decide ((0 : Int) < (n : Int)) = true := by rw [decide_eq_true_eq]; omega
                have t4' : decide (0 < n) = true := by rw [decide_eq_true_eq]; omega
                obtain ⟨x, hx⟩ : ∃ x, LS[0]? = some x := ⟨_, List.getElem?_eq_getElem (by rw [HNN.out.1]; exact hn0)⟩
                obtain ⟨b3, o3', rfl, hb3, hd⟩ := (HOU.out.rw_ smEl).1.at hx
                have e0 : U.cell? ⟨b3, o3', none⟩ = some (.int .i64 x.tm) := by have := hd 0 _ rfl; simpa using this
                have HST := Lib.hid (show mgSt A LS = x.tm by unfold mgSt; rw [hx])
                have hxr := HLR.out 0 x hx
                obtain ⟨st, hst⟩ : ∃ z, x.tm = z := ⟨_, rfl⟩
                rw [hst] at e0 HST hxr
                have ha4 := HAU.out.set2 st
                obtain ⟨W4, hW4⟩ : ∃ z, U.setCell ⟨BO, 2, none⟩ (.int .i64 st) = z := ⟨_, rfl⟩
                rw [hW4] at ha4
                have hk4 : Kept (fun q => q = BO) U W4 := by rw [← hW4]; exact keep_set (O := fun q => q = BO) rfl
                have HOW4 := Lib.hid (HOU.out.keepO hk4 (fun b hb e => by have := (HOU.out.lt b hb).1; omega))
                have HA4 := Lib.hid ha4
                have HK4 := Lib.hid (HKU.out.trans hk4)
                have k34 := ha4.cell.2.2.2.1
                have HSR := Lib.hid hxr
                clear hx hb3 hd hst hk4 ha4 hxr hbo hrr hss
                go_wp2_with fail
                clear e0 hW4 k34 t4 t4'
                obtain ⟨a2, ha2⟩ : ∃ q, some (⟨b3, o3', none⟩ : Addr) = q := ⟨_, rfl⟩
                rw [ha2] at HA4 HOW4 ⊢
                clear o0 o1 o2 o3 o4 o5 fo HOU HAU HKU ha2
              case' neg =>
                have t4 : decide ((0 : Int) < (n : Int)) = false := by rw [decide_eq_false_iff_not]; omega
                have t4' : decide (0 < n) = false := by rw [decide_eq_false_iff_not]; omega
                clear hbo hrr hss
                go_wp2_with fail
                clear t4
                obtain ⟨st, hst⟩ : ∃ z, A.start = z := ⟨_, rfl⟩
                have HST := Lib.hid (show mgSt A LS = st by
                  unfold mgSt
                  rw [List.getElem?_eq_none (by rw [HNN.out.1]; omega)]
                  exact hst)
                have HSR := Lib.hid (show -86399999999 ≤ st ∧ st ≤ 172800000000 from by have := HOA.out.start; omega)
                obtain ⟨W4, hW4⟩ : ∃ z, U = z := ⟨_, rfl⟩
                have HA4 := Lib.hid (show AcB W4 BO A.name A.sport st (.slice a2 n c2) (.slice b1 A.lp.length cb1) (.slice c1 A.tg.length cc1) from by rw [← hW4, ← hst]; exact HAU.out)
                have HOW4 := Lib.hid (show Own smC 7 32 W4 w0.heap.size (.slice a2 n c2) LS from hW4 ▸ HOU.out)
                have HK4 := Lib.hid (show Kept (fun q => q = BO) W W4 from hW4 ▸ HKU.out)
                rw [hW4]
                clear hst hW4 t4'
                clear o0 o1 o2 o3 o4 o5 fo HOU HAU HKU
              all_goals
                clear hn0
                have HOL := Lib.hid (show ∃ Bl, X.1.heap.size ≤ Bl ∧ Own lpC 3 49 w1 Bl (.slice b1 A.lp.length cb1) A.lp from by
                  obtain ⟨B1, B2, h1, h2, _, _, hl, _, _⟩ := HO3.out.ex
                  exact ⟨B1, h1, hl⟩)
                obtain ⟨Bl, hBl, hlw⟩ := HOL.out
                have HLB := Lib.hid (fun q (hq : b1 = some ⟨q, 0, none⟩) => show X.1.heap.size ≤ q ∧ q < BO from by
                  have := hlw.lt q (by rw [hq]; rfl)
                  omega)
                have HLW := Lib.hid hlw
                have HBLO := Lib.hid hBl
                clear hBl hlw HOL
                go_loopw [125] (fun iv wr => ∃ k : Nat, iv = .int .i64 k ∧ k ≤ n ∧ Hid (Own smC 7 32 wr w0.heap.size (.slice a2 n c2) ((LS.take k).map (backS st) ++ LS.drop k)) ∧ ∃ Z : ExtO (fun q => w0.heap.size ≤ q) W4, wr = Z.1) (fun iv _ => n - (intOf iv).toNat)
                case atStart => exact ⟨0, rfl, by omega, Lib.hid HOW4.out, ⟨W4, Kept.refl _ _⟩, rfl⟩
                case round =>
                  obtain ⟨k, rfl, hk, HO, Z, rfl⟩ := hrel
                  have hbow : ¬ w0.heap.size ≤ BO := by have := HBO.out; have := HR.out; have := HS0.out; omega
                  have hacz := HA4.out.kept Z.2 hbow
                  by_cases hlt : k < n
                  · have t5 : decide ((k : Int) < (n : Int)) = true := by rw [decide_eq_true_eq]; omega
                    have t5' : decide (k < n) = true := by simpa using hlt
                    obtain ⟨x, hx⟩ : ∃ x, LS[k]? = some x := ⟨_, List.getElem?_eq_getElem (by rw [HNN.out.1]; exact hlt)⟩
                    have hxr := HLR.out k x hx
                    have hsr := HSR.out
                    have hat := at_upto (backS st) LS k x hx
                    have HUP := Lib.hid (map_upto (backS st) LS k x hx)
                    have hlen := len_upto (backS st) LS k (by rw [HNN.out.1]; exact hk)
                    obtain ⟨q, c', he, hq1, hq2⟩ := HO.out.open (by rw [hlen, HNN.out.1]; omega)
                    injection he with he1 he2 he3
                    subst he1
                    have hcell : Z.1.cell? ⟨q, k * 7, none⟩ = some (.int .i64 x.tm) := by
                      have := (HO.out.rw_ smEl).1.on hat 0 _ rfl
                      simpa using this
                    have hw : IntKind.i64.wrap (x.tm - st) = x.tm - st := tm_wrap (by omega) (by omega)
                    have E0 := Ext.ex hcell
                    have G2 := Ext.ex hacz.cell.2.2.1
                    have G3 := Ext.ex hacz.cell.2.2.2.1
                    have HAT := Lib.hid hat
                    have HQ1 := Lib.hid hq1
                    have HLT := Lib.hid hlt
                    clear hx hxr hsr hat hlen he2 he3 hcell hacz hbow hq1 hq2 hk hlt
                    go_wp2_with fail
                    refine late_start (s := 11) (C := fun w' => ∃ Y : Ext Z.1, w' = Y.1) (by kernel_rfl) ?_
                    obtain ⟨Q0, hQ0⟩ : ∃ Y : Ext Z.1, ({ Z.1 with drawn := Z.1.drawn + 1 } : World) = Y.1 := ⟨⟨{ Z.1 with drawn := Z.1.drawn + 1 }, ⟨rfl, rfl, rfl, Nat.le_refl _, fun _ _ => rfl⟩⟩, rfl⟩
                    rw [hQ0]
                    clear hQ0
                    refine late_quiet (by kernel_rfl) (fun _ _ d _ _ h => by cases d <;> exact h) ⟨Q0, rfl⟩ [0, 1, 2] 9 _ _ (by kernel_rfl) (by kernel_rfl) ?_
                    change wpQuiet _ _ _ _ (_ :: _ :: _ :: []) _
                    repeat go_big_quiet_step (fail)
                    refine wpQuiet_nil ?_
                    have hlt := HLT.out
                    refine late_quiet (by kernel_rfl) (fun _ _ d _ _ h => by cases d <;> exact h) ⟨Q0, rfl⟩ [3] 8 _ _ (by kernel_rfl) (by kernel_rfl) ?_
                    change wpQuiet _ _ _ _ (_ :: []) _
                    repeat go_big_quiet_step (fail)
                    refine wpQuiet_nil ?_
                    clear hlt
                    refine late_quiet (by kernel_rfl) (fun _ _ d _ _ h => by cases d <;> exact h) ⟨Q0, rfl⟩ [4, 5, 6, 7, 8] 3 _ _ (by kernel_rfl) (by kernel_rfl) ?_
                    change wpQuiet _ _ _ _ (_ :: _ :: _ :: _ :: _ :: []) _
                    repeat go_big_quiet_step (fail)
                    refine wpQuiet_nil ?_
                    have hlt := HLT.out
                    refine late_quiet (by kernel_rfl) (fun _ _ d _ _ h => by cases d <;> exact h) ⟨Q0, rfl⟩ [9] 2 _ _ (by kernel_rfl) (by kernel_rfl) ?_
                    change wpQuiet _ _ _ _ (_ :: []) _
                    repeat go_big_quiet_step (fail)
                    refine wpQuiet_nil ?_
                    clear hlt
                    refine late_quiet (by kernel_rfl) (fun _ _ d _ _ h => by cases d <;> exact h) ⟨Q0, rfl⟩ [10] 1 _ _ (by kernel_rfl) (by kernel_rfl) ?_
                    change wpQuiet _ _ _ _ (_ :: []) _
                    repeat go_big_quiet_step (fail)
                    refine wpQuiet_nil ?_
                    have hoq := HO.out.below Q0.2
                    have fq := hoq.free (k * 7)
                    obtain ⟨hos, hks⟩ := hoq.set smEl (j := 0) HAT.out (by decide) (y := backS st x) (u := .int .i64 (x.tm - st)) rfl
                    rw [Nat.add_zero] at hos hks
                    obtain ⟨W9, hW9⟩ : ∃ z, Q0.1.setCell ⟨q, k * 7, none⟩ (.int .i64 (x.tm - st)) = z := ⟨_, rfl⟩
                    rw [hW9] at hos hks
                    rw [HUP.out] at hos
                    have HOS := Lib.hid hos
                    have HKS := Lib.hid ((Z.2.trans (Kept.of_below Q0.2)).trans (show Kept (fun g => w0.heap.size ≤ g) Q0.1 W9 from ⟨hks.os, hks.tape, hks.output, hks.size, fun g hg ho => hks.block g hg (fun e => ho (by rw [e]; exact HQ1.out))⟩))
                    clear hoq hos hks
                    refine late_do (i := 11) _ rfl (by kernel_rfl) rfl (fun K hK => ?_)
                    go_simp
                    refine hK _ _ (fun h => nomatch (show true = false from h)) ?_
                    clear hK K
                    try simp only [Act.put, List.setIfInBounds_toArray, List.set_cons_zero, List.set_cons_succ]
                    refine late_done (by kernel_rfl) ?_ _
                    have hn4 := HNN.out.2
                    have hlt := HLT.out
                    go_wp2_with fail
                    go_roundw
                    case rel => exact ⟨k + 1, by go_num, by omega, HOS, ⟨W9, HKS.out⟩, rfl⟩
                    case measure => simp [intOf]; omega
                  · have t5 : decide ((k : Int) < (n : Int)) = false := by rw [decide_eq_false_iff_not]; omega
                    have t5' : decide (k < n) = false := by simpa using hlt
                    obtain rfl : k = n := by omega
                    obtain ⟨W5, hW5⟩ : ∃ z, Z.1 = z := ⟨_, rfl⟩
                    have hbo := HBO.out
                    have hrr := HR.out
                    have hss := HS0.out
                    have hmb := HMB.out
                    have hx3 := X.2.size
                    have hsz2 := HSZ.out
                    have hk45 : Kept (fun q => w0.heap.size ≤ q) W4 W5 := hW5 ▸ Z.2
                    have HK5 := Lib.hid (show Kept (fun q => q = BO ∨ w0.heap.size ≤ q) W W5 from Kept.trans (O := fun q => q = BO ∨ w0.heap.size ≤ q) ⟨HK4.out.os, HK4.out.tape, HK4.out.output, HK4.out.size, fun g hg ho => HK4.out.block g hg (fun e => ho (Or.inl e))⟩ ⟨hk45.os, hk45.tape, hk45.output, hk45.size, fun g hg ho => hk45.block g hg (fun e => ho (Or.inr e))⟩)
                    have HA5' := Lib.hid (hW5 ▸ hacz)
                    have HO5 := Lib.hid (show Own smC 7 32 W5 w0.heap.size (.slice a2 k c2) (LS.map (backS st)) from by
                      have h := HO.out
                      rw [← HNN.out.1, List.take_length, List.drop_length, List.append_nil, HNN.out.1, hW5] at h
                      exact h)
                    have HL5 := Lib.hid ((HLW.out.below HBW.out).keepO HK5.out (fun q hq e => by have := (HLW.out.lt q hq).2; omega))
                    have HCA := Lib.hid (show W5.cell? ⟨w.heap.size, 2, none⟩ = some (.int .i64 A.start) from HK5.out.cell (p := ⟨w.heap.size, 2, none⟩) (by simp only; omega) (below_cell HBW.out (below_cell HB1.out (HC.out X ⟨w.heap.size, 2, none⟩ _ HA0.out.lt HA0.out.cell.2.2.1))))
                    have j4 := HA5'.out.cell.2.2.2.2.1
                    have hnl' := hnl
                    rw [hW5]
                    clear hlt hk HO hacz hk45 hW5 hbo hrr hss hmb hx3 hsz2 hbow HOW4 HA4
                    go_wp2_with fail
                    clear j4 t5 t5'
                    go_loopw [143] (fun iv wr => ∃ j : Nat, iv = .int .i64 j ∧ j ≤ A.lp.length ∧ Hid (Own lpC 3 49 wr Bl (.slice b1 A.lp.length cb1) ((A.lp.take j).map (addL (A.start - st)) ++ A.lp.drop j)) ∧ ∃ Z : ExtO (fun q => b1 = some ⟨q, 0, none⟩) W5, wr = Z.1) (fun iv _ => A.lp.length - (intOf iv).toNat)
                    case atStart => exact ⟨0, rfl, by omega, Lib.hid HL5.out, ⟨W5, Kept.refl _ _⟩, rfl⟩
                    case round =>
                      obtain ⟨n', hn'⟩ : ∃ z, k = z := ⟨_, rfl⟩
                      subst hn'
                      clear Z
                      obtain ⟨j, rfl, hj, HO, Z, rfl⟩ := hrel
                      by_cases hlt : j < A.lp.length
                      · have t5 : decide ((j : Int) < (A.lp.length : Int)) = true := by rw [decide_eq_true_eq]; omega
                        have t5' : decide (j < A.lp.length) = true := by simpa using hlt
                        obtain ⟨p, hp⟩ : ∃ p, A.lp[j]? = some p := ⟨_, List.getElem?_eq_getElem hlt⟩
                        obtain ⟨p0, p1, p2, _⟩ := HOA.out.lp.each j p hp
                        have p3 := (spanS_range HOA.out.sm).2
                        have hsr := HSR.out
                        obtain ⟨as0, as1⟩ := HOA.out.start
                        have hat := at_upto (addL (A.start - st)) A.lp j p hp
                        have HUP := Lib.hid (map_upto (addL (A.start - st)) A.lp j p hp)
                        have hlen := len_upto (addL (A.start - st)) A.lp j hj
                        obtain ⟨q, c9, he, hq1, hq2⟩ := HO.out.open (by rw [hlen]; omega)
                        injection he with he1 he2 he3
                        have HLQ := Lib.hid (HLB.out q he1)
                        subst he1
                        have hroww := (HO.out.rw_ lpEl).1.on hat
                        have e0 : Z.1.cell? ⟨q, j * 3, none⟩ = some (.int .i64 p.f) := by have := hroww 0 _ rfl; simpa using this
                        have e1 : Z.1.cell? ⟨q, j * 3 + 1, none⟩ = some (.int .i64 p.t) := by have := hroww 1 _ rfl; simpa using this
                        have hwd : IntKind.i64.wrap (A.start - st) = A.start - st := tm_wrap (by omega) (by omega)
                        have hw1 : IntKind.i64.wrap (p.f + (A.start - st)) = p.f + (A.start - st) := tm_wrap (by omega) (by omega)
                        have hw2 : IntKind.i64.wrap (p.t + (A.start - st)) = p.t + (A.start - st) := tm_wrap (by omega) (by omega)
                        have hOq : ∀ g, (some (⟨q, 0, none⟩ : Addr) = some ⟨g, 0, none⟩) → g = q := fun g e => by injection e with e; injection e with e; exact e.symm
                        have hacz := HA5'.out.kept Z.2 (fun e => by have := hOq _ e; have := HLQ.out; omega)
                        have haq := Z.2.cell (p := ⟨w.heap.size, 2, none⟩) (fun e => by have hh : w.heap.size = q := hOq _ e; have := HLQ.out; have := X.2.size; have := HMB.out; have := HSZ.out; omega) HCA.out
                        have E0 := Ext.ex e0
                        have G2 := Ext.ex hacz.cell.2.2.1
                        have G4 := Ext.ex hacz.cell.2.2.2.2.1
                        have GA := Ext.ex haq
                        have HAT := Lib.hid hat
                        have HLT := Lib.hid hlt
                        have HE1 := Lib.hid e1
                        have HACZ := Lib.hid hacz
                        have HAQ := Lib.hid haq
                        clear hp p0 p1 p2 p3 hsr as0 as1 hat hlen he2 he3 hroww e0 e1 hacz haq hlt hj hq1 hq2
                        go_wp2_with fail
                        refine late_start (s := 14) (C := fun w' => ∃ Y : Ext Z.1, w' = Y.1) (by kernel_rfl) ?_
                        obtain ⟨Q0, hQ0⟩ : ∃ Y : Ext Z.1, ({ Z.1 with drawn := Z.1.drawn + 1 } : World) = Y.1 := ⟨⟨{ Z.1 with drawn := Z.1.drawn + 1 }, ⟨rfl, rfl, rfl, Nat.le_refl _, fun _ _ => rfl⟩⟩, rfl⟩
                        rw [hQ0]
                        clear hQ0
                        refine late_quiet (by kernel_rfl) (fun _ _ d _ _ h => by cases d <;> exact h) ⟨Q0, rfl⟩ [0, 1, 2] 12 _ _ (by kernel_rfl) (by kernel_rfl) ?_
                        change wpQuiet _ _ _ _ (_ :: _ :: _ :: []) _
                        repeat go_big_quiet_step (fail)
                        refine wpQuiet_nil ?_
                        have hlt := HLT.out
                        refine late_quiet (by kernel_rfl) (fun _ _ d _ _ h => by cases d <;> exact h) ⟨Q0, rfl⟩ [3] 11 _ _ (by kernel_rfl) (by kernel_rfl) ?_
                        change wpQuiet _ _ _ _ (_ :: []) _
                        repeat go_big_quiet_step (fail)
                        refine wpQuiet_nil ?_
                        clear hlt
                        refine late_quiet (by kernel_rfl) (fun _ _ d _ _ h => by cases d <;> exact h) ⟨Q0, rfl⟩ [4, 5, 6, 7, 8, 9, 10, 11] 3 _ _ (by kernel_rfl) (by kernel_rfl) ?_
                        change wpQuiet _ _ _ _ (_ :: _ :: _ :: _ :: _ :: _ :: _ :: _ :: []) _
                        repeat go_big_quiet_step (fail)
                        refine wpQuiet_nil ?_
                        have hlt := HLT.out
                        refine late_quiet (by kernel_rfl) (fun _ _ d _ _ h => by cases d <;> exact h) ⟨Q0, rfl⟩ [12] 2 _ _ (by kernel_rfl) (by kernel_rfl) ?_
                        change wpQuiet _ _ _ _ (_ :: []) _
                        repeat go_big_quiet_step (fail)
                        refine wpQuiet_nil ?_
                        clear hlt
                        refine late_quiet (by kernel_rfl) (fun _ _ d _ _ h => by cases d <;> exact h) ⟨Q0, rfl⟩ [13] 1 _ _ (by kernel_rfl) (by kernel_rfl) ?_
                        change wpQuiet _ _ _ _ (_ :: []) _
                        repeat go_big_quiet_step (fail)
                        refine wpQuiet_nil ?_
                        have hoq := HO.out.below Q0.2
                        have fq := hoq.free (j * 3)
                        obtain ⟨hos, hks⟩ := hoq.set lpEl (j := 0) HAT.out (by decide) (y := ⟨p.f + (A.start - st), p.t, p.s⟩) (u := .int .i64 (p.f + (A.start - st))) rfl
                        rw [Nat.add_zero] at hos hks
                        obtain ⟨W9, hW9⟩ : ∃ z, Q0.1.setCell ⟨q, j * 3, none⟩ (.int .i64 (p.f + (A.start - st))) = z := ⟨_, rfl⟩
                        rw [hW9] at hos hks
                        have HOS := Lib.hid hos
                        have hkz : Kept (fun g => g = q) Z.1 W9 := (Kept.of_below Q0.2).trans hks
                        have hneB : ¬ BO = q := by have := HLQ.out; omega
                        have hneA : ¬ w.heap.size = q := by have := HLQ.out; have := X.2.size; have := HMB.out; have := HSZ.out; omega
                        have hac9 := HACZ.out.kept hkz hneB
                        have haq9 := hkz.cell (p := ⟨w.heap.size, 2, none⟩) hneA HAQ.out
                        have HK9 := Lib.hid hkz
                        have HAT2 := Lib.hid (show (((A.lp.take j).map (addL (A.start - st)) ++ A.lp.drop j).set j ⟨p.f + (A.start - st), p.t, p.s⟩)[j]? = some ⟨p.f + (A.start - st), p.t, p.s⟩ from List.getElem?_set_self (List.getElem?_eq_some_iff.1 HAT.out).1)
                        have hr9 := (hos.rw_ lpEl).1.on HAT2.out
                        have e1 : W9.cell? ⟨q, j * 3 + 1, none⟩ = some (.int .i64 p.t) := by have := hr9 1 _ rfl; simpa using this
                        clear hoq hos hks hkz
                        refine late_do (i := 14) _ rfl (by kernel_rfl) rfl (fun K hK => ?_)
                        generalize hA : ({ tmps := _, defers := _ } : Act) = A0
                        have hp1 : A0.tmps[159]?.getD undef = .pointer (some ⟨q, j * 3, none⟩) := by rw [← hA]; rfl
                        have hv1 : A0.tmps[157]?.getD undef = .int .i64 (p.f + (A.start - st)) := by rw [← hA]; rfl
                        go_simp
                        refine hK _ _ (fun h => nomatch (show true = false from h)) ?_
                        subst hA
                        clear hK K hp1 hv1
                        try simp only [Act.put, List.setIfInBounds_toArray, List.set_cons_zero, List.set_cons_succ]
                        refine late_done (by kernel_rfl) ?_ _
                        clear fq hW9 E0 G2 G4 GA Q0
                        have E1 := Ext.ex e1
                        have G2 := Ext.ex hac9.cell.2.2.1
                        have G4 := Ext.ex hac9.cell.2.2.2.2.1
                        have GA := Ext.ex haq9
                        clear hr9 e1 hac9 haq9 hneB hneA
                        go_wp2_with fail
                        refine late_start (s := 14) (C := fun w' => ∃ Y : Ext W9, w' = Y.1) (by kernel_rfl) ?_
                        obtain ⟨Q0, hQ0⟩ : ∃ Y : Ext W9, ({ W9 with drawn := W9.drawn + 1 } : World) = Y.1 := ⟨⟨{ W9 with drawn := W9.drawn + 1 }, ⟨rfl, rfl, rfl, Nat.le_refl _, fun _ _ => rfl⟩⟩, rfl⟩
                        rw [hQ0]
                        clear hQ0
                        refine late_quiet (by kernel_rfl) (fun _ _ d _ _ h => by cases d <;> exact h) ⟨Q0, rfl⟩ [0, 1, 2] 12 _ _ (by kernel_rfl) (by kernel_rfl) ?_
                        change wpQuiet _ _ _ _ (_ :: _ :: _ :: []) _
                        repeat go_big_quiet_step (fail)
                        refine wpQuiet_nil ?_
                        have hlt := HLT.out
                        refine late_quiet (by kernel_rfl) (fun _ _ d _ _ h => by cases d <;> exact h) ⟨Q0, rfl⟩ [3] 11 _ _ (by kernel_rfl) (by kernel_rfl) ?_
                        change wpQuiet _ _ _ _ (_ :: []) _
                        repeat go_big_quiet_step (fail)
                        refine wpQuiet_nil ?_
                        clear hlt
                        refine late_quiet (by kernel_rfl) (fun _ _ d _ _ h => by cases d <;> exact h) ⟨Q0, rfl⟩ [4, 5, 6, 7, 8, 9, 10, 11] 3 _ _ (by kernel_rfl) (by kernel_rfl) ?_
                        change wpQuiet _ _ _ _ (_ :: _ :: _ :: _ :: _ :: _ :: _ :: _ :: []) _
                        repeat go_big_quiet_step (fail)
                        refine wpQuiet_nil ?_
                        have hlt := HLT.out
                        refine late_quiet (by kernel_rfl) (fun _ _ d _ _ h => by cases d <;> exact h) ⟨Q0, rfl⟩ [12] 2 _ _ (by kernel_rfl) (by kernel_rfl) ?_
                        change wpQuiet _ _ _ _ (_ :: []) _
                        repeat go_big_quiet_step (fail)
                        refine wpQuiet_nil ?_
                        clear hlt
                        refine late_quiet (by kernel_rfl) (fun _ _ d _ _ h => by cases d <;> exact h) ⟨Q0, rfl⟩ [13] 1 _ _ (by kernel_rfl) (by kernel_rfl) ?_
                        change wpQuiet _ _ _ _ (_ :: []) _
                        repeat go_big_quiet_step (fail)
                        refine wpQuiet_nil ?_
                        have hoq := HOS.out.below Q0.2
                        have fq := hoq.free (j * 3 + 1)
                        obtain ⟨hos, hks⟩ := hoq.set lpEl (j := 1) HAT2.out (by decide) (y := addL (A.start - st) p) (u := .int .i64 (p.t + (A.start - st))) rfl
                        obtain ⟨W10, hW10⟩ : ∃ z, Q0.1.setCell ⟨q, j * 3 + 1, none⟩ (.int .i64 (p.t + (A.start - st))) = z := ⟨_, rfl⟩
                        rw [hW10] at hos hks
                        rw [List.set_set, HUP.out] at hos
                        have HOT := Lib.hid hos
                        have HKT := Lib.hid (show Kept (fun g => some (⟨q, 0, none⟩ : Addr) = some ⟨g, 0, none⟩) W5 W10 from by
                          have h1 : Kept (fun g => g = q) Z.1 W10 := (HK9.out.trans (Kept.of_below Q0.2)).trans hks
                          exact Z.2.trans ⟨h1.os, h1.tape, h1.output, h1.size, fun g hg ho => h1.block g hg (fun e => ho (by rw [e]))⟩)
                        clear hoq hos hks
                        refine late_do (i := 14) _ rfl (by kernel_rfl) rfl (fun K hK => ?_)
                        generalize hA : ({ tmps := _, defers := _ } : Act) = A0
                        have hp1 : A0.tmps[173]?.getD undef = .pointer (some ⟨q, j * 3 + 1, none⟩) := by rw [← hA]; rfl
                        have hv1 : A0.tmps[171]?.getD undef = .int .i64 (p.t + (A.start - st)) := by rw [← hA]; rfl
                        go_simp
                        refine hK _ _ (fun h => nomatch (show true = false from h)) ?_
                        subst hA
                        clear hK K hp1 hv1
                        try simp only [Act.put, List.setIfInBounds_toArray, List.set_cons_zero, List.set_cons_succ]
                        refine late_done (by kernel_rfl) ?_ _
                        have hlt := HLT.out
                        go_wp2_with fail
                        go_roundw
                        case rel => exact ⟨j + 1, by go_num, by omega, HOT, ⟨W10, HKT.out⟩, rfl⟩
                        case measure => simp [intOf]; omega
                      · have t5 : decide ((j : Int) < (A.lp.length : Int)) = false := by rw [decide_eq_false_iff_not]; omega
                        have t5' : decide (j < A.lp.length) = false := by simpa using hlt
                        obtain rfl : j = A.lp.length := by omega
                        obtain ⟨W6, hW6⟩ : ∃ z, Z.1 = z := ⟨_, rfl⟩
                        have hk56 : Kept (fun q => b1 = some ⟨q, 0, none⟩) W5 W6 := hW6 ▸ Z.2
                        have hbo := HBO.out
                        have hrr := HR.out
                        have hss := HS0.out
                        have hmb := HMB.out
                        have hx3 := X.2.size
                        have hsz2 := HSZ.out
                        have HO6 := Lib.hid (HO5.out.keepO hk56 (fun b hb e => by have := (HO5.out.lt b hb).1; have := HLB.out b e; omega))
                        have HA6 := Lib.hid (HA5'.out.kept hk56 (fun e => by have := HLB.out _ e; omega))
                        have HL6 := Lib.hid (show Own lpC 3 49 W6 Bl (.slice b1 A.lp.length cb1) (A.lp.map (addL (A.start - st))) from by
                          have h := HO.out
                          rw [List.take_length, List.drop_length, List.append_nil, hW6] at h
                          exact h)
                        have HT6 := Lib.hid (show ∃ Bt, X.1.heap.size ≤ Bt ∧ Bt ≤ W6.heap.size ∧ Own tgC 1 9 W6 Bt (.slice c1 A.tg.length cc1) A.tg from by
                          obtain ⟨B1, B2, hb1, hb2, _, _, hl3, hl3', ht⟩ := HO3.out.ex
                          have htw : ∀ b, (Value.slice c1 A.tg.length cc1).ownBlock = some b → B2 ≤ b ∧ b < BO := fun b hb => by have := ht.lt b hb; omega
                          have h5 := (ht.below HBW.out).keepO HK5.out (fun b hb e => by have := htw b hb; omega)
                          have h6 := h5.keepO hk56 (fun b hb e => by
                            have := htw b hb
                            have hq := hl3' b (by rw [e]; rfl)
                            omega)
                          by_cases hz : 0 < A.tg.length
                          · obtain ⟨q, c9, he, hq1, hq2⟩ := h6.open hz
                            exact ⟨B2, by omega, by omega, h6⟩
                          · exact ⟨X.1.heap.size, Nat.le_refl _, by have := HK5.out.size; have := hk56.size; omega, h6.weaken (by omega)⟩)
                        obtain ⟨Bt, hBt1, hBt2, hT6⟩ := HT6.out
                        have HT7 := Lib.hid hT6
                        have HCV := Lib.hid (fun (p : Addr) (v : Value) (hp : p.block < V2.heap.size) (h : V2.cell? p = some v) => show W6.cell? p = some v from
                          hk56.cell (p := p) (fun e => by have hh := HLB.out p.block e; omega) (HK5.out.cell (p := p) (by omega) (below_cell HBW.out (below_cell HB1.out (HC.out X p v hp h)))))
                        have HBT := Lib.hid (show Rw tgC 1 W6 c' B.tg from ⟨fun hl => by
                          obtain ⟨bb, off, e, hb, hc⟩ := HIB.out.tg.here hl
                          exact ⟨bb, off, e, by have := HK5.out.size; have := hk56.size; omega, fun i x hx j v hv => HCV.out ⟨bb, off + i * _ + j, none⟩ v hb (hc i x hx j v hv)⟩⟩)
                        have j5 := HA6.out.cell.2.2.2.2.2
                        have i5 := HCV.out ⟨w.heap.size + 1, 5, none⟩ _ HA1.out.lt HA1.out.cell.2.2.2.2.2
                        have HNB := Lib.hid (show A.tg.length + B.tg.length ≤ 40 from by have := HOB.out.ntg; omega)
                        have HK6 := Lib.hid (show Kept (fun q => q = BO ∨ (Bt ≤ q ∧ OT W6 q)) W6 W6 from Kept.refl _ _)
                        have HKW6 := Lib.hid hk56
                        have HSB := Lib.hid hBt2
                        have HSB1 := Lib.hid hBt1
                        rw [hW6]
                        clear hW6 hk56 hbo hrr hss hmb hx3 hsz2 hlt hj HO hBt1 hBt2 hT6 HT6
                        go_wp2_with (at_builtin; refine append_Tgs rfl _ _ rfl rfl HT7.out (m := B.tg) rfl rfl HBT.out (by have := HNB.out; omega) HSB.out (fun v7 w7 ho7 hg7 => ?_); obtain ⟨a7, c7, rfl, hc7, -, -⟩ := ho7.row tgEl; have HA7 := Lib.hid (HA6.out.kept (O := fun q => (Value.slice c1 A.tg.length cc1).ownBlock = some q) (Kept.of_grown hg7 (fun g e _ => e)) (fun e => (HA6.out.ne HT7.out _ e) rfl)); have j7 := HA7.out.cell.2.2.2.2.2; have f7 := HA7.out.free 5; obtain ⟨W8, hW8⟩ : ∃ z, w7.setCell ⟨BO, 5, none⟩ (.slice a7 (A.tg ++ B.tg).length c7) = z := ⟨_, rfl⟩)
                        have hcp7 := hc7
                        rw [List.length_append] at hW8 hcp7
                        rw [hW8]
                        have ha8 := HA7.out.set5 (.slice a7 (A.tg.length + B.tg.length) c7)
                        rw [hW8] at ha8
                        have hks8 : Kept (fun q => q = BO) w7 W8 := by rw [← hW8]; exact keep_set (O := fun q => q = BO) rfl
                        have ho8 := ho7.keepO hks8 (fun b hb e => (HA7.out.ne ho7 b hb) e)
                        have hO8 : ∀ {P Q : World}, Kept (fun q => q = BO) P Q → Kept (fun q => q = BO ∨ (Bt ≤ q ∧ OT W6 q)) P Q := fun h => ⟨h.os, h.tape, h.output, h.size, fun k hk ho => h.block k hk (fun e => ho (Or.inl e))⟩
                        have HK8 := Lib.hid ((HK6.out.text HT7.out (fun q h1 hq => Or.inr ⟨h1, hq⟩) hg7).trans (hO8 hks8))
                        have HA8 := Lib.hid ha8
                        have HO8 := Lib.hid ho8
                        have hTL : (A.tg ++ B.tg).length = A.tg.length + B.tg.length := List.length_append
                        have DSR := Lib.hid (sortTg_any (A.tg ++ B.tg) a7 c7 Bt W8 ho8 (by rw [hTL]; have := HNB.out; omega))
                        rw [hTL] at DSR HO8
                        have HCP := Lib.hid hcp7
                        have HTL := Lib.hid hTL
                        clear ho7 hg7 hc7 hcp7 hW8 ha8 hks8 ho8 hTL j7 f7 j5 i5
                        refine (DSR.out).mono ?_
                        rintro e U1 ⟨rfl, ⟨T1, hperm, hsort, hownU⟩, hgU⟩
                        have hT1 : T1.length = A.tg.length + B.tg.length := by rw [hperm.length_eq, HTL.out]
                        have HAU1 := Lib.hid (HA8.out.kept (O := fun q => (Value.slice a7 (A.tg.length + B.tg.length) c7).ownBlock = some q) (Kept.of_grown hgU (fun g e _ => e)) (fun e => (HA8.out.ne HO8.out _ e) rfl))
                        have HKU1 := Lib.hid (HK8.out.text HO8.out (fun q h1 hq => Or.inr ⟨h1, hq⟩) hgU)
                        rw [← hT1] at hownU
                        have DCP := Lib.hid (compactTg_any T1 a7 c7 Bt U1 hownU (by rw [hT1]; have := HNB.out; omega) hsort (by rw [hT1]; exact HCP.out))
                        rw [hT1] at DCP hownU
                        have HOU1 := Lib.hid hownU
                        have HP1 := Lib.hid hperm
                        have j7 := HAU1.out.cell.2.2.2.2.2
                        clear hperm hsort hownU hgU hT1 DSR
                        go_wp2_with fail
                        refine (DCP.out).mono ?_
                        rintro e U2 ⟨T2, rfl, hmem, hst2, hle, hown2, hg2⟩
                        have HAU2 := Lib.hid (HAU1.out.kept (O := fun q => (Value.slice a7 (A.tg.length + B.tg.length) c7).ownBlock = some q) (Kept.of_grown hg2 (fun g e _ => e)) (fun e => (HAU1.out.ne HOU1.out _ e) rfl))
                        have HKU2 := Lib.hid (HKU1.out.text HOU1.out (fun q h1 hq => Or.inr ⟨h1, hq⟩) hg2)
                        have HMG := Lib.hid (show MgIs A B shift LS T2 from ⟨HLS.out, HSM.out, hst2, fun x => (hmem x).trans ((HP1.out.mem_iff).trans List.mem_append)⟩)
                        obtain ⟨m2, hm2⟩ : ∃ z, T2.length = z := ⟨_, rfl⟩
                        have HM2 := Lib.hid hm2
                        rw [hm2] at hown2 ⊢
                        have ha9 := HAU2.out.set5 (.slice a7 m2 c7)
                        obtain ⟨W9, hW9⟩ : ∃ z, U2.setCell ⟨BO, 5, none⟩ (.slice a7 m2 c7) = z := ⟨_, rfl⟩
                        rw [hW9] at ha9
                        have hks9 : Kept (fun q => q = BO) U2 W9 := by rw [← hW9]; exact keep_set (O := fun q => q = BO) rfl
                        have HO9 := Lib.hid (hown2.keepO hks9 (fun b hb e => (HAU2.out.ne hown2 b hb) e))
                        have HK9 := Lib.hid (HKU2.out.trans (hO8 hks9))
                        have HA9 := Lib.hid ha9
                        have j8 := HAU2.out.cell.2.2.2.2.2
                        have f8 := HAU2.out.free 5
                        obtain ⟨z0, z1, z2, z3, z4, z5⟩ := ha9.cell
                        have HM40 := Lib.hid (show m2 ≤ 40 from by have := HNB.out; omega)
                        clear hmem hst2 hle hown2 hg2 hm2 ha9 hks9 hO8 j7 DCP
                        have hn4 := HNN.out.2
                        have HZ := Lib.hid (show mgZ A LS T2 = ⟨A.name, A.sport, st, LS.map (backS st), A.lp.map (addL (A.start - st)), T2⟩ from by unfold mgZ; rw [HST.out])
                        have HNUM := Lib.hid (show w.heap.size + 3 ≤ MB ∧ MB < X.1.heap.size ∧ X.1.heap.size ≤ BO ∧ BO < W.heap.size ∧ w0.heap.size = W.heap.size + 1 from by
                          have := HMB.out
                          have := HSZ.out
                          have := X.2.size
                          have := HBO.out
                          have := HR.out
                          have := HS0.out
                          omega)
                        have HBL := Lib.hid (show Below w.heap.size w W9 from by
                          have hh := HNUM.out
                          have h1 := below_step HB.out HB3.out
                          have h2 : Below w.heap.size w X.1 := Kept.below h1 X.2 h1.size (fun q hq e => by omega)
                          have h3 := below_step (below_step h2 HB1.out) HBW.out
                          have h4 : Below w.heap.size w W5 := Kept.below h3 HK5.out h3.size (fun q hq e => by omega)
                          have h5 : Below w.heap.size w W6 := Kept.below h4 HKW6.out h4.size (fun q hq e => by have := HLB.out q e; omega)
                          exact Kept.below h5 HK9.out h5.size (fun q hq e => by
                            have := HSB1.out
                            rcases e with e | e
                            · omega
                            · have := e.1
                              omega))
                        have HR9 := Lib.hid (show AcB W9 (w.heap.size + 1 + 1) ⟨#[]⟩ 0 0 (.slice none 0 0) (.slice none 0 0) (.slice none 0 0) from by
                          have hh := HNUM.out
                          have h6 := (((((HA2.out.below HB3.out).kept X.2 (by omega)).below HB1.out).below HBW.out).kept HK5.out (by omega)).kept HKW6.out (fun e => by have := HLB.out _ e; omega)
                          exact h6.kept HK9.out (fun e => by
                            rcases e with e | e
                            · omega
                            · exact h6.notText e.2))
                        have HINX := Lib.hid (fun (WX : World) (hkx : Kept (fun q => q = w.heap.size + 1 + 1) W9 WX) => show ActIn WX ⟨A.name, A.sport, st, LS.map (backS st), A.lp.map (addL (A.start - st)), T2⟩ a2 b1 a7 from by
                          have hh := HNUM.out
                          have hb1 := HSB1.out
                          have s9 := HO6.out.keepO HK9.out (fun b hb e => by
                            rcases e with e | e
                            · exact HA6.out.ne' HO6.out (by decide) b hb e
                            · exact HO6.out.notText (by decide) hb e.2)
                          have l9 := HL6.out.keepO HK9.out (fun b hb e => by
                            rcases e with e | e
                            · exact HA6.out.ne' HL6.out (by decide) b hb e
                            · exact HL6.out.notText (by decide) hb e.2)
                          have sx := s9.keepO hkx (fun b hb e => (HR9.out.ne' s9 (by decide) b hb) e)
                          have lx := l9.keepO hkx (fun b hb e => (HR9.out.ne' l9 (by decide) b hb) e)
                          have tx := HO9.out.keepO hkx (fun b hb e => (HR9.out.ne' HO9.out (by decide) b hb) e)
                          refine ⟨(sx.rw_ smEl).1, (lx.rw_ lpEl).1, (tx.rw_ tgEl).1, HIA.out.name, fun p hp => ?_, fun t ht => ?_, ?_, ?_, ?_⟩
                          · obtain ⟨p', hp', rfl⟩ := List.mem_map.1 hp
                            exact HIA.out.titles p' hp'
                          · rcases (HMG.out.tmem t).1 ht with h | h
                            · exact HIA.out.tags t h
                            · exact HIB.out.tags t h
                          · show ((LS.map (backS st)).length : Int) ≤ _
                            rw [List.length_map, HNN.out.1]
                            omega
                          · show ((A.lp.map (addL (A.start - st))).length : Int) ≤ _
                            rw [List.length_map]
                            omega
                          · show (T2.length : Int) ≤ _
                            rw [HM2.out]
                            have := HM40.out
                            omega)
                        have HFAR := Lib.hid (fun g (hg : a2 = some g ∨ b1 = some g ∨ a7 = some g) => show w.heap.size ≤ g.block from by
                          have hh := HNUM.out
                          rcases hg with e | e | e
                          · have := ((HO6.out.rw_ smEl).2.2 g e).1
                            omega
                          · have := ((HL6.out.rw_ lpEl).2.2 g e).1
                            have := HBLO.out
                            omega
                          · have := ((HO9.out.rw_ tgEl).2.2 g e).1
                            have := HSB1.out
                            omega)
                        have DCK := Lib.hid (show Calls Try.prog 10 #[.agg #[.string A.name, .int .i64 A.sport, .int .i64 st, .slice a2 k c2, .slice b1 A.lp.length cb1, .slice a7 m2 c7]] W9 fun e w' => e = .returned (.int .i64 (chkA (mgZ A LS T2))) ∧ Below W9.heap.size W9 w' from by
                          have h := check_any ⟨A.name, A.sport, st, LS.map (backS st), A.lp.map (addL (A.start - st)), T2⟩ a2 b1 a7 c2 cb1 c7 W9 (HINX.out W9 (Kept.refl _ _))
                          unfold ChkG actV at h
                          simp only [List.length_map, HNN.out.1, HM2.out] at h
                          rw [← HZ.out] at h
                          exact h)
                        have HMGR := Lib.hid (fun e w' => show (((20000 < LS.length ∨ 20 < T2.length) ∧ e = .returned (.tuple #[ac0, .int .i64 3]) ∧ Below w.heap.size w w') ∨ (¬ (20000 < LS.length ∨ 20 < T2.length) ∧ ActRet (mgZ A LS T2) w e w')) → MergeRet A B shift w e w' from fun h => ⟨LS, T2, HMG.out, h⟩)
                        obtain ⟨r0, r1, r2, r3, r4, r5⟩ := HR9.out.cell
                        have fr := HR9.out.free
                        by_cases hbig : 20000 < k
                        case' pos =>
                          have t6 : decide ((20000 : Int) < (k : Int)) = true := by rw [decide_eq_true_eq]; omega
                          have t6' : decide (20000 < k) = true := by rw [decide_eq_true_eq]; omega
                          have HBAD := Lib.hid (show 20000 < LS.length ∨ 20 < T2.length from Or.inl (by rw [HNN.out.1]; exact hbig))
                        case' neg =>
                          have t6 : decide ((20000 : Int) < (k : Int)) = false := by rw [decide_eq_false_iff_not]; omega
                          have t6' : decide (20000 < k) = false := by rw [decide_eq_false_iff_not]; omega
                          by_cases hbt : 20 < m2
                          case' pos =>
                            have t7 : decide ((20 : Int) < (m2 : Int)) = true := by rw [decide_eq_true_eq]; omega
                            have t7' : decide (20 < m2) = true := by rw [decide_eq_true_eq]; omega
                            have HBAD := Lib.hid (show 20000 < LS.length ∨ 20 < T2.length from Or.inr (by rw [HM2.out]; exact hbt))
                          case' neg =>
                            have t7 : decide ((20 : Int) < (m2 : Int)) = false := by rw [decide_eq_false_iff_not]; omega
                            have t7' : decide (20 < m2) = false := by rw [decide_eq_false_iff_not]; omega
                            have HGOOD := Lib.hid (show ¬ (20000 < LS.length ∨ 20 < T2.length) from by rw [HNN.out.1, HM2.out]; omega)
                            go_wp2_with fail
                            refine (DCK.out).mono ?_
                            rintro e W12 ⟨rfl, hb12⟩
                            obtain ⟨er, her⟩ : ∃ z, chkA (mgZ A LS T2) = z := ⟨_, rfl⟩
                            have HER := Lib.hid her
                            rw [her]
                            have hA12 := HA9.out.below hb12
                            have hR12 := HR9.out.below hb12
                            have HR12 := Lib.hid hR12
                            have HK12 := Lib.hid (show Kept (fun q => q = w.heap.size + 1 + 1) W9 W12 from Kept.of_below hb12)
                            have HW12 := Lib.hid (below_step HBL.out hb12)
                            obtain ⟨x0, x1, x2, x3, x4, x5⟩ := hA12.cell
                            obtain ⟨v0, v1, v2, v3, v4, v5⟩ := hR12.cell
                            have fv := hR12.free
                            clear her hb12 hA12 hR12 r0 r1 r2 r3 r4 r5 fr z0 z1 z2 z3 z4 z5 j8 f8 hW9
                            by_cases h0' : er = 0
                            · subst h0'
                              obtain ⟨WF, hWF, haF, hkF⟩ := HR12.out.store A.name A.sport st (.slice a2 k c2) (.slice b1 A.lp.length cb1) (.slice a7 m2 c7)
                              have HAF := Lib.hid haF
                              have HKF := Lib.hid hkF
                              have HBF := Lib.hid (show Below w.heap.size w WF from Kept.below HW12.out (hkF (fun q => q = w.heap.size + 1 + 1) rfl) HW12.out.size (fun q hq e => by omega))
                              clear haF hkF
                              go_wp2_with fail
                              have q := HAF.out.cell
                              refine bodyPost_ret (v := .tuple #[.agg #[.string A.name, .int .i64 A.sport, .int .i64 st, .slice a2 k c2, .slice b1 A.lp.length cb1, .slice a7 m2 c7], .int .i64 0]) (by simp [results, Try.results4, go_sem, q]) rfl (HMGR.out _ _ (Or.inr ⟨HGOOD.out, HBF.out, 0, HER.out, Or.inr ⟨rfl, a2, b1, a7, c2, cb1, c7, ?_, ?_, HFAR.out⟩⟩))
                              · rw [HZ.out]
                                unfold actV
                                simp only [List.length_map, HNN.out.1, HM2.out]
                              · rw [HZ.out]
                                exact HINX.out WF (HK12.out.trans (HKF.out _ rfl))
                            · have b0 : (er != 0) = true := by rw [bne_iff_ne]; exact h0'
                              obtain ⟨WF, hWF, haF, hkF⟩ := HR12.out.store ⟨#[]⟩ 0 0 (.slice none 0 0) (.slice none 0 0) (.slice none 0 0)
                              have HAF := Lib.hid haF
                              have H0 := Lib.hid h0'
                              have HBF := Lib.hid (show Below w.heap.size w WF from Kept.below HW12.out (hkF (fun q => q = w.heap.size + 1 + 1) rfl) HW12.out.size (fun q hq e => by omega))
                              clear haF hkF h0'
                              go_wp2_with fail
                              have q := HAF.out.cell
                              exact bodyPost_ret (v := .tuple #[ac0, .int .i64 er]) (by simp [results, Try.results4, go_sem, q, ac0]) rfl (HMGR.out _ _ (Or.inr ⟨HGOOD.out, HBF.out, er, HER.out, Or.inl ⟨H0.out, rfl⟩⟩))
                        all_goals
                          obtain ⟨WF, hWF, haF, hkF⟩ := HR9.out.store ⟨#[]⟩ 0 0 (.slice none 0 0) (.slice none 0 0) (.slice none 0 0)
                          have HAF := Lib.hid haF
                          have HBF := Lib.hid (show Below w.heap.size w WF from Kept.below HBL.out (hkF (fun q => q = w.heap.size + 1 + 1) rfl) HBL.out.size (fun q hq e => by omega))
                          clear haF hkF
                          go_wp2_with fail
                          have q := HAF.out.cell
                          exact bodyPost_ret (v := .tuple #[ac0, .int .i64 3]) (by simp [results, Try.results4, go_sem, q, ac0]) rfl (HMGR.out _ _ (Or.inl ⟨HBAD.out, rfl, HBF.out⟩))
            · intro x c kl yd yp wn cnt1 hkey hlk hRy hat hrg1 hlt hg1 hs1 hen
              obtain ⟨x', ex, rfl, hwx⟩ := Maps.keyOf_int_inv Try.underlying3 hkey
              cases ex
              rw [smR_of] at hRy
              have hyd : smD c = yd := (Prod.mk.inj (Option.some.inj hRy)).1
              have hF : mgF A B shift x = some c := by
                cases hf : mgF A B shift x with
                | none =>
                  have h1 := (HDM.out.2 x hwx).2 hf .nil
                  rw [hat, ← hyd] at h1
                  cases h1
                | some u =>
                  have h1 := (HDM.out.2 x hwx).1 u hf .nil
                  rw [hat, ← hyd] at h1
                  rw [smD_inj h1]
              obtain ⟨vs, hac, hown⟩ := HST.out
              obtain ⟨a2, c2, rfl, -, -, -⟩ := hown.row smEl
              have hbo := HBO.out
              have hrr := HR.out
              have hss := HS0.out
              have hk1 : Kept (fun q => q = r) Y.1 wn := Kept.of_grown hg1 (fun g e _ => by injection e with e; exact e.symm)
              have hac1 := hac.kept hk1 (by omega)
              have hown1 := hown.keepO hk1 (fun g hg e => by have := (hown.lt g hg).1; omega)
              have hYn : Kept (fun q => q = BO) W wn := Y.2.grown hg1 (fun g e hlt => by injection e with e; omega)
              obtain ⟨V6, hV6, hb6, hs6, ha6⟩ := alloc_sm wn c
              have ha7 := ha6.set0 x
              obtain ⟨W6, hW6⟩ : ∃ z, V6.setCell ⟨wn.heap.size, 0, none⟩ (.int .i64 x) = z := ⟨_, rfl⟩
              rw [hW6] at ha7
              have hB6 : Below wn.heap.size wn W6 := Kept.below hb6 (by rw [← hW6]; exact keep_set (O := fun q => q = wn.heap.size) rfl) hb6.size (fun k hk e => by omega)
              have q0 := ha6.cell.1
              have f0 := ha6.free 0
              obtain ⟨p0, p1, p2, p3, p4, p5, p6⟩ := ha7.cell
              simp only at p0 p1 p2 p3 p4 p5 p6
              have k3 := (hac1.below hB6).cell.2.2.2.1
              obtain ⟨V7, hV7, hb7, hs7, hl7⟩ := alloc_cells W6 #[.int .i64 x, .int .i64 c.x, .int .i64 c.y, .int .i64 c.z, .int .i64 c.pu, .int .i64 c.po, .int .i64 c.st] 32
              have HC7 := Lib.hid (fun j u (hj : (smC { c with tm := x })[j]? = some u) => show V7.cell? ⟨W6.heap.size, j, none⟩ = some u from hl7 j u (by rw [← hj]; simp [smC]))
              have hB7 := below_step hB6 hb7
              have HO7 := Lib.hid (hown1.below hB7)
              have HA7 := Lib.hid (hac1.below hB7)
              have HK7 := Lib.hid (hYn.trans (Kept.of_below hB7))
              have HG7 := Lib.hid (show wn.grownBy V7 none from ⟨hB7.os, hB7.tape, hB7.output, hB7.size, fun i hi _ => hB7.block i hi⟩)
              have HS7 := Lib.hid (show w0.heap.size ≤ V7.heap.size from by have := hrg1.lt; have := hB7.size; omega)
              have HG1 := Lib.hid (And.intro hrg1 (And.intro hlt (And.intro hlk hF)))
              have hLL : L.length ≤ 40000 := by have := HRS.out.2; have := HN.out; omega
              have HLL := Lib.hid hLL
              unfold smV at hen ⊢
              clear hac hown hac1 hown1 hb6 hs6 ha6 ha7 hB6 hb7 hs7 hl7 hB7 hkey hlk hRy hat hrg1 hlt hg1 hs1 hyd hF hk1 hYn hwx hLL hbo hrr hss
              go_wp2_with (at_builtin; refine append_Sm rfl _ _ rfl rfl HO7.out (p := { c with tm := x }) rfl HC7.out (by have := HLL.out; omega) HS7.out (fun g' c3 w8 ho8 hg8 hor => ?_); have HA8 := Lib.hid (HA7.out.kept (O := fun b => w0.heap.size ≤ b) (Kept.of_grown hg8 (fun g e _ => (HO7.out.lt g e).1)) (by have := HBO.out; have := HR.out; have := HS0.out; omega)); have j8 := HA8.out.cell.2.2.2.1; have f8 := HA8.out.free 3; obtain ⟨W9, hW9⟩ : ∃ z, w8.setCell ⟨BO, 3, none⟩ (.slice (some ⟨g', 0, none⟩) (L.length + 1) c3) = z := ⟨_, rfl⟩)
              have ha9 := HA8.out.set3 (.slice (some ⟨g', 0, none⟩) (L.length + 1) c3)
              rw [hW9] at ha9
              have hk9 : Kept (fun q => q = BO) w8 W9 := by rw [← hW9]; exact keep_set (O := fun q => q = BO) rfl
              have hbo := HBO.out
              have hrr := HR.out
              have hss := HS0.out
              have hmb := HMB.out
              have hx3 := X.2.size
              have HO9 := Lib.hid (ho8.keepO hk9 (fun b hb e => by have := (ho8.lt b hb).1; omega))
              have HA9 := Lib.hid ha9
              have HK9 := Lib.hid ((HK7.out.grown hg8 (fun g e hlt => by have := (HO7.out.lt g e).1; omega)).trans hk9)
              have hrg9 := ((HG1.out.1.kept HG7.out (by simp) (by simp)).kept hg8 (fun e => by have := (HO7.out.lt _ e.symm).1; omega) (fun e => by have := (HO7.out.lt _ e.symm).1; omega)).kept (row := some BO) (w' := W9) ⟨hk9.os, hk9.tape, hk9.output, hk9.size, fun i hi hn => hk9.block i hi (fun e => hn (by rw [e]))⟩ (fun e => by injection e with e; omega) (fun e => by injection e with e; omega)
              have HM9 := Lib.hid (show W9.rangeLeft MB r < Y.1.rangeLeft MB r from by rw [hrg9.left_eq, HRG.out.left_eq]; exact HG1.out.2.1)
              have HRG9 := Lib.hid hrg9
              have HRS9 := Lib.hid (show RgS (mgF A B shift) (fun z => left z && !z.sameKey (.int .i64 x)) (L ++ [{ c with tm := x }]) ∧ (L ++ [{ c with tm := x }]).length + cnt1 ≤ N from ⟨HRS.out.1.step HG1.out.2.2.1 HG1.out.2.2.2, by rw [List.length_append]; have := HRS.out.2; have := HG1.out.2.1; simp only [List.length_singleton]; omega⟩)
              clear ho8 hg8 hor ha9 hk9 hW9 j8 f8 hrg9
              go_roundw
              case rel => exact ⟨_, cnt1, _, HRG9, HRS9, Lib.hid ⟨_, HA9.out, HO9.out⟩, ⟨W9, HK9.out⟩, rfl⟩
              case measure => exact HM9.out
end Go.Proofs.Ytlffdahbnhdnjaa

/- Two recordings of one: the law's plain side. -/
namespace Go.Proofs.Ytlffdahbnhdnjaa
open Tr (inR)

/-- two lists in strict order with the same members are one -/
theorem uniq_sorted {α : Type} {R : α → α → Prop} (irr : ∀ x, ¬ R x x) (tr : ∀ x y z, R x y → R y z → R x z) : ∀ (l1 l2 : List α), l1.Pairwise R → l2.Pairwise R → (∀ x, x ∈ l1 ↔ x ∈ l2) → l1 = l2
  | [], l2, _, _, h => by
    cases l2 with
    | nil => rfl
    | cons b l2 => exact absurd ((h b).2 List.mem_cons_self) (by simp)
  | a :: l1, [], _, _, h => absurd ((h a).1 List.mem_cons_self) (by simp)
  | a :: l1, b :: l2, h1, h2, h => by
    rw [List.pairwise_cons] at h1 h2
    have hab : a = b := by
      rcases List.mem_cons.1 ((h a).1 List.mem_cons_self) with e | ha
      · exact e
      · rcases List.mem_cons.1 ((h b).2 List.mem_cons_self) with e | hb
        · exact e.symm
        · exact absurd (tr _ _ _ (h1.1 b hb) (h2.1 a ha)) (irr a)
    subst hab
    rw [uniq_sorted irr tr l1 l2 h1.2 h2.2 (fun x => ⟨fun hx => by
      rcases List.mem_cons.1 ((h x).1 (List.mem_cons_of_mem _ hx)) with e | e
      · subst e
        exact absurd (h1.1 x hx) (irr x)
      · exact e, fun hx => by
      rcases List.mem_cons.1 ((h x).2 (List.mem_cons_of_mem _ hx)) with e | e
      · subst e
        exact absurd (h2.1 x hx) (irr x)
      · exact e⟩)]
theorem tg_sorted {l : List ByteArray} (h : TgOk l) : l.Pairwise (fun x y => bL x < bL y) := by
  have h1 : ∀ i p s, l[i]? = some p → l[i + 1]? = some s → bL p < bL s := fun i p s hp hs => by
    have := h.next i p s hp hs
    rw [ByteArray.toList_eq, ByteArray.toList_eq, bytesLess_eq, decide_eq_true_eq] at this
    exact this
  have h2 : ∀ d i p s, l[i]? = some p → l[i + d + 1]? = some s → bL p < bL s := by
    intro d
    induction d with
    | zero => exact fun i p s hp hs => h1 i p s hp hs
    | succ d ih =>
      intro i p s hp hs
      obtain ⟨t, ht⟩ : ∃ t, l[i + d + 1]? = some t := ⟨_, List.getElem?_eq_getElem (by have := (List.getElem?_eq_some_iff.1 hs).1; omega)⟩
      exact List.lt_trans (ih i p t hp ht) (h1 _ t s ht hs)
  rw [List.pairwise_iff_getElem]
  intro i j hi hj hij
  exact h2 (j - i - 1) i _ _ (List.getElem?_eq_getElem hi) (by rw [show i + (j - i - 1) + 1 = j by omega]; exact List.getElem?_eq_getElem hj)
theorem bL_irr (x : ByteArray) : ¬ bL x < bL x := List.lt_irrefl _
theorem sm_inj {A : Acv} (h : SmOk A.start A.sm) {s t : Sm} (hs : s ∈ A.sm) (ht : t ∈ A.sm) (e : s.tm = t.tm) : s = t := by
  obtain ⟨i, hi, rfl⟩ := List.getElem_of_mem hs
  obtain ⟨j, hj, rfl⟩ := List.getElem_of_mem ht
  rcases Nat.lt_trichotomy i j with g | g | g
  · have := h.lt g (List.getElem?_eq_getElem hi) (List.getElem?_eq_getElem hj)
    omega
  · subst g
    rfl
  · have := h.lt g (List.getElem?_eq_getElem hj) (List.getElem?_eq_getElem hi)
    omega
/-- alike but for their seconds -/
def Sim (u s : Sm) : Prop := ∀ t : Int, ({ u with tm := t } : Sm) = { s with tm := t }
theorem Sim.back (d : Int) (s : Sm) : Sim (backS d s) s := fun _ => rfl
structure Good (A : Acv) (f : Int → Option Sm) (S : List Sm) : Prop where
  of : ∀ j u, f j = some u → ∃ s, s ∈ S ∧ j = A.start + s.tm ∧ Sim u s
  has : ∀ s, s ∈ S → ∃ u, f (A.start + s.tm) = some u ∧ Sim u s
theorem Good.put {A : Acv} (hA : SmOk A.start A.sm) {f : Int → Option Sm} {S : List Sm} (h : Good A f S) (hS : ∀ s, s ∈ S → s ∈ A.sm) {s u : Sm} (hs : s ∈ A.sm) (hu : Sim u s) : Good A (putS f (A.start + s.tm) u) (S ++ [s]) := by
  refine ⟨fun j v hv => ?_, fun t ht => ?_⟩
  · unfold putS at hv
    split at hv
    · rename_i e
      have hv := Option.some.inj hv
      subst hv
      exact ⟨s, by simp, e, hu⟩
    · obtain ⟨t, h1, h2⟩ := h.of j v hv
      exact ⟨t, by simp [h1], h2⟩
  · unfold putS
    rcases List.mem_append.1 ht with ht | ht
    · by_cases e : A.start + t.tm = A.start + s.tm
      · have : t = s := sm_inj hA (hS t ht) hs (by omega)
        subst this
        rw [if_pos rfl]
        exact ⟨u, rfl, hu⟩
      · rw [if_neg e]
        exact h.has t ht
    · rw [List.mem_singleton.1 ht, if_pos rfl]
      exact ⟨u, rfl, hu⟩
theorem goodB {A : Acv} (hA : SmOk A.start A.sm) {bs shift d : Int} (hb : bs - shift = A.start + d) : ∀ (l S : List Sm) (f : Int → Option Sm), Good A f S → (∀ s, s ∈ S → s ∈ A.sm) → (∀ s, s ∈ l → s ∈ A.sm) →
    Good A ((l.map (backS d)).foldl (fun f s => putS f (bs + s.tm - shift) s) f) (S ++ l)
  | [], S, f, h, _, _ => by simpa using h
  | s :: l, S, f, h, hS, hl => by
    rw [List.map_cons, List.foldl_cons]
    have e : bs + (backS d s).tm - shift = A.start + s.tm := by
      show bs + (s.tm - d) - shift = _
      omega
    rw [e]
    have h1 := h.put hA hS (hl s List.mem_cons_self) (Sim.back d s)
    have h2 := goodB hA hb l (S ++ [s]) _ h1 (fun t ht => by
      rcases List.mem_append.1 ht with ht | ht
      · exact hS t ht
      · rw [List.mem_singleton.1 ht]
        exact hl s List.mem_cons_self) (fun t ht => hl t (List.mem_cons_of_mem _ ht))
    rw [List.append_assoc] at h2
    exact h2
theorem goodA {A X : Acv} (hA : SmOk A.start A.sm) {d : Int} (hx : X.start = A.start + d) : ∀ (l S : List Sm) (f : Int → Option Sm), Good A f S → (∀ s, s ∈ S → s ∈ A.sm) → (∀ s, s ∈ l → s ∈ A.sm) → (∀ s, s ∈ l → s ∉ S) → l.Nodup →
    Good A ((l.map (backS d)).foldl (stepA X) f) (S ++ l)
  | [], S, f, h, _, _, _, _ => by simpa using h
  | s :: l, S, f, h, hS, hl, hd, hn => by
    rw [List.map_cons, List.foldl_cons]
    have e : X.start + (backS d s).tm = A.start + s.tm := by
      show X.start + (s.tm - d) = _
      omega
    have hf : f (A.start + s.tm) = none := by
      cases hf : f (A.start + s.tm) with
      | none => rfl
      | some u =>
        obtain ⟨t, ht, he, _⟩ := h.of _ u hf
        have : s = t := sm_inj hA (hl s List.mem_cons_self) (hS t ht) (by omega)
        subst this
        exact absurd ht (hd s List.mem_cons_self)
    have hst : stepA X f (backS d s) = putS f (A.start + s.tm) (backS d s) := by
      unfold stepA
      rw [e, hf]
    rw [hst]
    rw [List.nodup_cons] at hn
    have h1 := h.put hA hS (hl s List.mem_cons_self) (Sim.back d s)
    have h2 := goodA hA hx l (S ++ [s]) _ h1 (fun t ht => by
      rcases List.mem_append.1 ht with ht | ht
      · exact hS t ht
      · rw [List.mem_singleton.1 ht]
        exact hl s List.mem_cons_self) (fun t ht => hl t (List.mem_cons_of_mem _ ht)) (fun t ht hh => by
      rcases List.mem_append.1 hh with hh | hh
      · exact hd t (List.mem_cons_of_mem _ ht) hh
      · rw [List.mem_singleton.1 hh] at ht
        exact hn.1 ht) hn.2
    rw [List.append_assoc] at h2
    exact h2
theorem good_start (A : Acv) : Good A (fun _ => none) [] := ⟨fun _ _ h => by (cases h), fun s h => absurd h (by simp)⟩
end Go.Proofs.Ytlffdahbnhdnjaa

/- What a merged recording holds (plain). -/
namespace Go.Proofs.Ytlffdahbnhdnjaa
open Tr (inR)

theorem foldB_keep {bs sh : Int} : ∀ (l : List Sm) (f : Int → Option Sm) (j : Int), (∀ s, s ∈ l → j ≠ bs + s.tm - sh) → l.foldl (fun f s => putS f (bs + s.tm - sh) s) f j = f j
  | [], _, _, _ => rfl
  | s :: l, f, j, h => by
    rw [List.foldl_cons, foldB_keep l _ j (fun t ht => h t (List.mem_cons_of_mem _ ht))]
    unfold putS
    rw [if_neg (h s List.mem_cons_self)]
theorem foldB_hit {bs sh : Int} : ∀ (l : List Sm) (f : Int → Option Sm) (s : Sm), l.Pairwise (fun x y => x.tm < y.tm) → s ∈ l → l.foldl (fun f s => putS f (bs + s.tm - sh) s) f (bs + s.tm - sh) = some s
  | t :: l, f, s, hp, hs => by
    rw [List.pairwise_cons] at hp
    rw [List.foldl_cons]
    rcases List.mem_cons.1 hs with rfl | hs
    · rw [foldB_keep l _ _ (fun u hu e => by have := hp.1 u hu; omega)]
      unfold putS
      rw [if_pos rfl]
    · exact foldB_hit l _ s hp.2 hs
theorem foldA_keep {A : Acv} : ∀ (l : List Sm) (f : Int → Option Sm) (j : Int), (∀ s, s ∈ l → j ≠ A.start + s.tm) → l.foldl (stepA A) f j = f j
  | [], _, _, _ => rfl
  | s :: l, f, j, h => by
    rw [List.foldl_cons, foldA_keep l _ j (fun t ht => h t (List.mem_cons_of_mem _ ht))]
    unfold stepA putS
    rw [if_neg (h s List.mem_cons_self)]
/-- a sample of the first one, filled -/
def withF (f : Int → Option Sm) (j : Int) (s : Sm) : Sm := match f j with
  | some t => fillS s t
  | none => s
theorem foldA_hit {A : Acv} : ∀ (l : List Sm) (f : Int → Option Sm) (s : Sm), l.Pairwise (fun x y => x.tm < y.tm) → s ∈ l → l.foldl (stepA A) f (A.start + s.tm) = some (withF f (A.start + s.tm) s)
  | t :: l, f, s, hp, hs => by
    rw [List.pairwise_cons] at hp
    rw [List.foldl_cons]
    rcases List.mem_cons.1 hs with rfl | hs
    · rw [foldA_keep l _ _ (fun u hu e => by have := hp.1 u hu; omega)]
      unfold stepA putS
      rw [if_pos rfl]
      rfl
    · rw [foldA_hit l _ s hp.2 hs]
      have hne : A.start + s.tm ≠ A.start + t.tm := by have := hp.1 s hs; omega
      unfold withF stepA putS
      rw [if_neg hne]
theorem Sm.tm_eq {u s : Sm} (h : s = { u with tm := s.tm }) : s.x = u.x ∧ s.y = u.y ∧ s.z = u.z ∧ s.pu = u.pu ∧ s.po = u.po ∧ s.st = u.st := by
  rw [h]
  exact ⟨rfl, rfl, rfl, rfl, rfl, rfl⟩
theorem withF_place (f : Int → Option Sm) (j : Int) (s : Sm) : (withF f j s).x = s.x ∧ (withF f j s).y = s.y ∧ (withF f j s).z = s.z := by
  unfold withF
  cases f j with
  | none => exact ⟨rfl, rfl, rfl⟩
  | some t => exact ⟨rfl, rfl, rfl⟩
theorem smok_sorted {start : Int} {l : List Sm} (h : SmOk start l) : l.Pairwise (fun x y => x.tm < y.tm) := by
  rw [List.pairwise_iff_getElem]
  intro i j hi hj hij
  exact h.lt hij (List.getElem?_eq_getElem hi) (List.getElem?_eq_getElem hj)
section
variable {A B : Acv} {shift : Int} {L : List Sm} {T : List ByteArray}
theorem mgF_first (hA : SmOk A.start A.sm) {s : Sm} (hs : s ∈ A.sm) : mgF A B shift (A.start + s.tm) = some (withF (mapB B shift B.sm) (A.start + s.tm) s) := by
  unfold mgF mapA
  exact foldA_hit _ _ s (smok_sorted hA) hs
theorem mgF_second (hB : SmOk B.start B.sm) {s : Sm} (hs : s ∈ B.sm) (hn : ∀ t, t ∈ A.sm → B.start + s.tm - shift ≠ A.start + t.tm) : mgF A B shift (B.start + s.tm - shift) = some s := by
  unfold mgF mapA
  rw [foldA_keep _ _ _ hn]
  unfold mapB
  exact foldB_hit _ _ s (smok_sorted hB) hs
/-- a moment of the first one -/
def isFst (A : Acv) (j : Int) : Bool := A.sm.any fun s => decide (A.start + s.tm = j)
theorem isFst_iff {j : Int} : isFst A j = true ↔ ∃ s, s ∈ A.sm ∧ A.start + s.tm = j := by
  unfold isFst
  rw [List.any_eq_true]
  simp
theorem merged_first (hM : MgIs A B shift L T) (hA : SmOk A.start A.sm) {s : Sm} (hs : s ∈ A.sm) : ∃ t, t ∈ L ∧ t.tm = A.start + s.tm ∧ t.x = s.x ∧ t.y = s.y ∧ t.z = s.z := by
  obtain ⟨h1, h2, h3⟩ := withF_place (mapB B shift B.sm) (A.start + s.tm) s
  exact ⟨{ withF (mapB B shift B.sm) (A.start + s.tm) s with tm := A.start + s.tm }, (hM.mem _).2 ⟨_, mgF_first hA hs, rfl⟩, rfl, h1, h2, h3⟩
theorem merged_second (hM : MgIs A B shift L T) (hB : SmOk B.start B.sm) {s : Sm} (hs : s ∈ B.sm) (hn : isFst A (B.start + s.tm - shift) = false) : ∃ t, t ∈ L ∧ t.tm = B.start + s.tm - shift ∧ t.x = s.x ∧ t.y = s.y ∧ t.z = s.z ∧ t.pu = s.pu := by
  have hn' : ∀ t, t ∈ A.sm → B.start + s.tm - shift ≠ A.start + t.tm := fun t ht e => by
    rw [isFst_iff.2 ⟨t, ht, e.symm⟩] at hn
    cases hn
  exact ⟨{ s with tm := B.start + s.tm - shift }, (hM.mem _).2 ⟨s, mgF_second hB hs hn', rfl⟩, rfl, rfl, rfl, rfl, rfl⟩
theorem same_length {l1 l2 : List Int} (h1 : l1.Nodup) (h2 : l2.Nodup) (h : ∀ x, x ∈ l1 ↔ x ∈ l2) : l1.length = l2.length := by
  exact ((List.perm_ext_iff_of_nodup h1 h2).2 h).length_eq
theorem nodup_of_lt {α : Type} {f : α → Int} {l : List α} (h : l.Pairwise (fun x y => f x < f y)) : (l.map f).Nodup := by
  unfold List.Nodup
  rw [List.pairwise_map]
  exact h.imp (fun {a b} hab e => by omega)
/-- how many the merged recording has -/
theorem merged_many (hM : MgIs A B shift L T) (hA : SmOk A.start A.sm) (hB : SmOk B.start B.sm) : L.length = A.sm.length + (B.sm.filter fun s => !isFst A (B.start + s.tm - shift)).length := by
  have e := same_length (l1 := L.map (·.tm)) (l2 := A.sm.map (fun s => A.start + s.tm) ++ (B.sm.filter fun s => !isFst A (B.start + s.tm - shift)).map (fun s => B.start + s.tm - shift)) (nodup_of_lt hM.sorted) ?_ ?_
  · rw [List.length_map, List.length_append, List.length_map, List.length_map] at e
    exact e
  · rw [List.nodup_append]
    refine ⟨nodup_of_lt ((smok_sorted hA).imp (fun {a b} h => by show A.start + a.tm < A.start + b.tm; omega)), nodup_of_lt (((smok_sorted hB).filter _).imp (fun {a b} h => by show B.start + a.tm - shift < B.start + b.tm - shift; omega)), fun x hx y hy exy => ?_⟩
    subst exy
    obtain ⟨s, hs, rfl⟩ := List.mem_map.1 hx
    obtain ⟨t, ht, e⟩ := List.mem_map.1 hy
    have h2 := (List.mem_filter.1 ht).2
    rw [isFst_iff.2 ⟨s, hs, e.symm⟩] at h2
    cases h2
  · intro x
    rw [List.mem_append]
    constructor
    · intro hx
      obtain ⟨s, hs, rfl⟩ := List.mem_map.1 hx
      obtain ⟨u, hu, _⟩ := (hM.mem s).1 hs
      by_cases hf : isFst A s.tm = true
      · obtain ⟨t, ht, e⟩ := isFst_iff.1 hf
        exact Or.inl (List.mem_map.2 ⟨t, ht, e⟩)
      · rcases mgF_key hu with ⟨t, ht, e⟩ | ⟨t, ht, e⟩
        · exact absurd (isFst_iff.2 ⟨t, ht, e.symm⟩) hf
        · exact Or.inr (List.mem_map.2 ⟨t, List.mem_filter.2 ⟨ht, by rw [← e]; simpa using hf⟩, e.symm⟩)
    · rintro (hx | hx)
      · obtain ⟨s, hs, rfl⟩ := List.mem_map.1 hx
        obtain ⟨t, ht, e, _⟩ := merged_first hM hA hs
        exact List.mem_map.2 ⟨t, ht, e⟩
      · obtain ⟨s, hs, rfl⟩ := List.mem_map.1 hx
        obtain ⟨h1, h2⟩ := List.mem_filter.1 hs
        obtain ⟨t, ht, e, _⟩ := merged_second hM hB h1 (by simpa using h2)
        exact List.mem_map.2 ⟨t, ht, e⟩
end
end Go.Proofs.Ytlffdahbnhdnjaa

/- trail.Merge where it fails; Merge whole. (first half as in Tmp) -/
namespace Go.Proofs.Ytlffdahbnhdnjaa
open Go.RowKit Go.BigFrame
open Tr (inR)

/-- the error of Merge's arguments -/
def mgE (A B : Acv) (shift : Int) : Int := if chkA A ≠ 0 then chkA A else if chkA B ≠ 0 then chkA B else if A.sport ≠ B.sport then 7 else if inR shift (-86399999999) 86399999999 = true then 0 else 9
set_option maxHeartbeats 8000000 in
set_option maxRecDepth 100000 in
theorem mergeBad_any (A B : Acv) (a b c a' b' c' : Option Addr) (ca cb cc ca' cb' cc' : Nat) (shift : Int) (w : World) (hA : ActIn w A a b c) (hB : ActIn w B a' b' c') (hne : mgE A B shift ≠ 0) :
    Calls Try.prog 4 #[actV A a b c ca cb cc, actV B a' b' c' ca' cb' cc', .int .i64 shift] w fun e w' => e = .returned (.tuple #[ac0, .int .i64 (mgE A B shift)]) ∧ Below w.heap.size w w' := by
  obtain ⟨V0, hV0, hb0, hs0, ha0⟩ := alloc_ac w A.name A.sport A.start (.slice a A.sm.length ca) (.slice b A.lp.length cb) (.slice c A.tg.length cc)
  obtain ⟨V1, hV1, hb1, hs1, ha1⟩ := alloc_ac V0 B.name B.sport B.start (.slice a' B.sm.length ca') (.slice b' B.lp.length cb') (.slice c' B.tg.length cc')
  obtain ⟨V2, hV2, hb2, hs2, ha2⟩ := alloc_ac V1 ⟨#[]⟩ 0 0 (.slice none 0 0) (.slice none 0 0) (.slice none 0 0)
  rw [hs0] at ha1
  rw [hs1, hs0] at ha2
  have hs11 : V1.heap.size = w.heap.size + 1 + 1 := by rw [hs1, hs0]
  have hA0 := (ha0.below hb1).below hb2
  have hA1 := ha1.below hb2
  have HB := Lib.hid (below_step (below_step hb0 hb1) hb2)
  have HIA := Lib.hid (hA.below HB.out)
  have HIB := Lib.hid (hB.below HB.out)
  obtain ⟨eA, heA⟩ : ∃ e, chkA A = e := ⟨_, rfl⟩
  obtain ⟨eB, heB⟩ : ∃ e, chkA B = e := ⟨_, rfl⟩
  obtain ⟨er, her⟩ : ∃ x, mgE A B shift = x := ⟨_, rfl⟩
  rw [her] at hne ⊢
  unfold mgE at her
  rw [heA, heB] at her
  have HER := Lib.hid her
  clear her
  have HSZ := Lib.hid (show V2.heap.size = w.heap.size + 3 from by rw [hs2, hs1, hs0])
  have HA0 := Lib.hid hA0
  have HA1 := Lib.hid hA1
  have HA2 := Lib.hid ha2
  have DIN := Lib.hid (fun n lo hi W => tin_any n lo hi W)
  have DA := Lib.hid (fun X : Ext V2 => show Calls Try.prog 10 #[.agg #[.string A.name, .int .i64 A.sport, .int .i64 A.start, .slice a A.sm.length ca, .slice b A.lp.length cb, .slice c A.tg.length cc]] X.1 fun e w'' => e = .returned (.int .i64 eA) ∧ ∃ Y : Ext V2, w'' = Y.1 from by
    have h := check_any A a b c ca cb cc X.1 (HIA.out.below X.2)
    unfold ChkG actV at h
    rw [heA] at h
    exact X.calls h)
  have DB := Lib.hid (fun X : Ext V2 => show Calls Try.prog 10 #[.agg #[.string B.name, .int .i64 B.sport, .int .i64 B.start, .slice a' B.sm.length ca', .slice b' B.lp.length cb', .slice c' B.tg.length cc']] X.1 fun e w'' => e = .returned (.int .i64 eB) ∧ ∃ Y : Ext V2, w'' = Y.1 from by
    have h := check_any B a' b' c' ca' cb' cc' X.1 (HIB.out.below X.2)
    unfold ChkG actV at h
    rw [heB] at h
    exact X.calls h)
  obtain ⟨z0, z1, z2, z3, z4, z5⟩ := hA0.cell
  have A0 := Ext.ex z0
  have A1 := Ext.ex z1
  have A2 := Ext.ex z2
  have A3 := Ext.ex z3
  have A4 := Ext.ex z4
  have A5 := Ext.ex z5
  obtain ⟨y0, y1, y2, y3, y4, y5⟩ := hA1.cell
  have B0 := Ext.ex y0
  have B1 := Ext.ex y1
  have B2 := Ext.ex y2
  have B3 := Ext.ex y3
  have B4 := Ext.ex y4
  have B5 := Ext.ex y5
  have HV := Lib.hid (And.intro hV0 (And.intro hV1 hV2))
  clear hA hB heA heB hb0 hb1 hb2 ha0 ha1 ha2 hA0 hA1 hs1 hs2 z0 z1 z2 z3 z4 z5 y0 y1 y2 y3 y4 y5
  unfold actV
  go_enter Try.func4, Try.ntmps4
  go_upto_region 1 with (fail)
  clear hV0 hV1 hV2
  refine ext_wp (W := V2) fun X => ?_
  refine held_start (C := fun w' => ∃ Z : Ext V2, w' = Z.1) (by kernel_rfl) ?_
  obtain ⟨Z0, hZ0⟩ : ∃ Z : Ext V2, ({ X.1 with drawn := X.1.drawn + 1 } : World) = Z.1 := ⟨⟨{ X.1 with drawn := X.1.drawn + 1 }, below_step X.2 ⟨rfl, rfl, rfl, Nat.le_refl _, fun _ _ => rfl⟩⟩, rfl⟩
  rw [hZ0]
  clear hZ0
  refine held_quiet (by kernel_rfl) (fun _ _ d _ _ h => by cases d <;> exact h) ⟨Z0, rfl⟩ [0, 2] 5 _ _ (by kernel_rfl) ?_
  change wpQuiet _ _ _ _ (_ :: _ :: []) _
  repeat go_big_quiet_step (fail)
  refine wpQuiet_nil ?_
  refine held_do (i := 1) _ rfl (by kernel_rfl) rfl (fun K hK => ?_)
  go_simp
  refine (DA.out Z0).mono ?_
  rintro e w1 ⟨rfl, Z1, rfl⟩
  refine hK _ _ ⟨Z1, rfl⟩ ?_
  clear hK K
  try simp only [Act.put, List.setIfInBounds_toArray, List.set_cons_zero, List.set_cons_succ]
  refine held_do (i := 3) _ rfl (by kernel_rfl) rfl (fun K hK => ?_)
  go_simp
  refine (DB.out Z1).mono ?_
  rintro e w1 ⟨rfl, Z2, rfl⟩
  refine hK _ _ ⟨Z2, rfl⟩ ?_
  clear hK K
  try simp only [Act.put, List.setIfInBounds_toArray, List.set_cons_zero, List.set_cons_succ]
  refine held_do (i := 4) _ rfl (by kernel_rfl) rfl (fun K hK => ?_)
  go_simp
  obtain ⟨Wb, hWb, hwb1, hwb2, hwq⟩ := alloc_cells Z2.1 #[.int .i64 eA, .int .i64 eB] 27
  rw [hWb]
  obtain ⟨Z3, rfl⟩ : ∃ Z : Ext V2, Wb = Z.1 := ⟨⟨Wb, below_step Z2.2 hwb1⟩, rfl⟩
  have DO := Lib.hid (orE_any [eA, eB] Z2.1.heap.size 2 Z3.1 (by simp) (fun i v hv => hwq i _ (by
    match i, hv with
    | 0, h => injection h with h; subst h; rfl
    | 1, h => injection h with h; subst h; rfl
    | n + 2, h => simp at h)))
  rw [orL_two] at DO
  obtain ⟨eO, heO⟩ : ∃ e, (if eA ≠ 0 then eA else eB) = e := ⟨_, rfl⟩
  rw [heO] at DO
  refine hK _ _ ⟨Z3, rfl⟩ ?_
  clear hK K hWb hwb1 hwb2 hwq
  try simp only [Act.put, List.setIfInBounds_toArray, List.set_cons_zero, List.set_cons_succ]
  refine held_do (i := 5) _ rfl (by kernel_rfl) rfl (fun K hK => ?_)
  go_simp
  refine DO.out.mono ?_
  rintro e w1 ⟨rfl, rfl⟩
  refine hK _ _ ⟨Z3, rfl⟩ ?_
  clear hK K DO
  try simp only [Act.put, List.setIfInBounds_toArray, List.set_cons_zero, List.set_cons_succ]
  refine held_quiet (by kernel_rfl) (fun _ _ d _ _ h => by cases d <;> exact h) ⟨Z3, rfl⟩ [6] 0 _ _ (by kernel_rfl) ?_
  change wpQuiet _ _ _ _ (_ :: []) _
  repeat go_big_quiet_step (fail)
  refine wpQuiet_nil ?_
  refine wpAnyH_done (by kernel_rfl) ?_ _
  clear DA DB X Z0 Z1
  obtain ⟨WF, hWF, haF, hkF⟩ := (HA2.out.below Z3.2).store ⟨#[]⟩ 0 0 (.slice none 0 0) (.slice none 0 0) (.slice none 0 0)
  have HAF := Lib.hid haF
  have HBF := Lib.hid (show Below w.heap.size w WF from
    have h1 := below_step HB.out Z3.2
    Kept.below h1 (hkF (fun b => b = w.heap.size + 1 + 1) rfl) h1.size (fun k hk e => by omega))
  obtain ⟨r0, r1, r2, r3, r4, r5⟩ := (HA2.out.below Z3.2).cell
  have fr := (HA2.out.below Z3.2).free
  have hTsz : w.heap.size + 1 + 1 < Z3.1.heap.size := (HA2.out.below Z3.2).lt
  clear haF hkF
  by_cases hO : eO = 0
  case neg =>
    have u1 := bneT hO
    have HE := Lib.hid (show er = eO from by
      rw [← HER.out]
      by_cases h : eA = 0
      · have e1 : eB = eO := by rw [← heO, if_neg (by simpa using h)]
        rw [if_neg (show ¬ eA ≠ 0 by simpa using h), e1, if_pos hO]
      · have e1 : eA = eO := by rw [← heO, if_pos h]
        rw [if_pos h, e1])
    clear hO hne heO
    go_wp2_with fail
    have q := HAF.out.cell
    exact bodyPost_ret (v := .tuple #[ac0, .int .i64 eO]) (by simp [results, Try.results4, go_sem, q, ac0]) rfl (by rw [HE.out]; exact ⟨rfl, HBF.out⟩)
  have hA0 : eA = 0 := by
    by_cases h : eA = 0
    · exact h
    · rw [if_pos h] at heO
      exact absurd (heO.trans hO) h
  have hB0 : eB = 0 := by
    rw [if_neg (by simpa using hA0)] at heO
    exact heO.trans hO
  subst hA0 hB0 hO
  clear heO
  by_cases hsp : A.sport = B.sport
  case neg =>
    have u1 := bneT hsp
    have HE := Lib.hid (show er = 7 from by
      rw [← HER.out, if_neg (by simp), if_neg (by simp), if_pos hsp])
    clear hsp hne
    go_wp2_with fail
    have q := HAF.out.cell
    exact bodyPost_ret (v := .tuple #[ac0, .int .i64 7]) (by simp [results, Try.results4, go_sem, q, ac0]) rfl (by rw [HE.out]; exact ⟨rfl, HBF.out⟩)
  have u1 := bneF hsp
  have hir : inR shift (-86399999999) 86399999999 = false := by
    cases h : inR shift (-86399999999) 86399999999 with
    | false => rfl
    | true =>
      rw [← HER.out, if_neg (by simp), if_neg (by simp), if_neg (by simpa using hsp), h] at hne
      exact absurd rfl hne
  have HIR := Lib.hid hir
  have HE := Lib.hid (show er = 9 from by
    rw [← HER.out, if_neg (by simp), if_neg (by simp), if_neg (by simpa using hsp), hir]
    rfl)
  clear hsp hne hir
  go_wp2_with fail
  refine (DIN.out _ _ _ _).mono ?_
  rintro e _ ⟨rfl, rfl⟩
  rw [HIR.out]
  go_wp2_with fail
  have q := HAF.out.cell
  exact bodyPost_ret (v := .tuple #[ac0, .int .i64 9]) (by simp [results, Try.results4, go_sem, q, ac0]) rfl (by rw [HE.out]; exact ⟨rfl, HBF.out⟩)
/-- Merge: an error of its arguments; else as MergeRet says -/
theorem mgE_ok {A B : Acv} {shift : Int} (h : mgE A B shift = 0) : AcOk A ∧ AcOk B ∧ A.sport = B.sport ∧ -86399999999 ≤ shift ∧ shift ≤ 86399999999 := by
  unfold mgE at h
  by_cases h1 : chkA A = 0
  · rw [if_neg (by simpa using h1)] at h
    by_cases h2 : chkA B = 0
    · rw [if_neg (by simpa using h2)] at h
      by_cases h3 : A.sport = B.sport
      · rw [if_neg (by simpa using h3)] at h
        by_cases h4 : inR shift (-86399999999) 86399999999 = true
        · exact ⟨chkA_zero.1 h1, chkA_zero.1 h2, h3, inR_iff.1 h4⟩
        · rw [if_neg h4] at h
          omega
      · rw [if_pos h3] at h
        omega
    · rw [if_pos h2] at h
      exact absurd h h2
  · rw [if_pos h1] at h
    exact absurd h h1
theorem merge_any (A B : Acv) (a b c a' b' c' : Option Addr) (ca cb cc ca' cb' cc' : Nat) (shift : Int) (w : World) (hA : ActIn w A a b c) (hB : ActIn w B a' b' c') :
    Calls Try.prog 4 #[actV A a b c ca cb cc, actV B a' b' c' ca' cb' cc', .int .i64 shift] w fun e w' =>
      (mgE A B shift ≠ 0 ∧ e = .returned (.tuple #[ac0, .int .i64 (mgE A B shift)]) ∧ Below w.heap.size w w') ∨ (mgE A B shift = 0 ∧ MergeRet A B shift w e w') := by
  by_cases h : mgE A B shift = 0
  · obtain ⟨h1, h2, h3, h4, h5⟩ := mgE_ok h
    exact (mergeOk_any A B a b c a' b' c' ca cb cc ca' cb' cc' shift w hA hB h1 h2 h3 h4 h5).mono (fun e w' hr => Or.inr ⟨h, hr⟩)
  · exact (mergeBad_any A B a b c a' b' c' ca cb cc ca' cb' cc' shift w hA hB h).mono (fun e w' hr => Or.inl ⟨h, hr⟩)
end Go.Proofs.Ytlffdahbnhdnjaa

/- TrailMergeHasBoth: a map of marked moments; the closures that look for a sample at a moment. -/
namespace Go.Proofs.Ytlffdahbnhdnjaa
open Go.RowKit Go.BigFrame
open Tr (inR)

def markR : Value → Option (DataW Unit × List MemPlace)
  | .bool x => some (.lit (.bool x), [])
  | _ => none
theorem markR_inv : ∀ v x ps, markR v = some (.lit (.bool x), ps) → v = .bool x := by
  intro v x ps h
  cases v <;> simp [markR] at h
  rw [h.1]
/-- block b is a map that marks the moments of f -/
structure BMap (w : World) (b n : Nat) (f : Int → Bool) : Prop where
  ex : ∃ D, w.ownsMap Try.prog 3 markR b n D ∧ ∀ j : Int, (Lit.int .i64 j).wf = true → D.atKey (.int .i64 j) (.lit (.bool false)) = .lit (.bool (f j))
theorem BMap.made (w : World) : BMap (w.alloc (.map #[] 0)) w.heap.size 0 (fun _ => false) :=
  ⟨.map [], World.ownsMap_made _ _ _ _, fun _ _ => rfl⟩
theorem BMap.lt {w : World} {b n : Nat} {f : Int → Bool} (h : BMap w b n f) : b < w.heap.size := by
  obtain ⟨D, h1, _⟩ := h.ex
  exact h1.lt
theorem BMap.below {w w' : World} {b n : Nat} {f : Int → Bool} (h : BMap w b n f) (hb : Below w.heap.size w w') : BMap w' b n f := by
  obtain ⟨D, h1, h2⟩ := h.ex
  exact ⟨D, h1.kept (row := none) ⟨hb.os, hb.tape, hb.output, hb.size, fun k hk _ => hb.block k hk⟩ (by simp), h2⟩
theorem BMap.look {w : World} {b n : Nat} {f : Int → Bool} (h : BMap w b n f) {j : Int} (hj : (Lit.int .i64 j).wf = true) : (Instr.lookup 36 (.map (some b)) (.int .i64 j) false).run Try.prog w = .ok (.bool (f j)) w := by
  obtain ⟨D, h1, h2⟩ := h.ex
  obtain ⟨v, ps, hrun, hv⟩ := h1.lookup (Maps.int_keyed Try.underlying3) Try.underlying36 (z := .bool false) (by go_simp) (zd := .lit (.bool false)) rfl (Maps.keyOf_int_mk Try.underlying3 hj)
  rw [h2 j hj] at hv
  rw [markR_inv _ _ _ hv] at hrun
  exact hrun
theorem BMap.put {w : World} {b n : Nat} {f : Int → Bool} (h : BMap w b n f) {j : Int} (hj : (Lit.int .i64 j).wf = true) (hn : n < maxLen) : ∃ w', (Instr.mapUpdate 36 (.map (some b)) (.int .i64 j) (.bool true)).run Try.prog w = .ok () w' ∧ BMap w' b (n + 1) (fun i => decide (i = j) || f i) ∧ w.grownBy w' (some b) := by
  obtain ⟨D, h1, h2⟩ := h.ex
  obtain ⟨w', r1, r2, r3⟩ := h1.update (Maps.int_keyed Try.underlying3) Try.underlying36 hn (val := .bool true) (d := .lit (.bool true)) (ps := []) (Maps.keyOf_int_mk Try.underlying3 hj) rfl
  refine ⟨w', r1, ⟨_, r2, fun i hi => ?_⟩, r3⟩
  by_cases e : i = j
  · subst e
    rw [decide_eq_true rfl, Bool.true_or]
    exact Maps.atKey_put_same h1.isMap ((Maps.int_keyed Try.underlying3).key (Maps.keyOf_int_mk Try.underlying3 hi)) _ _
  · rw [decide_eq_false e, Bool.false_or, Maps.atKey_put_other (fun h => by injection h with _ h; exact e h)]
    exact h2 i hi
/-- the first k samples' moments -/
def fstK (A : Acv) (k : Nat) (j : Int) : Bool := (A.sm.take k).any fun s => decide (A.start + s.tm = j)
theorem fstK_succ {A : Acv} {k : Nat} {s : Sm} (h : A.sm[k]? = some s) : (fun j => decide (j = A.start + s.tm) || fstK A k j) = fstK A (k + 1) := by
  funext j
  obtain ⟨h1, e1⟩ := List.getElem?_eq_some_iff.1 h
  unfold fstK
  rw [List.take_succ_eq_append_getElem h1, e1, List.any_append]
  simp only [List.any_cons, List.any_nil, Bool.or_false]
  rw [show decide (A.start + s.tm = j) = decide (j = A.start + s.tm) by simp [eq_comm], Bool.or_comm]
theorem fstK_all (A : Acv) : fstK A A.sm.length = isFst A := by
  funext j
  unfold fstK isFst
  rw [List.take_length]
set_option maxHeartbeats 4000000 in
set_option maxRecDepth 100000 in
theorem atEq_any (s : Sm) (st m : Int) (p1 p2 : Nat) (w : World) (hc : w.cell? ⟨p1, 2, none⟩ = some (.int .i64 st)) (hm : w.cell? ⟨p2, 0, none⟩ = some (.int .i64 m)) (h0 : 0 ≤ st ∧ st ≤ 86399999999) (h1 : 0 ≤ s.tm ∧ s.tm ≤ 1000000) :
    Calls Try.prog 8 #[smV s, .pointer (some ⟨p1, 0, none⟩), .pointer (some ⟨p2, 0, none⟩)] w fun e w' => e = .returned (.bool (decide (st + s.tm = m))) ∧ Below w.heap.size w w' := by
  have c1 := Ext.ex hc
  have c2 := Ext.ex hm
  obtain ⟨V0, hV0, hb0, hs0, ha0⟩ := alloc_sm w s
  obtain ⟨X, rfl⟩ : ∃ Z : Ext w, V0 = Z.1 := ⟨⟨V0, hb0⟩, rfl⟩
  obtain ⟨z0, z1, z2, z3, z4, z5, z6⟩ := ha0.cell
  have HB := Lib.hid hb0
  have hw : IntKind.i64.wrap (st + s.tm) = st + s.tm := tm_wrap (by omega) (by omega)
  have HV := Lib.hid (show (st + s.tm == m) = decide (st + s.tm = m) from by
    by_cases h : st + s.tm = m
    · rw [decide_eq_true h]; simpa using h
    · rw [decide_eq_false h]; simpa using h)
  obtain ⟨bv, hbv⟩ : ∃ b, (st + s.tm == m) = b := ⟨_, rfl⟩
  have HV := Lib.hid (show bv = decide (st + s.tm = m) from hbv ▸ HV.out)
  unfold smV
  clear hc hm hb0 hs0 ha0 h0 h1 z1 z2 z3 z4 z5 z6
  go_enter Try.func8, Try.ntmps8
  go_wp2_with fail
  go_ret
  exact ⟨ret_bool HV.out, HB.out⟩
set_option maxHeartbeats 8000000 in
set_option maxRecDepth 100000 in
theorem idxAt_any (a : Option Addr) (l : List Sm) (c : Nat) (st m : Int) (p1 p2 : Nat) (w : World) (hr : Rw smC 7 w a l) (hl : l.length ≤ 20000) (hc : w.cell? ⟨p1, 2, none⟩ = some (.int .i64 st)) (hm : w.cell? ⟨p2, 0, none⟩ = some (.int .i64 m)) (h0 : 0 ≤ st ∧ st ≤ 86399999999) (h1 : ∀ s, s ∈ l → 0 ≤ s.tm ∧ s.tm ≤ 1000000) :
    Calls Try.prog 7 #[.slice a l.length c, .func (.func 8) #[] #[.pointer (some ⟨p1, 0, none⟩), .pointer (some ⟨p2, 0, none⟩)]] w fun e w' => Below w.heap.size w w' ∧ ((e = .returned (.int .i64 (-1)) ∧ ∀ s, s ∈ l → st + s.tm ≠ m) ∨ ∃ (i : Nat) (s : Sm), e = .returned (.int .i64 (i : Nat)) ∧ l[i]? = some s ∧ st + s.tm = m) := by
  have HR := Lib.hid hr
  have crun : ∀ (args : Array Value) (W : World), Sem.run Try.prog (callFunc 8 args) W = .ok (.enter 8 args) W := fun _ _ => by kernel_rfl
  have D := Lib.hid (fun (Z : Ext w) (s : Sm) (hs : s ∈ l) => atEq_any s st m p1 p2 Z.1 (below_cell Z.2 hc) (below_cell Z.2 hm) h0 (h1 s hs))
  obtain ⟨n, hn⟩ : ∃ n, l.length = n := ⟨_, rfl⟩
  have HN := Lib.hid hn
  rw [hn] at hl ⊢
  clear hr hn hc hm h0 h1
  unfold smV at D
  go_enter Try.func7, Try.ntmps7
  go_wp2_with fail
  go_loopw [8] (fun iv wr => ∃ k : Nat, iv = .int .i64 k ∧ k ≤ n ∧ Hid (∀ i s, i < k → l[i]? = some s → st + s.tm ≠ m) ∧ ∃ X : Ext w, wr = X.1) (fun iv _ => n - (intOf iv).toNat)
  case atStart => exact ⟨0, rfl, by omega, Lib.hid (fun i s h => absurd h (by omega)), ⟨w, Below.refl _ _⟩, rfl⟩
  case round =>
    obtain ⟨k, rfl, hk, HE, X, rfl⟩ := hrel
    by_cases hlt : k < n
    · have t1 : decide ((k : Int) < (n : Int)) = true := by rw [decide_eq_true_eq]; omega
      have t1' : decide (k < n) = true := by simpa using hlt
      obtain ⟨s, hx⟩ : ∃ s, l[k]? = some s := ⟨_, List.getElem?_eq_getElem (by rw [HN.out]; exact hlt)⟩
      obtain ⟨ba, oa, rfl, hba, hcs⟩ := (HR.out.below X.2).at hx
      have c0 : X.1.cell? ⟨ba, oa + k * 7, none⟩ = some (.int .i64 s.tm) := hcs 0 _ rfl
      have c1 : X.1.cell? ⟨ba, oa + k * 7 + 1, none⟩ = some (.int .i64 s.x) := hcs 1 _ rfl
      have c2 : X.1.cell? ⟨ba, oa + k * 7 + 2, none⟩ = some (.int .i64 s.y) := hcs 2 _ rfl
      have c3 : X.1.cell? ⟨ba, oa + k * 7 + 3, none⟩ = some (.int .i64 s.z) := hcs 3 _ rfl
      have c4 : X.1.cell? ⟨ba, oa + k * 7 + 4, none⟩ = some (.int .i64 s.pu) := hcs 4 _ rfl
      have c5 : X.1.cell? ⟨ba, oa + k * 7 + 5, none⟩ = some (.int .i64 s.po) := hcs 5 _ rfl
      have c6 : X.1.cell? ⟨ba, oa + k * 7 + 6, none⟩ = some (.int .i64 s.st) := hcs 6 _ rfl
      have D1 := Lib.hid (D.out X s (List.mem_of_getElem? hx))
      have HX := Lib.hid hx
      clear hx hcs hba
      by_cases hs : st + s.tm = m
      · rw [decide_eq_true hs] at D1
        have HS := Lib.hid hs
        clear hs
        go_wp2_with fail
        refine (D1.out).mono ?_
        rintro e w1 ⟨rfl, hb⟩
        have HB := Lib.hid (below_step X.2 hb)
        clear hb
        go_wp2_with fail
        go_ret
        exact ⟨HB.out, Or.inr ⟨k, s, rfl, HX.out, HS.out⟩⟩
      · rw [decide_eq_false hs] at D1
        have HS := Lib.hid hs
        clear hs
        go_wp2_with fail
        refine (D1.out).mono ?_
        rintro e w1 ⟨rfl, hb⟩
        obtain ⟨Z, rfl⟩ : ∃ Z : Ext w, w1 = Z.1 := ⟨⟨w1, below_step X.2 hb⟩, rfl⟩
        clear hb
        go_wp2_with fail
        go_roundw
        case rel => exact ⟨k + 1, by go_num, by omega, Lib.hid (fun i t hi ht => by
          by_cases e : i = k
          · subst e
            rw [HX.out] at ht
            have ht := Option.some.inj ht
            subst ht
            exact HS.out
          · exact HE.out i t (by omega) ht), Z, rfl⟩
        case measure => simp [intOf]; omega
    · have t1 : decide ((k : Int) < (n : Int)) = false := by rw [decide_eq_false_iff_not]; omega
      have t1' : decide (k < n) = false := by simpa using hlt
      go_wp2_with fail
      go_ret
      refine ⟨X.2, Or.inl ⟨rfl, fun s hs => ?_⟩⟩
      obtain ⟨i, hi, rfl⟩ := List.getElem_of_mem hs
      exact HE.out i _ (by have := HN.out; omega) (List.getElem?_eq_getElem hi)
set_option maxHeartbeats 8000000 in
set_option maxRecDepth 100000 in
theorem at_any (a : Option Addr) (l : List Sm) (c : Nat) (nm : ByteArray) (sp st : Int) (vl vt : Value) (m : Int) (p1 : Nat) (w : World) (hA : AcB w p1 nm sp st (.slice a l.length c) vl vt) (hr : Rw smC 7 w a l) (hl : l.length ≤ 20000) (h0 : 0 ≤ st ∧ st ≤ 86399999999) (h1 : ∀ s, s ∈ l → 0 ≤ s.tm ∧ s.tm ≤ 1000000) :
    Calls Try.prog 6 #[.int .i64 m, .pointer (some ⟨p1, 0, none⟩)] w fun e w' => Below w.heap.size w w' ∧ ∃ (s : Sm) (b : Bool), e = .returned (.tuple #[smV s, .bool b]) ∧ ((b = false ∧ ∀ t, t ∈ l → st + t.tm ≠ m) ∨ (b = true ∧ s ∈ l ∧ st + s.tm = m)) := by
  have hmf : ∀ fn first cap w, (Instr.makeFunc fn first cap).run Try.prog w = .ok (.func fn first cap) w := fun _ _ _ _ => rfl
  obtain ⟨V0, hV0, hb0, hs0, hl0⟩ := alloc_cells w #[.int .i64 m] 3
  obtain ⟨V1, hV1, hb1, hs1, ha1⟩ := alloc_sm V0 sm0
  simp only [sm0] at hV1
  rw [hs0] at ha1
  have HB1 := Lib.hid (below_step hb0 hb1)
  have hs11 : V1.heap.size = w.heap.size + 1 + 1 := by rw [hs1, hs0]
  have hm := below_cell hb1 (hl0 0 _ rfl)
  obtain ⟨_, _, hst, hsl, _, _⟩ := (hA.below HB1.out).cell
  have HR := Lib.hid (hr.below HB1.out)
  have HRES := Lib.hid ha1
  have D := Lib.hid (fun Z : Ext V1 => idxAt_any a l c st m p1 w.heap.size Z.1 (HR.out.below Z.2) hl (below_cell Z.2 hst) (below_cell Z.2 hm) h0 h1)
  have G3 := Ext.ex hsl
  obtain ⟨n, hn⟩ : ∃ n, l.length = n := ⟨_, rfl⟩
  have HN := Lib.hid hn
  rw [hn] at hl D G3
  obtain ⟨X0, hX0⟩ : ∃ Z : Ext V1, V1 = Z.1 := ⟨⟨V1, Below.refl _ _⟩, rfl⟩
  clear hA hr hb0 hb1 hl0 hm hst hsl hn h0 h1 ha1 hs1
  go_enter Try.func6, Try.ntmps6
  go_upto_region 1 with (fail)
  clear hV0 hV1
  go_wp2_with fail
  refine (D.out X0).mono ?_
  rintro e w1 ⟨hb, hcase⟩
  have HB := Lib.hid (below_step HB1.out (below_step X0.2 hb))
  have HRS := Lib.hid ((HRES.out.below X0.2).below hb)
  have HBB := Lib.hid (below_step X0.2 hb)
  have fr := HRS.out.free
  obtain ⟨r0, r1, r2, r3, r4, r5, r6⟩ := HRS.out.cell
  have hTl : w.heap.size + 1 < w1.heap.size := HRS.out.lt
  rcases hcase with ⟨rfl, hno⟩ | ⟨i, s, rfl, hx, he⟩
  · have HNO := Lib.hid hno
    obtain ⟨WF, hWF, hF, hkF⟩ := HRS.out.store sm0
    simp only [sm0] at hWF
    have HF := Lib.hid hF
    have HBF := Lib.hid (show Below w.heap.size w WF from Kept.below HB.out (hkF (fun b => b = w.heap.size + 1) rfl) HB.out.size (fun k hk e => by omega))
    clear hb hno hF hkF hX0
    go_wp2_with fail
    have q := HF.out.cell
    exact bodyPost_ret (v := .tuple #[smV sm0, .bool false]) (by simp [results, Try.results6, go_sem, q, smV]) rfl (by exact ⟨HBF.out, _, _, rfl, Or.inl ⟨rfl, HNO.out⟩⟩)
  · have HE := Lib.hid he
    have HX := Lib.hid hx
    have hin : i < n := by rw [← HN.out]; exact (List.getElem?_eq_some_iff.1 hx).1
    have hneg : decide ((i : Int) < 0) = false := by rw [decide_eq_false_iff_not]; omega
    have hi2 : decide ((i : Int) < (n : Int)) = true := by rw [decide_eq_true_eq]; omega
    have hi3 : decide (i < n) = true := by simpa using hin
    have g3 := G3 ⟨w1, HBB.out⟩
    obtain ⟨ba, oa, rfl, hba, hcs⟩ := (HR.out.below HBB.out).at hx
    have c0 : w1.cell? ⟨ba, oa + i * 7, none⟩ = some (.int .i64 s.tm) := hcs 0 _ rfl
    have c1 : w1.cell? ⟨ba, oa + i * 7 + 1, none⟩ = some (.int .i64 s.x) := hcs 1 _ rfl
    have c2 : w1.cell? ⟨ba, oa + i * 7 + 2, none⟩ = some (.int .i64 s.y) := hcs 2 _ rfl
    have c3 : w1.cell? ⟨ba, oa + i * 7 + 3, none⟩ = some (.int .i64 s.z) := hcs 3 _ rfl
    have c4 : w1.cell? ⟨ba, oa + i * 7 + 4, none⟩ = some (.int .i64 s.pu) := hcs 4 _ rfl
    have c5 : w1.cell? ⟨ba, oa + i * 7 + 5, none⟩ = some (.int .i64 s.po) := hcs 5 _ rfl
    have c6 : w1.cell? ⟨ba, oa + i * 7 + 6, none⟩ = some (.int .i64 s.st) := hcs 6 _ rfl
    obtain ⟨WF, hWF, hF, hkF⟩ := HRS.out.store s
    have HF := Lib.hid hF
    have HBF := Lib.hid (show Below w.heap.size w WF from Kept.below HB.out (hkF (fun b => b = w.heap.size + 1) rfl) HB.out.size (fun k hk e => by omega))
    clear hb hx he hF hkF hcs hba hX0 G3
    go_wp2_with fail
    have q := HF.out.cell
    exact bodyPost_ret (v := .tuple #[smV s, .bool true]) (by simp [results, Try.results6, go_sem, q, smV]) rfl (by exact ⟨HBF.out, _, _, rfl, Or.inr ⟨rfl, List.mem_of_getElem? HX.out, HE.out⟩⟩)
end Go.Proofs.Ytlffdahbnhdnjaa

/- told: some edits tidied as the document tells (Tsh's lines, for laws that need no more of Tidy). -/
namespace Go.Proofs.Ytlffdahbnhdnjaa
open Go.RowKit Go.BigFrame
open Tr (Ed)

theorem ERow.mk2 {W : World} {g : Nat} {l : List Ed} (hg : g < W.heap.size) (hc : ∀ i v, (l.flatMap edC)[i]? = some v → W.cell? ⟨g, i, none⟩ = some v) : ERow W (some ⟨g, 0, none⟩) l := by
  refine ⟨fun _ => ⟨g, 0, rfl, hg, fun i x hx j v hv => ?_⟩⟩
  rw [Nat.zero_add]
  exact hc _ v (flatEd_get l i x hx j v hv)
def sy1 : ByteArray := ⟨#[120]⟩
def toldM : List Ed := [⟨6, 5, 0, 0, noB⟩, ⟨3, 0, 0, 0, sy1⟩, ⟨5, 10, 0, 0, noB⟩, ⟨6, -5, 0, 0, noB⟩, ⟨4, 0, 0, 0, sy1⟩, ⟨5, 20, 0, 0, noB⟩]
theorem toldM_chk : chkEL toldM = 0 := by kernel_rfl
theorem toldM_tidy : tidyR toldM = [⟨5, 30, 0, 0, noB⟩] := by kernel_rfl
theorem toldM_text : ∀ x, x ∈ toldM → x.s.size ≤ maxLen := by
  intro x hx
  unfold toldM at hx
  simp only [List.mem_cons, List.not_mem_nil, or_false] at hx
  unfold maxLen
  rcases hx with rfl | rfl | rfl | rfl | rfl | rfl
  · show (0 : Nat) ≤ _; omega
  · show (1 : Nat) ≤ _; omega
  · show (0 : Nat) ≤ _; omega
  · show (0 : Nat) ≤ _; omega
  · show (1 : Nat) ≤ _; omega
  · show (0 : Nat) ≤ _; omega
set_option maxHeartbeats 1000000 in
set_option maxRecDepth 100000 in
theorem told2_any (w : World) : Calls Try.prog 5 #[] w fun e w' => e = .returned (.bool true) ∧ Below w.heap.size w w' := by
  obtain ⟨V1, hV1, hb1, hs1, hl1⟩ := alloc_cells w #[.int .i64 6, .int .i64 5, .int .i64 0, .int .i64 0, .string noB, .int .i64 3, .int .i64 0, .int .i64 0, .int .i64 0, .string sy1, .int .i64 5, .int .i64 10, .int .i64 0, .int .i64 0, .string noB, .int .i64 6, .int .i64 (-5), .int .i64 0, .int .i64 0, .string noB, .int .i64 4, .int .i64 0, .int .i64 0, .int .i64 0, .string sy1, .int .i64 5, .int .i64 20, .int .i64 0, .int .i64 0, .string noB] 56
  have hrow : ERow V1 (some ⟨w.heap.size, 0, none⟩) toldM := .mk2 (by omega) (fun i v hv => hl1 i v (by
    rw [← hv]
    show _ = (toldM.flatMap edC)[i]?
    rw [show toldM.flatMap edC = (#[.int .i64 6, .int .i64 5, .int .i64 0, .int .i64 0, .string noB, .int .i64 3, .int .i64 0, .int .i64 0, .int .i64 0, .string sy1, .int .i64 5, .int .i64 10, .int .i64 0, .int .i64 0, .string noB, .int .i64 6, .int .i64 (-5), .int .i64 0, .int .i64 0, .string noB, .int .i64 4, .int .i64 0, .int .i64 0, .int .i64 0, .string sy1, .int .i64 5, .int .i64 20, .int .i64 0, .int .i64 0, .string noB] : Array Value).toList from rfl, Array.getElem?_toList]))
  have DT := Lib.hid (tidy_any (some ⟨w.heap.size, 0, none⟩) toldM 6 V1 hrow toldM_text)
  rw [toldM_tidy, toldM_chk, show toldM.length = 6 from rfl] at DT
  have HV1 := Lib.hid hV1
  have HB1 := Lib.hid hb1
  clear hV1 hb1 hs1 hl1 hrow
  unfold noB sy1 at *
  go_enter Try.func5, Try.ntmps5
  go_wp2_with fail
  rw [HV1.out]
  refine DT.out.mono ?_
  rintro e w1 ⟨⟨v, rfl, ho⟩, hb⟩
  obtain ⟨a1, c1, rfl, _, hr1, _⟩ := ho.row
  obtain ⟨V2, hV2, hb2, hs2, hl2⟩ := alloc_cells w1 #[.int .i64 5, .int .i64 30, .int .i64 0, .int .i64 0, .string ⟨#[]⟩] 56
  have hrow2 : ERow V2 (some ⟨w1.heap.size, 0, none⟩) [⟨5, 30, 0, 0, ⟨#[]⟩⟩] := .mk2 (by omega) (fun i v hv => hl2 i v (by
    rw [← hv]
    show _ = ([⟨5, 30, 0, 0, ⟨#[]⟩⟩].flatMap edC)[i]?
    rw [show [⟨5, 30, 0, 0, ⟨#[]⟩⟩].flatMap edC = (#[.int .i64 5, .int .i64 30, .int .i64 0, .int .i64 0, .string ⟨#[]⟩] : Array Value).toList from rfl, Array.getElem?_toList]))
  have DQ := Lib.hid (equalE_any [⟨5, 30, 0, 0, ⟨#[]⟩⟩] [⟨5, 30, 0, 0, ⟨#[]⟩⟩] a1 (some ⟨w1.heap.size, 0, none⟩) c1 1 V2 (hr1.below hb2) hrow2 (by simp))
  rw [eqEs_self] at DQ
  simp only [List.length_singleton] at DQ
  have HB2 := Lib.hid (below_step (below_step HB1.out hb) hb2)
  have HV2 := Lib.hid hV2
  clear ho hb hr1 hV2 hb2 hs2 hl2 hrow2 DT
  simp only [List.length_singleton]
  go_wp2_with fail
  rw [HV2.out]
  refine DQ.out.mono ?_
  rintro e w3 ⟨rfl, q, rfl⟩
  go_wp2_with fail
  go_ret
  exact ⟨rfl, below_drewN HB2.out q⟩
end Go.Proofs.Ytlffdahbnhdnjaa

/- TrailMergeHasBoth: the law's walk. -/
namespace Go.Proofs.Ytlffdahbnhdnjaa
open Go.RowKit Go.BigFrame
open Tr (inR)

theorem merged_uniq {A B : Acv} {shift : Int} {L : List Sm} {T : List ByteArray} (hM : MgIs A B shift L T) {s t : Sm} (hs : s ∈ L) (ht : t ∈ L) (e : s.tm = t.tm) : s = t := by
  obtain ⟨i, hi, rfl⟩ := List.getElem_of_mem hs
  obtain ⟨j, hj, rfl⟩ := List.getElem_of_mem ht
  have h := List.pairwise_iff_getElem.1 hM.sorted
  rcases Nat.lt_trichotomy i j with g | g | g
  · have := h i j hi hj g
    omega
  · subst g
    rfl
  · have := h j i hj hi g
    omega
/-- what a search for a moment tells -/
def AtIs (l : List Sm) (st m : Int) (s : Sm) (b : Bool) : Prop := (b = false ∧ ∀ t, t ∈ l → st + t.tm ≠ m) ∨ (b = true ∧ s ∈ l ∧ st + s.tm = m)
theorem at_there {A B : Acv} {shift : Int} {L : List Sm} {T : List ByteArray} (hM : MgIs A B shift L T) {st m : Int} {s u : Sm} {b : Bool} (h : AtIs (L.map (backS st)) st m s b) (hu : u ∈ L) (hm : u.tm = m) : b = true ∧ s.x = u.x ∧ s.y = u.y ∧ s.z = u.z ∧ s.pu = u.pu := by
  rcases h with ⟨_, hno⟩ | ⟨hb, hs, he⟩
  · exact absurd (show st + (backS st u).tm = m from by show st + (u.tm - st) = m; omega) (hno _ (List.mem_map.2 ⟨u, hu, rfl⟩))
  · obtain ⟨v, hv, rfl⟩ := List.mem_map.1 hs
    have he : st + (v.tm - st) = m := he
    have : v = u := merged_uniq hM hv hu (by omega)
    subst this
    exact ⟨hb, rfl, rfl, rfl, rfl⟩
theorem at_first {A B : Acv} {shift : Int} {L : List Sm} {T : List ByteArray} (hM : MgIs A B shift L T) (hA : SmOk A.start A.sm) {st : Int} {s t : Sm} {b : Bool} (hs : s ∈ A.sm) (h : AtIs (L.map (backS st)) st (A.start + s.tm) t b) : b = true ∧ t.x = s.x ∧ t.y = s.y ∧ t.z = s.z := by
  obtain ⟨u, hu, e, h1, h2, h3⟩ := merged_first hM hA hs
  obtain ⟨g0, g1, g2, g3, _⟩ := at_there hM h hu e
  exact ⟨g0, g1.trans h1, g2.trans h2, g3.trans h3⟩
theorem at_second {A B : Acv} {shift : Int} {L : List Sm} {T : List ByteArray} (hM : MgIs A B shift L T) (hB : SmOk B.start B.sm) {st : Int} {s t : Sm} {b : Bool} (hs : s ∈ B.sm) (hn : isFst A (B.start + s.tm - shift) = false) (h : AtIs (L.map (backS st)) st (B.start + s.tm - shift) t b) : b = true ∧ t.x = s.x ∧ t.y = s.y ∧ t.z = s.z ∧ t.pu = s.pu := by
  obtain ⟨u, hu, e, h1, h2, h3, h4⟩ := merged_second hM hB hs hn
  obtain ⟨g0, g1, g2, g3, g4⟩ := at_there hM h hu e
  exact ⟨g0, g1.trans h1, g2.trans h2, g3.trans h3, g4.trans h4⟩
/-- how many of the second one's first k are alone -/
def aloneK (A B : Acv) (shift : Int) (k : Nat) : Nat := ((B.sm.take k).filter fun s => !isFst A (B.start + s.tm - shift)).length
theorem aloneK_succ {A B : Acv} {shift : Int} {k : Nat} {s : Sm} (h : B.sm[k]? = some s) : aloneK A B shift (k + 1) = aloneK A B shift k + (if isFst A (B.start + s.tm - shift) = true then 0 else 1) := by
  obtain ⟨h1, e1⟩ := List.getElem?_eq_some_iff.1 h
  unfold aloneK
  rw [List.take_succ_eq_append_getElem h1, e1, List.filter_append, List.length_append]
  cases hh : isFst A (B.start + s.tm - shift) <;> simp [hh]
theorem aloneK_le (A B : Acv) (shift : Int) (k : Nat) : aloneK A B shift k ≤ k := by
  unfold aloneK
  have h := List.length_filter_le (fun s : Sm => !isFst A (B.start + s.tm - shift)) (B.sm.take k)
  rw [List.length_take] at h
  omega
theorem merge_parts (A B : Acv) (a b c a' b' c' : Option Addr) (ca cb cc ca' cb' cc' : Nat) (shift : Int) (w : World) (hA : ActIn w A a b c) (hB : ActIn w B a' b' c') :
    Calls Try.prog 4 #[actV A a b c ca cb cc, actV B a' b' c' ca' cb' cc', .int .i64 shift] w fun e w' => Below w.heap.size w w' ∧
      ((∃ (er : Int) (nm : ByteArray) (sp st : Int) (a b c : Option Addr) (na nb nc ca cb cc : Nat), er ≠ 0 ∧ e = .returned (.tuple #[.agg #[.string nm, .int .i64 sp, .int .i64 st, .slice a na ca, .slice b nb cb, .slice c nc cc], .int .i64 er])) ∨
        (mgE A B shift = 0 ∧ ∃ L T za zb zc zca zcb zcc, MgIs A B shift L T ∧ AcOk (mgZ A L T) ∧ ActIn w' (mgZ A L T) za zb zc ∧
          e = .returned (.tuple #[.agg #[.string A.name, .int .i64 A.sport, .int .i64 (mgSt A L), .slice za L.length zca, .slice zb A.lp.length zcb, .slice zc T.length zcc], .int .i64 0]))) := by
  refine (merge_any A B a b c a' b' c' ca cb cc ca' cb' cc' shift w hA hB).mono fun e w' h => ?_
  rcases h with ⟨h1, he, hb⟩ | ⟨h0, L, T, hM, h⟩
  · exact ⟨hb, Or.inl ⟨_, _, _, _, _, _, _, _, _, _, _, _, _, h1, he⟩⟩
  · rcases h with ⟨_, he, hb⟩ | ⟨_, hb, er, her, h⟩
    · exact ⟨hb, Or.inl ⟨3, _, _, _, _, _, _, _, _, _, _, _, _, by omega, he⟩⟩
    · rcases h with ⟨h1, he⟩ | ⟨h1, za, zb, zc, zca, zcb, zcc, he, hin, _⟩
      · exact ⟨hb, Or.inl ⟨er, _, _, _, _, _, _, _, _, _, _, _, _, h1, he⟩⟩
      · refine ⟨hb, Or.inr ⟨h0, L, T, za, zb, zc, zca, zcb, zcc, hM, chkA_zero.1 (by rw [her, h1]), hin, ?_⟩⟩
        rw [he]
        unfold actV mgZ
        simp only [List.length_map]
set_option maxHeartbeats 100000000 in
set_option maxRecDepth 100000 in
theorem hasBoth_law (A B : Acv) (a b c a' b' c' : Option Addr) (ca cb cc ca' cb' cc' : Nat) (shift : Int) (w : World) (hA : ActIn w A a b c) (hB : ActIn w B a' b' c') :
    Calls Try.prog 3 #[actV A a b c ca cb cc, actV B a' b' c' ca' cb' cc', .int .i64 shift] w fun e w' => e = .returned (.bool true) ∧ Below w.heap.size w w' := by
  have hmf : ∀ fn first cap w, (Instr.makeFunc fn first cap).run Try.prog w = .ok (.func fn first cap) w := fun _ _ _ _ => rfl
  have hmm := @run_makeMap Try.prog
  obtain ⟨V0, hV0, hb0, hs0, ha0⟩ := alloc_ac w A.name A.sport A.start (.slice a A.sm.length ca) (.slice b A.lp.length cb) (.slice c A.tg.length cc)
  obtain ⟨V1, hV1, hb1, hs1, ha1⟩ := alloc_ac V0 B.name B.sport B.start (.slice a' B.sm.length ca') (.slice b' B.lp.length cb') (.slice c' B.tg.length cc')
  rw [hs0] at ha1
  have hA0 := ha0.below hb1
  have HB1 := Lib.hid (below_step hb0 hb1)
  have HIA := Lib.hid (hA.below HB1.out)
  have HIB := Lib.hid (hB.below HB1.out)
  have HA0 := Lib.hid hA0
  have HA1 := Lib.hid ha1
  have DM := Lib.hid (fun X : Ext V1 => merge_parts A B a b c a' b' c' ca cb cc ca' cb' cc' shift X.1 (HIA.out.below X.2) (HIB.out.below X.2))
  obtain ⟨z0, z1, z2, z3, z4, z5⟩ := hA0.cell
  have A0 := Ext.ex z0
  have A1 := Ext.ex z1
  have A2 := Ext.ex z2
  have A3 := Ext.ex z3
  have A4 := Ext.ex z4
  have A5 := Ext.ex z5
  obtain ⟨y0, y1, y2, y3, y4, y5⟩ := ha1.cell
  have B0 := Ext.ex y0
  have B1 := Ext.ex y1
  have B2 := Ext.ex y2
  have B3 := Ext.ex y3
  have B4 := Ext.ex y4
  have B5 := Ext.ex y5
  clear hA hB hb0 hb1 ha0 ha1 hA0 hs1 z0 z1 z2 z3 z4 z5 y0 y1 y2 y3 y4 y5
  unfold actV at DM ⊢
  go_enter Try.func3, Try.ntmps3
  go_upto_region 1 with (fail)
  clear hV0 hV1
  refine ext_wp (W := V1) fun X => ?_
  go_wp2_with fail
  refine (DM.out X).mono ?_
  rintro e w2 ⟨hb2, hcase⟩
  have HB2 := Lib.hid (below_step HB1.out (below_step X.2 hb2))
  have H12 := Lib.hid (below_step X.2 hb2)
  clear hb2
  rcases hcase with ⟨er, nm, sp, stt, ba, bb, bc, na, nb, nc, bca, bcb, bcc, hne, rfl⟩ | ⟨hm0, L, T, za, zb, zc, zca, zcb, zcc, hM, hZ, hzin, rfl⟩
  · have u1 := bneT hne
    obtain ⟨V3, hV3, hb3, _, _⟩ := alloc_ac w2 nm sp stt (.slice ba na bca) (.slice bb nb bcb) (.slice bc nc bcc)
    have HB3 := Lib.hid (below_step HB2.out hb3)
    clear hb3 hne
    go_wp2_with fail
    refine (told2_any _).mono ?_
    rintro e w6 ⟨rfl, hb6⟩
    have HB6 := Lib.hid (below_step HB3.out hb6)
    clear hb6
    go_wp2_with fail
    go_ret
    exact ⟨rfl, HB6.out⟩
  obtain ⟨oA, oB, hsp, hsh0, hsh1⟩ := mgE_ok hm0
  have HOA := Lib.hid oA
  have HOB := Lib.hid oB
  have HMG := Lib.hid hM
  have HZO := Lib.hid hZ
  have hna := oA.nsm
  have hnb := oB.nsm
  obtain ⟨st, hst⟩ : ∃ st, mgSt A L = st := ⟨_, rfl⟩
  have HST := Lib.hid hst
  obtain ⟨V3, hV3, hb3, hs3, ha3⟩ := alloc_ac w2 A.name A.sport st (.slice za L.length zca) (.slice zb A.lp.length zcb) (.slice zc T.length zcc)
  rw [hst]
  have HX3 := Lib.hid ha3
  have HZR := Lib.hid (show Rw smC 7 V3 za (L.map (backS st)) from by
    have h := (hzin.below hb3).sm
    unfold mgZ at h
    rw [hst] at h
    exact h)
  have HB3 := Lib.hid (below_step HB2.out hb3)
  have H13 := Lib.hid (below_step H12.out hb3)
  have DAT := Lib.hid (fun (Z : Ext V3) (m : Int) => show Calls Try.prog 6 #[.int .i64 m, .pointer (some ⟨w2.heap.size, 0, none⟩)] Z.1 fun e w' => Below Z.1.heap.size Z.1 w' ∧ ∃ (s : Sm) (b : Bool), e = .returned (.tuple #[.agg #[.int .i64 s.tm, .int .i64 s.x, .int .i64 s.y, .int .i64 s.z, .int .i64 s.pu, .int .i64 s.po, .int .i64 s.st], .bool b]) ∧ AtIs (L.map (backS st)) st m s b from by
    have hz := HZO.out
    unfold mgZ at hz
    rw [HST.out] at hz
    have hl := hz.nsm
    have h := at_any za (L.map (backS st)) zca A.name A.sport st (.slice zb A.lp.length zcb) (.slice zc T.length zcc) m w2.heap.size Z.1 (by rw [List.length_map]; exact HX3.out.below Z.2) (HZR.out.below Z.2) hl hz.start (fun s hs => by
      obtain ⟨i, hi, rfl⟩ := List.getElem_of_mem hs
      exact ⟨hz.sm.nonneg (List.getElem?_eq_getElem hi), (hz.sm.upto i _ (List.getElem?_eq_getElem hi)).1⟩)
    unfold smV at h
    exact h)
  have crun : ∀ (args : Array Value) (W : World), Sem.run Try.prog (callFunc 6 args) W = .ok (.enter 6 args) W := fun _ _ => by kernel_rfl
  replace A0 := Ext.re H13.out A0
  replace A2 := Ext.re H13.out A2
  replace A3 := Ext.re H13.out A3
  replace B2 := Ext.re H13.out B2
  replace B3 := Ext.re H13.out B3
  have X3 := Ext.ex ha3.cell.2.2.2.1
  obtain ⟨V4, hV4⟩ : ∃ V, V3.alloc (.map #[] 0) = V := ⟨_, rfl⟩
  obtain ⟨MB, hMB⟩ : ∃ q, V3.heap.size = q := ⟨_, rfl⟩
  have HM4 := Lib.hid (show BMap V4 MB 0 (fun _ => false) from by rw [← hV4, ← hMB]; exact BMap.made V3)
  obtain ⟨Z4, hZ4⟩ : ∃ Z : Ext V3, V4 = Z.1 := ⟨⟨V4, hV4 ▸ below_al V3 _⟩, rfl⟩
  have HMB := Lib.hid hMB
  rw [hZ4] at hV4 HM4
  clear hM hZ hzin hb3 ha3 hm0 oA oB hsp hst hZ4 A0 A1 A4 A5 B0 B1 B4 B5 DM hs3
  go_upto_region 6 with (fail)
  have c3 := A3 Z4
  go_wp2_with fail
  clear c3 hmf hmm hV4
  go_loopw [36] (fun iv wr => ∃ k : Nat, iv = .int .i64 k ∧ k ≤ A.sm.length ∧ ∃ X : Ext V3, wr = X.1 ∧ Hid (BMap X.1 MB k (fstK A k))) (fun iv _ => A.sm.length - (intOf iv).toNat)
  case atStart => exact ⟨0, rfl, by omega, Z4, rfl, HM4⟩
  case round =>
    clear HM4 Z4
    obtain ⟨k, rfl, hk, X, rfl, HM⟩ := hrel
    by_cases hlt : k < A.sm.length
    · have t2 : decide ((k : Int) < (A.sm.length : Int)) = true := by rw [decide_eq_true_eq]; omega
      have t2' : decide (k < A.sm.length) = true := by simpa using hlt
      obtain ⟨x, hx⟩ : ∃ x, A.sm[k]? = some x := ⟨_, List.getElem?_eq_getElem hlt⟩
      have HSN := Lib.hid (fstK_succ (A := A) hx)
      have x0 := HOA.out.sm.nonneg hx
      have x1 := (HOA.out.sm.upto k x hx).1
      obtain ⟨s0, s1⟩ := HOA.out.start
      have HFST := Lib.hid (fun (t : Sm) (b : Bool) (h : AtIs (L.map (backS st)) st (A.start + x.tm) t b) => at_first HMG.out HOA.out.sm (List.mem_of_getElem? hx) h)
      obtain ⟨b3, o3, rfl, hb3, hd⟩ := (HIA.out.below (below_step H13.out X.2)).sm.at hx
      have e0 : X.1.cell? ⟨b3, o3 + k * 7, none⟩ = some (.int .i64 x.tm) := hd 0 _ rfl
      have e1 : X.1.cell? ⟨b3, o3 + k * 7 + 1, none⟩ = some (.int .i64 x.x) := hd 1 _ rfl
      have e2 : X.1.cell? ⟨b3, o3 + k * 7 + 2, none⟩ = some (.int .i64 x.y) := hd 2 _ rfl
      have e3 : X.1.cell? ⟨b3, o3 + k * 7 + 3, none⟩ = some (.int .i64 x.z) := hd 3 _ rfl
      have e4 : X.1.cell? ⟨b3, o3 + k * 7 + 4, none⟩ = some (.int .i64 x.pu) := hd 4 _ rfl
      have e5 : X.1.cell? ⟨b3, o3 + k * 7 + 5, none⟩ = some (.int .i64 x.po) := hd 5 _ rfl
      have e6 : X.1.cell? ⟨b3, o3 + k * 7 + 6, none⟩ = some (.int .i64 x.st) := hd 6 _ rfl
      obtain ⟨V6, hV6, hb6, hs6, ha6⟩ := alloc_sm X.1 x
      obtain ⟨q0, q1, q2, q3, q4, q5, q6⟩ := ha6.cell
      have i2 : V6.cell? ⟨w.heap.size, 2, none⟩ = some (.int .i64 A.start) := A2 ⟨V6, below_step X.2 hb6⟩
      have hmlt := HM.out.lt
      have w1 : IntKind.i64.wrap (A.start + x.tm) = A.start + x.tm := tm_wrap (by omega) (by omega)
      obtain ⟨w8, k2, m8, g8⟩ := (HM.out.below hb6).put (j := A.start + x.tm) (tm_wf (by omega) (by omega)) (by unfold maxLen; omega)
      rw [HSN.out] at m8
      have HM8 := Lib.hid m8
      have hk8 : Kept (fun q => q = MB) V6 w8 := Kept.of_grown (O := fun q => q = MB) g8 (fun g e _ => by injection e with e; exact e.symm)
      have HS8 := Lib.hid (show SmB w8 X.1.heap.size x from (hk8.block X.1.heap.size (lt_of_block ha6) (by omega)).trans ha6)
      obtain ⟨Z8, rfl⟩ : ∃ Z : Ext V3, w8 = Z.1 := ⟨⟨w8, Kept.below (below_step X.2 hb6) hk8 (below_step X.2 hb6).size (fun k hk e => by have := HMB.out; omega)⟩, rfl⟩
      obtain ⟨v0, v1, v2, v3, v4, v5, v6⟩ := HS8.out.cell
      have j2 := A2 Z8
      clear hx hd hb3 hb6 ha6 g8 HM x0 x1 s0 s1 hmlt hk8 m8
      go_wp2_with fail
      refine (DAT.out Z8 (A.start + x.tm)).mono ?_
      rintro e w9 ⟨hb9, s, bl, rfl, hat⟩
      obtain ⟨rfl, g1, g2, g3⟩ := HFST.out s bl hat
      have u1 := bneF g1
      have u2 := bneF g2
      have u3 := bneF g3
      have hs9 := HS8.out.below hb9
      have hm9 := HM8.out.below hb9
      obtain ⟨V10, hV10, hb10, hs10, ha10⟩ := alloc_sm w9 s
      obtain ⟨r0, r1, r2, r3, r4, r5, r6⟩ := ha10.cell
      obtain ⟨p0, p1, p2, p3, p4, p5, p6⟩ := (hs9.below hb10).cell
      have HM10 := Lib.hid (hm9.below hb10)
      obtain ⟨Z10, rfl⟩ : ∃ Z : Ext V3, V10 = Z.1 := ⟨⟨V10, below_step (below_step Z8.2 hb9) hb10⟩, rfl⟩
      clear hat g1 g2 g3 hs9 hm9 hb9 hb10 hs10 ha10
      go_wp2_with fail
      go_roundw
      case rel => exact ⟨k + 1, by go_num, by omega, Z10, rfl, HM10⟩
      case measure => simp [intOf]; omega
    · have t2 : decide ((k : Int) < (A.sm.length : Int)) = false := by rw [decide_eq_false_iff_not]; omega
      have t2' : decide (k < A.sm.length) = false := by simpa using hlt
      obtain rfl : k = A.sm.length := by omega
      have HMX := Lib.hid (by have h := HM.out; rw [fstK_all] at h; exact h)
      have c3 := A3 X
      have d3 := B3 X
      clear hlt hk HM
      go_wp2_with fail
      clear c3 d3 A2 A3
      go_loopw [15, 86] (fun mv iv wr => ∃ k : Nat, iv = .int .i64 k ∧ k ≤ B.sm.length ∧ mv = .int .i64 ((A.sm.length + aloneK A B shift k : Nat) : Int) ∧ ∃ X : Ext V3, wr = X.1 ∧ Hid (BMap X.1 MB A.sm.length (isFst A))) (fun _ iv _ => B.sm.length - (intOf iv).toNat)
      case atStart => exact ⟨0, rfl, by omega, rfl, X, rfl, HMX⟩
      case round =>
        clear HMX X
        obtain ⟨k, rfl, hk, rfl, X, rfl, HM⟩ := hrel
        by_cases hlt : k < B.sm.length
        · have t2 : decide ((k : Int) < (B.sm.length : Int)) = true := by rw [decide_eq_true_eq]; omega
          have t2' : decide (k < B.sm.length) = true := by simpa using hlt
          obtain ⟨x, hx⟩ : ∃ x, B.sm[k]? = some x := ⟨_, List.getElem?_eq_getElem hlt⟩
          have hSN := aloneK_succ (A := A) (shift := shift) hx
          have x0 := HOB.out.sm.nonneg hx
          have x1 := (HOB.out.sm.upto k x hx).1
          obtain ⟨s0, s1⟩ := HOB.out.start
          have HSEC := Lib.hid (fun (t : Sm) (b : Bool) (hn : isFst A (B.start + x.tm - shift) = false) (h : AtIs (L.map (backS st)) st (B.start + x.tm - shift) t b) => at_second HMG.out HOB.out.sm (List.mem_of_getElem? hx) hn h)
          obtain ⟨b3, o3, rfl, hb3, hd⟩ := (HIB.out.below (below_step H13.out X.2)).sm.at hx
          have e0 : X.1.cell? ⟨b3, o3 + k * 7, none⟩ = some (.int .i64 x.tm) := hd 0 _ rfl
          have e1 : X.1.cell? ⟨b3, o3 + k * 7 + 1, none⟩ = some (.int .i64 x.x) := hd 1 _ rfl
          have e2 : X.1.cell? ⟨b3, o3 + k * 7 + 2, none⟩ = some (.int .i64 x.y) := hd 2 _ rfl
          have e3 : X.1.cell? ⟨b3, o3 + k * 7 + 3, none⟩ = some (.int .i64 x.z) := hd 3 _ rfl
          have e4 : X.1.cell? ⟨b3, o3 + k * 7 + 4, none⟩ = some (.int .i64 x.pu) := hd 4 _ rfl
          have e5 : X.1.cell? ⟨b3, o3 + k * 7 + 5, none⟩ = some (.int .i64 x.po) := hd 5 _ rfl
          have e6 : X.1.cell? ⟨b3, o3 + k * 7 + 6, none⟩ = some (.int .i64 x.st) := hd 6 _ rfl
          obtain ⟨V6, hV6, hb6, hs6, ha6⟩ := alloc_sm X.1 x
          have HS8 := Lib.hid ha6
          obtain ⟨q0, q1, q2, q3, q4, q5, q6⟩ := ha6.cell
          have w1 : IntKind.i64.wrap (B.start + x.tm) = B.start + x.tm := tm_wrap (by omega) (by omega)
          have w2' : IntKind.i64.wrap (B.start + x.tm - shift) = B.start + x.tm - shift := tm_wrap (by omega) (by omega)
          have hlk := (HM.out.below hb6).look (j := B.start + x.tm - shift) (tm_wf (by omega) (by omega))
          have HM8 := Lib.hid (HM.out.below hb6)
          have hal := aloneK_le A B shift k
          obtain ⟨Z8, rfl⟩ : ∃ Z : Ext V3, V6 = Z.1 := ⟨⟨V6, below_step X.2 hb6⟩, rfl⟩
          have j2 := B2 Z8
          obtain ⟨many, hmany⟩ : ∃ c, A.sm.length + aloneK A B shift k = c := ⟨_, rfl⟩
          rw [hmany]
          have w3 : IntKind.i64.wrap ((many : Int) + 1) = (many : Int) + 1 := tm_wrap (by omega) (by omega)
          obtain ⟨bf, hbf⟩ : ∃ b, isFst A (B.start + x.tm - shift) = b := ⟨_, rfl⟩
          rw [hbf] at hlk hSN HSEC
          have HSN := Lib.hid (show A.sm.length + aloneK A B shift (k + 1) = many + (if bf = true then 0 else 1) from by omega)
          clear hx hd hb3 hb6 ha6 HM x0 x1 s0 s1 hal hSN hmany hbf
          cases bf with
          | true =>
            go_wp2_with fail
            go_roundw
            case rel => exact ⟨k + 1, by go_num, by omega, by rw [HSN.out]; rfl, Z8, rfl, HM8⟩
            case measure => simp [intOf]; omega
          | false =>
            go_wp2_with fail
            refine (DAT.out Z8 (B.start + x.tm - shift)).mono ?_
            rintro e w9 ⟨hb9, s, bl, rfl, hat⟩
            obtain ⟨rfl, g1, g2, g3, g4⟩ := HSEC.out s bl (by simp) hat
            have u1 := bneF g1
            have u2 := bneF g2
            have u3 := bneF g3
            have u4 := bneF g4
            have hs9 := HS8.out.below hb9
            have hm9 := HM8.out.below hb9
            obtain ⟨V10, hV10, hb10, hs10, ha10⟩ := alloc_sm w9 s
            obtain ⟨r0, r1, r2, r3, r4, r5, r6⟩ := ha10.cell
            obtain ⟨p0, p1, p2, p3, p4, p5, p6⟩ := (hs9.below hb10).cell
            have HM10 := Lib.hid (hm9.below hb10)
            obtain ⟨Z10, rfl⟩ : ∃ Z : Ext V3, V10 = Z.1 := ⟨⟨V10, below_step (below_step Z8.2 hb9) hb10⟩, rfl⟩
            clear hat g1 g2 g3 g4 hs9 hm9 hb9 hb10 hs10 ha10 HSEC
            go_wp2_with fail
            go_roundw
            case rel => exact ⟨k + 1, by go_num, by omega, by rw [HSN.out]; rfl, Z10, rfl, HM10⟩
            case measure => simp [intOf]; omega
        · have t2 : decide ((k : Int) < (B.sm.length : Int)) = false := by rw [decide_eq_false_iff_not]; omega
          have t2' : decide (k < B.sm.length) = false := by simpa using hlt
          obtain rfl : k = B.sm.length := by omega
          have HCNT := Lib.hid (show A.sm.length + aloneK A B shift B.sm.length = L.length from by
            unfold aloneK
            rw [List.take_length]
            exact (merged_many HMG.out HOA.out.sm HOB.out.sm).symm)
          rw [HCNT.out]
          have c3 := X3 X
          have HBX := Lib.hid (below_step HB3.out X.2)
          clear hlt hk HM
          go_wp2_with fail
          refine (told2_any _).mono ?_
          rintro e w6 ⟨rfl, hb6⟩
          have HB6 := Lib.hid (below_step HBX.out hb6)
          clear hb6
          go_wp2_with fail
          go_ret
          exact ⟨rfl, HB6.out⟩
end Go.Proofs.Ytlffdahbnhdnjaa

/- An activity that came in: how it reads. (printed by wip/t/gen_tfp.py) -/
namespace Go.Proofs.Ytlffdahbnhdnjaa
open Go.ChangeShapes Go.WideShapes Go.ChangeAt Go.RowKit Go.Deep

theorem laidOut : laidOutB Try.prog = true := by kernel_rfl
theorem readAct : Try.prog.readableRec 26 = true := by kernel_rfl
theorem rowAct : 26 < Try.prog.types.size := of_decide_eq_true (by kernel_rfl)
def intV : Value → Int
  | .int _ n => n
  | _ => 0
def strV : Value → ByteArray
  | .string s => s
  | _ => ByteArray.empty
theorem RowK.congr {w : World} {a : Option Addr} {len k : Nat} {V V' : Nat → List Value} (h : RowK w a len k V) (he : ∀ i, i < len → V i = V' i) : RowK w a len k V' :=
  ⟨fun h0 => by
    obtain ⟨b, off, e, hb, hc⟩ := h.here h0
    exact ⟨b, off, e, hb, fun i hi j hj => by rw [hc i hi j hj, he i hi]⟩⟩
section
variable {H : Type} {enc : TypeId × Value → H} {P : Program} {w : World} {base : Nat}
theorem field_str {V : List Value} {j : Nat} {t : TypeId} (ht : P.underlying t = some .string) (h : ∃ u n y, V[j]? = some u ∧ DataW.trod enc P w base (fun _ => true) true n t [u] = some y) :
    V[j]? = some (.string (strV (V.getD j (.bool false)))) ∧ (strV (V.getD j (.bool false))).size ≤ maxLen := by
  obtain ⟨u, n, y, hu, hd⟩ := h
  obtain ⟨s, e, _, hs⟩ := DataW.trod_string ht hd
  simp only [List.cons.injEq, and_true] at e
  subst e
  rw [List.getD_eq_getElem?_getD, hu]
  exact ⟨rfl, hs⟩
theorem field_int {V : List Value} {j : Nat} {t : TypeId} (ht : P.underlying t = some (.int .i64)) (h : ∃ u n y, V[j]? = some u ∧ DataW.trod enc P w base (fun _ => true) true n t [u] = some y) :
    V[j]? = some (.int .i64 (intV (V.getD j (.bool false)))) := by
  obtain ⟨u, n, y, hu, hd⟩ := h
  obtain ⟨s, e, _, hs⟩ := DataW.trod_int ht hd
  simp only [List.cons.injEq, and_true] at e
  subst e
  rw [List.getD_eq_getElem?_getD, hu]
  rfl
end
theorem list3 {V : List Value} {a b c : Value} (hl : V.length = 3) (h0 : V[0]? = some a) (h1 : V[1]? = some b) (h2 : V[2]? = some c) : V = [a, b, c] := by
  match V, hl with
  | [x, y, z], _ => simp at h0 h1 h2; rw [h0, h1, h2]
theorem list7 {V : List Value} {a b c d e f g : Value} (hl : V.length = 7) (h0 : V[0]? = some a) (h1 : V[1]? = some b) (h2 : V[2]? = some c) (h3 : V[3]? = some d) (h4 : V[4]? = some e) (h5 : V[5]? = some f) (h6 : V[6]? = some g) : V = [a, b, c, d, e, f, g] := by
  match V, hl with
  | [x0, x1, x2, x3, x4, x5, x6], _ => simp at h0 h1 h2 h3 h4 h5 h6; rw [h0, h1, h2, h3, h4, h5, h6]
theorem list6 {V : List Value} {a b c d e f : Value} (hl : V.length = 6) (h0 : V[0]? = some a) (h1 : V[1]? = some b) (h2 : V[2]? = some c) (h3 : V[3]? = some d) (h4 : V[4]? = some e) (h5 : V[5]? = some f) : V = [a, b, c, d, e, f] := by
  match V, hl with
  | [x0, x1, x2, x3, x4, x5], _ => simp at h0 h1 h2 h3 h4 h5; rw [h0, h1, h2, h3, h4, h5]
def smOf (V : List Value) : Sm := ⟨intV (V.getD 0 (.bool false)), intV (V.getD 1 (.bool false)), intV (V.getD 2 (.bool false)), intV (V.getD 3 (.bool false)), intV (V.getD 4 (.bool false)), intV (V.getD 5 (.bool false)), intV (V.getD 6 (.bool false))⟩
def lpOf (V : List Value) : Lp := ⟨intV (V.getD 0 (.bool false)), intV (V.getD 1 (.bool false)), strV (V.getD 2 (.bool false))⟩
theorem range_get {α : Type} (f : Nat → α) {n i : Nat} {x : α} (h : ((List.range n).map f)[i]? = some x) : i < n ∧ x = f i := by
  rw [List.getElem?_map] at h
  cases hr : (List.range n)[i]? with
  | none => rw [hr] at h; cases h
  | some y =>
    rw [hr] at h
    obtain ⟨h1, h2⟩ := List.getElem?_eq_some_iff.1 hr
    simp only [List.length_range] at h1
    simp only [List.getElem_range] at h2
    subst h2
    simp only [Option.map_some, Option.some.injEq] at h
    exact ⟨h1, h.symm⟩
theorem rw_of {α : Type} {C : α → List Value} {k : Nat} {w : World} {a : Option Addr} {n : Nat} {V : Nat → List Value} {f : Nat → α} (hC : ∀ x, (C x).length = k) (h : RowK w a n k V) (he : ∀ i, i < n → V i = C (f i)) : Rw C k w a ((List.range n).map f) := by
  refine ⟨fun hl => ?_⟩
  rw [List.length_map, List.length_range] at hl
  obtain ⟨b, off, e, hb, hc⟩ := h.here hl
  refine ⟨b, off, e, hb, fun i x hx j u hu => ?_⟩
  obtain ⟨hi, rfl⟩ := range_get f hx
  have hj : j < k := by have := (List.getElem?_eq_some_iff.1 hu).1; rwa [hC] at this
  rw [← hu, ← he i hi]
  exact hc i hi j hj
section
variable {H : Type} {enc : TypeId × Value → H} {P : Program} {w : World} {base : Nat}
theorem open_sms {t e : TypeId} (I : P.underlying t = some (.slice e)) {fs : Array Field} (hs : P.underlying e = some (.struct fs)) (hC : P.cellsOf e = fs.size) (h7 : fs.size = 7) (hone : ∀ (i : Nat) (f : Field), fs[i]? = some f → f.offset = i ∧ P.cellsOf f.type = 1)
    (hi : ∀ (j : Nat) (f : Field), fs[j]? = some f → P.underlying f.type = some (.int .i64)) {n : Nat} {v : Value} {y : DataW H × List MemPlace} (h : DataW.trod enc P w base (fun _ => true) true n t [v] = some y) :
    ∃ (l : List Sm) (a : Option Addr) (c : Nat), v = .slice a l.length c ∧ l.length ≤ c ∧ c ≤ maxLen ∧ Rw smC 7 w a l := by
  obtain ⟨a0, n0, c0, V0, rfl, l0, m0, R0, F0⟩ := open_rowK I hs hC (by omega) hone h
  rw [h7] at R0 F0
  refine ⟨(List.range n0).map fun i => smOf (V0 i), a0, c0, by rw [List.length_map, List.length_range], by rw [List.length_map, List.length_range]; exact l0, m0, rw_of (fun _ => rfl) R0 fun i hi' => ?_⟩
  have F := F0 i hi'
  have g : ∀ (j : Nat) (_ : j < 7), (V0 i)[j]? = some (.int .i64 (intV ((V0 i).getD j (.bool false)))) := fun j hj => by
    obtain ⟨f, hf⟩ : ∃ f, fs[j]? = some f := ⟨_, Array.getElem?_eq_getElem (by omega)⟩
    exact field_int (hi j f hf) (F.2 j f hf)
  exact list7 F.1 (g 0 (by omega)) (g 1 (by omega)) (g 2 (by omega)) (g 3 (by omega)) (g 4 (by omega)) (g 5 (by omega)) (g 6 (by omega))
theorem open_tags {t e : TypeId} (I : P.underlying t = some (.slice e)) (hs : P.underlying e = some .string) (hC : P.cellsOf e = 1) {n : Nat} {v : Value} {y : DataW H × List MemPlace} (h : DataW.trod enc P w base (fun _ => true) true n t [v] = some y) :
    ∃ (l : List ByteArray) (a : Option Addr) (c : Nat), v = .slice a l.length c ∧ l.length ≤ c ∧ c ≤ maxLen ∧ Rw tgC 1 w a l ∧ ∀ s, s ∈ l → s.size ≤ maxLen := by
  rcases open_slice I h with ⟨hc, _⟩ | ⟨a, len, cap, m, n', D, Pl, hc, _, hl, hm, hmm, _, hx⟩
  · simp only [List.cons.injEq, and_true] at hc
    exact ⟨[], none, 0, hc, Nat.le_refl _, Nat.zero_le _, ⟨fun h => absurd h (by simp)⟩, fun s hs => by cases hs⟩
  · simp only [List.cons.injEq, and_true] at hc
    simp only [if_true] at hmm
    subst hmm
    have each : ∀ i, i < m → ∃ s : ByteArray, w.cell? (a.add i) = some (.string s) ∧ s.size ≤ maxLen := by
      intro i hi
      obtain ⟨cs, h1, h2⟩ := hx i hi
      rw [hC] at h1
      obtain ⟨_, hlen, hcell⟩ := World.cells?_some h1
      obtain ⟨s, e1, _, hs1⟩ := DataW.trod_string hs h2
      have h3 := hcell 0 (by omega)
      rw [e1, add_add] at h3
      refine ⟨s, ?_, hs1⟩
      simpa using h3
    obtain ⟨V, hV⟩ := choose_lt each
    refine ⟨(List.range len).map V, some a, m, by rw [List.length_map, List.length_range]; exact hc, by rw [List.length_map, List.length_range]; exact hl, hm, ⟨fun hl0 => ?_⟩, fun s hs => ?_⟩
    · rw [List.length_map, List.length_range] at hl0
      obtain ⟨b, o, sp⟩ := a
      have h0 := (hV 0 (by omega)).1
      have hspot : sp = none := by simpa [Addr.add] using World.cell?_spot h0
      subst hspot
      refine ⟨b, o, rfl, by simpa [Addr.add] using World.block_lt_of_cell? w _ h0, fun i x hx' j u hu => ?_⟩
      obtain ⟨hi, rfl⟩ := range_get V hx'
      have hj : j < 1 := (List.getElem?_eq_some_iff.1 hu).1
      obtain rfl : j = 0 := by omega
      injection hu with hu
      subst hu
      have := (hV i (by omega)).1
      rw [add_plain] at this
      rw [Nat.mul_one, Nat.add_zero]
      exact this
    · obtain ⟨i, hi, rfl⟩ := List.mem_map.1 hs
      exact (hV i (by have := List.mem_range.1 hi; omega)).2
theorem open_lps {t e : TypeId} {f0 f1 f2 : Field} (I : P.underlying t = some (.slice e)) (hs : P.underlying e = some (.struct #[f0, f1, f2])) (hC : P.cellsOf e = 3) (hone : ∀ (i : Nat) (f : Field), (#[f0, f1, f2] : Array Field)[i]? = some f → f.offset = i ∧ P.cellsOf f.type = 1)
    (i0 : P.underlying f0.type = some (.int .i64)) (i1 : P.underlying f1.type = some (.int .i64)) (i2 : P.underlying f2.type = some .string) {n : Nat} {v : Value} {y : DataW H × List MemPlace} (h : DataW.trod enc P w base (fun _ => true) true n t [v] = some y) :
    ∃ (l : List Lp) (a : Option Addr) (c : Nat), v = .slice a l.length c ∧ l.length ≤ c ∧ c ≤ maxLen ∧ Rw lpC 3 w a l ∧ ∀ p, p ∈ l → p.s.size ≤ maxLen := by
  obtain ⟨a0, n0, c0, V0, rfl, l0, m0, R0, F0⟩ := open_rowK I hs hC (show 0 < 3 by decide) hone h
  have F : ∀ i, i < n0 → V0 i = lpC (lpOf (V0 i)) ∧ (lpOf (V0 i)).s.size ≤ maxLen := fun i hi =>
    ⟨list3 (F0 i hi).1 (field_int i0 ((F0 i hi).2 0 _ rfl)) (field_int i1 ((F0 i hi).2 1 _ rfl)) (field_str i2 ((F0 i hi).2 2 _ rfl)).1, (field_str i2 ((F0 i hi).2 2 _ rfl)).2⟩
  refine ⟨(List.range n0).map fun i => lpOf (V0 i), a0, c0, by rw [List.length_map, List.length_range], by rw [List.length_map, List.length_range]; exact l0, m0, rw_of (fun _ => rfl) R0 fun i hi => (F i hi).1, fun p hp => ?_⟩
  obtain ⟨i, hi, rfl⟩ := List.mem_map.1 hp
  exact (F i (List.mem_range.1 hi)).2
end
set_option maxRecDepth 100000 in
/-- six cells that read as an activity -/
theorem act_cells {H : Type} {enc : TypeId × Value → H} {W : World} {base : Nat} {V : List Value} (hl : V.length = 6) (F : ∀ (j : Nat) (f : Field), (Try.prog.fieldsOf 26)[j]? = some f → ∃ u n y, V[j]? = some u ∧ DataW.trod enc Try.prog W base (fun _ => true) true n f.type [u] = some y) :
    ∃ (A : Acv) (a b c : Option Addr) (ca cb cc : Nat), V = [.string A.name, .int .i64 A.sport, .int .i64 A.start, .slice a A.sm.length ca, .slice b A.lp.length cb, .slice c A.tg.length cc] ∧ ActIn W A a b c ∧ A.sm.length ≤ ca ∧ A.lp.length ≤ cb ∧ A.tg.length ≤ cc := by
  have S := Try.underlying9
  have I := Try.underlying3
  have hm : maxLen = 9223372036854775807 := rfl
  simp only [Program.fieldsOf, Try.underlying26] at F
  obtain ⟨e0, z0⟩ := field_str S (F 0 _ rfl)
  have e1 := field_int I (F 1 _ rfl)
  have e2 := field_int I (F 2 _ rfl)
  obtain ⟨u3, n3, y3, e3, t3⟩ := F 3 _ rfl
  obtain ⟨u4, n4, y4, e4, t4⟩ := F 4 _ rfl
  obtain ⟨u5, n5, y5, e5, t5⟩ := F 5 _ rfl
  obtain ⟨l, a, ca, rfl, la, ma, ra⟩ := open_sms (P := Try.prog) Try.underlying22 Try.underlying32 (by kernel_rfl) rfl (hone_of (by kernel_rfl)) (fun j f hf => by
    match j, hf with
    | 0, h => injection h with h; subst h; exact I
    | 1, h => injection h with h; subst h; exact I
    | 2, h => injection h with h; subst h; exact I
    | 3, h => injection h with h; subst h; exact I
    | 4, h => injection h with h; subst h; exact I
    | 5, h => injection h with h; subst h; exact I
    | 6, h => injection h with h; subst h; exact I
    | n + 7, h => cases h) t3
  obtain ⟨p, b, cb, rfl, lb, mb, rb, hb⟩ := open_lps (P := Try.prog) Try.underlying23 Try.underlying49 (by kernel_rfl) (hone_of (by kernel_rfl)) I I S t4
  obtain ⟨g, c, cc, rfl, lc, mc, rc, hc⟩ := open_tags (P := Try.prog) Try.underlying24 S (by kernel_rfl) t5
  refine ⟨⟨strV (V.getD 0 (.bool false)), intV (V.getD 1 (.bool false)), intV (V.getD 2 (.bool false)), l, p, g⟩, a, b, c, ca, cb, cc, list6 hl e0 e1 e2 e3 e4 e5, ⟨ra, rb, rc, z0, hb, hc, by show ((l.length : Nat) : Int) ≤ _; omega, by show ((p.length : Nat) : Int) ≤ _; omega, by show ((g.length : Nat) : Int) ≤ _; omega⟩, la, lb, lc⟩
set_option maxRecDepth 100000 in
theorem open_act {H : Type} {enc : TypeId × Value → H} {W : World} {r : Reach} {b0 base : Nat} {v : Value} {d : DataW H} {p : List MemPlace}
    (hv : Value.okWide Try.prog W r b0 26 v) (h : DataW.Trod enc Try.prog W base (fun _ => true) true 26 v d p) :
    ∃ (A : Acv) (a b c : Option Addr) (ca cb cc : Nat), v = actV A a b c ca cb cc ∧ ActIn W A a b c ∧ A.sm.length ≤ ca ∧ A.lp.length ≤ cb ∧ A.tg.length ≤ cc := by
  have hs := Try.underlying26
  obtain ⟨cs, rfl, hsz⟩ := okWide_struct hs hv
  have h6 : cs.size = 6 := hsz.trans (by kernel_rfl)
  obtain ⟨fuel, hf⟩ := h
  obtain ⟨xs, n, _, _, _, hlen, hg⟩ := DataW.trod_struct hs hf
  have hlen6 : xs.length = 6 := hlen
  have e : cs.toList.length = 6 := by simpa using h6
  have fld : ∀ (j : Nat) (f : Field), (Try.prog.fieldsOf 26)[j]? = some f → ∃ u n y, cs.toList[j]? = some u ∧ DataW.trod enc Try.prog W base (fun _ => true) true n f.type [u] = some y := fun j f hj => by
    simp only [Program.fieldsOf, Try.underlying26] at hj
    obtain ⟨o, k⟩ := hone_of (P := Try.prog) (by kernel_rfl) j f hj
    have h1 := hg j f hj
    rw [o, k] at h1
    have hlt : j < 6 := (Array.getElem?_eq_some_iff.1 hj).1
    have hjl : j < cs.toList.length := by omega
    have e1 : (cs.toList.drop j).take 1 = [cs.toList[j]] := by rw [List.drop_eq_getElem_cons hjl]; rfl
    rw [show (Value.agg cs).cells.toList = cs.toList from rfl, e1, List.getElem?_eq_getElem (by omega)] at h1
    exact ⟨_, _, _, List.getElem?_eq_getElem hjl, h1⟩
  obtain ⟨A, a, b, c, ca, cb, cc, he, ha, l1, l2, l3⟩ := act_cells e fld
  refine ⟨A, a, b, c, ca, cb, cc, ?_, ha, l1, l2, l3⟩
  unfold actV
  congr 1
  rw [← Array.toList_inj, he]
end Go.Proofs.Ytlffdahbnhdnjaa
