/- Several texts of this claim in one. -/
import Derived.Test.YtjnfccphodjfiaaGreatMm5
import Derived.Laws.StructEq
import Derived.Deep.Draws
/- trail.Merge of two right activities of one sport. -/
namespace Go.Proofs.YtjnfccphodjfiaaGreat
open Go.RowKit Go.BigFrame
open Tr (inR)

def mgF (A B : Acv) (shift : Int) : Int → Option Sm := mapA A (mapB B shift B.sm) A.sm
structure MgIs (A B : Acv) (shift : Int) (L : List Sm) (T : List ByteArray) : Prop where
  sorted : L.Pairwise (fun x y => x.tm < y.tm)
  mem : ∀ s, s ∈ L ↔ ∃ u, mgF A B shift s.tm = some u ∧ s = { u with tm := s.tm }
  tsorted : T.Pairwise (fun x y => bL x < bL y)
  tmem : ∀ x, x ∈ T ↔ x ∈ A.tg ∨ x ∈ B.tg
def mgSt (A : Acv) (L : List Sm) : Int := match L[0]? with
  | some s => s.tm
  | none => A.start
def addL (d : Int) (p : Lp) : Lp := ⟨p.f + d, p.t + d, p.s⟩
def mgZ (A : Acv) (L : List Sm) (T : List ByteArray) : Acv := ⟨A.name, A.sport, mgSt A L, L.map (backS (mgSt A L)), A.lp.map (addL (A.start - mgSt A L)), T⟩
def MergeRet (A B : Acv) (shift : Int) (w : World) (e : Ending) (w' : World) : Prop :=
  ∃ L T, MgIs A B shift L T ∧ (((20000 < L.length ∨ 20 < T.length) ∧ e = .returned (.tuple #[ac0, .int .i64 3]) ∧ Below w.heap.size w w') ∨ (¬ (20000 < L.length ∨ 20 < T.length) ∧ ActRet (mgZ A L T) w e w'))
theorem mapB_some {B : Acv} {shift : Int} : ∀ (l : List Sm) (f0 : Int → Option Sm) (j : Int) (u : Sm), l.foldl (fun f s => putS f (B.start + s.tm - shift) s) f0 j = some u → (∃ s, s ∈ l ∧ j = B.start + s.tm - shift) ∨ f0 j = some u
  | [], _, _, _, h => Or.inr h
  | s :: l, f0, j, u, h => by
    rcases mapB_some l _ j u h with ⟨t, ht, e⟩ | h
    · exact Or.inl ⟨t, List.mem_cons_of_mem _ ht, e⟩
    · replace h : (if j = B.start + s.tm - shift then some s else f0 j) = some u := h
      split at h
      · rename_i e
        exact Or.inl ⟨s, List.mem_cons_self, e⟩
      · exact Or.inr h
theorem mapA_some {A : Acv} : ∀ (l : List Sm) (f0 : Int → Option Sm) (j : Int) (u : Sm), l.foldl (stepA A) f0 j = some u → (∃ s, s ∈ l ∧ j = A.start + s.tm) ∨ f0 j = some u
  | [], _, _, _, h => Or.inr h
  | s :: l, f0, j, u, h => by
    rcases mapA_some l _ j u h with ⟨t, ht, e⟩ | h
    · exact Or.inl ⟨t, List.mem_cons_of_mem _ ht, e⟩
    · unfold stepA putS at h
      split at h
      · rename_i e
        exact Or.inl ⟨s, List.mem_cons_self, e⟩
      · exact Or.inr h
theorem mgF_key {A B : Acv} {shift j : Int} {u : Sm} (h : mgF A B shift j = some u) : (∃ s, s ∈ A.sm ∧ j = A.start + s.tm) ∨ ∃ s, s ∈ B.sm ∧ j = B.start + s.tm - shift := by
  unfold mgF mapA mapB at h
  rcases mapA_some _ _ _ _ h with h | h
  · exact Or.inl h
  · rcases mapB_some _ _ _ _ h with h | h
    · exact Or.inr h
    · cases h
theorem mgF_range {A B : Acv} {shift j : Int} {u : Sm} (oA : AcOk A) (oB : AcOk B) (h0 : -86399999999 ≤ shift) (h1 : shift ≤ 86399999999) (h : mgF A B shift j = some u) : -86399999999 ≤ j ∧ j ≤ 172800000000 := by
  have r : ∀ {Z : Acv} {s : Sm}, AcOk Z → s ∈ Z.sm → 0 ≤ s.tm ∧ Z.start + s.tm ≤ 86399999999 := fun {Z s} o hs => by
    obtain ⟨i, hi, rfl⟩ := List.getElem_of_mem hs
    exact ⟨o.sm.nonneg (List.getElem?_eq_getElem hi), (o.sm.upto i _ (List.getElem?_eq_getElem hi)).2.1⟩
  rcases mgF_key h with ⟨s, hs, rfl⟩ | ⟨s, hs, rfl⟩
  · have := r oA hs
    have := oA.start
    omega
  · have := r oB hs
    have := oB.start
    omega
theorem map_upto {α : Type} (f : α → α) (l : List α) (k : Nat) (x : α) (hx : l[k]? = some x) : ((l.take k).map f ++ l.drop k).set k (f x) = (l.take (k + 1)).map f ++ l.drop (k + 1) := by
  obtain ⟨hk, e⟩ := List.getElem?_eq_some_iff.1 hx
  have hl : ((l.take k).map f).length = k := by rw [List.length_map, List.length_take]; omega
  rw [List.set_append_right _ _ (by rw [hl]; exact Nat.le_refl _), hl, Nat.sub_self, List.drop_eq_getElem_cons hk, List.set_cons_zero, List.take_add_one, hx, List.map_append, List.append_assoc]
  rfl
theorem at_upto {α : Type} (f : α → α) (l : List α) (k : Nat) (x : α) (hx : l[k]? = some x) : ((l.take k).map f ++ l.drop k)[k]? = some x := by
  obtain ⟨hk, e⟩ := List.getElem?_eq_some_iff.1 hx
  have hl : ((l.take k).map f).length = k := by rw [List.length_map, List.length_take]; omega
  rw [List.getElem?_append_right (by rw [hl]; exact Nat.le_refl _), hl, Nat.sub_self, List.getElem?_drop]
  exact hx
theorem len_upto {α : Type} (f : α → α) (l : List α) (k : Nat) (hk : k ≤ l.length) : ((l.take k).map f ++ l.drop k).length = l.length := by
  rw [List.length_append, List.length_map, List.length_take, List.length_drop]
  omega
/-- blocks of texts -/
def OT (w : World) (q : Nat) : Prop := ∃ cs fz, w.heap[q]? = some (.cells cs 9 fz)
theorem Own.typed {α : Type} {C : α → List Value} {k : Nat} {e : TypeId} {w : World} {base : Nat} {v : Value} {l : List α} (h : Own C k e w base v l) {b : Nat} (hb : v.ownBlock = some b) : ∃ cs fz, w.heap[b]? = some (.cells cs e fz) := by
  rcases h.2 with ⟨h0, _⟩ | ⟨g, cap, cur, hv, _, hg, _⟩
  · rw [h0] at hb
    cases hb
  · rw [hv] at hb
    injection hb with hb
    subst hb
    exact ⟨_, _, hg⟩
theorem Own.notText {α : Type} {C : α → List Value} {k : Nat} {e : TypeId} {w : World} {base : Nat} {v : Value} {l : List α} (h : Own C k e w base v l) (he : e ≠ 9) {b : Nat} (hb : v.ownBlock = some b) : ¬ OT w b := by
  rintro ⟨cs, fz, h2⟩
  obtain ⟨cs', fz', h1⟩ := h.typed hb
  rw [h1] at h2
  injection h2 with h2
  injection h2 with _ h2 _
  exact he h2
theorem AcB.notText {w : World} {g : Nat} {nm : ByteArray} {sp st : Int} {vs vl vt : Value} (h : AcB w g nm sp st vs vl vt) : ¬ OT w g := by
  rintro ⟨cs, fz, h2⟩
  unfold AcB at h
  rw [h] at h2
  injection h2 with h2
  injection h2 with _ h2 _
  revert h2
  decide
theorem AcB.ne {w : World} {g : Nat} {nm : ByteArray} {sp st : Int} {vs vl vt : Value} (h : AcB w g nm sp st vs vl vt) {base : Nat} {v : Value} {l : List ByteArray} (ho : Own tgC 1 9 w base v l) : ∀ b, v.ownBlock = some b → b ≠ g := fun b hb e => by
  subst e
  exact h.notText (ho.typed hb)
/-- a row of texts of one's own is written -/
theorem Kept.text {O : Nat → Prop} {W w w' : World} {base : Nat} {v : Value} {l : List ByteArray} (hk : Kept O W w) (ho : Own tgC 1 9 w base v l) (hO : ∀ q, base ≤ q → OT W q → O q) (hg : w.grownBy w' v.ownBlock) : Kept O W w' :=
  hk.grown hg (fun g e hlt => Classical.byContradiction fun hn => by
    obtain ⟨cs, fz, h1⟩ := ho.typed e
    rw [hk.block g hlt hn] at h1
    exact hn (hO g (ho.lt g e).1 ⟨cs, fz, h1⟩))
theorem AcB.ne' {w : World} {g : Nat} {nm : ByteArray} {sp st : Int} {vs vl vt : Value} (h : AcB w g nm sp st vs vl vt) {α : Type} {C : α → List Value} {k : Nat} {e : TypeId} {base : Nat} {v : Value} {l : List α} (ho : Own C k e w base v l) (he : e ≠ 26) : ∀ b, v.ownBlock = some b → b ≠ g := fun b hb hbg => by
  subst hbg
  obtain ⟨cs', fz', h1⟩ := ho.typed hb
  unfold AcB at h
  rw [h] at h1
  injection h1 with h1
  injection h1 with _ h1 _
  exact he h1.symm
set_option maxHeartbeats 100000000 in
set_option maxRecDepth 100000 in
theorem mergeOk_any (A B : Acv) (a b c a' b' c' : Option Addr) (ca cb cc ca' cb' cc' : Nat) (shift : Int) (w : World) (hA : ActIn w A a b c) (hB : ActIn w B a' b' c') (oA : AcOk A) (oB : AcOk B) (hsp : A.sport = B.sport) (h0 : -86399999999 ≤ shift) (h1 : shift ≤ 86399999999) :
    Calls Tryz.prog 15 #[actV A a b c ca cb cc, actV B a' b' c' ca' cb' cc', .int .i64 shift] w fun e w' => MergeRet A B shift w e w' := by
  have hmm := @run_makeMap Tryz.prog
  obtain ⟨V0, hV0, hb0, hs0, ha0⟩ := alloc_ac w A.name A.sport A.start (.slice a A.sm.length ca) (.slice b A.lp.length cb) (.slice c A.tg.length cc)
  obtain ⟨V1, hV1, hb1, hs1, ha1⟩ := alloc_ac V0 B.name B.sport B.start (.slice a' B.sm.length ca') (.slice b' B.lp.length cb') (.slice c' B.tg.length cc')
  obtain ⟨V2, hV2, hb2, hs2, ha2⟩ := alloc_ac V1 ⟨#[]⟩ 0 0 (.slice none 0 0) (.slice none 0 0) (.slice none 0 0)
  rw [hs0] at ha1
  rw [hs1, hs0] at ha2
  have hs11 : V1.heap.size = w.heap.size + 1 + 1 := by rw [hs1, hs0]
  have hA0 := (ha0.below hb1).below hb2
  have hA1 := ha1.below hb2
  have HB := Lib.hid (below_step (below_step hb0 hb1) hb2)
  have HIA := Lib.hid (hA.below HB.out)
  have HIB := Lib.hid (hB.below HB.out)
  have HOA := Lib.hid oA
  have HOB := Lib.hid oB
  have HSZ := Lib.hid (show V2.heap.size = w.heap.size + 3 from by rw [hs2, hs1, hs0])
  have HA0 := Lib.hid hA0
  have HA1 := Lib.hid hA1
  have HA2 := Lib.hid ha2
  have hspb : (A.sport != B.sport) = false := by rw [hsp]; simp
  have HIR := Lib.hid (show inR shift (-86399999999) 86399999999 = true from inR_iff.2 ⟨h0, h1⟩)
  have DIN := Lib.hid (fun n lo hi W => tin_any n lo hi W)
  have DA := Lib.hid (fun X : Ext V2 => show Calls Tryz.prog 32 #[.agg #[.string A.name, .int .i64 A.sport, .int .i64 A.start, .slice a A.sm.length ca, .slice b A.lp.length cb, .slice c A.tg.length cc]] X.1 fun e w'' => e = .returned (.int .i64 0) ∧ ∃ Y : Ext V2, w'' = Y.1 from by
    have h := check_any A a b c ca cb cc X.1 (HIA.out.below X.2)
    unfold ChkG actV at h
    rw [chkA_zero.2 HOA.out] at h
    exact X.calls h)
  have DB := Lib.hid (fun X : Ext V2 => show Calls Tryz.prog 32 #[.agg #[.string B.name, .int .i64 B.sport, .int .i64 B.start, .slice a' B.sm.length ca', .slice b' B.lp.length cb', .slice c' B.tg.length cc']] X.1 fun e w'' => e = .returned (.int .i64 0) ∧ ∃ Y : Ext V2, w'' = Y.1 from by
    have h := check_any B a' b' c' ca' cb' cc' X.1 (HIB.out.below X.2)
    unfold ChkG actV at h
    rw [chkA_zero.2 HOB.out] at h
    exact X.calls h)
  obtain ⟨z0, z1, z2, z3, z4, z5⟩ := hA0.cell
  have A0 := Ext.ex z0
  have A1 := Ext.ex z1
  have A2 := Ext.ex z2
  have A3 := Ext.ex z3
  have A4 := Ext.ex z4
  have A5 := Ext.ex z5
  obtain ⟨y0, y1, y2, y3, y4, y5⟩ := hA1.cell
  have B0 := Ext.ex y0
  have B1 := Ext.ex y1
  have B2 := Ext.ex y2
  have B3 := Ext.ex y3
  have B4 := Ext.ex y4
  have B5 := Ext.ex y5
  have HV := Lib.hid (And.intro hV0 (And.intro hV1 hV2))
  clear hA hB oA oB hb0 hb1 hb2 ha0 ha1 ha2 hA0 hA1 hs1 hs2 hsp z0 z1 z2 z3 z4 z5 y0 y1 y2 y3 y4 y5
  unfold actV
  go_enter Tryz.func15, Tryz.ntmps15
  go_upto_region 1 with (fail)
  clear hV0 hV1 hV2
  refine ext_wp (W := V2) fun X => ?_
  refine held_start (C := fun w' => ∃ Z : Ext V2, w' = Z.1) (by kernel_rfl) ?_
  obtain ⟨Z0, hZ0⟩ : ∃ Z : Ext V2, ({ X.1 with drawn := X.1.drawn + 1 } : World) = Z.1 := ⟨⟨{ X.1 with drawn := X.1.drawn + 1 }, below_step X.2 ⟨rfl, rfl, rfl, Nat.le_refl _, fun _ _ => rfl⟩⟩, rfl⟩
  rw [hZ0]
  clear hZ0
  refine held_quiet (by kernel_rfl) (fun _ _ d _ _ h => by cases d <;> exact h) ⟨Z0, rfl⟩ [0, 2] 5 _ _ (by kernel_rfl) ?_
  change wpQuiet _ _ _ _ (_ :: _ :: []) _
  repeat go_big_quiet_step (fail)
  refine wpQuiet_nil ?_
  refine held_do (i := 1) _ rfl (by kernel_rfl) rfl (fun K hK => ?_)
  go_simp
  refine (DA.out Z0).mono ?_
  rintro e w1 ⟨rfl, Z1, rfl⟩
  refine hK _ _ ⟨Z1, rfl⟩ ?_
  clear hK K
  try simp only [Act.put, List.setIfInBounds_toArray, List.set_cons_zero, List.set_cons_succ]
  refine held_do (i := 3) _ rfl (by kernel_rfl) rfl (fun K hK => ?_)
  go_simp
  refine (DB.out Z1).mono ?_
  rintro e w1 ⟨rfl, Z2, rfl⟩
  refine hK _ _ ⟨Z2, rfl⟩ ?_
  clear hK K
  try simp only [Act.put, List.setIfInBounds_toArray, List.set_cons_zero, List.set_cons_succ]
  refine held_do (i := 4) _ rfl (by kernel_rfl) rfl (fun K hK => ?_)
  go_simp
  obtain ⟨Wb, hWb, hwb1, hwb2, hwq⟩ := alloc_cells Z2.1 #[.int .i64 0, .int .i64 0] 29
  rw [hWb]
  obtain ⟨Z3, rfl⟩ : ∃ Z : Ext V2, Wb = Z.1 := ⟨⟨Wb, below_step Z2.2 hwb1⟩, rfl⟩
  have DO := Lib.hid (orE_any [0, 0] Z2.1.heap.size 2 Z3.1 (by simp) (fun i v hv => hwq i _ (by
    match i, hv with
    | 0, h => injection h with h; subst h; rfl
    | 1, h => injection h with h; subst h; rfl
    | n + 2, h => simp at h)))
  rw [show orL [0, 0] = 0 from rfl] at DO
  refine hK _ _ ⟨Z3, rfl⟩ ?_
  clear hK K hWb hwb1 hwb2 hwq
  try simp only [Act.put, List.setIfInBounds_toArray, List.set_cons_zero, List.set_cons_succ]
  refine held_do (i := 5) _ rfl (by kernel_rfl) rfl (fun K hK => ?_)
  go_simp
  refine DO.out.mono ?_
  rintro e w1 ⟨rfl, rfl⟩
  refine hK _ _ ⟨Z3, rfl⟩ ?_
  clear hK K DO
  try simp only [Act.put, List.setIfInBounds_toArray, List.set_cons_zero, List.set_cons_succ]
  refine held_quiet (by kernel_rfl) (fun _ _ d _ _ h => by cases d <;> exact h) ⟨Z3, rfl⟩ [6] 0 _ _ (by kernel_rfl) ?_
  change wpQuiet _ _ _ _ (_ :: []) _
  repeat go_big_quiet_step (fail)
  refine wpQuiet_nil ?_
  refine wpAnyH_done (by kernel_rfl) ?_ _
  clear DA DB X Z0 Z1
  go_wp2_with fail
  refine (DIN.out _ _ _ _).mono ?_
  rintro e _ ⟨rfl, rfl⟩
  rw [HIR.out]
  obtain ⟨V3, hV3⟩ : ∃ V, Z3.1.alloc (.map #[] 0) = V := ⟨_, rfl⟩
  have HM3 := Lib.hid (show SMap V3 Z3.1.heap.size 0 (fun _ => none) from hV3 ▸ SMap.made Z3.1)
  have HB3 := Lib.hid (show Below V2.heap.size V2 V3 from below_step Z3.2 (hV3 ▸ below_al Z3.1 _))
  have c3 := B3 ⟨V3, HB3.out⟩
  go_wp2_with fail
  obtain ⟨MB, hMB⟩ : ∃ q, Z3.1.heap.size = q := ⟨_, rfl⟩
  rw [hMB] at HM3 ⊢
  have HMB := Lib.hid (show V2.heap.size ≤ MB ∧ MB < V3.heap.size from ⟨by rw [← hMB]; exact Z3.2.size, HM3.out.lt⟩)
  have HC := Lib.hid (fun (X : ExtO (fun q => q = MB) V3) (p : Addr) (v : Value) (hp : p.block < V2.heap.size) (h : V2.cell? p = some v) => show X.1.cell? p = some v from X.2.cell (by have := HMB.out; omega) (below_cell HB3.out h))
  clear c3 hV3 hMB
  go_loopw [48] (fun iv wr => ∃ k : Nat, iv = .int .i64 k ∧ k ≤ B.sm.length ∧ ∃ X : ExtO (fun q => q = MB) V3, wr = X.1 ∧ Hid (SMap X.1 MB k (mapB B shift (B.sm.take k)))) (fun iv _ => B.sm.length - (intOf iv).toNat)
  case atStart => exact ⟨0, rfl, by omega, ⟨V3, Kept.refl _ _⟩, rfl, Lib.hid HM3.out⟩
  case round =>
    obtain ⟨k, rfl, hk, X, rfl, HM⟩ := hrel
    by_cases hlt : k < B.sm.length
    · have t2 : decide ((k : Int) < (B.sm.length : Int)) = true := by rw [decide_eq_true_eq]; omega
      have t2' : decide (k < B.sm.length) = true := by simpa using hlt
      obtain ⟨x, hx⟩ : ∃ x, B.sm[k]? = some x := ⟨_, List.getElem?_eq_getElem hlt⟩
      have HSN := Lib.hid (mapB_snoc (B := B) (shift := shift) hx)
      have x0 := HOB.out.sm.nonneg hx
      have x1 := (HOB.out.sm.upto k x hx).1
      obtain ⟨s0, s1⟩ := HOB.out.start
      have hnb := HOB.out.nsm
      obtain ⟨b3, o3, rfl, hb3, hd⟩ := HIB.out.sm.at hx
      have e0 := HC.out X ⟨b3, o3 + k * 7, none⟩ (.int .i64 x.tm) hb3 (hd 0 _ rfl)
      have e1 := HC.out X ⟨b3, o3 + k * 7 + 1, none⟩ (.int .i64 x.x) hb3 (hd 1 _ rfl)
      have e2 := HC.out X ⟨b3, o3 + k * 7 + 2, none⟩ (.int .i64 x.y) hb3 (hd 2 _ rfl)
      have e3 := HC.out X ⟨b3, o3 + k * 7 + 3, none⟩ (.int .i64 x.z) hb3 (hd 3 _ rfl)
      have e4 := HC.out X ⟨b3, o3 + k * 7 + 4, none⟩ (.int .i64 x.pu) hb3 (hd 4 _ rfl)
      have e5 := HC.out X ⟨b3, o3 + k * 7 + 5, none⟩ (.int .i64 x.po) hb3 (hd 5 _ rfl)
      have e6 := HC.out X ⟨b3, o3 + k * 7 + 6, none⟩ (.int .i64 x.st) hb3 (hd 6 _ rfl)
      have j2 := HC.out X ⟨w.heap.size + 1, 2, none⟩ _ HA1.out.lt HA1.out.cell.2.2.1
      obtain ⟨V6, hV6, hb6, hs6, ha6⟩ := alloc_sm X.1 x
      have i2 := below_cell hb6 j2
      obtain ⟨q0, q1, q2, q3, q4, q5, q6⟩ := ha6.cell
      have w1 : IntKind.i64.wrap (B.start + x.tm) = B.start + x.tm := tm_wrap (by omega) (by omega)
      have w2 : IntKind.i64.wrap (B.start + x.tm - shift) = B.start + x.tm - shift := tm_wrap (by omega) (by omega)
      obtain ⟨w8, k2, m8, g8⟩ := (HM.out.below hb6).put (j := B.start + x.tm - shift) (tm_wf (by omega) (by omega)) (by unfold maxLen; omega) x
      replace k2 : (Instr.mapUpdate 79 (.map (some MB)) (.int .i64 (B.start + x.tm - shift)) (.agg #[.int .i64 x.tm, .int .i64 x.x, .int .i64 x.y, .int .i64 x.z, .int .i64 x.pu, .int .i64 x.po, .int .i64 x.st])).run Tryz.prog V6 = .ok () w8 := k2
      have HM8 := Lib.hid m8
      have HK8 := Lib.hid ((X.2.trans (Kept.of_below hb6)).trans (Kept.of_grown (O := fun q => q = MB) g8 (fun g e _ => by injection e with e; exact e.symm)))
      clear hx hd hb3 hb6 hs6 ha6 m8 g8 HM x0 x1 s0 s1
      go_wp2_with fail
      go_roundw
      case rel => exact ⟨k + 1, by go_num, by omega, ⟨w8, HK8.out⟩, rfl, Lib.hid (by rw [HSN.out]; exact HM8.out)⟩
      case measure => simp [intOf]; omega
    · have t2 : decide ((k : Int) < (B.sm.length : Int)) = false := by rw [decide_eq_false_iff_not]; omega
      have t2' : decide (k < B.sm.length) = false := by simpa using hlt
      obtain rfl : k = B.sm.length := by omega
      obtain ⟨F0, hF0⟩ : ∃ F, mapB B shift B.sm = F := ⟨_, rfl⟩
      have HF0 := Lib.hid hF0
      have HMX := HM.out
      rw [List.take_length, hF0] at HMX
      have j3 := HC.out X ⟨w.heap.size, 3, none⟩ _ HA0.out.lt HA0.out.cell.2.2.2.1
      clear hlt hk hF0 HM
      go_wp2_with fail
      clear j3
      go_loopw [65] (fun iv wr => ∃ k : Nat, iv = .int .i64 k ∧ k ≤ A.sm.length ∧ ∃ X : ExtO (fun q => q = MB) V3, wr = X.1 ∧ Hid (SMap X.1 MB (B.sm.length + k) (mapA A F0 (A.sm.take k)))) (fun iv _ => A.sm.length - (intOf iv).toNat)
      case atStart => exact ⟨0, rfl, by omega, X, rfl, Lib.hid HMX⟩
      case round =>
        clear HMX X
        obtain ⟨k, rfl, hk, X, rfl, HM⟩ := hrel
        by_cases hlt : k < A.sm.length
        · have t3 : decide ((k : Int) < (A.sm.length : Int)) = true := by rw [decide_eq_true_eq]; omega
          have t3' : decide (k < A.sm.length) = true := by simpa using hlt
          obtain ⟨x, hx⟩ : ∃ x, A.sm[k]? = some x := ⟨_, List.getElem?_eq_getElem hlt⟩
          obtain ⟨F1, hF1⟩ : ∃ F, mapA A F0 (A.sm.take k) = F := ⟨_, rfl⟩
          have HSN := Lib.hid (show mapA A F0 (A.sm.take (k + 1)) = stepA A F1 x by rw [mapA_snoc hx, hF1])
          have hM := HM.out
          rw [hF1] at hM
          have x0 := HOA.out.sm.nonneg hx
          have x1 := (HOA.out.sm.upto k x hx).1
          obtain ⟨s0, s1⟩ := HOA.out.start
          have hna := HOA.out.nsm
          have hnb := HOB.out.nsm
          obtain ⟨b3, o3, rfl, hb3, hd⟩ := HIA.out.sm.at hx
          have e0 := HC.out X ⟨b3, o3 + k * 7, none⟩ (.int .i64 x.tm) hb3 (hd 0 _ rfl)
          have e1 := HC.out X ⟨b3, o3 + k * 7 + 1, none⟩ (.int .i64 x.x) hb3 (hd 1 _ rfl)
          have e2 := HC.out X ⟨b3, o3 + k * 7 + 2, none⟩ (.int .i64 x.y) hb3 (hd 2 _ rfl)
          have e3 := HC.out X ⟨b3, o3 + k * 7 + 3, none⟩ (.int .i64 x.z) hb3 (hd 3 _ rfl)
          have e4 := HC.out X ⟨b3, o3 + k * 7 + 4, none⟩ (.int .i64 x.pu) hb3 (hd 4 _ rfl)
          have e5 := HC.out X ⟨b3, o3 + k * 7 + 5, none⟩ (.int .i64 x.po) hb3 (hd 5 _ rfl)
          have e6 := HC.out X ⟨b3, o3 + k * 7 + 6, none⟩ (.int .i64 x.st) hb3 (hd 6 _ rfl)
          have j2 := HC.out X ⟨w.heap.size, 2, none⟩ _ HA0.out.lt HA0.out.cell.2.2.1
          obtain ⟨V6, hV6, hb6, hs6, ha6⟩ := alloc_sm X.1 x
          have i2 := below_cell hb6 j2
          obtain ⟨q0, q1, q2, q3, q4, q5, q6⟩ := ha6.cell
          have w1 : IntKind.i64.wrap (A.start + x.tm) = A.start + x.tm := tm_wrap (by omega) (by omega)
          have hkwf : (Lit.int .i64 (A.start + x.tm)).wf = true := tm_wf (by omega) (by omega)
          have hlk := (hM.below hb6).look hkwf
          obtain ⟨st, hst⟩ : ∃ s, (F1 (A.start + x.tm)).getD sm0 = s := ⟨_, rfl⟩
          obtain ⟨bl, hbl⟩ : ∃ s, (F1 (A.start + x.tm)).isSome = s := ⟨_, rfl⟩
          rw [hst, hbl] at hlk
          replace hlk : (Instr.lookup 79 (.map (some MB)) (.int .i64 (A.start + x.tm)) true).run Tryz.prog V6 = .ok (.tuple #[.agg #[.int .i64 st.tm, .int .i64 st.x, .int .i64 st.y, .int .i64 st.z, .int .i64 st.pu, .int .i64 st.po, .int .i64 st.st], .bool bl]) V6 := hlk
          obtain ⟨V7, hV7, hb7, hs7, ha7⟩ := alloc_sm V6 st
          have i3 := below_cell hb7 i2
          have hc6 := ha6.below hb7
          obtain ⟨r0, r1, r2, r3, r4, r5, r6⟩ := hc6.cell
          obtain ⟨u0, u1, u2, u3, u4, u5, u6⟩ := ha7.cell
          have HMM := Lib.hid ((hM.below hb6).below hb7)
          have HK7 := Lib.hid ((X.2.trans (Kept.of_below hb6)).trans (Kept.of_below hb7))
          have HC6 := Lib.hid hc6
          have HKW := Lib.hid hkwf
          have HNN := Lib.hid (show B.sm.length + k < maxLen from by unfold maxLen; omega)
          have HSB := Lib.hid (And.intro hst hbl)
          clear hx hd hb3 hb6 hb7 hs6 ha6 ha7 hc6 hM HM x0 x1 s0 s1 hnb hkwf hF1 hst hbl
          cases bl
          case false =>
            have HST := Lib.hid (show stepA A F1 x = putS F1 (A.start + x.tm) x from by
              unfold stepA
              cases hf : F1 (A.start + x.tm) with
              | none => rfl
              | some t => have := HSB.out.2; rw [hf] at this; cases this)
            obtain ⟨w8, k2, m8, g8⟩ := HMM.out.put (j := A.start + x.tm) HKW.out HNN.out x
            replace k2 : (Instr.mapUpdate 79 (.map (some MB)) (.int .i64 (A.start + x.tm)) (.agg #[.int .i64 x.tm, .int .i64 x.x, .int .i64 x.y, .int .i64 x.z, .int .i64 x.pu, .int .i64 x.po, .int .i64 x.st])).run Tryz.prog V7 = .ok () w8 := k2
            have HM8 := Lib.hid m8
            have HK8 := Lib.hid (HK7.out.trans (Kept.of_grown (O := fun q => q = MB) g8 (fun g e _ => by injection e with e; exact e.symm)))
            clear m8 g8
            go_wp2_with fail
            go_roundw
            case rel => exact ⟨k + 1, by go_num, by omega, ⟨w8, HK8.out⟩, rfl, Lib.hid (by rw [HSN.out, HST.out]; exact HM8.out)⟩
            case measure => simp [intOf]; omega
          case true =>
            have HST := Lib.hid (show stepA A F1 x = putS F1 (A.start + x.tm) (fillS x st) from by
              unfold stepA
              cases hf : F1 (A.start + x.tm) with
              | none => have := HSB.out.2; rw [hf] at this; cases this
              | some t => have := HSB.out.1; rw [hf] at this; rw [← this]; rfl)
            have hfe : fillS x st = ⟨x.tm, x.x, x.y, x.z, orNeg x.pu st.pu, orNeg x.po st.po, orNeg x.st st.st⟩ := rfl
            have hDF := fun W => filled_any x st W
            obtain ⟨p4, hp4⟩ : ∃ z, orNeg x.pu st.pu = z := ⟨_, rfl⟩
            obtain ⟨p5, hp5⟩ : ∃ z, orNeg x.po st.po = z := ⟨_, rfl⟩
            obtain ⟨p6, hp6⟩ : ∃ z, orNeg x.st st.st = z := ⟨_, rfl⟩
            rw [hp4, hp5, hp6] at hfe
            rw [hfe] at hDF HST
            have DF := Lib.hid (fun W => show Calls Tryz.prog 50 #[.agg #[.int .i64 x.tm, .int .i64 x.x, .int .i64 x.y, .int .i64 x.z, .int .i64 x.pu, .int .i64 x.po, .int .i64 x.st], .agg #[.int .i64 st.tm, .int .i64 st.x, .int .i64 st.y, .int .i64 st.z, .int .i64 st.pu, .int .i64 st.po, .int .i64 st.st]] W fun e w' => e = .returned (.agg #[.int .i64 x.tm, .int .i64 x.x, .int .i64 x.y, .int .i64 x.z, .int .i64 p4, .int .i64 p5, .int .i64 p6]) ∧ Below W.heap.size W w' from hDF W)
            clear hfe hDF hp4 hp5 hp6
            go_wp2_with fail
            refine (DF.out _).mono ?_
            rintro e W8 ⟨rfl, hb8⟩
            have hc8 := HC6.out.below hb8
            have fr := hc8.free
            obtain ⟨v0, v1, v2, v3, v4, v5, v6⟩ := hc8.cell
            obtain ⟨W9, hW9, hc9, hk9⟩ := hc8.store ⟨x.tm, x.x, x.y, x.z, p4, p5, p6⟩
            obtain ⟨n0, n1, n2, n3, n4, n5, n6⟩ := hc9.cell
            simp only at hW9 n0 n1 n2 n3 n4 n5 n6
            have hbb : Below V7.heap.size V7 W9 ∨ True := Or.inr trivial
            have hk79 : Kept (fun q => q = X.1.heap.size) V7 W9 := (Kept.of_below hb8).trans (hk9 (fun q => q = X.1.heap.size) rfl)
            have hne : ¬ MB = X.1.heap.size := by have := HMB.out; have := X.2.size; omega
            have hne2 : ¬ w.heap.size = X.1.heap.size := by have := HMB.out; have := X.2.size; have := HSZ.out; omega
            have i4 : W9.cell? ⟨w.heap.size, 2, none⟩ = some (.int .i64 A.start) := hk79.cell (p := ⟨w.heap.size, 2, none⟩) hne2 i3
            obtain ⟨w10, k2, m8, g8⟩ := (HMM.out.kept hk79 hne).put (j := A.start + x.tm) HKW.out HNN.out ⟨x.tm, x.x, x.y, x.z, p4, p5, p6⟩
            replace k2 : (Instr.mapUpdate 79 (.map (some MB)) (.int .i64 (A.start + x.tm)) (.agg #[.int .i64 x.tm, .int .i64 x.x, .int .i64 x.y, .int .i64 x.z, .int .i64 p4, .int .i64 p5, .int .i64 p6])).run Tryz.prog W9 = .ok () w10 := k2
            have HM8 := Lib.hid m8
            have HK8 := Lib.hid (show Kept (fun q => q = MB) V3 w10 from by
              have h1 : Kept (fun q => q = MB) V3 W9 := ⟨hk79.os.trans HK7.out.os, hk79.tape.trans HK7.out.tape, hk79.output.trans HK7.out.output, Nat.le_trans HK7.out.size hk79.size, fun g hg ho => (hk79.block g (Nat.lt_of_lt_of_le hg HK7.out.size) (fun e => by have := X.2.size; omega)).trans (HK7.out.block g hg ho)⟩
              exact h1.trans (Kept.of_grown (O := fun q => q = MB) g8 (fun g e _ => by injection e with e; exact e.symm)))
            clear hb8 hc8 hc9 hk9 hbb hk79 m8 g8
            go_wp2_with fail
            go_roundw
            case rel => exact ⟨k + 1, by go_num, by omega, ⟨w10, HK8.out⟩, rfl, Lib.hid (by rw [HSN.out, HST.out]; exact HM8.out)⟩
            case measure => simp [intOf]; omega
        · have t3 : decide ((k : Int) < (A.sm.length : Int)) = false := by rw [decide_eq_false_iff_not]; omega
          have t3' : decide (k < A.sm.length) = false := by simpa using hlt
          obtain rfl : k = A.sm.length := by omega
          have hFF : mapA A F0 A.sm = mgF A B shift := by unfold mgF; rw [HF0.out]
          have HM3 := HM.out
          rw [List.take_length, hFF] at HM3
          have hna := HOA.out.nsm
          have hnb := HOB.out.nsm
          have hnl := HOA.out.nlp
          have hnt := HOA.out.ntg
          obtain ⟨N, hN⟩ : ∃ N, B.sm.length + A.sm.length = N := ⟨_, rfl⟩
          rw [hN] at HM3
          have HN := Lib.hid (show N ≤ 40000 from by omega)
          have HMX := Lib.hid HM3
          have HINX := Lib.hid (show ActIn X.1 A a b c from by
            have hv : ∀ {α : Type} {C : α → List Value} {m : Nat} {x : Option Addr} {ll : List α}, Rw C m V2 x ll → Rw C m X.1 x ll := fun hr => ⟨fun hl => by
              obtain ⟨bb, off, e, hb, hc⟩ := hr.here hl
              exact ⟨bb, off, e, by have := X.2.size; have := HB3.out.size; omega, fun i x hx j v hv => HC.out X ⟨bb, off + i * _ + j, none⟩ v hb (hc i x hx j v hv)⟩⟩
            exact ⟨hv HIA.out.sm, hv HIA.out.lp, hv HIA.out.tg, HIA.out.name, HIA.out.titles, HIA.out.tags, HIA.out.nsm, HIA.out.nlp, HIA.out.ntg⟩)
          have DC := Lib.hid (cloneA_any A a b c ca cb cc X.1 HINX.out (by omega) (by omega) (by omega))
          unfold actV CloneRet at DC
          obtain ⟨m0, m1, m2, m3, m4, m5⟩ := HA0.out.cell
          have g0 := HC.out X ⟨w.heap.size, 0, none⟩ _ HA0.out.lt m0
          have g1 := HC.out X ⟨w.heap.size, 1, none⟩ _ HA0.out.lt m1
          have g2 := HC.out X ⟨w.heap.size, 2, none⟩ _ HA0.out.lt m2
          have g3 := HC.out X ⟨w.heap.size, 3, none⟩ _ HA0.out.lt m3
          have g4 := HC.out X ⟨w.heap.size, 4, none⟩ _ HA0.out.lt m4
          have g5 := HC.out X ⟨w.heap.size, 5, none⟩ _ HA0.out.lt m5
          clear hlt hk HM HM3 hFF hN m0 m1 m2 m3 m4 m5 HF0
          go_wp2_with fail
          refine (DC.out).mono ?_
          rintro e w1 ⟨⟨a1, b1, c1, ca1, cb1, cc1, rfl, ho3⟩, hb1⟩
          obtain ⟨V4, hV4, hb4, hs4, ha4⟩ := alloc_ac w1 A.name A.sport A.start (.slice a1 A.sm.length ca1) (.slice b1 A.lp.length cb1) (.slice c1 A.tg.length cc1)
          have hA5 := ha4.set3 (.slice none 0 0)
          obtain ⟨W, hW⟩ : ∃ W, V4.setCell ⟨w1.heap.size, 3, none⟩ (.slice none 0 0) = W := ⟨_, rfl⟩
          rw [hW] at hA5
          have i3 := ha4.cell.2.2.2.1
          have fr3 := ha4.free 3
          have HBW := Lib.hid (show Below w1.heap.size w1 W from Kept.below hb4 (by rw [← hW]; exact keep_set (O := fun b => b = w1.heap.size) rfl) hb4.size (fun k hk e => by omega))
          have HB1 := Lib.hid hb1
          have HO3 := Lib.hid ho3
          have HA5 := Lib.hid hA5
          have HMW := Lib.hid ((HMX.out.below hb1).below HBW.out)
          obtain ⟨DM, hown, hat⟩ := HMW.out.ex
          have HDM := Lib.hid (And.intro hown hat)
          have HBO := Lib.hid (show X.1.heap.size ≤ w1.heap.size ∧ w1.heap.size < W.heap.size from ⟨hb1.size, HA5.out.lt⟩)
          clear hA5 ha4 hb4 hs4 hb1 ho3 hown hat g0 g1 g2 g3 g4 g5
          unfold actV
          obtain ⟨r, hr⟩ : ∃ r, W.heap.size = r := ⟨_, rfl⟩
          have HR := Lib.hid hr
          clear hr
          go_wp2_with (at_range; refine wpList_range_own _ rfl _ 79 rfl 3 72 (Maps.int_keyed Tryz.underlying3) Tryz.underlying79 smR MB N DM rfl HDM.out.1 ?_; intro w0 hrg0 hgr0 hs0)
          go_frame
          obtain ⟨BO, hBO⟩ : ∃ q, w1.heap.size = q := ⟨_, rfl⟩
          rw [hBO] at HA5 HBO ⊢
          rw [HR.out] at hrg0 hs0 ⊢
          clear i3 fr3 hV4 hW
          have HW0 := Lib.hid (show Below W.heap.size W w0 from (Below.refl _ _).grown hgr0 (Nat.le_refl _) (fun j hj => by cases hj))
          have HS0 := Lib.hid (show w0.heap.size = r + 1 from hs0)
          clear hgr0 hs0
          go_loopw [17] (fun _ wr => ∃ (left : Lit → Bool) (cnt : Nat) (L : List Sm), Hid (wr.ranges Tryz.prog 3 smR MB r N DM left cnt) ∧ Hid (RgS (mgF A B shift) left L ∧ L.length + cnt ≤ N) ∧ Hid (∃ vs, AcB wr BO A.name A.sport A.start vs (.slice b1 A.lp.length cb1) (.slice c1 A.tg.length cc1) ∧ Own smC 7 72 wr w0.heap.size vs L) ∧ ∃ Y : ExtO (fun q => q = BO) W, wr = Y.1) (fun _ wr => wr.rangeLeft MB r)
          case atStart =>
            refine ⟨Maps.has DM, Maps.size DM, [], Lib.hid hrg0, Lib.hid ⟨RgS.start fun j u hj hu => Maps.has_true_of_atKey ((HDM.out.2 j hj).1 u hu), by have := HDM.out.1.size_le; simpa using this⟩, Lib.hid ⟨_, HA5.out.below HW0.out, Own.nil _ _ _ _ _⟩, ⟨w0, Kept.of_below HW0.out⟩, rfl⟩
          case round =>
            obtain ⟨left, cnt, L, HRG, HRS, HST, Y, rfl⟩ := hrel
            go_wp2_with (at_next; refine wpList_next_ranges _ rfl _ rfl 3 (Maps.int_keyed Tryz.underlying3) smR (fun x : Int => Value.int .i64 x) smV key_int smR_val MB r N _ _ _ rfl HRG.out ?_ ?_)
            · intro hc0 hl0
              have HMEM := Lib.hid (HRS.out.1.done hl0 (fun j u hj => by have := mgF_range HOA.out HOB.out h0 h1 hj; exact tm_wf (by omega) (by omega)))
              have HND := Lib.hid HRS.out.1.nd
              have HLN := Lib.hid (show L.length ≤ 40000 from by have := HRS.out.2; have := HN.out; omega)
              obtain ⟨vs, hac, hown⟩ := HST.out
              obtain ⟨a2, c2, rfl, -, -, -⟩ := hown.row smEl
              have DSO := Lib.hid (sortSm_any L a2 c2 w0.heap.size Y.1 hown (by have := HLN.out; omega))
              have HAC := Lib.hid hac
              have HOW := Lib.hid hown
              have k3 := hac.cell.2.2.2.1
              clear hac hown HST HRS HRG hl0 hc0
              go_wp2_with fail
              refine (DSO.out).mono ?_
              rintro e U ⟨rfl, ⟨LS, hperm, hsort, hown⟩, hgU⟩
              have hll : LS.length = L.length := hperm.length_eq
              have HLS := Lib.hid (show LS.Pairwise (fun x y => x.tm < y.tm) from by
                have hnd : LS.Pairwise (fun x y => x.tm ≠ y.tm) := (hperm.pairwise_iff (fun {x y} h => Ne.symm h)).2 HND.out
                exact (hsort.and hnd).imp (fun ⟨h1, h2⟩ => by omega))
              have HSM := Lib.hid (fun s => show s ∈ LS ↔ ∃ u, mgF A B shift s.tm = some u ∧ s = { u with tm := s.tm } from (hperm.mem_iff).trans (HMEM.out s))
              have hbo := HBO.out
              have hrr := HR.out
              have hss := HS0.out
              have HOU := Lib.hid hown
              have HAU := Lib.hid (HAC.out.kept (O := fun q => w0.heap.size ≤ q) (Kept.of_grown hgU (fun g e _ => (HOW.out.lt g e).1)) (by omega))
              have HKU := Lib.hid (Y.2.grown hgU (fun g e hlt => by have := (HOW.out.lt g e).1; omega))
              have HLL := Lib.hid hll
              have HLR := Lib.hid (fun (i : Nat) (x : Sm) (hx : LS[i]? = some x) => show (-86399999999 ≤ x.tm ∧ x.tm ≤ 172800000000) from by
                obtain ⟨u, hu, _⟩ := (HSM.out x).1 (List.mem_of_getElem? hx)
                exact mgF_range HOA.out HOB.out h0 h1 hu)
              rw [← hll] at HOU HAU ⊢
              obtain ⟨n, hn⟩ : ∃ n, LS.length = n := ⟨_, rfl⟩
              rw [hn] at HOU HAU ⊢
              have HNN := Lib.hid (show LS.length = n ∧ n ≤ 40000 from ⟨hn, by have := HLN.out; omega⟩)
              clear hperm hsort hown hgU hll k3 hn HAC HOW HND HMEM DSO HLN HLL
              obtain ⟨o0, o1, o2, o3, o4, o5⟩ := HAU.out.cell
              have fo := HAU.out.free
              by_cases hn0 : 0 < n
              case' pos =>
                have t4 : decide ((0 : Int) < (n : Int)) = true := by rw [decide_eq_true_eq]; omega
                have t4' : decide (0 < n) = true := by rw [decide_eq_true_eq]; omega
                obtain ⟨x, hx⟩ : ∃ x, LS[0]? = some x := ⟨_, List.getElem?_eq_getElem (by rw [HNN.out.1]; exact hn0)⟩
                obtain ⟨b3, o3', rfl, hb3, hd⟩ := (HOU.out.rw_ smEl).1.at hx
                have e0 : U.cell? ⟨b3, o3', none⟩ = some (.int .i64 x.tm) := by have := hd 0 _ rfl; simpa using this
                have HST := Lib.hid (show mgSt A LS = x.tm by unfold mgSt; rw [hx])
                have hxr := HLR.out 0 x hx
                obtain ⟨st, hst⟩ : ∃ z, x.tm = z := ⟨_, rfl⟩
                rw [hst] at e0 HST hxr
                have ha4 := HAU.out.set2 st
                obtain ⟨W4, hW4⟩ : ∃ z, U.setCell ⟨BO, 2, none⟩ (.int .i64 st) = z := ⟨_, rfl⟩
                rw [hW4] at ha4
                have hk4 : Kept (fun q => q = BO) U W4 := by rw [← hW4]; exact keep_set (O := fun q => q = BO) rfl
                have HOW4 := Lib.hid (HOU.out.keepO hk4 (fun b hb e => by have := (HOU.out.lt b hb).1; omega))
                have HA4 := Lib.hid ha4
                have HK4 := Lib.hid (HKU.out.trans hk4)
                have k34 := ha4.cell.2.2.2.1
                have HSR := Lib.hid hxr
                clear hx hb3 hd hst hk4 ha4 hxr hbo hrr hss
                go_wp2_with fail
                clear e0 hW4 k34 t4 t4'
                obtain ⟨a2, ha2⟩ : ∃ q, some (⟨b3, o3', none⟩ : Addr) = q := ⟨_, rfl⟩
                rw [ha2] at HA4 HOW4 ⊢
                clear o0 o1 o2 o3 o4 o5 fo HOU HAU HKU ha2
              case' neg =>
                have t4 : decide ((0 : Int) < (n : Int)) = false := by rw [decide_eq_false_iff_not]; omega
                have t4' : decide (0 < n) = false := by rw [decide_eq_false_iff_not]; omega
                clear hbo hrr hss
                go_wp2_with fail
                clear t4
                obtain ⟨st, hst⟩ : ∃ z, A.start = z := ⟨_, rfl⟩
                have HST := Lib.hid (show mgSt A LS = st by
                  unfold mgSt
                  rw [List.getElem?_eq_none (by rw [HNN.out.1]; omega)]
                  exact hst)
                have HSR := Lib.hid (show -86399999999 ≤ st ∧ st ≤ 172800000000 from by have := HOA.out.start; omega)
                obtain ⟨W4, hW4⟩ : ∃ z, U = z := ⟨_, rfl⟩
                have HA4 := Lib.hid (show AcB W4 BO A.name A.sport st (.slice a2 n c2) (.slice b1 A.lp.length cb1) (.slice c1 A.tg.length cc1) from by rw [← hW4, ← hst]; exact HAU.out)
                have HOW4 := Lib.hid (show Own smC 7 72 W4 w0.heap.size (.slice a2 n c2) LS from hW4 ▸ HOU.out)
                have HK4 := Lib.hid (show Kept (fun q => q = BO) W W4 from hW4 ▸ HKU.out)
                rw [hW4]
                clear hst hW4 t4'
                clear o0 o1 o2 o3 o4 o5 fo HOU HAU HKU
              all_goals
                clear hn0
                have HOL := Lib.hid (show ∃ Bl, X.1.heap.size ≤ Bl ∧ Own lpC 3 75 w1 Bl (.slice b1 A.lp.length cb1) A.lp from by
                  obtain ⟨B1, B2, h1, h2, _, _, hl, _, _⟩ := HO3.out.ex
                  exact ⟨B1, h1, hl⟩)
                obtain ⟨Bl, hBl, hlw⟩ := HOL.out
                have HLB := Lib.hid (fun q (hq : b1 = some ⟨q, 0, none⟩) => show X.1.heap.size ≤ q ∧ q < BO from by
                  have := hlw.lt q (by rw [hq]; rfl)
                  omega)
                have HLW := Lib.hid hlw
                have HBLO := Lib.hid hBl
                clear hBl hlw HOL
                go_loopw [125] (fun iv wr => ∃ k : Nat, iv = .int .i64 k ∧ k ≤ n ∧ Hid (Own smC 7 72 wr w0.heap.size (.slice a2 n c2) ((LS.take k).map (backS st) ++ LS.drop k)) ∧ ∃ Z : ExtO (fun q => w0.heap.size ≤ q) W4, wr = Z.1) (fun iv _ => n - (intOf iv).toNat)
                case atStart => exact ⟨0, rfl, by omega, Lib.hid HOW4.out, ⟨W4, Kept.refl _ _⟩, rfl⟩
                case round =>
                  obtain ⟨k, rfl, hk, HO, Z, rfl⟩ := hrel
                  have hbow : ¬ w0.heap.size ≤ BO := by have := HBO.out; have := HR.out; have := HS0.out; omega
                  have hacz := HA4.out.kept Z.2 hbow
                  by_cases hlt : k < n
                  · have t5 : decide ((k : Int) < (n : Int)) = true := by rw [decide_eq_true_eq]; omega
                    have t5' : decide (k < n) = true := by simpa using hlt
                    obtain ⟨x, hx⟩ : ∃ x, LS[k]? = some x := ⟨_, List.getElem?_eq_getElem (by rw [HNN.out.1]; exact hlt)⟩
                    have hxr := HLR.out k x hx
                    have hsr := HSR.out
                    have hat := at_upto (backS st) LS k x hx
                    have HUP := Lib.hid (map_upto (backS st) LS k x hx)
                    have hlen := len_upto (backS st) LS k (by rw [HNN.out.1]; exact hk)
                    obtain ⟨q, c', he, hq1, hq2⟩ := HO.out.open (by rw [hlen, HNN.out.1]; omega)
                    injection he with he1 he2 he3
                    subst he1
                    have hcell : Z.1.cell? ⟨q, k * 7, none⟩ = some (.int .i64 x.tm) := by
                      have := (HO.out.rw_ smEl).1.on hat 0 _ rfl
                      simpa using this
                    have hw : IntKind.i64.wrap (x.tm - st) = x.tm - st := tm_wrap (by omega) (by omega)
                    have E0 := Ext.ex hcell
                    have G2 := Ext.ex hacz.cell.2.2.1
                    have G3 := Ext.ex hacz.cell.2.2.2.1
                    have HAT := Lib.hid hat
                    have HQ1 := Lib.hid hq1
                    have HLT := Lib.hid hlt
                    clear hx hxr hsr hat hlen he2 he3 hcell hacz hbow hq1 hq2 hk hlt
                    go_wp2_with fail
                    refine late_start (s := 11) (C := fun w' => ∃ Y : Ext Z.1, w' = Y.1) (by kernel_rfl) ?_
                    obtain ⟨Q0, hQ0⟩ : ∃ Y : Ext Z.1, ({ Z.1 with drawn := Z.1.drawn + 1 } : World) = Y.1 := ⟨⟨{ Z.1 with drawn := Z.1.drawn + 1 }, ⟨rfl, rfl, rfl, Nat.le_refl _, fun _ _ => rfl⟩⟩, rfl⟩
                    rw [hQ0]
                    clear hQ0
                    refine late_quiet (by kernel_rfl) (fun _ _ d _ _ h => by cases d <;> exact h) ⟨Q0, rfl⟩ [0, 1, 2] 9 _ _ (by kernel_rfl) (by kernel_rfl) ?_
                    change wpQuiet _ _ _ _ (_ :: _ :: _ :: []) _
                    repeat go_big_quiet_step (fail)
                    refine wpQuiet_nil ?_
                    have hlt := HLT.out
                    refine late_quiet (by kernel_rfl) (fun _ _ d _ _ h => by cases d <;> exact h) ⟨Q0, rfl⟩ [3] 8 _ _ (by kernel_rfl) (by kernel_rfl) ?_
                    change wpQuiet _ _ _ _ (_ :: []) _
                    repeat go_big_quiet_step (fail)
                    refine wpQuiet_nil ?_
                    clear hlt
                    refine late_quiet (by kernel_rfl) (fun _ _ d _ _ h => by cases d <;> exact h) ⟨Q0, rfl⟩ [4, 5, 6, 7, 8] 3 _ _ (by kernel_rfl) (by kernel_rfl) ?_
                    change wpQuiet _ _ _ _ (_ :: _ :: _ :: _ :: _ :: []) _
                    repeat go_big_quiet_step (fail)
                    refine wpQuiet_nil ?_
                    have hlt := HLT.out
                    refine late_quiet (by kernel_rfl) (fun _ _ d _ _ h => by cases d <;> exact h) ⟨Q0, rfl⟩ [9] 2 _ _ (by kernel_rfl) (by kernel_rfl) ?_
                    change wpQuiet _ _ _ _ (_ :: []) _
                    repeat go_big_quiet_step (fail)
                    refine wpQuiet_nil ?_
                    clear hlt
                    refine late_quiet (by kernel_rfl) (fun _ _ d _ _ h => by cases d <;> exact h) ⟨Q0, rfl⟩ [10] 1 _ _ (by kernel_rfl) (by kernel_rfl) ?_
                    change wpQuiet _ _ _ _ (_ :: []) _
                    repeat go_big_quiet_step (fail)
                    refine wpQuiet_nil ?_
                    have hoq := HO.out.below Q0.2
                    have fq := hoq.free (k * 7)
                    obtain ⟨hos, hks⟩ := hoq.set smEl (j := 0) HAT.out (by decide) (y := backS st x) (u := .int .i64 (x.tm - st)) rfl
                    rw [Nat.add_zero] at hos hks
                    obtain ⟨W9, hW9⟩ : ∃ z, Q0.1.setCell ⟨q, k * 7, none⟩ (.int .i64 (x.tm - st)) = z := ⟨_, rfl⟩
                    rw [hW9] at hos hks
                    rw [HUP.out] at hos
                    have HOS := Lib.hid hos
                    have HKS := Lib.hid ((Z.2.trans (Kept.of_below Q0.2)).trans (show Kept (fun g => w0.heap.size ≤ g) Q0.1 W9 from ⟨hks.os, hks.tape, hks.output, hks.size, fun g hg ho => hks.block g hg (fun e => ho (by rw [e]; exact HQ1.out))⟩))
                    clear hoq hos hks
                    refine late_do (i := 11) _ rfl (by kernel_rfl) rfl (fun K hK => ?_)
                    go_simp
                    refine hK _ _ (fun h => nomatch (show true = false from h)) ?_
                    clear hK K
                    try simp only [Act.put, List.setIfInBounds_toArray, List.set_cons_zero, List.set_cons_succ]
                    refine late_done (by kernel_rfl) ?_ _
                    have hn4 := HNN.out.2
                    have hlt := HLT.out
                    go_wp2_with fail
                    go_roundw
                    case rel => exact ⟨k + 1, by go_num, by omega, HOS, ⟨W9, HKS.out⟩, rfl⟩
                    case measure => simp [intOf]; omega
                  · have t5 : decide ((k : Int) < (n : Int)) = false := by rw [decide_eq_false_iff_not]; omega
                    have t5' : decide (k < n) = false := by simpa using hlt
                    obtain rfl : k = n := by omega
                    obtain ⟨W5, hW5⟩ : ∃ z, Z.1 = z := ⟨_, rfl⟩
                    have hbo := HBO.out
                    have hrr := HR.out
                    have hss := HS0.out
                    have hmb := HMB.out
                    have hx3 := X.2.size
                    have hsz2 := HSZ.out
                    have hk45 : Kept (fun q => w0.heap.size ≤ q) W4 W5 := hW5 ▸ Z.2
                    have HK5 := Lib.hid (show Kept (fun q => q = BO ∨ w0.heap.size ≤ q) W W5 from Kept.trans (O := fun q => q = BO ∨ w0.heap.size ≤ q) ⟨HK4.out.os, HK4.out.tape, HK4.out.output, HK4.out.size, fun g hg ho => HK4.out.block g hg (fun e => ho (Or.inl e))⟩ ⟨hk45.os, hk45.tape, hk45.output, hk45.size, fun g hg ho => hk45.block g hg (fun e => ho (Or.inr e))⟩)
                    have HA5' := Lib.hid (hW5 ▸ hacz)
                    have HO5 := Lib.hid (show Own smC 7 72 W5 w0.heap.size (.slice a2 k c2) (LS.map (backS st)) from by
                      have h := HO.out
                      rw [← HNN.out.1, List.take_length, List.drop_length, List.append_nil, HNN.out.1, hW5] at h
                      exact h)
                    have HL5 := Lib.hid ((HLW.out.below HBW.out).keepO HK5.out (fun q hq e => by have := (HLW.out.lt q hq).2; omega))
                    have HCA := Lib.hid (show W5.cell? ⟨w.heap.size, 2, none⟩ = some (.int .i64 A.start) from HK5.out.cell (p := ⟨w.heap.size, 2, none⟩) (by simp only; omega) (below_cell HBW.out (below_cell HB1.out (HC.out X ⟨w.heap.size, 2, none⟩ _ HA0.out.lt HA0.out.cell.2.2.1))))
                    have j4 := HA5'.out.cell.2.2.2.2.1
                    have hnl' := hnl
                    rw [hW5]
                    clear hlt hk HO hacz hk45 hW5 hbo hrr hss hmb hx3 hsz2 hbow HOW4 HA4
                    go_wp2_with fail
                    clear j4 t5 t5'
                    go_loopw [143] (fun iv wr => ∃ j : Nat, iv = .int .i64 j ∧ j ≤ A.lp.length ∧ Hid (Own lpC 3 75 wr Bl (.slice b1 A.lp.length cb1) ((A.lp.take j).map (addL (A.start - st)) ++ A.lp.drop j)) ∧ ∃ Z : ExtO (fun q => b1 = some ⟨q, 0, none⟩) W5, wr = Z.1) (fun iv _ => A.lp.length - (intOf iv).toNat)
                    case atStart => exact ⟨0, rfl, by omega, Lib.hid HL5.out, ⟨W5, Kept.refl _ _⟩, rfl⟩
                    case round =>
                      obtain ⟨n', hn'⟩ : ∃ z, k = z := ⟨_, rfl⟩
                      subst hn'
                      clear Z
                      obtain ⟨j, rfl, hj, HO, Z, rfl⟩ := hrel
                      by_cases hlt : j < A.lp.length
                      · have t5 : decide ((j : Int) < (A.lp.length : Int)) = true := by rw [decide_eq_true_eq]; omega
                        have t5' : decide (j < A.lp.length) = true := by simpa using hlt
                        obtain ⟨p, hp⟩ : ∃ p, A.lp[j]? = some p := ⟨_, List.getElem?_eq_getElem hlt⟩
                        obtain ⟨p0, p1, p2, _⟩ := HOA.out.lp.each j p hp
                        have p3 := (spanS_range HOA.out.sm).2
                        have hsr := HSR.out
                        obtain ⟨as0, as1⟩ := HOA.out.start
                        have hat := at_upto (addL (A.start - st)) A.lp j p hp
                        have HUP := Lib.hid (map_upto (addL (A.start - st)) A.lp j p hp)
                        have hlen := len_upto (addL (A.start - st)) A.lp j hj
                        obtain ⟨q, c9, he, hq1, hq2⟩ := HO.out.open (by rw [hlen]; omega)
                        injection he with he1 he2 he3
                        have HLQ := Lib.hid (HLB.out q he1)
                        subst he1
                        have hroww := (HO.out.rw_ lpEl).1.on hat
                        have e0 : Z.1.cell? ⟨q, j * 3, none⟩ = some (.int .i64 p.f) := by have := hroww 0 _ rfl; simpa using this
                        have e1 : Z.1.cell? ⟨q, j * 3 + 1, none⟩ = some (.int .i64 p.t) := by have := hroww 1 _ rfl; simpa using this
                        have hwd : IntKind.i64.wrap (A.start - st) = A.start - st := tm_wrap (by omega) (by omega)
                        have hw1 : IntKind.i64.wrap (p.f + (A.start - st)) = p.f + (A.start - st) := tm_wrap (by omega) (by omega)
                        have hw2 : IntKind.i64.wrap (p.t + (A.start - st)) = p.t + (A.start - st) := tm_wrap (by omega) (by omega)
                        have hOq : ∀ g, (some (⟨q, 0, none⟩ : Addr) = some ⟨g, 0, none⟩) → g = q := fun g e => by injection e with e; injection e with e; exact e.symm
                        have hacz := HA5'.out.kept Z.2 (fun e => by have := hOq _ e; have := HLQ.out; omega)
                        have haq := Z.2.cell (p := ⟨w.heap.size, 2, none⟩) (fun e => by have hh : w.heap.size = q := hOq _ e; have := HLQ.out; have := X.2.size; have := HMB.out; have := HSZ.out; omega) HCA.out
                        have E0 := Ext.ex e0
                        have G2 := Ext.ex hacz.cell.2.2.1
                        have G4 := Ext.ex hacz.cell.2.2.2.2.1
                        have GA := Ext.ex haq
                        have HAT := Lib.hid hat
                        have HLT := Lib.hid hlt
                        have HE1 := Lib.hid e1
                        have HACZ := Lib.hid hacz
                        have HAQ := Lib.hid haq
                        clear hp p0 p1 p2 p3 hsr as0 as1 hat hlen he2 he3 hroww e0 e1 hacz haq hlt hj hq1 hq2
                        go_wp2_with fail
                        refine late_start (s := 14) (C := fun w' => ∃ Y : Ext Z.1, w' = Y.1) (by kernel_rfl) ?_
                        obtain ⟨Q0, hQ0⟩ : ∃ Y : Ext Z.1, ({ Z.1 with drawn := Z.1.drawn + 1 } : World) = Y.1 := ⟨⟨{ Z.1 with drawn := Z.1.drawn + 1 }, ⟨rfl, rfl, rfl, Nat.le_refl _, fun _ _ => rfl⟩⟩, rfl⟩
                        rw [hQ0]
                        clear hQ0
                        refine late_quiet (by kernel_rfl) (fun _ _ d _ _ h => by cases d <;> exact h) ⟨Q0, rfl⟩ [0, 1, 2] 12 _ _ (by kernel_rfl) (by kernel_rfl) ?_
                        change wpQuiet _ _ _ _ (_ :: _ :: _ :: []) _
                        repeat go_big_quiet_step (fail)
                        refine wpQuiet_nil ?_
                        have hlt := HLT.out
                        refine late_quiet (by kernel_rfl) (fun _ _ d _ _ h => by cases d <;> exact h) ⟨Q0, rfl⟩ [3] 11 _ _ (by kernel_rfl) (by kernel_rfl) ?_
                        change wpQuiet _ _ _ _ (_ :: []) _
                        repeat go_big_quiet_step (fail)
                        refine wpQuiet_nil ?_
                        clear hlt
                        refine late_quiet (by kernel_rfl) (fun _ _ d _ _ h => by cases d <;> exact h) ⟨Q0, rfl⟩ [4, 5, 6, 7, 8, 9, 10, 11] 3 _ _ (by kernel_rfl) (by kernel_rfl) ?_
                        change wpQuiet _ _ _ _ (_ :: _ :: _ :: _ :: _ :: _ :: _ :: _ :: []) _
                        repeat go_big_quiet_step (fail)
                        refine wpQuiet_nil ?_
                        have hlt := HLT.out
                        refine late_quiet (by kernel_rfl) (fun _ _ d _ _ h => by cases d <;> exact h) ⟨Q0, rfl⟩ [12] 2 _ _ (by kernel_rfl) (by kernel_rfl) ?_
                        change wpQuiet _ _ _ _ (_ :: []) _
                        repeat go_big_quiet_step (fail)
                        refine wpQuiet_nil ?_
                        clear hlt
                        refine late_quiet (by kernel_rfl) (fun _ _ d _ _ h => by cases d <;> exact h) ⟨Q0, rfl⟩ [13] 1 _ _ (by kernel_rfl) (by kernel_rfl) ?_
                        change wpQuiet _ _ _ _ (_ :: []) _
                        repeat go_big_quiet_step (fail)
                        refine wpQuiet_nil ?_
                        have hoq := HO.out.below Q0.2
                        have fq := hoq.free (j * 3)
                        obtain ⟨hos, hks⟩ := hoq.set lpEl (j := 0) HAT.out (by decide) (y := ⟨p.f + (A.start - st), p.t, p.s⟩) (u := .int .i64 (p.f + (A.start - st))) rfl
                        rw [Nat.add_zero] at hos hks
                        obtain ⟨W9, hW9⟩ : ∃ z, Q0.1.setCell ⟨q, j * 3, none⟩ (.int .i64 (p.f + (A.start - st))) = z := ⟨_, rfl⟩
                        rw [hW9] at hos hks
                        have HOS := Lib.hid hos
                        have hkz : Kept (fun g => g = q) Z.1 W9 := (Kept.of_below Q0.2).trans hks
                        have hneB : ¬ BO = q := by have := HLQ.out; omega
                        have hneA : ¬ w.heap.size = q := by have := HLQ.out; have := X.2.size; have := HMB.out; have := HSZ.out; omega
                        have hac9 := HACZ.out.kept hkz hneB
                        have haq9 := hkz.cell (p := ⟨w.heap.size, 2, none⟩) hneA HAQ.out
                        have HK9 := Lib.hid hkz
                        have HAT2 := Lib.hid (show (((A.lp.take j).map (addL (A.start - st)) ++ A.lp.drop j).set j ⟨p.f + (A.start - st), p.t, p.s⟩)[j]? = some ⟨p.f + (A.start - st), p.t, p.s⟩ from List.getElem?_set_self (List.getElem?_eq_some_iff.1 HAT.out).1)
                        have hr9 := (hos.rw_ lpEl).1.on HAT2.out
                        have e1 : W9.cell? ⟨q, j * 3 + 1, none⟩ = some (.int .i64 p.t) := by have := hr9 1 _ rfl; simpa using this
                        clear hoq hos hks hkz
                        refine late_do (i := 14) _ rfl (by kernel_rfl) rfl (fun K hK => ?_)
                        generalize hA : ({ tmps := _, defers := _ } : Act) = A0
                        have hp1 : A0.tmps[159]?.getD undef = .pointer (some ⟨q, j * 3, none⟩) := by rw [← hA]; rfl
                        have hv1 : A0.tmps[157]?.getD undef = .int .i64 (p.f + (A.start - st)) := by rw [← hA]; rfl
                        go_simp
                        refine hK _ _ (fun h => nomatch (show true = false from h)) ?_
                        subst hA
                        clear hK K hp1 hv1
                        try simp only [Act.put, List.setIfInBounds_toArray, List.set_cons_zero, List.set_cons_succ]
                        refine late_done (by kernel_rfl) ?_ _
                        clear fq hW9 E0 G2 G4 GA Q0
                        have E1 := Ext.ex e1
                        have G2 := Ext.ex hac9.cell.2.2.1
                        have G4 := Ext.ex hac9.cell.2.2.2.2.1
                        have GA := Ext.ex haq9
                        clear hr9 e1 hac9 haq9 hneB hneA
                        go_wp2_with fail
                        refine late_start (s := 14) (C := fun w' => ∃ Y : Ext W9, w' = Y.1) (by kernel_rfl) ?_
                        obtain ⟨Q0, hQ0⟩ : ∃ Y : Ext W9, ({ W9 with drawn := W9.drawn + 1 } : World) = Y.1 := ⟨⟨{ W9 with drawn := W9.drawn + 1 }, ⟨rfl, rfl, rfl, Nat.le_refl _, fun _ _ => rfl⟩⟩, rfl⟩
                        rw [hQ0]
                        clear hQ0
                        refine late_quiet (by kernel_rfl) (fun _ _ d _ _ h => by cases d <;> exact h) ⟨Q0, rfl⟩ [0, 1, 2] 12 _ _ (by kernel_rfl) (by kernel_rfl) ?_
                        change wpQuiet _ _ _ _ (_ :: _ :: _ :: []) _
                        repeat go_big_quiet_step (fail)
                        refine wpQuiet_nil ?_
                        have hlt := HLT.out
                        refine late_quiet (by kernel_rfl) (fun _ _ d _ _ h => by cases d <;> exact h) ⟨Q0, rfl⟩ [3] 11 _ _ (by kernel_rfl) (by kernel_rfl) ?_
                        change wpQuiet _ _ _ _ (_ :: []) _
                        repeat go_big_quiet_step (fail)
                        refine wpQuiet_nil ?_
                        clear hlt
                        refine late_quiet (by kernel_rfl) (fun _ _ d _ _ h => by cases d <;> exact h) ⟨Q0, rfl⟩ [4, 5, 6, 7, 8, 9, 10, 11] 3 _ _ (by kernel_rfl) (by kernel_rfl) ?_
                        change wpQuiet _ _ _ _ (_ :: _ :: _ :: _ :: _ :: _ :: _ :: _ :: []) _
                        repeat go_big_quiet_step (fail)
                        refine wpQuiet_nil ?_
                        have hlt := HLT.out
                        refine late_quiet (by kernel_rfl) (fun _ _ d _ _ h => by cases d <;> exact h) ⟨Q0, rfl⟩ [12] 2 _ _ (by kernel_rfl) (by kernel_rfl) ?_
                        change wpQuiet _ _ _ _ (_ :: []) _
                        repeat go_big_quiet_step (fail)
                        refine wpQuiet_nil ?_
                        clear hlt
                        refine late_quiet (by kernel_rfl) (fun _ _ d _ _ h => by cases d <;> exact h) ⟨Q0, rfl⟩ [13] 1 _ _ (by kernel_rfl) (by kernel_rfl) ?_
                        change wpQuiet _ _ _ _ (_ :: []) _
                        repeat go_big_quiet_step (fail)
                        refine wpQuiet_nil ?_
                        have hoq := HOS.out.below Q0.2
                        have fq := hoq.free (j * 3 + 1)
                        obtain ⟨hos, hks⟩ := hoq.set lpEl (j := 1) HAT2.out (by decide) (y := addL (A.start - st) p) (u := .int .i64 (p.t + (A.start - st))) rfl
                        obtain ⟨W10, hW10⟩ : ∃ z, Q0.1.setCell ⟨q, j * 3 + 1, none⟩ (.int .i64 (p.t + (A.start - st))) = z := ⟨_, rfl⟩
                        rw [hW10] at hos hks
                        rw [List.set_set, HUP.out] at hos
                        have HOT := Lib.hid hos
                        have HKT := Lib.hid (show Kept (fun g => some (⟨q, 0, none⟩ : Addr) = some ⟨g, 0, none⟩) W5 W10 from by
                          have h1 : Kept (fun g => g = q) Z.1 W10 := (HK9.out.trans (Kept.of_below Q0.2)).trans hks
                          exact Z.2.trans ⟨h1.os, h1.tape, h1.output, h1.size, fun g hg ho => h1.block g hg (fun e => ho (by rw [e]))⟩)
                        clear hoq hos hks
                        refine late_do (i := 14) _ rfl (by kernel_rfl) rfl (fun K hK => ?_)
                        generalize hA : ({ tmps := _, defers := _ } : Act) = A0
                        have hp1 : A0.tmps[173]?.getD undef = .pointer (some ⟨q, j * 3 + 1, none⟩) := by rw [← hA]; rfl
                        have hv1 : A0.tmps[171]?.getD undef = .int .i64 (p.t + (A.start - st)) := by rw [← hA]; rfl
                        go_simp
                        refine hK _ _ (fun h => nomatch (show true = false from h)) ?_
                        subst hA
                        clear hK K hp1 hv1
                        try simp only [Act.put, List.setIfInBounds_toArray, List.set_cons_zero, List.set_cons_succ]
                        refine late_done (by kernel_rfl) ?_ _
                        have hlt := HLT.out
                        go_wp2_with fail
                        go_roundw
                        case rel => exact ⟨j + 1, by go_num, by omega, HOT, ⟨W10, HKT.out⟩, rfl⟩
                        case measure => simp [intOf]; omega
                      · have t5 : decide ((j : Int) < (A.lp.length : Int)) = false := by rw [decide_eq_false_iff_not]; omega
                        have t5' : decide (j < A.lp.length) = false := by simpa using hlt
                        obtain rfl : j = A.lp.length := by omega
                        obtain ⟨W6, hW6⟩ : ∃ z, Z.1 = z := ⟨_, rfl⟩
                        have hk56 : Kept (fun q => b1 = some ⟨q, 0, none⟩) W5 W6 := hW6 ▸ Z.2
                        have hbo := HBO.out
                        have hrr := HR.out
                        have hss := HS0.out
                        have hmb := HMB.out
                        have hx3 := X.2.size
                        have hsz2 := HSZ.out
                        have HO6 := Lib.hid (HO5.out.keepO hk56 (fun b hb e => by have := (HO5.out.lt b hb).1; have := HLB.out b e; omega))
                        have HA6 := Lib.hid (HA5'.out.kept hk56 (fun e => by have := HLB.out _ e; omega))
                        have HL6 := Lib.hid (show Own lpC 3 75 W6 Bl (.slice b1 A.lp.length cb1) (A.lp.map (addL (A.start - st))) from by
                          have h := HO.out
                          rw [List.take_length, List.drop_length, List.append_nil, hW6] at h
                          exact h)
                        have HT6 := Lib.hid (show ∃ Bt, X.1.heap.size ≤ Bt ∧ Bt ≤ W6.heap.size ∧ Own tgC 1 9 W6 Bt (.slice c1 A.tg.length cc1) A.tg from by
                          obtain ⟨B1, B2, hb1, hb2, _, _, hl3, hl3', ht⟩ := HO3.out.ex
                          have htw : ∀ b, (Value.slice c1 A.tg.length cc1).ownBlock = some b → B2 ≤ b ∧ b < BO := fun b hb => by have := ht.lt b hb; omega
                          have h5 := (ht.below HBW.out).keepO HK5.out (fun b hb e => by have := htw b hb; omega)
                          have h6 := h5.keepO hk56 (fun b hb e => by
                            have := htw b hb
                            have hq := hl3' b (by rw [e]; rfl)
                            omega)
                          by_cases hz : 0 < A.tg.length
                          · obtain ⟨q, c9, he, hq1, hq2⟩ := h6.open hz
                            exact ⟨B2, by omega, by omega, h6⟩
                          · exact ⟨X.1.heap.size, Nat.le_refl _, by have := HK5.out.size; have := hk56.size; omega, h6.weaken (by omega)⟩)
                        obtain ⟨Bt, hBt1, hBt2, hT6⟩ := HT6.out
                        have HT7 := Lib.hid hT6
                        have HCV := Lib.hid (fun (p : Addr) (v : Value) (hp : p.block < V2.heap.size) (h : V2.cell? p = some v) => show W6.cell? p = some v from
                          hk56.cell (p := p) (fun e => by have hh := HLB.out p.block e; omega) (HK5.out.cell (p := p) (by omega) (below_cell HBW.out (below_cell HB1.out (HC.out X p v hp h)))))
                        have HBT := Lib.hid (show Rw tgC 1 W6 c' B.tg from ⟨fun hl => by
                          obtain ⟨bb, off, e, hb, hc⟩ := HIB.out.tg.here hl
                          exact ⟨bb, off, e, by have := HK5.out.size; have := hk56.size; omega, fun i x hx j v hv => HCV.out ⟨bb, off + i * _ + j, none⟩ v hb (hc i x hx j v hv)⟩⟩)
                        have j5 := HA6.out.cell.2.2.2.2.2
                        have i5 := HCV.out ⟨w.heap.size + 1, 5, none⟩ _ HA1.out.lt HA1.out.cell.2.2.2.2.2
                        have HNB := Lib.hid (show A.tg.length + B.tg.length ≤ 40 from by have := HOB.out.ntg; omega)
                        have HK6 := Lib.hid (show Kept (fun q => q = BO ∨ (Bt ≤ q ∧ OT W6 q)) W6 W6 from Kept.refl _ _)
                        have HKW6 := Lib.hid hk56
                        have HSB := Lib.hid hBt2
                        have HSB1 := Lib.hid hBt1
                        rw [hW6]
                        clear hW6 hk56 hbo hrr hss hmb hx3 hsz2 hlt hj HO hBt1 hBt2 hT6 HT6
                        go_wp2_with (at_builtin; refine append_Tgs rfl _ _ rfl rfl HT7.out (m := B.tg) rfl rfl HBT.out (by have := HNB.out; omega) HSB.out (fun v7 w7 ho7 hg7 => ?_); obtain ⟨a7, c7, rfl, hc7, -, -⟩ := ho7.row tgEl; have HA7 := Lib.hid (HA6.out.kept (O := fun q => (Value.slice c1 A.tg.length cc1).ownBlock = some q) (Kept.of_grown hg7 (fun g e _ => e)) (fun e => (HA6.out.ne HT7.out _ e) rfl)); have j7 := HA7.out.cell.2.2.2.2.2; have f7 := HA7.out.free 5; obtain ⟨W8, hW8⟩ : ∃ z, w7.setCell ⟨BO, 5, none⟩ (.slice a7 (A.tg ++ B.tg).length c7) = z := ⟨_, rfl⟩)
                        have hcp7 := hc7
                        rw [List.length_append] at hW8 hcp7
                        rw [hW8]
                        have ha8 := HA7.out.set5 (.slice a7 (A.tg.length + B.tg.length) c7)
                        rw [hW8] at ha8
                        have hks8 : Kept (fun q => q = BO) w7 W8 := by rw [← hW8]; exact keep_set (O := fun q => q = BO) rfl
                        have ho8 := ho7.keepO hks8 (fun b hb e => (HA7.out.ne ho7 b hb) e)
                        have hO8 : ∀ {P Q : World}, Kept (fun q => q = BO) P Q → Kept (fun q => q = BO ∨ (Bt ≤ q ∧ OT W6 q)) P Q := fun h => ⟨h.os, h.tape, h.output, h.size, fun k hk ho => h.block k hk (fun e => ho (Or.inl e))⟩
                        have HK8 := Lib.hid ((HK6.out.text HT7.out (fun q h1 hq => Or.inr ⟨h1, hq⟩) hg7).trans (hO8 hks8))
                        have HA8 := Lib.hid ha8
                        have HO8 := Lib.hid ho8
                        have hTL : (A.tg ++ B.tg).length = A.tg.length + B.tg.length := List.length_append
                        have DSR := Lib.hid (sortTg_any (A.tg ++ B.tg) a7 c7 Bt W8 ho8 (by rw [hTL]; have := HNB.out; omega))
                        rw [hTL] at DSR HO8
                        have HCP := Lib.hid hcp7
                        have HTL := Lib.hid hTL
                        clear ho7 hg7 hc7 hcp7 hW8 ha8 hks8 ho8 hTL j7 f7 j5 i5
                        refine (DSR.out).mono ?_
                        rintro e U1 ⟨rfl, ⟨T1, hperm, hsort, hownU⟩, hgU⟩
                        have hT1 : T1.length = A.tg.length + B.tg.length := by rw [hperm.length_eq, HTL.out]
                        have HAU1 := Lib.hid (HA8.out.kept (O := fun q => (Value.slice a7 (A.tg.length + B.tg.length) c7).ownBlock = some q) (Kept.of_grown hgU (fun g e _ => e)) (fun e => (HA8.out.ne HO8.out _ e) rfl))
                        have HKU1 := Lib.hid (HK8.out.text HO8.out (fun q h1 hq => Or.inr ⟨h1, hq⟩) hgU)
                        rw [← hT1] at hownU
                        have DCP := Lib.hid (compactTg_any T1 a7 c7 Bt U1 hownU (by rw [hT1]; have := HNB.out; omega) hsort (by rw [hT1]; exact HCP.out))
                        rw [hT1] at DCP hownU
                        have HOU1 := Lib.hid hownU
                        have HP1 := Lib.hid hperm
                        have j7 := HAU1.out.cell.2.2.2.2.2
                        clear hperm hsort hownU hgU hT1 DSR
                        go_wp2_with fail
                        refine (DCP.out).mono ?_
                        rintro e U2 ⟨T2, rfl, hmem, hst2, hle, hown2, hg2⟩
                        have HAU2 := Lib.hid (HAU1.out.kept (O := fun q => (Value.slice a7 (A.tg.length + B.tg.length) c7).ownBlock = some q) (Kept.of_grown hg2 (fun g e _ => e)) (fun e => (HAU1.out.ne HOU1.out _ e) rfl))
                        have HKU2 := Lib.hid (HKU1.out.text HOU1.out (fun q h1 hq => Or.inr ⟨h1, hq⟩) hg2)
                        have HMG := Lib.hid (show MgIs A B shift LS T2 from ⟨HLS.out, HSM.out, hst2, fun x => (hmem x).trans ((HP1.out.mem_iff).trans List.mem_append)⟩)
                        obtain ⟨m2, hm2⟩ : ∃ z, T2.length = z := ⟨_, rfl⟩
                        have HM2 := Lib.hid hm2
                        rw [hm2] at hown2 ⊢
                        have ha9 := HAU2.out.set5 (.slice a7 m2 c7)
                        obtain ⟨W9, hW9⟩ : ∃ z, U2.setCell ⟨BO, 5, none⟩ (.slice a7 m2 c7) = z := ⟨_, rfl⟩
                        rw [hW9] at ha9
                        have hks9 : Kept (fun q => q = BO) U2 W9 := by rw [← hW9]; exact keep_set (O := fun q => q = BO) rfl
                        have HO9 := Lib.hid (hown2.keepO hks9 (fun b hb e => (HAU2.out.ne hown2 b hb) e))
                        have HK9 := Lib.hid (HKU2.out.trans (hO8 hks9))
                        have HA9 := Lib.hid ha9
                        have j8 := HAU2.out.cell.2.2.2.2.2
                        have f8 := HAU2.out.free 5
                        obtain ⟨z0, z1, z2, z3, z4, z5⟩ := ha9.cell
                        have HM40 := Lib.hid (show m2 ≤ 40 from by have := HNB.out; omega)
                        clear hmem hst2 hle hown2 hg2 hm2 ha9 hks9 hO8 j7 DCP
                        have hn4 := HNN.out.2
                        have HZ := Lib.hid (show mgZ A LS T2 = ⟨A.name, A.sport, st, LS.map (backS st), A.lp.map (addL (A.start - st)), T2⟩ from by unfold mgZ; rw [HST.out])
                        have HNUM := Lib.hid (show w.heap.size + 3 ≤ MB ∧ MB < X.1.heap.size ∧ X.1.heap.size ≤ BO ∧ BO < W.heap.size ∧ w0.heap.size = W.heap.size + 1 from by
                          have := HMB.out
                          have := HSZ.out
                          have := X.2.size
                          have := HBO.out
                          have := HR.out
                          have := HS0.out
                          omega)
                        have HBL := Lib.hid (show Below w.heap.size w W9 from by
                          have hh := HNUM.out
                          have h1 := below_step HB.out HB3.out
                          have h2 : Below w.heap.size w X.1 := Kept.below h1 X.2 h1.size (fun q hq e => by omega)
                          have h3 := below_step (below_step h2 HB1.out) HBW.out
                          have h4 : Below w.heap.size w W5 := Kept.below h3 HK5.out h3.size (fun q hq e => by omega)
                          have h5 : Below w.heap.size w W6 := Kept.below h4 HKW6.out h4.size (fun q hq e => by have := HLB.out q e; omega)
                          exact Kept.below h5 HK9.out h5.size (fun q hq e => by
                            have := HSB1.out
                            rcases e with e | e
                            · omega
                            · have := e.1
                              omega))
                        have HR9 := Lib.hid (show AcB W9 (w.heap.size + 1 + 1) ⟨#[]⟩ 0 0 (.slice none 0 0) (.slice none 0 0) (.slice none 0 0) from by
                          have hh := HNUM.out
                          have h6 := (((((HA2.out.below HB3.out).kept X.2 (by omega)).below HB1.out).below HBW.out).kept HK5.out (by omega)).kept HKW6.out (fun e => by have := HLB.out _ e; omega)
                          exact h6.kept HK9.out (fun e => by
                            rcases e with e | e
                            · omega
                            · exact h6.notText e.2))
                        have HINX := Lib.hid (fun (WX : World) (hkx : Kept (fun q => q = w.heap.size + 1 + 1) W9 WX) => show ActIn WX ⟨A.name, A.sport, st, LS.map (backS st), A.lp.map (addL (A.start - st)), T2⟩ a2 b1 a7 from by
                          have hh := HNUM.out
                          have hb1 := HSB1.out
                          have s9 := HO6.out.keepO HK9.out (fun b hb e => by
                            rcases e with e | e
                            · exact HA6.out.ne' HO6.out (by decide) b hb e
                            · exact HO6.out.notText (by decide) hb e.2)
                          have l9 := HL6.out.keepO HK9.out (fun b hb e => by
                            rcases e with e | e
                            · exact HA6.out.ne' HL6.out (by decide) b hb e
                            · exact HL6.out.notText (by decide) hb e.2)
                          have sx := s9.keepO hkx (fun b hb e => (HR9.out.ne' s9 (by decide) b hb) e)
                          have lx := l9.keepO hkx (fun b hb e => (HR9.out.ne' l9 (by decide) b hb) e)
                          have tx := HO9.out.keepO hkx (fun b hb e => (HR9.out.ne' HO9.out (by decide) b hb) e)
                          refine ⟨(sx.rw_ smEl).1, (lx.rw_ lpEl).1, (tx.rw_ tgEl).1, HIA.out.name, fun p hp => ?_, fun t ht => ?_, ?_, ?_, ?_⟩
                          · obtain ⟨p', hp', rfl⟩ := List.mem_map.1 hp
                            exact HIA.out.titles p' hp'
                          · rcases (HMG.out.tmem t).1 ht with h | h
                            · exact HIA.out.tags t h
                            · exact HIB.out.tags t h
                          · show ((LS.map (backS st)).length : Int) ≤ _
                            rw [List.length_map, HNN.out.1]
                            omega
                          · show ((A.lp.map (addL (A.start - st))).length : Int) ≤ _
                            rw [List.length_map]
                            omega
                          · show (T2.length : Int) ≤ _
                            rw [HM2.out]
                            have := HM40.out
                            omega)
                        have HFAR := Lib.hid (fun g (hg : a2 = some g ∨ b1 = some g ∨ a7 = some g) => show w.heap.size ≤ g.block from by
                          have hh := HNUM.out
                          rcases hg with e | e | e
                          · have := ((HO6.out.rw_ smEl).2.2 g e).1
                            omega
                          · have := ((HL6.out.rw_ lpEl).2.2 g e).1
                            have := HBLO.out
                            omega
                          · have := ((HO9.out.rw_ tgEl).2.2 g e).1
                            have := HSB1.out
                            omega)
                        have DCK := Lib.hid (show Calls Tryz.prog 32 #[.agg #[.string A.name, .int .i64 A.sport, .int .i64 st, .slice a2 k c2, .slice b1 A.lp.length cb1, .slice a7 m2 c7]] W9 fun e w' => e = .returned (.int .i64 (chkA (mgZ A LS T2))) ∧ Below W9.heap.size W9 w' from by
                          have h := check_any ⟨A.name, A.sport, st, LS.map (backS st), A.lp.map (addL (A.start - st)), T2⟩ a2 b1 a7 c2 cb1 c7 W9 (HINX.out W9 (Kept.refl _ _))
                          unfold ChkG actV at h
                          simp only [List.length_map, HNN.out.1, HM2.out] at h
                          rw [← HZ.out] at h
                          exact h)
                        have HMGR := Lib.hid (fun e w' => show (((20000 < LS.length ∨ 20 < T2.length) ∧ e = .returned (.tuple #[ac0, .int .i64 3]) ∧ Below w.heap.size w w') ∨ (¬ (20000 < LS.length ∨ 20 < T2.length) ∧ ActRet (mgZ A LS T2) w e w')) → MergeRet A B shift w e w' from fun h => ⟨LS, T2, HMG.out, h⟩)
                        obtain ⟨r0, r1, r2, r3, r4, r5⟩ := HR9.out.cell
                        have fr := HR9.out.free
                        by_cases hbig : 20000 < k
                        case' pos =>
                          have t6 : decide ((20000 : Int) < (k : Int)) = true := by rw [decide_eq_true_eq]; omega
                          have t6' : decide (20000 < k) = true := by rw [decide_eq_true_eq]; omega
                          have HBAD := Lib.hid (show 20000 < LS.length ∨ 20 < T2.length from Or.inl (by rw [HNN.out.1]; exact hbig))
                        case' neg =>
                          have t6 : decide ((20000 : Int) < (k : Int)) = false := by rw [decide_eq_false_iff_not]; omega
                          have t6' : decide (20000 < k) = false := by rw [decide_eq_false_iff_not]; omega
                          by_cases hbt : 20 < m2
                          case' pos =>
                            have t7 : decide ((20 : Int) < (m2 : Int)) = true := by rw [decide_eq_true_eq]; omega
                            have t7' : decide (20 < m2) = true := by rw [decide_eq_true_eq]; omega
                            have HBAD := Lib.hid (show 20000 < LS.length ∨ 20 < T2.length from Or.inr (by rw [HM2.out]; exact hbt))
                          case' neg =>
                            have t7 : decide ((20 : Int) < (m2 : Int)) = false := by rw [decide_eq_false_iff_not]; omega
                            have t7' : decide (20 < m2) = false := by rw [decide_eq_false_iff_not]; omega
                            have HGOOD := Lib.hid (show ¬ (20000 < LS.length ∨ 20 < T2.length) from by rw [HNN.out.1, HM2.out]; omega)
                            go_wp2_with fail
                            refine (DCK.out).mono ?_
                            rintro e W12 ⟨rfl, hb12⟩
                            obtain ⟨er, her⟩ : ∃ z, chkA (mgZ A LS T2) = z := ⟨_, rfl⟩
                            have HER := Lib.hid her
                            rw [her]
                            have hA12 := HA9.out.below hb12
                            have hR12 := HR9.out.below hb12
                            have HR12 := Lib.hid hR12
                            have HK12 := Lib.hid (show Kept (fun q => q = w.heap.size + 1 + 1) W9 W12 from Kept.of_below hb12)
                            have HW12 := Lib.hid (below_step HBL.out hb12)
                            obtain ⟨x0, x1, x2, x3, x4, x5⟩ := hA12.cell
                            obtain ⟨v0, v1, v2, v3, v4, v5⟩ := hR12.cell
                            have fv := hR12.free
                            clear her hb12 hA12 hR12 r0 r1 r2 r3 r4 r5 fr z0 z1 z2 z3 z4 z5 j8 f8 hW9
                            by_cases h0' : er = 0
                            · subst h0'
                              obtain ⟨WF, hWF, haF, hkF⟩ := HR12.out.store A.name A.sport st (.slice a2 k c2) (.slice b1 A.lp.length cb1) (.slice a7 m2 c7)
                              have HAF := Lib.hid haF
                              have HKF := Lib.hid hkF
                              have HBF := Lib.hid (show Below w.heap.size w WF from Kept.below HW12.out (hkF (fun q => q = w.heap.size + 1 + 1) rfl) HW12.out.size (fun q hq e => by omega))
                              clear haF hkF
                              go_wp2_with fail
                              have q := HAF.out.cell
                              refine bodyPost_ret (v := .tuple #[.agg #[.string A.name, .int .i64 A.sport, .int .i64 st, .slice a2 k c2, .slice b1 A.lp.length cb1, .slice a7 m2 c7], .int .i64 0]) (by simp [results, Tryz.results15, go_sem, q]) rfl (HMGR.out _ _ (Or.inr ⟨HGOOD.out, HBF.out, 0, HER.out, Or.inr ⟨rfl, a2, b1, a7, c2, cb1, c7, ?_, ?_, HFAR.out⟩⟩))
                              · rw [HZ.out]
                                unfold actV
                                simp only [List.length_map, HNN.out.1, HM2.out]
                              · rw [HZ.out]
                                exact HINX.out WF (HK12.out.trans (HKF.out _ rfl))
                            · have b0 : (er != 0) = true := by rw [bne_iff_ne]; exact h0'
                              obtain ⟨WF, hWF, haF, hkF⟩ := HR12.out.store ⟨#[]⟩ 0 0 (.slice none 0 0) (.slice none 0 0) (.slice none 0 0)
                              have HAF := Lib.hid haF
                              have H0 := Lib.hid h0'
                              have HBF := Lib.hid (show Below w.heap.size w WF from Kept.below HW12.out (hkF (fun q => q = w.heap.size + 1 + 1) rfl) HW12.out.size (fun q hq e => by omega))
                              clear haF hkF h0'
                              go_wp2_with fail
                              have q := HAF.out.cell
                              exact bodyPost_ret (v := .tuple #[ac0, .int .i64 er]) (by simp [results, Tryz.results15, go_sem, q, ac0]) rfl (HMGR.out _ _ (Or.inr ⟨HGOOD.out, HBF.out, er, HER.out, Or.inl ⟨H0.out, rfl⟩⟩))
                        all_goals
                          obtain ⟨WF, hWF, haF, hkF⟩ := HR9.out.store ⟨#[]⟩ 0 0 (.slice none 0 0) (.slice none 0 0) (.slice none 0 0)
                          have HAF := Lib.hid haF
                          have HBF := Lib.hid (show Below w.heap.size w WF from Kept.below HBL.out (hkF (fun q => q = w.heap.size + 1 + 1) rfl) HBL.out.size (fun q hq e => by omega))
                          clear haF hkF
                          go_wp2_with fail
                          have q := HAF.out.cell
                          exact bodyPost_ret (v := .tuple #[ac0, .int .i64 3]) (by simp [results, Tryz.results15, go_sem, q, ac0]) rfl (HMGR.out _ _ (Or.inl ⟨HBAD.out, rfl, HBF.out⟩))
            · intro x c kl yd yp wn cnt1 hkey hlk hRy hat hrg1 hlt hg1 hs1 hen
              obtain ⟨x', ex, rfl, hwx⟩ := Maps.keyOf_int_inv Tryz.underlying3 hkey
              cases ex
              rw [smR_of] at hRy
              have hyd : smD c = yd := (Prod.mk.inj (Option.some.inj hRy)).1
              have hF : mgF A B shift x = some c := by
                cases hf : mgF A B shift x with
                | none =>
                  have h1 := (HDM.out.2 x hwx).2 hf .nil
                  rw [hat, ← hyd] at h1
                  cases h1
                | some u =>
                  have h1 := (HDM.out.2 x hwx).1 u hf .nil
                  rw [hat, ← hyd] at h1
                  rw [smD_inj h1]
              obtain ⟨vs, hac, hown⟩ := HST.out
              obtain ⟨a2, c2, rfl, -, -, -⟩ := hown.row smEl
              have hbo := HBO.out
              have hrr := HR.out
              have hss := HS0.out
              have hk1 : Kept (fun q => q = r) Y.1 wn := Kept.of_grown hg1 (fun g e _ => by injection e with e; exact e.symm)
              have hac1 := hac.kept hk1 (by omega)
              have hown1 := hown.keepO hk1 (fun g hg e => by have := (hown.lt g hg).1; omega)
              have hYn : Kept (fun q => q = BO) W wn := Y.2.grown hg1 (fun g e hlt => by injection e with e; omega)
              obtain ⟨V6, hV6, hb6, hs6, ha6⟩ := alloc_sm wn c
              have ha7 := ha6.set0 x
              obtain ⟨W6, hW6⟩ : ∃ z, V6.setCell ⟨wn.heap.size, 0, none⟩ (.int .i64 x) = z := ⟨_, rfl⟩
              rw [hW6] at ha7
              have hB6 : Below wn.heap.size wn W6 := Kept.below hb6 (by rw [← hW6]; exact keep_set (O := fun q => q = wn.heap.size) rfl) hb6.size (fun k hk e => by omega)
              have q0 := ha6.cell.1
              have f0 := ha6.free 0
              obtain ⟨p0, p1, p2, p3, p4, p5, p6⟩ := ha7.cell
              simp only at p0 p1 p2 p3 p4 p5 p6
              have k3 := (hac1.below hB6).cell.2.2.2.1
              obtain ⟨V7, hV7, hb7, hs7, hl7⟩ := alloc_cells W6 #[.int .i64 x, .int .i64 c.x, .int .i64 c.y, .int .i64 c.z, .int .i64 c.pu, .int .i64 c.po, .int .i64 c.st] 72
              have HC7 := Lib.hid (fun j u (hj : (smC { c with tm := x })[j]? = some u) => show V7.cell? ⟨W6.heap.size, j, none⟩ = some u from hl7 j u (by rw [← hj]; simp [smC]))
              have hB7 := below_step hB6 hb7
              have HO7 := Lib.hid (hown1.below hB7)
              have HA7 := Lib.hid (hac1.below hB7)
              have HK7 := Lib.hid (hYn.trans (Kept.of_below hB7))
              have HG7 := Lib.hid (show wn.grownBy V7 none from ⟨hB7.os, hB7.tape, hB7.output, hB7.size, fun i hi _ => hB7.block i hi⟩)
              have HS7 := Lib.hid (show w0.heap.size ≤ V7.heap.size from by have := hrg1.lt; have := hB7.size; omega)
              have HG1 := Lib.hid (And.intro hrg1 (And.intro hlt (And.intro hlk hF)))
              have hLL : L.length ≤ 40000 := by have := HRS.out.2; have := HN.out; omega
              have HLL := Lib.hid hLL
              unfold smV at hen ⊢
              clear hac hown hac1 hown1 hb6 hs6 ha6 ha7 hB6 hb7 hs7 hl7 hB7 hkey hlk hRy hat hrg1 hlt hg1 hs1 hyd hF hk1 hYn hwx hLL hbo hrr hss
              go_wp2_with (at_builtin; refine append_Sm rfl _ _ rfl rfl HO7.out (p := { c with tm := x }) rfl HC7.out (by have := HLL.out; omega) HS7.out (fun g' c3 w8 ho8 hg8 hor => ?_); have HA8 := Lib.hid (HA7.out.kept (O := fun b => w0.heap.size ≤ b) (Kept.of_grown hg8 (fun g e _ => (HO7.out.lt g e).1)) (by have := HBO.out; have := HR.out; have := HS0.out; omega)); have j8 := HA8.out.cell.2.2.2.1; have f8 := HA8.out.free 3; obtain ⟨W9, hW9⟩ : ∃ z, w8.setCell ⟨BO, 3, none⟩ (.slice (some ⟨g', 0, none⟩) (L.length + 1) c3) = z := ⟨_, rfl⟩)
              have ha9 := HA8.out.set3 (.slice (some ⟨g', 0, none⟩) (L.length + 1) c3)
              rw [hW9] at ha9
              have hk9 : Kept (fun q => q = BO) w8 W9 := by rw [← hW9]; exact keep_set (O := fun q => q = BO) rfl
              have hbo := HBO.out
              have hrr := HR.out
              have hss := HS0.out
              have hmb := HMB.out
              have hx3 := X.2.size
              have HO9 := Lib.hid (ho8.keepO hk9 (fun b hb e => by have := (ho8.lt b hb).1; omega))
              have HA9 := Lib.hid ha9
              have HK9 := Lib.hid ((HK7.out.grown hg8 (fun g e hlt => by have := (HO7.out.lt g e).1; omega)).trans hk9)
              have hrg9 := ((HG1.out.1.kept HG7.out (by simp) (by simp)).kept hg8 (fun e => by have := (HO7.out.lt _ e.symm).1; omega) (fun e => by have := (HO7.out.lt _ e.symm).1; omega)).kept (row := some BO) (w' := W9) ⟨hk9.os, hk9.tape, hk9.output, hk9.size, fun i hi hn => hk9.block i hi (fun e => hn (by rw [e]))⟩ (fun e => by injection e with e; omega) (fun e => by injection e with e; omega)
              have HM9 := Lib.hid (show W9.rangeLeft MB r < Y.1.rangeLeft MB r from by rw [hrg9.left_eq, HRG.out.left_eq]; exact HG1.out.2.1)
              have HRG9 := Lib.hid hrg9
              have HRS9 := Lib.hid (show RgS (mgF A B shift) (fun z => left z && !z.sameKey (.int .i64 x)) (L ++ [{ c with tm := x }]) ∧ (L ++ [{ c with tm := x }]).length + cnt1 ≤ N from ⟨HRS.out.1.step HG1.out.2.2.1 HG1.out.2.2.2, by rw [List.length_append]; have := HRS.out.2; have := HG1.out.2.1; simp only [List.length_singleton]; omega⟩)
              clear ho8 hg8 hor ha9 hk9 hW9 j8 f8 hrg9
              go_roundw
              case rel => exact ⟨_, cnt1, _, HRG9, HRS9, Lib.hid ⟨_, HA9.out, HO9.out⟩, ⟨W9, HK9.out⟩, rfl⟩
              case measure => exact HM9.out
end Go.Proofs.YtjnfccphodjfiaaGreat

/- Two recordings of one: the law's plain side. -/
namespace Go.Proofs.YtjnfccphodjfiaaGreat
open Tr (inR)

/-- two lists in strict order with the same members are one -/
theorem uniq_sorted {α : Type} {R : α → α → Prop} (irr : ∀ x, ¬ R x x) (tr : ∀ x y z, R x y → R y z → R x z) : ∀ (l1 l2 : List α), l1.Pairwise R → l2.Pairwise R → (∀ x, x ∈ l1 ↔ x ∈ l2) → l1 = l2
  | [], l2, _, _, h => by
    cases l2 with
    | nil => rfl
    | cons b l2 => exact absurd ((h b).2 List.mem_cons_self) (by simp)
  | a :: l1, [], _, _, h => absurd ((h a).1 List.mem_cons_self) (by simp)
  | a :: l1, b :: l2, h1, h2, h => by
    rw [List.pairwise_cons] at h1 h2
    have hab : a = b := by
      rcases List.mem_cons.1 ((h a).1 List.mem_cons_self) with e | ha
      · exact e
      · rcases List.mem_cons.1 ((h b).2 List.mem_cons_self) with e | hb
        · exact e.symm
        · exact absurd (tr _ _ _ (h1.1 b hb) (h2.1 a ha)) (irr a)
    subst hab
    rw [uniq_sorted irr tr l1 l2 h1.2 h2.2 (fun x => ⟨fun hx => by
      rcases List.mem_cons.1 ((h x).1 (List.mem_cons_of_mem _ hx)) with e | e
      · subst e
        exact absurd (h1.1 x hx) (irr x)
      · exact e, fun hx => by
      rcases List.mem_cons.1 ((h x).2 (List.mem_cons_of_mem _ hx)) with e | e
      · subst e
        exact absurd (h2.1 x hx) (irr x)
      · exact e⟩)]
theorem tg_sorted {l : List ByteArray} (h : TgOk l) : l.Pairwise (fun x y => bL x < bL y) := by
  have h1 : ∀ i p s, l[i]? = some p → l[i + 1]? = some s → bL p < bL s := fun i p s hp hs => by
    have := h.next i p s hp hs
    rw [ByteArray.toList_eq, ByteArray.toList_eq, bytesLess_eq, decide_eq_true_eq] at this
    exact this
  have h2 : ∀ d i p s, l[i]? = some p → l[i + d + 1]? = some s → bL p < bL s := by
    intro d
    induction d with
    | zero => exact fun i p s hp hs => h1 i p s hp hs
    | succ d ih =>
      intro i p s hp hs
      obtain ⟨t, ht⟩ : ∃ t, l[i + d + 1]? = some t := ⟨_, List.getElem?_eq_getElem (by have := (List.getElem?_eq_some_iff.1 hs).1; omega)⟩
      exact List.lt_trans (ih i p t hp ht) (h1 _ t s ht hs)
  rw [List.pairwise_iff_getElem]
  intro i j hi hj hij
  exact h2 (j - i - 1) i _ _ (List.getElem?_eq_getElem hi) (by rw [show i + (j - i - 1) + 1 = j by omega]; exact List.getElem?_eq_getElem hj)
theorem bL_irr (x : ByteArray) : ¬ bL x < bL x := List.lt_irrefl _
theorem sm_inj {A : Acv} (h : SmOk A.start A.sm) {s t : Sm} (hs : s ∈ A.sm) (ht : t ∈ A.sm) (e : s.tm = t.tm) : s = t := by
  obtain ⟨i, hi, rfl⟩ := List.getElem_of_mem hs
  obtain ⟨j, hj, rfl⟩ := List.getElem_of_mem ht
  rcases Nat.lt_trichotomy i j with g | g | g
  · have := h.lt g (List.getElem?_eq_getElem hi) (List.getElem?_eq_getElem hj)
    omega
  · subst g
    rfl
  · have := h.lt g (List.getElem?_eq_getElem hj) (List.getElem?_eq_getElem hi)
    omega
/-- alike but for their seconds -/
def Sim (u s : Sm) : Prop := ∀ t : Int, ({ u with tm := t } : Sm) = { s with tm := t }
theorem Sim.back (d : Int) (s : Sm) : Sim (backS d s) s := fun _ => rfl
structure Good (A : Acv) (f : Int → Option Sm) (S : List Sm) : Prop where
  of : ∀ j u, f j = some u → ∃ s, s ∈ S ∧ j = A.start + s.tm ∧ Sim u s
  has : ∀ s, s ∈ S → ∃ u, f (A.start + s.tm) = some u ∧ Sim u s
theorem Good.put {A : Acv} (hA : SmOk A.start A.sm) {f : Int → Option Sm} {S : List Sm} (h : Good A f S) (hS : ∀ s, s ∈ S → s ∈ A.sm) {s u : Sm} (hs : s ∈ A.sm) (hu : Sim u s) : Good A (putS f (A.start + s.tm) u) (S ++ [s]) := by
  refine ⟨fun j v hv => ?_, fun t ht => ?_⟩
  · unfold putS at hv
    split at hv
    · rename_i e
      have hv := Option.some.inj hv
      subst hv
      exact ⟨s, by simp, e, hu⟩
    · obtain ⟨t, h1, h2⟩ := h.of j v hv
      exact ⟨t, by simp [h1], h2⟩
  · unfold putS
    rcases List.mem_append.1 ht with ht | ht
    · by_cases e : A.start + t.tm = A.start + s.tm
      · have : t = s := sm_inj hA (hS t ht) hs (by omega)
        subst this
        rw [if_pos rfl]
        exact ⟨u, rfl, hu⟩
      · rw [if_neg e]
        exact h.has t ht
    · rw [List.mem_singleton.1 ht, if_pos rfl]
      exact ⟨u, rfl, hu⟩
theorem goodB {A : Acv} (hA : SmOk A.start A.sm) {bs shift d : Int} (hb : bs - shift = A.start + d) : ∀ (l S : List Sm) (f : Int → Option Sm), Good A f S → (∀ s, s ∈ S → s ∈ A.sm) → (∀ s, s ∈ l → s ∈ A.sm) →
    Good A ((l.map (backS d)).foldl (fun f s => putS f (bs + s.tm - shift) s) f) (S ++ l)
  | [], S, f, h, _, _ => by simpa using h
  | s :: l, S, f, h, hS, hl => by
    rw [List.map_cons, List.foldl_cons]
    have e : bs + (backS d s).tm - shift = A.start + s.tm := by
      show bs + (s.tm - d) - shift = _
      omega
    rw [e]
    have h1 := h.put hA hS (hl s List.mem_cons_self) (Sim.back d s)
    have h2 := goodB hA hb l (S ++ [s]) _ h1 (fun t ht => by
      rcases List.mem_append.1 ht with ht | ht
      · exact hS t ht
      · rw [List.mem_singleton.1 ht]
        exact hl s List.mem_cons_self) (fun t ht => hl t (List.mem_cons_of_mem _ ht))
    rw [List.append_assoc] at h2
    exact h2
theorem goodA {A X : Acv} (hA : SmOk A.start A.sm) {d : Int} (hx : X.start = A.start + d) : ∀ (l S : List Sm) (f : Int → Option Sm), Good A f S → (∀ s, s ∈ S → s ∈ A.sm) → (∀ s, s ∈ l → s ∈ A.sm) → (∀ s, s ∈ l → s ∉ S) → l.Nodup →
    Good A ((l.map (backS d)).foldl (stepA X) f) (S ++ l)
  | [], S, f, h, _, _, _, _ => by simpa using h
  | s :: l, S, f, h, hS, hl, hd, hn => by
    rw [List.map_cons, List.foldl_cons]
    have e : X.start + (backS d s).tm = A.start + s.tm := by
      show X.start + (s.tm - d) = _
      omega
    have hf : f (A.start + s.tm) = none := by
      cases hf : f (A.start + s.tm) with
      | none => rfl
      | some u =>
        obtain ⟨t, ht, he, _⟩ := h.of _ u hf
        have : s = t := sm_inj hA (hl s List.mem_cons_self) (hS t ht) (by omega)
        subst this
        exact absurd ht (hd s List.mem_cons_self)
    have hst : stepA X f (backS d s) = putS f (A.start + s.tm) (backS d s) := by
      unfold stepA
      rw [e, hf]
    rw [hst]
    rw [List.nodup_cons] at hn
    have h1 := h.put hA hS (hl s List.mem_cons_self) (Sim.back d s)
    have h2 := goodA hA hx l (S ++ [s]) _ h1 (fun t ht => by
      rcases List.mem_append.1 ht with ht | ht
      · exact hS t ht
      · rw [List.mem_singleton.1 ht]
        exact hl s List.mem_cons_self) (fun t ht => hl t (List.mem_cons_of_mem _ ht)) (fun t ht hh => by
      rcases List.mem_append.1 hh with hh | hh
      · exact hd t (List.mem_cons_of_mem _ ht) hh
      · rw [List.mem_singleton.1 hh] at ht
        exact hn.1 ht) hn.2
    rw [List.append_assoc] at h2
    exact h2
theorem good_start (A : Acv) : Good A (fun _ => none) [] := ⟨fun _ _ h => by (cases h), fun s h => absurd h (by simp)⟩
end Go.Proofs.YtjnfccphodjfiaaGreat

/- What a merged recording holds (plain). -/
namespace Go.Proofs.YtjnfccphodjfiaaGreat
open Tr (inR)

theorem foldB_keep {bs sh : Int} : ∀ (l : List Sm) (f : Int → Option Sm) (j : Int), (∀ s, s ∈ l → j ≠ bs + s.tm - sh) → l.foldl (fun f s => putS f (bs + s.tm - sh) s) f j = f j
  | [], _, _, _ => rfl
  | s :: l, f, j, h => by
    rw [List.foldl_cons, foldB_keep l _ j (fun t ht => h t (List.mem_cons_of_mem _ ht))]
    unfold putS
    rw [if_neg (h s List.mem_cons_self)]
theorem foldB_hit {bs sh : Int} : ∀ (l : List Sm) (f : Int → Option Sm) (s : Sm), l.Pairwise (fun x y => x.tm < y.tm) → s ∈ l → l.foldl (fun f s => putS f (bs + s.tm - sh) s) f (bs + s.tm - sh) = some s
  | t :: l, f, s, hp, hs => by
    rw [List.pairwise_cons] at hp
    rw [List.foldl_cons]
    rcases List.mem_cons.1 hs with rfl | hs
    · rw [foldB_keep l _ _ (fun u hu e => by have := hp.1 u hu; omega)]
      unfold putS
      rw [if_pos rfl]
    · exact foldB_hit l _ s hp.2 hs
theorem foldA_keep {A : Acv} : ∀ (l : List Sm) (f : Int → Option Sm) (j : Int), (∀ s, s ∈ l → j ≠ A.start + s.tm) → l.foldl (stepA A) f j = f j
  | [], _, _, _ => rfl
  | s :: l, f, j, h => by
    rw [List.foldl_cons, foldA_keep l _ j (fun t ht => h t (List.mem_cons_of_mem _ ht))]
    unfold stepA putS
    rw [if_neg (h s List.mem_cons_self)]
/-- a sample of the first one, filled -/
def withF (f : Int → Option Sm) (j : Int) (s : Sm) : Sm := match f j with
  | some t => fillS s t
  | none => s
theorem foldA_hit {A : Acv} : ∀ (l : List Sm) (f : Int → Option Sm) (s : Sm), l.Pairwise (fun x y => x.tm < y.tm) → s ∈ l → l.foldl (stepA A) f (A.start + s.tm) = some (withF f (A.start + s.tm) s)
  | t :: l, f, s, hp, hs => by
    rw [List.pairwise_cons] at hp
    rw [List.foldl_cons]
    rcases List.mem_cons.1 hs with rfl | hs
    · rw [foldA_keep l _ _ (fun u hu e => by have := hp.1 u hu; omega)]
      unfold stepA putS
      rw [if_pos rfl]
      rfl
    · rw [foldA_hit l _ s hp.2 hs]
      have hne : A.start + s.tm ≠ A.start + t.tm := by have := hp.1 s hs; omega
      unfold withF stepA putS
      rw [if_neg hne]
theorem Sm.tm_eq {u s : Sm} (h : s = { u with tm := s.tm }) : s.x = u.x ∧ s.y = u.y ∧ s.z = u.z ∧ s.pu = u.pu ∧ s.po = u.po ∧ s.st = u.st := by
  rw [h]
  exact ⟨rfl, rfl, rfl, rfl, rfl, rfl⟩
theorem withF_place (f : Int → Option Sm) (j : Int) (s : Sm) : (withF f j s).x = s.x ∧ (withF f j s).y = s.y ∧ (withF f j s).z = s.z := by
  unfold withF
  cases f j with
  | none => exact ⟨rfl, rfl, rfl⟩
  | some t => exact ⟨rfl, rfl, rfl⟩
theorem smok_sorted {start : Int} {l : List Sm} (h : SmOk start l) : l.Pairwise (fun x y => x.tm < y.tm) := by
  rw [List.pairwise_iff_getElem]
  intro i j hi hj hij
  exact h.lt hij (List.getElem?_eq_getElem hi) (List.getElem?_eq_getElem hj)
section
variable {A B : Acv} {shift : Int} {L : List Sm} {T : List ByteArray}
theorem mgF_first (hA : SmOk A.start A.sm) {s : Sm} (hs : s ∈ A.sm) : mgF A B shift (A.start + s.tm) = some (withF (mapB B shift B.sm) (A.start + s.tm) s) := by
  unfold mgF mapA
  exact foldA_hit _ _ s (smok_sorted hA) hs
theorem mgF_second (hB : SmOk B.start B.sm) {s : Sm} (hs : s ∈ B.sm) (hn : ∀ t, t ∈ A.sm → B.start + s.tm - shift ≠ A.start + t.tm) : mgF A B shift (B.start + s.tm - shift) = some s := by
  unfold mgF mapA
  rw [foldA_keep _ _ _ hn]
  unfold mapB
  exact foldB_hit _ _ s (smok_sorted hB) hs
/-- a moment of the first one -/
def isFst (A : Acv) (j : Int) : Bool := A.sm.any fun s => decide (A.start + s.tm = j)
theorem isFst_iff {j : Int} : isFst A j = true ↔ ∃ s, s ∈ A.sm ∧ A.start + s.tm = j := by
  unfold isFst
  rw [List.any_eq_true]
  simp
theorem merged_first (hM : MgIs A B shift L T) (hA : SmOk A.start A.sm) {s : Sm} (hs : s ∈ A.sm) : ∃ t, t ∈ L ∧ t.tm = A.start + s.tm ∧ t.x = s.x ∧ t.y = s.y ∧ t.z = s.z := by
  obtain ⟨h1, h2, h3⟩ := withF_place (mapB B shift B.sm) (A.start + s.tm) s
  exact ⟨{ withF (mapB B shift B.sm) (A.start + s.tm) s with tm := A.start + s.tm }, (hM.mem _).2 ⟨_, mgF_first hA hs, rfl⟩, rfl, h1, h2, h3⟩
theorem merged_second (hM : MgIs A B shift L T) (hB : SmOk B.start B.sm) {s : Sm} (hs : s ∈ B.sm) (hn : isFst A (B.start + s.tm - shift) = false) : ∃ t, t ∈ L ∧ t.tm = B.start + s.tm - shift ∧ t.x = s.x ∧ t.y = s.y ∧ t.z = s.z ∧ t.pu = s.pu := by
  have hn' : ∀ t, t ∈ A.sm → B.start + s.tm - shift ≠ A.start + t.tm := fun t ht e => by
    rw [isFst_iff.2 ⟨t, ht, e.symm⟩] at hn
    cases hn
  exact ⟨{ s with tm := B.start + s.tm - shift }, (hM.mem _).2 ⟨s, mgF_second hB hs hn', rfl⟩, rfl, rfl, rfl, rfl, rfl⟩
theorem same_length {l1 l2 : List Int} (h1 : l1.Nodup) (h2 : l2.Nodup) (h : ∀ x, x ∈ l1 ↔ x ∈ l2) : l1.length = l2.length := by
  exact ((List.perm_ext_iff_of_nodup h1 h2).2 h).length_eq
theorem nodup_of_lt {α : Type} {f : α → Int} {l : List α} (h : l.Pairwise (fun x y => f x < f y)) : (l.map f).Nodup := by
  unfold List.Nodup
  rw [List.pairwise_map]
  exact h.imp (fun {a b} hab e => by omega)
/-- how many the merged recording has -/
theorem merged_many (hM : MgIs A B shift L T) (hA : SmOk A.start A.sm) (hB : SmOk B.start B.sm) : L.length = A.sm.length + (B.sm.filter fun s => !isFst A (B.start + s.tm - shift)).length := by
  have e := same_length (l1 := L.map (·.tm)) (l2 := A.sm.map (fun s => A.start + s.tm) ++ (B.sm.filter fun s => !isFst A (B.start + s.tm - shift)).map (fun s => B.start + s.tm - shift)) (nodup_of_lt hM.sorted) ?_ ?_
  · rw [List.length_map, List.length_append, List.length_map, List.length_map] at e
    exact e
  · rw [List.nodup_append]
    refine ⟨nodup_of_lt ((smok_sorted hA).imp (fun {a b} h => by show A.start + a.tm < A.start + b.tm; omega)), nodup_of_lt (((smok_sorted hB).filter _).imp (fun {a b} h => by show B.start + a.tm - shift < B.start + b.tm - shift; omega)), fun x hx y hy exy => ?_⟩
    subst exy
    obtain ⟨s, hs, rfl⟩ := List.mem_map.1 hx
    obtain ⟨t, ht, e⟩ := List.mem_map.1 hy
    have h2 := (List.mem_filter.1 ht).2
    rw [isFst_iff.2 ⟨s, hs, e.symm⟩] at h2
    cases h2
  · intro x
    rw [List.mem_append]
    constructor
    · intro hx
      obtain ⟨s, hs, rfl⟩ := List.mem_map.1 hx
      obtain ⟨u, hu, _⟩ := (hM.mem s).1 hs
      by_cases hf : isFst A s.tm = true
      · obtain ⟨t, ht, e⟩ := isFst_iff.1 hf
        exact Or.inl (List.mem_map.2 ⟨t, ht, e⟩)
      · rcases mgF_key hu with ⟨t, ht, e⟩ | ⟨t, ht, e⟩
        · exact absurd (isFst_iff.2 ⟨t, ht, e.symm⟩) hf
        · exact Or.inr (List.mem_map.2 ⟨t, List.mem_filter.2 ⟨ht, by rw [← e]; simpa using hf⟩, e.symm⟩)
    · rintro (hx | hx)
      · obtain ⟨s, hs, rfl⟩ := List.mem_map.1 hx
        obtain ⟨t, ht, e, _⟩ := merged_first hM hA hs
        exact List.mem_map.2 ⟨t, ht, e⟩
      · obtain ⟨s, hs, rfl⟩ := List.mem_map.1 hx
        obtain ⟨h1, h2⟩ := List.mem_filter.1 hs
        obtain ⟨t, ht, e, _⟩ := merged_second hM hB h1 (by simpa using h2)
        exact List.mem_map.2 ⟨t, ht, e⟩
end
end Go.Proofs.YtjnfccphodjfiaaGreat

/- The reference's merging of two rows; what it makes is what the program makes (plain). -/
namespace Go.Proofs.YtjnfccphodjfiaaGreat
open Tr (inR)

def shB (d : Int) (s : Sm) : Sm := { s with tm := s.tm + d }
def mergeR (d : Int) : List Sm → List Sm → List Sm
  | [], [] => []
  | x :: xs, [] => x :: mergeR d xs []
  | [], y :: ys => shB d y :: mergeR d [] ys
  | x :: xs, y :: ys => if x.tm < y.tm + d then x :: mergeR d xs (y :: ys) else if y.tm + d < x.tm then shB d y :: mergeR d (x :: xs) ys else fillS x y :: mergeR d xs ys
termination_by xs ys => xs.length + ys.length
/-- what a merged row holds -/
def InR (d : Int) (xs ys : List Sm) (s : Sm) : Prop :=
  (s ∈ xs ∧ ∀ y, y ∈ ys → y.tm + d ≠ s.tm) ∨ (∃ y, y ∈ ys ∧ (∀ x, x ∈ xs → x.tm ≠ y.tm + d) ∧ s = shB d y) ∨ ∃ x y, x ∈ xs ∧ y ∈ ys ∧ x.tm = y.tm + d ∧ s = fillS x y
theorem mergeR_mem (d : Int) : ∀ (n : Nat) (xs ys : List Sm), xs.length + ys.length = n → xs.Pairwise (fun x y => x.tm < y.tm) → ys.Pairwise (fun x y => x.tm < y.tm) → ∀ s, s ∈ mergeR d xs ys ↔ InR d xs ys s := by
  intro n
  induction n using Nat.strongRecOn with
  | ind n ih =>
    intro xs ys hn hx hy s
    match xs, ys with
    | [], [] =>
      rw [mergeR]
      unfold InR
      simp
    | x :: xs, [] =>
      rw [mergeR, List.mem_cons, ih (xs.length + 0) (by simp at hn; omega) xs [] rfl (List.pairwise_cons.1 hx).2 hy]
      unfold InR
      simp
    | [], y :: ys =>
      rw [mergeR, List.mem_cons, ih (0 + ys.length) (by simp at hn; omega) [] ys (by simp) hx (List.pairwise_cons.1 hy).2]
      unfold InR
      simp
    | x :: xs, y :: ys =>
      have hx' := List.pairwise_cons.1 hx
      have hy' := List.pairwise_cons.1 hy
      rw [mergeR]
      simp only [List.length_cons] at hn
      by_cases h1 : x.tm < y.tm + d
      · rw [if_pos h1, List.mem_cons, ih (xs.length + (y :: ys).length) (by simp; omega) xs (y :: ys) rfl hx'.2 hy]
        have hyx : ∀ z, z ∈ y :: ys → x.tm < z.tm + d := fun z hz => by
          rcases List.mem_cons.1 hz with rfl | hz
          · exact h1
          · have := hy'.1 z hz
            omega
        constructor
        · rintro (rfl | h | ⟨z, hz, h, rfl⟩ | ⟨u, z, hu, hz, e, rfl⟩)
          · exact Or.inl ⟨List.mem_cons_self, fun z hz => by have := hyx z hz; omega⟩
          · exact Or.inl ⟨List.mem_cons_of_mem _ h.1, h.2⟩
          · exact Or.inr (Or.inl ⟨z, hz, fun u hu => by
              rcases List.mem_cons.1 hu with rfl | hu
              · have := hyx z hz; omega
              · exact h u hu, rfl⟩)
          · exact Or.inr (Or.inr ⟨u, z, List.mem_cons_of_mem _ hu, hz, e, rfl⟩)
        · rintro (⟨h, h2⟩ | ⟨z, hz, h, rfl⟩ | ⟨u, z, hu, hz, e, rfl⟩)
          · rcases List.mem_cons.1 h with rfl | h
            · exact Or.inl rfl
            · exact Or.inr (Or.inl ⟨h, h2⟩)
          · exact Or.inr (Or.inr (Or.inl ⟨z, hz, fun u hu => h u (List.mem_cons_of_mem _ hu), rfl⟩))
          · rcases List.mem_cons.1 hu with rfl | hu
            · have := hyx z hz
              omega
            · exact Or.inr (Or.inr (Or.inr ⟨u, z, hu, hz, e, rfl⟩))
      · by_cases h2 : y.tm + d < x.tm
        · rw [if_neg h1, if_pos h2, List.mem_cons, ih ((x :: xs).length + ys.length) (by simp; omega) (x :: xs) ys rfl hx hy'.2]
          have hxy : ∀ z, z ∈ x :: xs → y.tm + d < z.tm := fun z hz => by
            rcases List.mem_cons.1 hz with rfl | hz
            · exact h2
            · have := hx'.1 z hz
              omega
          constructor
          · rintro (rfl | h | ⟨z, hz, h, rfl⟩ | ⟨u, z, hu, hz, e, rfl⟩)
            · exact Or.inr (Or.inl ⟨y, List.mem_cons_self, fun u hu => by have := hxy u hu; omega, rfl⟩)
            · exact Or.inl ⟨h.1, fun z hz => by
                rcases List.mem_cons.1 hz with rfl | hz
                · have := hxy s h.1; omega
                · exact h.2 z hz⟩
            · exact Or.inr (Or.inl ⟨z, List.mem_cons_of_mem _ hz, h, rfl⟩)
            · exact Or.inr (Or.inr ⟨u, z, hu, List.mem_cons_of_mem _ hz, e, rfl⟩)
          · rintro (⟨h, h3⟩ | ⟨z, hz, h, rfl⟩ | ⟨u, z, hu, hz, e, rfl⟩)
            · exact Or.inr (Or.inl ⟨h, fun z hz => h3 z (List.mem_cons_of_mem _ hz)⟩)
            · rcases List.mem_cons.1 hz with rfl | hz
              · exact Or.inl rfl
              · exact Or.inr (Or.inr (Or.inl ⟨z, hz, h, rfl⟩))
            · rcases List.mem_cons.1 hz with rfl | hz
              · have := hxy u hu
                omega
              · exact Or.inr (Or.inr (Or.inr ⟨u, z, hu, hz, e, rfl⟩))
        · rw [if_neg h1, if_neg h2, List.mem_cons, ih (xs.length + ys.length) (by omega) xs ys rfl hx'.2 hy'.2]
          have hxy : x.tm = y.tm + d := by omega
          constructor
          · rintro (rfl | h | ⟨z, hz, h, rfl⟩ | ⟨u, z, hu, hz, e, rfl⟩)
            · exact Or.inr (Or.inr ⟨x, y, List.mem_cons_self, List.mem_cons_self, hxy, rfl⟩)
            · exact Or.inl ⟨List.mem_cons_of_mem _ h.1, fun z hz => by
                rcases List.mem_cons.1 hz with rfl | hz
                · have := hx'.1 s h.1; omega
                · exact h.2 z hz⟩
            · exact Or.inr (Or.inl ⟨z, List.mem_cons_of_mem _ hz, fun u hu => by
                rcases List.mem_cons.1 hu with rfl | hu
                · have := hy'.1 z hz; omega
                · exact h u hu, rfl⟩)
            · exact Or.inr (Or.inr ⟨u, z, List.mem_cons_of_mem _ hu, List.mem_cons_of_mem _ hz, e, rfl⟩)
          · rintro (⟨h, h3⟩ | ⟨z, hz, h, rfl⟩ | ⟨u, z, hu, hz, e, rfl⟩)
            · rcases List.mem_cons.1 h with rfl | h
              · exact absurd hxy.symm (h3 y List.mem_cons_self)
              · exact Or.inr (Or.inl ⟨h, fun z hz => h3 z (List.mem_cons_of_mem _ hz)⟩)
            · rcases List.mem_cons.1 hz with rfl | hz
              · exact absurd hxy (h x List.mem_cons_self)
              · exact Or.inr (Or.inr (Or.inl ⟨z, hz, fun u hu => h u (List.mem_cons_of_mem _ hu), rfl⟩))
            · rcases List.mem_cons.1 hu with rfl | hu
              · rcases List.mem_cons.1 hz with rfl | hz
                · exact Or.inl rfl
                · have := hy'.1 z hz
                  omega
              · rcases List.mem_cons.1 hz with rfl | hz
                · have := hx'.1 u hu
                  omega
                · exact Or.inr (Or.inr (Or.inr ⟨u, z, hu, hz, e, rfl⟩))
theorem InR.key {d : Int} {xs ys : List Sm} {s : Sm} (h : InR d xs ys s) : (∃ x, x ∈ xs ∧ s.tm = x.tm) ∨ ∃ y, y ∈ ys ∧ s.tm = y.tm + d := by
  rcases h with ⟨h, _⟩ | ⟨y, hy, _, rfl⟩ | ⟨x, y, hx, _, _, rfl⟩
  · exact Or.inl ⟨s, h, rfl⟩
  · exact Or.inr ⟨y, hy, rfl⟩
  · exact Or.inl ⟨x, hx, rfl⟩
theorem mergeR_sorted (d : Int) : ∀ (n : Nat) (xs ys : List Sm), xs.length + ys.length = n → xs.Pairwise (fun x y => x.tm < y.tm) → ys.Pairwise (fun x y => x.tm < y.tm) → (mergeR d xs ys).Pairwise (fun x y => x.tm < y.tm) := by
  intro n
  induction n using Nat.strongRecOn with
  | ind n ih =>
    intro xs ys hn hx hy
    match xs, ys with
    | [], [] =>
      rw [mergeR]
      exact List.Pairwise.nil
    | x :: xs, [] =>
      have hx' := List.pairwise_cons.1 hx
      rw [mergeR, List.pairwise_cons]
      refine ⟨fun s hs => ?_, ih (xs.length + 0) (by simp at hn; omega) xs [] rfl hx'.2 hy⟩
      rcases ((mergeR_mem d _ xs [] rfl hx'.2 hy s).1 hs).key with ⟨z, hz, e⟩ | ⟨z, hz, e⟩
      · have := hx'.1 z hz; omega
      · cases hz
    | [], y :: ys =>
      have hy' := List.pairwise_cons.1 hy
      rw [mergeR, List.pairwise_cons]
      refine ⟨fun s hs => ?_, ih (0 + ys.length) (by simp at hn; omega) [] ys (by simp) hx hy'.2⟩
      rcases ((mergeR_mem d _ [] ys rfl hx hy'.2 s).1 hs).key with ⟨z, hz, e⟩ | ⟨z, hz, e⟩
      · cases hz
      · have := hy'.1 z hz
        show y.tm + d < s.tm
        omega
    | x :: xs, y :: ys =>
      have hx' := List.pairwise_cons.1 hx
      have hy' := List.pairwise_cons.1 hy
      simp only [List.length_cons] at hn
      rw [mergeR]
      by_cases h1 : x.tm < y.tm + d
      · rw [if_pos h1, List.pairwise_cons]
        refine ⟨fun s hs => ?_, ih (xs.length + (y :: ys).length) (by simp; omega) xs (y :: ys) rfl hx'.2 hy⟩
        rcases ((mergeR_mem d _ xs (y :: ys) rfl hx'.2 hy s).1 hs).key with ⟨z, hz, e⟩ | ⟨z, hz, e⟩
        · have := hx'.1 z hz; omega
        · rcases List.mem_cons.1 hz with rfl | hz
          · omega
          · have := hy'.1 z hz; omega
      · by_cases h2 : y.tm + d < x.tm
        · rw [if_neg h1, if_pos h2, List.pairwise_cons]
          refine ⟨fun s hs => ?_, ih ((x :: xs).length + ys.length) (by simp; omega) (x :: xs) ys rfl hx hy'.2⟩
          show y.tm + d < s.tm
          rcases ((mergeR_mem d _ (x :: xs) ys rfl hx hy'.2 s).1 hs).key with ⟨z, hz, e⟩ | ⟨z, hz, e⟩
          · rcases List.mem_cons.1 hz with rfl | hz
            · omega
            · have := hx'.1 z hz; omega
          · have := hy'.1 z hz; omega
        · rw [if_neg h1, if_neg h2, List.pairwise_cons]
          refine ⟨fun s hs => ?_, ih (xs.length + ys.length) (by omega) xs ys rfl hx'.2 hy'.2⟩
          show x.tm < s.tm
          rcases ((mergeR_mem d _ xs ys rfl hx'.2 hy'.2 s).1 hs).key with ⟨z, hz, e⟩ | ⟨z, hz, e⟩
          · have := hx'.1 z hz; omega
          · have := hy'.1 z hz; omega
theorem mergeR_len (d : Int) : ∀ (n : Nat) (xs ys : List Sm), xs.length + ys.length = n → (mergeR d xs ys).length ≤ n := by
  intro n
  induction n using Nat.strongRecOn with
  | ind n ih =>
    intro xs ys hn
    match xs, ys with
    | [], [] => rw [mergeR]; simp
    | x :: xs, [] =>
      have := ih (xs.length + 0) (by simp at hn; omega) xs [] rfl
      rw [mergeR]
      simp at hn ⊢
      omega
    | [], y :: ys =>
      have := ih (0 + ys.length) (by simp at hn; omega) [] ys (by simp)
      rw [mergeR]
      simp at hn ⊢
      omega
    | x :: xs, y :: ys =>
      simp only [List.length_cons] at hn
      rw [mergeR]
      by_cases h1 : x.tm < y.tm + d
      · have := ih (xs.length + (y :: ys).length) (by simp; omega) xs (y :: ys) rfl
        rw [if_pos h1]
        simp at this ⊢
        omega
      · by_cases h2 : y.tm + d < x.tm
        · have := ih ((x :: xs).length + ys.length) (by simp; omega) (x :: xs) ys rfl
          rw [if_neg h1, if_pos h2]
          simp at this ⊢
          omega
        · have := ih (xs.length + ys.length) (by omega) xs ys rfl
          rw [if_neg h1, if_neg h2]
          simp
          omega
/-- what the reference adds to the second one's times -/
def byR (A B : Acv) (shift : Int) : Int := B.start - shift - A.start
theorem foldB_none {A B : Acv} {shift : Int} {j : Int} (h : ∀ y, y ∈ B.sm → y.tm + byR A B shift ≠ j) : mapB B shift B.sm (A.start + j) = none := by
  unfold mapB
  rw [foldB_keep _ _ _ (fun s hs e => h s hs (by unfold byR; omega))]
theorem foldB_some {A B : Acv} {shift : Int} (hB : SmOk B.start B.sm) {y : Sm} (hy : y ∈ B.sm) : mapB B shift B.sm (A.start + (y.tm + byR A B shift)) = some y := by
  unfold mapB
  rw [show A.start + (y.tm + byR A B shift) = B.start + y.tm - shift by unfold byR; omega]
  exact foldB_hit _ _ _ (smok_sorted hB) hy
theorem mergeR_at {A B : Acv} {shift : Int} (hA : SmOk A.start A.sm) (hB : SmOk B.start B.sm) {s : Sm} (h : InR (byR A B shift) A.sm B.sm s) : ∃ u, mgF A B shift (A.start + s.tm) = some u ∧ shB A.start s = { u with tm := A.start + s.tm } := by
  rcases h with ⟨h, h2⟩ | ⟨y, hy, h2, rfl⟩ | ⟨x, y, hx, hy, e, rfl⟩
  · refine ⟨s, ?_, by unfold shB; rw [Int.add_comm]⟩
    rw [mgF_first hA h]
    unfold withF
    rw [foldB_none h2]
  · refine ⟨y, ?_, by unfold shB; simp only; rw [Int.add_comm A.start]⟩
    have e : A.start + (shB (byR A B shift) y).tm = B.start + y.tm - shift := by show A.start + (y.tm + byR A B shift) = _; unfold byR; omega
    rw [e]
    exact mgF_second hB hy (fun t ht e => h2 t ht (by unfold byR; omega))
  · refine ⟨fillS x y, ?_, by unfold shB; rw [Int.add_comm]⟩
    rw [show (fillS x y).tm = x.tm from rfl, mgF_first hA hx]
    unfold withF
    rw [e, foldB_some hB hy]
/-- the reference's row is the program's, on the first one's clock -/
theorem mergeR_is {A B : Acv} {shift : Int} {L : List Sm} {T : List ByteArray} (hM : MgIs A B shift L T) (hA : SmOk A.start A.sm) (hB : SmOk B.start B.sm) : mergeR (byR A B shift) A.sm B.sm = L.map (backS A.start) := by
  have hmem := mergeR_mem (byR A B shift) _ A.sm B.sm rfl (smok_sorted hA) (smok_sorted hB)
  have hsort := mergeR_sorted (byR A B shift) _ A.sm B.sm rfl (smok_sorted hA) (smok_sorted hB)
  have e : (mergeR (byR A B shift) A.sm B.sm).map (shB A.start) = L := by
    refine uniq_sorted (R := fun x y : Sm => x.tm < y.tm) (fun x h => by omega) (fun x y z h1 h2 => by omega) _ _ ?_ hM.sorted (fun s => ?_)
    · rw [List.pairwise_map]
      exact hsort.imp (fun {a b} h => by show a.tm + A.start < b.tm + A.start; omega)
    · rw [List.mem_map, hM.mem]
      constructor
      · rintro ⟨r, hr, rfl⟩
        obtain ⟨u, h1, h2⟩ := mergeR_at hA hB ((hmem r).1 hr)
        refine ⟨u, ?_, ?_⟩
        · rw [show (shB A.start r).tm = A.start + r.tm by show r.tm + A.start = _; omega]
          exact h1
        · rw [show (shB A.start r).tm = A.start + r.tm by show r.tm + A.start = _; omega]
          exact h2
      · rintro ⟨u, hu, hs⟩
        have fin : ∀ r, r ∈ mergeR (byR A B shift) A.sm B.sm → A.start + r.tm = s.tm → shB A.start r = s := fun r hr hk => by
          obtain ⟨v, h1, h2⟩ := mergeR_at hA hB ((hmem r).1 hr)
          rw [hk, hu] at h1
          have h1 := Option.some.inj h1
          subst h1
          rw [h2, hk]
          exact hs.symm
        rcases mgF_key hu with ⟨x, hx, ex⟩ | ⟨y, hy, ey⟩
        · by_cases hc : ∃ y, y ∈ B.sm ∧ y.tm + byR A B shift = x.tm
          · obtain ⟨y, hy, e⟩ := hc
            have hr := (hmem (fillS x y)).2 (Or.inr (Or.inr ⟨x, y, hx, hy, e.symm, rfl⟩))
            exact ⟨_, hr, fin _ hr ex.symm⟩
          · have hr := (hmem x).2 (Or.inl ⟨hx, fun y hy e => hc ⟨y, hy, e⟩⟩)
            exact ⟨_, hr, fin _ hr ex.symm⟩
        · by_cases hc : ∃ x, x ∈ A.sm ∧ x.tm = y.tm + byR A B shift
          · obtain ⟨x, hx, e⟩ := hc
            have hr := (hmem (fillS x y)).2 (Or.inr (Or.inr ⟨x, y, hx, hy, e, rfl⟩))
            exact ⟨_, hr, fin _ hr (by rw [ey]; show A.start + x.tm = _; rw [e]; unfold byR; omega)⟩
          · have hr := (hmem (shB (byR A B shift) y)).2 (Or.inr (Or.inl ⟨y, hy, fun x hx e => hc ⟨x, hx, e⟩, rfl⟩))
            exact ⟨_, hr, fin _ hr (by rw [ey]; show A.start + (y.tm + byR A B shift) = _; unfold byR; omega)⟩
  rw [← e, List.map_map]
  have : (backS A.start ∘ shB A.start) = id := by
    funext s
    show backS A.start (shB A.start s) = s
    unfold backS shB
    simp
  rw [this, List.map_id]
/-! ### tags -/
def mergeT : List ByteArray → List ByteArray → List ByteArray
  | [], [] => []
  | a :: as_, [] => a :: mergeT as_ []
  | [], b :: bs => b :: mergeT [] bs
  | a :: as_, b :: bs => if Op.bytesLess (bL a) (bL b) = true then a :: mergeT as_ (b :: bs) else if a = b then b :: mergeT as_ bs else b :: mergeT (a :: as_) bs
termination_by as_ bs => as_.length + bs.length
theorem mergeT_mem : ∀ (n : Nat) (xs ys : List ByteArray), xs.length + ys.length = n → ∀ s, s ∈ mergeT xs ys ↔ s ∈ xs ∨ s ∈ ys := by
  intro n
  induction n using Nat.strongRecOn with
  | ind n ih =>
    intro xs ys hn s
    match xs, ys with
    | [], [] => rw [mergeT]; simp
    | x :: xs, [] =>
      rw [mergeT, List.mem_cons, ih (xs.length + 0) (by simp at hn; omega) xs [] rfl]
      simp
    | [], y :: ys =>
      rw [mergeT, List.mem_cons, ih (0 + ys.length) (by simp at hn; omega) [] ys (by simp)]
      simp
    | x :: xs, y :: ys =>
      simp only [List.length_cons] at hn
      rw [mergeT]
      by_cases h1 : Op.bytesLess (bL x) (bL y) = true
      · rw [if_pos h1, List.mem_cons, ih (xs.length + (y :: ys).length) (by simp; omega) xs (y :: ys) rfl]
        simp only [List.mem_cons]
        constructor
        · rintro (h | h | h) <;> simp [h]
        · rintro ((h | h) | h) <;> simp [h]
      · by_cases h2 : x = y
        · subst h2
          rw [if_neg h1, if_pos rfl, List.mem_cons, ih (xs.length + ys.length) (by omega) xs ys rfl]
          simp only [List.mem_cons]
          constructor
          · rintro (h | h | h) <;> simp [h]
          · rintro ((h | h) | (h | h)) <;> simp [h]
        · rw [if_neg h1, if_neg h2, List.mem_cons, ih ((x :: xs).length + ys.length) (by simp; omega) (x :: xs) ys rfl]
          simp only [List.mem_cons]
          constructor
          · rintro (h | (h | h) | h) <;> simp [h]
          · rintro ((h | h) | (h | h)) <;> simp [h]
theorem bL_tri {x y : ByteArray} (h : ¬ bL x < bL y) (hne : x ≠ y) : bL y < bL x := by
  refine Classical.byContradiction fun h2 => hne (bL_inj ?_)
  exact List.le_antisymm (List.not_lt.1 h2) (List.not_lt.1 h)
theorem mergeT_sorted : ∀ (n : Nat) (xs ys : List ByteArray), xs.length + ys.length = n → xs.Pairwise (fun x y => bL x < bL y) → ys.Pairwise (fun x y => bL x < bL y) → (mergeT xs ys).Pairwise (fun x y => bL x < bL y) := by
  intro n
  induction n using Nat.strongRecOn with
  | ind n ih =>
    intro xs ys hn hx hy
    match xs, ys with
    | [], [] =>
      rw [mergeT]
      exact List.Pairwise.nil
    | x :: xs, [] =>
      have hx' := List.pairwise_cons.1 hx
      rw [mergeT, List.pairwise_cons]
      refine ⟨fun s hs => ?_, ih (xs.length + 0) (by simp at hn; omega) xs [] rfl hx'.2 hy⟩
      rcases (mergeT_mem _ xs [] rfl s).1 hs with hs | hs
      · exact hx'.1 s hs
      · cases hs
    | [], y :: ys =>
      have hy' := List.pairwise_cons.1 hy
      rw [mergeT, List.pairwise_cons]
      refine ⟨fun s hs => ?_, ih (0 + ys.length) (by simp at hn; omega) [] ys (by simp) hx hy'.2⟩
      rcases (mergeT_mem _ [] ys rfl s).1 hs with hs | hs
      · cases hs
      · exact hy'.1 s hs
    | x :: xs, y :: ys =>
      have hx' := List.pairwise_cons.1 hx
      have hy' := List.pairwise_cons.1 hy
      simp only [List.length_cons] at hn
      rw [mergeT]
      by_cases h1 : Op.bytesLess (bL x) (bL y) = true
      · have hlt : bL x < bL y := by rw [bytesLess_eq, decide_eq_true_eq] at h1; exact h1
        rw [if_pos h1, List.pairwise_cons]
        refine ⟨fun s hs => ?_, ih (xs.length + (y :: ys).length) (by simp; omega) xs (y :: ys) rfl hx'.2 hy⟩
        rcases (mergeT_mem _ xs (y :: ys) rfl s).1 hs with hs | hs
        · exact hx'.1 s hs
        · rcases List.mem_cons.1 hs with rfl | hs
          · exact hlt
          · exact List.lt_trans hlt (hy'.1 s hs)
      · have hnlt : ¬ bL x < bL y := fun h => h1 (by rw [bytesLess_eq, decide_eq_true_eq]; exact h)
        by_cases h2 : x = y
        · subst h2
          rw [if_neg h1, if_pos rfl, List.pairwise_cons]
          refine ⟨fun s hs => ?_, ih (xs.length + ys.length) (by omega) xs ys rfl hx'.2 hy'.2⟩
          rcases (mergeT_mem _ xs ys rfl s).1 hs with hs | hs
          · exact hx'.1 s hs
          · exact hy'.1 s hs
        · have hyx := bL_tri hnlt h2
          rw [if_neg h1, if_neg h2, List.pairwise_cons]
          refine ⟨fun s hs => ?_, ih ((x :: xs).length + ys.length) (by simp; omega) (x :: xs) ys rfl hx hy'.2⟩
          rcases (mergeT_mem _ (x :: xs) ys rfl s).1 hs with hs | hs
          · rcases List.mem_cons.1 hs with rfl | hs
            · exact hyx
            · exact List.lt_trans hyx (hx'.1 s hs)
          · exact hy'.1 s hs
theorem mergeT_is {A B : Acv} {shift : Int} {L : List Sm} {T : List ByteArray} (hM : MgIs A B shift L T) (hA : TgOk A.tg) (hB : TgOk B.tg) : mergeT A.tg B.tg = T :=
  uniq_sorted (R := fun x y => bL x < bL y) bL_irr (fun _ _ _ h1 h2 => List.lt_trans h1 h2) _ _ (mergeT_sorted _ _ _ rfl (tg_sorted hA) (tg_sorted hB)) hM.tsorted (fun x => by rw [mergeT_mem _ _ _ rfl, hM.tmem])
end Go.Proofs.YtjnfccphodjfiaaGreat

/- harrierref11.filled: as the program's. (printed by wip/t/gen_tnh.py) -/
namespace Go.Proofs.YtjnfccphodjfiaaGreat
open Go.RowKit Go.BigFrame
open Tr (inR)
set_option maxHeartbeats 8000000 in
set_option maxRecDepth 100000 in
theorem rfilled_any (s t : Sm) (w : World) : Calls Tryz.prog 57 #[smV s, smV t] w fun e w' => e = .returned (smV (fillS s t)) ∧ Below w.heap.size w w' := by
  unfold smV
  obtain ⟨V0, hV0, hb0, hs0, ha0⟩ := alloc_sm w s
  obtain ⟨V1, hV1, hb1, hs1, ha1⟩ := alloc_sm V0 t
  obtain ⟨V2, hV2, hb2, hs2, ha2⟩ := alloc_sm V1 sm0
  simp only [sm0] at hV2
  rw [hs0] at ha1
  rw [hs1, hs0] at ha2
  have hs11 : V1.heap.size = w.heap.size + 1 + 1 := by rw [hs1, hs0]
  have HB := Lib.hid (below_step (below_step hb0 hb1) hb2)
  have HS := Lib.hid ((ha0.below hb1).below hb2)
  have HT := Lib.hid (ha1.below hb2)
  have HR := Lib.hid ha2
  obtain ⟨d0, d1, d2, d3, d4, d5, d6⟩ := HT.out.cell
  clear hb0 hb1 hb2 ha0 ha1 ha2 hs1 hs2 d0 d1 d2 d3
  go_enter Tryz.func57, Tryz.ntmps57
  go_upto_region 1 with (fail)
  clear hV0 hV1 hV2 hs0 hs11
  by_cases h0 : s.pu < 0
  · by_cases h1 : s.po < 0
    · by_cases h2 : s.st < 0
      · obtain ⟨c0, c1, c2, c3, c4, c5, c6⟩ := HS.out.cell
        have f0 := HS.out.free
        clear c0 c1 c2 c3
        obtain ⟨W1, hW1⟩ : ∃ W, V2.setCell ⟨w.heap.size, 4, none⟩ (.int .i64 t.pu) = W := ⟨_, rfl⟩
        have HS1 := Lib.hid (by have h := HS.out.set4 t.pu; rw [hW1] at h; exact h)
        have K1 := Lib.hid ((show Kept (fun b => b = w.heap.size) V2 W1 from by rw [← hW1]; exact keep_set (O := fun b => b = w.heap.size) rfl))
        obtain ⟨u10, u11, u12, u13, u14, u15, u16⟩ := HS1.out.cell
        simp only at u10 u11 u12 u13 u14 u15 u16
        have f1 := HS1.out.free
        obtain ⟨_, _, _, _, e14, e15, e16⟩ := (HT.out.kept K1.out (by omega)).cell
        obtain ⟨W2, hW2⟩ : ∃ W, W1.setCell ⟨w.heap.size, 5, none⟩ (.int .i64 t.po) = W := ⟨_, rfl⟩
        have HS2 := Lib.hid (by have h := HS1.out.set5 t.po; rw [hW2] at h; exact h)
        have K2 := Lib.hid (K1.out.trans (show Kept (fun b => b = w.heap.size) W1 W2 from by rw [← hW2]; exact keep_set (O := fun b => b = w.heap.size) rfl))
        obtain ⟨u20, u21, u22, u23, u24, u25, u26⟩ := HS2.out.cell
        simp only at u20 u21 u22 u23 u24 u25 u26
        have f2 := HS2.out.free
        obtain ⟨_, _, _, _, e24, e25, e26⟩ := (HT.out.kept K2.out (by omega)).cell
        obtain ⟨W3, hW3⟩ : ∃ W, W2.setCell ⟨w.heap.size, 6, none⟩ (.int .i64 t.st) = W := ⟨_, rfl⟩
        have HS3 := Lib.hid (by have h := HS2.out.set6 t.st; rw [hW3] at h; exact h)
        have K3 := Lib.hid (K2.out.trans (show Kept (fun b => b = w.heap.size) W2 W3 from by rw [← hW3]; exact keep_set (O := fun b => b = w.heap.size) rfl))
        obtain ⟨u30, u31, u32, u33, u34, u35, u36⟩ := HS3.out.cell
        simp only at u30 u31 u32 u33 u34 u35 u36
        have f3 := HS3.out.free
        obtain ⟨_, _, _, _, e34, e35, e36⟩ := (HT.out.kept K3.out (by omega)).cell
        have HRF := Lib.hid (HR.out.kept K3.out (by omega))
        have HFIN := Lib.hid HS3.out
        have HFV := Lib.hid (show fillS s t = { s with pu := t.pu, po := t.po, st := t.st } from by
          unfold fillS orNeg
          rw [if_pos h0, if_pos h1, if_pos h2])
        obtain ⟨r0, r1, r2, r3, r4, r5, r6⟩ := HRF.out.cell
        have fr := HRF.out.free
        obtain ⟨WF, hWF, hF, hkF⟩ := HRF.out.store (fillS s t)
        have HF := Lib.hid hF
        have HBW := Lib.hid (show Below w.heap.size w W3 from Kept.below HB.out K3.out HB.out.size (fun j hj e => by omega))
        have HBF := Lib.hid (show Below w.heap.size w WF from Kept.below HBW.out (hkF (fun b => b = w.heap.size + 1 + 1) rfl) HBW.out.size (fun j hj e => by omega))
        rw [HFV.out] at hWF
        simp only at hWF
        have t0 : decide (s.pu < 0) = true := by simpa using h0
        have t1 : decide (s.po < 0) = true := by simpa using h1
        have t2 : decide (s.st < 0) = true := by simpa using h2
        clear h0 h1 h2 hF hkF
        go_wp2_with fail
        have q := HF.out.cell
        exact bodyPost_ret (v := smV (fillS s t)) (by simp [results, Tryz.results57, go_sem, q, smV]) rfl (by exact ⟨rfl, HBF.out⟩)
      · obtain ⟨c0, c1, c2, c3, c4, c5, c6⟩ := HS.out.cell
        have f0 := HS.out.free
        clear c0 c1 c2 c3
        obtain ⟨W1, hW1⟩ : ∃ W, V2.setCell ⟨w.heap.size, 4, none⟩ (.int .i64 t.pu) = W := ⟨_, rfl⟩
        have HS1 := Lib.hid (by have h := HS.out.set4 t.pu; rw [hW1] at h; exact h)
        have K1 := Lib.hid ((show Kept (fun b => b = w.heap.size) V2 W1 from by rw [← hW1]; exact keep_set (O := fun b => b = w.heap.size) rfl))
        obtain ⟨u10, u11, u12, u13, u14, u15, u16⟩ := HS1.out.cell
        simp only at u10 u11 u12 u13 u14 u15 u16
        have f1 := HS1.out.free
        obtain ⟨_, _, _, _, e14, e15, e16⟩ := (HT.out.kept K1.out (by omega)).cell
        obtain ⟨W2, hW2⟩ : ∃ W, W1.setCell ⟨w.heap.size, 5, none⟩ (.int .i64 t.po) = W := ⟨_, rfl⟩
        have HS2 := Lib.hid (by have h := HS1.out.set5 t.po; rw [hW2] at h; exact h)
        have K2 := Lib.hid (K1.out.trans (show Kept (fun b => b = w.heap.size) W1 W2 from by rw [← hW2]; exact keep_set (O := fun b => b = w.heap.size) rfl))
        obtain ⟨u20, u21, u22, u23, u24, u25, u26⟩ := HS2.out.cell
        simp only at u20 u21 u22 u23 u24 u25 u26
        have f2 := HS2.out.free
        obtain ⟨_, _, _, _, e24, e25, e26⟩ := (HT.out.kept K2.out (by omega)).cell
        have HRF := Lib.hid (HR.out.kept K2.out (by omega))
        have HFIN := Lib.hid HS2.out
        have HFV := Lib.hid (show fillS s t = { s with pu := t.pu, po := t.po } from by
          unfold fillS orNeg
          rw [if_pos h0, if_pos h1, if_neg h2])
        obtain ⟨r0, r1, r2, r3, r4, r5, r6⟩ := HRF.out.cell
        have fr := HRF.out.free
        obtain ⟨WF, hWF, hF, hkF⟩ := HRF.out.store (fillS s t)
        have HF := Lib.hid hF
        have HBW := Lib.hid (show Below w.heap.size w W2 from Kept.below HB.out K2.out HB.out.size (fun j hj e => by omega))
        have HBF := Lib.hid (show Below w.heap.size w WF from Kept.below HBW.out (hkF (fun b => b = w.heap.size + 1 + 1) rfl) HBW.out.size (fun j hj e => by omega))
        rw [HFV.out] at hWF
        simp only at hWF
        have t0 : decide (s.pu < 0) = true := by simpa using h0
        have t1 : decide (s.po < 0) = true := by simpa using h1
        have t2 : decide (s.st < 0) = false := by simpa using h2
        clear h0 h1 h2 hF hkF
        go_wp2_with fail
        have q := HF.out.cell
        exact bodyPost_ret (v := smV (fillS s t)) (by simp [results, Tryz.results57, go_sem, q, smV]) rfl (by exact ⟨rfl, HBF.out⟩)
    · by_cases h2 : s.st < 0
      · obtain ⟨c0, c1, c2, c3, c4, c5, c6⟩ := HS.out.cell
        have f0 := HS.out.free
        clear c0 c1 c2 c3
        obtain ⟨W1, hW1⟩ : ∃ W, V2.setCell ⟨w.heap.size, 4, none⟩ (.int .i64 t.pu) = W := ⟨_, rfl⟩
        have HS1 := Lib.hid (by have h := HS.out.set4 t.pu; rw [hW1] at h; exact h)
        have K1 := Lib.hid ((show Kept (fun b => b = w.heap.size) V2 W1 from by rw [← hW1]; exact keep_set (O := fun b => b = w.heap.size) rfl))
        obtain ⟨u10, u11, u12, u13, u14, u15, u16⟩ := HS1.out.cell
        simp only at u10 u11 u12 u13 u14 u15 u16
        have f1 := HS1.out.free
        obtain ⟨_, _, _, _, e14, e15, e16⟩ := (HT.out.kept K1.out (by omega)).cell
        obtain ⟨W2, hW2⟩ : ∃ W, W1.setCell ⟨w.heap.size, 6, none⟩ (.int .i64 t.st) = W := ⟨_, rfl⟩
        have HS2 := Lib.hid (by have h := HS1.out.set6 t.st; rw [hW2] at h; exact h)
        have K2 := Lib.hid (K1.out.trans (show Kept (fun b => b = w.heap.size) W1 W2 from by rw [← hW2]; exact keep_set (O := fun b => b = w.heap.size) rfl))
        obtain ⟨u20, u21, u22, u23, u24, u25, u26⟩ := HS2.out.cell
        simp only at u20 u21 u22 u23 u24 u25 u26
        have f2 := HS2.out.free
        obtain ⟨_, _, _, _, e24, e25, e26⟩ := (HT.out.kept K2.out (by omega)).cell
        have HRF := Lib.hid (HR.out.kept K2.out (by omega))
        have HFIN := Lib.hid HS2.out
        have HFV := Lib.hid (show fillS s t = { s with pu := t.pu, st := t.st } from by
          unfold fillS orNeg
          rw [if_pos h0, if_neg h1, if_pos h2])
        obtain ⟨r0, r1, r2, r3, r4, r5, r6⟩ := HRF.out.cell
        have fr := HRF.out.free
        obtain ⟨WF, hWF, hF, hkF⟩ := HRF.out.store (fillS s t)
        have HF := Lib.hid hF
        have HBW := Lib.hid (show Below w.heap.size w W2 from Kept.below HB.out K2.out HB.out.size (fun j hj e => by omega))
        have HBF := Lib.hid (show Below w.heap.size w WF from Kept.below HBW.out (hkF (fun b => b = w.heap.size + 1 + 1) rfl) HBW.out.size (fun j hj e => by omega))
        rw [HFV.out] at hWF
        simp only at hWF
        have t0 : decide (s.pu < 0) = true := by simpa using h0
        have t1 : decide (s.po < 0) = false := by simpa using h1
        have t2 : decide (s.st < 0) = true := by simpa using h2
        clear h0 h1 h2 hF hkF
        go_wp2_with fail
        have q := HF.out.cell
        exact bodyPost_ret (v := smV (fillS s t)) (by simp [results, Tryz.results57, go_sem, q, smV]) rfl (by exact ⟨rfl, HBF.out⟩)
      · obtain ⟨c0, c1, c2, c3, c4, c5, c6⟩ := HS.out.cell
        have f0 := HS.out.free
        clear c0 c1 c2 c3
        obtain ⟨W1, hW1⟩ : ∃ W, V2.setCell ⟨w.heap.size, 4, none⟩ (.int .i64 t.pu) = W := ⟨_, rfl⟩
        have HS1 := Lib.hid (by have h := HS.out.set4 t.pu; rw [hW1] at h; exact h)
        have K1 := Lib.hid ((show Kept (fun b => b = w.heap.size) V2 W1 from by rw [← hW1]; exact keep_set (O := fun b => b = w.heap.size) rfl))
        obtain ⟨u10, u11, u12, u13, u14, u15, u16⟩ := HS1.out.cell
        simp only at u10 u11 u12 u13 u14 u15 u16
        have f1 := HS1.out.free
        obtain ⟨_, _, _, _, e14, e15, e16⟩ := (HT.out.kept K1.out (by omega)).cell
        have HRF := Lib.hid (HR.out.kept K1.out (by omega))
        have HFIN := Lib.hid HS1.out
        have HFV := Lib.hid (show fillS s t = { s with pu := t.pu } from by
          unfold fillS orNeg
          rw [if_pos h0, if_neg h1, if_neg h2])
        obtain ⟨r0, r1, r2, r3, r4, r5, r6⟩ := HRF.out.cell
        have fr := HRF.out.free
        obtain ⟨WF, hWF, hF, hkF⟩ := HRF.out.store (fillS s t)
        have HF := Lib.hid hF
        have HBW := Lib.hid (show Below w.heap.size w W1 from Kept.below HB.out K1.out HB.out.size (fun j hj e => by omega))
        have HBF := Lib.hid (show Below w.heap.size w WF from Kept.below HBW.out (hkF (fun b => b = w.heap.size + 1 + 1) rfl) HBW.out.size (fun j hj e => by omega))
        rw [HFV.out] at hWF
        simp only at hWF
        have t0 : decide (s.pu < 0) = true := by simpa using h0
        have t1 : decide (s.po < 0) = false := by simpa using h1
        have t2 : decide (s.st < 0) = false := by simpa using h2
        clear h0 h1 h2 hF hkF
        go_wp2_with fail
        have q := HF.out.cell
        exact bodyPost_ret (v := smV (fillS s t)) (by simp [results, Tryz.results57, go_sem, q, smV]) rfl (by exact ⟨rfl, HBF.out⟩)
  · by_cases h1 : s.po < 0
    · by_cases h2 : s.st < 0
      · obtain ⟨c0, c1, c2, c3, c4, c5, c6⟩ := HS.out.cell
        have f0 := HS.out.free
        clear c0 c1 c2 c3
        obtain ⟨W1, hW1⟩ : ∃ W, V2.setCell ⟨w.heap.size, 5, none⟩ (.int .i64 t.po) = W := ⟨_, rfl⟩
        have HS1 := Lib.hid (by have h := HS.out.set5 t.po; rw [hW1] at h; exact h)
        have K1 := Lib.hid ((show Kept (fun b => b = w.heap.size) V2 W1 from by rw [← hW1]; exact keep_set (O := fun b => b = w.heap.size) rfl))
        obtain ⟨u10, u11, u12, u13, u14, u15, u16⟩ := HS1.out.cell
        simp only at u10 u11 u12 u13 u14 u15 u16
        have f1 := HS1.out.free
        obtain ⟨_, _, _, _, e14, e15, e16⟩ := (HT.out.kept K1.out (by omega)).cell
        obtain ⟨W2, hW2⟩ : ∃ W, W1.setCell ⟨w.heap.size, 6, none⟩ (.int .i64 t.st) = W := ⟨_, rfl⟩
        have HS2 := Lib.hid (by have h := HS1.out.set6 t.st; rw [hW2] at h; exact h)
        have K2 := Lib.hid (K1.out.trans (show Kept (fun b => b = w.heap.size) W1 W2 from by rw [← hW2]; exact keep_set (O := fun b => b = w.heap.size) rfl))
        obtain ⟨u20, u21, u22, u23, u24, u25, u26⟩ := HS2.out.cell
        simp only at u20 u21 u22 u23 u24 u25 u26
        have f2 := HS2.out.free
        obtain ⟨_, _, _, _, e24, e25, e26⟩ := (HT.out.kept K2.out (by omega)).cell
        have HRF := Lib.hid (HR.out.kept K2.out (by omega))
        have HFIN := Lib.hid HS2.out
        have HFV := Lib.hid (show fillS s t = { s with po := t.po, st := t.st } from by
          unfold fillS orNeg
          rw [if_neg h0, if_pos h1, if_pos h2])
        obtain ⟨r0, r1, r2, r3, r4, r5, r6⟩ := HRF.out.cell
        have fr := HRF.out.free
        obtain ⟨WF, hWF, hF, hkF⟩ := HRF.out.store (fillS s t)
        have HF := Lib.hid hF
        have HBW := Lib.hid (show Below w.heap.size w W2 from Kept.below HB.out K2.out HB.out.size (fun j hj e => by omega))
        have HBF := Lib.hid (show Below w.heap.size w WF from Kept.below HBW.out (hkF (fun b => b = w.heap.size + 1 + 1) rfl) HBW.out.size (fun j hj e => by omega))
        rw [HFV.out] at hWF
        simp only at hWF
        have t0 : decide (s.pu < 0) = false := by simpa using h0
        have t1 : decide (s.po < 0) = true := by simpa using h1
        have t2 : decide (s.st < 0) = true := by simpa using h2
        clear h0 h1 h2 hF hkF
        go_wp2_with fail
        have q := HF.out.cell
        exact bodyPost_ret (v := smV (fillS s t)) (by simp [results, Tryz.results57, go_sem, q, smV]) rfl (by exact ⟨rfl, HBF.out⟩)
      · obtain ⟨c0, c1, c2, c3, c4, c5, c6⟩ := HS.out.cell
        have f0 := HS.out.free
        clear c0 c1 c2 c3
        obtain ⟨W1, hW1⟩ : ∃ W, V2.setCell ⟨w.heap.size, 5, none⟩ (.int .i64 t.po) = W := ⟨_, rfl⟩
        have HS1 := Lib.hid (by have h := HS.out.set5 t.po; rw [hW1] at h; exact h)
        have K1 := Lib.hid ((show Kept (fun b => b = w.heap.size) V2 W1 from by rw [← hW1]; exact keep_set (O := fun b => b = w.heap.size) rfl))
        obtain ⟨u10, u11, u12, u13, u14, u15, u16⟩ := HS1.out.cell
        simp only at u10 u11 u12 u13 u14 u15 u16
        have f1 := HS1.out.free
        obtain ⟨_, _, _, _, e14, e15, e16⟩ := (HT.out.kept K1.out (by omega)).cell
        have HRF := Lib.hid (HR.out.kept K1.out (by omega))
        have HFIN := Lib.hid HS1.out
        have HFV := Lib.hid (show fillS s t = { s with po := t.po } from by
          unfold fillS orNeg
          rw [if_neg h0, if_pos h1, if_neg h2])
        obtain ⟨r0, r1, r2, r3, r4, r5, r6⟩ := HRF.out.cell
        have fr := HRF.out.free
        obtain ⟨WF, hWF, hF, hkF⟩ := HRF.out.store (fillS s t)
        have HF := Lib.hid hF
        have HBW := Lib.hid (show Below w.heap.size w W1 from Kept.below HB.out K1.out HB.out.size (fun j hj e => by omega))
        have HBF := Lib.hid (show Below w.heap.size w WF from Kept.below HBW.out (hkF (fun b => b = w.heap.size + 1 + 1) rfl) HBW.out.size (fun j hj e => by omega))
        rw [HFV.out] at hWF
        simp only at hWF
        have t0 : decide (s.pu < 0) = false := by simpa using h0
        have t1 : decide (s.po < 0) = true := by simpa using h1
        have t2 : decide (s.st < 0) = false := by simpa using h2
        clear h0 h1 h2 hF hkF
        go_wp2_with fail
        have q := HF.out.cell
        exact bodyPost_ret (v := smV (fillS s t)) (by simp [results, Tryz.results57, go_sem, q, smV]) rfl (by exact ⟨rfl, HBF.out⟩)
    · by_cases h2 : s.st < 0
      · obtain ⟨c0, c1, c2, c3, c4, c5, c6⟩ := HS.out.cell
        have f0 := HS.out.free
        clear c0 c1 c2 c3
        obtain ⟨W1, hW1⟩ : ∃ W, V2.setCell ⟨w.heap.size, 6, none⟩ (.int .i64 t.st) = W := ⟨_, rfl⟩
        have HS1 := Lib.hid (by have h := HS.out.set6 t.st; rw [hW1] at h; exact h)
        have K1 := Lib.hid ((show Kept (fun b => b = w.heap.size) V2 W1 from by rw [← hW1]; exact keep_set (O := fun b => b = w.heap.size) rfl))
        obtain ⟨u10, u11, u12, u13, u14, u15, u16⟩ := HS1.out.cell
        simp only at u10 u11 u12 u13 u14 u15 u16
        have f1 := HS1.out.free
        obtain ⟨_, _, _, _, e14, e15, e16⟩ := (HT.out.kept K1.out (by omega)).cell
        have HRF := Lib.hid (HR.out.kept K1.out (by omega))
        have HFIN := Lib.hid HS1.out
        have HFV := Lib.hid (show fillS s t = { s with st := t.st } from by
          unfold fillS orNeg
          rw [if_neg h0, if_neg h1, if_pos h2])
        obtain ⟨r0, r1, r2, r3, r4, r5, r6⟩ := HRF.out.cell
        have fr := HRF.out.free
        obtain ⟨WF, hWF, hF, hkF⟩ := HRF.out.store (fillS s t)
        have HF := Lib.hid hF
        have HBW := Lib.hid (show Below w.heap.size w W1 from Kept.below HB.out K1.out HB.out.size (fun j hj e => by omega))
        have HBF := Lib.hid (show Below w.heap.size w WF from Kept.below HBW.out (hkF (fun b => b = w.heap.size + 1 + 1) rfl) HBW.out.size (fun j hj e => by omega))
        rw [HFV.out] at hWF
        simp only at hWF
        have t0 : decide (s.pu < 0) = false := by simpa using h0
        have t1 : decide (s.po < 0) = false := by simpa using h1
        have t2 : decide (s.st < 0) = true := by simpa using h2
        clear h0 h1 h2 hF hkF
        go_wp2_with fail
        have q := HF.out.cell
        exact bodyPost_ret (v := smV (fillS s t)) (by simp [results, Tryz.results57, go_sem, q, smV]) rfl (by exact ⟨rfl, HBF.out⟩)
      · obtain ⟨c0, c1, c2, c3, c4, c5, c6⟩ := HS.out.cell
        have f0 := HS.out.free
        clear c0 c1 c2 c3
        have HRF := HR
        obtain ⟨u00, u01, u02, u03, _, _, _⟩ := HS.out.cell
        have HFIN := Lib.hid HS.out
        have HFV := Lib.hid (show fillS s t = s from by
          unfold fillS orNeg
          rw [if_neg h0, if_neg h1, if_neg h2])
        obtain ⟨r0, r1, r2, r3, r4, r5, r6⟩ := HRF.out.cell
        have fr := HRF.out.free
        obtain ⟨WF, hWF, hF, hkF⟩ := HRF.out.store (fillS s t)
        have HF := Lib.hid hF
        have HBW := Lib.hid (show Below w.heap.size w V2 from HB.out)
        have HBF := Lib.hid (show Below w.heap.size w WF from Kept.below HBW.out (hkF (fun b => b = w.heap.size + 1 + 1) rfl) HBW.out.size (fun j hj e => by omega))
        rw [HFV.out] at hWF
        have t0 : decide (s.pu < 0) = false := by simpa using h0
        have t1 : decide (s.po < 0) = false := by simpa using h1
        have t2 : decide (s.st < 0) = false := by simpa using h2
        clear h0 h1 h2 hF hkF
        go_wp2_with fail
        have q := HF.out.cell
        exact bodyPost_ret (v := smV (fillS s t)) (by simp [results, Tryz.results57, go_sem, q, smV]) rfl (by exact ⟨rfl, HBF.out⟩)
end Go.Proofs.YtjnfccphodjfiaaGreat

/- copied of the reference; rows appended to rows. -/
namespace Go.Proofs.YtjnfccphodjfiaaGreat
open Go.RowKit Go.BigFrame
open Tr (inR)

theorem append_Sms {ops : Array Oper} {rest : List Oper} {o : Oper} {a : Act} {Q : Exit → Act → World → Prop} {w : World} (hgd : o.guard = none) (s x : Operand)
    (ho : o.op = .call { callee := .builtin .append, args := #[s, x], argTypes := #[22, 22] }) {base : Nat} {v : Value} {l : List Sm} (hs : a.eval s = v) (hown : Own smC 7 72 w base v l)
    {ad : Option Addr} {m : List Sm} {n k : Nat} (hx : a.eval x = .slice ad n k) (hm : m.length = n) (hr : Rw smC 7 w ad m) (hn : l.length + n ≤ 1000000) (hb : base ≤ w.heap.size)
    (h : ∀ v' w', Own smC 7 72 w' base v' (l ++ m) → w.grownBy w' v.ownBlock → wpList Tryz.prog ops Q rest (a.put o.dst v') w') : wpList Tryz.prog ops Q (o :: rest) a w := by
  obtain ⟨i0, hi0, hy0, hy1, hy2⟩ := info_parts infoSm.out
  rcases Nat.eq_zero_or_pos n with h0 | h0
  · subst h0
    have hm0 : m = [] := List.length_eq_zero_iff.1 hm
    subst hm0
    obtain ⟨av, cv, rfl, hlc, _, _⟩ := hown.row smEl
    refine Lib.wpList_append_run _ hgd s x _ _ ho _ _ hs hx _ _ (append_noneT underSm.out hi0 _ av l.length cv hlc ad k w) (h _ _ ?_ (grown_self _ _))
    rw [List.append_nil]
    exact hown
  · obtain ⟨b, off, rfl, _, _⟩ := hr.here (by omega)
    refine wpList_append_own w hgd s x 22 ho base 72 i0 (.agg #[.int .i64 0, .int .i64 0, .int .i64 0, .int .i64 0, .int .i64 0, .int .i64 0, .int .i64 0]) 7 56 underSm.out hi0 hy0 hy1 hy2 rfl (by decide) v l.length (l.flatMap smC) hs hown ⟨b, off, none⟩ n k (m.flatMap smC) hx (by rw [smEl.flat, hm]) (hr.flat smEl) (smEl.ones m) (by unfold maxLen; omega) (by omega) hb ?_
    intro v' w' h1 h2 _
    refine h v' w' ?_ h2
    unfold Own
    rw [List.length_append, List.flatMap_append, hm]
    exact h1
theorem append_Lps {ops : Array Oper} {rest : List Oper} {o : Oper} {a : Act} {Q : Exit → Act → World → Prop} {w : World} (hgd : o.guard = none) (s x : Operand)
    (ho : o.op = .call { callee := .builtin .append, args := #[s, x], argTypes := #[23, 23] }) {base : Nat} {v : Value} {l : List Lp} (hs : a.eval s = v) (hown : Own lpC 3 75 w base v l)
    {ad : Option Addr} {m : List Lp} {n k : Nat} (hx : a.eval x = .slice ad n k) (hm : m.length = n) (hr : Rw lpC 3 w ad m) (hn : l.length + n ≤ 1000000) (hb : base ≤ w.heap.size)
    (h : ∀ v' w', Own lpC 3 75 w' base v' (l ++ m) → w.grownBy w' v.ownBlock → wpList Tryz.prog ops Q rest (a.put o.dst v') w') : wpList Tryz.prog ops Q (o :: rest) a w := by
  obtain ⟨i0, hi0, hy0, hy1, hy2⟩ := info_parts infoLp.out
  rcases Nat.eq_zero_or_pos n with h0 | h0
  · subst h0
    have hm0 : m = [] := List.length_eq_zero_iff.1 hm
    subst hm0
    obtain ⟨av, cv, rfl, hlc, _, _⟩ := hown.row lpEl
    refine Lib.wpList_append_run _ hgd s x _ _ ho _ _ hs hx _ _ (append_noneT underLp.out hi0 _ av l.length cv hlc ad k w) (h _ _ ?_ (grown_self _ _))
    rw [List.append_nil]
    exact hown
  · obtain ⟨b, off, rfl, _, _⟩ := hr.here (by omega)
    refine wpList_append_own w hgd s x 23 ho base 75 i0 (.agg #[.int .i64 0, .int .i64 0, .string ⟨#[]⟩]) 3 32 underLp.out hi0 hy0 hy1 hy2 rfl (by decide) v l.length (l.flatMap lpC) hs hown ⟨b, off, none⟩ n k (m.flatMap lpC) hx (by rw [lpEl.flat, hm]) (hr.flat lpEl) (lpEl.ones m) (by unfold maxLen; omega) (by omega) hb ?_
    intro v' w' h1 h2 _
    refine h v' w' ?_ h2
    unfold Own
    rw [List.length_append, List.flatMap_append, hm]
    exact h1
set_option maxHeartbeats 8000000 in
set_option maxRecDepth 100000 in
theorem rcopied_any (A : Acv) (a b c : Option Addr) (ca cb cc : Nat) (w : World) (h : ActIn w A a b c) (h1 : A.sm.length ≤ 20000) (h2 : A.lp.length ≤ 1000) (h3 : A.tg.length ≤ 1000) :
    Calls Tryz.prog 48 #[actV A a b c ca cb cc] w fun e w' => CloneRet A w e w' := by
  unfold CloneRet actV
  obtain ⟨V0, hV0, hb0, hs0, ha0⟩ := alloc_ac w A.name A.sport A.start (.slice a A.sm.length ca) (.slice b A.lp.length cb) (.slice c A.tg.length cc)
  obtain ⟨V1, hV1, hb1, hs1, ha1⟩ := alloc_ac V0 ⟨#[]⟩ 0 0 (.slice none 0 0) (.slice none 0 0) (.slice none 0 0)
  rw [hs0] at ha1
  have HB := Lib.hid (below_step hb0 hb1)
  have HS := Lib.hid (show V1.heap.size = w.heap.size + 2 from by omega)
  have HA0 := Lib.hid (ha0.below hb1)
  have HA1 := Lib.hid ha1
  have HIN := Lib.hid (h.below HB.out)
  obtain ⟨g0, g1, g2, g3, g4, g5⟩ := (ha0.below hb1).cell
  have HIW := Lib.hid h
  clear h hb0 hb1 ha0 ha1 hs1 g0 g1 g2
  obtain ⟨ns, hns⟩ : ∃ n, A.sm.length = n := ⟨_, rfl⟩
  obtain ⟨nl, hnl⟩ : ∃ n, A.lp.length = n := ⟨_, rfl⟩
  obtain ⟨nt, hnt⟩ : ∃ n, A.tg.length = n := ⟨_, rfl⟩
  have HNS := Lib.hid hns
  have HNL := Lib.hid hnl
  have HNT := Lib.hid hnt
  rw [hns] at h1 hV0 g3 HA0 ⊢
  rw [hnl] at h2 hV0 g4 HA0 ⊢
  rw [hnt] at h3 hV0 g5 HA0 ⊢
  clear hns hnl hnt
  go_enter Tryz.func48, Tryz.ntmps48
  go_upto_region 1 with (fail)
  clear hV0 hV1
  go_upto_region 2 with (at_builtin; refine append_Sms (l := []) (base := V1.heap.size) rfl _ _ rfl rfl (Own.nil _ _ _ _ _) rfl HNS.out HIN.out.sm (by show 0 + ns ≤ _; omega) (Nat.le_refl _) (fun v1 w1 ho1 hg1 => ?_); have hb1 : Below V1.heap.size V1 w1 := Kept.below (O := fun _ => False) (Below.refl _ _) (Kept.of_grown hg1 (fun g e _ => by cases e)) (Nat.le_refl _) (fun k hk e => e.elim); rw [List.nil_append] at ho1; have HO1 := Lib.hid ho1; obtain ⟨a1, c1, rfl, _, _, _⟩ := ho1.row smEl; rw [HNS.out]; have hA1 := HA0.out.below hb1; have j1 := hA1.cell.2.2.2.1; have f1 := hA1.free 3; have hB1 := hA1.set3 (.slice a1 ns c1); obtain ⟨W1, hW1⟩ : ∃ W, w1.setCell ⟨w.heap.size, 3, none⟩ (.slice a1 ns c1) = W := ⟨_, rfl⟩; rw [hW1] at hB1; have HAC1 := Lib.hid hB1; have HBL1 := Lib.hid hb1; have HK1 := Lib.hid (show Kept (fun b => b = w.heap.size) w1 W1 from by rw [← hW1]; exact keep_set (O := fun b => b = w.heap.size) rfl); obtain ⟨x10, x11, x12, x13, x14, x15⟩ := hB1.cell; clear hA1 hB1 hg1 ho1 hb1)
  have HE1 := Lib.hid (show Below w.heap.size w W1 from Kept.below (O := fun b => b = w.heap.size) (below_step HB.out HBL1.out) HK1.out (below_step HB.out HBL1.out).size (fun k hk e => by omega))
  have hbx := HAC1.out.lt
  clear g3 g4 g5
  go_upto_region 3 with (at_builtin; refine append_Lps (l := []) (base := W1.heap.size) rfl _ _ rfl rfl (Own.nil _ _ _ _ _) rfl HNL.out (HIW.out.lp.below HE1.out) (by show 0 + nl ≤ _; omega) (Nat.le_refl _) (fun v2 w2 ho2 hg2 => ?_); have hb2 : Below W1.heap.size W1 w2 := Kept.below (O := fun _ => False) (Below.refl _ _) (Kept.of_grown hg2 (fun g e _ => by cases e)) (Nat.le_refl _) (fun k hk e => e.elim); rw [List.nil_append] at ho2; have HO2 := Lib.hid ho2; obtain ⟨a2, c2, rfl, _, _, _⟩ := ho2.row lpEl; rw [HNL.out]; have hA2 := HAC1.out.below hb2; have j2 := hA2.cell.2.2.2.2.1; have f2 := hA2.free 4; have hB2 := hA2.set4 (.slice a2 nl c2); obtain ⟨W2, hW2⟩ : ∃ W, w2.setCell ⟨w.heap.size, 4, none⟩ (.slice a2 nl c2) = W := ⟨_, rfl⟩; rw [hW2] at hB2; have HAC2 := Lib.hid hB2; have HBL2 := Lib.hid hb2; have HK2 := Lib.hid (show Kept (fun b => b = w.heap.size) w2 W2 from by rw [← hW2]; exact keep_set (O := fun b => b = w.heap.size) rfl); obtain ⟨x20, x21, x22, x23, x24, x25⟩ := hB2.cell; clear hA2 hB2 hg2 ho2 hb2)
  have HE2 := Lib.hid (show Below w.heap.size w W2 from Kept.below (O := fun b => b = w.heap.size) (below_step HE1.out HBL2.out) HK2.out (below_step HE1.out HBL2.out).size (fun k hk e => by omega))
  clear x10 x11 x12 x13 x15
  go_upto_region 4 with (at_builtin; refine append_Tgs (l := []) (base := W2.heap.size) rfl _ _ rfl rfl (Own.nil _ _ _ _ _) rfl HNT.out (HIW.out.tg.below HE2.out) (by show 0 + nt ≤ _; omega) (Nat.le_refl _) (fun v3 w3 ho3 hg3 => ?_); have hb3 : Below W2.heap.size W2 w3 := Kept.below (O := fun _ => False) (Below.refl _ _) (Kept.of_grown hg3 (fun g e _ => by cases e)) (Nat.le_refl _) (fun k hk e => e.elim); rw [List.nil_append] at ho3; have HO3 := Lib.hid ho3; obtain ⟨a3, c3, rfl, _, _, _⟩ := ho3.row tgEl; rw [HNT.out]; have hA3 := HAC2.out.below hb3; have j3 := hA3.cell.2.2.2.2.2; have f3 := hA3.free 5; have hB3 := hA3.set5 (.slice a3 nt c3); obtain ⟨W3, hW3⟩ : ∃ W, w3.setCell ⟨w.heap.size, 5, none⟩ (.slice a3 nt c3) = W := ⟨_, rfl⟩; rw [hW3] at hB3; have HAC3 := Lib.hid hB3; have HBL3 := Lib.hid hb3; have HK3 := Lib.hid (show Kept (fun b => b = w.heap.size) w3 W3 from by rw [← hW3]; exact keep_set (O := fun b => b = w.heap.size) rfl); obtain ⟨x30, x31, x32, x33, x34, x35⟩ := hB3.cell; clear hA3 hB3 hg3 ho3 hb3)
  have HE3 := Lib.hid (show Below w.heap.size w W3 from Kept.below (O := fun b => b = w.heap.size) (below_step HE2.out HBL3.out) HK3.out (below_step HE2.out HBL3.out).size (fun k hk e => by omega))
  have HR3 := Lib.hid (((((((HA1.out.below HBL1.out).kept HK1.out (by omega)).below HBL2.out).kept HK2.out (by omega)).below HBL3.out).kept HK3.out (by omega)))
  obtain ⟨r0, r1, r2, r3, r4, r5⟩ := HR3.out.cell
  have fr := HR3.out.free
  obtain ⟨WF, hWF, haF, hkF⟩ := HR3.out.store A.name A.sport A.start (.slice a1 ns c1) (.slice a2 nl c2) (.slice a3 nt c3)
  have HAF := Lib.hid haF
  have hlt3 := HR3.out.lt
  have HBF := Lib.hid (show Below w.heap.size w WF from Kept.below HE3.out (hkF (fun b => b = w.heap.size + 1) rfl) HE3.out.size (fun k hk e => by omega))
  have hkWF : Kept (fun b => b = w.heap.size + 1) W3 WF := hkF (fun b => b = w.heap.size + 1) rfl
  have HOF := Lib.hid (show Own3 WF w.heap.size A (.slice a1 ns c1) (.slice a2 nl c2) (.slice a3 nt c3) from by
    have h1 := HO1.out
    have h2 := HO2.out
    have h3 := HO3.out
    rw [HNS.out] at h1
    rw [HNL.out] at h2
    rw [HNT.out] at h3
    have s1 := HB.out.size
    have s2 := HS.out
    have s3 := HBL1.out.size
    have s4 := HK1.out.size
    have s5 := HBL2.out.size
    have s6 := HK2.out.size
    have s7 := HBL3.out.size
    refine ⟨W1.heap.size, W2.heap.size, by omega, by omega, ?_, fun b e => ?_, ?_, fun b e => ?_, ?_⟩
    · have hb : ∀ g, (Value.slice a1 ns c1).ownBlock = some g → g ≠ w.heap.size ∧ g ≠ w.heap.size + 1 := fun g e => by
        have := (h1.lt g e).1
        omega
      have k1 := h1.keepO HK1.out (fun g e h => (hb g e).1 h)
      have k2 := (k1.below HBL2.out).keepO HK2.out (fun g e h => (hb g e).1 h)
      have k3 := (k2.below HBL3.out).keepO HK3.out (fun g e h => (hb g e).1 h)
      exact (k3.keepO hkWF (fun g e h => (hb g e).2 h)).weaken (by omega)
    · have := (h1.lt b e).2
      omega
    · have hb : ∀ g, (Value.slice a2 nl c2).ownBlock = some g → g ≠ w.heap.size ∧ g ≠ w.heap.size + 1 := fun g e => by
        have := (h2.lt g e).1
        omega
      have k2 := h2.keepO HK2.out (fun g e h => (hb g e).1 h)
      have k3 := (k2.below HBL3.out).keepO HK3.out (fun g e h => (hb g e).1 h)
      exact k3.keepO hkWF (fun g e h => (hb g e).2 h)
    · have := (h2.lt b e).2
      omega
    · have hb : ∀ g, (Value.slice a3 nt c3).ownBlock = some g → g ≠ w.heap.size ∧ g ≠ w.heap.size + 1 := fun g e => by
        have := (h3.lt g e).1
        omega
      have k3 := h3.keepO HK3.out (fun g e h => (hb g e).1 h)
      exact k3.keepO hkWF (fun g e h => (hb g e).2 h))
  clear haF hkF hkWF
  go_wp2_with fail
  have q := HAF.out.cell
  exact bodyPost_ret (v := .agg #[.string A.name, .int .i64 A.sport, .int .i64 A.start, .slice a1 ns c1, .slice a2 nl c2, .slice a3 nt c3]) (by simp [results, Tryz.results48, go_sem, q]) rfl (by exact ⟨⟨a1, a2, a3, c1, c2, c3, rfl, HOF.out⟩, HBF.out⟩)
end Go.Proofs.YtjnfccphodjfiaaGreat

/- Tags of the reference. -/
namespace Go.Proofs.YtjnfccphodjfiaaGreat
open Go.RowKit Go.BigFrame
open Tr (inR)

theorem Rw.tail {α : Type} {C : α → List Value} {k : Nat} {w : World} {b o : Nat} {x : α} {l : List α} (h : Rw C k w (some ⟨b, o, none⟩) (x :: l)) : Rw C k w (some ⟨b, o + k, none⟩) l :=
  ⟨fun _ => by
    obtain ⟨b', o', e, hb, hc⟩ := h.here (by simp)
    injection e with e
    injection e with e1 e2
    subst e1 e2
    exact ⟨b, o + k, rfl, hb, fun i y hy j v hv => by
      have := hc (i + 1) y (by simpa using hy) j v hv
      rw [Nat.succ_mul] at this
      rw [show o + k + i * k + j = o + (i * k + k) + j by omega]
      exact this⟩⟩
theorem Rw.head {α : Type} {C : α → List Value} {k : Nat} {w : World} {a : Option Addr} {x : α} {l : List α} (h : Rw C k w a (x :: l)) : ∃ b o, a = some ⟨b, o, none⟩ ∧ b < w.heap.size ∧ ∀ j v, (C x)[j]? = some v → w.cell? ⟨b, o + j, none⟩ = some v := by
  obtain ⟨b, o, e, hb, hc⟩ := h.here (by simp)
  exact ⟨b, o, e, hb, fun j v hv => by have := hc 0 x rfl j v hv; rw [Nat.zero_mul, Nat.add_zero] at this; exact this⟩
theorem Rw.step {α : Type} {C : α → List Value} {k : Nat} {w : World} {b o cx : Nat} {x : α} {l : List α} (h : Rw C k w (some ⟨b, o, none⟩) (x :: l)) (hc : l.length + 1 ≤ cx) : Rw C k w (if cx = 1 then some ⟨b, o, none⟩ else some ⟨b, o + k, none⟩) l := by
  by_cases e : cx = 1
  · rw [if_pos e]
    have : l = [] := List.length_eq_zero_iff.1 (by omega)
    subst this
    exact ⟨fun h => absurd h (by simp)⟩
  · rw [if_neg e]
    exact h.tail
theorem one_row (s : ByteArray) (g : Nat) (w : World) (hg : g < w.heap.size) (h : w.cell? ⟨g, 0, none⟩ = some (.string s)) : Rw tgC 1 w (some ⟨g, 0, none⟩) [s] :=
  ⟨fun _ => ⟨g, 0, rfl, hg, fun i y hy j v hv => by
    match i, hy with
    | 0, hy =>
      injection hy with hy
      subst hy
      match j, hv with
      | 0, hv => injection hv with hv; subst hv; exact h
      | n + 1, hv => cases hv
    | n + 1, hy => cases hy⟩⟩
def lenV : Value → Nat
  | .slice _ n _ => n
  | _ => 0
set_option maxHeartbeats 16000000 in
set_option maxRecDepth 100000 in
theorem rTags_any (as_ bs : List ByteArray) (a b : Option Addr) (ca cb : Nat) (w : World) (ha : Rw tgC 1 w a as_) (hb : Rw tgC 1 w b bs) (h1 : as_.length ≤ 1000) (h2 : bs.length ≤ 1000) (h3 : as_.length ≤ ca) (h4 : bs.length ≤ cb) :
    Calls Tryz.prog 56 #[.slice a as_.length ca, .slice b bs.length cb] w fun e w' => ∃ v, e = .returned v ∧ Own tgC 1 9 w' w.heap.size v (mergeT as_ bs) ∧ Below w.heap.size w w' := by
  obtain ⟨R, hR⟩ : ∃ R, mergeT as_ bs = R := ⟨_, rfl⟩
  rw [hR]
  have HR := Lib.hid hR
  have HA := Lib.hid ha
  have HB := Lib.hid hb
  clear hR ha hb
  go_enter Tryz.func56, Tryz.ntmps56
  go_wp2_with fail
  go_loopw [0, 1, 5] (fun xv yv ov wr => ∃ (xs ys O : List ByteArray) (ax ay : Option Addr) (cx cy : Nat), xv = .slice ax xs.length cx ∧ yv = .slice ay ys.length cy ∧ xs.length ≤ cx ∧ ys.length ≤ cy ∧ O.length + xs.length + ys.length ≤ 2000 ∧ Hid (Rw tgC 1 w ax xs) ∧ Hid (Rw tgC 1 w ay ys) ∧ Hid (Own tgC 1 9 wr w.heap.size ov O) ∧ Hid (O ++ mergeT xs ys = R) ∧ ∃ X : Ext w, wr = X.1) (fun xv yv _ _ => lenV xv + lenV yv)
  case atStart => exact ⟨as_, bs, [], a, b, ca, cb, rfl, rfl, h3, h4, by simp; omega, HA, HB, Lib.hid (Own.nil _ _ _ _ _), Lib.hid (by rw [List.nil_append]; exact HR.out), ⟨w, Below.refl _ _⟩, rfl⟩
  case round =>
    clear HR HA HB h1 h2 h3 h4
    obtain ⟨xs, ys, O, ax, ay, cx, cy, rfl, rfl, hcx, hcy, hlen, HX, HY, HO, HE, X, rfl⟩ := hrel
    match xs, ys with
    | [], [] =>
      have hown := HO.out
      have he := HE.out
      rw [mergeT, List.append_nil] at he
      subst he
      have HO2 := Lib.hid hown
      obtain ⟨av, cv, rfl, _, _, _⟩ := hown.row tgEl
      clear hown HE HO
      simp only [List.length_nil] at *
      go_wp2_with fail
      go_ret
      exact ⟨_, rfl, HO2.out, X.2⟩
    | x :: xs, [] =>
      obtain ⟨gx, ox, rfl, hbx, hcx0⟩ := (HX.out).head
      have x0 : ∀ Z : Ext X.1, Z.1.cell? ⟨gx, ox, none⟩ = some (.string x) := Ext.ex (below_cell X.2 (hcx0 0 _ rfl))
      have HE2 := Lib.hid (show (O ++ [x]) ++ mergeT xs [] = R from by
        have he := HE.out
        rw [mergeT] at he
        rw [List.append_assoc]
        exact he)
      obtain ⟨nx, hnx⟩ : ∃ n, xs.length = n := ⟨_, rfl⟩
      rw [List.length_cons, hnx] at hcx hlen ⊢
      have HNx := Lib.hid hnx
      have px1 : decide ((0 : Int) < ((nx + 1 : Nat) : Int)) = true := by rw [decide_eq_true_eq]; omega
      have px2 : decide ((0 : Int) < (nx : Int) + 1) = true := by rw [decide_eq_true_eq]; omega
      have px3 : (((nx + 1 : Nat) : Int) == 0) = false := by simp; omega
      have px4 : (((nx : Int) + 1) == 0) = false := by simp; omega
      have HTx := Lib.hid (show Rw tgC 1 w (if cx = 1 then some ⟨gx, ox, none⟩ else some ⟨gx, ox + 1, none⟩) xs from HX.out.step (by omega))
      rw [List.length_nil] at hcy hlen ⊢
      have hol : O.length ≤ 2000 := by omega
      clear hcx0 hbx HX HE hnx
      go_wp2_with fail
      refine wp_region_ext (W := X.1) ⟨X.1, Below.refl _ _⟩ (by kernel_rfl) (by kernel_rfl) ?_
      repeat go_big_quiet_step (fail)
      refine wpQuiet_nil ?_
      rintro _ ⟨Y, rfl⟩
      obtain ⟨V7, hV7, hb7, hs7, hl7⟩ := alloc_cells Y.1 #[.string x] 9
      have HR7 := Lib.hid (one_row x Y.1.heap.size V7 (by omega) (hl7 0 _ rfl))
      have HO7 := Lib.hid ((HO.out.below Y.2).below hb7)
      have H7 := Lib.hid (below_step (below_step X.2 Y.2) hb7)
      clear hb7 hs7 hl7 HO
      go_wp2_with (at_builtin; refine append_Tgs rfl _ _ rfl rfl HO7.out rfl (m := [x]) rfl HR7.out (by omega) H7.out.size (fun v8 w8 ho8 hg8 => ?_))
      have HO8 := Lib.hid ho8
      have H8 := Lib.hid (Kept.below (O := fun b => w.heap.size ≤ b) H7.out (Kept.of_grown hg8 (fun g e _ => (HO7.out.lt g e).1)) H7.out.size (fun k hk e => by omega))
      clear ho8 hg8 hV7
      exact ⟨⟨xs, [], O ++ [x], _, ay, cx - 1, cy, by rw [HNx.out], rfl, by rw [HNx.out]; omega, hcy, by rw [HNx.out, List.length_append]; show O.length + 1 + nx + 0 ≤ _; omega, HTx, HY, HO8, HE2, ⟨w8, H8.out⟩, rfl⟩, by show nx + 0 < nx + 1 + 0; omega⟩
    | [], y :: ys =>
      obtain ⟨gy, oy, rfl, hby, hcy0⟩ := (HY.out).head
      have y0 : ∀ Z : Ext X.1, Z.1.cell? ⟨gy, oy, none⟩ = some (.string y) := Ext.ex (below_cell X.2 (hcy0 0 _ rfl))
      have HE2 := Lib.hid (show (O ++ [y]) ++ mergeT [] ys = R from by
        have he := HE.out
        rw [mergeT] at he
        rw [List.append_assoc]
        exact he)
      obtain ⟨ny, hny⟩ : ∃ n, ys.length = n := ⟨_, rfl⟩
      rw [List.length_cons, hny] at hcy hlen ⊢
      have HNy := Lib.hid hny
      have py1 : decide ((0 : Int) < ((ny + 1 : Nat) : Int)) = true := by rw [decide_eq_true_eq]; omega
      have py2 : decide ((0 : Int) < (ny : Int) + 1) = true := by rw [decide_eq_true_eq]; omega
      have py3 : (((ny + 1 : Nat) : Int) == 0) = false := by simp; omega
      have py4 : (((ny : Int) + 1) == 0) = false := by simp; omega
      have HTy := Lib.hid (show Rw tgC 1 w (if cy = 1 then some ⟨gy, oy, none⟩ else some ⟨gy, oy + 1, none⟩) ys from HY.out.step (by omega))
      rw [List.length_nil] at hcx hlen ⊢
      have hol : O.length ≤ 2000 := by omega
      clear hcy0 hby HY HE hny
      go_wp2_with fail
      refine wp_region_ext (W := X.1) ⟨X.1, Below.refl _ _⟩ (by kernel_rfl) (by kernel_rfl) ?_
      repeat go_big_quiet_step (fail)
      refine wpQuiet_nil ?_
      rintro _ ⟨Y, rfl⟩
      go_wp2_with fail
      refine wp_region_ext (W := X.1) Y (by kernel_rfl) (by kernel_rfl) ?_
      repeat go_big_quiet_step (fail)
      refine wpQuiet_nil ?_
      rintro _ ⟨Y2, rfl⟩
      obtain ⟨V7, hV7, hb7, hs7, hl7⟩ := alloc_cells Y2.1 #[.string y] 9
      have HR7 := Lib.hid (one_row y Y2.1.heap.size V7 (by omega) (hl7 0 _ rfl))
      have HO7 := Lib.hid ((HO.out.below Y2.2).below hb7)
      have H7 := Lib.hid (below_step (below_step X.2 Y2.2) hb7)
      clear hb7 hs7 hl7 HO
      go_wp2_with (at_builtin; refine append_Tgs rfl _ _ rfl rfl HO7.out rfl (m := [y]) rfl HR7.out (by omega) H7.out.size (fun v8 w8 ho8 hg8 => ?_))
      have HO8 := Lib.hid ho8
      have H8 := Lib.hid (Kept.below (O := fun b => w.heap.size ≤ b) H7.out (Kept.of_grown hg8 (fun g e _ => (HO7.out.lt g e).1)) H7.out.size (fun k hk e => by omega))
      clear ho8 hg8 hV7
      exact ⟨⟨[], ys, O ++ [y], ax, _, cx, cy - 1, rfl, by rw [HNy.out], hcx, by rw [HNy.out]; omega, by rw [HNy.out, List.length_append]; show O.length + 1 + 0 + ny ≤ _; omega, HX, HTy, HO8, HE2, ⟨w8, H8.out⟩, rfl⟩, by show 0 + ny < 0 + (ny + 1); omega⟩
    | x :: xs, y :: ys =>
      obtain ⟨gx, ox, rfl, hbx, hcx0⟩ := (HX.out).head
      have x0 : ∀ Z : Ext X.1, Z.1.cell? ⟨gx, ox, none⟩ = some (.string x) := Ext.ex (below_cell X.2 (hcx0 0 _ rfl))
      obtain ⟨gy, oy, rfl, hby, hcy0⟩ := (HY.out).head
      have y0 : ∀ Z : Ext X.1, Z.1.cell? ⟨gy, oy, none⟩ = some (.string y) := Ext.ex (below_cell X.2 (hcy0 0 _ rfl))
      have he := HE.out
      rw [mergeT] at he
      clear HE
      obtain ⟨nx, hnx⟩ : ∃ n, xs.length = n := ⟨_, rfl⟩
      rw [List.length_cons, hnx] at hcx hlen ⊢
      have HNx := Lib.hid hnx
      have px1 : decide ((0 : Int) < ((nx + 1 : Nat) : Int)) = true := by rw [decide_eq_true_eq]; omega
      have px2 : decide ((0 : Int) < (nx : Int) + 1) = true := by rw [decide_eq_true_eq]; omega
      have px3 : (((nx + 1 : Nat) : Int) == 0) = false := by simp; omega
      have px4 : (((nx : Int) + 1) == 0) = false := by simp; omega
      have HTx := Lib.hid (show Rw tgC 1 w (if cx = 1 then some ⟨gx, ox, none⟩ else some ⟨gx, ox + 1, none⟩) xs from HX.out.step (by omega))
      obtain ⟨ny, hny⟩ : ∃ n, ys.length = n := ⟨_, rfl⟩
      rw [List.length_cons, hny] at hcy hlen ⊢
      have HNy := Lib.hid hny
      have py1 : decide ((0 : Int) < ((ny + 1 : Nat) : Int)) = true := by rw [decide_eq_true_eq]; omega
      have py2 : decide ((0 : Int) < (ny : Int) + 1) = true := by rw [decide_eq_true_eq]; omega
      have py3 : (((ny + 1 : Nat) : Int) == 0) = false := by simp; omega
      have py4 : (((ny : Int) + 1) == 0) = false := by simp; omega
      have HTy := Lib.hid (show Rw tgC 1 w (if cy = 1 then some ⟨gy, oy, none⟩ else some ⟨gy, oy + 1, none⟩) ys from HY.out.step (by omega))
      have hol : O.length ≤ 2000 := by omega
      have HXA := Lib.hid HX.out
      have HYA := Lib.hid HY.out
      clear hcx0 hbx HX hcy0 hby HY
      by_cases hlt : Op.bytesLess (bL x) (bL y) = true
      · have HE2 := Lib.hid (show (O ++ [x]) ++ mergeT xs (y :: ys) = R from by
          rw [if_pos hlt] at he
          rw [List.append_assoc]
          exact he)
        have q1 : Op.bytesLess x.toList y.toList = true := by rw [ByteArray.toList_eq, ByteArray.toList_eq]; exact hlt
        clear he hlt hnx hny
        go_wp2_with fail
        refine wp_region_ext (W := X.1) ⟨X.1, Below.refl _ _⟩ (by kernel_rfl) (by kernel_rfl) ?_
        repeat go_big_quiet_step (fail)
        refine wpQuiet_nil ?_
        rintro _ ⟨Y, rfl⟩
        obtain ⟨V7, hV7, hb7, hs7, hl7⟩ := alloc_cells Y.1 #[.string x] 9
        have HR7 := Lib.hid (one_row x Y.1.heap.size V7 (by omega) (hl7 0 _ rfl))
        have HO7 := Lib.hid ((HO.out.below Y.2).below hb7)
        have H7 := Lib.hid (below_step (below_step X.2 Y.2) hb7)
        clear hb7 hs7 hl7 HO
        go_wp2_with (at_builtin; refine append_Tgs rfl _ _ rfl rfl HO7.out rfl (m := [x]) rfl HR7.out (by omega) H7.out.size (fun v8 w8 ho8 hg8 => ?_))
        have HO8 := Lib.hid ho8
        have H8 := Lib.hid (Kept.below (O := fun b => w.heap.size ≤ b) H7.out (Kept.of_grown hg8 (fun g e _ => (HO7.out.lt g e).1)) H7.out.size (fun k hk e => by omega))
        clear ho8 hg8 hV7
        exact ⟨⟨xs, y :: ys, O ++ [x], _, _, cx - 1, cy, by rw [HNx.out], by rw [List.length_cons, HNy.out], by rw [HNx.out]; omega, by rw [List.length_cons, HNy.out]; omega, by rw [List.length_cons, HNx.out, HNy.out, List.length_append]; show O.length + 1 + nx + (ny + 1) ≤ _; omega, HTx, HYA, HO8, HE2, ⟨w8, H8.out⟩, rfl⟩, by show nx + (ny + 1) < nx + 1 + (ny + 1); omega⟩
      · have q1 : Op.bytesLess x.toList y.toList = false := by
          rw [ByteArray.toList_eq, ByteArray.toList_eq]
          cases h : Op.bytesLess x.data.toList y.data.toList with
          | false => rfl
          | true => exact absurd h hlt
        rw [if_neg hlt] at he
        by_cases heq : x = y
        · have HE2 := Lib.hid (show (O ++ [y]) ++ mergeT xs ys = R from by
            rw [if_pos heq] at he
            rw [List.append_assoc]
            exact he)
          have q2 : (x.toList == y.toList) = true := by rw [heq]; simp
          clear he hlt heq hnx hny
          go_wp2_with fail
          refine wp_region_ext (W := X.1) ⟨X.1, Below.refl _ _⟩ (by kernel_rfl) (by kernel_rfl) ?_
          repeat go_big_quiet_step (fail)
          refine wpQuiet_nil ?_
          rintro _ ⟨Y, rfl⟩
          go_wp2_with fail
          refine wp_region_ext (W := X.1) Y (by kernel_rfl) (by kernel_rfl) ?_
          repeat go_big_quiet_step (fail)
          refine wpQuiet_nil ?_
          rintro _ ⟨Y2, rfl⟩
          obtain ⟨V7, hV7, hb7, hs7, hl7⟩ := alloc_cells Y2.1 #[.string y] 9
          have HR7 := Lib.hid (one_row y Y2.1.heap.size V7 (by omega) (hl7 0 _ rfl))
          have HO7 := Lib.hid ((HO.out.below Y2.2).below hb7)
          have H7 := Lib.hid (below_step (below_step X.2 Y2.2) hb7)
          clear hb7 hs7 hl7 HO
          go_wp2_with (at_builtin; refine append_Tgs rfl _ _ rfl rfl HO7.out rfl (m := [y]) rfl HR7.out (by omega) H7.out.size (fun v8 w8 ho8 hg8 => ?_))
          have HO8 := Lib.hid ho8
          have H8 := Lib.hid (Kept.below (O := fun b => w.heap.size ≤ b) H7.out (Kept.of_grown hg8 (fun g e _ => (HO7.out.lt g e).1)) H7.out.size (fun k hk e => by omega))
          clear ho8 hg8 hV7
          exact ⟨⟨xs, ys, O ++ [y], _, _, cx - 1, cy - 1, by rw [HNx.out], by rw [HNy.out], by rw [HNx.out]; omega, by rw [HNy.out]; omega, by rw [HNx.out, HNy.out, List.length_append]; show O.length + 1 + nx + ny ≤ _; omega, HTx, HTy, HO8, HE2, ⟨w8, H8.out⟩, rfl⟩, by show nx + ny < nx + 1 + (ny + 1); omega⟩
        · have HE2 := Lib.hid (show (O ++ [y]) ++ mergeT (x :: xs) ys = R from by
            rw [if_neg heq] at he
            rw [List.append_assoc]
            exact he)
          have q2 : (x.toList == y.toList) = false := by
            rw [ByteArray.toList_eq, ByteArray.toList_eq]
            exact beq_eq_false_iff_ne.2 (fun h => heq (bL_inj h))
          clear he hlt heq hnx hny
          go_wp2_with fail
          refine wp_region_ext (W := X.1) ⟨X.1, Below.refl _ _⟩ (by kernel_rfl) (by kernel_rfl) ?_
          repeat go_big_quiet_step (fail)
          refine wpQuiet_nil ?_
          rintro _ ⟨Y, rfl⟩
          go_wp2_with fail
          refine wp_region_ext (W := X.1) Y (by kernel_rfl) (by kernel_rfl) ?_
          repeat go_big_quiet_step (fail)
          refine wpQuiet_nil ?_
          rintro _ ⟨Y2, rfl⟩
          obtain ⟨V7, hV7, hb7, hs7, hl7⟩ := alloc_cells Y2.1 #[.string y] 9
          have HR7 := Lib.hid (one_row y Y2.1.heap.size V7 (by omega) (hl7 0 _ rfl))
          have HO7 := Lib.hid ((HO.out.below Y2.2).below hb7)
          have H7 := Lib.hid (below_step (below_step X.2 Y2.2) hb7)
          clear hb7 hs7 hl7 HO
          go_wp2_with (at_builtin; refine append_Tgs rfl _ _ rfl rfl HO7.out rfl (m := [y]) rfl HR7.out (by omega) H7.out.size (fun v8 w8 ho8 hg8 => ?_))
          have HO8 := Lib.hid ho8
          have H8 := Lib.hid (Kept.below (O := fun b => w.heap.size ≤ b) H7.out (Kept.of_grown hg8 (fun g e _ => (HO7.out.lt g e).1)) H7.out.size (fun k hk e => by omega))
          clear ho8 hg8 hV7
          exact ⟨⟨x :: xs, ys, O ++ [y], _, _, cx, cy - 1, by rw [List.length_cons, HNx.out], by rw [HNy.out], by rw [List.length_cons, HNx.out]; omega, by rw [HNy.out]; omega, by rw [List.length_cons, HNx.out, HNy.out, List.length_append]; show O.length + 1 + (nx + 1) + ny ≤ _; omega, HXA, HTy, HO8, HE2, ⟨w8, H8.out⟩, rfl⟩, by show nx + 1 + ny < nx + 1 + (ny + 1); omega⟩
end Go.Proofs.YtjnfccphodjfiaaGreat

/- Rows of samples, laps and tags that are one are equal; record.Same of an activity and the same one tells so. (printed by wip/t/gen_tnl.py) -/
namespace Go.Proofs.YtjnfccphodjfiaaGreat
open Go.RowKit Go.BigFrame

set_option maxHeartbeats 1000000 in
theorem eqSm_self (p : Sm) (w : World) : (Op.equalIn 10000 72 (.agg #[.int .i64 p.tm, .int .i64 p.x, .int .i64 p.y, .int .i64 p.z, .int .i64 p.pu, .int .i64 p.po, .int .i64 p.st]) (.agg #[.int .i64 p.tm, .int .i64 p.x, .int .i64 p.y, .int .i64 p.z, .int .i64 p.pu, .int .i64 p.po, .int .i64 p.st])).run Tryz.prog w = .ok true w := by
  have u3 := Tryz.underlying3
  have a3 := Tryz.isAgg3
  have z3 := Tryz.sizeOf3
  have hS : Tryz.prog.underlying 72 = some (.struct (Tryz.prog.fieldsOf 72)) := by kernel_rfl
  have hp : Tryz.prog.stoodInHeld 72 = false := by kernel_rfl
  obtain ⟨a, b, c, d, e, f, g⟩ := p
  simp only
  rw [show (10000 : Nat) = 9999 + 1 from rfl, run_equalIn_agg w 9999 72 _ _ hS hp]
  simp only [Program.fieldsOf, Tryz.underlying72]
  have h1 : (a == a) = true := by simp
  have h2 : (b == b) = true := by simp
  have h3 : (c == c) = true := by simp
  have h4 : (d == d) = true := by simp
  have h5 : (e == e) = true := by simp
  have h6 : (f == f) = true := by simp
  have h7 : (g == g) = true := by simp
  go_simp
set_option maxHeartbeats 4000000 in
set_option maxRecDepth 100000 in
theorem equalSm_self (l : List Sm) (a b : Option Addr) (c d : Nat) (w : World) (hr : Rw smC 7 w a l) (hq : Rw smC 7 w b l) (hl : l.length ≤ 1000000) :
    Calls Tryz.prog 44 #[.slice a l.length c, .slice b l.length d] w fun e w' => e = .returned (.bool true) ∧ ∃ q, w' = w.drewN q := by
  have HR := Lib.hid hr
  have HQ := Lib.hid hq
  have HLT := Lib.hid (fun (i : Nat) (h : i < l.length) => show ∃ x, l[i]? = some x from ⟨_, List.getElem?_eq_getElem h⟩)
  obtain ⟨nl, hnl⟩ : ∃ n, l.length = n := ⟨_, rfl⟩
  rw [hnl] at hl HLT ⊢
  have hneq : ((nl : Int) != (nl : Int)) = false := by simp
  clear hr hq hnl
  go_enter Tryz.func44, Tryz.ntmps44
  go_wp2_with fail
  go_loopw [13] (fun iv wr => ∃ (k : Nat), iv = .int .i64 k ∧ k ≤ nl ∧ (∃ q, wr = w.drewN q)) (fun iv _ => nl - (intOf iv).toNat)
  case atStart => exact ⟨0, rfl, by omega, ⟨0, rfl⟩⟩
  case round =>
    obtain ⟨k, rfl, hk, ⟨q, rfl⟩⟩ := hrel
    by_cases hlt : k < nl
    · have t1 : decide ((k : Int) < (nl : Int)) = true := by rw [decide_eq_true_eq]; omega
      have t1' : decide (k < nl) = true := by simpa using hlt
      obtain ⟨x, hx⟩ := HLT.out k hlt
      obtain ⟨b1, o1, rfl, hb1, e⟩ := HR.out.at hx
      obtain ⟨b2, o2, rfl, hb2, f⟩ := HQ.out.at hx
      have e0 : w.cell? ⟨b1, o1 + k * 7, none⟩ = some (.int .i64 x.tm) := e 0 _ rfl
      have e1 : w.cell? ⟨b1, o1 + k * 7 + 1, none⟩ = some (.int .i64 x.x) := e 1 _ rfl
      have e2 : w.cell? ⟨b1, o1 + k * 7 + 2, none⟩ = some (.int .i64 x.y) := e 2 _ rfl
      have e3 : w.cell? ⟨b1, o1 + k * 7 + 3, none⟩ = some (.int .i64 x.z) := e 3 _ rfl
      have e4 : w.cell? ⟨b1, o1 + k * 7 + 4, none⟩ = some (.int .i64 x.pu) := e 4 _ rfl
      have e5 : w.cell? ⟨b1, o1 + k * 7 + 5, none⟩ = some (.int .i64 x.po) := e 5 _ rfl
      have e6 : w.cell? ⟨b1, o1 + k * 7 + 6, none⟩ = some (.int .i64 x.st) := e 6 _ rfl
      have f0 : w.cell? ⟨b2, o2 + k * 7, none⟩ = some (.int .i64 x.tm) := f 0 _ rfl
      have f1 : w.cell? ⟨b2, o2 + k * 7 + 1, none⟩ = some (.int .i64 x.x) := f 1 _ rfl
      have f2 : w.cell? ⟨b2, o2 + k * 7 + 2, none⟩ = some (.int .i64 x.y) := f 2 _ rfl
      have f3 : w.cell? ⟨b2, o2 + k * 7 + 3, none⟩ = some (.int .i64 x.z) := f 3 _ rfl
      have f4 : w.cell? ⟨b2, o2 + k * 7 + 4, none⟩ = some (.int .i64 x.pu) := f 4 _ rfl
      have f5 : w.cell? ⟨b2, o2 + k * 7 + 5, none⟩ = some (.int .i64 x.po) := f 5 _ rfl
      have f6 : w.cell? ⟨b2, o2 + k * 7 + 6, none⟩ = some (.int .i64 x.st) := f 6 _ rfl
      have hgd : Tryz.prog.eqGuardType Tryz.prog.depth 72 = false := by kernel_rfl
      have hq := fun W => eqSm_self x W
      clear hx e f
      go_wp2_with fail
      go_quiet (fail)
      go_wp2_with fail
      go_roundw
      case rel => exact ⟨k + 1, by go_num, by omega, ⟨_, rfl⟩⟩
      case measure => simp [intOf]; omega
    · have t1 : decide ((k : Int) < (nl : Int)) = false := by rw [decide_eq_false_iff_not]; omega
      have t1' : decide (k < nl) = false := by simpa using hlt
      go_wp2_with fail
      go_ret
      exact ⟨rfl, _, rfl⟩
set_option maxHeartbeats 1000000 in
theorem eqLp_self (p : Lp) (w : World) : (Op.equalIn 10000 75 (.agg #[.int .i64 p.f, .int .i64 p.t, .string p.s]) (.agg #[.int .i64 p.f, .int .i64 p.t, .string p.s])).run Tryz.prog w = .ok true w := by
  have u3 := Tryz.underlying3
  have a3 := Tryz.isAgg3
  have z3 := Tryz.sizeOf3
  have u9 := Tryz.underlying9
  have a9 := Tryz.isAgg9
  have z9 := Tryz.sizeOf9
  have hS : Tryz.prog.underlying 75 = some (.struct (Tryz.prog.fieldsOf 75)) := by kernel_rfl
  have hp : Tryz.prog.stoodInHeld 75 = false := by kernel_rfl
  obtain ⟨a, b, c⟩ := p
  simp only
  rw [show (10000 : Nat) = 9999 + 1 from rfl, run_equalIn_agg w 9999 75 _ _ hS hp]
  simp only [Program.fieldsOf, Tryz.underlying75]
  have h1 : (a == a) = true := by simp
  have h2 : (b == b) = true := by simp
  have h3 : (c.toList == c.toList) = true := by simp
  go_simp
set_option maxHeartbeats 4000000 in
set_option maxRecDepth 100000 in
theorem equalLp_self (l : List Lp) (a b : Option Addr) (c d : Nat) (w : World) (hr : Rw lpC 3 w a l) (hq : Rw lpC 3 w b l) (hl : l.length ≤ 1000000) :
    Calls Tryz.prog 45 #[.slice a l.length c, .slice b l.length d] w fun e w' => e = .returned (.bool true) ∧ ∃ q, w' = w.drewN q := by
  have HR := Lib.hid hr
  have HQ := Lib.hid hq
  have HLT := Lib.hid (fun (i : Nat) (h : i < l.length) => show ∃ x, l[i]? = some x from ⟨_, List.getElem?_eq_getElem h⟩)
  obtain ⟨nl, hnl⟩ : ∃ n, l.length = n := ⟨_, rfl⟩
  rw [hnl] at hl HLT ⊢
  have hneq : ((nl : Int) != (nl : Int)) = false := by simp
  clear hr hq hnl
  go_enter Tryz.func45, Tryz.ntmps45
  go_wp2_with fail
  go_loopw [13] (fun iv wr => ∃ (k : Nat), iv = .int .i64 k ∧ k ≤ nl ∧ (∃ q, wr = w.drewN q)) (fun iv _ => nl - (intOf iv).toNat)
  case atStart => exact ⟨0, rfl, by omega, ⟨0, rfl⟩⟩
  case round =>
    obtain ⟨k, rfl, hk, ⟨q, rfl⟩⟩ := hrel
    by_cases hlt : k < nl
    · have t1 : decide ((k : Int) < (nl : Int)) = true := by rw [decide_eq_true_eq]; omega
      have t1' : decide (k < nl) = true := by simpa using hlt
      obtain ⟨x, hx⟩ := HLT.out k hlt
      obtain ⟨b1, o1, rfl, hb1, e⟩ := HR.out.at hx
      obtain ⟨b2, o2, rfl, hb2, f⟩ := HQ.out.at hx
      have e0 : w.cell? ⟨b1, o1 + k * 3, none⟩ = some (.int .i64 x.f) := e 0 _ rfl
      have e1 : w.cell? ⟨b1, o1 + k * 3 + 1, none⟩ = some (.int .i64 x.t) := e 1 _ rfl
      have e2 : w.cell? ⟨b1, o1 + k * 3 + 2, none⟩ = some (.string x.s) := e 2 _ rfl
      have f0 : w.cell? ⟨b2, o2 + k * 3, none⟩ = some (.int .i64 x.f) := f 0 _ rfl
      have f1 : w.cell? ⟨b2, o2 + k * 3 + 1, none⟩ = some (.int .i64 x.t) := f 1 _ rfl
      have f2 : w.cell? ⟨b2, o2 + k * 3 + 2, none⟩ = some (.string x.s) := f 2 _ rfl
      have hgd : Tryz.prog.eqGuardType Tryz.prog.depth 75 = false := by kernel_rfl
      have hq := fun W => eqLp_self x W
      clear hx e f
      go_wp2_with fail
      go_quiet (fail)
      go_wp2_with fail
      go_roundw
      case rel => exact ⟨k + 1, by go_num, by omega, ⟨_, rfl⟩⟩
      case measure => simp [intOf]; omega
    · have t1 : decide ((k : Int) < (nl : Int)) = false := by rw [decide_eq_false_iff_not]; omega
      have t1' : decide (k < nl) = false := by simpa using hlt
      go_wp2_with fail
      go_ret
      exact ⟨rfl, _, rfl⟩
set_option maxHeartbeats 4000000 in
set_option maxRecDepth 100000 in
theorem equalTg_self (l : List ByteArray) (a b : Option Addr) (c d : Nat) (w : World) (hr : Rw tgC 1 w a l) (hq : Rw tgC 1 w b l) (hl : l.length ≤ 1000000) :
    Calls Tryz.prog 46 #[.slice a l.length c, .slice b l.length d] w fun e w' => e = .returned (.bool true) ∧ ∃ q, w' = w.drewN q := by
  have HR := Lib.hid hr
  have HQ := Lib.hid hq
  have HLT := Lib.hid (fun (i : Nat) (h : i < l.length) => show ∃ x, l[i]? = some x from ⟨_, List.getElem?_eq_getElem h⟩)
  obtain ⟨nl, hnl⟩ : ∃ n, l.length = n := ⟨_, rfl⟩
  rw [hnl] at hl HLT ⊢
  have hneq : ((nl : Int) != (nl : Int)) = false := by simp
  clear hr hq hnl
  go_enter Tryz.func46, Tryz.ntmps46
  go_wp2_with fail
  go_loopw [13] (fun iv wr => ∃ (k : Nat), iv = .int .i64 k ∧ k ≤ nl ∧ (∃ q, wr = w.drewN q)) (fun iv _ => nl - (intOf iv).toNat)
  case atStart => exact ⟨0, rfl, by omega, ⟨0, rfl⟩⟩
  case round =>
    obtain ⟨k, rfl, hk, ⟨q, rfl⟩⟩ := hrel
    by_cases hlt : k < nl
    · have t1 : decide ((k : Int) < (nl : Int)) = true := by rw [decide_eq_true_eq]; omega
      have t1' : decide (k < nl) = true := by simpa using hlt
      obtain ⟨x, hx⟩ := HLT.out k hlt
      obtain ⟨b1, o1, rfl, hb1, e⟩ := HR.out.at hx
      obtain ⟨b2, o2, rfl, hb2, f⟩ := HQ.out.at hx
      have e0 : w.cell? ⟨b1, o1 + k, none⟩ = some (.string x) := by have h := e 0 _ rfl; simpa using h
      have f0 : w.cell? ⟨b2, o2 + k, none⟩ = some (.string x) := by have h := f 0 _ rfl; simpa using h
      have s1 : (x.toList == x.toList) = true := by simp
      have s2 : (x.toList != x.toList) = false := by simp
      clear hx e f
      go_wp2_with fail
      go_quiet (fail)
      go_wp2_with fail
      go_roundw
      case rel => exact ⟨k + 1, by go_num, by omega, ⟨_, rfl⟩⟩
      case measure => simp [intOf]; omega
    · have t1 : decide ((k : Int) < (nl : Int)) = false := by rw [decide_eq_false_iff_not]; omega
      have t1' : decide (k < nl) = false := by simpa using hlt
      go_wp2_with fail
      go_ret
      exact ⟨rfl, _, rfl⟩

/-! ### record.Same of an activity and the same one -/
set_option maxHeartbeats 4000000 in
set_option maxRecDepth 100000 in
theorem same_self (Z : Acv) (a b c a' b' c' : Option Addr) (ca cb cc ca' cb' cc' : Nat) (w : World) (h1 : Rw smC 7 w a Z.sm) (h2 : Rw lpC 3 w b Z.lp) (h3 : Rw tgC 1 w c Z.tg) (k1 : Rw smC 7 w a' Z.sm) (k2 : Rw lpC 3 w b' Z.lp) (k3 : Rw tgC 1 w c' Z.tg) (n1 : Z.sm.length ≤ 1000000) (n2 : Z.lp.length ≤ 1000000) (n3 : Z.tg.length ≤ 1000000) :
    Calls Tryz.prog 11 #[actV Z a b c ca cb cc, actV Z a' b' c' ca' cb' cc'] w fun e w' => e = .returned (.bool true) ∧ Below w.heap.size w w' := by
  obtain ⟨V0, hV0, hb0, hs0, ha0⟩ := alloc_ac w Z.name Z.sport Z.start (.slice a Z.sm.length ca) (.slice b Z.lp.length cb) (.slice c Z.tg.length cc)
  obtain ⟨V1, hV1, hb1, hs1, ha1⟩ := alloc_ac V0 Z.name Z.sport Z.start (.slice a' Z.sm.length ca') (.slice b' Z.lp.length cb') (.slice c' Z.tg.length cc')
  rw [hs0] at ha1
  have HB := Lib.hid (below_step hb0 hb1)
  have DS := Lib.hid (fun X : Ext V1 => X.calls ((equalSm_self Z.sm a a' ca ca' X.1 ((h1.below HB.out).below X.2) ((k1.below HB.out).below X.2) n1).mono fun _ _ h => ⟨h.1, by obtain ⟨_, q, rfl⟩ := h; exact (Below.refl _ _).trans ⟨rfl, rfl, rfl, Nat.le_refl _, fun _ _ => rfl⟩⟩))
  have DL := Lib.hid (fun X : Ext V1 => X.calls ((equalLp_self Z.lp b b' cb cb' X.1 ((h2.below HB.out).below X.2) ((k2.below HB.out).below X.2) n2).mono fun _ _ h => ⟨h.1, by obtain ⟨_, q, rfl⟩ := h; exact (Below.refl _ _).trans ⟨rfl, rfl, rfl, Nat.le_refl _, fun _ _ => rfl⟩⟩))
  have DT := Lib.hid (fun X : Ext V1 => X.calls ((equalTg_self Z.tg c c' cc cc' X.1 ((h3.below HB.out).below X.2) ((k3.below HB.out).below X.2) n3).mono fun _ _ h => ⟨h.1, by obtain ⟨_, q, rfl⟩ := h; exact (Below.refl _ _).trans ⟨rfl, rfl, rfl, Nat.le_refl _, fun _ _ => rfl⟩⟩))
  obtain ⟨z0, z1, z2, z3, z4, z5⟩ := (ha0.below hb1).cell
  obtain ⟨y0, y1, y2, y3, y4, y5⟩ := ha1.cell
  have A0 := Ext.ex z0
  have A1 := Ext.ex z1
  have A2 := Ext.ex z2
  have A3 := Ext.ex z3
  have A4 := Ext.ex z4
  have A5 := Ext.ex z5
  have B0 := Ext.ex y0
  have B1 := Ext.ex y1
  have B2 := Ext.ex y2
  have B3 := Ext.ex y3
  have B4 := Ext.ex y4
  have B5 := Ext.ex y5
  have s1 : (Z.name.toList == Z.name.toList) = true := by simp
  have s3 : (Z.sport == Z.sport) = true := by simp
  have s4 : (Z.start == Z.start) = true := by simp
  unfold actV
  clear h1 h2 h3 k1 k2 k3 hb0 hb1 hs1 ha0 ha1 z0 z1 z2 z3 z4 z5 y0 y1 y2 y3 y4 y5 n1 n2 n3
  go_enter Tryz.func11, Tryz.ntmps11
  go_upto_region 1 with (fail)
  clear hV0 hV1 hs0
  refine ext_wp (W := V1) fun X => ?_
  go_wp2_with fail
  refine (DS.out X).mono ?_
  rintro e _ ⟨rfl, Y1, rfl⟩
  go_wp2_with fail
  refine (DL.out Y1).mono ?_
  rintro e _ ⟨rfl, Y2, rfl⟩
  go_wp2_with fail
  refine (DT.out Y2).mono ?_
  rintro e _ ⟨rfl, Y, rfl⟩
  go_wp2_with fail
  go_ret
  exact ⟨rfl, below_step HB.out Y.2⟩
end Go.Proofs.YtjnfccphodjfiaaGreat
