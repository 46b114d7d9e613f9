/- Several texts of this claim in one. -/
import Derived.Test.YtjnfccphodjfiaaGreatMm6
import Derived.Test.YtjnfccphodjfiaaGreatMm5
import Derived.Test.YtjnfccphodjfiaaGreatMm3
import Derived.Test.YtjnfccphodjfiaaGreatMm2
import Derived.Test.YtjnfccphodjfiaaGreatRows
import Derived.ProofKit
import Derived.OpenShut
import Derived.Lib.SmallJoins
import Derived.Carry
import Derived.ChangeMaps5
/- trail.Merge where it fails; Merge whole. (first half as in Tmp) -/
namespace Go.Proofs.YtjnfccphodjfiaaGreat
open Go.RowKit Go.BigFrame
open Tr (inR)

/-- the error of Merge's arguments -/
def mgE (A B : Acv) (shift : Int) : Int := if chkA A ≠ 0 then chkA A else if chkA B ≠ 0 then chkA B else if A.sport ≠ B.sport then 7 else if inR shift (-86399999999) 86399999999 = true then 0 else 9
set_option maxHeartbeats 8000000 in
set_option maxRecDepth 100000 in
theorem mergeBad_any (A B : Acv) (a b c a' b' c' : Option Addr) (ca cb cc ca' cb' cc' : Nat) (shift : Int) (w : World) (hA : ActIn w A a b c) (hB : ActIn w B a' b' c') (hne : mgE A B shift ≠ 0) :
    Calls Tryz.prog 15 #[actV A a b c ca cb cc, actV B a' b' c' ca' cb' cc', .int .i64 shift] w fun e w' => e = .returned (.tuple #[ac0, .int .i64 (mgE A B shift)]) ∧ Below w.heap.size w w' := by
  obtain ⟨V0, hV0, hb0, hs0, ha0⟩ := alloc_ac w A.name A.sport A.start (.slice a A.sm.length ca) (.slice b A.lp.length cb) (.slice c A.tg.length cc)
  obtain ⟨V1, hV1, hb1, hs1, ha1⟩ := alloc_ac V0 B.name B.sport B.start (.slice a' B.sm.length ca') (.slice b' B.lp.length cb') (.slice c' B.tg.length cc')
  obtain ⟨V2, hV2, hb2, hs2, ha2⟩ := alloc_ac V1 ⟨#[]⟩ 0 0 (.slice none 0 0) (.slice none 0 0) (.slice none 0 0)
  rw [hs0] at ha1
  rw [hs1, hs0] at ha2
  have hs11 : V1.heap.size = w.heap.size + 1 + 1 := by rw [hs1, hs0]
  have hA0 := (ha0.below hb1).below hb2
  have hA1 := ha1.below hb2
  have HB := Lib.hid (below_step (below_step hb0 hb1) hb2)
  have HIA := Lib.hid (hA.below HB.out)
  have HIB := Lib.hid (hB.below HB.out)
  obtain ⟨eA, heA⟩ : ∃ e, chkA A = e := ⟨_, rfl⟩
  obtain ⟨eB, heB⟩ : ∃ e, chkA B = e := ⟨_, rfl⟩
  obtain ⟨er, her⟩ : ∃ x, mgE A B shift = x := ⟨_, rfl⟩
  rw [her] at hne ⊢
  unfold mgE at her
  rw [heA, heB] at her
  have HER := Lib.hid her
  clear her
  have HSZ := Lib.hid (show V2.heap.size = w.heap.size + 3 from by rw [hs2, hs1, hs0])
  have HA0 := Lib.hid hA0
  have HA1 := Lib.hid hA1
  have HA2 := Lib.hid ha2
  have DIN := Lib.hid (fun n lo hi W => tin_any n lo hi W)
  have DA := Lib.hid (fun X : Ext V2 => show Calls Tryz.prog 32 #[.agg #[.string A.name, .int .i64 A.sport, .int .i64 A.start, .slice a A.sm.length ca, .slice b A.lp.length cb, .slice c A.tg.length cc]] X.1 fun e w'' => e = .returned (.int .i64 eA) ∧ ∃ Y : Ext V2, w'' = Y.1 from by
    have h := check_any A a b c ca cb cc X.1 (HIA.out.below X.2)
    unfold ChkG actV at h
    rw [heA] at h
    exact X.calls h)
  have DB := Lib.hid (fun X : Ext V2 => show Calls Tryz.prog 32 #[.agg #[.string B.name, .int .i64 B.sport, .int .i64 B.start, .slice a' B.sm.length ca', .slice b' B.lp.length cb', .slice c' B.tg.length cc']] X.1 fun e w'' => e = .returned (.int .i64 eB) ∧ ∃ Y : Ext V2, w'' = Y.1 from by
    have h := check_any B a' b' c' ca' cb' cc' X.1 (HIB.out.below X.2)
    unfold ChkG actV at h
    rw [heB] at h
    exact X.calls h)
  obtain ⟨z0, z1, z2, z3, z4, z5⟩ := hA0.cell
  have A0 := Ext.ex z0
  have A1 := Ext.ex z1
  have A2 := Ext.ex z2
  have A3 := Ext.ex z3
  have A4 := Ext.ex z4
  have A5 := Ext.ex z5
  obtain ⟨y0, y1, y2, y3, y4, y5⟩ := hA1.cell
  have B0 := Ext.ex y0
  have B1 := Ext.ex y1
  have B2 := Ext.ex y2
  have B3 := Ext.ex y3
  have B4 := Ext.ex y4
  have B5 := Ext.ex y5
  have HV := Lib.hid (And.intro hV0 (And.intro hV1 hV2))
  clear hA hB heA heB hb0 hb1 hb2 ha0 ha1 ha2 hA0 hA1 hs1 hs2 z0 z1 z2 z3 z4 z5 y0 y1 y2 y3 y4 y5
  unfold actV
  go_enter Tryz.func15, Tryz.ntmps15
  go_upto_region 1 with (fail)
  clear hV0 hV1 hV2
  refine ext_wp (W := V2) fun X => ?_
  refine held_start (C := fun w' => ∃ Z : Ext V2, w' = Z.1) (by kernel_rfl) ?_
  obtain ⟨Z0, hZ0⟩ : ∃ Z : Ext V2, ({ X.1 with drawn := X.1.drawn + 1 } : World) = Z.1 := ⟨⟨{ X.1 with drawn := X.1.drawn + 1 }, below_step X.2 ⟨rfl, rfl, rfl, Nat.le_refl _, fun _ _ => rfl⟩⟩, rfl⟩
  rw [hZ0]
  clear hZ0
  refine held_quiet (by kernel_rfl) (fun _ _ d _ _ h => by cases d <;> exact h) ⟨Z0, rfl⟩ [0, 2] 5 _ _ (by kernel_rfl) ?_
  change wpQuiet _ _ _ _ (_ :: _ :: []) _
  repeat go_big_quiet_step (fail)
  refine wpQuiet_nil ?_
  refine held_do (i := 1) _ rfl (by kernel_rfl) rfl (fun K hK => ?_)
  go_simp
  refine (DA.out Z0).mono ?_
  rintro e w1 ⟨rfl, Z1, rfl⟩
  refine hK _ _ ⟨Z1, rfl⟩ ?_
  clear hK K
  try simp only [Act.put, List.setIfInBounds_toArray, List.set_cons_zero, List.set_cons_succ]
  refine held_do (i := 3) _ rfl (by kernel_rfl) rfl (fun K hK => ?_)
  go_simp
  refine (DB.out Z1).mono ?_
  rintro e w1 ⟨rfl, Z2, rfl⟩
  refine hK _ _ ⟨Z2, rfl⟩ ?_
  clear hK K
  try simp only [Act.put, List.setIfInBounds_toArray, List.set_cons_zero, List.set_cons_succ]
  refine held_do (i := 4) _ rfl (by kernel_rfl) rfl (fun K hK => ?_)
  go_simp
  obtain ⟨Wb, hWb, hwb1, hwb2, hwq⟩ := alloc_cells Z2.1 #[.int .i64 eA, .int .i64 eB] 29
  rw [hWb]
  obtain ⟨Z3, rfl⟩ : ∃ Z : Ext V2, Wb = Z.1 := ⟨⟨Wb, below_step Z2.2 hwb1⟩, rfl⟩
  have DO := Lib.hid (orE_any [eA, eB] Z2.1.heap.size 2 Z3.1 (by simp) (fun i v hv => hwq i _ (by
    match i, hv with
    | 0, h => injection h with h; subst h; rfl
    | 1, h => injection h with h; subst h; rfl
    | n + 2, h => simp at h)))
  rw [orL_two] at DO
  obtain ⟨eO, heO⟩ : ∃ e, (if eA ≠ 0 then eA else eB) = e := ⟨_, rfl⟩
  rw [heO] at DO
  refine hK _ _ ⟨Z3, rfl⟩ ?_
  clear hK K hWb hwb1 hwb2 hwq
  try simp only [Act.put, List.setIfInBounds_toArray, List.set_cons_zero, List.set_cons_succ]
  refine held_do (i := 5) _ rfl (by kernel_rfl) rfl (fun K hK => ?_)
  go_simp
  refine DO.out.mono ?_
  rintro e w1 ⟨rfl, rfl⟩
  refine hK _ _ ⟨Z3, rfl⟩ ?_
  clear hK K DO
  try simp only [Act.put, List.setIfInBounds_toArray, List.set_cons_zero, List.set_cons_succ]
  refine held_quiet (by kernel_rfl) (fun _ _ d _ _ h => by cases d <;> exact h) ⟨Z3, rfl⟩ [6] 0 _ _ (by kernel_rfl) ?_
  change wpQuiet _ _ _ _ (_ :: []) _
  repeat go_big_quiet_step (fail)
  refine wpQuiet_nil ?_
  refine wpAnyH_done (by kernel_rfl) ?_ _
  clear DA DB X Z0 Z1
  obtain ⟨WF, hWF, haF, hkF⟩ := (HA2.out.below Z3.2).store ⟨#[]⟩ 0 0 (.slice none 0 0) (.slice none 0 0) (.slice none 0 0)
  have HAF := Lib.hid haF
  have HBF := Lib.hid (show Below w.heap.size w WF from
    have h1 := below_step HB.out Z3.2
    Kept.below h1 (hkF (fun b => b = w.heap.size + 1 + 1) rfl) h1.size (fun k hk e => by omega))
  obtain ⟨r0, r1, r2, r3, r4, r5⟩ := (HA2.out.below Z3.2).cell
  have fr := (HA2.out.below Z3.2).free
  have hTsz : w.heap.size + 1 + 1 < Z3.1.heap.size := (HA2.out.below Z3.2).lt
  clear haF hkF
  by_cases hO : eO = 0
  case neg =>
    have u1 := bneT hO
    have HE := Lib.hid (show er = eO from by
      rw [← HER.out]
      by_cases h : eA = 0
      · have e1 : eB = eO := by rw [← heO, if_neg (by simpa using h)]
        rw [if_neg (show ¬ eA ≠ 0 by simpa using h), e1, if_pos hO]
      · have e1 : eA = eO := by rw [← heO, if_pos h]
        rw [if_pos h, e1])
    clear hO hne heO
    go_wp2_with fail
    have q := HAF.out.cell
    exact bodyPost_ret (v := .tuple #[ac0, .int .i64 eO]) (by simp [results, Tryz.results15, go_sem, q, ac0]) rfl (by rw [HE.out]; exact ⟨rfl, HBF.out⟩)
  have hA0 : eA = 0 := by
    by_cases h : eA = 0
    · exact h
    · rw [if_pos h] at heO
      exact absurd (heO.trans hO) h
  have hB0 : eB = 0 := by
    rw [if_neg (by simpa using hA0)] at heO
    exact heO.trans hO
  subst hA0 hB0 hO
  clear heO
  by_cases hsp : A.sport = B.sport
  case neg =>
    have u1 := bneT hsp
    have HE := Lib.hid (show er = 7 from by
      rw [← HER.out, if_neg (by simp), if_neg (by simp), if_pos hsp])
    clear hsp hne
    go_wp2_with fail
    have q := HAF.out.cell
    exact bodyPost_ret (v := .tuple #[ac0, .int .i64 7]) (by simp [results, Tryz.results15, go_sem, q, ac0]) rfl (by rw [HE.out]; exact ⟨rfl, HBF.out⟩)
  have u1 := bneF hsp
  have hir : inR shift (-86399999999) 86399999999 = false := by
    cases h : inR shift (-86399999999) 86399999999 with
    | false => rfl
    | true =>
      rw [← HER.out, if_neg (by simp), if_neg (by simp), if_neg (by simpa using hsp), h] at hne
      exact absurd rfl hne
  have HIR := Lib.hid hir
  have HE := Lib.hid (show er = 9 from by
    rw [← HER.out, if_neg (by simp), if_neg (by simp), if_neg (by simpa using hsp), hir]
    rfl)
  clear hsp hne hir
  go_wp2_with fail
  refine (DIN.out _ _ _ _).mono ?_
  rintro e _ ⟨rfl, rfl⟩
  rw [HIR.out]
  go_wp2_with fail
  have q := HAF.out.cell
  exact bodyPost_ret (v := .tuple #[ac0, .int .i64 9]) (by simp [results, Tryz.results15, go_sem, q, ac0]) rfl (by rw [HE.out]; exact ⟨rfl, HBF.out⟩)
/-- Merge: an error of its arguments; else as MergeRet says -/
theorem mgE_ok {A B : Acv} {shift : Int} (h : mgE A B shift = 0) : AcOk A ∧ AcOk B ∧ A.sport = B.sport ∧ -86399999999 ≤ shift ∧ shift ≤ 86399999999 := by
  unfold mgE at h
  by_cases h1 : chkA A = 0
  · rw [if_neg (by simpa using h1)] at h
    by_cases h2 : chkA B = 0
    · rw [if_neg (by simpa using h2)] at h
      by_cases h3 : A.sport = B.sport
      · rw [if_neg (by simpa using h3)] at h
        by_cases h4 : inR shift (-86399999999) 86399999999 = true
        · exact ⟨chkA_zero.1 h1, chkA_zero.1 h2, h3, inR_iff.1 h4⟩
        · rw [if_neg h4] at h
          omega
      · rw [if_pos h3] at h
        omega
    · rw [if_pos h2] at h
      exact absurd h h2
  · rw [if_pos h1] at h
    exact absurd h h1
theorem merge_any (A B : Acv) (a b c a' b' c' : Option Addr) (ca cb cc ca' cb' cc' : Nat) (shift : Int) (w : World) (hA : ActIn w A a b c) (hB : ActIn w B a' b' c') :
    Calls Tryz.prog 15 #[actV A a b c ca cb cc, actV B a' b' c' ca' cb' cc', .int .i64 shift] w fun e w' =>
      (mgE A B shift ≠ 0 ∧ e = .returned (.tuple #[ac0, .int .i64 (mgE A B shift)]) ∧ Below w.heap.size w w') ∨ (mgE A B shift = 0 ∧ MergeRet A B shift w e w') := by
  by_cases h : mgE A B shift = 0
  · obtain ⟨h1, h2, h3, h4, h5⟩ := mgE_ok h
    exact (mergeOk_any A B a b c a' b' c' ca cb cc ca' cb' cc' shift w hA hB h1 h2 h3 h4 h5).mono (fun e w' hr => Or.inr ⟨h, hr⟩)
  · exact (mergeBad_any A B a b c a' b' c' ca cb cc ca' cb' cc' shift w hA hB h).mono (fun e w' hr => Or.inl ⟨h, hr⟩)
end Go.Proofs.YtjnfccphodjfiaaGreat

/- What the reference's Merge makes is what the program's makes (plain); a sample appended at the operation. -/
namespace Go.Proofs.YtjnfccphodjfiaaGreat
open Go.RowKit Go.BigFrame
open Tr (inR)

theorem wp_append_Sm {o : Oper} {a : Act} {K : Act → World → Prop} {Q : Exit → Act → World → Prop} {w : World} (s x : Operand)
    (ho : o.op = .call { callee := .builtin .append, args := #[s, x], argTypes := #[22, 22] }) {base : Nat} {v : Value} {l : List Sm} (hs : a.eval s = v) (hown : Own smC 7 72 w base v l)
    {g : Nat} {p : Sm} (hx : a.eval x = .slice (some ⟨g, 0, none⟩) 1 1) (h0 : ∀ j u, (smC p)[j]? = some u → w.cell? ⟨g, j, none⟩ = some u) (hn : l.length ≤ 1000000) (hb : base ≤ w.heap.size)
    (h : ∀ g' c' w', Own smC 7 72 w' base (.slice (some ⟨g', 0, none⟩) (l.length + 1) c') (l ++ [p]) → w.grownBy w' v.ownBlock → (v.ownBlock = some g' ∨ g' = w.heap.size) → K (a.put o.dst (.slice (some ⟨g', 0, none⟩) (l.length + 1) c')) w') : o.wp Tryz.prog a w K Q := by
  obtain ⟨i0, hi0, hy0, hy1, hy2⟩ := info_parts infoSm.out
  refine wp_append_lies w s x 22 ho base 72 i0 (.agg #[.int .i64 0, .int .i64 0, .int .i64 0, .int .i64 0, .int .i64 0, .int .i64 0, .int .i64 0]) 7 56 underSm.out hi0 hy0 hy1 hy2 rfl (by decide) v l.length (l.flatMap smC) hs hown ⟨g, 0, none⟩ 1 1 (smC p) hx rfl (fun j u hu => ?_) (smEl.one p) (by decide) (by unfold maxLen; omega) (by omega) hb _ rfl ?_
  · rw [addr_plus, Nat.zero_add]
    exact h0 j u hu
  · intro g' c' w' k1 k2 k3 _
    refine h g' c' w' ?_ k2 k3
    unfold Own
    rw [List.length_append, List.flatMap_append, show ([p].flatMap smC) = smC p from List.append_nil _]
    exact k1
def subL (d : Int) (p : Lp) : Lp := ⟨p.f - d, p.t - d, p.s⟩
/-- the activity that the reference makes -/
def rmgZ (A : Acv) (L : List Sm) (T : List ByteArray) : Acv := match L[0]? with
  | some s => ⟨A.name, A.sport, A.start + s.tm, L.map (backS s.tm), A.lp.map (subL s.tm), T⟩
  | none => ⟨A.name, A.sport, A.start, L, A.lp, T⟩
theorem rmgZ_none {A : Acv} {T : List ByteArray} : rmgZ A [] T = ⟨A.name, A.sport, A.start, [], A.lp, T⟩ := rfl
theorem rmgZ_some {A : Acv} {L : List Sm} {T : List ByteArray} {s : Sm} (h : L[0]? = some s) : rmgZ A L T = ⟨A.name, A.sport, A.start + s.tm, L.map (backS s.tm), A.lp.map (subL s.tm), T⟩ := by
  unfold rmgZ
  rw [h]
theorem rmgZ_is (A : Acv) (L : List Sm) (T : List ByteArray) : rmgZ A (L.map (backS A.start)) T = mgZ A L T := by
  cases L with
  | nil =>
    unfold mgZ mgSt
    have e : addL (A.start - A.start) = id := by
      funext p
      unfold addL
      simp
    show (⟨A.name, A.sport, A.start, [], A.lp, T⟩ : Acv) = ⟨A.name, A.sport, A.start, [], A.lp.map (addL (A.start - A.start)), T⟩
    rw [e, List.map_id]
  | cons s l =>
    have e1 : (backS (s.tm - A.start)) ∘ (backS A.start) = backS s.tm := by
      funext u
      show backS (s.tm - A.start) (backS A.start u) = backS s.tm u
      unfold backS
      simp only [Sm.mk.injEq, and_true]
      omega
    have e2 : subL (s.tm - A.start) = addL (A.start - s.tm) := by
      funext p
      unfold subL addL
      simp only [Lp.mk.injEq, and_true]
      omega
    rw [rmgZ_some (s := backS A.start s) rfl]
    show (⟨A.name, A.sport, A.start + (s.tm - A.start), ((s :: l).map (backS A.start)).map (backS (s.tm - A.start)), A.lp.map (subL (s.tm - A.start)), T⟩ : Acv) = ⟨A.name, A.sport, s.tm, (s :: l).map (backS s.tm), A.lp.map (addL (A.start - s.tm)), T⟩
    rw [List.map_map, e1, e2, show A.start + (s.tm - A.start) = s.tm by omega]
def RMerge (A B : Acv) (shift : Int) (w : World) (e : Ending) (w' : World) : Prop :=
  ((20000 < (mergeR (byR A B shift) A.sm B.sm).length ∨ 20 < (mergeT A.tg B.tg).length) ∧ e = .returned (.tuple #[ac0, .int .i64 3]) ∧ Below w.heap.size w w') ∨
  (¬ (20000 < (mergeR (byR A B shift) A.sm B.sm).length ∨ 20 < (mergeT A.tg B.tg).length) ∧ ActRet (rmgZ A (mergeR (byR A B shift) A.sm B.sm) (mergeT A.tg B.tg)) w e w')
theorem ok_each {start : Int} {l : List Sm} (h : SmOk start l) : ∀ s, s ∈ l → 0 ≤ s.tm ∧ s.tm ≤ 1000000 := fun s hs => by
  obtain ⟨i, hi⟩ := List.getElem?_of_mem hs
  exact ⟨h.nonneg hi, (h.upto i s hi).1⟩
theorem byR_range {A B : Acv} {shift : Int} (oA : AcOk A) (oB : AcOk B) (h0 : -86399999999 ≤ shift) (h1 : shift ≤ 86399999999) : -172800000000 ≤ byR A B shift ∧ byR A B shift ≤ 172800000000 := by
  have := oA.start
  have := oB.start
  unfold byR
  omega
theorem mergeR_range {A B : Acv} {d : Int} (oA : AcOk A) (oB : AcOk B) (hd : -172800000000 ≤ d ∧ d ≤ 172800000000) : ∀ s, s ∈ mergeR d A.sm B.sm → -172800000000 ≤ s.tm ∧ s.tm ≤ 172801000000 := fun s hs => by
  rcases ((mergeR_mem d _ A.sm B.sm rfl (smok_sorted oA.sm) (smok_sorted oB.sm) s).1 hs).key with ⟨x, hx, e⟩ | ⟨y, hy, e⟩
  · have := ok_each oA.sm x hx
    omega
  · have := ok_each oB.sm y hy
    omega
theorem mergeT_tags {A B : Acv} {w w' : World} {a b c a' b' c' : Option Addr} (hA : ActIn w A a b c) (hB : ActIn w' B a' b' c') : ∀ s, s ∈ mergeT A.tg B.tg → s.size ≤ maxLen := fun s hs => by
  rcases (mergeT_mem _ A.tg B.tg rfl s).1 hs with h | h
  · exact hA.tags s h
  · exact hB.tags s h
theorem mergeT_len (xs ys : List ByteArray) : ∀ n, xs.length + ys.length = n → (mergeT xs ys).length ≤ n := by
  intro n
  induction n using Nat.strongRecOn generalizing xs ys with
  | ind n ih =>
    intro hn
    match xs, ys with
    | [], [] => rw [mergeT]; simp
    | x :: xs, [] =>
      have := ih (xs.length + 0) (by simp at hn; omega) xs [] rfl
      rw [mergeT]
      simp at hn ⊢
      omega
    | [], y :: ys =>
      have := ih (0 + ys.length) (by simp at hn; omega) [] ys (by simp)
      rw [mergeT]
      simp at hn ⊢
      omega
    | x :: xs, y :: ys =>
      simp only [List.length_cons] at hn
      rw [mergeT]
      by_cases h1 : Op.bytesLess (bL x) (bL y) = true
      · have := ih (xs.length + (y :: ys).length) (by simp; omega) xs (y :: ys) rfl
        rw [if_pos h1]
        simp at this ⊢
        omega
      · by_cases h2 : x = y
        · have := ih (xs.length + ys.length) (by omega) xs ys rfl
          rw [if_neg h1, if_pos h2]
          simp
          omega
        · have := ih ((x :: xs).length + ys.length) (by simp; omega) (x :: xs) ys rfl
          rw [if_neg h1, if_neg h2]
          simp at this ⊢
          omega
end Go.Proofs.YtjnfccphodjfiaaGreat

/- harrierref11.Merge: what it makes of two activities. (printed by wip/t/gen_tnq.py) -/
namespace Go.Proofs.YtjnfccphodjfiaaGreat
open Go.RowKit Go.BigFrame
open Tr (inR)

set_option maxHeartbeats 16000000 in
set_option maxRecDepth 100000 in
theorem rmergeBad_any (A B : Acv) (a b c a' b' c' : Option Addr) (ca cb cc ca' cb' cc' : Nat) (shift : Int) (w : World) (hA : ActIn w A a b c) (hB : ActIn w B a' b' c') (hne : mgE A B shift ≠ 0) :
    Calls Tryz.prog 16 #[actV A a b c ca cb cc, actV B a' b' c' ca' cb' cc', .int .i64 shift] w fun e w' => e = .returned (.tuple #[ac0, .int .i64 (mgE A B shift)]) ∧ Below w.heap.size w w' := by
  obtain ⟨V0, hV0, hb0, hs0, ha0⟩ := alloc_ac w A.name A.sport A.start (.slice a A.sm.length ca) (.slice b A.lp.length cb) (.slice c A.tg.length cc)
  obtain ⟨V1, hV1, hb1, hs1, ha1⟩ := alloc_ac V0 B.name B.sport B.start (.slice a' B.sm.length ca') (.slice b' B.lp.length cb') (.slice c' B.tg.length cc')
  obtain ⟨V2, hV2, hb2, hs2, ha2⟩ := alloc_ac V1 ⟨#[]⟩ 0 0 (.slice none 0 0) (.slice none 0 0) (.slice none 0 0)
  rw [hs0] at ha1
  rw [hs1, hs0] at ha2
  have hs11 : V1.heap.size = w.heap.size + 1 + 1 := by rw [hs1, hs0]
  have hA0 := (ha0.below hb1).below hb2
  have hA1 := ha1.below hb2
  have HB := Lib.hid (below_step (below_step hb0 hb1) hb2)
  have HIA := Lib.hid (hA.below HB.out)
  have HIB := Lib.hid (hB.below HB.out)
  obtain ⟨eA, heA⟩ : ∃ e, chkA A = e := ⟨_, rfl⟩
  obtain ⟨eB, heB⟩ : ∃ e, chkA B = e := ⟨_, rfl⟩
  obtain ⟨er, her⟩ : ∃ x, mgE A B shift = x := ⟨_, rfl⟩
  rw [her] at hne ⊢
  unfold mgE at her
  rw [heA, heB] at her
  have HER := Lib.hid her
  clear her
  have HSZ := Lib.hid (show V2.heap.size = w.heap.size + 3 from by rw [hs2, hs1, hs0])
  have HA0 := Lib.hid hA0
  have HA1 := Lib.hid hA1
  have HA2 := Lib.hid ha2
  have DO := Lib.hid (fun n lo hi W => rout_any n lo hi W)
  have DA := Lib.hid (fun X : Ext V2 => show Calls Tryz.prog 35 #[.agg #[.string A.name, .int .i64 A.sport, .int .i64 A.start, .slice a A.sm.length ca, .slice b A.lp.length cb, .slice c A.tg.length cc]] X.1 fun e w'' => e = .returned (.int .i64 eA) ∧ ∃ Y : Ext V2, w'' = Y.1 from by
    have h := rcheck2_any A a b c ca cb cc X.1 (HIA.out.below X.2)
    unfold actV at h
    rw [heA] at h
    exact X.calls h)
  have DB := Lib.hid (fun X : Ext V2 => show Calls Tryz.prog 35 #[.agg #[.string B.name, .int .i64 B.sport, .int .i64 B.start, .slice a' B.sm.length ca', .slice b' B.lp.length cb', .slice c' B.tg.length cc']] X.1 fun e w'' => e = .returned (.int .i64 eB) ∧ ∃ Y : Ext V2, w'' = Y.1 from by
    have h := rcheck2_any B a' b' c' ca' cb' cc' X.1 (HIB.out.below X.2)
    unfold actV at h
    rw [heB] at h
    exact X.calls h)
  obtain ⟨z0, z1, z2, z3, z4, z5⟩ := hA0.cell
  have A0 := Ext.ex z0
  have A1 := Ext.ex z1
  have A2 := Ext.ex z2
  have A3 := Ext.ex z3
  have A4 := Ext.ex z4
  have A5 := Ext.ex z5
  obtain ⟨y0, y1, y2, y3, y4, y5⟩ := hA1.cell
  have B0 := Ext.ex y0
  have B1 := Ext.ex y1
  have B2 := Ext.ex y2
  have B3 := Ext.ex y3
  have B4 := Ext.ex y4
  have B5 := Ext.ex y5
  clear hA hB heA heB hb0 hb1 hb2 ha0 ha1 ha2 hA0 hA1 hs1 hs2 z0 z1 z2 z3 z4 z5 y0 y1 y2 y3 y4 y5
  unfold actV
  go_enter Tryz.func16, Tryz.ntmps16
  go_upto_region 1 with (fail)
  clear hV0 hV1 hV2
  refine ext_wp (W := V2) fun X => ?_
  go_wp2_with fail
  refine (DA.out X).mono ?_
  rintro e w1 ⟨rfl, Z1, rfl⟩
  by_cases hA0 : eA = 0
  case neg =>
    have u1 := bneT hA0
    have HE := Lib.hid (show er = eA from by rw [← HER.out, if_pos hA0])
    clear hA0 hne
    obtain ⟨WF, hWF, haF, hkF⟩ := (HA2.out.below Z1.2).store ⟨#[]⟩ 0 0 (.slice none 0 0) (.slice none 0 0) (.slice none 0 0)
    have HAF := Lib.hid haF
    have HBF := Lib.hid (show Below w.heap.size w WF from
      have h1 := below_step HB.out Z1.2
      Kept.below h1 (hkF (fun b => b = w.heap.size + 1 + 1) rfl) h1.size (fun k hk e => by omega))
    obtain ⟨r0, r1, r2, r3, r4, r5⟩ := (HA2.out.below Z1.2).cell
    have fr := (HA2.out.below Z1.2).free
    clear haF hkF
    go_wp2_with fail
    have q := HAF.out.cell
    exact bodyPost_ret (v := .tuple #[ac0, .int .i64 eA]) (by simp [results, Tryz.results16, go_sem, q, ac0]) rfl (by rw [HE.out]; exact ⟨rfl, HBF.out⟩)
  subst hA0
  go_wp2_with fail
  refine (DB.out Z1).mono ?_
  rintro e w1 ⟨rfl, Z2, rfl⟩
  by_cases hB0 : eB = 0
  case neg =>
    have u1 := bneT hB0
    have HE := Lib.hid (show er = eB from by rw [← HER.out, if_neg (by simp), if_pos hB0])
    clear hB0 hne
    obtain ⟨WF, hWF, haF, hkF⟩ := (HA2.out.below Z2.2).store ⟨#[]⟩ 0 0 (.slice none 0 0) (.slice none 0 0) (.slice none 0 0)
    have HAF := Lib.hid haF
    have HBF := Lib.hid (show Below w.heap.size w WF from
      have h1 := below_step HB.out Z2.2
      Kept.below h1 (hkF (fun b => b = w.heap.size + 1 + 1) rfl) h1.size (fun k hk e => by omega))
    obtain ⟨r0, r1, r2, r3, r4, r5⟩ := (HA2.out.below Z2.2).cell
    have fr := (HA2.out.below Z2.2).free
    clear haF hkF
    go_wp2_with fail
    have q := HAF.out.cell
    exact bodyPost_ret (v := .tuple #[ac0, .int .i64 eB]) (by simp [results, Tryz.results16, go_sem, q, ac0]) rfl (by rw [HE.out]; exact ⟨rfl, HBF.out⟩)
  subst hB0
  by_cases hsp : A.sport = B.sport
  case neg =>
    have u1 := bneT hsp
    have HE := Lib.hid (show er = 7 from by
      rw [← HER.out, if_neg (by simp), if_neg (by simp), if_pos hsp])
    clear hsp hne
    obtain ⟨WF, hWF, haF, hkF⟩ := (HA2.out.below Z2.2).store ⟨#[]⟩ 0 0 (.slice none 0 0) (.slice none 0 0) (.slice none 0 0)
    have HAF := Lib.hid haF
    have HBF := Lib.hid (show Below w.heap.size w WF from
      have h1 := below_step HB.out Z2.2
      Kept.below h1 (hkF (fun b => b = w.heap.size + 1 + 1) rfl) h1.size (fun k hk e => by omega))
    obtain ⟨r0, r1, r2, r3, r4, r5⟩ := (HA2.out.below Z2.2).cell
    have fr := (HA2.out.below Z2.2).free
    clear haF hkF
    go_wp2_with fail
    have q := HAF.out.cell
    exact bodyPost_ret (v := .tuple #[ac0, .int .i64 7]) (by simp [results, Tryz.results16, go_sem, q, ac0]) rfl (by rw [HE.out]; exact ⟨rfl, HBF.out⟩)
  have u1 := bneF hsp
  have hir : inR shift (-86399999999) 86399999999 = false := by
    cases h : inR shift (-86399999999) 86399999999 with
    | false => rfl
    | true =>
      rw [← HER.out, if_neg (by simp), if_neg (by simp), if_neg (by simpa using hsp), h] at hne
      exact absurd rfl hne
  have HIR := Lib.hid (show (!inR shift (-86399999999) 86399999999) = true from by rw [hir]; rfl)
  have HE := Lib.hid (show er = 9 from by
    rw [← HER.out, if_neg (by simp), if_neg (by simp), if_neg (by simpa using hsp), hir]
    rfl)
  clear hsp hne hir
  go_wp2_with fail
  refine (DO.out _ _ _ _).mono ?_
  rintro e _ ⟨rfl, rfl⟩
  rw [HIR.out]
  obtain ⟨WF, hWF, haF, hkF⟩ := (HA2.out.below Z2.2).store ⟨#[]⟩ 0 0 (.slice none 0 0) (.slice none 0 0) (.slice none 0 0)
  have HAF := Lib.hid haF
  have HBF := Lib.hid (show Below w.heap.size w WF from
    have h1 := below_step HB.out Z2.2
    Kept.below h1 (hkF (fun b => b = w.heap.size + 1 + 1) rfl) h1.size (fun k hk e => by omega))
  obtain ⟨r0, r1, r2, r3, r4, r5⟩ := (HA2.out.below Z2.2).cell
  have fr := (HA2.out.below Z2.2).free
  clear haF hkF
  go_wp2_with fail
  have q := HAF.out.cell
  exact bodyPost_ret (v := .tuple #[ac0, .int .i64 9]) (by simp [results, Tryz.results16, go_sem, q, ac0]) rfl (by rw [HE.out]; exact ⟨rfl, HBF.out⟩)
set_option maxHeartbeats 100000000 in
set_option maxRecDepth 100000 in
theorem rmergeOk_any (A B : Acv) (a b c a' b' c' : Option Addr) (ca cb cc ca' cb' cc' : Nat) (shift : Int) (w : World) (hA : ActIn w A a b c) (hB : ActIn w B a' b' c') (la : A.sm.length ≤ ca) (lc : A.tg.length ≤ cc) (la' : B.sm.length ≤ ca') (lc' : B.tg.length ≤ cc') (oA : AcOk A) (oB : AcOk B) (hsp : A.sport = B.sport) (h0 : -86399999999 ≤ shift) (h1 : shift ≤ 86399999999) :
    Calls Tryz.prog 16 #[actV A a b c ca cb cc, actV B a' b' c' ca' cb' cc', .int .i64 shift] w fun e w' => RMerge A B shift w e w' := by
  obtain ⟨R, hR⟩ : ∃ R, mergeR (byR A B shift) A.sm B.sm = R := ⟨_, rfl⟩
  obtain ⟨T, hT⟩ : ∃ T, mergeT A.tg B.tg = T := ⟨_, rfl⟩
  have HRR := Lib.hid (show (∀ s, s ∈ R → -172800000000 ≤ s.tm ∧ s.tm ≤ 172801000000) ∧ R.length ≤ 40000 from ⟨fun s hs => mergeR_range oA oB (byR_range oA oB h0 h1) s (hR ▸ hs), by
    have := mergeR_len (byR A B shift) _ A.sm B.sm rfl
    have := oA.nsm
    have := oB.nsm
    rw [hR] at *
    omega⟩)
  have HTT := Lib.hid (show (∀ s, s ∈ T → s.size ≤ maxLen) ∧ T.length ≤ 40 from ⟨fun s hs => mergeT_tags hA hB s (hT ▸ hs), by
    have := mergeT_len A.tg B.tg _ rfl
    have := oA.ntg
    have := oB.ntg
    rw [hT] at *
    omega⟩)
  have HP := Lib.hid (fun (e : Ending) (w' : World) => show (((20000 < R.length ∨ 20 < T.length) ∧ e = .returned (.tuple #[ac0, .int .i64 3]) ∧ Below w.heap.size w w') ∨ (¬ (20000 < R.length ∨ 20 < T.length) ∧ ActRet (rmgZ A R T) w e w')) → RMerge A B shift w e w' from fun h => by
    unfold RMerge
    rw [hR, hT]
    exact h)
  have HR := Lib.hid hR
  have HDR := Lib.hid (byR_range oA oB h0 h1)
  have HTW := Lib.hid hT
  clear hR hT
  obtain ⟨V0, hV0, hb0, hs0, ha0⟩ := alloc_ac w A.name A.sport A.start (.slice a A.sm.length ca) (.slice b A.lp.length cb) (.slice c A.tg.length cc)
  obtain ⟨V1, hV1, hb1, hs1, ha1⟩ := alloc_ac V0 B.name B.sport B.start (.slice a' B.sm.length ca') (.slice b' B.lp.length cb') (.slice c' B.tg.length cc')
  obtain ⟨V2, hV2, hb2, hs2, ha2⟩ := alloc_ac V1 ⟨#[]⟩ 0 0 (.slice none 0 0) (.slice none 0 0) (.slice none 0 0)
  rw [hs0] at ha1
  rw [hs1, hs0] at ha2
  have hs11 : V1.heap.size = w.heap.size + 1 + 1 := by rw [hs1, hs0]
  have hA0 := (ha0.below hb1).below hb2
  have hA1 := ha1.below hb2
  have HB := Lib.hid (below_step (below_step hb0 hb1) hb2)
  have HIA := Lib.hid (hA.below HB.out)
  have HIB := Lib.hid (hB.below HB.out)
  have HOA := Lib.hid oA
  have HOB := Lib.hid oB
  have HSZ := Lib.hid (show V2.heap.size = w.heap.size + 3 from by rw [hs2, hs1, hs0])
  have HA0 := Lib.hid hA0
  have HA1 := Lib.hid hA1
  have HA2 := Lib.hid ha2
  have hspb : (A.sport != B.sport) = false := by rw [hsp]; simp
  have HIR := Lib.hid (show (!inR shift (-86399999999) 86399999999) = false from by rw [inR_iff.2 ⟨h0, h1⟩]; rfl)
  have DO := Lib.hid (fun n lo hi W => rout_any n lo hi W)
  have DA := Lib.hid (fun X : Ext V2 => show Calls Tryz.prog 35 #[.agg #[.string A.name, .int .i64 A.sport, .int .i64 A.start, .slice a A.sm.length ca, .slice b A.lp.length cb, .slice c A.tg.length cc]] X.1 fun e w'' => e = .returned (.int .i64 0) ∧ ∃ Y : Ext V2, w'' = Y.1 from by
    have h := rcheck2_any A a b c ca cb cc X.1 (HIA.out.below X.2)
    unfold actV at h
    rw [chkA_zero.2 HOA.out] at h
    exact X.calls h)
  have DB := Lib.hid (fun X : Ext V2 => show Calls Tryz.prog 35 #[.agg #[.string B.name, .int .i64 B.sport, .int .i64 B.start, .slice a' B.sm.length ca', .slice b' B.lp.length cb', .slice c' B.tg.length cc']] X.1 fun e w'' => e = .returned (.int .i64 0) ∧ ∃ Y : Ext V2, w'' = Y.1 from by
    have h := rcheck2_any B a' b' c' ca' cb' cc' X.1 (HIB.out.below X.2)
    unfold actV at h
    rw [chkA_zero.2 HOB.out] at h
    exact X.calls h)
  have DC := Lib.hid (fun X : Ext V2 => rcopied_any A a b c ca cb cc X.1 (HIA.out.below X.2) (by have := HOA.out.nsm; omega) (by have := HOA.out.nlp; omega) (by have := HOA.out.ntg; omega))
  obtain ⟨z0, z1, z2, z3, z4, z5⟩ := hA0.cell
  have A0 := Ext.ex z0
  have A1 := Ext.ex z1
  have A2 := Ext.ex z2
  have A3 := Ext.ex z3
  have A4 := Ext.ex z4
  have A5 := Ext.ex z5
  obtain ⟨y0, y1, y2, y3, y4, y5⟩ := hA1.cell
  have B0 := Ext.ex y0
  have B1 := Ext.ex y1
  have B2 := Ext.ex y2
  have B3 := Ext.ex y3
  have B4 := Ext.ex y4
  have B5 := Ext.ex y5
  clear hA hB oA oB hsp hb0 hb1 hb2 ha0 ha1 ha2 hA0 hA1 hs1 hs2 z0 z1 z2 z3 z4 z5 y0 y1 y2 y3 y4 y5
  unfold CloneRet at DC
  unfold actV at DC
  unfold actV
  go_enter Tryz.func16, Tryz.ntmps16
  go_upto_region 1 with (fail)
  clear hV0 hV1 hV2
  refine ext_wp (W := V2) fun X => ?_
  go_wp2_with fail
  refine (DA.out X).mono ?_
  rintro e w1 ⟨rfl, Z1, rfl⟩
  go_wp2_with fail
  refine (DB.out Z1).mono ?_
  rintro e w1 ⟨rfl, Z2, rfl⟩
  go_wp2_with fail
  refine (DO.out _ _ _ _).mono ?_
  rintro e _ ⟨rfl, rfl⟩
  rw [HIR.out]
  go_wp2_with fail
  refine (DC.out Z2).mono ?_
  rintro e w3 ⟨⟨a1, b1, c1, ca1, cb1, cc1, rfl, ho3⟩, hb3⟩
  clear DA DB DC DO X Z1
  obtain ⟨V4, hV4, hb4, hs4, ha4⟩ := alloc_ac w3 A.name A.sport A.start (.slice a1 A.sm.length ca1) (.slice b1 A.lp.length cb1) (.slice c1 A.tg.length cc1)
  have hE4 : Below V2.heap.size V2 V4 := below_step (below_step Z2.2 hb3) hb4
  have j5 : V4.cell? ⟨w.heap.size, 5, none⟩ = some (.slice c A.tg.length cc) := A5 ⟨V4, hE4⟩
  have i5 : V4.cell? ⟨w.heap.size + 1, 5, none⟩ = some (.slice c' B.tg.length cc') := B5 ⟨V4, hE4⟩
  have DT := Lib.hid (rTags_any A.tg B.tg c c' cc cc' V4 (HIA.out.tg.below hE4) (HIB.out.tg.below hE4) (by have := HOA.out.ntg; omega) (by have := HOB.out.ntg; omega) lc lc')
  have HO3 := Lib.hid ho3
  have hz2 := Z2.2.size
  have HBO := Lib.hid (show V2.heap.size ≤ w3.heap.size ∧ V4.heap.size = w3.heap.size + 1 from ⟨Nat.le_trans hz2 hb3.size, hs4⟩)
  have HA4 := Lib.hid ha4
  have HE4 := Lib.hid hE4
  have HB4 := Lib.hid hb4
  clear ho3 hb3 hb4 hs4 ha4 hE4 hz2
  go_wp2_with fail
  refine (DT.out).mono ?_
  rintro e w5 ⟨vT, rfl, hoT, hb5⟩
  rw [HTW.out] at hoT
  obtain ⟨aT, cT, rfl, -, -, -⟩ := hoT.row tgEl
  obtain ⟨nT, hnT⟩ : ∃ n, T.length = n := ⟨_, rfl⟩
  have HNT := Lib.hid hnT
  rw [hnT] at hoT ⊢
  obtain ⟨BO, hBO⟩ : ∃ q, w3.heap.size = q := ⟨_, rfl⟩
  have HW3 := Lib.hid hBO
  rw [hBO] at HA4 HBO ⊢
  have hA5 := HA4.out.below hb5
  have k5 := hA5.cell.2.2.2.2.2
  have f5 := hA5.free 5
  have hA6 := hA5.set5 (.slice aT nT cT)
  obtain ⟨W5, hW5⟩ : ∃ z, w5.setCell ⟨BO, 5, none⟩ (.slice aT nT cT) = z := ⟨_, rfl⟩
  rw [hW5] at hA6
  have hk5 : Kept (fun q => q = BO) w5 W5 := by rw [← hW5]; exact keep_set (O := fun q => q = BO) rfl
  have hE5 : Below V2.heap.size V2 W5 := Kept.below (below_step HE4.out hb5) hk5 (below_step HE4.out hb5).size (fun k hk e => by have := HBO.out; omega)
  have g1 : W5.cell? ⟨w.heap.size, 2, none⟩ = some (.int .i64 A.start) := A2 ⟨W5, hE5⟩
  have g2 : W5.cell? ⟨w.heap.size + 1, 2, none⟩ = some (.int .i64 B.start) := B2 ⟨W5, hE5⟩
  have G3 := Ext.ex (show W5.cell? ⟨w.heap.size, 3, none⟩ = some (.slice a A.sm.length ca) from A3 ⟨W5, hE5⟩)
  have G4 := Ext.ex (show W5.cell? ⟨w.heap.size + 1, 3, none⟩ = some (.slice a' B.sm.length ca') from B3 ⟨W5, hE5⟩)
  obtain ⟨sa0, sa1⟩ := HOA.out.start
  obtain ⟨sb0, sb1⟩ := HOB.out.start
  have wr1 : IntKind.i64.wrap (B.start - shift) = B.start - shift := tm_wrap (by omega) (by omega)
  have wr2 : IntKind.i64.wrap (B.start - shift - A.start) = B.start - shift - A.start := tm_wrap (by omega) (by omega)
  have HA6 := Lib.hid hA6
  have HE5 := Lib.hid hE5
  have HOT := Lib.hid (hoT.keepO hk5 (fun q hq e => by have := (hoT.lt q hq).1; have := HBO.out; omega))
  have HB45 := Lib.hid hb5
  have HK5 := Lib.hid hk5
  clear hoT hb5 hk5 hA5 hA6 hE5 hBO hnT A0 A1 A2 A3 A4 A5 B0 B1 B2 B3 B4 B5 j5 i5 hV4 DT HTW sa0 sa1 sb0 sb1 HIR hspb
  go_upto_region 14 with (fail)
  obtain ⟨d, hd⟩ : ∃ d, B.start - shift - A.start = d := ⟨_, rfl⟩
  rw [show byR A B shift = d from hd] at HR HDR
  rw [hd]
  clear hd wr1 wr2 hW5 k5 f5 g1 g2
  refine wp_region_ext (W := W5) ⟨W5, Below.refl _ _⟩ (by kernel_rfl) (by kernel_rfl) ?_
  repeat go_big_quiet_step (fail)
  refine wpQuiet_nil ?_
  rintro _ ⟨Y, rfl⟩
  have hA7 := HA6.out.below Y.2
  have k3 := hA7.cell.2.2.2.1
  have f3 := hA7.free 3
  have hA8 := hA7.set3 (.slice none 0 0)
  obtain ⟨W6, hW6⟩ : ∃ z, Y.1.setCell ⟨BO, 3, none⟩ (.slice none 0 0) = z := ⟨_, rfl⟩
  rw [hW6] at hA8
  have hk6 : Kept (fun q => q = BO) Y.1 W6 := by rw [← hW6]; exact keep_set (O := fun q => q = BO) rfl
  have HA8 := Lib.hid hA8
  have HK6 := Lib.hid ((Kept.of_below (O := fun q => q = BO) Y.2).trans hk6)
  obtain ⟨NB, hNB⟩ : ∃ q, W6.heap.size = q := ⟨_, rfl⟩
  have HNB := Lib.hid hNB
  have HBN := Lib.hid (show BO < NB from by have := HA8.out.lt; omega)
  have HTB := Lib.hid (fun g (hg : (Value.slice aT nT cT).ownBlock = some g) => show g < NB from by have := (HOT.out.lt g hg).2; have := HK6.out.size; omega)
  have HE6 := Lib.hid (show Below V2.heap.size V2 W6 from Kept.below HE5.out HK6.out HE5.out.size (fun k hk e => by have := HBO.out; omega))
  have HC := Lib.hid (fun (X : ExtO (fun q => q = BO) W6) (p : Addr) (v : Value) (hp : p.block < V2.heap.size) (h : V2.cell? p = some v) => show X.1.cell? p = some v from X.2.cell (by have := HBO.out; omega) (below_cell HE6.out h))
  clear hA7 hA8 hk6 G3 G4
  go_wp2_with fail
  clear k3 f3 hW6 Y hNB
  go_loopw [12, 13] (fun xv yv wr => ∃ (xs ys O : List Sm) (ax ay : Option Addr) (cx cy : Nat), xv = .slice ax xs.length cx ∧ yv = .slice ay ys.length cy ∧ xs.length ≤ cx ∧ ys.length ≤ cy ∧ O.length + xs.length + ys.length ≤ 40000 ∧ Hid (Rw smC 7 V2 ax xs) ∧ Hid (Rw smC 7 V2 ay ys) ∧ Hid ((∀ s, s ∈ xs → 0 ≤ s.tm ∧ s.tm ≤ 1000000) ∧ ∀ s, s ∈ ys → 0 ≤ s.tm ∧ s.tm ≤ 1000000) ∧ Hid (∃ vs, AcB wr BO A.name A.sport A.start vs (.slice b1 A.lp.length cb1) (.slice aT nT cT) ∧ Own smC 7 72 wr NB vs O) ∧ Hid (O ++ mergeR d xs ys = R) ∧ ∃ Y : ExtO (fun q => q = BO) W6, wr = Y.1) (fun xv yv _ => lenV xv + lenV yv)
  case atStart => exact ⟨A.sm, B.sm, [], a, a', ca, ca', rfl, rfl, la, la', by have := HOA.out.nsm; have := HOB.out.nsm; simp; omega, Lib.hid HIA.out.sm, Lib.hid HIB.out.sm, Lib.hid ⟨ok_each HOA.out.sm, ok_each HOB.out.sm⟩, Lib.hid ⟨_, HA8.out, Own.nil _ _ _ _ _⟩, Lib.hid (by rw [List.nil_append]; exact HR.out), ⟨W6, Kept.refl _ _⟩, rfl⟩
  case round =>
    clear HR la la' lc lc'
    obtain ⟨xs, ys, O, ax, ay, cx, cy, rfl, rfl, hcx, hcy, hlen, HX, HY, HS, HST, HE, Y, rfl⟩ := hrel
    match xs, ys with
    | [], [] =>
      obtain ⟨vs, hac, hown⟩ := HST.out
      have he := HE.out
      rw [mergeR, List.append_nil] at he
      subst he
      obtain ⟨a2, c2, rfl, -, -, -⟩ := hown.row smEl
      simp only [List.length_nil] at *
      obtain ⟨n, hn⟩ : ∃ n, O.length = n := ⟨_, rfl⟩
      have HN := Lib.hid hn
      rw [hn] at hac hown
      have HAC := Lib.hid hac
      have HOW := Lib.hid hown
      have k3 := hac.cell.2.2.2.1
      have k5 := hac.cell.2.2.2.2.2
      have hnT : nT ≤ 40 := by have := HTT.out.2; have := HNT.out; omega
      have hn4 : n ≤ 40000 := by have := HRR.out.2; omega
      have HLPS := Lib.hid (show ∃ Bl, w.heap.size + 3 ≤ Bl ∧ Own lpC 3 75 Y.1 Bl (.slice b1 A.lp.length cb1) A.lp ∧ (∀ q, (Value.slice b1 A.lp.length cb1).ownBlock = some q → q < BO) from by
        obtain ⟨B1, B2, e1, e2, _, _, hl, _, _⟩ := HO3.out.ex
        have hw3 := HW3.out
        have hsz := HSZ.out
        have hbo := HBO.out
        have hz2 := Z2.2.size
        have hb : ∀ q, (Value.slice b1 A.lp.length cb1).ownBlock = some q → q < BO := fun q hq => by have := (hl.lt q hq).2; omega
        have l4 := (hl.below HB4.out).below HB45.out
        have l5 := l4.keepO HK5.out (fun q hq e => by have := hb q hq; omega)
        have l6 := l5.keepO HK6.out (fun q hq e => by have := hb q hq; omega)
        have l7 := l6.keepO Y.2 (fun q hq e => by have := hb q hq; omega)
        exact ⟨B1, by omega, l7, hb⟩)
      obtain ⟨Bl, hBl, hlp, hlb⟩ := HLPS.out
      have HLP := Lib.hid hlp
      have HLB := Lib.hid hlb
      have HBL := Lib.hid hBl
      have hbo := HBO.out
      have hbn := HBN.out
      have hsz := HSZ.out
      have HTY := Lib.hid ((HOT.out.keepO HK6.out (fun q hq e => by have := (HOT.out.lt q hq).1; omega)).keepO Y.2 (fun q hq e => by have := (HOT.out.lt q hq).1; omega))
      have h1' := below_step HB.out HE6.out
      have HBY := Lib.hid (show Below w.heap.size w Y.1 from Kept.below h1' Y.2 h1'.size (fun q hq e => by omega))
      have HRY := Lib.hid ((HA2.out.below HE6.out).kept Y.2 (by omega))
      have HKX := Lib.hid Y.2.size
      clear hac hown hlp hlb hBl h1' hbo hbn hsz HST HLPS HX HY HS HE HOT HO3 HK5 HB4 HB45 HE4 HE5 hlen hcx hcy
      obtain ⟨r0, r1, r2, r3, r4, r5⟩ := HRY.out.cell
      have fr := HRY.out.free
      by_cases hbig : 20000 < n
      case' pos =>
        have t6 : decide ((20000 : Int) < (n : Int)) = true := by rw [decide_eq_true_eq]; omega
        have t6' : decide (20000 < n) = true := by rw [decide_eq_true_eq]; omega
        have HBAD := Lib.hid (show 20000 < O.length ∨ 20 < T.length from Or.inl (by rw [HN.out]; exact hbig))
      case' neg =>
        have t6 : decide ((20000 : Int) < (n : Int)) = false := by rw [decide_eq_false_iff_not]; omega
        have t6' : decide (20000 < n) = false := by rw [decide_eq_false_iff_not]; omega
        by_cases hbt : 20 < nT
        case' pos =>
          have t7 : decide ((20 : Int) < (nT : Int)) = true := by rw [decide_eq_true_eq]; omega
          have t7' : decide (20 < nT) = true := by rw [decide_eq_true_eq]; omega
          have HBAD := Lib.hid (show 20000 < O.length ∨ 20 < T.length from Or.inr (by rw [HNT.out]; exact hbt))
        case' neg =>
          have t7 : decide ((20 : Int) < (nT : Int)) = false := by rw [decide_eq_false_iff_not]; omega
          have t7' : decide (20 < nT) = false := by rw [decide_eq_false_iff_not]; omega
          have HGOOD := Lib.hid (show ¬ (20000 < O.length ∨ 20 < T.length) from by rw [HN.out, HNT.out]; omega)
          clear hbig hbt
          by_cases hn0 : 0 < n
          case' pos =>
            have t8 : decide ((0 : Int) < (n : Int)) = true := by rw [decide_eq_true_eq]; omega
            have t8' : decide (0 < n) = true := by rw [decide_eq_true_eq]; omega
            obtain ⟨x, hx⟩ : ∃ x, O[0]? = some x := ⟨_, List.getElem?_eq_getElem (by rw [HN.out]; exact hn0)⟩
            obtain ⟨q, c', he, hq1, hq2⟩ := HOW.out.open (by rw [HN.out]; exact hn0)
            injection he with he1 he2 he3
            subst he1
            have e0 : Y.1.cell? ⟨q, 0, none⟩ = some (.int .i64 x.tm) := by
              have := (HOW.out.rw_ smEl).1.on hx 0 _ rfl
              simpa using this
            have hxr := HRR.out.1 x (List.mem_of_getElem? hx)
            have hRM := rmgZ_some (A := A) (T := T) hx
            obtain ⟨fz, hfz⟩ : ∃ z, x.tm = z := ⟨_, rfl⟩
            rw [hfz] at e0 hxr hRM
            obtain ⟨sa0, sa1⟩ := HOA.out.start
            have wr1 : IntKind.i64.wrap (A.start + fz) = A.start + fz := tm_wrap (by omega) (by omega)
            have HZ := Lib.hid hRM
            have HFZ := Lib.hid hxr
            have k2 := HAC.out.cell.2.2.1
            have f2 := HAC.out.free 2
            have hA7 := HAC.out.set2 (A.start + fz)
            obtain ⟨W7, hW7⟩ : ∃ z, Y.1.setCell ⟨BO, 2, none⟩ (.int .i64 (A.start + fz)) = z := ⟨_, rfl⟩
            rw [hW7] at hA7
            have hk7 : Kept (fun p => p = BO) Y.1 W7 := by rw [← hW7]; exact keep_set (O := fun p => p = BO) rfl
            have HA7 := Lib.hid hA7
            have HK7 := Lib.hid hk7
            have HO7 := Lib.hid (HOW.out.keepO hk7 (fun b hb e => by have := (HOW.out.lt b hb).1; have := HBN.out; omega))
            have HQ := Lib.hid hq1
            have k37 := hA7.cell.2.2.2.1
            clear hx he2 he3 hxr hRM hfz hA7 hk7 hq1 hq2 sa0 sa1
            go_wp2_with fail
            clear e0 k2 f2 hW7 wr1 t8 t8' t6 t6' t7 t7' r0 r1 r2 r3 r4 r5 fr k3 k5 k37
            go_loopw [177] (fun iv wr => ∃ k : Nat, iv = .int .i64 k ∧ k ≤ n ∧ Hid (Own smC 7 72 wr NB (.slice (some ⟨q, 0, none⟩) n c2) ((O.take k).map (backS fz) ++ O.drop k)) ∧ ∃ Z : ExtO (fun p => NB ≤ p) W7, wr = Z.1) (fun iv _ => n - (intOf iv).toNat)
            case atStart => exact ⟨0, rfl, by omega, Lib.hid HO7.out, ⟨W7, Kept.refl _ _⟩, rfl⟩
            case round =>
              obtain ⟨k, rfl, hk, HO, Z, rfl⟩ := hrel
              have hacz := HA7.out.kept Z.2 (by have := HBN.out; omega)
              by_cases hlt : k < n
              · have t5 : decide ((k : Int) < (n : Int)) = true := by rw [decide_eq_true_eq]; omega
                have t5' : decide (k < n) = true := by simpa using hlt
                obtain ⟨x, hx⟩ : ∃ x, O[k]? = some x := ⟨_, List.getElem?_eq_getElem (by rw [HN.out]; exact hlt)⟩
                have hxr := HRR.out.1 x (List.mem_of_getElem? hx)
                have hfr := HFZ.out
                have hat := at_upto (backS fz) O k x hx
                have HUP := Lib.hid (map_upto (backS fz) O k x hx)
                have e0 : Z.1.cell? ⟨q, k * 7, none⟩ = some (.int .i64 x.tm) := by
                  have := (HO.out.rw_ smEl).1.on hat 0 _ rfl
                  simpa using this
                have wr1 : IntKind.i64.wrap (x.tm - fz) = x.tm - fz := tm_wrap (by omega) (by omega)
                have k3 := hacz.cell.2.2.2.1
                have fq := HO.out.free (k * 7)
                obtain ⟨hos, hks⟩ := HO.out.set smEl (j := 0) hat (by decide) (y := backS fz x) (u := .int .i64 (x.tm - fz)) rfl
                rw [Nat.add_zero] at hos hks
                obtain ⟨W9, hW9⟩ : ∃ z, Z.1.setCell ⟨q, k * 7, none⟩ (.int .i64 (x.tm - fz)) = z := ⟨_, rfl⟩
                rw [hW9, HUP.out] at hos
                rw [hW9] at hks
                have HOS := Lib.hid hos
                have HKS := Lib.hid (Z.2.trans (show Kept (fun g => NB ≤ g) Z.1 W9 from ⟨hks.os, hks.tape, hks.output, hks.size, fun g hg ho => hks.block g hg (fun e => ho (by rw [e]; exact HQ.out))⟩))
                clear hx hxr hfr hat hacz hos hks
                go_wp2_with fail
                go_roundw
                case rel => exact ⟨k + 1, by go_num, by omega, HOS, ⟨W9, HKS.out⟩, rfl⟩
                case measure => simp [intOf]; omega
              · have t5 : decide ((k : Int) < (n : Int)) = false := by rw [decide_eq_false_iff_not]; omega
                have t5' : decide (k < n) = false := by simpa using hlt
                obtain rfl : n = k := by omega
                obtain ⟨W8, hW8⟩ : ∃ z, Z.1 = z := ⟨_, rfl⟩
                have hk78 : Kept (fun p => NB ≤ p) W7 W8 := hW8 ▸ Z.2
                have HA8' := Lib.hid (hW8 ▸ hacz)
                have HO8 := Lib.hid (show Own smC 7 72 W8 NB (.slice (some ⟨q, 0, none⟩) n c2) (O.map (backS fz)) from by
                  have h := HO.out
                  rw [← HN.out, List.take_length, List.drop_length, List.append_nil, HN.out, hW8] at h
                  exact h)
                have HL8 := Lib.hid ((HLP.out.keepO HK7.out (fun g hg e => by have := HLB.out g hg; omega)).keepO hk78 (fun g hg e => by have := HLB.out g hg; have := HBN.out; omega))
                have HTG7 := Lib.hid (HTY.out.keepO HK7.out (fun g hg e => by have := (HTY.out.lt g hg).1; have := HBO.out; omega))
                have HTN := Lib.hid (fun g (hg : (Value.slice aT nT cT).ownBlock = some g) => show g < NB from HTB.out g hg)
                have HT8 := Lib.hid (HTG7.out.keepO hk78 (fun g hg e => by have := HTN.out g hg; omega))
                have HBB8 := Lib.hid (show Below w.heap.size w W8 from by
                  have hh := HBO.out
                  have h2 : Below w.heap.size w W7 := Kept.below HBY.out HK7.out HBY.out.size (fun g hg e => by have := HSZ.out; omega)
                  exact Kept.below h2 hk78 h2.size (fun g hg e => by have := HBN.out; have := HSZ.out; omega))
                have HR8 := Lib.hid ((HRY.out.kept HK7.out (by have := HBO.out; have := HSZ.out; omega)).kept hk78 (by have := HBO.out; have := HSZ.out; have := HBN.out; omega))
                have j4 := HA8'.out.cell.2.2.2.2.1
                have hnl := HOA.out.nlp
                rw [hW8]
                clear hlt hk HO hacz hk78 hW8 HTG7
                go_wp2_with fail
                clear j4 t5 t5'
                go_loopw [194] (fun iv wr => ∃ j : Nat, iv = .int .i64 j ∧ j ≤ A.lp.length ∧ Hid (Own lpC 3 75 wr Bl (.slice b1 A.lp.length cb1) ((A.lp.take j).map (subL fz) ++ A.lp.drop j)) ∧ ∃ Z : ExtO (fun p => b1 = some ⟨p, 0, none⟩) W8, wr = Z.1) (fun iv _ => A.lp.length - (intOf iv).toNat)
                case atStart => exact ⟨0, rfl, by omega, Lib.hid HL8.out, ⟨W8, Kept.refl _ _⟩, rfl⟩
                case round =>
                  clear Z
                  obtain ⟨j, rfl, hj, HO, Z, rfl⟩ := hrel
                  by_cases hlt : j < A.lp.length
                  · have t5 : decide ((j : Int) < (A.lp.length : Int)) = true := by rw [decide_eq_true_eq]; omega
                    have t5' : decide (j < A.lp.length) = true := by simpa using hlt
                    obtain ⟨p, hp⟩ : ∃ p, A.lp[j]? = some p := ⟨_, List.getElem?_eq_getElem hlt⟩
                    obtain ⟨p0, p1, p2, _⟩ := HOA.out.lp.each j p hp
                    have p3 := (spanS_range HOA.out.sm).2
                    have hfr := HFZ.out
                    have hat := at_upto (subL fz) A.lp j p hp
                    have HUP := Lib.hid (map_upto (subL fz) A.lp j p hp)
                    have hlen := len_upto (subL fz) A.lp j hj
                    obtain ⟨g, c9, he, hg1, hg2⟩ := HO.out.open (by rw [hlen]; omega)
                    injection he with he1 he2 he3
                    have HLG := Lib.hid (HLB.out g (by rw [he1]; rfl))
                    subst he1
                    have hroww := (HO.out.rw_ lpEl).1.on hat
                    have e0 : Z.1.cell? ⟨g, j * 3, none⟩ = some (.int .i64 p.f) := by have := hroww 0 _ rfl; simpa using this
                    have e1 : Z.1.cell? ⟨g, j * 3 + 1, none⟩ = some (.int .i64 p.t) := by have := hroww 1 _ rfl; simpa using this
                    have wr1 : IntKind.i64.wrap (p.f - fz) = p.f - fz := tm_wrap (by omega) (by omega)
                    have wr2 : IntKind.i64.wrap (p.t - fz) = p.t - fz := tm_wrap (by omega) (by omega)
                    have hOg : ∀ x, (some (⟨g, 0, none⟩ : Addr) = some ⟨x, 0, none⟩) → x = g := fun x e => by injection e with e; injection e with e; exact e.symm
                    have hacz := HA8'.out.kept Z.2 (fun e => by have := hOg _ e; have := HLG.out; omega)
                    have k4 := hacz.cell.2.2.2.2.1
                    have fq := HO.out.free (j * 3)
                    obtain ⟨hos, hks⟩ := HO.out.set lpEl (j := 0) hat (by decide) (y := ⟨p.f - fz, p.t, p.s⟩) (u := .int .i64 (p.f - fz)) rfl
                    rw [Nat.add_zero] at hos hks
                    obtain ⟨W9, hW9⟩ : ∃ z, Z.1.setCell ⟨g, j * 3, none⟩ (.int .i64 (p.f - fz)) = z := ⟨_, rfl⟩
                    rw [hW9] at hos hks
                    have HAT2 := Lib.hid (show (((A.lp.take j).map (subL fz) ++ A.lp.drop j).set j ⟨p.f - fz, p.t, p.s⟩)[j]? = some ⟨p.f - fz, p.t, p.s⟩ from List.getElem?_set_self (List.getElem?_eq_some_iff.1 hat).1)
                    have e19 : W9.cell? ⟨g, j * 3 + 1, none⟩ = some (.int .i64 p.t) := by have := (hos.rw_ lpEl).1.on HAT2.out 1 _ rfl; simpa using this
                    have hac9 := hacz.kept hks (by have := HLG.out; omega)
                    have k49 := hac9.cell.2.2.2.2.1
                    have fq9 := hos.free (j * 3 + 1)
                    obtain ⟨hot, hkt⟩ := hos.set lpEl (j := 1) HAT2.out (by decide) (y := subL fz p) (u := .int .i64 (p.t - fz)) rfl
                    obtain ⟨W10, hW10⟩ : ∃ z, W9.setCell ⟨g, j * 3 + 1, none⟩ (.int .i64 (p.t - fz)) = z := ⟨_, rfl⟩
                    rw [hW10, List.set_set, HUP.out] at hot
                    rw [hW10] at hkt
                    have HOT' := Lib.hid hot
                    have HKT := Lib.hid (show Kept (fun x => some (⟨g, 0, none⟩ : Addr) = some ⟨x, 0, none⟩) W8 W10 from by
                      have h1 : Kept (fun x => x = g) Z.1 W10 := hks.trans hkt
                      exact Z.2.trans ⟨h1.os, h1.tape, h1.output, h1.size, fun x hx ho => h1.block x hx (fun e => ho (by rw [e]))⟩)
                    clear hp p0 p1 p2 p3 hfr hat hlen he2 he3 hroww hacz hos hks hac9 hot hkt hg1 hg2 hOg
                    go_wp2_with fail
                    go_roundw
                    case rel => exact ⟨j + 1, by go_num, by omega, HOT', ⟨W10, HKT.out⟩, rfl⟩
                    case measure => simp [intOf]; omega
                  · have t5 : decide ((j : Int) < (A.lp.length : Int)) = false := by rw [decide_eq_false_iff_not]; omega
                    have t5' : decide (j < A.lp.length) = false := by simpa using hlt
                    obtain rfl : j = A.lp.length := by omega
                    obtain ⟨W9, hW9⟩ : ∃ z, Z.1 = z := ⟨_, rfl⟩
                    have hk89 : Kept (fun p => b1 = some ⟨p, 0, none⟩) W8 W9 := hW9 ▸ Z.2
                    have hlg : ∀ p, b1 = some ⟨p, 0, none⟩ → p < BO ∧ Bl ≤ p := fun p e => ⟨HLB.out p (by rw [e]; rfl), (HL8.out.lt p (by rw [e]; rfl)).1⟩
                    have hbo := HBO.out
                    have hbn := HBN.out
                    have hsz := HSZ.out
                    have hbl := HBL.out
                    have HO9 := Lib.hid (HO8.out.keepO hk89 (fun x hx e => by have := (HO8.out.lt x hx).1; have := hlg x e; omega))
                    have HA9 := Lib.hid (HA8'.out.kept hk89 (fun e => by have := hlg _ e; omega))
                    have HL9 := Lib.hid (show Own lpC 3 75 W9 Bl (.slice b1 A.lp.length cb1) (A.lp.map (subL fz)) from by
                      have h := HO.out
                      rw [List.take_length, List.drop_length, List.append_nil, hW9] at h
                      exact h)
                    have HT9 := Lib.hid (HT8.out.keepO hk89 (fun x hx e => by have := (HT8.out.lt x hx).1; have := hlg x e; omega))
                    have HB9 := Lib.hid (show Below w.heap.size w W9 from Kept.below HBB8.out hk89 HBB8.out.size (fun x hx e => by have := hlg x e; omega))
                    have HR9 := Lib.hid (show AcB W9 (w.heap.size + 1 + 1) ⟨#[]⟩ 0 0 (.slice none 0 0) (.slice none 0 0) (.slice none 0 0) from HR8.out.kept hk89 (fun e => by have := hlg _ e; omega))
                    obtain ⟨st, hst⟩ : ∃ z, A.start + fz = z := ⟨_, rfl⟩
                    obtain ⟨LM, hLM⟩ : ∃ z, O.map (backS fz) = z := ⟨_, rfl⟩
                    obtain ⟨LL, hLL⟩ : ∃ z, A.lp.map (subL fz) = z := ⟨_, rfl⟩
                    have HLM := Lib.hid (show LM.length = n from by rw [← hLM, List.length_map]; exact HN.out)
                    have HLL := Lib.hid (show LL.length = A.lp.length ∧ ∀ p, p ∈ LL → p.s.size ≤ maxLen from ⟨by rw [← hLL, List.length_map], fun p hp => by
                      rw [← hLL] at hp
                      obtain ⟨p', hp', rfl⟩ := List.mem_map.1 hp
                      exact HIA.out.titles p' hp'⟩)
                    obtain ⟨a9, ha9⟩ : ∃ z, some (⟨q, 0, none⟩ : Addr) = z := ⟨_, rfl⟩
                    rw [hst, hLM, hLL] at HZ
                    rw [hst] at HA9
                    rw [hLM] at HO9
                    rw [hLL] at HL9
                    rw [ha9] at HA9 HO9
                    rw [hW9]
                    clear hlt hj HO hk89 hW9 hlg hbo hbn hsz hbl HO8 HA8' HL8 HT8 HBB8 HR8 HA7 HO7 HK7 HQ HFZ hst hLM hLL ha9
                    have HINX := Lib.hid (fun (WX : World) (hkx : Kept (fun q => q = w.heap.size + 1 + 1) W9 WX) => show ActIn WX ⟨A.name, A.sport, st, LM, LL, T⟩ a9 b1 aT from by
                      have sx := HO9.out.keepO hkx (fun b hb e => (HR9.out.ne' HO9.out (by decide) b hb) e)
                      have lx := HL9.out.keepO hkx (fun b hb e => (HR9.out.ne' HL9.out (by decide) b hb) e)
                      have tx := HT9.out.keepO hkx (fun b hb e => (HR9.out.ne' HT9.out (by decide) b hb) e)
                      refine ⟨(sx.rw_ smEl).1, (lx.rw_ lpEl).1, (tx.rw_ tgEl).1, HIA.out.name, HLL.out.2, HTT.out.1, ?_, ?_, ?_⟩
                      · show (LM.length : Int) ≤ _
                        rw [HLM.out]
                        omega
                      · show (LL.length : Int) ≤ _
                        rw [HLL.out.1]
                        have := HOA.out.nlp
                        omega
                      · show (T.length : Int) ≤ _
                        rw [HNT.out]
                        omega)
                    have HFAR := Lib.hid (fun g (hg : a9 = some g ∨ b1 = some g ∨ aT = some g) => show w.heap.size ≤ g.block from by
                      have h1 := HBO.out
                      have h2 := HBN.out
                      have h3 := HSZ.out
                      have h4 := HBL.out
                      rcases hg with e | e | e
                      · have := ((HO9.out.rw_ smEl).2.2 g e).1
                        omega
                      · have := ((HL9.out.rw_ lpEl).2.2 g e).1
                        omega
                      · have := ((HT9.out.rw_ tgEl).2.2 g e).1
                        omega)
                    have DCK := Lib.hid (show Calls Tryz.prog 35 #[.agg #[.string A.name, .int .i64 A.sport, .int .i64 st, .slice a9 n c2, .slice b1 A.lp.length cb1, .slice aT nT cT]] W9 fun e w' => e = .returned (.int .i64 (chkA (rmgZ A O T))) ∧ Below W9.heap.size W9 w' from by
                      have h := rcheck2_any ⟨A.name, A.sport, st, LM, LL, T⟩ a9 b1 aT c2 cb1 cT W9 (HINX.out W9 (Kept.refl _ _))
                      unfold actV at h
                      simp only [HLM.out, HLL.out.1, HNT.out] at h
                      rw [← HZ.out] at h
                      exact h)
                    obtain ⟨z0, z1, z2, z3, z4, z5⟩ := HA9.out.cell
                    go_wp2_with fail
                    refine (DCK.out).mono ?_
                    rintro e W12 ⟨rfl, hb12⟩
                    obtain ⟨er, her⟩ : ∃ z, chkA (rmgZ A O T) = z := ⟨_, rfl⟩
                    have HER := Lib.hid her
                    rw [her]
                    have hA12 := HA9.out.below hb12
                    have hR12 := HR9.out.below hb12
                    have HR12 := Lib.hid hR12
                    have HK12 := Lib.hid (show Kept (fun q => q = w.heap.size + 1 + 1) W9 W12 from Kept.of_below hb12)
                    have HW12 := Lib.hid (below_step HB9.out hb12)
                    obtain ⟨x0, x1, x2, x3, x4, x5⟩ := hA12.cell
                    obtain ⟨v0, v1, v2, v3, v4, v5⟩ := hR12.cell
                    have fv := hR12.free
                    clear her hb12 hA12 hR12 z0 z1 z2 z3 z4 z5
                    by_cases h0' : er = 0
                    · subst h0'
                      obtain ⟨WF, hWF, haF, hkF⟩ := HR12.out.store A.name A.sport st (.slice a9 n c2) (.slice b1 A.lp.length cb1) (.slice aT nT cT)
                      have HAF := Lib.hid haF
                      have HKF := Lib.hid hkF
                      have HBF := Lib.hid (show Below w.heap.size w WF from Kept.below HW12.out (hkF (fun q => q = w.heap.size + 1 + 1) rfl) HW12.out.size (fun q hq e => by omega))
                      clear haF hkF
                      go_wp2_with fail
                      have q := HAF.out.cell
                      refine bodyPost_ret (v := .tuple #[.agg #[.string A.name, .int .i64 A.sport, .int .i64 st, .slice a9 n c2, .slice b1 A.lp.length cb1, .slice aT nT cT], .int .i64 0]) (by simp [results, Tryz.results16, go_sem, q]) rfl (HP.out _ _ (Or.inr ⟨HGOOD.out, HBF.out, 0, HER.out, Or.inr ⟨rfl, a9, b1, aT, c2, cb1, cT, ?_, ?_, HFAR.out⟩⟩))
                      · rw [HZ.out]
                        unfold actV
                        simp only [HLM.out, HLL.out.1, HNT.out]
                      · rw [HZ.out]
                        exact HINX.out WF (HK12.out.trans (HKF.out _ rfl))
                    · have b0 : (er != 0) = true := by rw [bne_iff_ne]; exact h0'
                      obtain ⟨WF, hWF, haF, hkF⟩ := HR12.out.store ⟨#[]⟩ 0 0 (.slice none 0 0) (.slice none 0 0) (.slice none 0 0)
                      have HAF := Lib.hid haF
                      have H0 := Lib.hid h0'
                      have HBF := Lib.hid (show Below w.heap.size w WF from Kept.below HW12.out (hkF (fun q => q = w.heap.size + 1 + 1) rfl) HW12.out.size (fun q hq e => by omega))
                      clear haF hkF h0'
                      go_wp2_with fail
                      have q := HAF.out.cell
                      exact bodyPost_ret (v := .tuple #[ac0, .int .i64 er]) (by simp [results, Tryz.results16, go_sem, q, ac0]) rfl (HP.out _ _ (Or.inr ⟨HGOOD.out, HBF.out, er, HER.out, Or.inl ⟨H0.out, rfl⟩⟩))
          case' neg =>
            have t8 : decide ((0 : Int) < (n : Int)) = false := by rw [decide_eq_false_iff_not]; omega
            have t8' : decide (0 < n) = false := by rw [decide_eq_false_iff_not]; omega
            go_upto_region 43 with (fail)
            obtain ⟨W9, hW9⟩ : ∃ z, Y.1 = z := ⟨_, rfl⟩
            have hO0 : O = [] := List.length_eq_zero_iff.1 (by rw [HN.out]; omega)
            obtain ⟨st, hst⟩ : ∃ z, A.start = z := ⟨_, rfl⟩
            obtain ⟨LM, hLM⟩ : ∃ z, O = z := ⟨_, rfl⟩
            obtain ⟨LL, hLL⟩ : ∃ z, A.lp = z := ⟨_, rfl⟩
            obtain ⟨a9, ha9⟩ : ∃ z, a2 = z := ⟨_, rfl⟩
            have HZ := Lib.hid (show rmgZ A O T = ⟨A.name, A.sport, st, LM, LL, T⟩ from by rw [← hst, ← hLM, ← hLL, hO0]; rfl)
            have HA9 := Lib.hid (show AcB W9 BO A.name A.sport st (.slice a9 n c2) (.slice b1 A.lp.length cb1) (.slice aT nT cT) from by rw [← hst, ← hW9, ← ha9]; exact HAC.out)
            have HO9 := Lib.hid (show Own smC 7 72 W9 NB (.slice a9 n c2) LM from by rw [← hLM, ← hW9, ← ha9]; exact HOW.out)
            have HL9 := Lib.hid (show Own lpC 3 75 W9 Bl (.slice b1 A.lp.length cb1) LL from by rw [← hW9, ← hLL]; exact HLP.out)
            have HT9 := Lib.hid (hW9 ▸ HTY.out)
            have HB9 := Lib.hid (show Below w.heap.size w W9 from hW9 ▸ HBY.out)
            have HR9 := Lib.hid (show AcB W9 (w.heap.size + 1 + 1) ⟨#[]⟩ 0 0 (.slice none 0 0) (.slice none 0 0) (.slice none 0 0) from hW9 ▸ HRY.out)
            have HLM := Lib.hid (show LM.length = n from hLM ▸ HN.out)
            have HLL := Lib.hid (show LL.length = A.lp.length ∧ ∀ p, p ∈ LL → p.s.size ≤ maxLen from by rw [← hLL]; exact ⟨rfl, HIA.out.titles⟩)
            rw [hW9]
            clear t8 t8' t6 t6' t7 t7' r0 r1 r2 r3 r4 r5 fr k3 k5 hO0 hW9 hst hLM hLL ha9
            have HINX := Lib.hid (fun (WX : World) (hkx : Kept (fun q => q = w.heap.size + 1 + 1) W9 WX) => show ActIn WX ⟨A.name, A.sport, st, LM, LL, T⟩ a9 b1 aT from by
              have sx := HO9.out.keepO hkx (fun b hb e => (HR9.out.ne' HO9.out (by decide) b hb) e)
              have lx := HL9.out.keepO hkx (fun b hb e => (HR9.out.ne' HL9.out (by decide) b hb) e)
              have tx := HT9.out.keepO hkx (fun b hb e => (HR9.out.ne' HT9.out (by decide) b hb) e)
              refine ⟨(sx.rw_ smEl).1, (lx.rw_ lpEl).1, (tx.rw_ tgEl).1, HIA.out.name, HLL.out.2, HTT.out.1, ?_, ?_, ?_⟩
              · show (LM.length : Int) ≤ _
                rw [HLM.out]
                omega
              · show (LL.length : Int) ≤ _
                rw [HLL.out.1]
                have := HOA.out.nlp
                omega
              · show (T.length : Int) ≤ _
                rw [HNT.out]
                omega)
            have HFAR := Lib.hid (fun g (hg : a9 = some g ∨ b1 = some g ∨ aT = some g) => show w.heap.size ≤ g.block from by
              have h1 := HBO.out
              have h2 := HBN.out
              have h3 := HSZ.out
              have h4 := HBL.out
              rcases hg with e | e | e
              · have := ((HO9.out.rw_ smEl).2.2 g e).1
                omega
              · have := ((HL9.out.rw_ lpEl).2.2 g e).1
                omega
              · have := ((HT9.out.rw_ tgEl).2.2 g e).1
                omega)
            have DCK := Lib.hid (show Calls Tryz.prog 35 #[.agg #[.string A.name, .int .i64 A.sport, .int .i64 st, .slice a9 n c2, .slice b1 A.lp.length cb1, .slice aT nT cT]] W9 fun e w' => e = .returned (.int .i64 (chkA (rmgZ A O T))) ∧ Below W9.heap.size W9 w' from by
              have h := rcheck2_any ⟨A.name, A.sport, st, LM, LL, T⟩ a9 b1 aT c2 cb1 cT W9 (HINX.out W9 (Kept.refl _ _))
              unfold actV at h
              simp only [HLM.out, HLL.out.1, HNT.out] at h
              rw [← HZ.out] at h
              exact h)
            obtain ⟨z0, z1, z2, z3, z4, z5⟩ := HA9.out.cell
            go_wp2_with fail
            refine (DCK.out).mono ?_
            rintro e W12 ⟨rfl, hb12⟩
            obtain ⟨er, her⟩ : ∃ z, chkA (rmgZ A O T) = z := ⟨_, rfl⟩
            have HER := Lib.hid her
            rw [her]
            have hA12 := HA9.out.below hb12
            have hR12 := HR9.out.below hb12
            have HR12 := Lib.hid hR12
            have HK12 := Lib.hid (show Kept (fun q => q = w.heap.size + 1 + 1) W9 W12 from Kept.of_below hb12)
            have HW12 := Lib.hid (below_step HB9.out hb12)
            obtain ⟨x0, x1, x2, x3, x4, x5⟩ := hA12.cell
            obtain ⟨v0, v1, v2, v3, v4, v5⟩ := hR12.cell
            have fv := hR12.free
            clear her hb12 hA12 hR12 z0 z1 z2 z3 z4 z5
            by_cases h0' : er = 0
            · subst h0'
              obtain ⟨WF, hWF, haF, hkF⟩ := HR12.out.store A.name A.sport st (.slice a9 n c2) (.slice b1 A.lp.length cb1) (.slice aT nT cT)
              have HAF := Lib.hid haF
              have HKF := Lib.hid hkF
              have HBF := Lib.hid (show Below w.heap.size w WF from Kept.below HW12.out (hkF (fun q => q = w.heap.size + 1 + 1) rfl) HW12.out.size (fun q hq e => by omega))
              clear haF hkF
              go_wp2_with fail
              have q := HAF.out.cell
              refine bodyPost_ret (v := .tuple #[.agg #[.string A.name, .int .i64 A.sport, .int .i64 st, .slice a9 n c2, .slice b1 A.lp.length cb1, .slice aT nT cT], .int .i64 0]) (by simp [results, Tryz.results16, go_sem, q]) rfl (HP.out _ _ (Or.inr ⟨HGOOD.out, HBF.out, 0, HER.out, Or.inr ⟨rfl, a9, b1, aT, c2, cb1, cT, ?_, ?_, HFAR.out⟩⟩))
              · rw [HZ.out]
                unfold actV
                simp only [HLM.out, HLL.out.1, HNT.out]
              · rw [HZ.out]
                exact HINX.out WF (HK12.out.trans (HKF.out _ rfl))
            · have b0 : (er != 0) = true := by rw [bne_iff_ne]; exact h0'
              obtain ⟨WF, hWF, haF, hkF⟩ := HR12.out.store ⟨#[]⟩ 0 0 (.slice none 0 0) (.slice none 0 0) (.slice none 0 0)
              have HAF := Lib.hid haF
              have H0 := Lib.hid h0'
              have HBF := Lib.hid (show Below w.heap.size w WF from Kept.below HW12.out (hkF (fun q => q = w.heap.size + 1 + 1) rfl) HW12.out.size (fun q hq e => by omega))
              clear haF hkF h0'
              go_wp2_with fail
              have q := HAF.out.cell
              exact bodyPost_ret (v := .tuple #[ac0, .int .i64 er]) (by simp [results, Tryz.results16, go_sem, q, ac0]) rfl (HP.out _ _ (Or.inr ⟨HGOOD.out, HBF.out, er, HER.out, Or.inl ⟨H0.out, rfl⟩⟩))
      all_goals
        obtain ⟨WF, hWF, haF, hkF⟩ := HRY.out.store ⟨#[]⟩ 0 0 (.slice none 0 0) (.slice none 0 0) (.slice none 0 0)
        have HAF := Lib.hid haF
        have HBF := Lib.hid (show Below w.heap.size w WF from Kept.below HBY.out (hkF (fun q => q = w.heap.size + 1 + 1) rfl) HBY.out.size (fun q hq e => by omega))
        clear haF hkF
        go_wp2_with fail
        have q := HAF.out.cell
        exact bodyPost_ret (v := .tuple #[ac0, .int .i64 3]) (by simp [results, Tryz.results16, go_sem, q, ac0]) rfl (HP.out _ _ (Or.inl ⟨HBAD.out, rfl, HBF.out⟩))
    | x :: xs, [] =>
      obtain ⟨gx, ox, rfl, hbx, hcx0⟩ := (HX.out).head
      have HCx0 := Lib.hid (show Y.1.cell? ⟨gx, ox, none⟩ = some (.int .i64 x.tm) from HC.out Y ⟨gx, ox, none⟩ _ hbx (hcx0 0 _ rfl))
      have HCx1 := Lib.hid (show Y.1.cell? ⟨gx, ox + 1, none⟩ = some (.int .i64 x.x) from HC.out Y ⟨gx, ox + 1, none⟩ _ hbx (hcx0 1 _ rfl))
      have HCx2 := Lib.hid (show Y.1.cell? ⟨gx, ox + 2, none⟩ = some (.int .i64 x.y) from HC.out Y ⟨gx, ox + 2, none⟩ _ hbx (hcx0 2 _ rfl))
      have HCx3 := Lib.hid (show Y.1.cell? ⟨gx, ox + 3, none⟩ = some (.int .i64 x.z) from HC.out Y ⟨gx, ox + 3, none⟩ _ hbx (hcx0 3 _ rfl))
      have HCx4 := Lib.hid (show Y.1.cell? ⟨gx, ox + 4, none⟩ = some (.int .i64 x.pu) from HC.out Y ⟨gx, ox + 4, none⟩ _ hbx (hcx0 4 _ rfl))
      have HCx5 := Lib.hid (show Y.1.cell? ⟨gx, ox + 5, none⟩ = some (.int .i64 x.po) from HC.out Y ⟨gx, ox + 5, none⟩ _ hbx (hcx0 5 _ rfl))
      have HCx6 := Lib.hid (show Y.1.cell? ⟨gx, ox + 6, none⟩ = some (.int .i64 x.st) from HC.out Y ⟨gx, ox + 6, none⟩ _ hbx (hcx0 6 _ rfl))
      have tx := HS.out.1 x List.mem_cons_self
      have he := HE.out
      rw [mergeR] at he
      have HE2 := Lib.hid (show (O ++ [x]) ++ mergeR d xs [] = R from by
        rw [List.append_assoc]
        exact he)
      obtain ⟨nx, hnx⟩ : ∃ n, xs.length = n := ⟨_, rfl⟩
      rw [List.length_cons, hnx] at hcx hlen ⊢
      have HNx := Lib.hid hnx
      have px1 : decide ((0 : Int) < ((nx + 1 : Nat) : Int)) = true := by rw [decide_eq_true_eq]; omega
      have px2 : decide ((0 : Int) < (nx : Int) + 1) = true := by rw [decide_eq_true_eq]; omega
      have px3 : (((nx + 1 : Nat) : Int) == 0) = false := by simp; omega
      have px4 : (((nx : Int) + 1) == 0) = false := by simp; omega
      have HTx := Lib.hid (show Rw smC 7 V2 (if cx = 1 then some ⟨gx, ox, none⟩ else some ⟨gx, ox + 7, none⟩) xs from HX.out.step (by omega))
      rw [List.length_nil] at hcy hlen ⊢
      have HS2 := Lib.hid (And.intro (fun s h => HS.out.1 s (List.mem_cons_of_mem _ h)) (fun s h => HS.out.2 s h))
      have HLx := Lib.hid (show gx < BO from by have := HBO.out; omega)
      have HOL := Lib.hid (show O.length ≤ 40000 from by omega)
      obtain ⟨vs, hac, hown⟩ := HST.out
      obtain ⟨a2, c2, rfl, -, -, -⟩ := hown.row smEl
      have HAC := Lib.hid hac
      have HOW := Lib.hid hown
      have HYS := Lib.hid (show NB ≤ Y.1.heap.size from by have := Y.2.size; have := HNB.out; omega)
      clear hac hown HST
      have X0 := Ext.ex HCx0.out
      have X1 := Ext.ex HCx1.out
      have X2 := Ext.ex HCx2.out
      have X3 := Ext.ex HCx3.out
      have X4 := Ext.ex HCx4.out
      have X5 := Ext.ex HCx5.out
      have X6 := Ext.ex HCx6.out
      have k3 := HAC.out.cell.2.2.2.1
      have K3 := Ext.ex k3
      clear k3
      clear hcx0 hbx HX HE he hnx HS tx
      go_wp2_with fail
      refine wp_region_ext (W := Y.1) ⟨Y.1, Below.refl _ _⟩ (by kernel_rfl) (by kernel_rfl) ?_
      repeat go_big_quiet_step (fail)
      refine wpQuiet_nil ?_
      rintro _ ⟨Ya, rfl⟩
      have X0' := ExtO.ex (O := fun q => NB ≤ q) (by have := HBN.out; have := HLx.out; simp only; omega) (X0 Ya)
      have X1' := ExtO.ex (O := fun q => NB ≤ q) (by have := HBN.out; have := HLx.out; simp only; omega) (X1 Ya)
      have X2' := ExtO.ex (O := fun q => NB ≤ q) (by have := HBN.out; have := HLx.out; simp only; omega) (X2 Ya)
      have X3' := ExtO.ex (O := fun q => NB ≤ q) (by have := HBN.out; have := HLx.out; simp only; omega) (X3 Ya)
      have X4' := ExtO.ex (O := fun q => NB ≤ q) (by have := HBN.out; have := HLx.out; simp only; omega) (X4 Ya)
      have X5' := ExtO.ex (O := fun q => NB ≤ q) (by have := HBN.out; have := HLx.out; simp only; omega) (X5 Ya)
      have X6' := ExtO.ex (O := fun q => NB ≤ q) (by have := HBN.out; have := HLx.out; simp only; omega) (X6 Ya)
      have K3' := ExtO.ex (O := fun q => NB ≤ q) (by have := HBN.out; simp only; omega) (K3 Ya)
      clear X0 X1 X2 X3 X4 X5 X6 K3
      go_wp2_with fail
      refine late_start (s := 8) (C := fun w' => ∃ Z : ExtO (fun q => NB ≤ q) Ya.1, w' = Z.1) (by kernel_rfl) ?_
      obtain ⟨Q0, hQ0⟩ : ∃ Z : ExtO (fun q => NB ≤ q) Ya.1, ({ Ya.1 with drawn := Ya.1.drawn + 1 } : World) = Z.1 := ⟨⟨{ Ya.1 with drawn := Ya.1.drawn + 1 }, ⟨rfl, rfl, rfl, Nat.le_refl _, fun _ _ _ => rfl⟩⟩, rfl⟩
      have HQ0 := Lib.hid (show Below Y.1.heap.size Y.1 Q0.1 from hQ0 ▸ below_step Ya.2 ⟨rfl, rfl, rfl, Nat.le_refl _, fun _ _ => rfl⟩)
      rw [hQ0]
      clear hQ0
      refine late_quiet (by kernel_rfl) (fun _ _ d _ _ h => by cases d <;> exact h) ⟨Q0, rfl⟩ [0, 1, 2, 3, 4] 4 _ _ (by kernel_rfl) (by kernel_rfl) ?_
      change wpQuiet _ _ _ _ (_ :: _ :: _ :: _ :: _ :: []) _
      repeat go_big_quiet_step (fail)
      refine wpQuiet_nil ?_
      refine late_do (i := 5) _ rfl (by kernel_rfl) rfl (fun K hK => ?_)
      go_simp
      obtain ⟨V7, hV7, hb7, hs7, hl7⟩ := alloc_cells Q0.1 #[.int .i64 x.tm, .int .i64 x.x, .int .i64 x.y, .int .i64 x.z, .int .i64 x.pu, .int .i64 x.po, .int .i64 x.st] 72
      rw [hV7]
      have HC7 := Lib.hid (fun j u (hj : (smC x)[j]? = some u) => show V7.cell? ⟨Q0.1.heap.size, j, none⟩ = some u from hl7 j u (by rw [← hj]; simp [smC]))
      obtain ⟨Z7, rfl⟩ : ∃ Z : ExtO (fun q => NB ≤ q) Ya.1, V7 = Z.1 := ⟨⟨V7, Q0.2.trans (Kept.of_below hb7)⟩, rfl⟩
      have HB7 := Lib.hid (below_step HQ0.out hb7)
      have HO7 := Lib.hid (HOW.out.below HB7.out)
      have HA7 := Lib.hid (HAC.out.below HB7.out)
      refine hK _ _ (fun _ => ⟨Z7, rfl⟩) ?_
      clear hK K hV7 hs7 hl7 hb7
      try simp only [Act.put, List.setIfInBounds_toArray, List.set_cons_zero, List.set_cons_succ]
      refine late_do (i := 6) _ rfl (by kernel_rfl) rfl (fun K hK => ?_)
      refine wp_append_Sm _ _ rfl rfl HO7.out (p := x) rfl HC7.out (by have := HOL.out; omega) (by have := HYS.out; have := HB7.out.size; omega) (fun g' c3 w8 ho8 hg8 hor => ?_)
      try simp only [Act.put, List.setIfInBounds_toArray, List.set_cons_zero, List.set_cons_succ]
      obtain ⟨Z8, rfl⟩ : ∃ Z : ExtO (fun q => NB ≤ q) Ya.1, w8 = Z.1 := ⟨⟨w8, Z7.2.trans (Kept.of_grown hg8 (fun g e _ => (HO7.out.lt g e).1))⟩, rfl⟩
      refine hK _ _ (fun _ => ⟨Z8, rfl⟩) ?_
      clear hK K
      try simp only [Act.put, List.setIfInBounds_toArray, List.set_cons_zero, List.set_cons_succ]
      refine late_quiet (by kernel_rfl) (fun _ _ d _ _ h => by cases d <;> exact h) ⟨Z8, rfl⟩ [7] 1 _ _ (by kernel_rfl) (by kernel_rfl) ?_
      change wpQuiet _ _ _ _ (_ :: []) _
      repeat go_big_quiet_step (fail)
      refine wpQuiet_nil ?_
      have hA8 := HA7.out.kept (O := fun q => NB ≤ q) (Kept.of_grown hg8 (fun g e _ => (HO7.out.lt g e).1)) (by have := HBN.out; omega)
      have j8 := hA8.cell.2.2.2.1
      have f8 := hA8.free 3
      have hA9 := hA8.set3 (.slice (some ⟨g', 0, none⟩) (O.length + 1) c3)
      obtain ⟨W9, hW9⟩ : ∃ z, Z8.1.setCell ⟨BO, 3, none⟩ (.slice (some ⟨g', 0, none⟩) (O.length + 1) c3) = z := ⟨_, rfl⟩
      rw [hW9] at hA9
      have hk9 : Kept (fun q => q = BO) Z8.1 W9 := by rw [← hW9]; exact keep_set (O := fun q => q = BO) rfl
      have HO9 := Lib.hid (show Own smC 7 72 W9 NB (.slice (some ⟨g', 0, none⟩) (O.length + 1) c3) (O ++ [x]) from ho8.keepO hk9 (fun q hq e => by have := (ho8.lt q hq).1; have := HBN.out; omega))
      have HA9 := Lib.hid hA9
      have HK9 := Lib.hid (show Kept (fun q => q = BO) W6 W9 from ((Y.2.trans (Kept.of_below HB7.out)).grown hg8 (fun g e hlt => by have := (HO7.out.lt g e).1; have := HNB.out; omega)).trans hk9)
      clear ho8 hg8 hor hA8 hA9 hk9
      refine late_do (i := 8) _ rfl (by kernel_rfl) rfl (fun K hK => ?_)
      go_simp
      refine hK _ _ (fun h => nomatch (show true = false from h)) ?_
      clear hK K
      try simp only [Act.put, List.setIfInBounds_toArray, List.set_cons_zero, List.set_cons_succ]
      refine late_done (by kernel_rfl) ?_ _
      clear j8 f8 hW9
      go_wp2_with fail
      go_roundw
      case rel => exact ⟨xs, [], O ++ [x], _, _, cx - 1, cy, by rw [HNx.out], rfl, by rw [HNx.out]; omega, hcy, by rw [HNx.out, List.length_append]; show O.length + 1 + nx + 0 ≤ _; omega, HTx, HY, HS2, Lib.hid ⟨_, HA9.out, HO9.out⟩, HE2, ⟨W9, HK9.out⟩, rfl⟩
      case measure => show nx + 0 < nx + 1 + 0; omega
    | [], y :: ys =>
      obtain ⟨gy, oy, rfl, hby, hcy0⟩ := (HY.out).head
      have HCy0 := Lib.hid (show Y.1.cell? ⟨gy, oy, none⟩ = some (.int .i64 y.tm) from HC.out Y ⟨gy, oy, none⟩ _ hby (hcy0 0 _ rfl))
      have HCy1 := Lib.hid (show Y.1.cell? ⟨gy, oy + 1, none⟩ = some (.int .i64 y.x) from HC.out Y ⟨gy, oy + 1, none⟩ _ hby (hcy0 1 _ rfl))
      have HCy2 := Lib.hid (show Y.1.cell? ⟨gy, oy + 2, none⟩ = some (.int .i64 y.y) from HC.out Y ⟨gy, oy + 2, none⟩ _ hby (hcy0 2 _ rfl))
      have HCy3 := Lib.hid (show Y.1.cell? ⟨gy, oy + 3, none⟩ = some (.int .i64 y.z) from HC.out Y ⟨gy, oy + 3, none⟩ _ hby (hcy0 3 _ rfl))
      have HCy4 := Lib.hid (show Y.1.cell? ⟨gy, oy + 4, none⟩ = some (.int .i64 y.pu) from HC.out Y ⟨gy, oy + 4, none⟩ _ hby (hcy0 4 _ rfl))
      have HCy5 := Lib.hid (show Y.1.cell? ⟨gy, oy + 5, none⟩ = some (.int .i64 y.po) from HC.out Y ⟨gy, oy + 5, none⟩ _ hby (hcy0 5 _ rfl))
      have HCy6 := Lib.hid (show Y.1.cell? ⟨gy, oy + 6, none⟩ = some (.int .i64 y.st) from HC.out Y ⟨gy, oy + 6, none⟩ _ hby (hcy0 6 _ rfl))
      have ty := HS.out.2 y List.mem_cons_self
      have he := HE.out
      rw [mergeR] at he
      have HE2 := Lib.hid (show (O ++ [shB d y]) ++ mergeR d [] ys = R from by
        rw [List.append_assoc]
        exact he)
      obtain ⟨ny, hny⟩ : ∃ n, ys.length = n := ⟨_, rfl⟩
      rw [List.length_cons, hny] at hcy hlen ⊢
      have HNy := Lib.hid hny
      have py1 : decide ((0 : Int) < ((ny + 1 : Nat) : Int)) = true := by rw [decide_eq_true_eq]; omega
      have py2 : decide ((0 : Int) < (ny : Int) + 1) = true := by rw [decide_eq_true_eq]; omega
      have py3 : (((ny + 1 : Nat) : Int) == 0) = false := by simp; omega
      have py4 : (((ny : Int) + 1) == 0) = false := by simp; omega
      have HTy := Lib.hid (show Rw smC 7 V2 (if cy = 1 then some ⟨gy, oy, none⟩ else some ⟨gy, oy + 7, none⟩) ys from HY.out.step (by omega))
      rw [List.length_nil] at hcx hlen ⊢
      have HS2 := Lib.hid (And.intro (fun s h => HS.out.1 s h) (fun s h => HS.out.2 s (List.mem_cons_of_mem _ h)))
      have HOL := Lib.hid (show O.length ≤ 40000 from by omega)
      obtain ⟨vs, hac, hown⟩ := HST.out
      obtain ⟨a2, c2, rfl, -, -, -⟩ := hown.row smEl
      have HAC := Lib.hid hac
      have HOW := Lib.hid hown
      have HYS := Lib.hid (show NB ≤ Y.1.heap.size from by have := Y.2.size; have := HNB.out; omega)
      clear hac hown HST
      have hdr := HDR.out
      have wy : IntKind.i64.wrap (y.tm + d) = y.tm + d := tm_wrap (by omega) (by omega)
      have Y0 := Ext.ex HCy0.out
      have Y1 := Ext.ex HCy1.out
      have Y2 := Ext.ex HCy2.out
      have Y3 := Ext.ex HCy3.out
      have Y4 := Ext.ex HCy4.out
      have Y5 := Ext.ex HCy5.out
      have Y6 := Ext.ex HCy6.out
      have k3 := HAC.out.cell.2.2.2.1
      have K3 := Ext.ex k3
      clear k3
      clear hcy0 hby HY HE he hny HS ty hdr
      go_wp2_with fail
      refine wp_region_ext (W := Y.1) ⟨Y.1, Below.refl _ _⟩ (by kernel_rfl) (by kernel_rfl) ?_
      repeat go_big_quiet_step (fail)
      refine wpQuiet_nil ?_
      rintro _ ⟨Ya, rfl⟩
      go_wp2_with fail
      refine wp_region_ext (W := Y.1) Ya (by kernel_rfl) (by kernel_rfl) ?_
      repeat go_big_quiet_step (fail)
      refine wpQuiet_nil ?_
      rintro _ ⟨Yb, rfl⟩
      obtain ⟨V6, hV6, hb6, hs6, ha6⟩ := alloc_sm Yb.1 y
      have ha7 := ha6.set0 (y.tm + d)
      obtain ⟨W7, hW7⟩ : ∃ z, V6.setCell ⟨Yb.1.heap.size, 0, none⟩ (.int .i64 (y.tm + d)) = z := ⟨_, rfl⟩
      rw [hW7] at ha7
      have hB7 : Below Yb.1.heap.size Yb.1 W7 := Kept.below hb6 (by rw [← hW7]; exact keep_set (O := fun q => q = Yb.1.heap.size) rfl) hb6.size (fun k hk e => by omega)
      have q0 := ha6.cell.1
      have f0 := ha6.free 0
      obtain ⟨p0, p1, p2, p3, p4, p5, p6⟩ := ha7.cell
      simp only at p0 p1 p2 p3 p4 p5 p6
      have hB8 := below_step Yb.2 hB7
      have k3 := (HAC.out.below hB8).cell.2.2.2.1
      obtain ⟨V8, hV8, hb8, hs8, hl8⟩ := alloc_cells W7 #[.int .i64 (y.tm + d), .int .i64 y.x, .int .i64 y.y, .int .i64 y.z, .int .i64 y.pu, .int .i64 y.po, .int .i64 y.st] 72
      have HC7 := Lib.hid (fun j u (hj : (smC (shB d y))[j]? = some u) => show V8.cell? ⟨W7.heap.size, j, none⟩ = some u from hl8 j u (by rw [← hj]; simp [smC, shB]))
      have HB7 := Lib.hid (below_step hB8 hb8)
      have HO7 := Lib.hid (HOW.out.below HB7.out)
      have HA7 := Lib.hid (HAC.out.below HB7.out)
      clear hb6 hs6 ha6 ha7 hB7 hB8 hb8 hs8 hl8
      go_wp2_with (at_builtin; refine append_Sm rfl _ _ rfl rfl HO7.out (p := shB d y) rfl HC7.out (by have := HOL.out; omega) (by have := HYS.out; have := HB7.out.size; omega) (fun g' c3 w8 ho8 hg8 hor => ?_); have HA8 := Lib.hid (HA7.out.kept (O := fun q => NB ≤ q) (Kept.of_grown hg8 (fun g e _ => (HO7.out.lt g e).1)) (by have := HBN.out; omega)); have j8 := HA8.out.cell.2.2.2.1; have f8 := HA8.out.free 3; obtain ⟨W9, hW9⟩ : ∃ z, w8.setCell ⟨BO, 3, none⟩ (.slice (some ⟨g', 0, none⟩) (O.length + 1) c3) = z := ⟨_, rfl⟩)
      have ha9 := HA8.out.set3 (.slice (some ⟨g', 0, none⟩) (O.length + 1) c3)
      rw [hW9] at ha9
      have hk9 : Kept (fun q => q = BO) w8 W9 := by rw [← hW9]; exact keep_set (O := fun q => q = BO) rfl
      have HO9 := Lib.hid (show Own smC 7 72 W9 NB (.slice (some ⟨g', 0, none⟩) (O.length + 1) c3) (O ++ [shB d y]) from ho8.keepO hk9 (fun q hq e => by have := (ho8.lt q hq).1; have := HBN.out; omega))
      have HA9 := Lib.hid ha9
      have HK9 := Lib.hid (show Kept (fun q => q = BO) W6 W9 from ((Y.2.trans (Kept.of_below HB7.out)).grown hg8 (fun g e hlt => by have := (HO7.out.lt g e).1; have := HNB.out; omega)).trans hk9)
      clear ho8 hg8 hor ha9 hk9 hW9 j8 f8
      go_roundw
      case rel => exact ⟨[], ys, O ++ [shB d y], _, _, cx, cy - 1, rfl, by rw [HNy.out], hcx, by rw [HNy.out]; omega, by rw [HNy.out, List.length_append]; show O.length + 1 + 0 + ny ≤ _; omega, HX, HTy, HS2, Lib.hid ⟨_, HA9.out, HO9.out⟩, HE2, ⟨W9, HK9.out⟩, rfl⟩
      case measure => show 0 + ny < 0 + (ny + 1); omega
    | x :: xs, y :: ys =>
      obtain ⟨gx, ox, rfl, hbx, hcx0⟩ := (HX.out).head
      have HCx0 := Lib.hid (show Y.1.cell? ⟨gx, ox, none⟩ = some (.int .i64 x.tm) from HC.out Y ⟨gx, ox, none⟩ _ hbx (hcx0 0 _ rfl))
      have HCx1 := Lib.hid (show Y.1.cell? ⟨gx, ox + 1, none⟩ = some (.int .i64 x.x) from HC.out Y ⟨gx, ox + 1, none⟩ _ hbx (hcx0 1 _ rfl))
      have HCx2 := Lib.hid (show Y.1.cell? ⟨gx, ox + 2, none⟩ = some (.int .i64 x.y) from HC.out Y ⟨gx, ox + 2, none⟩ _ hbx (hcx0 2 _ rfl))
      have HCx3 := Lib.hid (show Y.1.cell? ⟨gx, ox + 3, none⟩ = some (.int .i64 x.z) from HC.out Y ⟨gx, ox + 3, none⟩ _ hbx (hcx0 3 _ rfl))
      have HCx4 := Lib.hid (show Y.1.cell? ⟨gx, ox + 4, none⟩ = some (.int .i64 x.pu) from HC.out Y ⟨gx, ox + 4, none⟩ _ hbx (hcx0 4 _ rfl))
      have HCx5 := Lib.hid (show Y.1.cell? ⟨gx, ox + 5, none⟩ = some (.int .i64 x.po) from HC.out Y ⟨gx, ox + 5, none⟩ _ hbx (hcx0 5 _ rfl))
      have HCx6 := Lib.hid (show Y.1.cell? ⟨gx, ox + 6, none⟩ = some (.int .i64 x.st) from HC.out Y ⟨gx, ox + 6, none⟩ _ hbx (hcx0 6 _ rfl))
      have tx := HS.out.1 x List.mem_cons_self
      obtain ⟨gy, oy, rfl, hby, hcy0⟩ := (HY.out).head
      have HCy0 := Lib.hid (show Y.1.cell? ⟨gy, oy, none⟩ = some (.int .i64 y.tm) from HC.out Y ⟨gy, oy, none⟩ _ hby (hcy0 0 _ rfl))
      have HCy1 := Lib.hid (show Y.1.cell? ⟨gy, oy + 1, none⟩ = some (.int .i64 y.x) from HC.out Y ⟨gy, oy + 1, none⟩ _ hby (hcy0 1 _ rfl))
      have HCy2 := Lib.hid (show Y.1.cell? ⟨gy, oy + 2, none⟩ = some (.int .i64 y.y) from HC.out Y ⟨gy, oy + 2, none⟩ _ hby (hcy0 2 _ rfl))
      have HCy3 := Lib.hid (show Y.1.cell? ⟨gy, oy + 3, none⟩ = some (.int .i64 y.z) from HC.out Y ⟨gy, oy + 3, none⟩ _ hby (hcy0 3 _ rfl))
      have HCy4 := Lib.hid (show Y.1.cell? ⟨gy, oy + 4, none⟩ = some (.int .i64 y.pu) from HC.out Y ⟨gy, oy + 4, none⟩ _ hby (hcy0 4 _ rfl))
      have HCy5 := Lib.hid (show Y.1.cell? ⟨gy, oy + 5, none⟩ = some (.int .i64 y.po) from HC.out Y ⟨gy, oy + 5, none⟩ _ hby (hcy0 5 _ rfl))
      have HCy6 := Lib.hid (show Y.1.cell? ⟨gy, oy + 6, none⟩ = some (.int .i64 y.st) from HC.out Y ⟨gy, oy + 6, none⟩ _ hby (hcy0 6 _ rfl))
      have ty := HS.out.2 y List.mem_cons_self
      have he := HE.out
      rw [mergeR] at he
      obtain ⟨nx, hnx⟩ : ∃ n, xs.length = n := ⟨_, rfl⟩
      rw [List.length_cons, hnx] at hcx hlen ⊢
      have HNx := Lib.hid hnx
      have px1 : decide ((0 : Int) < ((nx + 1 : Nat) : Int)) = true := by rw [decide_eq_true_eq]; omega
      have px2 : decide ((0 : Int) < (nx : Int) + 1) = true := by rw [decide_eq_true_eq]; omega
      have px3 : (((nx + 1 : Nat) : Int) == 0) = false := by simp; omega
      have px4 : (((nx : Int) + 1) == 0) = false := by simp; omega
      have HTx := Lib.hid (show Rw smC 7 V2 (if cx = 1 then some ⟨gx, ox, none⟩ else some ⟨gx, ox + 7, none⟩) xs from HX.out.step (by omega))
      obtain ⟨ny, hny⟩ : ∃ n, ys.length = n := ⟨_, rfl⟩
      rw [List.length_cons, hny] at hcy hlen ⊢
      have HNy := Lib.hid hny
      have py1 : decide ((0 : Int) < ((ny + 1 : Nat) : Int)) = true := by rw [decide_eq_true_eq]; omega
      have py2 : decide ((0 : Int) < (ny : Int) + 1) = true := by rw [decide_eq_true_eq]; omega
      have py3 : (((ny + 1 : Nat) : Int) == 0) = false := by simp; omega
      have py4 : (((ny : Int) + 1) == 0) = false := by simp; omega
      have HTy := Lib.hid (show Rw smC 7 V2 (if cy = 1 then some ⟨gy, oy, none⟩ else some ⟨gy, oy + 7, none⟩) ys from HY.out.step (by omega))
      have HLx := Lib.hid (show gx < BO from by have := HBO.out; omega)
      have HLy := Lib.hid (show gy < BO from by have := HBO.out; omega)
      have HOL := Lib.hid (show O.length ≤ 40000 from by omega)
      obtain ⟨vs, hac, hown⟩ := HST.out
      obtain ⟨a2, c2, rfl, -, -, -⟩ := hown.row smEl
      have HAC := Lib.hid hac
      have HOW := Lib.hid hown
      have HYS := Lib.hid (show NB ≤ Y.1.heap.size from by have := Y.2.size; have := HNB.out; omega)
      clear hac hown HST
      have hdr := HDR.out
      have wy : IntKind.i64.wrap (y.tm + d) = y.tm + d := tm_wrap (by omega) (by omega)
      have HXA := Lib.hid HX.out
      have HYA := Lib.hid HY.out
      clear hcx0 hbx hcy0 hby HX HY HE hdr tx ty hnx hny
      by_cases hlt : x.tm < y.tm + d
      · have q1 : decide (x.tm < y.tm + d) = true := by rw [decide_eq_true_eq]; exact hlt
        rw [if_pos hlt] at he
        have HE2 := Lib.hid (show (O ++ [x]) ++ mergeR d xs (y :: ys) = R from by
          rw [List.append_assoc]
          exact he)
        have HS2 := Lib.hid (And.intro (fun s h => HS.out.1 s (List.mem_cons_of_mem _ h)) (fun s h => HS.out.2 s h))
        have X0 := Ext.ex HCx0.out
        have X1 := Ext.ex HCx1.out
        have X2 := Ext.ex HCx2.out
        have X3 := Ext.ex HCx3.out
        have X4 := Ext.ex HCx4.out
        have X5 := Ext.ex HCx5.out
        have X6 := Ext.ex HCx6.out
        have Y0 := Ext.ex HCy0.out
        have Y1 := Ext.ex HCy1.out
        have Y2 := Ext.ex HCy2.out
        have Y3 := Ext.ex HCy3.out
        have Y4 := Ext.ex HCy4.out
        have Y5 := Ext.ex HCy5.out
        have Y6 := Ext.ex HCy6.out
        have k3 := HAC.out.cell.2.2.2.1
        have K3 := Ext.ex k3
        clear k3
        clear he hlt HS
        go_wp2_with fail
        refine wp_region_ext (W := Y.1) ⟨Y.1, Below.refl _ _⟩ (by kernel_rfl) (by kernel_rfl) ?_
        repeat go_big_quiet_step (fail)
        refine wpQuiet_nil ?_
        rintro _ ⟨Ya, rfl⟩
        have X0' := ExtO.ex (O := fun q => NB ≤ q) (by have := HBN.out; have := HLx.out; simp only; omega) (X0 Ya)
        have X1' := ExtO.ex (O := fun q => NB ≤ q) (by have := HBN.out; have := HLx.out; simp only; omega) (X1 Ya)
        have X2' := ExtO.ex (O := fun q => NB ≤ q) (by have := HBN.out; have := HLx.out; simp only; omega) (X2 Ya)
        have X3' := ExtO.ex (O := fun q => NB ≤ q) (by have := HBN.out; have := HLx.out; simp only; omega) (X3 Ya)
        have X4' := ExtO.ex (O := fun q => NB ≤ q) (by have := HBN.out; have := HLx.out; simp only; omega) (X4 Ya)
        have X5' := ExtO.ex (O := fun q => NB ≤ q) (by have := HBN.out; have := HLx.out; simp only; omega) (X5 Ya)
        have X6' := ExtO.ex (O := fun q => NB ≤ q) (by have := HBN.out; have := HLx.out; simp only; omega) (X6 Ya)
        have Y0' := ExtO.ex (O := fun q => NB ≤ q) (by have := HBN.out; have := HLy.out; simp only; omega) (Y0 Ya)
        have Y1' := ExtO.ex (O := fun q => NB ≤ q) (by have := HBN.out; have := HLy.out; simp only; omega) (Y1 Ya)
        have Y2' := ExtO.ex (O := fun q => NB ≤ q) (by have := HBN.out; have := HLy.out; simp only; omega) (Y2 Ya)
        have Y3' := ExtO.ex (O := fun q => NB ≤ q) (by have := HBN.out; have := HLy.out; simp only; omega) (Y3 Ya)
        have Y4' := ExtO.ex (O := fun q => NB ≤ q) (by have := HBN.out; have := HLy.out; simp only; omega) (Y4 Ya)
        have Y5' := ExtO.ex (O := fun q => NB ≤ q) (by have := HBN.out; have := HLy.out; simp only; omega) (Y5 Ya)
        have Y6' := ExtO.ex (O := fun q => NB ≤ q) (by have := HBN.out; have := HLy.out; simp only; omega) (Y6 Ya)
        have K3' := ExtO.ex (O := fun q => NB ≤ q) (by have := HBN.out; simp only; omega) (K3 Ya)
        clear X0 X1 X2 X3 X4 X5 X6 Y0 Y1 Y2 Y3 Y4 Y5 Y6 K3
        go_wp2_with fail
        refine late_start (s := 8) (C := fun w' => ∃ Z : ExtO (fun q => NB ≤ q) Ya.1, w' = Z.1) (by kernel_rfl) ?_
        obtain ⟨Q0, hQ0⟩ : ∃ Z : ExtO (fun q => NB ≤ q) Ya.1, ({ Ya.1 with drawn := Ya.1.drawn + 1 } : World) = Z.1 := ⟨⟨{ Ya.1 with drawn := Ya.1.drawn + 1 }, ⟨rfl, rfl, rfl, Nat.le_refl _, fun _ _ _ => rfl⟩⟩, rfl⟩
        have HQ0 := Lib.hid (show Below Y.1.heap.size Y.1 Q0.1 from hQ0 ▸ below_step Ya.2 ⟨rfl, rfl, rfl, Nat.le_refl _, fun _ _ => rfl⟩)
        rw [hQ0]
        clear hQ0
        refine late_quiet (by kernel_rfl) (fun _ _ d _ _ h => by cases d <;> exact h) ⟨Q0, rfl⟩ [0, 1, 2, 3, 4] 4 _ _ (by kernel_rfl) (by kernel_rfl) ?_
        change wpQuiet _ _ _ _ (_ :: _ :: _ :: _ :: _ :: []) _
        repeat go_big_quiet_step (fail)
        refine wpQuiet_nil ?_
        refine late_do (i := 5) _ rfl (by kernel_rfl) rfl (fun K hK => ?_)
        go_simp
        obtain ⟨V7, hV7, hb7, hs7, hl7⟩ := alloc_cells Q0.1 #[.int .i64 x.tm, .int .i64 x.x, .int .i64 x.y, .int .i64 x.z, .int .i64 x.pu, .int .i64 x.po, .int .i64 x.st] 72
        rw [hV7]
        have HC7 := Lib.hid (fun j u (hj : (smC x)[j]? = some u) => show V7.cell? ⟨Q0.1.heap.size, j, none⟩ = some u from hl7 j u (by rw [← hj]; simp [smC]))
        obtain ⟨Z7, rfl⟩ : ∃ Z : ExtO (fun q => NB ≤ q) Ya.1, V7 = Z.1 := ⟨⟨V7, Q0.2.trans (Kept.of_below hb7)⟩, rfl⟩
        have HB7 := Lib.hid (below_step HQ0.out hb7)
        have HO7 := Lib.hid (HOW.out.below HB7.out)
        have HA7 := Lib.hid (HAC.out.below HB7.out)
        refine hK _ _ (fun _ => ⟨Z7, rfl⟩) ?_
        clear hK K hV7 hs7 hl7 hb7
        try simp only [Act.put, List.setIfInBounds_toArray, List.set_cons_zero, List.set_cons_succ]
        refine late_do (i := 6) _ rfl (by kernel_rfl) rfl (fun K hK => ?_)
        refine wp_append_Sm _ _ rfl rfl HO7.out (p := x) rfl HC7.out (by have := HOL.out; omega) (by have := HYS.out; have := HB7.out.size; omega) (fun g' c3 w8 ho8 hg8 hor => ?_)
        try simp only [Act.put, List.setIfInBounds_toArray, List.set_cons_zero, List.set_cons_succ]
        obtain ⟨Z8, rfl⟩ : ∃ Z : ExtO (fun q => NB ≤ q) Ya.1, w8 = Z.1 := ⟨⟨w8, Z7.2.trans (Kept.of_grown hg8 (fun g e _ => (HO7.out.lt g e).1))⟩, rfl⟩
        refine hK _ _ (fun _ => ⟨Z8, rfl⟩) ?_
        clear hK K
        try simp only [Act.put, List.setIfInBounds_toArray, List.set_cons_zero, List.set_cons_succ]
        refine late_quiet (by kernel_rfl) (fun _ _ d _ _ h => by cases d <;> exact h) ⟨Z8, rfl⟩ [7] 1 _ _ (by kernel_rfl) (by kernel_rfl) ?_
        change wpQuiet _ _ _ _ (_ :: []) _
        repeat go_big_quiet_step (fail)
        refine wpQuiet_nil ?_
        have hA8 := HA7.out.kept (O := fun q => NB ≤ q) (Kept.of_grown hg8 (fun g e _ => (HO7.out.lt g e).1)) (by have := HBN.out; omega)
        have j8 := hA8.cell.2.2.2.1
        have f8 := hA8.free 3
        have hA9 := hA8.set3 (.slice (some ⟨g', 0, none⟩) (O.length + 1) c3)
        obtain ⟨W9, hW9⟩ : ∃ z, Z8.1.setCell ⟨BO, 3, none⟩ (.slice (some ⟨g', 0, none⟩) (O.length + 1) c3) = z := ⟨_, rfl⟩
        rw [hW9] at hA9
        have hk9 : Kept (fun q => q = BO) Z8.1 W9 := by rw [← hW9]; exact keep_set (O := fun q => q = BO) rfl
        have HO9 := Lib.hid (show Own smC 7 72 W9 NB (.slice (some ⟨g', 0, none⟩) (O.length + 1) c3) (O ++ [x]) from ho8.keepO hk9 (fun q hq e => by have := (ho8.lt q hq).1; have := HBN.out; omega))
        have HA9 := Lib.hid hA9
        have HK9 := Lib.hid (show Kept (fun q => q = BO) W6 W9 from ((Y.2.trans (Kept.of_below HB7.out)).grown hg8 (fun g e hlt => by have := (HO7.out.lt g e).1; have := HNB.out; omega)).trans hk9)
        clear ho8 hg8 hor hA8 hA9 hk9
        refine late_do (i := 8) _ rfl (by kernel_rfl) rfl (fun K hK => ?_)
        go_simp
        refine hK _ _ (fun h => nomatch (show true = false from h)) ?_
        clear hK K
        try simp only [Act.put, List.setIfInBounds_toArray, List.set_cons_zero, List.set_cons_succ]
        refine late_done (by kernel_rfl) ?_ _
        clear j8 f8 hW9
        go_wp2_with fail
        go_roundw
        case rel => exact ⟨xs, y :: ys, O ++ [x], _, _, cx - 1, cy, by rw [HNx.out], by rw [List.length_cons, HNy.out], by rw [HNx.out]; omega, by rw [List.length_cons, HNy.out]; omega, by rw [List.length_cons, HNx.out, HNy.out, List.length_append]; show O.length + 1 + nx + (ny + 1) ≤ _; omega, HTx, HYA, HS2, Lib.hid ⟨_, HA9.out, HO9.out⟩, HE2, ⟨W9, HK9.out⟩, rfl⟩
        case measure => show nx + (ny + 1) < nx + 1 + (ny + 1); omega
      · have q1 : decide (x.tm < y.tm + d) = false := by rw [decide_eq_false_iff_not]; exact hlt
        rw [if_neg hlt] at he
        by_cases hgt : y.tm + d < x.tm
        · have q2 : decide (y.tm + d < x.tm) = true := by rw [decide_eq_true_eq]; exact hgt
          rw [if_pos hgt] at he
          have HE2 := Lib.hid (show (O ++ [shB d y]) ++ mergeR d (x :: xs) ys = R from by
            rw [List.append_assoc]
            exact he)
          have HS2 := Lib.hid (And.intro (fun s h => HS.out.1 s h) (fun s h => HS.out.2 s (List.mem_cons_of_mem _ h)))
          have X0 := Ext.ex HCx0.out
          have X1 := Ext.ex HCx1.out
          have X2 := Ext.ex HCx2.out
          have X3 := Ext.ex HCx3.out
          have X4 := Ext.ex HCx4.out
          have X5 := Ext.ex HCx5.out
          have X6 := Ext.ex HCx6.out
          have Y0 := Ext.ex HCy0.out
          have Y1 := Ext.ex HCy1.out
          have Y2 := Ext.ex HCy2.out
          have Y3 := Ext.ex HCy3.out
          have Y4 := Ext.ex HCy4.out
          have Y5 := Ext.ex HCy5.out
          have Y6 := Ext.ex HCy6.out
          have k3 := HAC.out.cell.2.2.2.1
          have K3 := Ext.ex k3
          clear k3
          clear he hlt hgt HS
          go_wp2_with fail
          refine wp_region_ext (W := Y.1) ⟨Y.1, Below.refl _ _⟩ (by kernel_rfl) (by kernel_rfl) ?_
          repeat go_big_quiet_step (fail)
          refine wpQuiet_nil ?_
          rintro _ ⟨Ya, rfl⟩
          go_wp2_with fail
          refine wp_region_ext (W := Y.1) Ya (by kernel_rfl) (by kernel_rfl) ?_
          repeat go_big_quiet_step (fail)
          refine wpQuiet_nil ?_
          rintro _ ⟨Yb, rfl⟩
          obtain ⟨V6, hV6, hb6, hs6, ha6⟩ := alloc_sm Yb.1 y
          have ha7 := ha6.set0 (y.tm + d)
          obtain ⟨W7, hW7⟩ : ∃ z, V6.setCell ⟨Yb.1.heap.size, 0, none⟩ (.int .i64 (y.tm + d)) = z := ⟨_, rfl⟩
          rw [hW7] at ha7
          have hB7 : Below Yb.1.heap.size Yb.1 W7 := Kept.below hb6 (by rw [← hW7]; exact keep_set (O := fun q => q = Yb.1.heap.size) rfl) hb6.size (fun k hk e => by omega)
          have q0 := ha6.cell.1
          have f0 := ha6.free 0
          obtain ⟨p0, p1, p2, p3, p4, p5, p6⟩ := ha7.cell
          simp only at p0 p1 p2 p3 p4 p5 p6
          have hB8 := below_step Yb.2 hB7
          have k3 := (HAC.out.below hB8).cell.2.2.2.1
          obtain ⟨V8, hV8, hb8, hs8, hl8⟩ := alloc_cells W7 #[.int .i64 (y.tm + d), .int .i64 y.x, .int .i64 y.y, .int .i64 y.z, .int .i64 y.pu, .int .i64 y.po, .int .i64 y.st] 72
          have HC7 := Lib.hid (fun j u (hj : (smC (shB d y))[j]? = some u) => show V8.cell? ⟨W7.heap.size, j, none⟩ = some u from hl8 j u (by rw [← hj]; simp [smC, shB]))
          have HB7 := Lib.hid (below_step hB8 hb8)
          have HO7 := Lib.hid (HOW.out.below HB7.out)
          have HA7 := Lib.hid (HAC.out.below HB7.out)
          clear hb6 hs6 ha6 ha7 hB7 hB8 hb8 hs8 hl8
          go_wp2_with (at_builtin; refine append_Sm rfl _ _ rfl rfl HO7.out (p := shB d y) rfl HC7.out (by have := HOL.out; omega) (by have := HYS.out; have := HB7.out.size; omega) (fun g' c3 w8 ho8 hg8 hor => ?_); have HA8 := Lib.hid (HA7.out.kept (O := fun q => NB ≤ q) (Kept.of_grown hg8 (fun g e _ => (HO7.out.lt g e).1)) (by have := HBN.out; omega)); have j8 := HA8.out.cell.2.2.2.1; have f8 := HA8.out.free 3; obtain ⟨W9, hW9⟩ : ∃ z, w8.setCell ⟨BO, 3, none⟩ (.slice (some ⟨g', 0, none⟩) (O.length + 1) c3) = z := ⟨_, rfl⟩)
          have ha9 := HA8.out.set3 (.slice (some ⟨g', 0, none⟩) (O.length + 1) c3)
          rw [hW9] at ha9
          have hk9 : Kept (fun q => q = BO) w8 W9 := by rw [← hW9]; exact keep_set (O := fun q => q = BO) rfl
          have HO9 := Lib.hid (show Own smC 7 72 W9 NB (.slice (some ⟨g', 0, none⟩) (O.length + 1) c3) (O ++ [shB d y]) from ho8.keepO hk9 (fun q hq e => by have := (ho8.lt q hq).1; have := HBN.out; omega))
          have HA9 := Lib.hid ha9
          have HK9 := Lib.hid (show Kept (fun q => q = BO) W6 W9 from ((Y.2.trans (Kept.of_below HB7.out)).grown hg8 (fun g e hlt => by have := (HO7.out.lt g e).1; have := HNB.out; omega)).trans hk9)
          clear ho8 hg8 hor ha9 hk9 hW9 j8 f8
          go_roundw
          case rel => exact ⟨x :: xs, ys, O ++ [shB d y], _, _, cx, cy - 1, by rw [List.length_cons, HNx.out], by rw [HNy.out], by rw [List.length_cons, HNx.out]; omega, by rw [HNy.out]; omega, by rw [List.length_cons, HNx.out, HNy.out, List.length_append]; show O.length + 1 + (nx + 1) + ny ≤ _; omega, HXA, HTy, HS2, Lib.hid ⟨_, HA9.out, HO9.out⟩, HE2, ⟨W9, HK9.out⟩, rfl⟩
          case measure => show nx + 1 + ny < nx + 1 + (ny + 1); omega
        · have q2 : decide (y.tm + d < x.tm) = false := by rw [decide_eq_false_iff_not]; exact hgt
          rw [if_neg hgt] at he
          have hfe : fillS x y = ⟨x.tm, x.x, x.y, x.z, orNeg x.pu y.pu, orNeg x.po y.po, orNeg x.st y.st⟩ := rfl
          have hDF := fun W => rfilled_any x y W
          obtain ⟨p4, hp4⟩ : ∃ z, orNeg x.pu y.pu = z := ⟨_, rfl⟩
          obtain ⟨p5, hp5⟩ : ∃ z, orNeg x.po y.po = z := ⟨_, rfl⟩
          obtain ⟨p6, hp6⟩ : ∃ z, orNeg x.st y.st = z := ⟨_, rfl⟩
          rw [hp4, hp5, hp6] at hfe
          rw [hfe] at hDF he
          have DF := Lib.hid (fun W => show Calls Tryz.prog 57 #[.agg #[.int .i64 x.tm, .int .i64 x.x, .int .i64 x.y, .int .i64 x.z, .int .i64 x.pu, .int .i64 x.po, .int .i64 x.st], .agg #[.int .i64 y.tm, .int .i64 y.x, .int .i64 y.y, .int .i64 y.z, .int .i64 y.pu, .int .i64 y.po, .int .i64 y.st]] W fun e w' => e = .returned (.agg #[.int .i64 x.tm, .int .i64 x.x, .int .i64 x.y, .int .i64 x.z, .int .i64 p4, .int .i64 p5, .int .i64 p6]) ∧ Below W.heap.size W w' from hDF W)
          clear hfe hDF hp4 hp5 hp6
          have HE2 := Lib.hid (show (O ++ [⟨x.tm, x.x, x.y, x.z, p4, p5, p6⟩]) ++ mergeR d xs ys = R from by
            rw [List.append_assoc]
            exact he)
          have HS2 := Lib.hid (And.intro (fun s h => HS.out.1 s (List.mem_cons_of_mem _ h)) (fun s h => HS.out.2 s (List.mem_cons_of_mem _ h)))
          have X0 := Ext.ex HCx0.out
          have X1 := Ext.ex HCx1.out
          have X2 := Ext.ex HCx2.out
          have X3 := Ext.ex HCx3.out
          have X4 := Ext.ex HCx4.out
          have X5 := Ext.ex HCx5.out
          have X6 := Ext.ex HCx6.out
          have Y0 := Ext.ex HCy0.out
          have Y1 := Ext.ex HCy1.out
          have Y2 := Ext.ex HCy2.out
          have Y3 := Ext.ex HCy3.out
          have Y4 := Ext.ex HCy4.out
          have Y5 := Ext.ex HCy5.out
          have Y6 := Ext.ex HCy6.out
          have k3 := HAC.out.cell.2.2.2.1
          have K3 := Ext.ex k3
          clear k3
          clear he hlt hgt HS
          go_wp2_with fail
          refine wp_region_ext (W := Y.1) ⟨Y.1, Below.refl _ _⟩ (by kernel_rfl) (by kernel_rfl) ?_
          repeat go_big_quiet_step (fail)
          refine wpQuiet_nil ?_
          rintro _ ⟨Yq, rfl⟩
          go_wp2_with fail
          refine wp_region_ext (W := Y.1) Yq (by kernel_rfl) (by kernel_rfl) ?_
          repeat go_big_quiet_step (fail)
          refine wpQuiet_nil ?_
          rintro _ ⟨Ya, rfl⟩
          have X0' := ExtO.ex (O := fun q => NB ≤ q) (by have := HBN.out; have := HLx.out; simp only; omega) (X0 Ya)
          have X1' := ExtO.ex (O := fun q => NB ≤ q) (by have := HBN.out; have := HLx.out; simp only; omega) (X1 Ya)
          have X2' := ExtO.ex (O := fun q => NB ≤ q) (by have := HBN.out; have := HLx.out; simp only; omega) (X2 Ya)
          have X3' := ExtO.ex (O := fun q => NB ≤ q) (by have := HBN.out; have := HLx.out; simp only; omega) (X3 Ya)
          have X4' := ExtO.ex (O := fun q => NB ≤ q) (by have := HBN.out; have := HLx.out; simp only; omega) (X4 Ya)
          have X5' := ExtO.ex (O := fun q => NB ≤ q) (by have := HBN.out; have := HLx.out; simp only; omega) (X5 Ya)
          have X6' := ExtO.ex (O := fun q => NB ≤ q) (by have := HBN.out; have := HLx.out; simp only; omega) (X6 Ya)
          have Y0' := ExtO.ex (O := fun q => NB ≤ q) (by have := HBN.out; have := HLy.out; simp only; omega) (Y0 Ya)
          have Y1' := ExtO.ex (O := fun q => NB ≤ q) (by have := HBN.out; have := HLy.out; simp only; omega) (Y1 Ya)
          have Y2' := ExtO.ex (O := fun q => NB ≤ q) (by have := HBN.out; have := HLy.out; simp only; omega) (Y2 Ya)
          have Y3' := ExtO.ex (O := fun q => NB ≤ q) (by have := HBN.out; have := HLy.out; simp only; omega) (Y3 Ya)
          have Y4' := ExtO.ex (O := fun q => NB ≤ q) (by have := HBN.out; have := HLy.out; simp only; omega) (Y4 Ya)
          have Y5' := ExtO.ex (O := fun q => NB ≤ q) (by have := HBN.out; have := HLy.out; simp only; omega) (Y5 Ya)
          have Y6' := ExtO.ex (O := fun q => NB ≤ q) (by have := HBN.out; have := HLy.out; simp only; omega) (Y6 Ya)
          have K3' := ExtO.ex (O := fun q => NB ≤ q) (by have := HBN.out; simp only; omega) (K3 Ya)
          clear X0 X1 X2 X3 X4 X5 X6 Y0 Y1 Y2 Y3 Y4 Y5 Y6 K3
          go_wp2_with fail
          refine late_start (s := 12) (C := fun w' => ∃ Z : ExtO (fun q => NB ≤ q) Ya.1, w' = Z.1) (by kernel_rfl) ?_
          obtain ⟨Q0, hQ0⟩ : ∃ Z : ExtO (fun q => NB ≤ q) Ya.1, ({ Ya.1 with drawn := Ya.1.drawn + 1 } : World) = Z.1 := ⟨⟨{ Ya.1 with drawn := Ya.1.drawn + 1 }, ⟨rfl, rfl, rfl, Nat.le_refl _, fun _ _ _ => rfl⟩⟩, rfl⟩
          have HQ0 := Lib.hid (show Below Y.1.heap.size Y.1 Q0.1 from hQ0 ▸ below_step Ya.2 ⟨rfl, rfl, rfl, Nat.le_refl _, fun _ _ => rfl⟩)
          rw [hQ0]
          clear hQ0
          refine late_quiet (by kernel_rfl) (fun _ _ d _ _ h => by cases d <;> exact h) ⟨Q0, rfl⟩ [0, 1, 2, 3, 4, 5, 6, 7] 5 _ _ (by kernel_rfl) (by kernel_rfl) ?_
          change wpQuiet _ _ _ _ (_ :: _ :: _ :: _ :: _ :: _ :: _ :: _ :: []) _
          repeat go_big_quiet_step (fail)
          refine wpQuiet_nil ?_
          refine late_do (i := 8) _ rfl (by kernel_rfl) rfl (fun K hK => ?_)
          go_simp
          refine (DF.out Q0.1).mono ?_
          rintro e w6 ⟨rfl, hb6⟩
          obtain ⟨Q1, rfl⟩ : ∃ Z : ExtO (fun q => NB ≤ q) Ya.1, w6 = Z.1 := ⟨⟨w6, Q0.2.trans (Kept.of_below hb6)⟩, rfl⟩
          have HQ1 := Lib.hid (below_step HQ0.out hb6)
          refine hK _ _ (fun _ => ⟨Q1, rfl⟩) ?_
          clear hK K hb6
          try simp only [Act.put, List.setIfInBounds_toArray, List.set_cons_zero, List.set_cons_succ]
          refine late_do (i := 9) _ rfl (by kernel_rfl) rfl (fun K hK => ?_)
          go_simp
          obtain ⟨V7, hV7, hb7, hs7, hl7⟩ := alloc_cells Q1.1 #[.int .i64 x.tm, .int .i64 x.x, .int .i64 x.y, .int .i64 x.z, .int .i64 p4, .int .i64 p5, .int .i64 p6] 72
          rw [hV7]
          have HC7 := Lib.hid (fun j u (hj : (smC (⟨x.tm, x.x, x.y, x.z, p4, p5, p6⟩ : Sm))[j]? = some u) => show V7.cell? ⟨Q1.1.heap.size, j, none⟩ = some u from hl7 j u (by rw [← hj]; simp [smC]))
          obtain ⟨Z7, rfl⟩ : ∃ Z : ExtO (fun q => NB ≤ q) Ya.1, V7 = Z.1 := ⟨⟨V7, Q1.2.trans (Kept.of_below hb7)⟩, rfl⟩
          have HB7 := Lib.hid (below_step HQ1.out hb7)
          have HO7 := Lib.hid (HOW.out.below HB7.out)
          have HA7 := Lib.hid (HAC.out.below HB7.out)
          refine hK _ _ (fun _ => ⟨Z7, rfl⟩) ?_
          clear hK K hV7 hs7 hl7 hb7
          try simp only [Act.put, List.setIfInBounds_toArray, List.set_cons_zero, List.set_cons_succ]
          refine late_do (i := 10) _ rfl (by kernel_rfl) rfl (fun K hK => ?_)
          refine wp_append_Sm _ _ rfl rfl HO7.out (p := (⟨x.tm, x.x, x.y, x.z, p4, p5, p6⟩ : Sm)) rfl HC7.out (by have := HOL.out; omega) (by have := HYS.out; have := HB7.out.size; omega) (fun g' c3 w8 ho8 hg8 hor => ?_)
          try simp only [Act.put, List.setIfInBounds_toArray, List.set_cons_zero, List.set_cons_succ]
          obtain ⟨Z8, rfl⟩ : ∃ Z : ExtO (fun q => NB ≤ q) Ya.1, w8 = Z.1 := ⟨⟨w8, Z7.2.trans (Kept.of_grown hg8 (fun g e _ => (HO7.out.lt g e).1))⟩, rfl⟩
          refine hK _ _ (fun _ => ⟨Z8, rfl⟩) ?_
          clear hK K
          try simp only [Act.put, List.setIfInBounds_toArray, List.set_cons_zero, List.set_cons_succ]
          refine late_quiet (by kernel_rfl) (fun _ _ d _ _ h => by cases d <;> exact h) ⟨Z8, rfl⟩ [11] 1 _ _ (by kernel_rfl) (by kernel_rfl) ?_
          change wpQuiet _ _ _ _ (_ :: []) _
          repeat go_big_quiet_step (fail)
          refine wpQuiet_nil ?_
          have hA8 := HA7.out.kept (O := fun q => NB ≤ q) (Kept.of_grown hg8 (fun g e _ => (HO7.out.lt g e).1)) (by have := HBN.out; omega)
          have j8 := hA8.cell.2.2.2.1
          have f8 := hA8.free 3
          have hA9 := hA8.set3 (.slice (some ⟨g', 0, none⟩) (O.length + 1) c3)
          obtain ⟨W9, hW9⟩ : ∃ z, Z8.1.setCell ⟨BO, 3, none⟩ (.slice (some ⟨g', 0, none⟩) (O.length + 1) c3) = z := ⟨_, rfl⟩
          rw [hW9] at hA9
          have hk9 : Kept (fun q => q = BO) Z8.1 W9 := by rw [← hW9]; exact keep_set (O := fun q => q = BO) rfl
          have HO9 := Lib.hid (show Own smC 7 72 W9 NB (.slice (some ⟨g', 0, none⟩) (O.length + 1) c3) (O ++ [(⟨x.tm, x.x, x.y, x.z, p4, p5, p6⟩ : Sm)]) from ho8.keepO hk9 (fun q hq e => by have := (ho8.lt q hq).1; have := HBN.out; omega))
          have HA9 := Lib.hid hA9
          have HK9 := Lib.hid (show Kept (fun q => q = BO) W6 W9 from ((Y.2.trans (Kept.of_below HB7.out)).grown hg8 (fun g e hlt => by have := (HO7.out.lt g e).1; have := HNB.out; omega)).trans hk9)
          clear ho8 hg8 hor hA8 hA9 hk9
          refine late_do (i := 12) _ rfl (by kernel_rfl) rfl (fun K hK => ?_)
          go_simp
          refine hK _ _ (fun h => nomatch (show true = false from h)) ?_
          clear hK K
          try simp only [Act.put, List.setIfInBounds_toArray, List.set_cons_zero, List.set_cons_succ]
          refine late_done (by kernel_rfl) ?_ _
          clear j8 f8 hW9
          go_wp2_with fail
          refine wp_region_ext (W := W9) ⟨W9, Below.refl _ _⟩ (by kernel_rfl) (by kernel_rfl) ?_
          repeat go_big_quiet_step (fail)
          refine wpQuiet_nil ?_
          rintro _ ⟨Yc, rfl⟩
          have HAd := Lib.hid (HA9.out.below Yc.2)
          have HOd := Lib.hid (HO9.out.below Yc.2)
          have HKd := Lib.hid (HK9.out.trans (Kept.of_below Yc.2))
          clear HA9 HO9 HK9
          go_wp2_with fail
          go_roundw
          case rel => exact ⟨xs, ys, O ++ [⟨x.tm, x.x, x.y, x.z, p4, p5, p6⟩], _, _, cx - 1, cy - 1, by rw [HNx.out], by rw [HNy.out], by rw [HNx.out]; omega, by rw [HNy.out]; omega, by rw [HNx.out, HNy.out, List.length_append]; show O.length + 1 + nx + ny ≤ _; omega, HTx, HTy, HS2, Lib.hid ⟨_, HAd.out, HOd.out⟩, HE2, ⟨Yc.1, HKd.out⟩, rfl⟩
          case measure => show nx + ny < nx + 1 + (ny + 1); omega
end Go.Proofs.YtjnfccphodjfiaaGreat

/- told: some edits tidied as the document tells (Tsh's lines, for laws that need no more of Tidy). -/
namespace Go.Proofs.YtjnfccphodjfiaaGreat
open Go.RowKit Go.BigFrame
open Tr (Ed)

theorem ERow.mk2 {W : World} {g : Nat} {l : List Ed} (hg : g < W.heap.size) (hc : ∀ i v, (l.flatMap edC)[i]? = some v → W.cell? ⟨g, i, none⟩ = some v) : ERow W (some ⟨g, 0, none⟩) l := by
  refine ⟨fun _ => ⟨g, 0, rfl, hg, fun i x hx j v hv => ?_⟩⟩
  rw [Nat.zero_add]
  exact hc _ v (flatEd_get l i x hx j v hv)
def sy1 : ByteArray := ⟨#[120]⟩
def toldM : List Ed := [⟨6, 5, 0, 0, noB⟩, ⟨3, 0, 0, 0, sy1⟩, ⟨5, 10, 0, 0, noB⟩, ⟨6, -5, 0, 0, noB⟩, ⟨4, 0, 0, 0, sy1⟩, ⟨5, 20, 0, 0, noB⟩]
theorem toldM_chk : chkEL toldM = 0 := by kernel_rfl
theorem toldM_tidy : tidyR toldM = [⟨5, 30, 0, 0, noB⟩] := by kernel_rfl
theorem toldM_text : ∀ x, x ∈ toldM → x.s.size ≤ maxLen := by
  intro x hx
  unfold toldM at hx
  simp only [List.mem_cons, List.not_mem_nil, or_false] at hx
  unfold maxLen
  rcases hx with rfl | rfl | rfl | rfl | rfl | rfl
  · show (0 : Nat) ≤ _; omega
  · show (1 : Nat) ≤ _; omega
  · show (0 : Nat) ≤ _; omega
  · show (0 : Nat) ≤ _; omega
  · show (1 : Nat) ≤ _; omega
  · show (0 : Nat) ≤ _; omega
set_option maxHeartbeats 1000000 in
set_option maxRecDepth 100000 in
theorem told2_any (w : World) : Calls Tryz.prog 12 #[] w fun e w' => e = .returned (.bool true) ∧ Below w.heap.size w w' := by
  obtain ⟨V1, hV1, hb1, hs1, hl1⟩ := alloc_cells w #[.int .i64 6, .int .i64 5, .int .i64 0, .int .i64 0, .string noB, .int .i64 3, .int .i64 0, .int .i64 0, .int .i64 0, .string sy1, .int .i64 5, .int .i64 10, .int .i64 0, .int .i64 0, .string noB, .int .i64 6, .int .i64 (-5), .int .i64 0, .int .i64 0, .string noB, .int .i64 4, .int .i64 0, .int .i64 0, .int .i64 0, .string sy1, .int .i64 5, .int .i64 20, .int .i64 0, .int .i64 0, .string noB] 28
  have hrow : ERow V1 (some ⟨w.heap.size, 0, none⟩) toldM := .mk2 (by omega) (fun i v hv => hl1 i v (by
    rw [← hv]
    show _ = (toldM.flatMap edC)[i]?
    rw [show toldM.flatMap edC = (#[.int .i64 6, .int .i64 5, .int .i64 0, .int .i64 0, .string noB, .int .i64 3, .int .i64 0, .int .i64 0, .int .i64 0, .string sy1, .int .i64 5, .int .i64 10, .int .i64 0, .int .i64 0, .string noB, .int .i64 6, .int .i64 (-5), .int .i64 0, .int .i64 0, .string noB, .int .i64 4, .int .i64 0, .int .i64 0, .int .i64 0, .string sy1, .int .i64 5, .int .i64 20, .int .i64 0, .int .i64 0, .string noB] : Array Value).toList from rfl, Array.getElem?_toList]))
  have DT := Lib.hid (tidy_any (some ⟨w.heap.size, 0, none⟩) toldM 6 V1 hrow toldM_text)
  rw [toldM_tidy, toldM_chk, show toldM.length = 6 from rfl] at DT
  have HV1 := Lib.hid hV1
  have HB1 := Lib.hid hb1
  clear hV1 hb1 hs1 hl1 hrow
  unfold noB sy1 at *
  go_enter Tryz.func12, Tryz.ntmps12
  go_wp2_with fail
  rw [HV1.out]
  refine DT.out.mono ?_
  rintro e w1 ⟨⟨v, rfl, ho⟩, hb⟩
  obtain ⟨a1, c1, rfl, _, hr1, _⟩ := ho.row
  obtain ⟨V2, hV2, hb2, hs2, hl2⟩ := alloc_cells w1 #[.int .i64 5, .int .i64 30, .int .i64 0, .int .i64 0, .string ⟨#[]⟩] 28
  have hrow2 : ERow V2 (some ⟨w1.heap.size, 0, none⟩) [⟨5, 30, 0, 0, ⟨#[]⟩⟩] := .mk2 (by omega) (fun i v hv => hl2 i v (by
    rw [← hv]
    show _ = ([⟨5, 30, 0, 0, ⟨#[]⟩⟩].flatMap edC)[i]?
    rw [show [⟨5, 30, 0, 0, ⟨#[]⟩⟩].flatMap edC = (#[.int .i64 5, .int .i64 30, .int .i64 0, .int .i64 0, .string ⟨#[]⟩] : Array Value).toList from rfl, Array.getElem?_toList]))
  have DQ := Lib.hid (equalE_any [⟨5, 30, 0, 0, ⟨#[]⟩⟩] [⟨5, 30, 0, 0, ⟨#[]⟩⟩] a1 (some ⟨w1.heap.size, 0, none⟩) c1 1 V2 (hr1.below hb2) hrow2 (by simp))
  rw [eqEs_self] at DQ
  simp only [List.length_singleton] at DQ
  have HB2 := Lib.hid (below_step (below_step HB1.out hb) hb2)
  have HV2 := Lib.hid hV2
  clear ho hb hr1 hV2 hb2 hs2 hl2 hrow2 DT
  simp only [List.length_singleton]
  go_wp2_with fail
  rw [HV2.out]
  refine DQ.out.mono ?_
  rintro e w3 ⟨rfl, q, rfl⟩
  go_wp2_with fail
  go_ret
  exact ⟨rfl, below_drewN HB2.out q⟩
end Go.Proofs.YtjnfccphodjfiaaGreat

/- Merge and its reference hand back one activity and one error; the law TrailMergeMatchesSpec, walked. -/
namespace Go.Proofs.YtjnfccphodjfiaaGreat
open Go.RowKit Go.BigFrame
open Tr (inR)

/-- the activity without anything -/
def Az : Acv := ⟨⟨#[]⟩, 0, 0, [], [], []⟩
theorem actV_z : actV Az none none none 0 0 0 = ac0 := rfl
theorem Rw.nil_ {α : Type} {C : α → List Value} {k : Nat} {w : World} {a : Option Addr} : Rw C k w a [] := ⟨fun h => absurd h (by simp)⟩
theorem actIn_z (w : World) : ActIn w Az none none none := ⟨Rw.nil_, Rw.nil_, Rw.nil_, by show (0 : Nat) ≤ _; omega, fun p h => by (cases h), fun p h => by (cases h), by show ((0 : Nat) : Int) ≤ _; omega, by show ((0 : Nat) : Int) ≤ _; omega, by show ((0 : Nat) : Int) ≤ _; omega⟩
/-- an activity and an error are handed back -/
def ActRes (Z : Acv) (er : Int) (w : World) (e : Ending) (w' : World) : Prop :=
  Below w.heap.size w w' ∧ ∃ a b c ca cb cc, e = .returned (.tuple #[actV Z a b c ca cb cc, .int .i64 er]) ∧ ActIn w' Z a b c
theorem ActRes.bad {w : World} {er : Int} {w' : World} (hb : Below w.heap.size w w') : ActRes Az er w (.returned (.tuple #[ac0, .int .i64 er])) w' := ⟨hb, none, none, none, 0, 0, 0, by rw [actV_z], actIn_z w'⟩
def okZ (Z : Acv) : Acv := if chkA Z = 0 then Z else Az
theorem ActRet.res {Z : Acv} {w : World} {e : Ending} {w' : World} (h : ActRet Z w e w') : ActRes (okZ Z) (chkA Z) w e w' := by
  obtain ⟨hb, er, her, h⟩ := h
  unfold okZ
  rw [her]
  rcases h with ⟨h1, rfl⟩ | ⟨rfl, a, b, c, ca, cb, cc, rfl, hin, _⟩
  · rw [if_neg h1]
    exact ActRes.bad hb
  · rw [if_pos rfl]
    exact ⟨hb, a, b, c, ca, cb, cc, rfl, hin⟩
theorem okZ_len (Z : Acv) : (okZ Z).sm.length ≤ 20000 ∧ (okZ Z).lp.length ≤ 200 ∧ (okZ Z).tg.length ≤ 20 := by
  unfold okZ
  by_cases h : chkA Z = 0
  · rw [if_pos h]
    have := chkA_zero.1 h
    exact ⟨this.nsm, this.nlp, this.ntg⟩
  · rw [if_neg h]
    exact ⟨Nat.zero_le _, Nat.zero_le _, Nat.zero_le _⟩
/-- what Merge hands back: its error, its activity -/
def mgL (A B : Acv) (shift : Int) : List Sm := mergeR (byR A B shift) A.sm B.sm
def mgT (A B : Acv) : List ByteArray := mergeT A.tg B.tg
def mgBig (A B : Acv) (shift : Int) : Prop := 20000 < (mgL A B shift).length ∨ 20 < (mgT A B).length
noncomputable def mgEE (A B : Acv) (shift : Int) : Int := by
  classical
  exact if mgE A B shift ≠ 0 then mgE A B shift else if mgBig A B shift then 3 else chkA (rmgZ A (mgL A B shift) (mgT A B))
noncomputable def mgZZ (A B : Acv) (shift : Int) : Acv := by
  classical
  exact if mgE A B shift ≠ 0 ∨ mgBig A B shift then Az else okZ (rmgZ A (mgL A B shift) (mgT A B))
theorem mgZZ_len (A B : Acv) (shift : Int) : (mgZZ A B shift).sm.length ≤ 20000 ∧ (mgZZ A B shift).lp.length ≤ 200 ∧ (mgZZ A B shift).tg.length ≤ 20 := by
  unfold mgZZ
  split
  · exact ⟨Nat.zero_le _, Nat.zero_le _, Nat.zero_le _⟩
  · exact okZ_len _
theorem mgBad {A B : Acv} {shift : Int} (h : mgE A B shift ≠ 0) : mgEE A B shift = mgE A B shift ∧ mgZZ A B shift = Az := by
  unfold mgEE mgZZ
  exact ⟨if_pos h, if_pos (Or.inl h)⟩
theorem mgGreat {A B : Acv} {shift : Int} (h : mgE A B shift = 0) (h2 : mgBig A B shift) : mgEE A B shift = 3 ∧ mgZZ A B shift = Az := by
  unfold mgEE mgZZ
  exact ⟨by rw [if_neg (by simpa using h), if_pos h2], if_pos (Or.inr h2)⟩
theorem mgFine {A B : Acv} {shift : Int} (h : mgE A B shift = 0) (h2 : ¬ mgBig A B shift) : mgEE A B shift = chkA (rmgZ A (mgL A B shift) (mgT A B)) ∧ mgZZ A B shift = okZ (rmgZ A (mgL A B shift) (mgT A B)) := by
  unfold mgEE mgZZ
  exact ⟨by rw [if_neg (by simpa using h), if_neg h2], if_neg (fun e => e.elim (fun k => k h) h2)⟩
theorem merge_res (A B : Acv) (a b c a' b' c' : Option Addr) (ca cb cc ca' cb' cc' : Nat) (shift : Int) (w : World) (hA : ActIn w A a b c) (hB : ActIn w B a' b' c') :
    Calls Tryz.prog 15 #[actV A a b c ca cb cc, actV B a' b' c' ca' cb' cc', .int .i64 shift] w fun e w' => ActRes (mgZZ A B shift) (mgEE A B shift) w e w' := by
  refine (merge_any A B a b c a' b' c' ca cb cc ca' cb' cc' shift w hA hB).mono fun e w' h => ?_
  rcases h with ⟨h1, rfl, hb⟩ | ⟨h0, L, T, hM, h⟩
  · obtain ⟨e1, e2⟩ := mgBad h1
    rw [e1, e2]
    exact ActRes.bad hb
  · obtain ⟨oA, oB, _⟩ := mgE_ok h0
    have e1 : mgL A B shift = L.map (backS A.start) := mergeR_is hM oA.sm oB.sm
    have e2 : mgT A B = T := mergeT_is hM oA.tg oB.tg
    have e3 : mgBig A B shift ↔ (20000 < L.length ∨ 20 < T.length) := by
      unfold mgBig
      rw [e1, e2, List.length_map]
    rcases h with ⟨h1, rfl, hb⟩ | ⟨h1, h⟩
    · obtain ⟨k1, k2⟩ := mgGreat h0 (e3.2 h1)
      rw [k1, k2]
      exact ActRes.bad hb
    · obtain ⟨k1, k2⟩ := mgFine h0 (fun h => h1 (e3.1 h))
      rw [k1, k2, e1, e2, rmgZ_is]
      exact h.res
theorem rmerge_res (A B : Acv) (a b c a' b' c' : Option Addr) (ca cb cc ca' cb' cc' : Nat) (shift : Int) (w : World) (hA : ActIn w A a b c) (hB : ActIn w B a' b' c') (la : A.sm.length ≤ ca) (lc : A.tg.length ≤ cc) (la' : B.sm.length ≤ ca') (lc' : B.tg.length ≤ cc') :
    Calls Tryz.prog 16 #[actV A a b c ca cb cc, actV B a' b' c' ca' cb' cc', .int .i64 shift] w fun e w' => ActRes (mgZZ A B shift) (mgEE A B shift) w e w' := by
  by_cases h0 : mgE A B shift = 0
  · obtain ⟨oA, oB, hsp, h1, h2⟩ := mgE_ok h0
    refine (rmergeOk_any A B a b c a' b' c' ca cb cc ca' cb' cc' shift w hA hB la lc la' lc' oA oB hsp h1 h2).mono fun e w' h => ?_
    rcases h with ⟨h1, rfl, hb⟩ | ⟨h1, h⟩
    · obtain ⟨k1, k2⟩ := mgGreat h0 h1
      rw [k1, k2]
      exact ActRes.bad hb
    · obtain ⟨k1, k2⟩ := mgFine h0 h1
      rw [k1, k2]
      exact h.res
  · refine (rmergeBad_any A B a b c a' b' c' ca cb cc ca' cb' cc' shift w hA hB h0).mono fun e w' h => ?_
    obtain ⟨rfl, hb⟩ := h
    obtain ⟨e1, e2⟩ := mgBad h0
    rw [e1, e2]
    exact ActRes.bad hb
set_option maxHeartbeats 8000000 in
set_option maxRecDepth 100000 in
theorem mergeSpec_law (A B : Acv) (a b c a' b' c' : Option Addr) (ca cb cc ca' cb' cc' : Nat) (shift : Int) (w : World) (hA : ActIn w A a b c) (hB : ActIn w B a' b' c') (la : A.sm.length ≤ ca) (lc : A.tg.length ≤ cc) (la' : B.sm.length ≤ ca') (lc' : B.tg.length ≤ cc') :
    Calls Tryz.prog 5 #[actV A a b c ca cb cc, actV B a' b' c' ca' cb' cc', .int .i64 shift] w fun e w' => e = .returned (.bool true) ∧ Below w.heap.size w w' := by
  obtain ⟨V0, hV0, hb0, hs0, ha0⟩ := alloc_ac w A.name A.sport A.start (.slice a A.sm.length ca) (.slice b A.lp.length cb) (.slice c A.tg.length cc)
  obtain ⟨V1, hV1, hb1, hs1, ha1⟩ := alloc_ac V0 B.name B.sport B.start (.slice a' B.sm.length ca') (.slice b' B.lp.length cb') (.slice c' B.tg.length cc')
  rw [hs0] at ha1
  have hA0 := ha0.below hb1
  have HB1 := Lib.hid (below_step hb0 hb1)
  obtain ⟨l1, l2, l3⟩ := mgZZ_len A B shift
  have hD := fun X : Ext V1 => merge_res A B a b c a' b' c' ca cb cc ca' cb' cc' shift X.1 ((hA.below HB1.out).below X.2) ((hB.below HB1.out).below X.2)
  have hR := fun X : Ext V1 => rmerge_res A B a b c a' b' c' ca cb cc ca' cb' cc' shift X.1 ((hA.below HB1.out).below X.2) ((hB.below HB1.out).below X.2) la lc la' lc'
  obtain ⟨Z, hZ⟩ : ∃ z, mgZZ A B shift = z := ⟨_, rfl⟩
  obtain ⟨er, her⟩ : ∃ z, mgEE A B shift = z := ⟨_, rfl⟩
  rw [hZ, her] at hD hR
  rw [hZ] at l1 l2 l3
  have HLEN := Lib.hid (And.intro l1 (And.intro l2 l3))
  have DM := Lib.hid hD
  have DR := Lib.hid hR
  obtain ⟨z0, z1, z2, z3, z4, z5⟩ := hA0.cell
  have A0 := Ext.ex z0
  have A1 := Ext.ex z1
  have A2 := Ext.ex z2
  have A3 := Ext.ex z3
  have A4 := Ext.ex z4
  have A5 := Ext.ex z5
  obtain ⟨y0, y1, y2, y3, y4, y5⟩ := ha1.cell
  have B0 := Ext.ex y0
  have B1 := Ext.ex y1
  have B2 := Ext.ex y2
  have B3 := Ext.ex y3
  have B4 := Ext.ex y4
  have B5 := Ext.ex y5
  have be : (er == er) = true := by simp
  clear hA hB hb0 hb1 ha0 ha1 hA0 hs1 z0 z1 z2 z3 z4 z5 y0 y1 y2 y3 y4 y5 hD hR hZ her l1 l2 l3 la lc la' lc'
  unfold actV at DM DR ⊢
  go_enter Tryz.func5, Tryz.ntmps5
  go_upto_region 1 with (fail)
  clear hV0 hV1 hs0
  refine ext_wp (W := V1) fun X => ?_
  go_wp2_with fail
  refine (DM.out X).mono ?_
  rintro e w2 ⟨hb2, za, zb, zc, zca, zcb, zcc, rfl, hz2⟩
  unfold actV
  obtain ⟨W3, hW3, hwb3, hws3, hac3⟩ := alloc_ac w2 Z.name Z.sport Z.start (.slice za Z.sm.length zca) (.slice zb Z.lp.length zcb) (.slice zc Z.tg.length zcc)
  have hz3 := hz2.below hwb3
  obtain ⟨X3, rfl⟩ : ∃ Y : Ext V1, W3 = Y.1 := ⟨⟨W3, below_step (below_step X.2 hb2) hwb3⟩, rfl⟩
  have HZ3 := Lib.hid hz3
  have HAC3 := Lib.hid hac3
  obtain ⟨T1, hT1⟩ : ∃ q, w2.heap.size = q := ⟨_, rfl⟩
  rw [hT1] at HAC3
  clear hb2 hz2 hwb3 hws3 hac3 hz3
  go_upto_region 2 with (fail)
  clear hW3 hT1
  go_wp2_with fail
  refine (DR.out X3).mono ?_
  rintro e w4 ⟨hb4, ya, yb, yc, yca, ycb, ycc, rfl, hy4⟩
  unfold actV
  obtain ⟨W5, hW5, hwb5, hws5, hac5⟩ := alloc_ac w4 Z.name Z.sport Z.start (.slice ya Z.sm.length yca) (.slice yb Z.lp.length ycb) (.slice yc Z.tg.length ycc)
  have HZ5 := Lib.hid ((HZ3.out.below hb4).below hwb5)
  have HY5 := Lib.hid (hy4.below hwb5)
  have HA3 := Lib.hid ((HAC3.out.below hb4).below hwb5)
  have HA5 := Lib.hid hac5
  have HB5 := Lib.hid (below_step (below_step (below_step HB1.out X3.2) hb4) hwb5)
  obtain ⟨T2, hT2⟩ : ∃ q, w4.heap.size = q := ⟨_, rfl⟩
  rw [hT2] at HA5
  clear hb4 hy4 hwb5 hws5 hac5 HAC3 HZ3
  go_upto_region 3 with (fail)
  clear hW5 hT2
  have DS := Lib.hid (same_self Z za zb zc ya yb yc zca zcb zcc yca ycb ycc W5 HZ5.out.sm HZ5.out.lp HZ5.out.tg HY5.out.sm HY5.out.lp HY5.out.tg (by have := HLEN.out.1; omega) (by have := HLEN.out.2.1; omega) (by have := HLEN.out.2.2; omega))
  unfold actV at DS
  obtain ⟨p0, p1, p2, p3, p4, p5⟩ := HA3.out.cell
  obtain ⟨q0, q1, q2, q3, q4, q5⟩ := HA5.out.cell
  clear DM DR
  go_wp2_with fail
  refine (DS.out).mono ?_
  rintro e w6 ⟨rfl, hb6⟩
  have HB6 := Lib.hid (below_step HB5.out hb6)
  clear hb6 p0 p1 p2 p3 p4 p5 q0 q1 q2 q3 q4 q5
  go_wp2_with fail
  refine (told2_any _).mono ?_
  rintro e w7 ⟨rfl, hb7⟩
  have HB7 := Lib.hid (below_step HB6.out hb7)
  clear hb7
  go_wp2_with fail
  go_ret
  exact ⟨rfl, HB7.out⟩
end Go.Proofs.YtjnfccphodjfiaaGreat

/- An activity that came in: how it reads. (printed by wip/t/gen_tfp.py) -/
namespace Go.Proofs.YtjnfccphodjfiaaGreat
open Go.ChangeShapes Go.WideShapes Go.ChangeAt Go.RowKit Go.Deep

theorem laidOut : laidOutB Tryz.prog = true := by kernel_rfl
theorem readAct : Tryz.prog.readableRec 26 = true := by kernel_rfl
theorem rowAct : 26 < Tryz.prog.types.size := of_decide_eq_true (by kernel_rfl)
def intV : Value → Int
  | .int _ n => n
  | _ => 0
def strV : Value → ByteArray
  | .string s => s
  | _ => ByteArray.empty
theorem RowK.congr {w : World} {a : Option Addr} {len k : Nat} {V V' : Nat → List Value} (h : RowK w a len k V) (he : ∀ i, i < len → V i = V' i) : RowK w a len k V' :=
  ⟨fun h0 => by
    obtain ⟨b, off, e, hb, hc⟩ := h.here h0
    exact ⟨b, off, e, hb, fun i hi j hj => by rw [hc i hi j hj, he i hi]⟩⟩
section
variable {H : Type} {enc : TypeId × Value → H} {P : Program} {w : World} {base : Nat}
theorem field_str {V : List Value} {j : Nat} {t : TypeId} (ht : P.underlying t = some .string) (h : ∃ u n y, V[j]? = some u ∧ DataW.trod enc P w base (fun _ => true) true n t [u] = some y) :
    V[j]? = some (.string (strV (V.getD j (.bool false)))) ∧ (strV (V.getD j (.bool false))).size ≤ maxLen := by
  obtain ⟨u, n, y, hu, hd⟩ := h
  obtain ⟨s, e, _, hs⟩ := DataW.trod_string ht hd
  simp only [List.cons.injEq, and_true] at e
  subst e
  rw [List.getD_eq_getElem?_getD, hu]
  exact ⟨rfl, hs⟩
theorem field_int {V : List Value} {j : Nat} {t : TypeId} (ht : P.underlying t = some (.int .i64)) (h : ∃ u n y, V[j]? = some u ∧ DataW.trod enc P w base (fun _ => true) true n t [u] = some y) :
    V[j]? = some (.int .i64 (intV (V.getD j (.bool false)))) := by
  obtain ⟨u, n, y, hu, hd⟩ := h
  obtain ⟨s, e, _, hs⟩ := DataW.trod_int ht hd
  simp only [List.cons.injEq, and_true] at e
  subst e
  rw [List.getD_eq_getElem?_getD, hu]
  rfl
end
theorem list3 {V : List Value} {a b c : Value} (hl : V.length = 3) (h0 : V[0]? = some a) (h1 : V[1]? = some b) (h2 : V[2]? = some c) : V = [a, b, c] := by
  match V, hl with
  | [x, y, z], _ => simp at h0 h1 h2; rw [h0, h1, h2]
theorem list7 {V : List Value} {a b c d e f g : Value} (hl : V.length = 7) (h0 : V[0]? = some a) (h1 : V[1]? = some b) (h2 : V[2]? = some c) (h3 : V[3]? = some d) (h4 : V[4]? = some e) (h5 : V[5]? = some f) (h6 : V[6]? = some g) : V = [a, b, c, d, e, f, g] := by
  match V, hl with
  | [x0, x1, x2, x3, x4, x5, x6], _ => simp at h0 h1 h2 h3 h4 h5 h6; rw [h0, h1, h2, h3, h4, h5, h6]
theorem list6 {V : List Value} {a b c d e f : Value} (hl : V.length = 6) (h0 : V[0]? = some a) (h1 : V[1]? = some b) (h2 : V[2]? = some c) (h3 : V[3]? = some d) (h4 : V[4]? = some e) (h5 : V[5]? = some f) : V = [a, b, c, d, e, f] := by
  match V, hl with
  | [x0, x1, x2, x3, x4, x5], _ => simp at h0 h1 h2 h3 h4 h5; rw [h0, h1, h2, h3, h4, h5]
def smOf (V : List Value) : Sm := ⟨intV (V.getD 0 (.bool false)), intV (V.getD 1 (.bool false)), intV (V.getD 2 (.bool false)), intV (V.getD 3 (.bool false)), intV (V.getD 4 (.bool false)), intV (V.getD 5 (.bool false)), intV (V.getD 6 (.bool false))⟩
def lpOf (V : List Value) : Lp := ⟨intV (V.getD 0 (.bool false)), intV (V.getD 1 (.bool false)), strV (V.getD 2 (.bool false))⟩
theorem range_get {α : Type} (f : Nat → α) {n i : Nat} {x : α} (h : ((List.range n).map f)[i]? = some x) : i < n ∧ x = f i := by
  rw [List.getElem?_map] at h
  cases hr : (List.range n)[i]? with
  | none => rw [hr] at h; cases h
  | some y =>
    rw [hr] at h
    obtain ⟨h1, h2⟩ := List.getElem?_eq_some_iff.1 hr
    simp only [List.length_range] at h1
    simp only [List.getElem_range] at h2
    subst h2
    simp only [Option.map_some, Option.some.injEq] at h
    exact ⟨h1, h.symm⟩
theorem rw_of {α : Type} {C : α → List Value} {k : Nat} {w : World} {a : Option Addr} {n : Nat} {V : Nat → List Value} {f : Nat → α} (hC : ∀ x, (C x).length = k) (h : RowK w a n k V) (he : ∀ i, i < n → V i = C (f i)) : Rw C k w a ((List.range n).map f) := by
  refine ⟨fun hl => ?_⟩
  rw [List.length_map, List.length_range] at hl
  obtain ⟨b, off, e, hb, hc⟩ := h.here hl
  refine ⟨b, off, e, hb, fun i x hx j u hu => ?_⟩
  obtain ⟨hi, rfl⟩ := range_get f hx
  have hj : j < k := by have := (List.getElem?_eq_some_iff.1 hu).1; rwa [hC] at this
  rw [← hu, ← he i hi]
  exact hc i hi j hj
section
variable {H : Type} {enc : TypeId × Value → H} {P : Program} {w : World} {base : Nat}
theorem open_sms {t e : TypeId} (I : P.underlying t = some (.slice e)) {fs : Array Field} (hs : P.underlying e = some (.struct fs)) (hC : P.cellsOf e = fs.size) (h7 : fs.size = 7) (hone : ∀ (i : Nat) (f : Field), fs[i]? = some f → f.offset = i ∧ P.cellsOf f.type = 1)
    (hi : ∀ (j : Nat) (f : Field), fs[j]? = some f → P.underlying f.type = some (.int .i64)) {n : Nat} {v : Value} {y : DataW H × List MemPlace} (h : DataW.trod enc P w base (fun _ => true) true n t [v] = some y) :
    ∃ (l : List Sm) (a : Option Addr) (c : Nat), v = .slice a l.length c ∧ l.length ≤ c ∧ c ≤ maxLen ∧ Rw smC 7 w a l := by
  obtain ⟨a0, n0, c0, V0, rfl, l0, m0, R0, F0⟩ := open_rowK I hs hC (by omega) hone h
  rw [h7] at R0 F0
  refine ⟨(List.range n0).map fun i => smOf (V0 i), a0, c0, by rw [List.length_map, List.length_range], by rw [List.length_map, List.length_range]; exact l0, m0, rw_of (fun _ => rfl) R0 fun i hi' => ?_⟩
  have F := F0 i hi'
  have g : ∀ (j : Nat) (_ : j < 7), (V0 i)[j]? = some (.int .i64 (intV ((V0 i).getD j (.bool false)))) := fun j hj => by
    obtain ⟨f, hf⟩ : ∃ f, fs[j]? = some f := ⟨_, Array.getElem?_eq_getElem (by omega)⟩
    exact field_int (hi j f hf) (F.2 j f hf)
  exact list7 F.1 (g 0 (by omega)) (g 1 (by omega)) (g 2 (by omega)) (g 3 (by omega)) (g 4 (by omega)) (g 5 (by omega)) (g 6 (by omega))
theorem open_tags {t e : TypeId} (I : P.underlying t = some (.slice e)) (hs : P.underlying e = some .string) (hC : P.cellsOf e = 1) {n : Nat} {v : Value} {y : DataW H × List MemPlace} (h : DataW.trod enc P w base (fun _ => true) true n t [v] = some y) :
    ∃ (l : List ByteArray) (a : Option Addr) (c : Nat), v = .slice a l.length c ∧ l.length ≤ c ∧ c ≤ maxLen ∧ Rw tgC 1 w a l ∧ ∀ s, s ∈ l → s.size ≤ maxLen := by
  rcases open_slice I h with ⟨hc, _⟩ | ⟨a, len, cap, m, n', D, Pl, hc, _, hl, hm, hmm, _, hx⟩
  · simp only [List.cons.injEq, and_true] at hc
    exact ⟨[], none, 0, hc, Nat.le_refl _, Nat.zero_le _, ⟨fun h => absurd h (by simp)⟩, fun s hs => by cases hs⟩
  · simp only [List.cons.injEq, and_true] at hc
    simp only [if_true] at hmm
    subst hmm
    have each : ∀ i, i < m → ∃ s : ByteArray, w.cell? (a.add i) = some (.string s) ∧ s.size ≤ maxLen := by
      intro i hi
      obtain ⟨cs, h1, h2⟩ := hx i hi
      rw [hC] at h1
      obtain ⟨_, hlen, hcell⟩ := World.cells?_some h1
      obtain ⟨s, e1, _, hs1⟩ := DataW.trod_string hs h2
      have h3 := hcell 0 (by omega)
      rw [e1, add_add] at h3
      refine ⟨s, ?_, hs1⟩
      simpa using h3
    obtain ⟨V, hV⟩ := choose_lt each
    refine ⟨(List.range len).map V, some a, m, by rw [List.length_map, List.length_range]; exact hc, by rw [List.length_map, List.length_range]; exact hl, hm, ⟨fun hl0 => ?_⟩, fun s hs => ?_⟩
    · rw [List.length_map, List.length_range] at hl0
      obtain ⟨b, o, sp⟩ := a
      have h0 := (hV 0 (by omega)).1
      have hspot : sp = none := by simpa [Addr.add] using World.cell?_spot h0
      subst hspot
      refine ⟨b, o, rfl, by simpa [Addr.add] using World.block_lt_of_cell? w _ h0, fun i x hx' j u hu => ?_⟩
      obtain ⟨hi, rfl⟩ := range_get V hx'
      have hj : j < 1 := (List.getElem?_eq_some_iff.1 hu).1
      obtain rfl : j = 0 := by omega
      injection hu with hu
      subst hu
      have := (hV i (by omega)).1
      rw [add_plain] at this
      rw [Nat.mul_one, Nat.add_zero]
      exact this
    · obtain ⟨i, hi, rfl⟩ := List.mem_map.1 hs
      exact (hV i (by have := List.mem_range.1 hi; omega)).2
theorem open_lps {t e : TypeId} {f0 f1 f2 : Field} (I : P.underlying t = some (.slice e)) (hs : P.underlying e = some (.struct #[f0, f1, f2])) (hC : P.cellsOf e = 3) (hone : ∀ (i : Nat) (f : Field), (#[f0, f1, f2] : Array Field)[i]? = some f → f.offset = i ∧ P.cellsOf f.type = 1)
    (i0 : P.underlying f0.type = some (.int .i64)) (i1 : P.underlying f1.type = some (.int .i64)) (i2 : P.underlying f2.type = some .string) {n : Nat} {v : Value} {y : DataW H × List MemPlace} (h : DataW.trod enc P w base (fun _ => true) true n t [v] = some y) :
    ∃ (l : List Lp) (a : Option Addr) (c : Nat), v = .slice a l.length c ∧ l.length ≤ c ∧ c ≤ maxLen ∧ Rw lpC 3 w a l ∧ ∀ p, p ∈ l → p.s.size ≤ maxLen := by
  obtain ⟨a0, n0, c0, V0, rfl, l0, m0, R0, F0⟩ := open_rowK I hs hC (show 0 < 3 by decide) hone h
  have F : ∀ i, i < n0 → V0 i = lpC (lpOf (V0 i)) ∧ (lpOf (V0 i)).s.size ≤ maxLen := fun i hi =>
    ⟨list3 (F0 i hi).1 (field_int i0 ((F0 i hi).2 0 _ rfl)) (field_int i1 ((F0 i hi).2 1 _ rfl)) (field_str i2 ((F0 i hi).2 2 _ rfl)).1, (field_str i2 ((F0 i hi).2 2 _ rfl)).2⟩
  refine ⟨(List.range n0).map fun i => lpOf (V0 i), a0, c0, by rw [List.length_map, List.length_range], by rw [List.length_map, List.length_range]; exact l0, m0, rw_of (fun _ => rfl) R0 fun i hi => (F i hi).1, fun p hp => ?_⟩
  obtain ⟨i, hi, rfl⟩ := List.mem_map.1 hp
  exact (F i (List.mem_range.1 hi)).2
end
set_option maxRecDepth 100000 in
/-- six cells that read as an activity -/
theorem act_cells {H : Type} {enc : TypeId × Value → H} {W : World} {base : Nat} {V : List Value} (hl : V.length = 6) (F : ∀ (j : Nat) (f : Field), (Tryz.prog.fieldsOf 26)[j]? = some f → ∃ u n y, V[j]? = some u ∧ DataW.trod enc Tryz.prog W base (fun _ => true) true n f.type [u] = some y) :
    ∃ (A : Acv) (a b c : Option Addr) (ca cb cc : Nat), V = [.string A.name, .int .i64 A.sport, .int .i64 A.start, .slice a A.sm.length ca, .slice b A.lp.length cb, .slice c A.tg.length cc] ∧ ActIn W A a b c ∧ A.sm.length ≤ ca ∧ A.lp.length ≤ cb ∧ A.tg.length ≤ cc := by
  have S := Tryz.underlying9
  have I := Tryz.underlying3
  have hm : maxLen = 9223372036854775807 := rfl
  simp only [Program.fieldsOf, Tryz.underlying26] at F
  obtain ⟨e0, z0⟩ := field_str S (F 0 _ rfl)
  have e1 := field_int I (F 1 _ rfl)
  have e2 := field_int I (F 2 _ rfl)
  obtain ⟨u3, n3, y3, e3, t3⟩ := F 3 _ rfl
  obtain ⟨u4, n4, y4, e4, t4⟩ := F 4 _ rfl
  obtain ⟨u5, n5, y5, e5, t5⟩ := F 5 _ rfl
  obtain ⟨l, a, ca, rfl, la, ma, ra⟩ := open_sms (P := Tryz.prog) Tryz.underlying22 Tryz.underlying72 (by kernel_rfl) rfl (hone_of (by kernel_rfl)) (fun j f hf => by
    match j, hf with
    | 0, h => injection h with h; subst h; exact I
    | 1, h => injection h with h; subst h; exact I
    | 2, h => injection h with h; subst h; exact I
    | 3, h => injection h with h; subst h; exact I
    | 4, h => injection h with h; subst h; exact I
    | 5, h => injection h with h; subst h; exact I
    | 6, h => injection h with h; subst h; exact I
    | n + 7, h => cases h) t3
  obtain ⟨p, b, cb, rfl, lb, mb, rb, hb⟩ := open_lps (P := Tryz.prog) Tryz.underlying23 Tryz.underlying75 (by kernel_rfl) (hone_of (by kernel_rfl)) I I S t4
  obtain ⟨g, c, cc, rfl, lc, mc, rc, hc⟩ := open_tags (P := Tryz.prog) Tryz.underlying24 S (by kernel_rfl) t5
  refine ⟨⟨strV (V.getD 0 (.bool false)), intV (V.getD 1 (.bool false)), intV (V.getD 2 (.bool false)), l, p, g⟩, a, b, c, ca, cb, cc, list6 hl e0 e1 e2 e3 e4 e5, ⟨ra, rb, rc, z0, hb, hc, by show ((l.length : Nat) : Int) ≤ _; omega, by show ((p.length : Nat) : Int) ≤ _; omega, by show ((g.length : Nat) : Int) ≤ _; omega⟩, la, lb, lc⟩
set_option maxRecDepth 100000 in
theorem open_act {H : Type} {enc : TypeId × Value → H} {W : World} {r : Reach} {b0 base : Nat} {v : Value} {d : DataW H} {p : List MemPlace}
    (hv : Value.okWide Tryz.prog W r b0 26 v) (h : DataW.Trod enc Tryz.prog W base (fun _ => true) true 26 v d p) :
    ∃ (A : Acv) (a b c : Option Addr) (ca cb cc : Nat), v = actV A a b c ca cb cc ∧ ActIn W A a b c ∧ A.sm.length ≤ ca ∧ A.lp.length ≤ cb ∧ A.tg.length ≤ cc := by
  have hs := Tryz.underlying26
  obtain ⟨cs, rfl, hsz⟩ := okWide_struct hs hv
  have h6 : cs.size = 6 := hsz.trans (by kernel_rfl)
  obtain ⟨fuel, hf⟩ := h
  obtain ⟨xs, n, _, _, _, hlen, hg⟩ := DataW.trod_struct hs hf
  have hlen6 : xs.length = 6 := hlen
  have e : cs.toList.length = 6 := by simpa using h6
  have fld : ∀ (j : Nat) (f : Field), (Tryz.prog.fieldsOf 26)[j]? = some f → ∃ u n y, cs.toList[j]? = some u ∧ DataW.trod enc Tryz.prog W base (fun _ => true) true n f.type [u] = some y := fun j f hj => by
    simp only [Program.fieldsOf, Tryz.underlying26] at hj
    obtain ⟨o, k⟩ := hone_of (P := Tryz.prog) (by kernel_rfl) j f hj
    have h1 := hg j f hj
    rw [o, k] at h1
    have hlt : j < 6 := (Array.getElem?_eq_some_iff.1 hj).1
    have hjl : j < cs.toList.length := by omega
    have e1 : (cs.toList.drop j).take 1 = [cs.toList[j]] := by rw [List.drop_eq_getElem_cons hjl]; rfl
    rw [show (Value.agg cs).cells.toList = cs.toList from rfl, e1, List.getElem?_eq_getElem (by omega)] at h1
    exact ⟨_, _, _, List.getElem?_eq_getElem hjl, h1⟩
  obtain ⟨A, a, b, c, ca, cb, cc, he, ha, l1, l2, l3⟩ := act_cells e fld
  refine ⟨A, a, b, c, ca, cb, cc, ?_, ha, l1, l2, l3⟩
  unfold actV
  congr 1
  rw [← Array.toList_inj, he]
end Go.Proofs.YtjnfccphodjfiaaGreat
