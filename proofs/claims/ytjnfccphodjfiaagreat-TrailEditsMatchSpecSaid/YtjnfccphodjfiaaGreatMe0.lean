/- TrailEditsMatchSpec: for every input the law returns true, and each argument reads as it did. (The frame is the guide's shell of a law's proof, turned to an activity and an edit; the walk is editsSpec_law.) -/
import Derived.Test.YtjnfccphodjfiaaGreatMa10
import Derived.WalkKit
namespace Go.Proofs.YtjnfccphodjfiaaGreat.trailEditsMatchSpecDone
open Go.ChangeShapes Go.WideShapes Go.ChangeAt Go.RowKit Go.ChangeMaps Go.Deep
set_option linter.unusedVariables false
theorem list5E {V : List Value} {a b c d e : Value} (hl : V.length = 5) (h0 : V[0]? = some a) (h1 : V[1]? = some b) (h2 : V[2]? = some c) (h3 : V[3]? = some d) (h4 : V[4]? = some e) : V = [a, b, c, d, e] := by
  match V, hl with
  | [x, y, z, u, v], _ => simp at h0 h1 h2 h3 h4; rw [h0, h1, h2, h3, h4]
theorem readEd : Tryz.prog.readableRec 28 = true := by kernel_rfl
theorem rowEd : 28 < Tryz.prog.types.size := of_decide_eq_true (by kernel_rfl)
set_option maxRecDepth 100000 in
theorem open_edit {H : Type} {enc : TypeId × Value → H} {W : World} {r : Reach} {b0 base : Nat} {v : Value} {d : DataW H} {p : List MemPlace}
    (hv : Value.okWide Tryz.prog W r b0 28 v) (h : DataW.Trod enc Tryz.prog W base (fun _ => true) true 28 v d p) :
    ∃ x : Tr.Ed, v = edV x ∧ x.s.size ≤ maxLen := by
  have hs := Tryz.underlying28
  obtain ⟨cs, rfl, hsz⟩ := okWide_struct hs hv
  have h5 : cs.size = 5 := hsz.trans (by kernel_rfl)
  obtain ⟨fuel, hf⟩ := h
  obtain ⟨xs, n, _, _, _, hlen, hg⟩ := DataW.trod_struct hs hf
  have hlen5 : xs.length = 5 := hlen
  have e : cs.toList.length = 5 := by simpa using h5
  have fld : ∀ (j : Nat) (f : Field), (Tryz.prog.fieldsOf 28)[j]? = some f → ∃ u n y, cs.toList[j]? = some u ∧ DataW.trod enc Tryz.prog W base (fun _ => true) true n f.type [u] = some y := fun j f hj => by
    simp only [Program.fieldsOf, Tryz.underlying28] at hj
    obtain ⟨o, k⟩ := hone_of (P := Tryz.prog) (by kernel_rfl) j f hj
    have h1 := hg j f hj
    rw [o, k] at h1
    have hlt : j < 5 := (Array.getElem?_eq_some_iff.1 hj).1
    have hjl : j < cs.toList.length := by omega
    have e1 : (cs.toList.drop j).take 1 = [cs.toList[j]] := by rw [List.drop_eq_getElem_cons hjl]; rfl
    rw [show (Value.agg cs).cells.toList = cs.toList from rfl, e1, List.getElem?_eq_getElem (by omega)] at h1
    exact ⟨_, _, _, List.getElem?_eq_getElem hjl, h1⟩
  have S := Tryz.underlying9
  have I := Tryz.underlying3
  have f0 := field_int I (fld 0 _ rfl)
  have f1 := field_int I (fld 1 _ rfl)
  have f2 := field_int I (fld 2 _ rfl)
  have f3 := field_int I (fld 3 _ rfl)
  have f4 := field_str S (fld 4 _ rfl)
  have hl := list5E e f0 f1 f2 f3 f4.1
  refine ⟨⟨intV (cs.toList.getD 0 (.bool false)), intV (cs.toList.getD 1 (.bool false)), intV (cs.toList.getD 2 (.bool false)), intV (cs.toList.getD 3 (.bool false)), strV (cs.toList.getD 4 (.bool false))⟩, ?_, f4.2⟩
  unfold edV
  exact congrArg Value.agg (Array.toList_inj.1 hl)

theorem own : ownKnob Tryz.prog.godebug = none := by kernel_rfl

set_option maxRecDepth 100000 in
theorem lifted (os : Os) (started : os.Started) (H : Type) (enc : TypeId × Value → H) :
    ReturnsInHanded {} Tryz.checked os 3 .any (Rows.trailEditsMatchSpecSpec.pre6 enc Tryz.prog Tryz.f3 Rows.trailEditsMatchSpecRow.domain false) (Rows.trailEditsMatchSpecSpec.post enc Tryz.prog Tryz.f3 false true false false) := by
  refine returnsInHanded_of_change (C := Tryz.checked) own started (by kernel_rfl) Tryz.func3
    (ChangeSpec.witness6 (enc := enc) (C := Tryz.checked) false ⟨#[], #[.agg #[.string ⟨#[]⟩, .int .i64 0, .int .i64 0, .slice none 0 0, .slice none 0 0, .slice none 0 0], .agg #[.int .i64 0, .int .i64 0, .int .i64 0, .int .i64 0, .string ⟨#[]⟩]], []⟩ 8 (by kernel_rfl) (by kernel_rfl) (by kernel_rfl) (by kernel_rfl)) ?_
  intro W base args ds gs before hval0 hW hcnd _
  have hval : ∀ (j : Nat) t v, Tryz.f3.params[j]? = some t → args[j]? = some v → Value.okWide Tryz.prog W .any base t v := hval0
  have hW' := hW
  obtain ⟨p, q, hA0, hV, rfl, hfz, hnd⟩ := hW
  have hA : DataW.TrodAll enc Tryz.prog W 0 (fun _ => true) true Tryz.f3.params.toList args.toList ds p := hA0
  have hlt := DataW.TrodAll.lt hA
  rw [Tryz.params3] at hA hval
  obtain ⟨v0, vs0, d0, ds0, p0, q0, hargs, rfl, rfl, h0, r0⟩ := trodAll_cons hA
  obtain ⟨v1, vs1, d1, ds1, p1, q1, rfl, rfl, rfl, h1, r1⟩ := trodAll_cons r0
  obtain ⟨rfl, rfl, rfl⟩ := trodAll_nil r1
  obtain rfl : args = #[v0, v1] := by cases args; simp_all
  obtain ⟨rfl, rfl⟩ := trodVars_none hV
  obtain ⟨A, a, b, c, ca, cb, cc, rfl, hra, la, _, lc⟩ := open_act (hval 0 26 v0 rfl rfl) h0
  obtain ⟨x, rfl, hxs⟩ := open_edit (hval 1 28 v1 rfl rfl) h1
  clear hA0 hval0
  simp only [List.append_nil] at hW' hlt
  refine (editsSpec_law x A a b c ca cb cc W hra hxs).mono fun e W' hE => ?_
  obtain ⟨he, hg⟩ := hE
  subst he
  have z0 := Below.trod laidOut readAct rowAct h0 hg (fun x hx => hlt x (by simp [hx]))
  have z1 := Below.trod laidOut readEd rowEd h1 hg (fun x hx => hlt x (by simp [hx]))
  exact ⟨_, rfl, _, _, _, [], _, [], hW', (trodAll_cons_mk (shut_bool Tryz.underlying4 _) trodAll_mk0), (trodAll_cons_mk z0 (trodAll_cons_mk z1 trodAll_mk0)), rfl, hg.frame _, fun h => by cases h⟩

theorem over : Rows.trailEditsMatchSpecRow.holds Tryz.pinned (OpenSpec.ofChange Rows.trailEditsMatchSpecSpec) :=
  OpenClaim.holds_of_wide 3 Tryz.f3 rfl rfl rfl rfl rfl rfl rfl ⟨rfl, rfl, rfl, rfl, rfl⟩ rfl rfl rfl rfl rfl (by kernel_rfl) Tryz.func3 (by kernel_rfl)
    (of_decide_eq_true (by kernel_rfl)) (by unfold Func.isWrapper; first | (rw [if_pos (by decide +kernel)]; kernel_rfl) | (rw [if_neg (by decide +kernel)]; exact ⟨rfl, rfl⟩))
    (fun os started H enc _ => lifted os started H enc)

/-- The statement. -/
theorem proved : Rows.TrailEditsMatchSpecSaid :=
  over
#print axioms proved
end Go.Proofs.YtjnfccphodjfiaaGreat.trailEditsMatchSpecDone
