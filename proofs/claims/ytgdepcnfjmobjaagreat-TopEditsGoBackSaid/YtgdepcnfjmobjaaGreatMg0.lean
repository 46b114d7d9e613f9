/- TopEditsGoBack: for every input the law returns true, and each argument reads as it did. (The frame is the guide's shell of a law's proof, turned to an activity and a list of edits; the walk is goBack_law.) -/
import Derived.Test.YtgdepcnfjmobjaaGreatMg8
import Derived.WalkKit
namespace Go.Proofs.YtgdepcnfjmobjaaGreat.topEditsGoBackDone
open Go.ChangeShapes Go.WideShapes Go.ChangeAt Go.RowKit Go.ChangeMaps Go.Deep
set_option linter.unusedVariables false
theorem own : ownKnob Tryz.prog.godebug = none := by kernel_rfl

set_option maxRecDepth 100000 in
theorem lifted (os : Os) (started : os.Started) (H : Type) (enc : TypeId × Value → H) :
    ReturnsInHanded {} Tryz.checked os 3 .any (Rows.topEditsGoBackSpec.pre6 enc Tryz.prog Tryz.f3 Rows.topEditsGoBackRow.domain false) (Rows.topEditsGoBackSpec.post enc Tryz.prog Tryz.f3 false true false false) := by
  refine returnsInHanded_of_change (C := Tryz.checked) own started (by kernel_rfl) Tryz.func3
    (ChangeSpec.witness6 (enc := enc) (C := Tryz.checked) false ⟨#[], #[.agg #[.string ⟨#[]⟩, .int .i64 0, .int .i64 0, .slice none 0 0, .slice none 0 0, .slice none 0 0], .slice none 0 0], []⟩ 8 (by kernel_rfl) (by kernel_rfl) (by kernel_rfl) (by kernel_rfl)) ?_
  intro W base args ds gs before hval0 hW hcnd _
  have hval : ∀ (j : Nat) t v, Tryz.f3.params[j]? = some t → args[j]? = some v → Value.okWide Tryz.prog W .any base t v := hval0
  have hW' := hW
  obtain ⟨p, q, hA0, hV, rfl, hfz, hnd⟩ := hW
  have hA : DataW.TrodAll enc Tryz.prog W 0 (fun _ => true) true Tryz.f3.params.toList args.toList ds p := hA0
  have hlt := DataW.TrodAll.lt hA
  rw [Tryz.params3] at hA hval
  obtain ⟨v0, vs0, d0, ds0, p0, q0, hargs, rfl, rfl, h0, r0⟩ := trodAll_cons hA
  obtain ⟨v1, vs1, d1, ds1, p1, q1, rfl, rfl, rfl, h1, r1⟩ := trodAll_cons r0
  obtain ⟨rfl, rfl, rfl⟩ := trodAll_nil r1
  obtain rfl : args = #[v0, v1] := by cases args; simp_all
  obtain ⟨rfl, rfl⟩ := trodVars_none hV
  obtain ⟨A, a, b, c, ca, cb, cc, rfl, hra, la, _, lc⟩ := open_act (hval 0 26 v0 rfl rfl) h0
  obtain ⟨l, al, cl, rfl, hlc, hr, hs⟩ := open_edits (hval 1 27 v1 rfl rfl) h1
  clear hA0 hval0
  simp only [List.append_nil] at hW' hlt
  refine (goBack_law A a b c ca cb cc l al cl W hra hr hs).mono fun e W' hE => ?_
  obtain ⟨he, hg⟩ := hE
  subst he
  have z0 := Below.trod laidOut readAct rowAct h0 hg (fun x hx => hlt x (by simp [hx]))
  have z1 := Below.trod laidOut readEdits rowEdits h1 hg (fun x hx => hlt x (by simp [hx]))
  exact ⟨_, rfl, _, _, _, [], _, [], hW', (trodAll_cons_mk (shut_bool Tryz.underlying4 _) trodAll_mk0), (trodAll_cons_mk z0 (trodAll_cons_mk z1 trodAll_mk0)), rfl, hg.frame _, fun h => by cases h⟩

theorem over : Rows.topEditsGoBackRow.holds Tryz.pinned (OpenSpec.ofChange Rows.topEditsGoBackSpec) :=
  OpenClaim.holds_of_wide 3 Tryz.f3 rfl rfl rfl rfl rfl rfl rfl ⟨rfl, rfl, rfl, rfl, rfl⟩ rfl rfl rfl rfl rfl (by kernel_rfl) Tryz.func3 (by kernel_rfl)
    (of_decide_eq_true (by kernel_rfl)) (by unfold Func.isWrapper; first | (rw [if_pos (by decide +kernel)]; kernel_rfl) | (rw [if_neg (by decide +kernel)]; exact ⟨rfl, rfl⟩))
    (fun os started H enc _ => lifted os started H enc)

/-- The statement. -/
theorem proved : Rows.TopEditsGoBackSaid :=
  over
#print axioms proved
end Go.Proofs.YtgdepcnfjmobjaaGreat.topEditsGoBackDone
