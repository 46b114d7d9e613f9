/- GearSwapsMatchSpec: for every input the law returns true, and each argument reads as it did. (The frame is the guide's shell of a law's proof, turned to a garage, a list of names and a number; the walk is swapsMatch_law.) -/
import Derived.Test.YtbkpoepacjinlaaGreatEs8
import Derived.WalkKit
namespace Go.Proofs.YtbkpoepacjinlaaGreat.gearSwapsMatchSpecDone
open Go.ChangeShapes Go.WideShapes Go.ChangeAt Go.RowKit Go.ChangeMaps Go.Deep
set_option linter.unusedVariables false

theorem own : ownKnob Tryz.prog.godebug = none := by kernel_rfl

set_option maxRecDepth 100000 in
theorem lifted (os : Os) (started : os.Started) (H : Type) (enc : TypeId × Value → H) :
    ReturnsInHanded {} Tryz.checked os 3 .any (Rows.gearSwapsMatchSpecSpec.pre6 enc Tryz.prog Tryz.f3 Rows.gearSwapsMatchSpecRow.domain false) (Rows.gearSwapsMatchSpecSpec.post enc Tryz.prog Tryz.f3 false true false false) := by
  refine returnsInHanded_of_change (C := Tryz.checked) own started (by kernel_rfl) Tryz.func3
    (ChangeSpec.witness6 (enc := enc) (C := Tryz.checked) false ⟨#[], #[.agg #[.slice none 0 0, .slice none 0 0, .slice none 0 0, .slice none 0 0], .slice none 0 0, .int .i64 0], []⟩ 8 (by kernel_rfl) (by kernel_rfl) (by kernel_rfl) (by kernel_rfl)) ?_
  intro W base args ds gs before hval0 hW hcnd _
  have hval : ∀ (j : Nat) t v, Tryz.f3.params[j]? = some t → args[j]? = some v → Value.okWide Tryz.prog W .any base t v := hval0
  have hW' := hW
  obtain ⟨p, q, hA0, hV, rfl, hfz, hnd⟩ := hW
  have hA : DataW.TrodAll enc Tryz.prog W 0 (fun _ => true) true Tryz.f3.params.toList args.toList ds p := hA0
  have hlt := DataW.TrodAll.lt hA
  rw [Tryz.params3] at hA hval
  obtain ⟨v0, vs0, d0, ds0, p0, q0, hargs, rfl, rfl, h0, r0⟩ := trodAll_cons hA
  obtain ⟨v1, vs1, d1, ds1, p1, q1, rfl, rfl, rfl, h1, r1⟩ := trodAll_cons r0
  obtain ⟨v2, vs2, d2, ds2, p2, q2, rfl, rfl, rfl, h2, r2⟩ := trodAll_cons r1
  obtain ⟨rfl, rfl, rfl⟩ := trodAll_nil r2
  obtain rfl : args = #[v0, v1, v2] := by cases args; simp_all
  obtain ⟨rfl, rfl⟩ := trodVars_none hV
  obtain ⟨g, a0, a1, a2, a3, c0, c1, c2, c3, rfl, hr, hc2, hc3⟩ := open_garage (hval 0 27 v0 rfl rfl) h0
  obtain ⟨n, sl, a, cap, rfl, hcap, hn, hrow, hsz⟩ := open_strs (hval 1 28 v1 rfl rfl) h1
  obtain ⟨m2, rfl, rfl, rfl, w2⟩ := open_int Tryz.underlying3 (hval 2 3 v2 rfl rfl) h2
  clear hA0 hval0
  simp only [List.append_nil] at hW' hlt
  refine (swapsMatch_law g a0 a1 a2 a3 c0 c1 c2 c3 n sl a cap m2 W hr hc2 hc3 hrow hcap hn hsz).mono fun e W' hE => ?_
  obtain ⟨he, hg⟩ := hE
  subst he
  have z0 := Below.trod laidOut readGarage rowGarage h0 hg (fun x hx => hlt x (by simp [hx]))
  have z1 := Below.trod laidOut readStrs rowStrs h1 hg (fun x hx => hlt x (by simp [hx]))
  exact ⟨_, rfl, _, _, _, [], _, [], hW', (trodAll_cons_mk (shut_bool Tryz.underlying4 _) trodAll_mk0), (trodAll_cons_mk z0 (trodAll_cons_mk z1 (trodAll_cons_mk (shut_int Tryz.underlying3 w2) trodAll_mk0))), rfl, hg.frame _, fun h => by cases h⟩

theorem over : Rows.gearSwapsMatchSpecRow.holds Tryz.pinned (OpenSpec.ofChange Rows.gearSwapsMatchSpecSpec) :=
  OpenClaim.holds_of_wide 3 Tryz.f3 rfl rfl rfl rfl rfl rfl rfl ⟨rfl, rfl, rfl, rfl, rfl⟩ rfl rfl rfl rfl rfl (by kernel_rfl) Tryz.func3 (by kernel_rfl)
    (of_decide_eq_true (by kernel_rfl)) (by unfold Func.isWrapper; first | (rw [if_pos (by decide +kernel)]; kernel_rfl) | (rw [if_neg (by decide +kernel)]; exact ⟨rfl, rfl⟩))
    (fun os started H enc _ => lifted os started H enc)

/-- The statement. -/
theorem proved : Rows.GearSwapsMatchSpecSaid :=
  over
#print axioms proved
end Go.Proofs.YtbkpoepacjinlaaGreat.gearSwapsMatchSpecDone
