/- TopRecordingsAreOne: for every input the law returns true, and each argument reads as it did. (The frame is the guide's shell of a law's proof, turned to an activity, a row of marks and a number; the walk is recs_law.) -/
import Derived.Test.YtkejjlghelnfjaaRa5
import Derived.WalkKit
import Derived.Deep.Grids
namespace Go.Proofs.Ytkejjlghelnfjaa.topRecordingsAreOneDone
open Go.ChangeShapes Go.WideShapes Go.ChangeAt Go.RowKit Go.ChangeMaps Go.Deep
set_option linter.unusedVariables false

theorem own : ownKnob Try.prog.godebug = none := by kernel_rfl
theorem readBl : Try.prog.readableRec 27 = true := by kernel_rfl
theorem rowBl : 27 < Try.prog.types.size := of_decide_eq_true (by kernel_rfl)
set_option maxRecDepth 100000 in
theorem open_marks {H : Type} {enc : TypeId × Value → H} {W : World} {r : Reach} {b0 base : Nat} {v : Value} {d : DataW H} {p : List MemPlace}
    (hv : Value.okWide Try.prog W r b0 27 v) (h : DataW.Trod enc Try.prog W base (fun _ => true) true 27 v d p) :
    ∃ (M : List Bool) (a : Option Addr) (c : Nat), v = .slice a M.length c ∧ Rw bC 1 W a M := by
  obtain ⟨a, l, c, rfl⟩ := okWide_slice Try.underlying27 hv
  obtain ⟨fuel, hf⟩ := h
  have hf : DataW.trod enc Try.prog W base (fun _ => true) true fuel 27 [.slice a l c] = some (d, p) := hf
  have hcb : Try.prog.cellsOf 4 = 1 := by kernel_rfl
  rcases open_bools Try.underlying27 Try.underlying4 hcb hf with ⟨hc, _⟩ | ⟨g, len, cap, B, hc, _, hl, hcm, _, hx⟩
  · simp only [List.cons.injEq, and_true] at hc
    injection hc with h1 h2 h3
    subst h1 h2 h3
    exact ⟨[], none, 0, rfl, ⟨fun h => absurd h (by simp)⟩⟩
  · simp only [List.cons.injEq, and_true] at hc
    injection hc with h1 h2 h3
    subst h1 h2 h3
    refine ⟨(List.range l).map B, some g, c, by rw [List.length_map, List.length_range], ⟨fun hl0 => ?_⟩⟩
    rw [List.length_map, List.length_range] at hl0
    obtain ⟨b, o, sp⟩ := g
    have h0 := hx 0 (by omega)
    have hspot : sp = none := by simpa [Addr.add] using World.cell?_spot h0
    subst hspot
    refine ⟨b, o, rfl, by simpa [Addr.add] using World.block_lt_of_cell? W _ h0, fun i x hx' j u hu => ?_⟩
    obtain ⟨hi, rfl⟩ := range_get B hx'
    have hj : j < 1 := (List.getElem?_eq_some_iff.1 hu).1
    obtain rfl : j = 0 := by omega
    injection hu with hu
    subst hu
    have := hx i (by omega)
    rw [add_plain] at this
    rw [Nat.mul_one, Nat.add_zero]
    exact this
set_option maxRecDepth 100000 in
theorem lifted (os : Os) (started : os.Started) (H : Type) (enc : TypeId × Value → H) :
    ReturnsInHanded {} Try.checked os 3 .any (Rows.topRecordingsAreOneSpec.pre6 enc Try.prog Try.f3 Rows.topRecordingsAreOneRow.domain false) (Rows.topRecordingsAreOneSpec.post enc Try.prog Try.f3 false true false false) := by
  refine returnsInHanded_of_change (C := Try.checked) own started (by kernel_rfl) Try.func3
    (ChangeSpec.witness6 (enc := enc) (C := Try.checked) false ⟨#[], #[.agg #[.string ⟨#[]⟩, .int .i64 0, .int .i64 0, .slice none 0 0, .slice none 0 0, .slice none 0 0], .slice none 0 0, .int .i64 0], []⟩ 8 (by kernel_rfl) (by kernel_rfl) (by kernel_rfl) (by kernel_rfl)) ?_
  intro W base args ds gs before hval0 hW hcnd _
  have hval : ∀ (j : Nat) t v, Try.f3.params[j]? = some t → args[j]? = some v → Value.okWide Try.prog W .any base t v := hval0
  have hW' := hW
  obtain ⟨p, q, hA0, hV, rfl, hfz, hnd⟩ := hW
  have hA : DataW.TrodAll enc Try.prog W 0 (fun _ => true) true Try.f3.params.toList args.toList ds p := hA0
  have hlt := DataW.TrodAll.lt hA
  rw [Try.params3] at hA hval
  obtain ⟨v0, vs0, d0, ds0, p0, q0, hargs, rfl, rfl, h0, r0⟩ := trodAll_cons hA
  obtain ⟨v1, vs1, d1, ds1, p1, q1, rfl, rfl, rfl, h1, r1⟩ := trodAll_cons r0
  obtain ⟨v2, vs2, d2, ds2, p2, q2, rfl, rfl, rfl, h2, r2⟩ := trodAll_cons r1
  obtain ⟨rfl, rfl, rfl⟩ := trodAll_nil r2
  obtain rfl : args = #[v0, v1, v2] := by cases args; simp_all
  obtain ⟨rfl, rfl⟩ := trodVars_none hV
  obtain ⟨A, a, b, c, ca, cb, cc, rfl, hra, _, _, _⟩ := open_act (hval 0 26 v0 rfl rfl) h0
  obtain ⟨M, mp, mc, rfl, hrm⟩ := open_marks (hval 1 27 v1 rfl rfl) h1
  obtain ⟨m2, rfl, rfl, rfl, w2⟩ := open_int Try.underlying3 (hval 2 3 v2 rfl rfl) h2
  clear hA0 hval0
  simp only [List.append_nil] at hW' hlt
  refine (recs_law A a b c ca cb cc M mp mc m2 W hra hrm).mono fun e W' hE => ?_
  obtain ⟨he, hg⟩ := hE
  subst he
  have z0 := Below.trod laidOut readAct rowAct h0 hg (fun x hx => hlt x (by simp [hx]))
  have z1 := Below.trod laidOut readBl rowBl h1 hg (fun x hx => hlt x (by simp [hx]))
  exact ⟨_, rfl, _, _, _, [], _, [], hW', (trodAll_cons_mk (shut_bool Try.underlying4 _) trodAll_mk0), (trodAll_cons_mk z0 (trodAll_cons_mk z1 (trodAll_cons_mk (shut_int Try.underlying3 w2) trodAll_mk0))), rfl, hg.frame _, fun h => by cases h⟩

theorem over : Rows.topRecordingsAreOneRow.holds Try.pinned (OpenSpec.ofChange Rows.topRecordingsAreOneSpec) :=
  OpenClaim.holds_of_wide 3 Try.f3 rfl rfl rfl rfl rfl rfl rfl ⟨rfl, rfl, rfl, rfl, rfl⟩ rfl rfl rfl rfl rfl (by kernel_rfl) Try.func3 (by kernel_rfl)
    (of_decide_eq_true (by kernel_rfl)) (by unfold Func.isWrapper; first | (rw [if_pos (by decide +kernel)]; kernel_rfl) | (rw [if_neg (by decide +kernel)]; exact ⟨rfl, rfl⟩))
    (fun os started H enc _ => lifted os started H enc)

/-- The statement. -/
theorem proved : Rows.TopRecordingsAreOneSaid :=
  over
#print axioms proved
end Go.Proofs.Ytkejjlghelnfjaa.topRecordingsAreOneDone
