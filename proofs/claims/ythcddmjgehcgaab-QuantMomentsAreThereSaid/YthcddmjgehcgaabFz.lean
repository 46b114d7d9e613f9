/- A zone that came in: how it reads, and that it reads so afterwards. -/
import Derived.Test.YthcddmjgehcgaabJ
import Derived.Test.YthcddmjgehcgaabRows
import Derived.ProofKit
import Derived.OpenShut
import Derived.Lib.SmallJoins
import Derived.Deep.SlicePairs
import Derived.Carry
namespace Go.Proofs.Ythcddmjgehcgaab
open Go.ChangeShapes Go.WideShapes Go.ChangeAt Go.RowKit Go.Deep

theorem laidOut : laidOutB Try.prog = true := by kernel_rfl
theorem cellsZone : Try.prog.cellsOf 24 = 2 := by kernel_rfl
theorem cellsChange : Try.prog.cellsOf 44 = 2 := by kernel_rfl
theorem cellsInt : Try.prog.cellsOf 3 = 1 := by kernel_rfl
theorem readZone : Try.prog.readableRec 24 = true := by kernel_rfl
theorem rowZone : 24 < Try.prog.types.size := of_decide_eq_true (by kernel_rfl)
def intV : Value → Int
  | .int _ n => n
  | _ => 0
set_option maxRecDepth 100000 in
theorem open_zone {H : Type} {enc : TypeId × Value → H} {W : World} {r : Reach} {b0 base : Nat} {v : Value} {d : DataW H} {p : List MemPlace}
    (hv : Value.okWide Try.prog W r b0 24 v) (h : DataW.Trod enc Try.prog W base (fun _ => true) true 24 v d p) :
    ∃ (first : Int) (a : Option Addr) (len cap : Nat) (F O : Nat → Int), v = .agg #[.int .i64 first, .slice a len cap] ∧ Rows2 W a len F O := by
  obtain ⟨c0, c1, y0, y1, m, rfl, rfl, rfl, hy0, hy1⟩ := Go.Joins.open_agg2 Try.underlying24 (by kernel_rfl) cellsZone hv h
  obtain ⟨first, e0, _, _⟩ := DataW.trod_int Try.underlying3 hy0
  simp at e0
  subst e0
  rcases open_slice_pairs Try.underlying22 Try.underlying44 cellsChange rfl rfl cellsInt cellsInt hy1 with ⟨hc, _⟩ | ⟨a, len, cap, m, k, V0, V1, D0, D1, P0, P1, hc, _, hl, hm, hmm, _, hall⟩
  · simp only [List.cons.injEq, and_true] at hc
    subst hc
    exact ⟨first, none, 0, 0, fun _ => 0, fun _ => 0, rfl, ⟨fun h => absurd h (by omega)⟩⟩
  · simp only [List.cons.injEq, and_true] at hc
    subst hc
    simp only [if_true] at hmm
    subst hmm
    refine ⟨first, some a, len, m, fun i => intV (V0 i), fun i => intV (V1 i), rfl, ⟨fun hl0 => ?_⟩⟩
    obtain ⟨b, o, sp⟩ := a
    have hspot : sp = none := by simpa [Addr.add] using World.cell?_spot (hall 0 (by omega)).1
    subst hspot
    refine ⟨b, o, rfl, ?_, fun i hi => ?_⟩
    · exact World.block_lt_of_cell? W _ (hall 0 (by omega)).1
    · obtain ⟨g0, g1, g2, g3⟩ := hall i (by omega)
      obtain ⟨x, hx, _, _⟩ := DataW.trod_int Try.underlying3 g2
      obtain ⟨y, hy, _, _⟩ := DataW.trod_int Try.underlying3 g3
      simp only [List.cons.injEq, and_true] at hx hy
      rw [hx] at g0
      rw [hy] at g1
      rw [add_plain] at g0 g1
      rw [hx, hy]
      exact ⟨g0, by rw [Nat.add_assoc]; exact g1⟩
end Go.Proofs.Ythcddmjgehcgaab
