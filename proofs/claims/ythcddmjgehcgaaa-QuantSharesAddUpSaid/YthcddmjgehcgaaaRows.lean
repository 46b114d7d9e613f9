/-
  No cell of these rows narrows 'for every input' (looked for: loops, veiled, ifaces, maps, wideKeys, modest, calm, conditions, laid).
  DERIVED. THE GIVEN ROWS OF THIS SEAT. 6 by the template 'for every input the law returns true; each argument reads behind the call as it read before'; 0 by the template 'total and deterministic' (their statements: YthcddmjgehcgaaaTotals.lean).
  GIVEN WITH THE SEED: the statements are not yours to turn. If you find one false, say at which input.
  Laid BY PROGRAM, IN A SANDBOX (cutbox-rows.mjs): the forced cells as the released guide's own fill.sh prints them over the translation 3c0c449ff16d859d… (all of the seat's roots in one cut). By AI agents, Wed Nov 11 2026. No macro, syntax, notation, axiom, sorry.
-/
import Derived.Test.YthcddmjgehcgaaaChecked
import GoSem.Claim
import GoSem.ClaimJoined
import GoSem.ClaimMapViews
import Derived.JoinedTies
import Derived.KernelRfl
namespace Go.Proofs.Ythcddmjgehcgaaa
/- THE CELL 'sum', in the pinned program and in every row, IS THE sha256 OF THE DUMP (.gsa) THAT YthcddmjgehcgaaaProg.lean LOADS. Nothing in Lean hashes anything: it is a label: what it is worth is what the hold of that sum in a sandbox is worth. -/
noncomputable def Try.pinned : Pinned := { name := "ythcddmjgehcgaaa", sum := "3c0c449ff16d859dde3a392f8b022b17b3216f21bd01e0e1df2a4d637b206444", checked := Try.checked }
namespace Rows
def none {H : Type} : Left H := { results := [], args := [] }

/-- 'harrierlaw1.QuantRoundsAreNear': WHATEVER THE INPUT: true; the input reads as it did. -/
def quantRoundsAreNearSpec : ChangeSpec := { name := "quantRoundsAreNear", fn := fun _ => fun
  | [d1, d2, d3, d4] => { results := [.lit (.bool true)], args := [d1, d2, d3, d4] }
  | _ => none }
def quantRoundsAreNearRow : OpenClaim := { program := "ythcddmjgehcgaaa", sum := "3c0c449ff16d859dde3a392f8b022b17b3216f21bd01e0e1df2a4d637b206444", func := "harrier/harrierlaw1.QuantRoundsAreNear", spec := "quantRoundsAreNear", inPlace := ["internal/bytealg.IndexByteString"], unfollowed := true, recurses := true, named := ["math/bits.divideError", "math/bits.overflowError"], apart := false }
def QuantRoundsAreNearSaid : Prop := quantRoundsAreNearRow.holds Try.pinned (OpenSpec.ofChange quantRoundsAreNearSpec)

/-- ITS FALSE NEIGHBOUR: 'it returns false'. Refute it at one input. -/
def quantRoundsAreNearWrong : ChangeSpec := { name := "quantRoundsAreNear", fn := fun _ => fun
  | [d1, d2, d3, d4] => { results := [.lit (.bool false)], args := [d1, d2, d3, d4] }
  | _ => none }
def QuantRoundsAreNearWrongFalsely : Prop := quantRoundsAreNearRow.holds Try.pinned (OpenSpec.ofChange quantRoundsAreNearWrong)

/-- 'harrierlaw1.QuantDivMatchesSpec': WHATEVER THE INPUT: true; the input reads as it did. -/
def quantDivMatchesSpecSpec : ChangeSpec := { name := "quantDivMatchesSpec", fn := fun _ => fun
  | [d1, d2, d3, d4] => { results := [.lit (.bool true)], args := [d1, d2, d3, d4] }
  | _ => none }
def quantDivMatchesSpecRow : OpenClaim := { program := "ythcddmjgehcgaaa", sum := "3c0c449ff16d859dde3a392f8b022b17b3216f21bd01e0e1df2a4d637b206444", func := "harrier/harrierlaw1.QuantDivMatchesSpec", spec := "quantDivMatchesSpec", inPlace := ["internal/bytealg.IndexByteString"], unfollowed := true, recurses := true, named := ["math/bits.divideError", "math/bits.overflowError"], apart := false }
def QuantDivMatchesSpecSaid : Prop := quantDivMatchesSpecRow.holds Try.pinned (OpenSpec.ofChange quantDivMatchesSpecSpec)

/-- ITS FALSE NEIGHBOUR: 'it returns false'. Refute it at one input. -/
def quantDivMatchesSpecWrong : ChangeSpec := { name := "quantDivMatchesSpec", fn := fun _ => fun
  | [d1, d2, d3, d4] => { results := [.lit (.bool false)], args := [d1, d2, d3, d4] }
  | _ => none }
def QuantDivMatchesSpecWrongFalsely : Prop := quantDivMatchesSpecRow.holds Try.pinned (OpenSpec.ofChange quantDivMatchesSpecWrong)

/-- 'harrierlaw1.QuantWeeksMatchSpec': WHATEVER THE INPUT: true; the input reads as it did. -/
def quantWeeksMatchSpecSpec : ChangeSpec := { name := "quantWeeksMatchSpec", fn := fun _ => fun
  | [d1, d2, d3] => { results := [.lit (.bool true)], args := [d1, d2, d3] }
  | _ => none }
def quantWeeksMatchSpecRow : OpenClaim := { program := "ythcddmjgehcgaaa", sum := "3c0c449ff16d859dde3a392f8b022b17b3216f21bd01e0e1df2a4d637b206444", func := "harrier/harrierlaw1.QuantWeeksMatchSpec", spec := "quantWeeksMatchSpec", inPlace := ["internal/bytealg.IndexByteString"], unfollowed := true, recurses := true, named := ["math/bits.divideError", "math/bits.overflowError"], apart := false }
def QuantWeeksMatchSpecSaid : Prop := quantWeeksMatchSpecRow.holds Try.pinned (OpenSpec.ofChange quantWeeksMatchSpecSpec)

/-- ITS FALSE NEIGHBOUR: 'it returns false'. Refute it at one input. -/
def quantWeeksMatchSpecWrong : ChangeSpec := { name := "quantWeeksMatchSpec", fn := fun _ => fun
  | [d1, d2, d3] => { results := [.lit (.bool false)], args := [d1, d2, d3] }
  | _ => none }
def QuantWeeksMatchSpecWrongFalsely : Prop := quantWeeksMatchSpecRow.holds Try.pinned (OpenSpec.ofChange quantWeeksMatchSpecWrong)

/-- 'harrierlaw1.QuantSharesAddUp': WHATEVER THE INPUT: true; the input reads as it did. -/
def quantSharesAddUpSpec : ChangeSpec := { name := "quantSharesAddUp", fn := fun _ => fun
  | [d1, d2] => { results := [.lit (.bool true)], args := [d1, d2] }
  | _ => none }
def quantSharesAddUpRow : OpenClaim := { program := "ythcddmjgehcgaaa", sum := "3c0c449ff16d859dde3a392f8b022b17b3216f21bd01e0e1df2a4d637b206444", func := "harrier/harrierlaw1.QuantSharesAddUp", spec := "quantSharesAddUp", inPlace := ["internal/bytealg.IndexByteString"], unfollowed := true, recurses := true, named := ["math/bits.divideError", "math/bits.overflowError"], apart := false }
def QuantSharesAddUpSaid : Prop := quantSharesAddUpRow.holds Try.pinned (OpenSpec.ofChange quantSharesAddUpSpec)

/-- ITS FALSE NEIGHBOUR: 'it returns false'. Refute it at one input. -/
def quantSharesAddUpWrong : ChangeSpec := { name := "quantSharesAddUp", fn := fun _ => fun
  | [d1, d2] => { results := [.lit (.bool false)], args := [d1, d2] }
  | _ => none }
def QuantSharesAddUpWrongFalsely : Prop := quantSharesAddUpRow.holds Try.pinned (OpenSpec.ofChange quantSharesAddUpWrong)

/-- 'harrierlaw1.QuantShareMatchesSpec': WHATEVER THE INPUT: true; the input reads as it did. -/
def quantShareMatchesSpecSpec : ChangeSpec := { name := "quantShareMatchesSpec", fn := fun _ => fun
  | [d1, d2] => { results := [.lit (.bool true)], args := [d1, d2] }
  | _ => none }
def quantShareMatchesSpecRow : OpenClaim := { program := "ythcddmjgehcgaaa", sum := "3c0c449ff16d859dde3a392f8b022b17b3216f21bd01e0e1df2a4d637b206444", func := "harrier/harrierlaw1.QuantShareMatchesSpec", spec := "quantShareMatchesSpec", inPlace := ["internal/bytealg.IndexByteString"], unfollowed := true, recurses := true, named := ["math/bits.divideError", "math/bits.overflowError"], apart := false }
def QuantShareMatchesSpecSaid : Prop := quantShareMatchesSpecRow.holds Try.pinned (OpenSpec.ofChange quantShareMatchesSpecSpec)

/-- ITS FALSE NEIGHBOUR: 'it returns false'. Refute it at one input. -/
def quantShareMatchesSpecWrong : ChangeSpec := { name := "quantShareMatchesSpec", fn := fun _ => fun
  | [d1, d2] => { results := [.lit (.bool false)], args := [d1, d2] }
  | _ => none }
def QuantShareMatchesSpecWrongFalsely : Prop := quantShareMatchesSpecRow.holds Try.pinned (OpenSpec.ofChange quantShareMatchesSpecWrong)

/-- 'harrierlaw1.QuantZonesMatchSpec': WHATEVER THE INPUT: true; the input reads as it did. -/
def quantZonesMatchSpecSpec : ChangeSpec := { name := "quantZonesMatchSpec", fn := fun _ => fun
  | [d1, d2, d3, d4] => { results := [.lit (.bool true)], args := [d1, d2, d3, d4] }
  | _ => none }
def quantZonesMatchSpecRow : OpenClaim := { program := "ythcddmjgehcgaaa", sum := "3c0c449ff16d859dde3a392f8b022b17b3216f21bd01e0e1df2a4d637b206444", func := "harrier/harrierlaw1.QuantZonesMatchSpec", spec := "quantZonesMatchSpec", inPlace := ["internal/bytealg.IndexByteString"], unfollowed := true, recurses := true, named := ["math/bits.divideError", "math/bits.overflowError"], apart := false }
def QuantZonesMatchSpecSaid : Prop := quantZonesMatchSpecRow.holds Try.pinned (OpenSpec.ofChange quantZonesMatchSpecSpec)

/-- ITS FALSE NEIGHBOUR: 'it returns false'. Refute it at one input. -/
def quantZonesMatchSpecWrong : ChangeSpec := { name := "quantZonesMatchSpec", fn := fun _ => fun
  | [d1, d2, d3, d4] => { results := [.lit (.bool false)], args := [d1, d2, d3, d4] }
  | _ => none }
def QuantZonesMatchSpecWrongFalsely : Prop := quantZonesMatchSpecRow.holds Try.pinned (OpenSpec.ofChange quantZonesMatchSpecWrong)

/- THE SECOND FORM. 'bulk': how many values and letters a reading holds, each counted each time it is reached (what is shared counts as often as it is met; a slice's spare places count too). A statement '..UptoSaid' is the law's where the arguments, and the package variables that the reading takes, are together of bulk at most 1048576: NARROWER than '..Said'. Prove '..Said' where nothing that the law and all that it calls make is longer than what came in: it says more and counts as full. Else prove '..UptoSaid'. A law counts once. -/
mutual
def uptoBulk {H : Type} : DataW H → Nat
  | .lit (.string bytes) => bytes.length + 1
  | .lit _ => 1
  | .nil => 1
  | .ptr d => uptoBulk d + 1
  | .slice elems spare => uptoBulkAll elems + uptoBulkAll spare + 1
  | .agg parts => uptoBulkAll parts + 1
  | .iface _ d => uptoBulk d + 1
  | .map entries => uptoBulkEntries entries + 1
  | .held _ => 1
def uptoBulkAll {H : Type} : List (DataW H) → Nat
  | [] => 0
  | d :: r => uptoBulk d + uptoBulkAll r
def uptoBulkEntries {H : Type} : List (Lit × DataW H) → Nat
  | [] => 0
  | x :: r => uptoBulkEntry x + uptoBulkEntries r
def uptoBulkEntry {H : Type} : Lit × DataW H → Nat
  | (.string bytes, d) => bytes.length + uptoBulk d + 1
  | (_, d) => uptoBulk d + 1
 end
def uptoSmall : (H : Type) → List (DataW H) → Bool := fun _ ds => decide (uptoBulkAll ds ≤ 1048576)
def OpenSpec.upto (s : _root_.Go.ChangeSpec) : _root_.Go.OpenSpec := { _root_.Go.OpenSpec.ofChange s with cond := some uptoSmall }

/-- 'harrierlaw1.QuantRoundsAreNear', WHERE WHAT IT READS IS OF BULK AT MOST 1048576: true; the input reads as it did. -/
def quantRoundsAreNearUptoRow : OpenClaim := { program := "ythcddmjgehcgaaa", sum := "3c0c449ff16d859dde3a392f8b022b17b3216f21bd01e0e1df2a4d637b206444", func := "harrier/harrierlaw1.QuantRoundsAreNear", spec := "quantRoundsAreNear", inPlace := ["internal/bytealg.IndexByteString"], unfollowed := true, recurses := true, named := ["math/bits.divideError", "math/bits.overflowError"], apart := false, narrowed := true }
def QuantRoundsAreNearUptoSaid : Prop := quantRoundsAreNearUptoRow.holds Try.pinned (OpenSpec.upto quantRoundsAreNearSpec)

/-- 'harrierlaw1.QuantDivMatchesSpec', WHERE WHAT IT READS IS OF BULK AT MOST 1048576: true; the input reads as it did. -/
def quantDivMatchesSpecUptoRow : OpenClaim := { program := "ythcddmjgehcgaaa", sum := "3c0c449ff16d859dde3a392f8b022b17b3216f21bd01e0e1df2a4d637b206444", func := "harrier/harrierlaw1.QuantDivMatchesSpec", spec := "quantDivMatchesSpec", inPlace := ["internal/bytealg.IndexByteString"], unfollowed := true, recurses := true, named := ["math/bits.divideError", "math/bits.overflowError"], apart := false, narrowed := true }
def QuantDivMatchesSpecUptoSaid : Prop := quantDivMatchesSpecUptoRow.holds Try.pinned (OpenSpec.upto quantDivMatchesSpecSpec)

/-- 'harrierlaw1.QuantWeeksMatchSpec', WHERE WHAT IT READS IS OF BULK AT MOST 1048576: true; the input reads as it did. -/
def quantWeeksMatchSpecUptoRow : OpenClaim := { program := "ythcddmjgehcgaaa", sum := "3c0c449ff16d859dde3a392f8b022b17b3216f21bd01e0e1df2a4d637b206444", func := "harrier/harrierlaw1.QuantWeeksMatchSpec", spec := "quantWeeksMatchSpec", inPlace := ["internal/bytealg.IndexByteString"], unfollowed := true, recurses := true, named := ["math/bits.divideError", "math/bits.overflowError"], apart := false, narrowed := true }
def QuantWeeksMatchSpecUptoSaid : Prop := quantWeeksMatchSpecUptoRow.holds Try.pinned (OpenSpec.upto quantWeeksMatchSpecSpec)

/-- 'harrierlaw1.QuantSharesAddUp', WHERE WHAT IT READS IS OF BULK AT MOST 1048576: true; the input reads as it did. -/
def quantSharesAddUpUptoRow : OpenClaim := { program := "ythcddmjgehcgaaa", sum := "3c0c449ff16d859dde3a392f8b022b17b3216f21bd01e0e1df2a4d637b206444", func := "harrier/harrierlaw1.QuantSharesAddUp", spec := "quantSharesAddUp", inPlace := ["internal/bytealg.IndexByteString"], unfollowed := true, recurses := true, named := ["math/bits.divideError", "math/bits.overflowError"], apart := false, narrowed := true }
def QuantSharesAddUpUptoSaid : Prop := quantSharesAddUpUptoRow.holds Try.pinned (OpenSpec.upto quantSharesAddUpSpec)

/-- 'harrierlaw1.QuantShareMatchesSpec', WHERE WHAT IT READS IS OF BULK AT MOST 1048576: true; the input reads as it did. -/
def quantShareMatchesSpecUptoRow : OpenClaim := { program := "ythcddmjgehcgaaa", sum := "3c0c449ff16d859dde3a392f8b022b17b3216f21bd01e0e1df2a4d637b206444", func := "harrier/harrierlaw1.QuantShareMatchesSpec", spec := "quantShareMatchesSpec", inPlace := ["internal/bytealg.IndexByteString"], unfollowed := true, recurses := true, named := ["math/bits.divideError", "math/bits.overflowError"], apart := false, narrowed := true }
def QuantShareMatchesSpecUptoSaid : Prop := quantShareMatchesSpecUptoRow.holds Try.pinned (OpenSpec.upto quantShareMatchesSpecSpec)

/-- 'harrierlaw1.QuantZonesMatchSpec', WHERE WHAT IT READS IS OF BULK AT MOST 1048576: true; the input reads as it did. -/
def quantZonesMatchSpecUptoRow : OpenClaim := { program := "ythcddmjgehcgaaa", sum := "3c0c449ff16d859dde3a392f8b022b17b3216f21bd01e0e1df2a4d637b206444", func := "harrier/harrierlaw1.QuantZonesMatchSpec", spec := "quantZonesMatchSpec", inPlace := ["internal/bytealg.IndexByteString"], unfollowed := true, recurses := true, named := ["math/bits.divideError", "math/bits.overflowError"], apart := false, narrowed := true }
def QuantZonesMatchSpecUptoSaid : Prop := quantZonesMatchSpecUptoRow.holds Try.pinned (OpenSpec.upto quantZonesMatchSpecSpec)

end Rows
end Go.Proofs.Ythcddmjgehcgaaa
