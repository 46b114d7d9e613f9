/-
  No cell of these rows narrows 'for every input' (looked for: loops, veiled, ifaces, maps, wideKeys, modest, calm, conditions, laid).
  DERIVED. THE GIVEN ROWS OF THIS SEAT. 5 by the template 'for every input the law returns true; each argument reads behind the call as it read before'; 0 by the template 'total and deterministic' (their statements: YtckjdpnmalkpnaaTotals.lean).
  GIVEN WITH THE SEED: the statements are not yours to turn. If you find one false, say at which input.
  Laid BY PROGRAM, IN A SANDBOX (cutbox-rows.mjs): the forced cells as the released guide's own fill.sh prints them over the translation 56df1dee246a473a… (all of the seat's roots in one cut). By AI agents, Wed Nov 11 2026. No macro, syntax, notation, axiom, sorry.
-/
import Derived.Test.YtckjdpnmalkpnaaChecked
import GoSem.Claim
import GoSem.ClaimJoined
import GoSem.ClaimMapViews
import Derived.JoinedTies
import Derived.KernelRfl
namespace Go.Proofs.Ytckjdpnmalkpnaa
/- THE CELL 'sum', in the pinned program and in every row, IS THE sha256 OF THE DUMP (.gsa) THAT YtckjdpnmalkpnaaProg.lean LOADS. Nothing in Lean hashes anything: it is a label: what it is worth is what the hold of that sum in a sandbox is worth. -/
noncomputable def Try.pinned : Pinned := { name := "ytckjdpnmalkpnaa", sum := "56df1dee246a473ab0244bcbc71278c99629a63d49e83f6e24652e5d6477ea41", checked := Try.checked }
namespace Rows
def none {H : Type} : Left H := { results := [], args := [] }

/-- 'harrierlaw11.TrailTidyMatchesSpec': WHATEVER THE INPUT: true; the input reads as it did. -/
def trailTidyMatchesSpecSpec : ChangeSpec := { name := "trailTidyMatchesSpec", fn := fun _ => fun
  | [d] => { results := [.lit (.bool true)], args := [d] }
  | _ => none }
def trailTidyMatchesSpecRow : OpenClaim := { program := "ytckjdpnmalkpnaa", sum := "56df1dee246a473ab0244bcbc71278c99629a63d49e83f6e24652e5d6477ea41", func := "harrier/harrierlaw11.TrailTidyMatchesSpec", spec := "trailTidyMatchesSpec", inPlace := ["slices.overlaps[harrier/api.Edit]", "internal/bytealg.abigen_runtime_cmpstring"], unfollowed := true, recurses := true, apart := false }
def TrailTidyMatchesSpecSaid : Prop := trailTidyMatchesSpecRow.holds Try.pinned (OpenSpec.ofChange trailTidyMatchesSpecSpec)

/-- ITS FALSE NEIGHBOUR: 'it returns false'. Refute it at one input. -/
def trailTidyMatchesSpecWrong : ChangeSpec := { name := "trailTidyMatchesSpec", fn := fun _ => fun
  | [d] => { results := [.lit (.bool false)], args := [d] }
  | _ => none }
def TrailTidyMatchesSpecWrongFalsely : Prop := trailTidyMatchesSpecRow.holds Try.pinned (OpenSpec.ofChange trailTidyMatchesSpecWrong)

/-- 'harrierlaw11.TrailFitMatchesSpec': WHATEVER THE INPUT: true; the input reads as it did. -/
def trailFitMatchesSpecSpec : ChangeSpec := { name := "trailFitMatchesSpec", fn := fun _ => fun
  | [d1, d2, d3, d4] => { results := [.lit (.bool true)], args := [d1, d2, d3, d4] }
  | _ => none }
def trailFitMatchesSpecRow : OpenClaim := { program := "ytckjdpnmalkpnaa", sum := "56df1dee246a473ab0244bcbc71278c99629a63d49e83f6e24652e5d6477ea41", func := "harrier/harrierlaw11.TrailFitMatchesSpec", spec := "trailFitMatchesSpec", inPlace := ["slices.overlaps[harrier/api.Edit]", "internal/bytealg.abigen_runtime_cmpstring"], unfollowed := true, recurses := true, named := ["math/bits.divideError", "math/bits.overflowError"], apart := false }
def TrailFitMatchesSpecSaid : Prop := trailFitMatchesSpecRow.holds Try.pinned (OpenSpec.ofChange trailFitMatchesSpecSpec)

/-- ITS FALSE NEIGHBOUR: 'it returns false'. Refute it at one input. -/
def trailFitMatchesSpecWrong : ChangeSpec := { name := "trailFitMatchesSpec", fn := fun _ => fun
  | [d1, d2, d3, d4] => { results := [.lit (.bool false)], args := [d1, d2, d3, d4] }
  | _ => none }
def TrailFitMatchesSpecWrongFalsely : Prop := trailFitMatchesSpecRow.holds Try.pinned (OpenSpec.ofChange trailFitMatchesSpecWrong)

/-- 'harrierlaw11.TrailFitFollowsClocks': WHATEVER THE INPUT: true; the input reads as it did. -/
def trailFitFollowsClocksSpec : ChangeSpec := { name := "trailFitFollowsClocks", fn := fun _ => fun
  | [d1, d2, d3, d4, d5] => { results := [.lit (.bool true)], args := [d1, d2, d3, d4, d5] }
  | _ => none }
def trailFitFollowsClocksRow : OpenClaim := { program := "ytckjdpnmalkpnaa", sum := "56df1dee246a473ab0244bcbc71278c99629a63d49e83f6e24652e5d6477ea41", func := "harrier/harrierlaw11.TrailFitFollowsClocks", spec := "trailFitFollowsClocks", inPlace := ["slices.overlaps[harrier/api.Edit]", "internal/bytealg.abigen_runtime_cmpstring"], unfollowed := true, recurses := true, named := ["math/bits.divideError", "math/bits.overflowError"], apart := false }
def TrailFitFollowsClocksSaid : Prop := trailFitFollowsClocksRow.holds Try.pinned (OpenSpec.ofChange trailFitFollowsClocksSpec)

/-- ITS FALSE NEIGHBOUR: 'it returns false'. Refute it at one input. -/
def trailFitFollowsClocksWrong : ChangeSpec := { name := "trailFitFollowsClocks", fn := fun _ => fun
  | [d1, d2, d3, d4, d5] => { results := [.lit (.bool false)], args := [d1, d2, d3, d4, d5] }
  | _ => none }
def TrailFitFollowsClocksWrongFalsely : Prop := trailFitFollowsClocksRow.holds Try.pinned (OpenSpec.ofChange trailFitFollowsClocksWrong)

/-- 'harrierlaw11.TrailPairsMatchSpec': WHATEVER THE INPUT: true; the input reads as it did. -/
def trailPairsMatchSpecSpec : ChangeSpec := { name := "trailPairsMatchSpec", fn := fun _ => fun
  | [d1, d2, d3, d4] => { results := [.lit (.bool true)], args := [d1, d2, d3, d4] }
  | _ => none }
def trailPairsMatchSpecRow : OpenClaim := { program := "ytckjdpnmalkpnaa", sum := "56df1dee246a473ab0244bcbc71278c99629a63d49e83f6e24652e5d6477ea41", func := "harrier/harrierlaw11.TrailPairsMatchSpec", spec := "trailPairsMatchSpec", inPlace := ["slices.overlaps[harrier/api.Edit]", "internal/bytealg.abigen_runtime_cmpstring"], unfollowed := true, recurses := true, named := ["math/bits.divideError", "math/bits.overflowError"], apart := false }
def TrailPairsMatchSpecSaid : Prop := trailPairsMatchSpecRow.holds Try.pinned (OpenSpec.ofChange trailPairsMatchSpecSpec)

/-- ITS FALSE NEIGHBOUR: 'it returns false'. Refute it at one input. -/
def trailPairsMatchSpecWrong : ChangeSpec := { name := "trailPairsMatchSpec", fn := fun _ => fun
  | [d1, d2, d3, d4] => { results := [.lit (.bool false)], args := [d1, d2, d3, d4] }
  | _ => none }
def TrailPairsMatchSpecWrongFalsely : Prop := trailPairsMatchSpecRow.holds Try.pinned (OpenSpec.ofChange trailPairsMatchSpecWrong)

/-- 'harrierlaw11.TrailPairsAreNear': WHATEVER THE INPUT: true; the input reads as it did. -/
def trailPairsAreNearSpec : ChangeSpec := { name := "trailPairsAreNear", fn := fun _ => fun
  | [d1, d2, d3, d4] => { results := [.lit (.bool true)], args := [d1, d2, d3, d4] }
  | _ => none }
def trailPairsAreNearRow : OpenClaim := { program := "ytckjdpnmalkpnaa", sum := "56df1dee246a473ab0244bcbc71278c99629a63d49e83f6e24652e5d6477ea41", func := "harrier/harrierlaw11.TrailPairsAreNear", spec := "trailPairsAreNear", inPlace := ["slices.overlaps[harrier/api.Edit]", "internal/bytealg.abigen_runtime_cmpstring"], unfollowed := true, recurses := true, named := ["math/bits.divideError", "math/bits.overflowError"], apart := false }
def TrailPairsAreNearSaid : Prop := trailPairsAreNearRow.holds Try.pinned (OpenSpec.ofChange trailPairsAreNearSpec)

/-- ITS FALSE NEIGHBOUR: 'it returns false'. Refute it at one input. -/
def trailPairsAreNearWrong : ChangeSpec := { name := "trailPairsAreNear", fn := fun _ => fun
  | [d1, d2, d3, d4] => { results := [.lit (.bool false)], args := [d1, d2, d3, d4] }
  | _ => none }
def TrailPairsAreNearWrongFalsely : Prop := trailPairsAreNearRow.holds Try.pinned (OpenSpec.ofChange trailPairsAreNearWrong)

/- THE SECOND FORM. 'bulk': how many values and letters a reading holds, each counted each time it is reached (what is shared counts as often as it is met; a slice's spare places count too). A statement '..UptoSaid' is the law's where the arguments, and the package variables that the reading takes, are together of bulk at most 1048576: NARROWER than '..Said'. Prove '..Said' where nothing that the law and all that it calls make is longer than what came in: it says more and counts as full. Else prove '..UptoSaid'. A law counts once. -/
mutual
def uptoBulk {H : Type} : DataW H → Nat
  | .lit (.string bytes) => bytes.length + 1
  | .lit _ => 1
  | .nil => 1
  | .ptr d => uptoBulk d + 1
  | .slice elems spare => uptoBulkAll elems + uptoBulkAll spare + 1
  | .agg parts => uptoBulkAll parts + 1
  | .iface _ d => uptoBulk d + 1
  | .map entries => uptoBulkEntries entries + 1
  | .held _ => 1
def uptoBulkAll {H : Type} : List (DataW H) → Nat
  | [] => 0
  | d :: r => uptoBulk d + uptoBulkAll r
def uptoBulkEntries {H : Type} : List (Lit × DataW H) → Nat
  | [] => 0
  | x :: r => uptoBulkEntry x + uptoBulkEntries r
def uptoBulkEntry {H : Type} : Lit × DataW H → Nat
  | (.string bytes, d) => bytes.length + uptoBulk d + 1
  | (_, d) => uptoBulk d + 1
 end
def uptoSmall : (H : Type) → List (DataW H) → Bool := fun _ ds => decide (uptoBulkAll ds ≤ 1048576)
def OpenSpec.upto (s : _root_.Go.ChangeSpec) : _root_.Go.OpenSpec := { _root_.Go.OpenSpec.ofChange s with cond := some uptoSmall }

/-- 'harrierlaw11.TrailTidyMatchesSpec', WHERE WHAT IT READS IS OF BULK AT MOST 1048576: true; the input reads as it did. -/
def trailTidyMatchesSpecUptoRow : OpenClaim := { program := "ytckjdpnmalkpnaa", sum := "56df1dee246a473ab0244bcbc71278c99629a63d49e83f6e24652e5d6477ea41", func := "harrier/harrierlaw11.TrailTidyMatchesSpec", spec := "trailTidyMatchesSpec", inPlace := ["slices.overlaps[harrier/api.Edit]", "internal/bytealg.abigen_runtime_cmpstring"], unfollowed := true, recurses := true, apart := false, narrowed := true }
def TrailTidyMatchesSpecUptoSaid : Prop := trailTidyMatchesSpecUptoRow.holds Try.pinned (OpenSpec.upto trailTidyMatchesSpecSpec)

/-- 'harrierlaw11.TrailFitMatchesSpec', WHERE WHAT IT READS IS OF BULK AT MOST 1048576: true; the input reads as it did. -/
def trailFitMatchesSpecUptoRow : OpenClaim := { program := "ytckjdpnmalkpnaa", sum := "56df1dee246a473ab0244bcbc71278c99629a63d49e83f6e24652e5d6477ea41", func := "harrier/harrierlaw11.TrailFitMatchesSpec", spec := "trailFitMatchesSpec", inPlace := ["slices.overlaps[harrier/api.Edit]", "internal/bytealg.abigen_runtime_cmpstring"], unfollowed := true, recurses := true, named := ["math/bits.divideError", "math/bits.overflowError"], apart := false, narrowed := true }
def TrailFitMatchesSpecUptoSaid : Prop := trailFitMatchesSpecUptoRow.holds Try.pinned (OpenSpec.upto trailFitMatchesSpecSpec)

/-- 'harrierlaw11.TrailFitFollowsClocks', WHERE WHAT IT READS IS OF BULK AT MOST 1048576: true; the input reads as it did. -/
def trailFitFollowsClocksUptoRow : OpenClaim := { program := "ytckjdpnmalkpnaa", sum := "56df1dee246a473ab0244bcbc71278c99629a63d49e83f6e24652e5d6477ea41", func := "harrier/harrierlaw11.TrailFitFollowsClocks", spec := "trailFitFollowsClocks", inPlace := ["slices.overlaps[harrier/api.Edit]", "internal/bytealg.abigen_runtime_cmpstring"], unfollowed := true, recurses := true, named := ["math/bits.divideError", "math/bits.overflowError"], apart := false, narrowed := true }
def TrailFitFollowsClocksUptoSaid : Prop := trailFitFollowsClocksUptoRow.holds Try.pinned (OpenSpec.upto trailFitFollowsClocksSpec)

/-- 'harrierlaw11.TrailPairsMatchSpec', WHERE WHAT IT READS IS OF BULK AT MOST 1048576: true; the input reads as it did. -/
def trailPairsMatchSpecUptoRow : OpenClaim := { program := "ytckjdpnmalkpnaa", sum := "56df1dee246a473ab0244bcbc71278c99629a63d49e83f6e24652e5d6477ea41", func := "harrier/harrierlaw11.TrailPairsMatchSpec", spec := "trailPairsMatchSpec", inPlace := ["slices.overlaps[harrier/api.Edit]", "internal/bytealg.abigen_runtime_cmpstring"], unfollowed := true, recurses := true, named := ["math/bits.divideError", "math/bits.overflowError"], apart := false, narrowed := true }
def TrailPairsMatchSpecUptoSaid : Prop := trailPairsMatchSpecUptoRow.holds Try.pinned (OpenSpec.upto trailPairsMatchSpecSpec)

/-- 'harrierlaw11.TrailPairsAreNear', WHERE WHAT IT READS IS OF BULK AT MOST 1048576: true; the input reads as it did. -/
def trailPairsAreNearUptoRow : OpenClaim := { program := "ytckjdpnmalkpnaa", sum := "56df1dee246a473ab0244bcbc71278c99629a63d49e83f6e24652e5d6477ea41", func := "harrier/harrierlaw11.TrailPairsAreNear", spec := "trailPairsAreNear", inPlace := ["slices.overlaps[harrier/api.Edit]", "internal/bytealg.abigen_runtime_cmpstring"], unfollowed := true, recurses := true, named := ["math/bits.divideError", "math/bits.overflowError"], apart := false, narrowed := true }
def TrailPairsAreNearUptoSaid : Prop := trailPairsAreNearUptoRow.holds Try.pinned (OpenSpec.upto trailPairsAreNearSpec)

end Rows
end Go.Proofs.Ytckjdpnmalkpnaa
