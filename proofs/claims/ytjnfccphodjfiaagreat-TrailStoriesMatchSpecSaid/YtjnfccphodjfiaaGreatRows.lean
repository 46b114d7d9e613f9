/-
  No cell of these rows narrows 'for every input' (looked for: loops, veiled, ifaces, maps, wideKeys, modest, calm, conditions, laid).
  DERIVED. THE GIVEN ROWS OF THIS SEAT. 4 by the template 'for every input the law returns true; each argument reads behind the call as it read before'; 0 by the template 'total and deterministic' (their statements: YtjnfccphodjfiaaGreatTotals.lean).
  GIVEN WITH THE SEED: the statements are not yours to turn. If you find one false, say at which input.
  Laid BY PROGRAM, IN A SANDBOX (cutbox-rows.mjs): the forced cells as the released guide's own fill.sh prints them over the translation 05b129fbc9890dca… (all of the seat's roots in one cut). By AI agents, Wed Nov 11 2026. No macro, syntax, notation, axiom, sorry.
-/
import Derived.Test.YtjnfccphodjfiaaGreatChecked
import GoSem.Claim
import GoSem.ClaimJoined
import GoSem.ClaimMapViews
import Derived.JoinedTies
import Derived.KernelRfl
namespace Go.Proofs.YtjnfccphodjfiaaGreat
/- THE CELL 'sum', in the pinned program and in every row, IS THE sha256 OF THE DUMP (.gsa) THAT YtjnfccphodjfiaaGreatProg.lean LOADS. Nothing in Lean hashes anything: it is a label: what it is worth is what the hold of that sum in a sandbox is worth. -/
noncomputable def Tryz.pinned : Pinned := { name := "ytjnfccphodjfiaagreat", sum := "05b129fbc9890dca818421f8acc6ca5e822afb051cb4cd0969de4a286a7ce3ea", checked := Tryz.checked }
namespace Rows
def none {H : Type} : Left H := { results := [], args := [] }

/-- 'harrierlaw11.TrailEditsMatchSpec': WHATEVER THE INPUT: true; the input reads as it did. -/
def trailEditsMatchSpecSpec : ChangeSpec := { name := "trailEditsMatchSpec", fn := fun _ => fun
  | [d1, d2] => { results := [.lit (.bool true)], args := [d1, d2] }
  | _ => none }
def trailEditsMatchSpecRow : OpenClaim := { program := "ytjnfccphodjfiaagreat", sum := "05b129fbc9890dca818421f8acc6ca5e822afb051cb4cd0969de4a286a7ce3ea", func := "harrier/harrierlaw11.TrailEditsMatchSpec", spec := "trailEditsMatchSpec", inPlace := ["slices.overlaps[harrier/api.Edit]", "internal/bytealg.abigen_runtime_cmpstring"], unfollowed := true, recurses := true, named := ["math/bits.divideError", "math/bits.overflowError"], apart := false }
def TrailEditsMatchSpecSaid : Prop := trailEditsMatchSpecRow.holds Tryz.pinned (OpenSpec.ofChange trailEditsMatchSpecSpec)

/-- ITS FALSE NEIGHBOUR: 'it returns false'. Refute it at one input. -/
def trailEditsMatchSpecWrong : ChangeSpec := { name := "trailEditsMatchSpec", fn := fun _ => fun
  | [d1, d2] => { results := [.lit (.bool false)], args := [d1, d2] }
  | _ => none }
def TrailEditsMatchSpecWrongFalsely : Prop := trailEditsMatchSpecRow.holds Tryz.pinned (OpenSpec.ofChange trailEditsMatchSpecWrong)

/-- 'harrierlaw11.TrailAllMatchesSpec': WHATEVER THE INPUT: true; the input reads as it did. -/
def trailAllMatchesSpecSpec : ChangeSpec := { name := "trailAllMatchesSpec", fn := fun _ => fun
  | [d1, d2] => { results := [.lit (.bool true)], args := [d1, d2] }
  | _ => none }
def trailAllMatchesSpecRow : OpenClaim := { program := "ytjnfccphodjfiaagreat", sum := "05b129fbc9890dca818421f8acc6ca5e822afb051cb4cd0969de4a286a7ce3ea", func := "harrier/harrierlaw11.TrailAllMatchesSpec", spec := "trailAllMatchesSpec", inPlace := ["slices.overlaps[harrier/api.Edit]", "internal/bytealg.abigen_runtime_cmpstring"], unfollowed := true, recurses := true, named := ["math/bits.divideError", "math/bits.overflowError"], apart := false }
def TrailAllMatchesSpecSaid : Prop := trailAllMatchesSpecRow.holds Tryz.pinned (OpenSpec.ofChange trailAllMatchesSpecSpec)

/-- ITS FALSE NEIGHBOUR: 'it returns false'. Refute it at one input. -/
def trailAllMatchesSpecWrong : ChangeSpec := { name := "trailAllMatchesSpec", fn := fun _ => fun
  | [d1, d2] => { results := [.lit (.bool false)], args := [d1, d2] }
  | _ => none }
def TrailAllMatchesSpecWrongFalsely : Prop := trailAllMatchesSpecRow.holds Tryz.pinned (OpenSpec.ofChange trailAllMatchesSpecWrong)

/-- 'harrierlaw11.TrailMergeMatchesSpec': WHATEVER THE INPUT: true; the input reads as it did. -/
def trailMergeMatchesSpecSpec : ChangeSpec := { name := "trailMergeMatchesSpec", fn := fun _ => fun
  | [d1, d2, d3] => { results := [.lit (.bool true)], args := [d1, d2, d3] }
  | _ => none }
def trailMergeMatchesSpecRow : OpenClaim := { program := "ytjnfccphodjfiaagreat", sum := "05b129fbc9890dca818421f8acc6ca5e822afb051cb4cd0969de4a286a7ce3ea", func := "harrier/harrierlaw11.TrailMergeMatchesSpec", spec := "trailMergeMatchesSpec", inPlace := ["slices.overlaps[harrier/api.Edit]", "internal/bytealg.abigen_runtime_cmpstring"], unfollowed := true, recurses := true, apart := false }
def TrailMergeMatchesSpecSaid : Prop := trailMergeMatchesSpecRow.holds Tryz.pinned (OpenSpec.ofChange trailMergeMatchesSpecSpec)

/-- ITS FALSE NEIGHBOUR: 'it returns false'. Refute it at one input. -/
def trailMergeMatchesSpecWrong : ChangeSpec := { name := "trailMergeMatchesSpec", fn := fun _ => fun
  | [d1, d2, d3] => { results := [.lit (.bool false)], args := [d1, d2, d3] }
  | _ => none }
def TrailMergeMatchesSpecWrongFalsely : Prop := trailMergeMatchesSpecRow.holds Tryz.pinned (OpenSpec.ofChange trailMergeMatchesSpecWrong)

/-- 'harrierlaw11.TrailStoriesMatchSpec': WHATEVER THE INPUT: true; the input reads as it did. -/
def trailStoriesMatchSpecSpec : ChangeSpec := { name := "trailStoriesMatchSpec", fn := fun _ => fun
  | [d1, d2] => { results := [.lit (.bool true)], args := [d1, d2] }
  | _ => none }
def trailStoriesMatchSpecRow : OpenClaim := { program := "ytjnfccphodjfiaagreat", sum := "05b129fbc9890dca818421f8acc6ca5e822afb051cb4cd0969de4a286a7ce3ea", func := "harrier/harrierlaw11.TrailStoriesMatchSpec", spec := "trailStoriesMatchSpec", inPlace := ["slices.overlaps[harrier/api.Edit]", "internal/bytealg.abigen_runtime_cmpstring"], unfollowed := true, recurses := true, named := ["math/bits.divideError", "math/bits.overflowError"], apart := false }
def TrailStoriesMatchSpecSaid : Prop := trailStoriesMatchSpecRow.holds Tryz.pinned (OpenSpec.ofChange trailStoriesMatchSpecSpec)

/-- ITS FALSE NEIGHBOUR: 'it returns false'. Refute it at one input. -/
def trailStoriesMatchSpecWrong : ChangeSpec := { name := "trailStoriesMatchSpec", fn := fun _ => fun
  | [d1, d2] => { results := [.lit (.bool false)], args := [d1, d2] }
  | _ => none }
def TrailStoriesMatchSpecWrongFalsely : Prop := trailStoriesMatchSpecRow.holds Tryz.pinned (OpenSpec.ofChange trailStoriesMatchSpecWrong)

/- THE SECOND FORM. 'bulk': how many values and letters a reading holds, each counted each time it is reached (what is shared counts as often as it is met; a slice's spare places count too). A statement '..UptoSaid' is the law's where the arguments, and the package variables that the reading takes, are together of bulk at most 1048576: NARROWER than '..Said'. Prove '..Said' where nothing that the law and all that it calls make is longer than what came in: it says more and counts as full. Else prove '..UptoSaid'. A law counts once. -/
mutual
def uptoBulk {H : Type} : DataW H → Nat
  | .lit (.string bytes) => bytes.length + 1
  | .lit _ => 1
  | .nil => 1
  | .ptr d => uptoBulk d + 1
  | .slice elems spare => uptoBulkAll elems + uptoBulkAll spare + 1
  | .agg parts => uptoBulkAll parts + 1
  | .iface _ d => uptoBulk d + 1
  | .map entries => uptoBulkEntries entries + 1
  | .held _ => 1
def uptoBulkAll {H : Type} : List (DataW H) → Nat
  | [] => 0
  | d :: r => uptoBulk d + uptoBulkAll r
def uptoBulkEntries {H : Type} : List (Lit × DataW H) → Nat
  | [] => 0
  | x :: r => uptoBulkEntry x + uptoBulkEntries r
def uptoBulkEntry {H : Type} : Lit × DataW H → Nat
  | (.string bytes, d) => bytes.length + uptoBulk d + 1
  | (_, d) => uptoBulk d + 1
 end
def uptoSmall : (H : Type) → List (DataW H) → Bool := fun _ ds => decide (uptoBulkAll ds ≤ 1048576)
def OpenSpec.upto (s : _root_.Go.ChangeSpec) : _root_.Go.OpenSpec := { _root_.Go.OpenSpec.ofChange s with cond := some uptoSmall }

/-- 'harrierlaw11.TrailEditsMatchSpec', WHERE WHAT IT READS IS OF BULK AT MOST 1048576: true; the input reads as it did. -/
def trailEditsMatchSpecUptoRow : OpenClaim := { program := "ytjnfccphodjfiaagreat", sum := "05b129fbc9890dca818421f8acc6ca5e822afb051cb4cd0969de4a286a7ce3ea", func := "harrier/harrierlaw11.TrailEditsMatchSpec", spec := "trailEditsMatchSpec", inPlace := ["slices.overlaps[harrier/api.Edit]", "internal/bytealg.abigen_runtime_cmpstring"], unfollowed := true, recurses := true, named := ["math/bits.divideError", "math/bits.overflowError"], apart := false, narrowed := true }
def TrailEditsMatchSpecUptoSaid : Prop := trailEditsMatchSpecUptoRow.holds Tryz.pinned (OpenSpec.upto trailEditsMatchSpecSpec)

/-- 'harrierlaw11.TrailAllMatchesSpec', WHERE WHAT IT READS IS OF BULK AT MOST 1048576: true; the input reads as it did. -/
def trailAllMatchesSpecUptoRow : OpenClaim := { program := "ytjnfccphodjfiaagreat", sum := "05b129fbc9890dca818421f8acc6ca5e822afb051cb4cd0969de4a286a7ce3ea", func := "harrier/harrierlaw11.TrailAllMatchesSpec", spec := "trailAllMatchesSpec", inPlace := ["slices.overlaps[harrier/api.Edit]", "internal/bytealg.abigen_runtime_cmpstring"], unfollowed := true, recurses := true, named := ["math/bits.divideError", "math/bits.overflowError"], apart := false, narrowed := true }
def TrailAllMatchesSpecUptoSaid : Prop := trailAllMatchesSpecUptoRow.holds Tryz.pinned (OpenSpec.upto trailAllMatchesSpecSpec)

/-- 'harrierlaw11.TrailMergeMatchesSpec', WHERE WHAT IT READS IS OF BULK AT MOST 1048576: true; the input reads as it did. -/
def trailMergeMatchesSpecUptoRow : OpenClaim := { program := "ytjnfccphodjfiaagreat", sum := "05b129fbc9890dca818421f8acc6ca5e822afb051cb4cd0969de4a286a7ce3ea", func := "harrier/harrierlaw11.TrailMergeMatchesSpec", spec := "trailMergeMatchesSpec", inPlace := ["slices.overlaps[harrier/api.Edit]", "internal/bytealg.abigen_runtime_cmpstring"], unfollowed := true, recurses := true, apart := false, narrowed := true }
def TrailMergeMatchesSpecUptoSaid : Prop := trailMergeMatchesSpecUptoRow.holds Tryz.pinned (OpenSpec.upto trailMergeMatchesSpecSpec)

/-- 'harrierlaw11.TrailStoriesMatchSpec', WHERE WHAT IT READS IS OF BULK AT MOST 1048576: true; the input reads as it did. -/
def trailStoriesMatchSpecUptoRow : OpenClaim := { program := "ytjnfccphodjfiaagreat", sum := "05b129fbc9890dca818421f8acc6ca5e822afb051cb4cd0969de4a286a7ce3ea", func := "harrier/harrierlaw11.TrailStoriesMatchSpec", spec := "trailStoriesMatchSpec", inPlace := ["slices.overlaps[harrier/api.Edit]", "internal/bytealg.abigen_runtime_cmpstring"], unfollowed := true, recurses := true, named := ["math/bits.divideError", "math/bits.overflowError"], apart := false, narrowed := true }
def TrailStoriesMatchSpecUptoSaid : Prop := trailStoriesMatchSpecUptoRow.holds Tryz.pinned (OpenSpec.upto trailStoriesMatchSpecSpec)

end Rows
end Go.Proofs.YtjnfccphodjfiaaGreat
