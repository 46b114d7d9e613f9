/-
  No cell of these rows narrows 'for every input' (looked for: loops, veiled, ifaces, maps, wideKeys, modest, calm, conditions, laid).
  DERIVED. THE GIVEN ROWS OF THIS SEAT. 10 by the template 'for every input the law returns true; each argument reads behind the call as it read before'; 0 by the template 'total and deterministic' (their statements: YtbkpoepacjinlaaTotals.lean).
  GIVEN WITH THE SEED: the statements are not yours to turn. If you find one false, say at which input.
  Laid BY PROGRAM, IN A SANDBOX (cutbox-rows.mjs): the forced cells as the released guide's own fill.sh prints them over the translation 7255524b4e3afcc6… (all of the seat's roots in one cut). By AI agents, Wed Nov 11 2026. No macro, syntax, notation, axiom, sorry.
-/
import Derived.Test.YtbkpoepacjinlaaChecked
import GoSem.Claim
import GoSem.ClaimJoined
import GoSem.ClaimMapViews
import Derived.JoinedTies
import Derived.KernelRfl
namespace Go.Proofs.Ytbkpoepacjinlaa
/- THE CELL 'sum', in the pinned program and in every row, IS THE sha256 OF THE DUMP (.gsa) THAT YtbkpoepacjinlaaProg.lean LOADS. Nothing in Lean hashes anything: it is a label: what it is worth is what the hold of that sum in a sandbox is worth. -/
noncomputable def Try.pinned : Pinned := { name := "ytbkpoepacjinlaa", sum := "7255524b4e3afcc6c9165548a4ed1187bc67a0cab3d4778d5ecfde627190422b", checked := Try.checked }
namespace Rows
def none {H : Type} : Left H := { results := [], args := [] }

/-- 'harrierlaw9.GearChecksMatchSpec': WHATEVER THE INPUT: true; the input reads as it did. -/
def gearChecksMatchSpecSpec : ChangeSpec := { name := "gearChecksMatchSpec", fn := fun _ => fun
  | [d1, d2, d3] => { results := [.lit (.bool true)], args := [d1, d2, d3] }
  | _ => none }
def gearChecksMatchSpecRow : OpenClaim := { program := "ytbkpoepacjinlaa", sum := "7255524b4e3afcc6c9165548a4ed1187bc67a0cab3d4778d5ecfde627190422b", func := "harrier/harrierlaw9.GearChecksMatchSpec", spec := "gearChecksMatchSpec", inPlace := ["internal/bytealg.abigen_runtime_cmpstring"], unfollowed := true, recurses := true, apart := false }
def GearChecksMatchSpecSaid : Prop := gearChecksMatchSpecRow.holds Try.pinned (OpenSpec.ofChange gearChecksMatchSpecSpec)

/-- ITS FALSE NEIGHBOUR: 'it returns false'. Refute it at one input. -/
def gearChecksMatchSpecWrong : ChangeSpec := { name := "gearChecksMatchSpec", fn := fun _ => fun
  | [d1, d2, d3] => { results := [.lit (.bool false)], args := [d1, d2, d3] }
  | _ => none }
def GearChecksMatchSpecWrongFalsely : Prop := gearChecksMatchSpecRow.holds Try.pinned (OpenSpec.ofChange gearChecksMatchSpecWrong)

/-- 'harrierlaw9.GearPiecesFollowMounts': WHATEVER THE INPUT: true; the input reads as it did. -/
def gearPiecesFollowMountsSpec : ChangeSpec := { name := "gearPiecesFollowMounts", fn := fun _ => fun
  | [d1, d2] => { results := [.lit (.bool true)], args := [d1, d2] }
  | _ => none }
def gearPiecesFollowMountsRow : OpenClaim := { program := "ytbkpoepacjinlaa", sum := "7255524b4e3afcc6c9165548a4ed1187bc67a0cab3d4778d5ecfde627190422b", func := "harrier/harrierlaw9.GearPiecesFollowMounts", spec := "gearPiecesFollowMounts", inPlace := ["internal/bytealg.abigen_runtime_cmpstring"], unfollowed := true, recurses := true, apart := false }
def GearPiecesFollowMountsSaid : Prop := gearPiecesFollowMountsRow.holds Try.pinned (OpenSpec.ofChange gearPiecesFollowMountsSpec)

/-- ITS FALSE NEIGHBOUR: 'it returns false'. Refute it at one input. -/
def gearPiecesFollowMountsWrong : ChangeSpec := { name := "gearPiecesFollowMounts", fn := fun _ => fun
  | [d1, d2] => { results := [.lit (.bool false)], args := [d1, d2] }
  | _ => none }
def GearPiecesFollowMountsWrongFalsely : Prop := gearPiecesFollowMountsRow.holds Try.pinned (OpenSpec.ofChange gearPiecesFollowMountsWrong)

/-- 'harrierlaw9.GearServiceHelps': WHATEVER THE INPUT: true; the input reads as it did. -/
def gearServiceHelpsSpec : ChangeSpec := { name := "gearServiceHelps", fn := fun _ => fun
  | [d1, d2, d3, d4, d5] => { results := [.lit (.bool true)], args := [d1, d2, d3, d4, d5] }
  | _ => none }
def gearServiceHelpsRow : OpenClaim := { program := "ytbkpoepacjinlaa", sum := "7255524b4e3afcc6c9165548a4ed1187bc67a0cab3d4778d5ecfde627190422b", func := "harrier/harrierlaw9.GearServiceHelps", spec := "gearServiceHelps", inPlace := ["internal/bytealg.abigen_runtime_cmpstring"], unfollowed := true, recurses := true, apart := false }
def GearServiceHelpsSaid : Prop := gearServiceHelpsRow.holds Try.pinned (OpenSpec.ofChange gearServiceHelpsSpec)

/-- ITS FALSE NEIGHBOUR: 'it returns false'. Refute it at one input. -/
def gearServiceHelpsWrong : ChangeSpec := { name := "gearServiceHelps", fn := fun _ => fun
  | [d1, d2, d3, d4, d5] => { results := [.lit (.bool false)], args := [d1, d2, d3, d4, d5] }
  | _ => none }
def GearServiceHelpsWrongFalsely : Prop := gearServiceHelpsRow.holds Try.pinned (OpenSpec.ofChange gearServiceHelpsWrong)

/-- 'harrierlaw9.GearPiecesMatchSpec': WHATEVER THE INPUT: true; the input reads as it did. -/
def gearPiecesMatchSpecSpec : ChangeSpec := { name := "gearPiecesMatchSpec", fn := fun _ => fun
  | [d1, d2, d3, d4, d5] => { results := [.lit (.bool true)], args := [d1, d2, d3, d4, d5] }
  | _ => none }
def gearPiecesMatchSpecRow : OpenClaim := { program := "ytbkpoepacjinlaa", sum := "7255524b4e3afcc6c9165548a4ed1187bc67a0cab3d4778d5ecfde627190422b", func := "harrier/harrierlaw9.GearPiecesMatchSpec", spec := "gearPiecesMatchSpec", inPlace := ["internal/bytealg.abigen_runtime_cmpstring"], unfollowed := true, recurses := true, named := ["math/bits.divideError", "math/bits.overflowError"], apart := false }
def GearPiecesMatchSpecSaid : Prop := gearPiecesMatchSpecRow.holds Try.pinned (OpenSpec.ofChange gearPiecesMatchSpecSpec)

/-- ITS FALSE NEIGHBOUR: 'it returns false'. Refute it at one input. -/
def gearPiecesMatchSpecWrong : ChangeSpec := { name := "gearPiecesMatchSpec", fn := fun _ => fun
  | [d1, d2, d3, d4, d5] => { results := [.lit (.bool false)], args := [d1, d2, d3, d4, d5] }
  | _ => none }
def GearPiecesMatchSpecWrongFalsely : Prop := gearPiecesMatchSpecRow.holds Try.pinned (OpenSpec.ofChange gearPiecesMatchSpecWrong)

/-- 'harrierlaw9.GearDuesMatchSpec': WHATEVER THE INPUT: true; the input reads as it did. -/
def gearDuesMatchSpecSpec : ChangeSpec := { name := "gearDuesMatchSpec", fn := fun _ => fun
  | [d1, d2, d3, d4] => { results := [.lit (.bool true)], args := [d1, d2, d3, d4] }
  | _ => none }
def gearDuesMatchSpecRow : OpenClaim := { program := "ytbkpoepacjinlaa", sum := "7255524b4e3afcc6c9165548a4ed1187bc67a0cab3d4778d5ecfde627190422b", func := "harrier/harrierlaw9.GearDuesMatchSpec", spec := "gearDuesMatchSpec", inPlace := ["internal/bytealg.abigen_runtime_cmpstring"], unfollowed := true, recurses := true, named := ["math/bits.divideError", "math/bits.overflowError"], apart := false }
def GearDuesMatchSpecSaid : Prop := gearDuesMatchSpecRow.holds Try.pinned (OpenSpec.ofChange gearDuesMatchSpecSpec)

/-- ITS FALSE NEIGHBOUR: 'it returns false'. Refute it at one input. -/
def gearDuesMatchSpecWrong : ChangeSpec := { name := "gearDuesMatchSpec", fn := fun _ => fun
  | [d1, d2, d3, d4] => { results := [.lit (.bool false)], args := [d1, d2, d3, d4] }
  | _ => none }
def GearDuesMatchSpecWrongFalsely : Prop := gearDuesMatchSpecRow.holds Try.pinned (OpenSpec.ofChange gearDuesMatchSpecWrong)

/-- 'harrierlaw9.GearUsesMatchSpec': WHATEVER THE INPUT: true; the input reads as it did. -/
def gearUsesMatchSpecSpec : ChangeSpec := { name := "gearUsesMatchSpec", fn := fun _ => fun
  | [d1, d2, d3] => { results := [.lit (.bool true)], args := [d1, d2, d3] }
  | _ => none }
def gearUsesMatchSpecRow : OpenClaim := { program := "ytbkpoepacjinlaa", sum := "7255524b4e3afcc6c9165548a4ed1187bc67a0cab3d4778d5ecfde627190422b", func := "harrier/harrierlaw9.GearUsesMatchSpec", spec := "gearUsesMatchSpec", inPlace := ["internal/bytealg.abigen_runtime_cmpstring"], unfollowed := true, recurses := true, apart := false }
def GearUsesMatchSpecSaid : Prop := gearUsesMatchSpecRow.holds Try.pinned (OpenSpec.ofChange gearUsesMatchSpecSpec)

/-- ITS FALSE NEIGHBOUR: 'it returns false'. Refute it at one input. -/
def gearUsesMatchSpecWrong : ChangeSpec := { name := "gearUsesMatchSpec", fn := fun _ => fun
  | [d1, d2, d3] => { results := [.lit (.bool false)], args := [d1, d2, d3] }
  | _ => none }
def GearUsesMatchSpecWrongFalsely : Prop := gearUsesMatchSpecRow.holds Try.pinned (OpenSpec.ofChange gearUsesMatchSpecWrong)

/-- 'harrierlaw9.GearUsesGoBack': WHATEVER THE INPUT: true; the input reads as it did. -/
def gearUsesGoBackSpec : ChangeSpec := { name := "gearUsesGoBack", fn := fun _ => fun
  | [d1, d2, d3] => { results := [.lit (.bool true)], args := [d1, d2, d3] }
  | _ => none }
def gearUsesGoBackRow : OpenClaim := { program := "ytbkpoepacjinlaa", sum := "7255524b4e3afcc6c9165548a4ed1187bc67a0cab3d4778d5ecfde627190422b", func := "harrier/harrierlaw9.GearUsesGoBack", spec := "gearUsesGoBack", inPlace := ["internal/bytealg.abigen_runtime_cmpstring"], unfollowed := true, recurses := true, apart := false }
def GearUsesGoBackSaid : Prop := gearUsesGoBackRow.holds Try.pinned (OpenSpec.ofChange gearUsesGoBackSpec)

/-- ITS FALSE NEIGHBOUR: 'it returns false'. Refute it at one input. -/
def gearUsesGoBackWrong : ChangeSpec := { name := "gearUsesGoBack", fn := fun _ => fun
  | [d1, d2, d3] => { results := [.lit (.bool false)], args := [d1, d2, d3] }
  | _ => none }
def GearUsesGoBackWrongFalsely : Prop := gearUsesGoBackRow.holds Try.pinned (OpenSpec.ofChange gearUsesGoBackWrong)

/-- 'harrierlaw9.GearMountsMatchSpec': WHATEVER THE INPUT: true; the input reads as it did. -/
def gearMountsMatchSpecSpec : ChangeSpec := { name := "gearMountsMatchSpec", fn := fun _ => fun
  | [d1, d2, d3, d4] => { results := [.lit (.bool true)], args := [d1, d2, d3, d4] }
  | _ => none }
def gearMountsMatchSpecRow : OpenClaim := { program := "ytbkpoepacjinlaa", sum := "7255524b4e3afcc6c9165548a4ed1187bc67a0cab3d4778d5ecfde627190422b", func := "harrier/harrierlaw9.GearMountsMatchSpec", spec := "gearMountsMatchSpec", inPlace := ["internal/bytealg.abigen_runtime_cmpstring"], unfollowed := true, recurses := true, apart := false }
def GearMountsMatchSpecSaid : Prop := gearMountsMatchSpecRow.holds Try.pinned (OpenSpec.ofChange gearMountsMatchSpecSpec)

/-- ITS FALSE NEIGHBOUR: 'it returns false'. Refute it at one input. -/
def gearMountsMatchSpecWrong : ChangeSpec := { name := "gearMountsMatchSpec", fn := fun _ => fun
  | [d1, d2, d3, d4] => { results := [.lit (.bool false)], args := [d1, d2, d3, d4] }
  | _ => none }
def GearMountsMatchSpecWrongFalsely : Prop := gearMountsMatchSpecRow.holds Try.pinned (OpenSpec.ofChange gearMountsMatchSpecWrong)

/-- 'harrierlaw9.GearMountsStayRight': WHATEVER THE INPUT: true; the input reads as it did. -/
def gearMountsStayRightSpec : ChangeSpec := { name := "gearMountsStayRight", fn := fun _ => fun
  | [d1, d2, d3, d4, d5] => { results := [.lit (.bool true)], args := [d1, d2, d3, d4, d5] }
  | _ => none }
def gearMountsStayRightRow : OpenClaim := { program := "ytbkpoepacjinlaa", sum := "7255524b4e3afcc6c9165548a4ed1187bc67a0cab3d4778d5ecfde627190422b", func := "harrier/harrierlaw9.GearMountsStayRight", spec := "gearMountsStayRight", inPlace := ["internal/bytealg.abigen_runtime_cmpstring"], unfollowed := true, recurses := true, apart := false }
def GearMountsStayRightSaid : Prop := gearMountsStayRightRow.holds Try.pinned (OpenSpec.ofChange gearMountsStayRightSpec)

/-- ITS FALSE NEIGHBOUR: 'it returns false'. Refute it at one input. -/
def gearMountsStayRightWrong : ChangeSpec := { name := "gearMountsStayRight", fn := fun _ => fun
  | [d1, d2, d3, d4, d5] => { results := [.lit (.bool false)], args := [d1, d2, d3, d4, d5] }
  | _ => none }
def GearMountsStayRightWrongFalsely : Prop := gearMountsStayRightRow.holds Try.pinned (OpenSpec.ofChange gearMountsStayRightWrong)

/-- 'harrierlaw9.GearSwapsMakeEven': WHATEVER THE INPUT: true; the input reads as it did. -/
def gearSwapsMakeEvenSpec : ChangeSpec := { name := "gearSwapsMakeEven", fn := fun _ => fun
  | [d1, d2] => { results := [.lit (.bool true)], args := [d1, d2] }
  | _ => none }
def gearSwapsMakeEvenRow : OpenClaim := { program := "ytbkpoepacjinlaa", sum := "7255524b4e3afcc6c9165548a4ed1187bc67a0cab3d4778d5ecfde627190422b", func := "harrier/harrierlaw9.GearSwapsMakeEven", spec := "gearSwapsMakeEven", inPlace := ["internal/bytealg.abigen_runtime_cmpstring"], unfollowed := true, recurses := true, apart := false }
def GearSwapsMakeEvenSaid : Prop := gearSwapsMakeEvenRow.holds Try.pinned (OpenSpec.ofChange gearSwapsMakeEvenSpec)

/-- ITS FALSE NEIGHBOUR: 'it returns false'. Refute it at one input. -/
def gearSwapsMakeEvenWrong : ChangeSpec := { name := "gearSwapsMakeEven", fn := fun _ => fun
  | [d1, d2] => { results := [.lit (.bool false)], args := [d1, d2] }
  | _ => none }
def GearSwapsMakeEvenWrongFalsely : Prop := gearSwapsMakeEvenRow.holds Try.pinned (OpenSpec.ofChange gearSwapsMakeEvenWrong)

/- THE SECOND FORM. 'bulk': how many values and letters a reading holds, each counted each time it is reached (what is shared counts as often as it is met; a slice's spare places count too). A statement '..UptoSaid' is the law's where the arguments, and the package variables that the reading takes, are together of bulk at most 1048576: NARROWER than '..Said'. Prove '..Said' where nothing that the law and all that it calls make is longer than what came in: it says more and counts as full. Else prove '..UptoSaid'. A law counts once. -/
mutual
def uptoBulk {H : Type} : DataW H → Nat
  | .lit (.string bytes) => bytes.length + 1
  | .lit _ => 1
  | .nil => 1
  | .ptr d => uptoBulk d + 1
  | .slice elems spare => uptoBulkAll elems + uptoBulkAll spare + 1
  | .agg parts => uptoBulkAll parts + 1
  | .iface _ d => uptoBulk d + 1
  | .map entries => uptoBulkEntries entries + 1
  | .held _ => 1
def uptoBulkAll {H : Type} : List (DataW H) → Nat
  | [] => 0
  | d :: r => uptoBulk d + uptoBulkAll r
def uptoBulkEntries {H : Type} : List (Lit × DataW H) → Nat
  | [] => 0
  | x :: r => uptoBulkEntry x + uptoBulkEntries r
def uptoBulkEntry {H : Type} : Lit × DataW H → Nat
  | (.string bytes, d) => bytes.length + uptoBulk d + 1
  | (_, d) => uptoBulk d + 1
 end
def uptoSmall : (H : Type) → List (DataW H) → Bool := fun _ ds => decide (uptoBulkAll ds ≤ 1048576)
def OpenSpec.upto (s : _root_.Go.ChangeSpec) : _root_.Go.OpenSpec := { _root_.Go.OpenSpec.ofChange s with cond := some uptoSmall }

/-- 'harrierlaw9.GearChecksMatchSpec', WHERE WHAT IT READS IS OF BULK AT MOST 1048576: true; the input reads as it did. -/
def gearChecksMatchSpecUptoRow : OpenClaim := { program := "ytbkpoepacjinlaa", sum := "7255524b4e3afcc6c9165548a4ed1187bc67a0cab3d4778d5ecfde627190422b", func := "harrier/harrierlaw9.GearChecksMatchSpec", spec := "gearChecksMatchSpec", inPlace := ["internal/bytealg.abigen_runtime_cmpstring"], unfollowed := true, recurses := true, apart := false, narrowed := true }
def GearChecksMatchSpecUptoSaid : Prop := gearChecksMatchSpecUptoRow.holds Try.pinned (OpenSpec.upto gearChecksMatchSpecSpec)

/-- 'harrierlaw9.GearPiecesFollowMounts', WHERE WHAT IT READS IS OF BULK AT MOST 1048576: true; the input reads as it did. -/
def gearPiecesFollowMountsUptoRow : OpenClaim := { program := "ytbkpoepacjinlaa", sum := "7255524b4e3afcc6c9165548a4ed1187bc67a0cab3d4778d5ecfde627190422b", func := "harrier/harrierlaw9.GearPiecesFollowMounts", spec := "gearPiecesFollowMounts", inPlace := ["internal/bytealg.abigen_runtime_cmpstring"], unfollowed := true, recurses := true, apart := false, narrowed := true }
def GearPiecesFollowMountsUptoSaid : Prop := gearPiecesFollowMountsUptoRow.holds Try.pinned (OpenSpec.upto gearPiecesFollowMountsSpec)

/-- 'harrierlaw9.GearServiceHelps', WHERE WHAT IT READS IS OF BULK AT MOST 1048576: true; the input reads as it did. -/
def gearServiceHelpsUptoRow : OpenClaim := { program := "ytbkpoepacjinlaa", sum := "7255524b4e3afcc6c9165548a4ed1187bc67a0cab3d4778d5ecfde627190422b", func := "harrier/harrierlaw9.GearServiceHelps", spec := "gearServiceHelps", inPlace := ["internal/bytealg.abigen_runtime_cmpstring"], unfollowed := true, recurses := true, apart := false, narrowed := true }
def GearServiceHelpsUptoSaid : Prop := gearServiceHelpsUptoRow.holds Try.pinned (OpenSpec.upto gearServiceHelpsSpec)

/-- 'harrierlaw9.GearPiecesMatchSpec', WHERE WHAT IT READS IS OF BULK AT MOST 1048576: true; the input reads as it did. -/
def gearPiecesMatchSpecUptoRow : OpenClaim := { program := "ytbkpoepacjinlaa", sum := "7255524b4e3afcc6c9165548a4ed1187bc67a0cab3d4778d5ecfde627190422b", func := "harrier/harrierlaw9.GearPiecesMatchSpec", spec := "gearPiecesMatchSpec", inPlace := ["internal/bytealg.abigen_runtime_cmpstring"], unfollowed := true, recurses := true, named := ["math/bits.divideError", "math/bits.overflowError"], apart := false, narrowed := true }
def GearPiecesMatchSpecUptoSaid : Prop := gearPiecesMatchSpecUptoRow.holds Try.pinned (OpenSpec.upto gearPiecesMatchSpecSpec)

/-- 'harrierlaw9.GearDuesMatchSpec', WHERE WHAT IT READS IS OF BULK AT MOST 1048576: true; the input reads as it did. -/
def gearDuesMatchSpecUptoRow : OpenClaim := { program := "ytbkpoepacjinlaa", sum := "7255524b4e3afcc6c9165548a4ed1187bc67a0cab3d4778d5ecfde627190422b", func := "harrier/harrierlaw9.GearDuesMatchSpec", spec := "gearDuesMatchSpec", inPlace := ["internal/bytealg.abigen_runtime_cmpstring"], unfollowed := true, recurses := true, named := ["math/bits.divideError", "math/bits.overflowError"], apart := false, narrowed := true }
def GearDuesMatchSpecUptoSaid : Prop := gearDuesMatchSpecUptoRow.holds Try.pinned (OpenSpec.upto gearDuesMatchSpecSpec)

/-- 'harrierlaw9.GearUsesMatchSpec', WHERE WHAT IT READS IS OF BULK AT MOST 1048576: true; the input reads as it did. -/
def gearUsesMatchSpecUptoRow : OpenClaim := { program := "ytbkpoepacjinlaa", sum := "7255524b4e3afcc6c9165548a4ed1187bc67a0cab3d4778d5ecfde627190422b", func := "harrier/harrierlaw9.GearUsesMatchSpec", spec := "gearUsesMatchSpec", inPlace := ["internal/bytealg.abigen_runtime_cmpstring"], unfollowed := true, recurses := true, apart := false, narrowed := true }
def GearUsesMatchSpecUptoSaid : Prop := gearUsesMatchSpecUptoRow.holds Try.pinned (OpenSpec.upto gearUsesMatchSpecSpec)

/-- 'harrierlaw9.GearUsesGoBack', WHERE WHAT IT READS IS OF BULK AT MOST 1048576: true; the input reads as it did. -/
def gearUsesGoBackUptoRow : OpenClaim := { program := "ytbkpoepacjinlaa", sum := "7255524b4e3afcc6c9165548a4ed1187bc67a0cab3d4778d5ecfde627190422b", func := "harrier/harrierlaw9.GearUsesGoBack", spec := "gearUsesGoBack", inPlace := ["internal/bytealg.abigen_runtime_cmpstring"], unfollowed := true, recurses := true, apart := false, narrowed := true }
def GearUsesGoBackUptoSaid : Prop := gearUsesGoBackUptoRow.holds Try.pinned (OpenSpec.upto gearUsesGoBackSpec)

/-- 'harrierlaw9.GearMountsMatchSpec', WHERE WHAT IT READS IS OF BULK AT MOST 1048576: true; the input reads as it did. -/
def gearMountsMatchSpecUptoRow : OpenClaim := { program := "ytbkpoepacjinlaa", sum := "7255524b4e3afcc6c9165548a4ed1187bc67a0cab3d4778d5ecfde627190422b", func := "harrier/harrierlaw9.GearMountsMatchSpec", spec := "gearMountsMatchSpec", inPlace := ["internal/bytealg.abigen_runtime_cmpstring"], unfollowed := true, recurses := true, apart := false, narrowed := true }
def GearMountsMatchSpecUptoSaid : Prop := gearMountsMatchSpecUptoRow.holds Try.pinned (OpenSpec.upto gearMountsMatchSpecSpec)

/-- 'harrierlaw9.GearMountsStayRight', WHERE WHAT IT READS IS OF BULK AT MOST 1048576: true; the input reads as it did. -/
def gearMountsStayRightUptoRow : OpenClaim := { program := "ytbkpoepacjinlaa", sum := "7255524b4e3afcc6c9165548a4ed1187bc67a0cab3d4778d5ecfde627190422b", func := "harrier/harrierlaw9.GearMountsStayRight", spec := "gearMountsStayRight", inPlace := ["internal/bytealg.abigen_runtime_cmpstring"], unfollowed := true, recurses := true, apart := false, narrowed := true }
def GearMountsStayRightUptoSaid : Prop := gearMountsStayRightUptoRow.holds Try.pinned (OpenSpec.upto gearMountsStayRightSpec)

/-- 'harrierlaw9.GearSwapsMakeEven', WHERE WHAT IT READS IS OF BULK AT MOST 1048576: true; the input reads as it did. -/
def gearSwapsMakeEvenUptoRow : OpenClaim := { program := "ytbkpoepacjinlaa", sum := "7255524b4e3afcc6c9165548a4ed1187bc67a0cab3d4778d5ecfde627190422b", func := "harrier/harrierlaw9.GearSwapsMakeEven", spec := "gearSwapsMakeEven", inPlace := ["internal/bytealg.abigen_runtime_cmpstring"], unfollowed := true, recurses := true, apart := false, narrowed := true }
def GearSwapsMakeEvenUptoSaid : Prop := gearSwapsMakeEvenUptoRow.holds Try.pinned (OpenSpec.upto gearSwapsMakeEvenSpec)

end Rows
end Go.Proofs.Ytbkpoepacjinlaa
