/-
  DERIVED. GIVEN WITH THE SEED: THE CARDS: each row of YtcngjbfbdonpeaaGreatDoorRows.lean that lists a variable, with what it lists TIED to the program's text (the seventh form; the later family's looks); each row that meets fmt, with fmt's text TOLD by the authors' own Lean function (tested against real Go, not proved from fmt's source: count such statements apart). THE CARD IS WHAT COUNTS. Prove the row's statement (the work); the ties are given (YtcngjbfbdonpeaaGreatDoorTie.lean); close each card by the builder's one call (the guide's Derived/Test/ToyasCard.lean, 'card_holds'). Laid BY PROGRAM, IN A SANDBOX (cutbox-door.mjs). By AI agents, Wed Nov 11 2026. No macro, syntax, notation, axiom, sorry.
-/
import Derived.Test.YtcngjbfbdonpeaaGreatDoorRows
import GoSem.ClaimSeven
namespace Go.Proofs.YtcngjbfbdonpeaaGreatDoor
namespace Rows

/-- THE TIED CARD OF 'harrierlaw11.TrailTextsMatchSpec'. -/
def trailTextsMatchSpecCard : Claim7 := { stood := { row := trailTextsMatchSpecRow, standIns := [], harness := (true, "0817a9131ce4032a5ebffa369f0d56dd5ea024d3d725eab4e5013b3c89c19fd7"), looks := true }, kinds := [], alts := [], laidByText := true, laidKinds := [.data, .data, .data, .data, .sentinel, .sentinel, .pinned], laidTests := true, laidLooks := .later }
def TrailTextsMatchSpecCardSaid : Prop := Claim7.holds Tryz.pinned (.plain (OpenSpec.ofChange trailTextsMatchSpecSpec)) trailTextsMatchSpecCard

/-- THE SECOND FORM's CARD OF 'harrierlaw11.TrailTextsMatchSpec'. -/
def trailTextsMatchSpecUptoCard : Claim7 := { stood := { row := trailTextsMatchSpecUptoRow, standIns := [], harness := (true, "0817a9131ce4032a5ebffa369f0d56dd5ea024d3d725eab4e5013b3c89c19fd7"), looks := true }, kinds := [], alts := [], laidByText := true, laidKinds := [.data, .data, .data, .data, .sentinel, .sentinel, .pinned], laidTests := true, laidLooks := .later }
def TrailTextsMatchSpecUptoCardSaid : Prop := Claim7.holds Tryz.pinned (.plain (OpenSpec.upto trailTextsMatchSpecSpec)) trailTextsMatchSpecUptoCard
end Rows
end Go.Proofs.YtcngjbfbdonpeaaGreatDoor
