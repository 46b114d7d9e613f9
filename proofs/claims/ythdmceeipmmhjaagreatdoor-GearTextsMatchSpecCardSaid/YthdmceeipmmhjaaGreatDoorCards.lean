/-
  DERIVED. GIVEN WITH THE SEED: THE CARDS: each row of YthdmceeipmmhjaaGreatDoorRows.lean that lists a variable, with what it lists TIED to the program's text (the seventh form; the later family's looks); each row that meets fmt, with fmt's text TOLD by the authors' own Lean function (tested against real Go, not proved from fmt's source: count such statements apart). THE CARD IS WHAT COUNTS. Prove the row's statement (the work); the ties are given (YthdmceeipmmhjaaGreatDoorTie.lean); close each card by the builder's one call (the guide's Derived/Test/ToyasCard.lean, 'card_holds'). Laid BY PROGRAM, IN A SANDBOX (cutbox-door.mjs). By AI agents, Wed Nov 11 2026. No macro, syntax, notation, axiom, sorry.
-/
import Derived.Test.YthdmceeipmmhjaaGreatDoorRows
import GoSem.ClaimSeven
namespace Go.Proofs.YthdmceeipmmhjaaGreatDoor
namespace Rows

/-- THE TIED CARD OF 'harrierlaw9.GearTextsMatchSpec'. -/
def gearTextsMatchSpecCard : Claim7 := { stood := { row := gearTextsMatchSpecRow, standIns := [], harness := (true, "aec2a392095fc9e0fbc390b883a5b1e46a2928a66e059ab001dcee81c95c8b61"), looks := true }, kinds := [], alts := [], laidByText := true, laidKinds := [.data, .data, .data, .data, .sentinel, .sentinel, .pinned], laidTests := true, laidLooks := .later }
def GearTextsMatchSpecCardSaid : Prop := Claim7.holds Tryz.pinned (.plain (OpenSpec.ofChange gearTextsMatchSpecSpec)) gearTextsMatchSpecCard

/-- THE SECOND FORM's CARD OF 'harrierlaw9.GearTextsMatchSpec'. -/
def gearTextsMatchSpecUptoCard : Claim7 := { stood := { row := gearTextsMatchSpecUptoRow, standIns := [], harness := (true, "aec2a392095fc9e0fbc390b883a5b1e46a2928a66e059ab001dcee81c95c8b61"), looks := true }, kinds := [], alts := [], laidByText := true, laidKinds := [.data, .data, .data, .data, .sentinel, .sentinel, .pinned], laidTests := true, laidLooks := .later }
def GearTextsMatchSpecUptoCardSaid : Prop := Claim7.holds Tryz.pinned (.plain (OpenSpec.upto gearTextsMatchSpecSpec)) gearTextsMatchSpecUptoCard
end Rows
end Go.Proofs.YthdmceeipmmhjaaGreatDoor
