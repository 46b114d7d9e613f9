/-
  DERIVED. GIVEN WITH THE SEED: THE CARDS: each row of YthimnjegacdhaaaGreatDoorRows.lean that lists a variable, with what it lists TIED to the program's text (the seventh form; the later family's looks); each row that meets fmt, with fmt's text TOLD by the authors' own Lean function (tested against real Go, not proved from fmt's source: count such statements apart). THE CARD IS WHAT COUNTS. Prove the row's statement (the work); the ties are given (YthimnjegacdhaaaGreatDoorTie.lean); close each card by the builder's one call (the guide's Derived/Test/ToyasCard.lean, 'card_holds'). Laid BY PROGRAM, IN A SANDBOX (cutbox-door.mjs). By AI agents, Wed Nov 11 2026. No macro, syntax, notation, axiom, sorry.
-/
import Derived.Test.YthimnjegacdhaaaGreatDoorRows
import GoSem.ClaimSeven
namespace Go.Proofs.YthimnjegacdhaaaGreatDoor
namespace Rows

/-- THE TIED CARD OF 'harrierlaw1.QuantPacesMatchSpec'. -/
def quantPacesMatchSpecCard : Claim7 := { stood := { row := quantPacesMatchSpecRow, standIns := [], harness := (true, "314209db50f4cb45f08492ed749434b2f39da1cd5cbabc4cb93fefc39b05d3fb"), looks := true }, kinds := [], alts := [], laidByText := true, laidKinds := [.data, .data, .data, .sentinel, .sentinel], laidTests := true, laidLooks := .later }
def QuantPacesMatchSpecCardSaid : Prop := Claim7.holds Tryz.pinned (.plain (OpenSpec.ofChange quantPacesMatchSpecSpec)) quantPacesMatchSpecCard

/-- THE TIED CARD OF 'harrierlaw1.QuantDaysMatchSpec'. -/
def quantDaysMatchSpecCard : Claim7 := { stood := { row := quantDaysMatchSpecRow, standIns := [], harness := (true, "314209db50f4cb45f08492ed749434b2f39da1cd5cbabc4cb93fefc39b05d3fb"), looks := true }, kinds := [], alts := [], laidByText := true, laidKinds := [.data, .data, .data, .sentinel, .sentinel], laidTests := true, laidLooks := .later }
def QuantDaysMatchSpecCardSaid : Prop := Claim7.holds Tryz.pinned (.plain (OpenSpec.ofChange quantDaysMatchSpecSpec)) quantDaysMatchSpecCard

/-- THE SECOND FORM's CARD OF 'harrierlaw1.QuantPacesMatchSpec'. -/
def quantPacesMatchSpecUptoCard : Claim7 := { stood := { row := quantPacesMatchSpecUptoRow, standIns := [], harness := (true, "314209db50f4cb45f08492ed749434b2f39da1cd5cbabc4cb93fefc39b05d3fb"), looks := true }, kinds := [], alts := [], laidByText := true, laidKinds := [.data, .data, .data, .sentinel, .sentinel], laidTests := true, laidLooks := .later }
def QuantPacesMatchSpecUptoCardSaid : Prop := Claim7.holds Tryz.pinned (.plain (OpenSpec.upto quantPacesMatchSpecSpec)) quantPacesMatchSpecUptoCard

/-- THE SECOND FORM's CARD OF 'harrierlaw1.QuantDaysMatchSpec'. -/
def quantDaysMatchSpecUptoCard : Claim7 := { stood := { row := quantDaysMatchSpecUptoRow, standIns := [], harness := (true, "314209db50f4cb45f08492ed749434b2f39da1cd5cbabc4cb93fefc39b05d3fb"), looks := true }, kinds := [], alts := [], laidByText := true, laidKinds := [.data, .data, .data, .sentinel, .sentinel], laidTests := true, laidLooks := .later }
def QuantDaysMatchSpecUptoCardSaid : Prop := Claim7.holds Tryz.pinned (.plain (OpenSpec.upto quantDaysMatchSpecSpec)) quantDaysMatchSpecUptoCard
end Rows
end Go.Proofs.YthimnjegacdhaaaGreatDoor
