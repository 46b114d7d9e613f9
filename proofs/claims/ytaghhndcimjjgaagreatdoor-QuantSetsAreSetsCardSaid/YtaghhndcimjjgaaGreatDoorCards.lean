/-
  DERIVED. GIVEN WITH THE SEED: THE CARDS: each row of YtaghhndcimjjgaaGreatDoorRows.lean that lists a variable, with what it lists TIED to the program's text (the seventh form; the later family's looks); each row that meets fmt, with fmt's text TOLD by the authors' own Lean function (tested against real Go, not proved from fmt's source: count such statements apart). THE CARD IS WHAT COUNTS. Prove the row's statement (the work); the ties are given (YtaghhndcimjjgaaGreatDoorTie.lean); close each card by the builder's one call (the guide's Derived/Test/ToyasCard.lean, 'card_holds'). Laid BY PROGRAM, IN A SANDBOX (cutbox-door.mjs). By AI agents, Wed Nov 11 2026. No macro, syntax, notation, axiom, sorry.
-/
import Derived.Test.YtaghhndcimjjgaaGreatDoorRows
import GoSem.ClaimSeven
namespace Go.Proofs.YtaghhndcimjjgaaGreatDoor
namespace Rows

/-- THE TIED CARD OF 'harrierlaw1.QuantSetsMatchSpec'. -/
def quantSetsMatchSpecCard : Claim7 := { stood := { row := quantSetsMatchSpecRow, standIns := [], harness := (true, "953310ec9963e9fae0e54b940131436be1e2be33d7a002eeab1c9bac79aa65f9"), looks := true }, kinds := [], alts := [], laidByText := true, laidKinds := [.data, .data, .data], laidTests := true, laidLooks := .later }
def QuantSetsMatchSpecCardSaid : Prop := Claim7.holds Tryz.pinned (.plain (OpenSpec.ofChange quantSetsMatchSpecSpec)) quantSetsMatchSpecCard

/-- THE TIED CARD OF 'harrierlaw1.QuantSetsAreSets'. -/
def quantSetsAreSetsCard : Claim7 := { stood := { row := quantSetsAreSetsRow, standIns := [], harness := (true, "953310ec9963e9fae0e54b940131436be1e2be33d7a002eeab1c9bac79aa65f9"), looks := true }, kinds := [], alts := [], laidByText := true, laidKinds := [.data, .data, .data], laidTests := true, laidLooks := .later }
def QuantSetsAreSetsCardSaid : Prop := Claim7.holds Tryz.pinned (.plain (OpenSpec.ofChange quantSetsAreSetsSpec)) quantSetsAreSetsCard

/-- THE TIED CARD OF 'harrierlaw1.QuantReadSpansMatchesSpec'. -/
def quantReadSpansMatchesSpecCard : Claim7 := { stood := { row := quantReadSpansMatchesSpecRow, standIns := [], harness := (true, "953310ec9963e9fae0e54b940131436be1e2be33d7a002eeab1c9bac79aa65f9"), looks := true }, kinds := [], alts := [], laidByText := true, laidKinds := [.data, .data, .data, .sentinel, .sentinel], laidTests := true, laidLooks := .later }
def QuantReadSpansMatchesSpecCardSaid : Prop := Claim7.holds Tryz.pinned (.plain (OpenSpec.ofChange quantReadSpansMatchesSpecSpec)) quantReadSpansMatchesSpecCard

/-- THE SECOND FORM's CARD OF 'harrierlaw1.QuantSetsMatchSpec'. -/
def quantSetsMatchSpecUptoCard : Claim7 := { stood := { row := quantSetsMatchSpecUptoRow, standIns := [], harness := (true, "953310ec9963e9fae0e54b940131436be1e2be33d7a002eeab1c9bac79aa65f9"), looks := true }, kinds := [], alts := [], laidByText := true, laidKinds := [.data, .data, .data], laidTests := true, laidLooks := .later }
def QuantSetsMatchSpecUptoCardSaid : Prop := Claim7.holds Tryz.pinned (.plain (OpenSpec.upto quantSetsMatchSpecSpec)) quantSetsMatchSpecUptoCard

/-- THE SECOND FORM's CARD OF 'harrierlaw1.QuantSetsAreSets'. -/
def quantSetsAreSetsUptoCard : Claim7 := { stood := { row := quantSetsAreSetsUptoRow, standIns := [], harness := (true, "953310ec9963e9fae0e54b940131436be1e2be33d7a002eeab1c9bac79aa65f9"), looks := true }, kinds := [], alts := [], laidByText := true, laidKinds := [.data, .data, .data], laidTests := true, laidLooks := .later }
def QuantSetsAreSetsUptoCardSaid : Prop := Claim7.holds Tryz.pinned (.plain (OpenSpec.upto quantSetsAreSetsSpec)) quantSetsAreSetsUptoCard

/-- THE SECOND FORM's CARD OF 'harrierlaw1.QuantReadSpansMatchesSpec'. -/
def quantReadSpansMatchesSpecUptoCard : Claim7 := { stood := { row := quantReadSpansMatchesSpecUptoRow, standIns := [], harness := (true, "953310ec9963e9fae0e54b940131436be1e2be33d7a002eeab1c9bac79aa65f9"), looks := true }, kinds := [], alts := [], laidByText := true, laidKinds := [.data, .data, .data, .sentinel, .sentinel], laidTests := true, laidLooks := .later }
def QuantReadSpansMatchesSpecUptoCardSaid : Prop := Claim7.holds Tryz.pinned (.plain (OpenSpec.upto quantReadSpansMatchesSpecSpec)) quantReadSpansMatchesSpecUptoCard
end Rows
end Go.Proofs.YtaghhndcimjjgaaGreatDoor
