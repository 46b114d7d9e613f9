/-
  DERIVED. GIVEN WITH THE SEED: THE CARDS: each row of YtcdilamkkodjjaaGreatDoorRows.lean that lists a variable, with what it lists TIED to the program's text (the seventh form; the later family's looks); each row that meets fmt, with fmt's text TOLD by the authors' own Lean function (tested against real Go, not proved from fmt's source: count such statements apart). THE CARD IS WHAT COUNTS. Prove the row's statement (the work); the ties are given (YtcdilamkkodjjaaGreatDoorTie.lean); close each card by the builder's one call (the guide's Derived/Test/ToyasCard.lean, 'card_holds'). Laid BY PROGRAM, IN A SANDBOX (cutbox-door.mjs). By AI agents, Wed Nov 11 2026. No macro, syntax, notation, axiom, sorry.
-/
import Derived.Test.YtcdilamkkodjjaaGreatDoorRows
import GoSem.ClaimSeven
namespace Go.Proofs.YtcdilamkkodjjaaGreatDoor
namespace Rows

/-- THE TIED CARD OF 'harrierlaw1.QuantDistancesMatchSpec'. -/
def quantDistancesMatchSpecCard : Claim7 := { stood := { row := quantDistancesMatchSpecRow, standIns := [], harness := (true, "89bd76f4dc6c2350c1568c36ef78ddd1bcd2af18cf87082912ba2c660b4d4881"), looks := true }, kinds := [], alts := [], laidByText := true, laidKinds := [.data, .data, .data, .data, .sentinel, .sentinel, .pinned], laidTests := true, laidLooks := .later }
def QuantDistancesMatchSpecCardSaid : Prop := Claim7.holds Tryz.pinned (.plain (OpenSpec.ofChange quantDistancesMatchSpecSpec)) quantDistancesMatchSpecCard

/-- THE TIED CARD OF 'harrierlaw1.QuantStampsMatchSpec'. -/
def quantStampsMatchSpecCard : Claim7 := { stood := { row := quantStampsMatchSpecRow, standIns := [], harness := (true, "89bd76f4dc6c2350c1568c36ef78ddd1bcd2af18cf87082912ba2c660b4d4881"), looks := true }, kinds := [], alts := [], laidByText := true, laidKinds := [.data, .data, .data, .sentinel, .sentinel], laidTests := true, laidLooks := .later }
def QuantStampsMatchSpecCardSaid : Prop := Claim7.holds Tryz.pinned (.plain (OpenSpec.ofChange quantStampsMatchSpecSpec)) quantStampsMatchSpecCard

/-- THE TIED CARD OF 'harrierlaw1.QuantTextsComeBack'. -/
def quantTextsComeBackCard : Claim7 := { stood := { row := quantTextsComeBackRow, standIns := [], harness := (true, "89bd76f4dc6c2350c1568c36ef78ddd1bcd2af18cf87082912ba2c660b4d4881"), looks := true }, kinds := [], alts := [], laidByText := true, laidKinds := [.data, .data, .data, .data, .pinned], laidTests := true, laidLooks := .later }
def QuantTextsComeBackCardSaid : Prop := Claim7.holds Tryz.pinned (.plain (OpenSpec.ofChange quantTextsComeBackSpec)) quantTextsComeBackCard

/-- THE SECOND FORM's CARD OF 'harrierlaw1.QuantDistancesMatchSpec'. -/
def quantDistancesMatchSpecUptoCard : Claim7 := { stood := { row := quantDistancesMatchSpecUptoRow, standIns := [], harness := (true, "89bd76f4dc6c2350c1568c36ef78ddd1bcd2af18cf87082912ba2c660b4d4881"), looks := true }, kinds := [], alts := [], laidByText := true, laidKinds := [.data, .data, .data, .data, .sentinel, .sentinel, .pinned], laidTests := true, laidLooks := .later }
def QuantDistancesMatchSpecUptoCardSaid : Prop := Claim7.holds Tryz.pinned (.plain (OpenSpec.upto quantDistancesMatchSpecSpec)) quantDistancesMatchSpecUptoCard

/-- THE SECOND FORM's CARD OF 'harrierlaw1.QuantStampsMatchSpec'. -/
def quantStampsMatchSpecUptoCard : Claim7 := { stood := { row := quantStampsMatchSpecUptoRow, standIns := [], harness := (true, "89bd76f4dc6c2350c1568c36ef78ddd1bcd2af18cf87082912ba2c660b4d4881"), looks := true }, kinds := [], alts := [], laidByText := true, laidKinds := [.data, .data, .data, .sentinel, .sentinel], laidTests := true, laidLooks := .later }
def QuantStampsMatchSpecUptoCardSaid : Prop := Claim7.holds Tryz.pinned (.plain (OpenSpec.upto quantStampsMatchSpecSpec)) quantStampsMatchSpecUptoCard

/-- THE SECOND FORM's CARD OF 'harrierlaw1.QuantTextsComeBack'. -/
def quantTextsComeBackUptoCard : Claim7 := { stood := { row := quantTextsComeBackUptoRow, standIns := [], harness := (true, "89bd76f4dc6c2350c1568c36ef78ddd1bcd2af18cf87082912ba2c660b4d4881"), looks := true }, kinds := [], alts := [], laidByText := true, laidKinds := [.data, .data, .data, .data, .pinned], laidTests := true, laidLooks := .later }
def QuantTextsComeBackUptoCardSaid : Prop := Claim7.holds Tryz.pinned (.plain (OpenSpec.upto quantTextsComeBackSpec)) quantTextsComeBackUptoCard
end Rows
end Go.Proofs.YtcdilamkkodjjaaGreatDoor
