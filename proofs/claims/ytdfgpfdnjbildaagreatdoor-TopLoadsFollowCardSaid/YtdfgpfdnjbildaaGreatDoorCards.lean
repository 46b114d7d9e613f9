/-
  DERIVED. GIVEN WITH THE SEED: THE CARDS: each row of YtdfgpfdnjbildaaGreatDoorRows.lean that lists a variable, with what it lists TIED to the program's text (the seventh form; the later family's looks); each row that meets fmt, with fmt's text TOLD by the authors' own Lean function (tested against real Go, not proved from fmt's source: count such statements apart). THE CARD IS WHAT COUNTS. Prove the row's statement (the work); the ties are given (YtdfgpfdnjbildaaGreatDoorTie.lean); close each card by the builder's one call (the guide's Derived/Test/ToyasCard.lean, 'card_holds'). Laid BY PROGRAM, IN A SANDBOX (cutbox-door.mjs). By AI agents, Wed Nov 11 2026. No macro, syntax, notation, axiom, sorry.
-/
import Derived.Test.YtdfgpfdnjbildaaGreatDoorRows
import GoSem.ClaimSeven
namespace Go.Proofs.YtdfgpfdnjbildaaGreatDoor
namespace Rows

/-- THE TIED CARD OF 'harriertop.TopLoadsFollow'. -/
def topLoadsFollowCard : Claim7 := { stood := { row := topLoadsFollowRow, standIns := [], harness := (true, "2bac34c595d981adfa4d64b75d8a241e285d169021c6ab8ac78de14629837f89"), looks := true }, kinds := [], alts := [], laidByText := true, laidKinds := [.data, .data, .data, .sentinel, .sentinel], laidTests := true, laidLooks := .later }
def TopLoadsFollowCardSaid : Prop := Claim7.holds Tryz.pinned (.plain (OpenSpec.ofChange topLoadsFollowSpec)) topLoadsFollowCard

/-- THE SECOND FORM's CARD OF 'harriertop.TopLoadsFollow'. -/
def topLoadsFollowUptoCard : Claim7 := { stood := { row := topLoadsFollowUptoRow, standIns := [], harness := (true, "2bac34c595d981adfa4d64b75d8a241e285d169021c6ab8ac78de14629837f89"), looks := true }, kinds := [], alts := [], laidByText := true, laidKinds := [.data, .data, .data, .sentinel, .sentinel], laidTests := true, laidLooks := .later }
def TopLoadsFollowUptoCardSaid : Prop := Claim7.holds Tryz.pinned (.plain (OpenSpec.upto topLoadsFollowSpec)) topLoadsFollowUptoCard
end Rows
end Go.Proofs.YtdfgpfdnjbildaaGreatDoor
