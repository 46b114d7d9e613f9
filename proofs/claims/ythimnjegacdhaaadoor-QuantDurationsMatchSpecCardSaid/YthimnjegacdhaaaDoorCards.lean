/-
  DERIVED. GIVEN WITH THE SEED: THE CARDS: each row of YthimnjegacdhaaaDoorRows.lean that lists a variable, with what it lists TIED to the program's text (the seventh form; the later family's looks); each row that meets fmt, with fmt's text TOLD by the authors' own Lean function (tested against real Go, not proved from fmt's source: count such statements apart). THE CARD IS WHAT COUNTS. Prove the row's statement (the work); the ties are given (YthimnjegacdhaaaDoorTie.lean); close each card by the builder's one call (the guide's Derived/Test/ToyasCard.lean, 'card_holds'). Laid BY PROGRAM, IN A SANDBOX (cutbox-door.mjs). By AI agents, Wed Nov 11 2026. No macro, syntax, notation, axiom, sorry.
-/
import Derived.Test.YthimnjegacdhaaaDoorRows
import GoSem.ClaimSeven
namespace Go.Proofs.YthimnjegacdhaaaDoor
namespace Rows

/-- THE TIED CARD OF 'harrierlaw1.QuantDurationsMatchSpec'. -/
def quantDurationsMatchSpecCard : Claim7 := { stood := { row := quantDurationsMatchSpecRow, standIns := [], harness := (true, "b162a592da41728877bd3f27ce6ce45990c3aa3e00294eee5ab9f788584754b0"), looks := true }, kinds := [], alts := [], laidByText := true, laidKinds := [.data, .data, .data, .sentinel, .sentinel], laidTests := true, laidLooks := .later }
def QuantDurationsMatchSpecCardSaid : Prop := Claim7.holds Tryd.pinned (.plain (OpenSpec.ofChange quantDurationsMatchSpecSpec)) quantDurationsMatchSpecCard

/-- THE SECOND FORM's CARD OF 'harrierlaw1.QuantDurationsMatchSpec'. -/
def quantDurationsMatchSpecUptoCard : Claim7 := { stood := { row := quantDurationsMatchSpecUptoRow, standIns := [], harness := (true, "b162a592da41728877bd3f27ce6ce45990c3aa3e00294eee5ab9f788584754b0"), looks := true }, kinds := [], alts := [], laidByText := true, laidKinds := [.data, .data, .data, .sentinel, .sentinel], laidTests := true, laidLooks := .later }
def QuantDurationsMatchSpecUptoCardSaid : Prop := Claim7.holds Tryd.pinned (.plain (OpenSpec.upto quantDurationsMatchSpecSpec)) quantDurationsMatchSpecUptoCard
end Rows
end Go.Proofs.YthimnjegacdhaaaDoor
