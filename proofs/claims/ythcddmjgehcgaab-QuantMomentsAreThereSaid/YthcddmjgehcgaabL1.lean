/- The law QuantRoundsAreNear: its walk. -/
import Derived.Test.YthcddmjgehcgaabZ
namespace Go.Proofs.Ythcddmjgehcgaab
open Go.RowKit Go.BigFrame

def Whole (w : World) (e : Ending) (w' : World) : Prop := e = .returned (.bool true) ∧ Below w.heap.size w w'
end Go.Proofs.Ythcddmjgehcgaab
