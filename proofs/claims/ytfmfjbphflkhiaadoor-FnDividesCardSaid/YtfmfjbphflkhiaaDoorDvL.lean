/- The law on DividedOf: its transcript is right and tells the numeral's digits. -/
import Derived.Test.YtfmfjbphflkhiaaDoorDvp
import Derived.Test.YtfmfjbphflkhiaaDoorDivn
namespace Go.Proofs.YtfmfjbphflkhiaaDoor
set_option linter.unusedVariables false
set_option linter.unusedSimpArgs false
open Go.RowKit

/-- A text and a number, drawn. -/
def DrawSI (w : World) (e : Ending) (w' : World) : Prop := ∃ s d, e = .returned (.tuple #[.string s, .int .i64 d]) ∧ s.size ≤ 110 ∧ 0 ≤ d ∧ d ≤ 100 ∧ Below w.heap.size w w'
end Go.Proofs.YtfmfjbphflkhiaaDoor
