/- The exact law on TestsOk. -/
import Derived.Test.YtfhefngpeknhlaaDoorTok
import Derived.Test.YtfhefngpeknhlaaDoorTestS
namespace Go.Proofs.YtfhefngpeknhlaaDoor
set_option linter.unusedVariables false
set_option linter.unusedSimpArgs false
open Go.RowKit

/-- What came in as exercises. -/
theorem tests_in {w : World} {A : Option Addr} {len cap : Nat} (hin : RecsIn Tryd.prog w A len cap 3 StrField) : ∃ S, Recs w w.heap.size (.slice A len cap) len 3 (SV S) ∧ ∀ i, i < len → ∀ j, j < 3 → (S i j).size ≤ maxLen := by
  obtain ⟨V, hR0, hQ⟩ := hin.recs (by decide)
  obtain ⟨F, hF, hFb⟩ := str_fields hQ
  exact ⟨F, hR0.congr (U := SV F) hF, fun i _ j _ => hFb i j⟩

end Go.Proofs.YtfhefngpeknhlaaDoor
