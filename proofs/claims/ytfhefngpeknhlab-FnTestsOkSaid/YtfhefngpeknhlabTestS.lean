/- The laws' own helpers on lists of exercises. -/
import Derived.Test.YtfhefngpeknhlabBase
import Derived.Test.YtfhefngpeknhlabRecs
import Derived.Deep.RegionHeld3
namespace Go.Proofs.Ytfhefngpeknhlab
set_option linter.unusedVariables false
set_option linter.unusedSimpArgs false
open Go.RowKit

theorem infoTest : (Try.prog.info? 40).map (fun i => (i.zero, i.size, i.bytes)) = some (some (.agg #[.string ByteArray.empty, .string ByteArray.empty, .string ByteArray.empty]), 3, 48) := by kernel_rfl


end Go.Proofs.Ytfhefngpeknhlab
