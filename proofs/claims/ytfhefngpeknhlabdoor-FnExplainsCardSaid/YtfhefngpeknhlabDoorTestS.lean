/- The laws' own helpers on lists of exercises. -/
import Derived.Test.YtfhefngpeknhlabDoorBase
import Derived.Test.YtfhefngpeknhlabDoorRecs
import Derived.Deep.RegionHeld3
namespace Go.Proofs.YtfhefngpeknhlabDoor
set_option linter.unusedVariables false
set_option linter.unusedSimpArgs false
open Go.RowKit

theorem infoTest : (Tryd.prog.info? 56).map (fun i => (i.zero, i.size, i.bytes)) = some (some (.agg #[.string ByteArray.empty, .string ByteArray.empty, .string ByteArray.empty]), 3, 48) := by kernel_rfl


end Go.Proofs.YtfhefngpeknhlabDoor
