/- The laws' own helpers on lists of steps. -/
import Derived.Test.YtfmfjbphflkhiaaDoorBase
import Derived.Test.YtfmfjbphflkhiaaDoorRecs
import Derived.Deep.RegionHeld3
namespace Go.Proofs.YtfmfjbphflkhiaaDoor
set_option linter.unusedVariables false
set_option linter.unusedSimpArgs false
open Go.RowKit

theorem infoStep : (Tryd.prog.info? 100).map (fun i => (i.zero, i.size, i.bytes)) = some (some (.agg #[.int .i64 0, .int .i64 0, .int .i64 0, .int .i64 0]), 4, 32) := by kernel_rfl
end Go.Proofs.YtfmfjbphflkhiaaDoor
