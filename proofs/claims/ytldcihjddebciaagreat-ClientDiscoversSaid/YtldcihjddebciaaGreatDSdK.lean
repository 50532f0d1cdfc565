/- server: write, by its reference. -/
import Derived.Test.YtldcihjddebciaaGreatDSdJ
import Derived.Laws.ResultCell
set_option linter.unusedSimpArgs false
set_option linter.unusedVariables false
set_option maxRecDepth 100000
set_option maxHeartbeats 4000000
namespace Go.Proofs.YtldcihjddebciaaGreat
open Go.RowKit
end Go.Proofs.YtldcihjddebciaaGreat
