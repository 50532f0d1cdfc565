/- server: execute, by its reference. -/
import Derived.Test.YtldcihjddebciaaGreatDSdL
set_option linter.unusedSimpArgs false
set_option linter.unusedVariables false
set_option maxRecDepth 100000
set_option maxHeartbeats 12000000
namespace Go.Proofs.YtldcihjddebciaaGreat
open Go.RowKit
end Go.Proofs.YtldcihjddebciaaGreat
