/- Own texts, put together by wip/bundle.py: Same, SameTx, SameBlk. -/
import Derived.BigQuiet
import Derived.Test.YtajaacgchhmbjaaDoorLXOwnB
import Derived.Test.YtajaacgchhmbjaaDoorLXOwnR
namespace Go.Proofs.YtajaacgchhmbjaaDoor
open Go.RowKit
set_option linter.unusedVariables false
set_option linter.unusedSimpArgs false
set_option maxRecDepth 100000
end Go.Proofs.YtajaacgchhmbjaaDoor
namespace Go.Proofs.YtajaacgchhmbjaaDoor
open Go.RowKit
set_option linter.unusedVariables false
set_option linter.unusedSimpArgs false
set_option maxRecDepth 100000
end Go.Proofs.YtajaacgchhmbjaaDoor
namespace Go.Proofs.YtajaacgchhmbjaaDoor
open Go.RowKit
set_option linter.unusedVariables false
set_option linter.unusedSimpArgs false
set_option maxRecDepth 100000
end Go.Proofs.YtajaacgchhmbjaaDoor
