/- Own texts, put together by wip/bundle.py: Same, SameTx, SameBlk. -/
import Derived.BigQuiet
import Derived.Test.YtnnbnjanekibpaaTreePathsOwnB2
import Derived.Test.YtnnbnjanekibpaaTreePathsOwnR
namespace Go.Proofs.Ytnnbnjanekibpaa
open Go.RowKit
set_option linter.unusedVariables false
set_option linter.unusedSimpArgs false
set_option maxRecDepth 100000
end Go.Proofs.Ytnnbnjanekibpaa
namespace Go.Proofs.Ytnnbnjanekibpaa
open Go.RowKit
set_option linter.unusedVariables false
set_option linter.unusedSimpArgs false
set_option maxRecDepth 100000
end Go.Proofs.Ytnnbnjanekibpaa
namespace Go.Proofs.Ytnnbnjanekibpaa
open Go.RowKit
set_option linter.unusedVariables false
set_option linter.unusedSimpArgs false
set_option maxRecDepth 100000
end Go.Proofs.Ytnnbnjanekibpaa
