/- Own texts, put together by wip/bundle.py: Same, SameTx, SameBlk. -/
import Derived.BigQuiet
import Derived.Test.YtaddehddalnliaaGreatDoorPOOwnB
import Derived.Test.YtaddehddalnliaaGreatDoorPOOwnR
set_option linter.unusedVariables false
set_option linter.unusedSimpArgs false
namespace Go.Proofs.YtaddehddalnliaaGreatDoor
section
open Go.RowKit
set_option maxRecDepth 100000
end
section
open Go.RowKit
set_option maxRecDepth 100000
end
section
open Go.RowKit
set_option maxRecDepth 100000
end
end Go.Proofs.YtaddehddalnliaaGreatDoor
