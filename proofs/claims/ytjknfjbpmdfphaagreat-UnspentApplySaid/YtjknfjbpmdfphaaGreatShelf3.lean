/- Contracts of Go's library off the shelf, laid at this program. -/
import Derived.Test.YtjknfjbpmdfphaaGreatProg
import Derived.Ground.NamesProg
import Derived.Shelf.Lay
import Derived.Shelf.LaySoft
namespace Go.Proofs
open Go.Shelf
shelf_tried
end Go.Proofs
