/- Layer 11: the document's taker. -/
import Derived.Test.YtocijpeminghoaaDoorCelI
namespace Go.Proofs.YtocijpeminghoaaDoor
open Go.RowKit
set_option maxRecDepth 100000
set_option linter.unusedVariables false
set_option linter.unusedSimpArgs false

end Go.Proofs.YtocijpeminghoaaDoor
