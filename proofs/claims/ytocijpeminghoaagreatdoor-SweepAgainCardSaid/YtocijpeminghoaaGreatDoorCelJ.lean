/- Layer 11: the document's taker. -/
import Derived.Test.YtocijpeminghoaaGreatDoorCelI
namespace Go.Proofs.YtocijpeminghoaaGreatDoor
open Go.RowKit
set_option maxRecDepth 100000
set_option linter.unusedVariables false
set_option linter.unusedSimpArgs false

end Go.Proofs.YtocijpeminghoaaGreatDoor
