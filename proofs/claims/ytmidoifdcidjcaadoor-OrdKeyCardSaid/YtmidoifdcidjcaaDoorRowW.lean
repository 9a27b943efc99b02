/- What all rows of this seat share: the witness world, in which the listed tables lie; and the shape of a card's last step. -/
import Derived.Test.YtmidoifdcidjcaaDoorCards
import Derived.Test.YtmidoifdcidjcaaDoorTie
import Derived.Test.YtmidoifdcidjcaaDoorBase
import Derived.ProofKit
import Derived.OpenShut
import Derived.Deep.DeepHandedRow
import Derived.SizedLaws
import Derived.ShutString
namespace Go.Proofs.YtmidoifdcidjcaaDoor
open Go.ChangeShapes Go.WideShapes Go.ChangeAt Go.RowKit

theorem own : ownKnob Tryd.prog.godebug = none := by kernel_rfl
theorem laidOut : laidOutB Tryd.prog = true := by kernel_rfl

def litV : DataW Unit → Value
  | .lit (.int k n) => .int k n
  | _ => undef
def flat1 : DataW Unit → List Value
  | .agg l => l.map litV
  | d => [litV d]
def flat2 : DataW Unit → List Value
  | .agg l => l.flatMap flat1
  | d => [litV d]
def layTab (d : DataW Unit) : Obj → Obj
  | .cells _ t frozen => .cells (flat2 d).toArray t frozen
  | o => o
noncomputable def laidWorld (os : Os) : World :=
  { World.holding Tryd.prog os ⟨#[], #[], []⟩ with heap := ((World.holding Tryd.prog os ⟨#[], #[], []⟩).heap.modify 1 (layTab Go.Pinned.utf8First)).modify 2 (layTab Rows.laid_unicode_utf8_acceptRanges) }
end Go.Proofs.YtmidoifdcidjcaaDoor
