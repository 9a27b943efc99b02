/- Regions that draw their order, whose reads are taken first: the condition that turns with the world at hand; a tail that waits for all reads. -/
import Derived.Test.YtocijpeminghoaaGreatDoorBase
import Derived.Test.YtocijpeminghoaaGreatDoorCelI
import Derived.Test.YtocijpeminghoaaGreatDoorRegS
import Derived.Deep.RegionHeld
import Derived.StillTail
namespace Go.Proofs.YtocijpeminghoaaGreatDoor
open Go.RowKit
set_option linter.unusedVariables false

theorem wpAnyH_weaken {P : Program} {md : Region.Mode} {ops : Array Oper} {Q : Exit → Act → World → Prop} {S S' : World → Prop} (hS : ∀ w, S' w → S w) : ∀ (fuel : Nat) (listed : Array Bool) (a : Act) (w : World),
    wpAnyH P md ops Q S' fuel listed a w → wpAnyH P md ops Q S fuel listed a w
  | 0, _, _, _, h => h
  | fuel + 1, _, _, _, h => ⟨h.1, fun i hi => wpOp_mono (fun a' w' h' => ⟨hS w' h'.1, wpAnyH_weaken hS fuel _ a' w' h'.2⟩) (h.2 i hi)⟩
/-- the condition turns to the world at hand -/
theorem wpAnyH_turn {P : Program} {md : Region.Mode} {ops : Array Oper} {Q : Exit → Act → World → Prop} {w0 w1 : World} (hg : Gr w0 w1) {fuel : Nat} {listed : Array Bool} {a : Act}
    (h : Gr w1 w1 → wpAnyH P md ops Q (fun w' => Gr w1 w') fuel listed a w1) : wpAnyH P md ops Q (fun w' => Gr w0 w') fuel listed a w1 :=
  wpAnyH_weaken (fun _ h => hg.trans h) fuel listed a w1 (h (Gr.refl _))
theorem cellRule {w : World} {p : Addr} {v : Value} (h : w.cell? p = some v) : ∀ w', Gr w w' → w'.cell? p = some v := fun _ hg => hg.cell' h
theorem Rule.turn {w0 w1 : World} {Q : World → Prop} (F : ∀ w', Gr w0 w' → Q w') (hg : Gr w0 w1) : ∀ w', Gr w1 w' → Q w' := fun w' h => F w' (hg.trans h)
end Go.Proofs.YtocijpeminghoaaGreatDoor
namespace Go.Proofs.YtocijpeminghoaaGreatDoor
open Go.RowKit
set_option linter.unusedVariables false
set_option linter.unusedSimpArgs false

theorem wpAnyH_turnF {P : Program} {md : Region.Mode} {ops : Array Oper} {Q : Exit → Act → World → Prop} {B : Nat} {w0 w1 : World} (hg : Fx B w0 w1) {fuel : Nat} {listed : Array Bool} {a : Act}
    (h : Fx B w1 w1 → wpAnyH P md ops Q (fun w' => Fx B w1 w') fuel listed a w1) : wpAnyH P md ops Q (fun w' => Fx B w0 w') fuel listed a w1 :=
  wpAnyH_weaken (fun _ h => hg.trans h) fuel listed a w1 (h (Fx.refl B _))
theorem Fx.cellF {B : Nat} {a b : World} (h : Fx B a b) {p : Addr} {v : Value} (hb : p.block ≠ B) (hv : a.cell? p = some v) : b.cell? p = some v := by
  have hlt := World.block_lt_of_cell? a p hv
  have ho : a.heap[p.block]? = some a.heap[p.block] := Array.getElem?_eq_getElem hlt
  have h2 := h.blk _ _ ho hb
  simp only [World.cell?, ho, h2] at hv ⊢
  exact hv
theorem cellRuleF {B : Nat} {w : World} {p : Addr} {v : Value} (hb : p.block ≠ B) (h : w.cell? p = some v) : ∀ w', Fx B w w' → w'.cell? p = some v := fun _ hg => hg.cellF hb h
theorem Rule.turnF {B : Nat} {w0 w1 : World} {Q : World → Prop} (F : ∀ w', Fx B w0 w' → Q w') (hg : Fx B w0 w1) : ∀ w', Fx B w1 w' → Q w' := fun w' h => F w' (hg.trans h)
end Go.Proofs.YtocijpeminghoaaGreatDoor
namespace Go.Proofs.YtocijpeminghoaaGreatDoor
open Go.RowKit

theorem wpAnyT_turnF {P : Program} {md : Region.Mode} {ops : Array Oper} {Q : Exit → Act → World → Prop} {T : List Nat} {B : Nat} {w0 w1 : World} (hg : Fx B w0 w1) {fuel : Nat} {listed : Array Bool} {a : Act}
    (h : Fx B w1 w1 → wpAnyT P md ops Q (fun w' => Fx B w1 w') T fuel listed a w1) : wpAnyT P md ops Q (fun w' => Fx B w0 w') T fuel listed a w1 :=
  wpAnyT_weaken (fun _ h => hg.trans h) fuel listed a w1 (h (Fx.refl B _))
theorem wpAnyT_turn {P : Program} {md : Region.Mode} {ops : Array Oper} {Q : Exit → Act → World → Prop} {T : List Nat} {w0 w1 : World} (hg : Gr w0 w1) {fuel : Nat} {listed : Array Bool} {a : Act}
    (h : Gr w1 w1 → wpAnyT P md ops Q (fun w' => Gr w1 w') T fuel listed a w1) : wpAnyT P md ops Q (fun w' => Gr w0 w') T fuel listed a w1 :=
  wpAnyT_weaken (fun _ h => hg.trans h) fuel listed a w1 (h (Gr.refl _))
end Go.Proofs.YtocijpeminghoaaGreatDoor
