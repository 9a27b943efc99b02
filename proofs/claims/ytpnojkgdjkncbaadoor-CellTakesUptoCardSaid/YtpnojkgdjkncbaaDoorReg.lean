/- A region that draws its order, whose calls only make memory: reads are taken first, the condition is that of the world at hand, and turns with it. -/
import Derived.Test.YtpnojkgdjkncbaaDoorBase
import Derived.Deep.RegionHeld
namespace Go.Proofs.YtpnojkgdjkncbaaDoor
open Go.RowKit
set_option linter.unusedVariables false

theorem wpAnyH_weaken {P : Program} {md : Region.Mode} {ops : Array Oper} {Q : Exit → Act → World → Prop} {S S' : World → Prop} (hS : ∀ w, S' w → S w) : ∀ (fuel : Nat) (listed : Array Bool) (a : Act) (w : World),
    wpAnyH P md ops Q S' fuel listed a w → wpAnyH P md ops Q S fuel listed a w
  | 0, _, _, _, h => h
  | fuel + 1, _, _, _, h => ⟨h.1, fun i hi => wpOp_mono (fun a' w' h' => ⟨hS w' h'.1, wpAnyH_weaken hS fuel _ a' w' h'.2⟩) (h.2 i hi)⟩
/-- the condition turns to the world at hand -/
theorem wpAnyH_turn {P : Program} {md : Region.Mode} {ops : Array Oper} {Q : Exit → Act → World → Prop} {w0 w1 : World} (hg : Gr w0 w1) {fuel : Nat} {listed : Array Bool} {a : Act}
    (h : Gr w1 w1 → wpAnyH P md ops Q (fun w' => Gr w1 w') fuel listed a w1) : wpAnyH P md ops Q (fun w' => Gr w0 w') fuel listed a w1 :=
  wpAnyH_weaken (fun _ h => hg.trans h) fuel listed a w1 (h (Gr.refl _))
theorem cellRule {w : World} {p : Addr} {v : Value} (h : w.cell? p = some v) : ∀ w', Gr w w' → w'.cell? p = some v := fun _ hg => hg.cell' h
theorem Rule.turn {w0 w1 : World} {Q : World → Prop} (F : ∀ w', Gr w0 w' → Q w') (hg : Gr w0 w1) : ∀ w', Gr w1 w' → Q w' := fun w' h => F w' (hg.trans h)
end Go.Proofs.YtpnojkgdjkncbaaDoor
