/- A region that draws its order, whose calls write one block alone (a reader's): the condition turns with the world at hand, as in XReg. -/
import Derived.Test.YtpnojkgdjkncbaaDoorReg
import Derived.Test.YtpnojkgdjkncbaaDoorCelI
namespace Go.Proofs.YtpnojkgdjkncbaaDoor
open Go.RowKit
set_option linter.unusedVariables false
set_option linter.unusedSimpArgs false

theorem wpAnyH_turnF {P : Program} {md : Region.Mode} {ops : Array Oper} {Q : Exit → Act → World → Prop} {B : Nat} {w0 w1 : World} (hg : Fx B w0 w1) {fuel : Nat} {listed : Array Bool} {a : Act}
    (h : Fx B w1 w1 → wpAnyH P md ops Q (fun w' => Fx B w1 w') fuel listed a w1) : wpAnyH P md ops Q (fun w' => Fx B w0 w') fuel listed a w1 :=
  wpAnyH_weaken (fun _ h => hg.trans h) fuel listed a w1 (h (Fx.refl B _))
theorem Fx.cellF {B : Nat} {a b : World} (h : Fx B a b) {p : Addr} {v : Value} (hb : p.block ≠ B) (hv : a.cell? p = some v) : b.cell? p = some v := by
  have hlt := World.block_lt_of_cell? a p hv
  have ho : a.heap[p.block]? = some a.heap[p.block] := Array.getElem?_eq_getElem hlt
  have h2 := h.blk _ _ ho hb
  simp only [World.cell?, ho, h2] at hv ⊢
  exact hv
theorem cellRuleF {B : Nat} {w : World} {p : Addr} {v : Value} (hb : p.block ≠ B) (h : w.cell? p = some v) : ∀ w', Fx B w w' → w'.cell? p = some v := fun _ hg => hg.cellF hb h
theorem Rule.turnF {B : Nat} {w0 w1 : World} {Q : World → Prop} (F : ∀ w', Fx B w0 w' → Q w') (hg : Fx B w0 w1) : ∀ w', Fx B w1 w' → Q w' := fun w' h => F w' (hg.trans h)
end Go.Proofs.YtpnojkgdjkncbaaDoor
