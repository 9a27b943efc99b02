/- What the rows stand on, part 50: PekH. Printed by bundle.py out of my texts. -/
import Derived.Test.YthgecojbggoniaaGreatDoorBe04
import Derived.Test.YthgecojbggoniaaGreatDoorBe05
import Derived.Test.YthgecojbggoniaaGreatDoorBe49
namespace Go.Proofs.YthgecojbggoniaaGreatDoor
open Go.RowKit
set_option maxRecDepth 100000
set_option linter.unusedVariables false
set_option linter.unusedSimpArgs false
set_option linter.unnecessarySimpa false

/-! a key's intent -/
def ittA (it : Itt) (vl : Value) : Array Value := #[.int .i64 it.id, .int .i64 it.epoch, .int .i64 it.prio, .string it.anchor, .int .i64 it.sw, .int .i64 it.sl, .int .i64 it.bw, .int .i64 it.bl, vl]
theorem itt_one (it : Itt) (q : Option Addr) (n c : Nat) : (ittA it (.slice q n c)).all (·.oneCell') = true := by
  unfold ittA
  simp [Value.oneCell']
theorem noChg_itt (it : Itt) (vl : Value) : noChg (ittA it vl) := by
  intro i z s q ⟨h1, h2, h3⟩
  unfold ittA at h1 h2 h3
  match i with
  | 0 | 1 | 2 | 3 | 4 | 5 | 6 | 7 | 8 => simp at h1 h2 h3
  | n + 9 => simp at h1
/-! a key's versions -/
end Go.Proofs.YthgecojbggoniaaGreatDoor
