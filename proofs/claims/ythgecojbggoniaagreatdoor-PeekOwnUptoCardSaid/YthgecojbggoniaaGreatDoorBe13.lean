/- What the rows stand on, part 13: CelH. Printed by bundle.py out of my texts. -/
import Derived.Test.YthgecojbggoniaaGreatDoorBe12
import Derived.RegionTactic
import Derived.ChangeAlike
namespace Go.Proofs.YthgecojbggoniaaGreatDoor
open Go.RowKit
set_option maxRecDepth 100000
set_option linter.unusedVariables false
set_option linter.unusedSimpArgs false

theorem Rd.cells {w : World} {v : Value} {l : List UInt8} (h : Rd w v l) {k : Nat} (hk : k < l.length) : ∃ blk off cap, v = .slice (some ⟨blk, off, none⟩) l.length cap ∧ l.length ≤ cap ∧ cap ≤ maxLen ∧ blk < w.heap.size ∧
    ∀ j (h : j < l.length), w.cell? ⟨blk, off + j, none⟩ = some (.int .u8 l[j].toNat) := by
  rcases h with ⟨_, h⟩ | h
  · subst h; simp at hk
  · exact h

end Go.Proofs.YthgecojbggoniaaGreatDoor
