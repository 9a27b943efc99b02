/- Contracts of the document's layer 1, its reading half: EqBytes, CopyBytes, TakeNum, TakeStr. -/
import Derived.Test.YtocijpeminghoaaGreatDoorCelG
import Derived.RegionTactic
import Derived.ChangeAlike
namespace Go.Proofs.YtocijpeminghoaaGreatDoor
open Go.RowKit
set_option maxRecDepth 100000
set_option linter.unusedVariables false
set_option linter.unusedSimpArgs false

theorem u8_int_ne {a b : UInt8} (h : a ≠ b) : ((a.toNat : Int) != (b.toNat : Int)) = true := by
  rw [bne_iff_ne]
  intro e
  exact h (UInt8.toNat_inj.1 (by exact_mod_cast e))
theorem u8_int_eq {a b : UInt8} (h : a = b) : ((a.toNat : Int) != (b.toNat : Int)) = false := by
  subst h; simp
theorem Rd.cells {w : World} {v : Value} {l : List UInt8} (h : Rd w v l) {k : Nat} (hk : k < l.length) : ∃ blk off cap, v = .slice (some ⟨blk, off, none⟩) l.length cap ∧ l.length ≤ cap ∧ cap ≤ maxLen ∧ blk < w.heap.size ∧
    ∀ j (h : j < l.length), w.cell? ⟨blk, off + j, none⟩ = some (.int .u8 l[j].toNat) := by
  rcases h with ⟨_, h⟩ | h
  · subst h; simp at hk
  · exact h

theorem takeN_cons (m : UInt8) (t : List UInt8) : takeN (m :: t) = if 7 < m.toNat then (0, [], 4) else if t.length < m.toNat then (0, [], 3) else if (t.take m.toNat).head? = some 0 ∨ 9007199254740991 < numN (t.take m.toNat) then (0, [], 4) else (numN (t.take m.toNat), t.drop m.toNat, 0) := rfl
theorem numT_eq {m : UInt8} {L : List UInt8} (hL : L.length = m.toNat) : decide (numT (numN L) = m :: L) = decide (L.head? ≠ some 0) := by
  rw [decide_eq_decide]
  constructor
  · intro h
    unfold numT at h
    exact (numD_numN_iff L).1 (List.cons.inj h).2
  · intro h
    unfold numT
    rw [(numD_numN_iff L).2 h, hL]
    simp

end Go.Proofs.YtocijpeminghoaaGreatDoor
