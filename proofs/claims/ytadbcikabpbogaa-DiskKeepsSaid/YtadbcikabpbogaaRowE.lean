/- Arguments of a row opened and shut: slices of slices of bytes. -/
import Derived.Test.YtadbcikabpbogaaRowD
import Derived.Test.YtadbcikabpbogaaDskY
namespace Go.Proofs.Ytadbcikabpbogaa
open Go.ChangeShapes Go.WideShapes Go.ChangeAt Go.RowKit
set_option linter.unusedVariables false
theorem rep_one {M : Nat} {w : World} {e : Sh0} {ds : List Value} {d : Dat} (h : rep M w (.sl e) ds d) : ∃ y, ds = [y] := by
  cases d with
  | sl l => rw [rep] at h; rcases h with ⟨_, q, c, h, _⟩ | ⟨b, o, c, h, _⟩ <;> exact ⟨_, h⟩
  | _ => simp [rep] at h
theorem arg_pieces {M : Nat} {w : World} {v : Value} {D : Dat} (h : repV M w (.sl (.sl .u8)) v D) : ∃ l : List (List UInt8), RdP w v l ∧ l.length ≤ M ∧ ∀ x ∈ l, x.length ≤ M := by
  exact RdR.of_rep (R := fun w ds x => ∃ y, ds = [y] ∧ Rd w y x) (Q := fun x => x.length ≤ M) (fun ds d hd => by
    obtain ⟨y, rfl⟩ := rep_one hd
    obtain ⟨l, h1, h2⟩ := arg_bytes (v := y) (D := d) hd
    exact ⟨l, ⟨y, rfl, h1⟩, h2⟩) h
end Go.Proofs.Ytadbcikabpbogaa
