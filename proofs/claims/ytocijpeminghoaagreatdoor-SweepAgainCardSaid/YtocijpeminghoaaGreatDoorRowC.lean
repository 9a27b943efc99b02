/- Arguments of a row opened and shut: slices of cells, spans. -/
import Derived.Test.YtocijpeminghoaaGreatDoorRowX
import Derived.Test.YtocijpeminghoaaGreatDoorLdB
namespace Go.Proofs.YtocijpeminghoaaGreatDoor
open Go.ChangeShapes Go.WideShapes Go.ChangeAt Go.RowKit
set_option linter.unusedVariables false
set_option linter.unusedSimpArgs false
section
variable {M : Nat} {w : World} {v : Value} {D : Dat}
def shCell : Sh0 := .st [.int, .str, shStamp, .bool, .str]
def CellM (M : Nat) (x : Cl) : Prop := (-9223372036854775808 ≤ x.kind ∧ x.kind ≤ 9223372036854775807) ∧ x.key.size ≤ M ∧ x.val.size ≤ M
theorem rep_cell (ds : List Value) (d : Dat) (h : rep M w shCell ds d) : ∃ x : Cl, ds = clC x ∧ CellM M x := by
  simp only [shCell, rep_st, reps_cons, reps_nil, rep_int, rep_str, rep_bool] at h
  obtain ⟨_, rfl, _, _, _, _, rfl, rfl, ⟨a, rfl, rfl, ha⟩, _, _, _, _, rfl, rfl, ⟨b, rfl, rfl, hb⟩, _, _, _, _, rfl, rfl, h1, _, _, _, _, rfl, rfl, ⟨c, rfl, rfl⟩, _, _, _, _, rfl, rfl, ⟨e, rfl, rfl, he⟩, rfl, rfl⟩ := h
  obtain ⟨sw, sl, rfl, _, _⟩ := rep_stamp h1
  exact ⟨⟨a, b, sw, sl, c, e⟩, rfl, ha, hb, he⟩
theorem arg_cells (h : repV M w (.sl shCell) v D) : ∃ l : List Cl, RdC w v l ∧ l.length ≤ M ∧ ∀ x ∈ l, CellM M x :=
  RdR.of_rep (R := fun _ ds a => ds = clC a) (Q := CellM M) rep_cell h
def shSpan : Sh0 := .st [.str, .str]
theorem arg_span (h : repV M w shSpan v D) : ∃ a b : ByteArray, v = .agg #[.string a, .string b] ∧ a.size ≤ M ∧ b.size ≤ M := by
  obtain ⟨cs, rfl, hr⟩ := h
  simp only [shSpan, rep_st, reps_cons, reps_nil, rep_str] at hr
  obtain ⟨_, rfl, _, _, _, _, rfl, rfl, ⟨a, rfl, rfl, ha⟩, _, _, _, _, rfl, rfl, ⟨b, rfl, rfl, hb⟩, rfl, rfl⟩ := hr
  exact ⟨a, b, rfl, ha, hb⟩
end
end Go.Proofs.YtocijpeminghoaaGreatDoor
