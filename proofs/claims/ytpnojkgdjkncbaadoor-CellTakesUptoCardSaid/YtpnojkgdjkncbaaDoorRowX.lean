/- What all rows share: arguments opened by their shapes. -/
import Derived.Test.YtpnojkgdjkncbaaDoorRowW
import Derived.Test.YtpnojkgdjkncbaaDoorShape
namespace Go.Proofs.YtpnojkgdjkncbaaDoor
open Go.ChangeShapes Go.WideShapes Go.ChangeAt Go.RowKit
set_option linter.unusedVariables false

theorem lens_arg {H : Type} {enc : TypeId × Value → H} {P : Program} {w : World} {base : Nat} {spare : Nat → Bool} {held : Bool} (s : Sh0) {t : TypeId} {v : Value} {d : DataW H} {p : List MemPlace}
    (hf : fitsB P s t = true) (h : DataW.Trod enc P w base spare held t v d p) (hw : ∀ n ∈ d.weights P t, n ≤ reachBytes) : lensLe reachBytes d := by
  obtain ⟨fuel, hfu⟩ := h
  exact lens_of_weights (Nat.le_refl _) s t fuel _ (d, p) hf hfu hw

section
variable {M : Nat} {w : World} {v : Value} {D : Dat}
theorem arg_int (h : repV M w .int v D) : ∃ z, v = .int .i64 z ∧ -9223372036854775808 ≤ z ∧ z ≤ 9223372036854775807 := by
  obtain ⟨z, _, h1, h2⟩ := rep_int.1 h
  exact ⟨z, by simpa using h1, h2⟩
theorem arg_str (h : repV M w .str v D) : ∃ s, v = .string s ∧ s.size ≤ M := by
  obtain ⟨z, _, h1, h2⟩ := rep_str.1 h
  exact ⟨z, by simpa using h1, h2⟩
theorem arg_bool (h : repV M w .bool v D) : ∃ b, v = .bool b := by
  obtain ⟨z, _, h1⟩ := rep_bool.1 h
  exact ⟨z, by simpa using h1⟩
def shStamp : Sh0 := .st [.int, .int]
theorem rep_stamp {cs : List Value} (h : rep M w shStamp cs D) : ∃ a b : Int, cs = [.int .i64 a, .int .i64 b] ∧ (-9223372036854775808 ≤ a ∧ a ≤ 9223372036854775807) ∧ (-9223372036854775808 ≤ b ∧ b ≤ 9223372036854775807) := by
  simp only [shStamp, rep_st, reps_cons, reps_nil, rep_int] at h
  obtain ⟨_, rfl, a, b, _, _, rfl, rfl, ⟨x, rfl, rfl, h1⟩, c, d, _, _, rfl, rfl, ⟨y, rfl, rfl, h2⟩, rfl, rfl⟩ := h
  exact ⟨x, y, rfl, h1, h2⟩
theorem arg_stamp (h : repV M w shStamp v D) : ∃ a b : Int, v = .agg #[.int .i64 a, .int .i64 b] ∧ (-9223372036854775808 ≤ a ∧ a ≤ 9223372036854775807) ∧ (-9223372036854775808 ≤ b ∧ b ≤ 9223372036854775807) := by
  obtain ⟨cs, rfl, hr⟩ := h
  obtain ⟨a, b, rfl, h1, h2⟩ := rep_stamp hr
  exact ⟨a, b, rfl, h1, h2⟩
def shStamps2 : Sh0 := .st [shStamp, shStamp]
theorem arg_stamps2 (h : repV M w shStamps2 v D) : ∃ a b c d : Int, v = .agg #[.int .i64 a, .int .i64 b, .int .i64 c, .int .i64 d] ∧ ((-9223372036854775808 ≤ a ∧ a ≤ 9223372036854775807) ∧ (-9223372036854775808 ≤ b ∧ b ≤ 9223372036854775807)) ∧
    ((-9223372036854775808 ≤ c ∧ c ≤ 9223372036854775807) ∧ (-9223372036854775808 ≤ d ∧ d ≤ 9223372036854775807)) := by
  obtain ⟨cs, rfl, hr⟩ := h
  simp only [rep_st, reps_cons, reps_nil] at hr
  obtain ⟨_, rfl, x, y, _, _, rfl, rfl, h1, z, u, _, _, rfl, rfl, h2, rfl, rfl⟩ := hr
  obtain ⟨a, b, rfl, g1, g2⟩ := rep_stamp h1
  obtain ⟨c, d, rfl, g3, g4⟩ := rep_stamp h2
  exact ⟨a, b, c, d, rfl, ⟨g1, g2⟩, g3, g4⟩
end
end Go.Proofs.YtpnojkgdjkncbaaDoor
