/- Arguments of a row opened and shut: ints, texts, stamps. -/
import Derived.Test.YtocijpeminghoaaGreatDoorCards
import Derived.Test.YtocijpeminghoaaGreatDoorTie
import Derived.Test.YtocijpeminghoaaGreatDoorBase
import Derived.Test.YtocijpeminghoaaGreatDoorShape
import Derived.ProofKit
import Derived.OpenShut
import Derived.Deep.DeepHandedRow
import Derived.SizedLaws
import Derived.ShutString
import Derived.Lib.SmallJoins
import Derived.Carry
namespace Go.Proofs.YtocijpeminghoaaGreatDoor
open Go.ChangeShapes Go.WideShapes Go.ChangeAt Go.RowKit

theorem own : ownKnob Tryz.prog.godebug = none := by kernel_rfl
theorem laidOut : laidOutB Tryz.prog = true := by kernel_rfl

def litV : DataW Unit → Value
  | .lit (.int k n) => .int k n
  | _ => undef
def flat1 : DataW Unit → List Value
  | .agg l => l.map litV
  | d => [litV d]
def flat2 : DataW Unit → List Value
  | .agg l => l.flatMap flat1
  | d => [litV d]
def layTab (d : DataW Unit) : Obj → Obj
  | .cells _ t frozen => .cells (flat2 d).toArray t frozen
  | o => o
noncomputable def laidWorld (os : Os) : World :=
  { World.holding Tryz.prog os ⟨#[], #[], []⟩ with heap := ((World.holding Tryz.prog os ⟨#[], #[], []⟩).heap.modify 1 (layTab Go.Pinned.utf8First)).modify 2 (layTab Rows.laid_unicode_utf8_acceptRanges) }

section
variable {H : Type} {enc : TypeId × Value → H} {P : Program} {w : World} {base b0 : Nat} {spare : Nat → Bool} {held : Bool} {r : Reach} {t e : TypeId} {v : Value} {d : DataW H} {p : List MemPlace}

theorem trod_below (h : DataW.Trod enc P w base spare held t v d p) : ∀ x ∈ p, x.block < w.heap.size := by
  obtain ⟨n, hn⟩ := h
  exact fun x hx => DataW.trod_lt n _ _ _ hn x hx

/-- A struct of two ints, by value. -/
theorem open_ints2 {f0 f1 : Field} (hs : P.underlying t = some (.struct #[f0, f1])) (hone : Go.Deep.oneCellFields P #[f0, f1] = true) (hC : P.cellsOf t = 2) (h0 : P.underlying f0.type = some (.int .i64)) (h1 : P.underlying f1.type = some (.int .i64))
    (hv : Value.okWide P w r b0 t v) (h : DataW.Trod enc P w base spare held t v d p) :
    ∃ a b : Int, v = .agg #[.int .i64 a, .int .i64 b] ∧ d = .agg [.lit (.int .i64 a), .lit (.int .i64 b)] ∧ p = [] ∧
      (-9223372036854775808 ≤ a ∧ a ≤ 9223372036854775807) ∧ (-9223372036854775808 ≤ b ∧ b ≤ 9223372036854775807) := by
  obtain ⟨c0, c1, y0, y1, m, rfl, rfl, rfl, hy0, hy1⟩ := Joins.open_agg2 hs hone hC hv h
  obtain ⟨a, e0, rfl, wa⟩ := DataW.trod_int h0 hy0
  obtain ⟨b, e1, rfl, wb⟩ := DataW.trod_int h1 hy1
  simp at e0 e1
  subst e0 e1
  exact ⟨a, b, rfl, rfl, rfl, bounds_i64 wa, bounds_i64 wb⟩

/-- An array of two strings, by value. -/
theorem open_strs2 (ht : P.underlying t = some (.array 2 e)) (he : P.underlying e = some .string) (ce : P.cellsOf e = 1) (ct : P.cellsOf t = 2) (hval : Value.okWide P w r b0 t v) (hd : DataW.Trod enc P w base spare held t v d p) :
    ∃ s0 s1 : ByteArray, v = .agg #[.string s0, .string s1] ∧ d = .agg [.lit (.string s0.data.toList), .lit (.string s1.data.toList)] ∧ p = [] := by
  simp only [Value.okWide, ht] at hval
  obtain ⟨cs, rfl, h2, _⟩ := hval
  obtain ⟨c0, c1, rfl⟩ := Joins.array2 (h2.trans ct)
  obtain ⟨fuel, hf⟩ := hd
  obtain ⟨xs, m, _, hx, _, hl, hi⟩ := DataW.trod_array ht hf
  have h0 := hi 0 (by omega)
  have h1 := hi 1 (by omega)
  obtain ⟨y0, y1, rfl⟩ : ∃ y0 y1, xs = [y0, y1] := by
    match xs, hl with
    | [y0, y1], _ => exact ⟨_, _, rfl⟩
  simp [ce, Value.cells] at h0 h1
  obtain ⟨s0, e0, rfl, _⟩ := DataW.trod_string he h0
  obtain ⟨s1, e1, rfl, _⟩ := DataW.trod_string he h1
  simp at e0 e1
  subst e0 e1
  simp at hx
  exact ⟨s0, s1, rfl, hx.1, hx.2⟩
end
end Go.Proofs.YtocijpeminghoaaGreatDoor
namespace Go.Proofs.YtocijpeminghoaaGreatDoor
open Go.ChangeShapes Go.WideShapes Go.ChangeAt Go.RowKit
set_option linter.unusedVariables false

theorem lens_arg {H : Type} {enc : TypeId × Value → H} {P : Program} {w : World} {base : Nat} {spare : Nat → Bool} {held : Bool} (s : Sh0) {t : TypeId} {v : Value} {d : DataW H} {p : List MemPlace}
    (hf : fitsB P s t = true) (h : DataW.Trod enc P w base spare held t v d p) (hw : ∀ n ∈ d.weights P t, n ≤ reachBytes) : lensLe reachBytes d := by
  obtain ⟨fuel, hfu⟩ := h
  exact lens_of_weights (Nat.le_refl _) s t fuel _ (d, p) hf hfu hw

section
variable {M : Nat} {w : World} {v : Value} {D : Dat}
theorem arg_int (h : repV M w .int v D) : ∃ z, v = .int .i64 z ∧ -9223372036854775808 ≤ z ∧ z ≤ 9223372036854775807 := by
  obtain ⟨z, _, h1, h2⟩ := rep_int.1 h
  exact ⟨z, by simpa using h1, h2⟩
theorem arg_str (h : repV M w .str v D) : ∃ s, v = .string s ∧ s.size ≤ M := by
  obtain ⟨z, _, h1, h2⟩ := rep_str.1 h
  exact ⟨z, by simpa using h1, h2⟩
theorem arg_bool (h : repV M w .bool v D) : ∃ b, v = .bool b := by
  obtain ⟨z, _, h1⟩ := rep_bool.1 h
  exact ⟨z, by simpa using h1⟩
def shStamp : Sh0 := .st [.int, .int]
theorem rep_stamp {cs : List Value} (h : rep M w shStamp cs D) : ∃ a b : Int, cs = [.int .i64 a, .int .i64 b] ∧ (-9223372036854775808 ≤ a ∧ a ≤ 9223372036854775807) ∧ (-9223372036854775808 ≤ b ∧ b ≤ 9223372036854775807) := by
  simp only [shStamp, rep_st, reps_cons, reps_nil, rep_int] at h
  obtain ⟨_, rfl, a, b, _, _, rfl, rfl, ⟨x, rfl, rfl, h1⟩, c, d, _, _, rfl, rfl, ⟨y, rfl, rfl, h2⟩, rfl, rfl⟩ := h
  exact ⟨x, y, rfl, h1, h2⟩
theorem arg_stamp (h : repV M w shStamp v D) : ∃ a b : Int, v = .agg #[.int .i64 a, .int .i64 b] ∧ (-9223372036854775808 ≤ a ∧ a ≤ 9223372036854775807) ∧ (-9223372036854775808 ≤ b ∧ b ≤ 9223372036854775807) := by
  obtain ⟨cs, rfl, hr⟩ := h
  obtain ⟨a, b, rfl, h1, h2⟩ := rep_stamp hr
  exact ⟨a, b, rfl, h1, h2⟩
def shStamps2 : Sh0 := .st [shStamp, shStamp]
theorem arg_stamps2 (h : repV M w shStamps2 v D) : ∃ a b c d : Int, v = .agg #[.int .i64 a, .int .i64 b, .int .i64 c, .int .i64 d] ∧ ((-9223372036854775808 ≤ a ∧ a ≤ 9223372036854775807) ∧ (-9223372036854775808 ≤ b ∧ b ≤ 9223372036854775807)) ∧
    ((-9223372036854775808 ≤ c ∧ c ≤ 9223372036854775807) ∧ (-9223372036854775808 ≤ d ∧ d ≤ 9223372036854775807)) := by
  obtain ⟨cs, rfl, hr⟩ := h
  simp only [rep_st, reps_cons, reps_nil] at hr
  obtain ⟨_, rfl, x, y, _, _, rfl, rfl, h1, z, u, _, _, rfl, rfl, h2, rfl, rfl⟩ := hr
  obtain ⟨a, b, rfl, g1, g2⟩ := rep_stamp h1
  obtain ⟨c, d, rfl, g3, g4⟩ := rep_stamp h2
  exact ⟨a, b, c, d, rfl, ⟨g1, g2⟩, g3, g4⟩
end
end Go.Proofs.YtocijpeminghoaaGreatDoor
