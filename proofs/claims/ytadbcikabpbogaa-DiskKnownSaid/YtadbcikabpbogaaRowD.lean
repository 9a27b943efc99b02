/- Arguments of a row opened and shut: ints, texts, slices of bytes and of ints; no laid cells. -/
import Derived.Test.YtadbcikabpbogaaRows
import Derived.Test.YtadbcikabpbogaaBase
import Derived.Test.YtadbcikabpbogaaShape
import Derived.Test.YtadbcikabpbogaaByd
import Derived.Test.YtadbcikabpbogaaOwn
import Derived.ProofKit
import Derived.OpenShut
import Derived.Deep.DeepHandedRow
import Derived.SizedLaws
import Derived.ShutString
import Derived.Lib.SmallJoins
import Derived.Carry
namespace Go.Proofs.Ytadbcikabpbogaa
open Go.ChangeShapes Go.WideShapes Go.ChangeAt Go.RowKit

theorem own : ownKnob Try.prog.godebug = none := by kernel_rfl
theorem laidOut : laidOutB Try.prog = true := by kernel_rfl

noncomputable def laidWorld (os : Os) : World := World.holding Try.prog os ⟨#[], #[], []⟩

section
variable {H : Type} {enc : TypeId × Value → H} {P : Program} {w : World} {base b0 : Nat} {spare : Nat → Bool} {held : Bool} {r : Reach} {t e : TypeId} {v : Value} {d : DataW H} {p : List MemPlace}

theorem trod_below (h : DataW.Trod enc P w base spare held t v d p) : ∀ x ∈ p, x.block < w.heap.size := by
  obtain ⟨n, hn⟩ := h
  exact fun x hx => DataW.trod_lt n _ _ _ hn x hx

/-- A struct of two ints, by value. -/
theorem open_ints2 {f0 f1 : Field} (hs : P.underlying t = some (.struct #[f0, f1])) (hone : Go.Deep.oneCellFields P #[f0, f1] = true) (hC : P.cellsOf t = 2) (h0 : P.underlying f0.type = some (.int .i64)) (h1 : P.underlying f1.type = some (.int .i64))
    (hv : Value.okWide P w r b0 t v) (h : DataW.Trod enc P w base spare held t v d p) :
    ∃ a b : Int, v = .agg #[.int .i64 a, .int .i64 b] ∧ d = .agg [.lit (.int .i64 a), .lit (.int .i64 b)] ∧ p = [] ∧
      (-9223372036854775808 ≤ a ∧ a ≤ 9223372036854775807) ∧ (-9223372036854775808 ≤ b ∧ b ≤ 9223372036854775807) := by
  obtain ⟨c0, c1, y0, y1, m, rfl, rfl, rfl, hy0, hy1⟩ := Joins.open_agg2 hs hone hC hv h
  obtain ⟨a, e0, rfl, wa⟩ := DataW.trod_int h0 hy0
  obtain ⟨b, e1, rfl, wb⟩ := DataW.trod_int h1 hy1
  simp at e0 e1
  subst e0 e1
  exact ⟨a, b, rfl, rfl, rfl, bounds_i64 wa, bounds_i64 wb⟩

/-- An array of two strings, by value. -/
theorem open_strs2 (ht : P.underlying t = some (.array 2 e)) (he : P.underlying e = some .string) (ce : P.cellsOf e = 1) (ct : P.cellsOf t = 2) (hval : Value.okWide P w r b0 t v) (hd : DataW.Trod enc P w base spare held t v d p) :
    ∃ s0 s1 : ByteArray, v = .agg #[.string s0, .string s1] ∧ d = .agg [.lit (.string s0.data.toList), .lit (.string s1.data.toList)] ∧ p = [] := by
  simp only [Value.okWide, ht] at hval
  obtain ⟨cs, rfl, h2, _⟩ := hval
  obtain ⟨c0, c1, rfl⟩ := Joins.array2 (h2.trans ct)
  obtain ⟨fuel, hf⟩ := hd
  obtain ⟨xs, m, _, hx, _, hl, hi⟩ := DataW.trod_array ht hf
  have h0 := hi 0 (by omega)
  have h1 := hi 1 (by omega)
  obtain ⟨y0, y1, rfl⟩ : ∃ y0 y1, xs = [y0, y1] := by
    match xs, hl with
    | [y0, y1], _ => exact ⟨_, _, rfl⟩
  simp [ce, Value.cells] at h0 h1
  obtain ⟨s0, e0, rfl, _⟩ := DataW.trod_string he h0
  obtain ⟨s1, e1, rfl, _⟩ := DataW.trod_string he h1
  simp at e0 e1
  subst e0 e1
  simp at hx
  exact ⟨s0, s1, rfl, hx.1, hx.2⟩
end
end Go.Proofs.Ytadbcikabpbogaa
namespace Go.Proofs.Ytadbcikabpbogaa
open Go.ChangeShapes Go.WideShapes Go.ChangeAt Go.RowKit
set_option linter.unusedVariables false

theorem lens_arg {H : Type} {enc : TypeId × Value → H} {P : Program} {w : World} {base : Nat} {spare : Nat → Bool} {held : Bool} (s : Sh0) {t : TypeId} {v : Value} {d : DataW H} {p : List MemPlace}
    (hf : fitsB P s t = true) (h : DataW.Trod enc P w base spare held t v d p) (hw : ∀ n ∈ d.weights P t, n ≤ reachBytes) : lensLe reachBytes d := by
  obtain ⟨fuel, hfu⟩ := h
  exact lens_of_weights (Nat.le_refl _) s t fuel _ (d, p) hf hfu hw

section
variable {M : Nat} {w : World} {v : Value} {D : Dat}
theorem arg_int (h : repV M w .int v D) : ∃ z, v = .int .i64 z ∧ -9223372036854775808 ≤ z ∧ z ≤ 9223372036854775807 := by
  obtain ⟨z, _, h1, h2⟩ := rep_int.1 h
  exact ⟨z, by simpa using h1, h2⟩
theorem arg_str (h : repV M w .str v D) : ∃ s, v = .string s ∧ s.size ≤ M := by
  obtain ⟨z, _, h1, h2⟩ := rep_str.1 h
  exact ⟨z, by simpa using h1, h2⟩
theorem arg_bool (h : repV M w .bool v D) : ∃ b, v = .bool b := by
  obtain ⟨z, _, h1⟩ := rep_bool.1 h
  exact ⟨z, by simpa using h1⟩
abbrev u8C : UInt8 → List Value := fun c => [.int .u8 c.toNat]
theorem rep_byte {cs : List Value} (h : rep M w .u8 cs D) : ∃ a : UInt8, RE u8C w cs a ∧ True := by
  obtain ⟨z, _, rfl, h1, h2⟩ := rep_u8.1 h
  refine ⟨UInt8.ofNat z.toNat, ?_, trivial⟩
  have e : (UInt8.ofNat z.toNat).toNat = z.toNat := by
    rw [UInt8.toNat_ofNat']
    exact Nat.mod_eq_of_lt (by omega)
  unfold RE u8C
  rw [e, Int.toNat_of_nonneg h1]
theorem rd_of_rdR {v : Value} {l : List UInt8} (h : RdR (RE u8C) 1 w v l) : Rd w v l := by
  rcases h with h | ⟨blk, off, cap, h1, h2, h4, h5, h6, h7⟩
  · exact .inl h
  · refine .inr ⟨blk, off, cap, h1, h4, h5, h6, fun j hj => ?_⟩
    obtain ⟨ds, k1, k2, k3⟩ := h7 j hj
    unfold RE at k3
    subst k3
    have := k2 0 (by simp [u8C])
    simpa [u8C] using this
theorem arg_bytes (h : repV M w (.sl .u8) v D) : ∃ l : List UInt8, Rd w v l ∧ l.length ≤ M := by
  obtain ⟨l, h1, h2, _⟩ := RdR.of_rep (R := RE u8C) (Q := fun _ => True) (fun ds d hd => rep_byte hd) h
  exact ⟨l, rd_of_rdR h1, h2⟩
abbrev intR : Int → List Value := fun a => [.int .i64 a]
theorem arg_ints (h : repV M w (.sl .int) v D) : ∃ l : List Int, RdR (RE intR) 1 w v l ∧ l.length ≤ M ∧ ∀ x ∈ l, -9223372036854775808 ≤ x ∧ x ≤ 9223372036854775807 := by
  exact RdR.of_rep (R := RE intR) (Q := fun x => -9223372036854775808 ≤ x ∧ x ≤ 9223372036854775807) (fun ds d hd => by
    obtain ⟨z, _, rfl, h1, h2⟩ := rep_int.1 hd
    exact ⟨z, rfl, h1, h2⟩) h
end
end Go.Proofs.Ytadbcikabpbogaa
