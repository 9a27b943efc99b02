/- Arguments of a row opened and shut: slices of deeds. -/
import Derived.Test.YtadbcikabpbogaaRowE
import Derived.Test.YtadbcikabpbogaaDskAB
namespace Go.Proofs.Ytadbcikabpbogaa
open Go.ChangeShapes Go.WideShapes Go.ChangeAt Go.RowKit
set_option linter.unusedVariables false
abbrev shDeed : Sh0 := .st [.int, .str, .str, .sl .u8, .int, .int, .sl .int]
structure DeedM (M : Nat) (x : Deed) : Prop where
  kind : I64 x.kind
  n : I64 x.n
  at_ : I64 x.at_
  keep : ∀ z ∈ x.keep, I64 z
  name : x.name.size ≤ M
  dst : x.dst.size ≤ M
  b : x.b.length ≤ M
  kl : x.keep.length ≤ M
theorem rep_deed {M : Nat} {w : World} {ds : List Value} {d : Dat} (h : rep M w shDeed ds d) : ∃ x, RD w ds x ∧ DeedM M x := by
  cases d with
  | st l =>
    match l with
    | [d0, d1, d2, d3, d4, d5, d6] =>
      simp only [rep, reps] at h
      obtain ⟨a0, b0, rfl, h0, a1, b1, rfl, h1, a2, b2, rfl, h2, a3, b3, rfl, h3, a4, b4, rfl, h4, a5, b5, rfl, h5, a6, b6, rfl, h6, rfl⟩ := h
      obtain ⟨z0, _, rfl, x0, y0⟩ := rep_int.1 h0
      obtain ⟨z1, _, rfl, x1⟩ := rep_str.1 h1
      obtain ⟨z2, _, rfl, x2⟩ := rep_str.1 h2
      obtain ⟨v3, rfl⟩ := rep_one (w := w) (M := M) (e := .u8) (d := d3) h3
      obtain ⟨z4, _, rfl, x4, y4⟩ := rep_int.1 h4
      obtain ⟨z5, _, rfl, x5, y5⟩ := rep_int.1 h5
      obtain ⟨v6, rfl⟩ := rep_one (w := w) (M := M) (e := .int) (d := d6) h6
      obtain ⟨l3, g3, k3⟩ := arg_bytes (v := v3) (D := d3) h3
      obtain ⟨l6, g6, k6, j6⟩ := arg_ints (v := v6) (D := d6) h6
      exact ⟨⟨z0, z1, z2, l3, z4, z5, l6⟩, ⟨v3, v6, rfl, g3, g6⟩, ⟨⟨x0, y0⟩, ⟨x4, y4⟩, ⟨x5, y5⟩, j6, x1, x2, k3, k6⟩⟩
    | [] | [_] | [_, _] | [_, _, _] | [_, _, _, _] | [_, _, _, _, _] | [_, _, _, _, _, _] | _ :: _ :: _ :: _ :: _ :: _ :: _ :: _ :: _ => simp [rep, reps] at h
  | _ => simp [rep] at h
theorem arg_deeds {M : Nat} {w : World} {v : Value} {D : Dat} (h : repV M w (.sl shDeed) v D) : ∃ l : List Deed, RdD w v l ∧ l.length ≤ M ∧ ∀ x ∈ l, DeedM M x :=
  RdR.of_rep (R := RD) (Q := DeedM M) (fun ds d hd => rep_deed hd) h
theorem DeedM.ok {x : Deed} (h : DeedM reachBytes x) : DeedOk x := ⟨h.kind, Nat.le_trans h.name (by decide), Nat.le_trans h.dst (by decide), Nat.le_trans h.b (by decide), h.n, h.at_, h.keep⟩
end Go.Proofs.Ytadbcikabpbogaa
