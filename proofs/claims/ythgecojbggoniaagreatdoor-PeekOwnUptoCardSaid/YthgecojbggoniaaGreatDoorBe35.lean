/- What the rows stand on, part 35: RowZ. Printed by bundle.py out of my texts. -/
import Derived.Test.YthgecojbggoniaaGreatDoorBe01
import Derived.Test.YthgecojbggoniaaGreatDoorBe17
import Derived.Test.YthgecojbggoniaaGreatDoorBe24
import Derived.Test.YthgecojbggoniaaGreatDoorBe34
namespace Go.Proofs.YthgecojbggoniaaGreatDoor
open Go.RowKit
set_option linter.unusedVariables false
set_option linter.unusedSimpArgs false
section
variable {M : Nat} {w : World} {v : Value} {D : Dat}
theorem rep_sl_one {e : Sh0} {cs : List Value} {d : Dat} (h : rep M w (.sl e) cs d) : ∃ v, cs = [v] := by
  cases d <;> simp only [rep] at h
  rcases h with ⟨_, q, c, rfl, _⟩ | ⟨blk, off, cap, rfl, _⟩
  · exact ⟨_, rfl⟩
  · exact ⟨_, rfl⟩
def shChg : Sh0 := .st [.int, .str, .bool]
def shItt : Sh0 := .st [.int, .int, .int, .str, shStamp, shStamp, .sl shChg]
theorem rep_chg (ds : List Value) (d : Dat) (h : rep M w shChg ds d) : ∃ c : Chg, RC w ds c ∧ True := by
  simp only [shChg, rep_st, reps_cons, reps_nil, rep_int, rep_str, rep_bool] at h
  obtain ⟨_, rfl, _, _, _, _, rfl, rfl, ⟨a, rfl, rfl, _⟩, _, _, _, _, rfl, rfl, ⟨b, rfl, rfl, _⟩, _, _, _, _, rfl, rfl, ⟨c, rfl, rfl⟩, rfl, rfl⟩ := h
  exact ⟨⟨a, b, c⟩, rfl, trivial⟩
theorem arg_itt (h : repV M w shItt v D) : ∃ (x : Itt) (vl : Value), v = .agg #[.int .i64 x.id, .int .i64 x.epoch, .int .i64 x.prio, .string x.anchor, .int .i64 x.sw, .int .i64 x.sl, .int .i64 x.bw, .int .i64 x.bl, vl] ∧ RdC w vl x.l ∧ x.l.length ≤ M := by
  obtain ⟨cs, rfl, hr⟩ := h
  simp only [shItt, rep_st, reps_cons, reps_nil, rep_int, rep_str] at hr
  obtain ⟨_, rfl, _, _, _, _, rfl, rfl, ⟨a, rfl, rfl, _⟩, _, _, _, _, rfl, rfl, ⟨b, rfl, rfl, _⟩, _, _, _, _, rfl, rfl, ⟨c, rfl, rfl, _⟩, _, _, _, _, rfl, rfl, ⟨s, rfl, rfl, _⟩, _, _, _, _, rfl, rfl, h1, _, _, _, _, rfl, rfl, h2, u, _, _, _, rfl, rfl, h3, rfl, rfl⟩ := hr
  obtain ⟨sw, sl, rfl, _, _⟩ := rep_stamp h1
  obtain ⟨bw, bl, rfl, _, _⟩ := rep_stamp h2
  obtain ⟨vl, rfl⟩ := rep_sl_one h3
  obtain ⟨l, hl, hM, _⟩ := RdR.of_rep (R := RC) (Q := fun _ => True) rep_chg h3
  exact ⟨⟨a, b, c, s, sw, sl, bw, bl, l⟩, vl, rfl, hl, hM⟩
end
end Go.Proofs.YthgecojbggoniaaGreatDoor
namespace Go.Proofs.YthgecojbggoniaaGreatDoor
open Go.RowKit
set_option linter.unusedVariables false
set_option linter.unusedSimpArgs false
section
variable {M : Nat} {w : World} {v : Value} {D : Dat}
end
end Go.Proofs.YthgecojbggoniaaGreatDoor
