/- Layer 15: Sweep, what it refuses. -/
import Derived.Test.YtocijpeminghoaaGreatDoorSweB
namespace Go.Proofs.YtocijpeminghoaaGreatDoor
open Go.RowKit
set_option maxRecDepth 100000
set_option linter.unusedVariables false
set_option linter.unusedSimpArgs false
set_option linter.unnecessarySimpa false

theorem sweep_nil (lo hi : ByteArray) (a b : Int) (w : World) :
    Calls Tryz.prog 7 #[.pointer none, .agg #[.string lo, .string hi], .agg #[.int .i64 a, .int .i64 b]] w fun e w' => e = .returned (.tuple #[.slice none 0 0, .int .i64 1]) ∧ Gr w w' := by
  go_enter Tryz.func7, Tryz.ntmps7
  go_wp2
  go_ret2
  exact ⟨rfl, ((Gr.refl w).alloc _).alloc _⟩
theorem sweep_long (tb : Nat) (lo hi : ByteArray) (a b : Int) (h : 33 < lo.size ∨ 33 < hi.size) (w : World) :
    Calls Tryz.prog 7 #[.pointer (some ⟨tb, 0, none⟩), .agg #[.string lo, .string hi], .agg #[.int .i64 a, .int .i64 b]] w fun e w' => e = .returned (.tuple #[.slice none 0 0, .int .i64 5]) ∧ Gr w w' := by
  by_cases h1 : 33 < lo.size
  · clear h
    go_enter Tryz.func7, Tryz.ntmps7
    go_wp2
    go_ret2
    exact ⟨rfl, ((Gr.refl w).alloc _).alloc _⟩
  · have h2 : 33 < hi.size := by omega
    clear h
    go_enter Tryz.func7, Tryz.ntmps7
    go_wp2
    go_ret2
    exact ⟨rfl, ((Gr.refl w).alloc _).alloc _⟩
theorem sweep_arg (tb : Nat) (lo hi : ByteArray) (a b : Int) (hlo : lo.size ≤ 33) (hhi : hi.size ≤ 33) (h : klt lo hi = false ∨ stampOk a b = false) (w : World) :
    Calls Tryz.prog 7 #[.pointer (some ⟨tb, 0, none⟩), .agg #[.string lo, .string hi], .agg #[.int .i64 a, .int .i64 b]] w fun e w' => e = .returned (.tuple #[.slice none 0 0, .int .i64 2]) ∧ Gr w w' := by
  cases hk : klt lo hi with
  | false =>
    clear h
    go_enter Tryz.func7, Tryz.ntmps7
    go_wp2
    go_ret2
    exact ⟨rfl, ((Gr.refl w).alloc _).alloc _⟩
  | true =>
    have hs : stampOk a b = false := by
      rcases h with h | h
      · rw [hk] at h; cases h
      · exact h
    have hC := fun w => stampCheck a b w
    simp only [hs, Bool.false_eq_true, if_false] at hC
    have HC := Lib.hid hC
    clear h hC hs
    go_enter Tryz.func7, Tryz.ntmps7
    go_wp2_with (go_at_call 25; refine (HC.out _).mono ?_; rintro e w1 ⟨rfl, hg1⟩)
    go_ret2
    exact ⟨rfl, (((Gr.refl w).alloc _).alloc _).trans hg1⟩
end Go.Proofs.YtocijpeminghoaaGreatDoor
