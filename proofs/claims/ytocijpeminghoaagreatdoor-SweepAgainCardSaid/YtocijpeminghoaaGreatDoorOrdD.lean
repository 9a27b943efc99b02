/- The statements' helpers of layer 2, and what the calls answer at any input. -/
import Derived.Test.YtocijpeminghoaaGreatDoorOrdB
import Derived.Test.YtocijpeminghoaaGreatDoorOrdC
namespace Go.Proofs.YtocijpeminghoaaGreatDoor
open Go.RowKit
set_option maxRecDepth 100000
set_option linter.unusedVariables false
set_option linter.unusedSimpArgs false

theorem key_all (s : ByteArray) (w : World) (hw : Sh w) :
    Calls Tryz.prog 69 #[.string s] w fun e w' => e = .returned (.tuple #[.string ⟨(keyR s.data.toList).1.toArray⟩, .int .i64 (keyR s.data.toList).2]) ∧ Gr w w' := by
  by_cases hs : s.size ≤ 1000
  · rw [show keyR s.data.toList = (keyL s.data.toList, 0) by unfold keyR; rw [if_pos (by simpa using hs)]]
    exact key_any s hs w hw
  · rw [show keyR s.data.toList = ([], 5) by unfold keyR; rw [if_neg (by simpa using hs)]]
    refine (key_long s (by omega) w).mono ?_
    rintro e w' ⟨rfl, rfl⟩
    exact ⟨rfl, Gr.refl _⟩
theorem refKey_all (s : ByteArray) (w : World) :
    Calls Tryz.prog 45 #[.string s] w fun e w' => e = .returned (.tuple #[.string ⟨(keyR s.data.toList).1.toArray⟩, .int .i64 (keyR s.data.toList).2]) ∧ Gr w w' := by
  by_cases hs : s.size ≤ 1000
  · rw [show keyR s.data.toList = (keyL s.data.toList, 0) by unfold keyR; rw [if_pos (by simpa using hs)]]
    exact refKey_any s hs w
  · rw [show keyR s.data.toList = ([], 5) by unfold keyR; rw [if_neg (by simpa using hs)]]
    refine (refKey_long s (by omega) w).mono ?_
    rintro e w' ⟨rfl, rfl⟩
    exact ⟨rfl, Gr.refl _⟩
theorem down_all (a b : Int) (w : World) :
    Calls Tryz.prog 70 #[.agg #[.int .i64 a, .int .i64 b]] w fun e w' => e = .returned (.tuple #[.string ⟨(downR a b).1.toArray⟩, .int .i64 (downR a b).2]) ∧ Gr w w' := by
  by_cases h : mayB a b = true
  · rw [show downR a b = (downL a b, 0) by unfold downR; rw [if_pos h]]
    exact down_yes a b w h
  · rw [show downR a b = ([], 2) by unfold downR; rw [if_neg h]]
    exact down_no a b w (by simpa using h)
theorem refDown_all (a b : Int) (w : World) :
    Calls Tryz.prog 46 #[.agg #[.int .i64 a, .int .i64 b]] w fun e w' => e = .returned (.tuple #[.string ⟨(downR a b).1.toArray⟩, .int .i64 (downR a b).2]) ∧ Gr w w' := by
  by_cases h : mayB a b = true
  · rw [show downR a b = (downL a b, 0) by unfold downR; rw [if_pos h]]
    exact refDown_yes a b w h
  · rw [show downR a b = ([], 2) by unfold downR; rw [if_neg h]]
    exact refDown_no a b w (by simpa using h)

end Go.Proofs.YtocijpeminghoaaGreatDoor
