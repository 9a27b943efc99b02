/- The statements' helpers of layer 2, and what the calls answer at any input. -/
import Derived.Test.YtmidoifdcidjcaaDoorOrdB
import Derived.Test.YtmidoifdcidjcaaDoorOrdC
namespace Go.Proofs.YtmidoifdcidjcaaDoor
open Go.RowKit
set_option linter.unusedVariables false
set_option linter.unusedSimpArgs false

theorem key_all (s : ByteArray) (w : World) (hw : Sh w) :
    Calls Tryd.prog 12 #[.string s] w fun e w' => e = .returned (.tuple #[.string ⟨(keyR s.data.toList).1.toArray⟩, .int .i64 (keyR s.data.toList).2]) ∧ Gr w w' := by
  by_cases hs : s.size ≤ 1000
  · rw [show keyR s.data.toList = (keyL s.data.toList, 0) by unfold keyR; rw [if_pos (by simpa using hs)]]
    exact key_any s hs w hw
  · rw [show keyR s.data.toList = ([], 5) by unfold keyR; rw [if_neg (by simpa using hs)]]
    refine (key_long s (by omega) w).mono ?_
    rintro e w' ⟨rfl, rfl⟩
    exact ⟨rfl, Gr.refl _⟩
theorem refKey_all (s : ByteArray) (w : World) :
    Calls Tryd.prog 13 #[.string s] w fun e w' => e = .returned (.tuple #[.string ⟨(keyR s.data.toList).1.toArray⟩, .int .i64 (keyR s.data.toList).2]) ∧ Gr w w' := by
  by_cases hs : s.size ≤ 1000
  · rw [show keyR s.data.toList = (keyL s.data.toList, 0) by unfold keyR; rw [if_pos (by simpa using hs)]]
    exact refKey_any s hs w
  · rw [show keyR s.data.toList = ([], 5) by unfold keyR; rw [if_neg (by simpa using hs)]]
    refine (refKey_long s (by omega) w).mono ?_
    rintro e w' ⟨rfl, rfl⟩
    exact ⟨rfl, Gr.refl _⟩
theorem down_all (a b : Int) (w : World) :
    Calls Tryd.prog 22 #[.agg #[.int .i64 a, .int .i64 b]] w fun e w' => e = .returned (.tuple #[.string ⟨(downR a b).1.toArray⟩, .int .i64 (downR a b).2]) ∧ Gr w w' := by
  by_cases h : mayB a b = true
  · rw [show downR a b = (downL a b, 0) by unfold downR; rw [if_pos h]]
    exact down_yes a b w h
  · rw [show downR a b = ([], 2) by unfold downR; rw [if_neg h]]
    exact down_no a b w (by simpa using h)
theorem refDown_all (a b : Int) (w : World) :
    Calls Tryd.prog 24 #[.agg #[.int .i64 a, .int .i64 b]] w fun e w' => e = .returned (.tuple #[.string ⟨(downR a b).1.toArray⟩, .int .i64 (downR a b).2]) ∧ Gr w w' := by
  by_cases h : mayB a b = true
  · rw [show downR a b = (downL a b, 0) by unfold downR; rw [if_pos h]]
    exact refDown_yes a b w h
  · rw [show downR a b = ([], 2) by unfold downR; rw [if_neg h]]
    exact refDown_no a b w (by simpa using h)

theorem lawKey_any (s : ByteArray) (w : World) (hw : Sh w) :
    Calls Tryd.prog 20 #[.string s] w fun e w' => e = .returned (.string ⟨(keyF s.data.toList).toArray⟩) ∧ Gr w w' := by
  by_cases hs : s.size ≤ 1000
  · rw [show keyF s.data.toList = keyL s.data.toList by unfold keyF; rw [if_pos (by simpa using hs)]]
    go_enter Tryd.func20, Tryd.ntmps20
    go_wp2_with (go_at_call 12; refine (key_any _ hs _ hw).mono ?_; rintro e w1 ⟨rfl, hg⟩)
    go_ret
    exact ⟨rfl, (by repeat (first | (with_reducible exact Gr.refl _) | (with_reducible assumption) | (with_reducible refine Gr.alloc ?_ _) | (with_reducible refine Gr.drew ?_) | (with_reducible refine Gr.drewN ?_ _) | (with_reducible refine Gr.trans ?_ (by assumption)) | (with_reducible refine Gr.setCell ?_ (by first | exact Nat.le_refl _ | omega | (simp; done) | (simp; omega)) _)))⟩
  · rw [show keyF s.data.toList = [63] by unfold keyF; rw [if_neg (by simpa using hs)]]
    go_enter Tryd.func20, Tryd.ntmps20
    go_wp2_with (go_at_call 12; refine (key_long _ (by omega) _).mono ?_; rintro e w1 ⟨rfl, rfl⟩)
    go_ret
    exact ⟨rfl, (by repeat (first | (with_reducible exact Gr.refl _) | (with_reducible assumption) | (with_reducible refine Gr.alloc ?_ _) | (with_reducible refine Gr.drew ?_) | (with_reducible refine Gr.drewN ?_ _) | (with_reducible refine Gr.trans ?_ (by assumption)) | (with_reducible refine Gr.setCell ?_ (by first | exact Nat.le_refl _ | omega | (simp; done) | (simp; omega)) _)))⟩

set_option maxHeartbeats 1000000 in
theorem lawStamp_any (a b : Int) (ha : -9223372036854775808 ≤ a ∧ a ≤ 9223372036854775807) (hb : -9223372036854775808 ≤ b ∧ b ≤ 9223372036854775807) (w : World) :
    Calls Tryd.prog 21 #[.agg #[.int .i64 a, .int .i64 b]] w fun e w' => e = .returned (.agg #[.int .i64 (bringI a 1099511627777), .int .i64 (bringI b 1048576)]) ∧ Gr w w' := by
  go_enter Tryd.func21, Tryd.ntmps21
  go_wp2
  go_region_with (go_at_call 27; refine (bring_any _ _ (by omega) (by omega) _).mono ?_; rintro e w2 ⟨rfl, rfl⟩)
  all_goals go_wp2
  all_goals exact bodyPost_ret (v := .agg #[.int .i64 (bringI a 1099511627777), .int .i64 (bringI b 1048576)]) (by simp [results, Tryd.results21, go_sem]) rfl ⟨rfl, (by repeat (first | (with_reducible exact Gr.refl _) | (with_reducible assumption) | (with_reducible refine Gr.alloc ?_ _) | (with_reducible refine Gr.drew ?_) | (with_reducible refine Gr.drewN ?_ _) | (with_reducible refine Gr.trans ?_ (by assumption)) | (with_reducible refine Gr.setCell ?_ (by first | exact Nat.le_refl _ | omega | (simp; done) | (simp; omega)) _)))⟩

theorem works_any (w : World) (hw : Sh w) :
    Calls Tryd.prog 18 #[] w fun e w' => e = .returned (.bool true) ∧ Gr w w' := by
  have t1 : takeL [] [97, 0, 0, 5] = ([97], [5], 0) := by decide
  have d1 : downL 1099511627775 0 = [0, 0, 0, 0, 0, 1, 15, 255, 255] := by decide
  have k1 : keyF [97] = [97, 0, 0] := by decide
  have k2 : keyF [] = [0, 0] := by decide
  have k3 : keyF [0, 1] = [0, 1, 1, 0, 0] := by decide
  go_enter Tryd.func18, Tryd.ntmps18
  go_wp2_with (first
    | (go_at_call 14; refine (takeKey_any _ (by decide) _).mono ?_; rintro e w1 ⟨rfl, hg1⟩)
    | (go_at_call 22; refine (down_yes _ _ _ (by decide)).mono ?_; rintro e w2 ⟨rfl, hg2⟩)
    | (go_at_call 20; refine (lawKey_any _ _ (hw.gr (by repeat (first | (with_reducible exact Gr.refl _) | (with_reducible assumption) | (with_reducible refine Gr.alloc ?_ _) | (with_reducible refine Gr.drew ?_) | (with_reducible refine Gr.drewN ?_ _) | (with_reducible refine Gr.trans ?_ (by assumption)) | (with_reducible refine Gr.setCell ?_ (by first | exact Nat.le_refl _ | omega | (simp; done) | (simp; omega)) _))))).mono ?_; rintro e w3 ⟨rfl, hg3⟩))
  go_ret
  exact ⟨rfl, (by repeat (first | (with_reducible exact Gr.refl _) | (with_reducible assumption) | (with_reducible refine Gr.alloc ?_ _) | (with_reducible refine Gr.drew ?_) | (with_reducible refine Gr.drewN ?_ _) | (with_reducible refine Gr.trans ?_ (by assumption)) | (with_reducible refine Gr.setCell ?_ (by first | exact Nat.le_refl _ | omega | (simp; done) | (simp; omega)) _)))⟩

theorem ordKey_walk (s : ByteArray) (hs : s.size ≤ 140737488351232) (w : World) (hw : Sh w) :
    Calls Tryd.prog 3 #[.string s] w fun e w' => e = .returned (.bool true) ∧ Gr w w' := by
  go_enter Tryd.func3, Tryd.ntmps3
  go_wp2_with (first
    | (go_at_call 12; refine (key_all _ _ (hw.gr (by repeat (first | (with_reducible exact Gr.refl _) | (with_reducible assumption) | (with_reducible refine Gr.alloc ?_ _) | (with_reducible refine Gr.drew ?_) | (with_reducible refine Gr.drewN ?_ _) | (with_reducible refine Gr.trans ?_ (by assumption)) | (with_reducible refine Gr.setCell ?_ (by first | exact Nat.le_refl _ | omega | (simp; done) | (simp; omega)) _))))).mono ?_; rintro e w1 ⟨rfl, hg1⟩)
    | (go_at_call 13; refine (refKey_all _ _).mono ?_; rintro e w1 ⟨rfl, hg1⟩)
    | (go_at_call 14; refine (takeKey_any _ (by omega) _).mono ?_; rintro e w1 ⟨rfl, hg1⟩)
    | (go_at_call 15; refine (refTakeKey_any _ (by omega) _).mono ?_; rintro e w1 ⟨rfl, hg1⟩)
    | (go_at_call 16; refine (check_any _ _).mono ?_; rintro e w1 ⟨rfl, rfl⟩)
    | (go_at_call 17; refine (refCheck_any _ _).mono ?_; rintro e w1 ⟨rfl, rfl⟩)
    | (go_at_call 18; refine (works_any _ (hw.gr (by repeat (first | (with_reducible exact Gr.refl _) | (with_reducible assumption) | (with_reducible refine Gr.alloc ?_ _) | (with_reducible refine Gr.drew ?_) | (with_reducible refine Gr.drewN ?_ _) | (with_reducible refine Gr.trans ?_ (by assumption)) | (with_reducible refine Gr.setCell ?_ (by first | exact Nat.le_refl _ | omega | (simp; done) | (simp; omega)) _))))).mono ?_; rintro e w1 ⟨rfl, hg1⟩))
  go_ret
  exact ⟨rfl, (by repeat (first | (with_reducible exact Gr.refl _) | (with_reducible assumption) | (with_reducible refine Gr.alloc ?_ _) | (with_reducible refine Gr.drew ?_) | (with_reducible refine Gr.drewN ?_ _) | (with_reducible refine Gr.trans ?_ (by assumption)) | (with_reducible refine Gr.setCell ?_ (by first | exact Nat.le_refl _ | omega | (simp; done) | (simp; omega)) _)))⟩
end Go.Proofs.YtmidoifdcidjcaaDoor
