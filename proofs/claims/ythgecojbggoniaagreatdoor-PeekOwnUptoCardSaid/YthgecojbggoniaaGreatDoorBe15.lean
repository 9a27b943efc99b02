/- What the rows stand on, part 15: CelE. Printed by bundle.py out of my texts. -/
import Derived.Test.YthgecojbggoniaaGreatDoorBe14
namespace Go.Proofs.YthgecojbggoniaaGreatDoor
open Go.RowKit
set_option maxRecDepth 100000
set_option linter.unusedVariables false
set_option linter.unusedSimpArgs false

theorem empty_size (s : ByteArray) : s.toList.isEmpty = decide (s.size = 0) := by
  rw [ByteArray.toList_eq]
  show s.data.toList.isEmpty = decide (s.data.size = 0)
  rw [← Array.length_toList]
  cases s.data.toList <;> simp

set_option maxHeartbeats 4000000 in
set_option maxRecDepth 100000 in
theorem refVersion_any (s : ByteArray) (is : Bool) (w : World) :
    Calls Tryz.prog 47 #[.string s, .bool is] w fun e w' => e = .returned (.tuple #[.string ⟨(versionW s.data.toList is).toArray⟩, .int .i64 (versionE s.data.toList is)]) ∧ Gr w w' := by
  have hl : s.data.toList.length = s.size := Array.length_toList
  have h1 := numW_length 1
  have h0 := numW_length 0
  have h2 := strW_length s.data.toList
  have hem := empty_size s
  cases is with
  | true =>
    by_cases h64 : s.size ≤ 64
    · have e1 : versionW s.data.toList true = numW 1 ++ strW s.data.toList := by simp [versionW, okV, hl, h64]
      have e2 : versionE s.data.toList true = 0 := by simp [versionE, okV, hl, h64]
      rw [e1, e2]
      go_enter Tryz.func47, Tryz.ntmps47
      go_wp2_with fail
      go_region_with (first
        | (go_at_call 77; refine (refNumb_any 1 _).mono ?_; rintro e wa ⟨va, rfl, howna, hga⟩; have hca := conv_rd howna.rd; try (have hcb2 := conv_rd (hownb.gr hga).rd))
        | (go_at_call 78; refine (refStrb_any s _).mono ?_; rintro e wb ⟨vb, rfl, hownb, hgb⟩; have hcb := conv_rd hownb.rd; try (have hca2 := conv_rd (howna.gr hgb).rd)))
      all_goals (go_wp2; go_ret2; exact ⟨by rw [str_append]; rfl, (by repeat (first | (with_reducible exact Gr.refl _) | (with_reducible assumption) | (with_reducible refine Gr.alloc ?_ _) | (with_reducible refine Gr.drew ?_) | (with_reducible refine Gr.drewN ?_ _) | (with_reducible refine Gr.trans ?_ (by assumption)) | (with_reducible refine Gr.setCell ?_ (by first | exact Nat.le_refl _ | omega | (simp; done) | (simp; omega)) _)))⟩)
    · have e1 : versionW s.data.toList true = [] := by simp [versionW, okV, hl, h64]
      have e2 : versionE s.data.toList true = 2 := by simp [versionE, okV, hl, h64]
      rw [e1, e2]
      go_enter Tryz.func47, Tryz.ntmps47
      go_wp2
      go_ret2
      exact ⟨rfl, (by repeat (first | (with_reducible exact Gr.refl _) | (with_reducible assumption) | (with_reducible refine Gr.alloc ?_ _) | (with_reducible refine Gr.drew ?_) | (with_reducible refine Gr.drewN ?_ _) | (with_reducible refine Gr.trans ?_ (by assumption)) | (with_reducible refine Gr.setCell ?_ (by first | exact Nat.le_refl _ | omega | (simp; done) | (simp; omega)) _)))⟩
  | false =>
    by_cases hz : s.size = 0
    · have hs : s = ⟨#[]⟩ := by
        apply ba_ext
        rw [List.eq_nil_of_length_eq_zero (hl.trans hz)]
      subst hs
      have e1 : versionW [] false = numW 0 := by simp [versionW, okV]
      have e2 : versionE [] false = 0 := by simp [versionE, okV]
      show Calls _ _ _ _ fun e w' => e = .returned (.tuple #[.string ⟨(versionW [] false).toArray⟩, .int .i64 (versionE [] false)]) ∧ Gr w w'
      rw [e1, e2]
      clear hem
      go_enter Tryz.func47, Tryz.ntmps47
      go_wp2_with (go_at_call 77; refine (refNumb_any 0 _).mono ?_; rintro e wa ⟨va, rfl, howna, hga⟩; have hca := conv_rd howna.rd)
      go_ret2
      exact ⟨rfl, hga⟩
    · have hne : s.data.toList ≠ [] := by
        intro h
        rw [h] at hl
        exact hz hl.symm
      have e1 : versionW s.data.toList false = [] := by
        simp [versionW, okV]
        intro _ h; exact absurd (by simpa using h) hne
      have e2 : versionE s.data.toList false = 2 := by
        simp [versionE, okV]
        intro _ h; exact absurd (by simpa using h) hne
      have hbe : (s == ⟨#[]⟩) = false := by
        cases hb : s == ⟨#[]⟩ with
        | false => rfl
        | true =>
          exfalso
          have : (s.data == #[]) = true := hb
          simp at this
          exact hne (by simp [this])
      have hse : s.toList.isEmpty = false := by rw [hem]; simpa using hz
      rw [e1, e2]
      go_enter Tryz.func47, Tryz.ntmps47
      go_wp2
      all_goals (go_ret2; exact ⟨rfl, (by repeat (first | (with_reducible exact Gr.refl _) | (with_reducible assumption) | (with_reducible refine Gr.alloc ?_ _) | (with_reducible refine Gr.drew ?_) | (with_reducible refine Gr.drewN ?_ _) | (with_reducible refine Gr.trans ?_ (by assumption)) | (with_reducible refine Gr.setCell ?_ (by first | exact Nat.le_refl _ | omega | (simp; done) | (simp; omega)) _)))⟩)
end Go.Proofs.YthgecojbggoniaaGreatDoor
