/- The document's keys: VersionKey, IntentKey. -/
import Derived.Test.YtocijpeminghoaaGreatDoorCelL
import Derived.Test.YtocijpeminghoaaGreatDoorOrdD
namespace Go.Proofs.YtocijpeminghoaaGreatDoor
open Go.RowKit
set_option maxRecDepth 100000
set_option linter.unusedVariables false
set_option linter.unusedSimpArgs false
set_option linter.unnecessarySimpa false

theorem refIntentKey_any (s : ByteArray) (w : World) : Calls Tryz.prog 23 #[.string s] w fun e w' => e = .returned (.tuple #[.string ⟨(intentKeyR s.data.toList).1.toArray⟩, .int .i64 (intentKeyR s.data.toList).2]) ∧ Gr w w' := by
  have HK := Lib.hid (fun w => refKey_all s w)
  have HA := Lib.hid (str_append [105] (keyL s.data.toList))
  rcases keyR_cases s.data.toList with ⟨h1, h2⟩ | ⟨h1, h2⟩
  · have ht : intentKeyR s.data.toList = (105 :: keyL s.data.toList, 0) := by unfold intentKeyR; rw [if_pos h1]
    have hl1 := keyL_len _ h1
    rw [ht]
    rw [h2] at HK
    clear ht h2
    go_enter Tryz.func23, Tryz.ntmps23
    go_wp2_with (go_at_call 45; refine (HK.out _).mono ?_; rintro e w1 ⟨rfl, hg1⟩)
    go_ret2
    exact ⟨by rw [show (⟨(105 :: keyL s.data.toList).toArray⟩ : ByteArray) = _ from HA.out.symm]; rfl, hg1⟩
  · have ht : intentKeyR s.data.toList = ([], 2) := by unfold intentKeyR; rw [if_neg (by omega)]
    rw [ht]
    rw [h2] at HK
    clear ht h2
    go_enter Tryz.func23, Tryz.ntmps23
    go_wp2_with (go_at_call 45; refine (HK.out _).mono ?_; rintro e w1 ⟨rfl, hg1⟩)
    go_ret2
    exact ⟨rfl, hg1⟩
theorem refVersionKey_any (s : ByteArray) (a b : Int) (w : World) : Calls Tryz.prog 20 #[.string s, .agg #[.int .i64 a, .int .i64 b]] w fun e w' => e = .returned (.tuple #[.string ⟨(versionKeyR s.data.toList a b).1.toArray⟩, .int .i64 (versionKeyR s.data.toList a b).2]) ∧ Gr w w' := by
  have HK := Lib.hid (fun w => refKey_all s w)
  have HD := Lib.hid (fun w => refDown_all a b w)
  have HA := Lib.hid (str_append [118] (keyL s.data.toList))
  have HB := Lib.hid (str_append (118 :: keyL s.data.toList) (downL a b))
  rcases keyR_cases s.data.toList with ⟨h1, h2⟩ | ⟨h1, h2⟩ <;> rcases downR_cases a b with ⟨g1, g2⟩ | ⟨g1, g2⟩
  · have ht : versionKeyR s.data.toList a b = (118 :: (keyL s.data.toList ++ downL a b), 0) := by unfold versionKeyR; rw [if_pos ⟨h1, g1⟩]
    have hl1 := keyL_len _ h1
    have hl2 := downL_len a b
    have hl3 : (downL a b).length ≤ 9 := by omega
    rw [ht]
    rw [h2] at HK
    rw [g2] at HD
    clear ht g1 hl2
    clear h2 g2
    go_enter Tryz.func20, Tryz.ntmps20
    go_wp2_with (first
      | (go_at_call 45; refine (HK.out _).mono ?_; rintro e w1 ⟨rfl, hg1⟩; (have hX := hg1.blk (heap_alloc_new w (Obj.cells #[.int .i64 a, .int .i64 b] 24))); obtain ⟨k_0, k_1, g_0, g_1, l_0⟩ := blk2 hX; clear hX)
      | (go_at_call 46; refine (HD.out _).mono ?_; rintro e w2 ⟨rfl, hg2⟩))
    go_ret2
    exact ⟨by rw [show (⟨(118 :: (keyL s.data.toList ++ downL a b)).toArray⟩ : ByteArray) = _ from HB.out.symm]; rw [show (⟨(118 :: keyL s.data.toList).toArray⟩ : ByteArray) = _ from HA.out.symm]; rfl, (((Gr.refl w).alloc _).trans hg1).trans hg2⟩
  all_goals
    have ht : versionKeyR s.data.toList a b = ([], 2) := by unfold versionKeyR; rw [if_neg (by rintro ⟨h, h'⟩; first | omega | (rw [g1] at h'; simp at h'))]
    rw [ht]
    rw [h2] at HK
    rw [g2] at HD
    clear ht g1
    clear h2 g2
    go_enter Tryz.func20, Tryz.ntmps20
    go_wp2_with (first
      | (go_at_call 45; refine (HK.out _).mono ?_; rintro e w1 ⟨rfl, hg1⟩; (have hX := hg1.blk (heap_alloc_new w (Obj.cells #[.int .i64 a, .int .i64 b] 24))); obtain ⟨k_0, k_1, g_0, g_1, l_0⟩ := blk2 hX; clear hX)
      | (go_at_call 46; refine (HD.out _).mono ?_; rintro e w2 ⟨rfl, hg2⟩))
    go_ret2
    exact ⟨rfl, (((Gr.refl w).alloc _).trans hg1).trans hg2⟩
end Go.Proofs.YtocijpeminghoaaGreatDoor
