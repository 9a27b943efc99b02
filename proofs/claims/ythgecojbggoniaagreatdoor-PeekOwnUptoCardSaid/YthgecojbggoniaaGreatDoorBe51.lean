/- What the rows stand on, part 51: PekV. Printed by bundle.py out of my texts. -/
import Derived.Test.YthgecojbggoniaaGreatDoorBe06
import Derived.Test.YthgecojbggoniaaGreatDoorBe18
import Derived.Test.YthgecojbggoniaaGreatDoorBe24
import Derived.Test.YthgecojbggoniaaGreatDoorBe41
import Derived.Test.YthgecojbggoniaaGreatDoorBe46
import Derived.Test.YthgecojbggoniaaGreatDoorBe47
import Derived.Test.YthgecojbggoniaaGreatDoorBe48
import Derived.Test.YthgecojbggoniaaGreatDoorBe50
import Derived.StillTailTactics
namespace Go.Proofs.YthgecojbggoniaaGreatDoor
open Go.RowKit
set_option maxRecDepth 100000
set_option linter.unusedVariables false
set_option linter.unusedSimpArgs false
set_option linter.unnecessarySimpa false

theorem lawMay12 (x : Tx) (w : World) : Calls Tryz.prog 9 #[.agg (txC x)] w fun e w' => e = .returned (.bool (mayT x)) ∧ Gr w w' := by
  have HM := Lib.hid (refMay12 x)
  have hb := heap_alloc_new w (.cells (txC x) 28)
  unfold txC at hb HM ⊢
  obtain ⟨k_0, k_1, k_2, k_3, k_4, k_5, k_6, k_7, k_8, k_9, k_10, k_11, _, _, _, _, _, _, _, _, _, _, _, _, _⟩ := blk12 hb
  clear hb
  go_enter Tryz.func9, Tryz.ntmps9
  go_wp2_with (go_at_call 30; refine (HM.out _).mono ?_; rintro e w1 ⟨rfl, hg1⟩)
  go_ret
  exact ⟨rfl, (by repeat (first | (with_reducible exact Gr.refl _) | (with_reducible assumption) | (with_reducible refine Gr.alloc ?_ _) | (with_reducible refine Gr.drew ?_) | (with_reducible refine Gr.drewN ?_ _) | (with_reducible refine Gr.trans ?_ (by assumption)) | (with_reducible refine Gr.setCell ?_ (by first | exact Nat.le_refl _ | omega | (simp; done) | (simp; omega)) _)))⟩
end Go.Proofs.YthgecojbggoniaaGreatDoor
