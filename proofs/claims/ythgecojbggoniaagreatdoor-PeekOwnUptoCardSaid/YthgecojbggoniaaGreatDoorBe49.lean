/- What the rows stand on, part 49: PekG. Printed by bundle.py out of my texts. -/
import Derived.Test.YthgecojbggoniaaGreatDoorBe01
import Derived.Test.YthgecojbggoniaaGreatDoorBe16
import Derived.Test.YthgecojbggoniaaGreatDoorBe17
import Derived.Test.YthgecojbggoniaaGreatDoorBe19
import Derived.Test.YthgecojbggoniaaGreatDoorBe24
import Derived.Test.YthgecojbggoniaaGreatDoorBe30
import Derived.Test.YthgecojbggoniaaGreatDoorBe38
import Derived.Test.YthgecojbggoniaaGreatDoorBe39
import Derived.Test.YthgecojbggoniaaGreatDoorBe44
import Derived.Laws.ResultCell
namespace Go.Proofs.YthgecojbggoniaaGreatDoor
open Go.RowKit
set_option maxRecDepth 100000
set_option linter.unusedVariables false
set_option linter.unusedSimpArgs false
set_option linter.unnecessarySimpa false

set_option maxHeartbeats 4000000 in
theorem refMay12 (x : Tx) (w : World) : Calls Tryz.prog 30 #[.agg (txC x)] w fun e w' => e = .returned (.bool (mayT x)) ∧ Gr w w' := by
  have HM : Hid (mayT x = (idsB x && (mayB x.rw x.rl && mayB x.lw x.ll))) := Lib.hid rfl
  have HC1 := Lib.hid (fun w => refStampCheck_ck x.rw x.rl w)
  have HC2 := Lib.hid (fun w => refStampCheck_ck x.lw x.ll w)
  have hb0 := heap_alloc_new w (.cells (txC x) 28)
  unfold txC at *
  have HB := Lib.hid hb0
  obtain ⟨k_0, k_1, k_2, k_3, k_4, k_5, k_6, k_7, k_8, k_9, k_10, k_11, _, _, _, _, _, _, _, _, _, _, _, _, _⟩ := blk12 hb0
  clear hb0
  by_cases hid : 1 ≤ x.id ∧ x.id ≤ 9007199254740991 ∧ 0 ≤ x.ep ∧ x.ep ≤ 9007199254740991
  · have HI : Hid (idsB x = true) := Lib.hid (decide_eq_true hid)
    obtain ⟨i1, i2, i3, i4⟩ := hid
    cases h1 : mayB x.rw x.rl with
    | false =>
      have hs : stampCk x.rw x.rl = 9 := by simp [stampCk, h1]
      have HR : Hid (mayT x = false) := Lib.hid (by rw [HM.out, h1]; simp)
      rw [hs] at HC1
      go_enter Tryz.func30, Tryz.ntmps30
      go_wp2_with (go_at_call 40; refine (HC1.out _).mono ?_; rintro e w1 ⟨rfl, hg1⟩)
      go_ret
      exact ⟨by rw [HR.out]; rfl, (by repeat (first | (with_reducible exact Gr.refl _) | (with_reducible assumption) | (with_reducible refine Gr.alloc ?_ _) | (with_reducible refine Gr.drew ?_) | (with_reducible refine Gr.drewN ?_ _) | (with_reducible refine Gr.trans ?_ (by assumption)) | (with_reducible refine Gr.setCell ?_ (by first | exact Nat.le_refl _ | omega | (simp; done) | (simp; omega)) _)))⟩
    | true =>
      have hs : stampCk x.rw x.rl = 0 := by simp [stampCk, h1]
      rw [hs] at HC1
      cases h2 : mayB x.lw x.ll with
      | false =>
        have hs2 : stampCk x.lw x.ll = 9 := by simp [stampCk, h2]
        rw [hs2] at HC2
        have HR : Hid (mayT x = false) := Lib.hid (by rw [HM.out, h2]; simp)
        go_enter Tryz.func30, Tryz.ntmps30
        go_wp2_with fail
        refine (HC1.out _).mono ?_
        rintro e w1 ⟨rfl, hg1⟩
        have HG := Lib.hid (((Gr.refl w).alloc _).trans hg1)
        clear k_0 k_1 k_2 k_3 k_4 k_5 k_6 k_7 k_8 k_9 k_10 k_11
        obtain ⟨k_0, k_1, k_2, k_3, k_4, k_5, k_6, k_7, k_8, k_9, k_10, k_11, _, _, _, _, _, _, _, _, _, _, _, _, _⟩ := blk12 (hg1.blk HB.out)
        go_wp2_with (go_at_call 40; refine (HC2.out _).mono ?_; rintro e w2 ⟨rfl, hg2⟩)
        go_ret
        exact ⟨by rw [HR.out]; rfl, HG.out.trans hg2⟩
      | true =>
        have hs2 : stampCk x.lw x.ll = 0 := by simp [stampCk, h2]
        rw [hs2] at HC2
        have HR : Hid (mayT x = true) := Lib.hid (by rw [HM.out, HI.out, h1, h2]; rfl)
        go_enter Tryz.func30, Tryz.ntmps30
        go_wp2_with fail
        refine (HC1.out _).mono ?_
        rintro e w1 ⟨rfl, hg1⟩
        have HG := Lib.hid (((Gr.refl w).alloc _).trans hg1)
        clear k_0 k_1 k_2 k_3 k_4 k_5 k_6 k_7 k_8 k_9 k_10 k_11
        obtain ⟨k_0, k_1, k_2, k_3, k_4, k_5, k_6, k_7, k_8, k_9, k_10, k_11, _, _, _, _, _, _, _, _, _, _, _, _, _⟩ := blk12 (hg1.blk HB.out)
        go_wp2_with (go_at_call 40; refine (HC2.out _).mono ?_; rintro e w2 ⟨rfl, hg2⟩)
        go_ret
        exact ⟨by rw [HR.out]; rfl, HG.out.trans hg2⟩
  · have HI : Hid (idsB x = false) := Lib.hid (decide_eq_false hid)
    have HR : Hid (mayT x = false) := Lib.hid (by rw [HM.out, HI.out]; rfl)
    have hor : ¬ 1 ≤ x.id ∨ (1 ≤ x.id ∧ ¬ x.id ≤ 9007199254740991) ∨ ((1 ≤ x.id ∧ x.id ≤ 9007199254740991) ∧ ¬ 0 ≤ x.ep) ∨ ((1 ≤ x.id ∧ x.id ≤ 9007199254740991) ∧ 0 ≤ x.ep ∧ ¬ x.ep ≤ 9007199254740991) := by omega
    clear hid
    rcases hor with i1 | ⟨i1, i2⟩ | ⟨⟨i1, i2⟩, i3⟩ | ⟨⟨i1, i2⟩, i3, i4⟩
    all_goals
      go_enter Tryz.func30, Tryz.ntmps30
      go_wp2
      go_ret
      exact ⟨by rw [HR.out]; rfl, (by repeat (first | (with_reducible exact Gr.refl _) | (with_reducible assumption) | (with_reducible refine Gr.alloc ?_ _) | (with_reducible refine Gr.drew ?_) | (with_reducible refine Gr.drewN ?_ _) | (with_reducible refine Gr.trans ?_ (by assumption)) | (with_reducible refine Gr.setCell ?_ (by first | exact Nat.le_refl _ | omega | (simp; done) | (simp; omega)) _)))⟩
end Go.Proofs.YthgecojbggoniaaGreatDoor
