/- Layer 15: the chapter's examples. -/
import Derived.Test.YtocijpeminghoaaDoorLdD
namespace Go.Proofs.YtocijpeminghoaaDoor
open Go.RowKit
set_option maxRecDepth 100000
set_option linter.unusedVariables false
set_option linter.unusedSimpArgs false
set_option linter.unnecessarySimpa false

theorem RdJ.lit {g : Nat} {w : World} {l : List Int} {t : TypeId} (hl : 1 ≤ l.length) (hl2 : l.length ≤ 1000) (h : w.heap[g]? = some (.cells (l.map (Value.int .i64)).toArray t)) : RdJ w (.slice (some ⟨g, 0, none⟩) l.length l.length) l := by
  refine .inr ⟨g, 0, l.length, rfl, hl, Nat.le_refl _, by unfold maxLen; omega, (Array.getElem?_eq_some_iff.1 h).1, fun i hi => ?_⟩
  refine ⟨_, rfl, fun j hj => ?_, rfl⟩
  obtain rfl : j = 0 := by simpa using hj
  simp only [World.cell?, h]
  simp [List.getElem?_eq_getElem hi]
theorem RdJ.nil (w : World) : RdJ w (.slice none 0 0) [] := .inl ⟨rfl, none, 0, rfl, by decide, fun _ => rfl⟩
theorem g25 : goesL 25 = [10].map goL := by kernel_rfl
theorem g20 : goesL 20 = [10].map goL := by kernel_rfl
theorem g9 : goesL 9 = [].map goL := by kernel_rfl
theorem g30 : goesL 30 = [30, 20, 10].map goL := by kernel_rfl
theorem g35 : goesL 35 = [30, 20, 10].map goL := by kernel_rfl
theorem g40 : goesL 40 = [30, 20, 10].map goL := by kernel_rfl
theorem ok1 : ∀ x ∈ ([10] : List Int), (versionKeyR [97] x 0).2 = 0 := by
  intro x hx
  obtain rfl : x = 10 := by simpa using hx
  kernel_rfl
theorem ok3 : ∀ x ∈ ([30, 20, 10] : List Int), (versionKeyR [97] x 0).2 = 0 := by
  intro x hx
  simp only [List.mem_cons, List.not_mem_nil, or_false] at hx
  rcases hx with rfl | rfl | rfl <;> kernel_rfl
theorem works15 {w : World} (hw : Sh w) : Calls Tryd.prog 10 #[] w fun e w' => e = .returned (.bool true) ∧ Gr w w' := by
  have HSh := Lib.hid hw
  have HG := Lib.hid (Gr.refl w)
  clear hw
  go_enter Tryd.func10, Tryd.ntmps10
  go_wp2_with fail
  refine (takes15 25 [10] (HSh.out.gr (HG.out.alloc _)) (RdJ.lit (l := [10]) (by decide) (by decide) (heap_alloc_new _ _)) (by decide) g25 ok1 (by decide)).mono ?_
  rintro e w1 ⟨rfl, hg1⟩
  replace HG := Lib.hid ((HG.out.alloc _).trans hg1)
  clear hg1
  go_wp2_with fail
  refine (takes15 20 [10] (HSh.out.gr (HG.out.alloc _)) (RdJ.lit (l := [10]) (by decide) (by decide) (heap_alloc_new _ _)) (by decide) g20 ok1 (by decide)).mono ?_
  rintro e w1 ⟨rfl, hg1⟩
  replace HG := Lib.hid ((HG.out.alloc _).trans hg1)
  clear hg1
  go_wp2_with fail
  refine (takes15 9 [] (HSh.out.gr HG.out) (RdJ.nil _) (by decide) g9 (by simp) (by decide)).mono ?_
  rintro e w1 ⟨rfl, hg1⟩
  replace HG := Lib.hid (HG.out.trans hg1)
  clear hg1
  go_wp2_with fail
  refine (takes15 30 [30, 20, 10] (HSh.out.gr (HG.out.alloc _)) (RdJ.lit (l := [30, 20, 10]) (by decide) (by decide) (heap_alloc_new _ _)) (by decide) g30 ok3 (by decide)).mono ?_
  rintro e w1 ⟨rfl, hg1⟩
  replace HG := Lib.hid ((HG.out.alloc _).trans hg1)
  clear hg1
  go_wp2_with fail
  refine (takes15 35 [30, 20, 10] (HSh.out.gr (HG.out.alloc _)) (RdJ.lit (l := [30, 20, 10]) (by decide) (by decide) (heap_alloc_new _ _)) (by decide) g35 ok3 (by decide)).mono ?_
  rintro e w1 ⟨rfl, hg1⟩
  replace HG := Lib.hid ((HG.out.alloc _).trans hg1)
  clear hg1
  go_wp2_with fail
  refine (takes15 40 [30, 20, 10] (HSh.out.gr (HG.out.alloc _)) (RdJ.lit (l := [30, 20, 10]) (by decide) (by decide) (heap_alloc_new _ _)) (by decide) g40 ok3 (by decide)).mono ?_
  rintro e w1 ⟨rfl, hg1⟩
  replace HG := Lib.hid ((HG.out.alloc _).trans hg1)
  clear hg1
  go_wp2
  go_ret
  exact ⟨rfl, HG.out⟩
end Go.Proofs.YtocijpeminghoaaDoor
