/- Layer 15: the chapter's table, all keys, a stamp. -/
import Derived.Test.YtocijpeminghoaaDoorLdB
import Derived.Test.YtocijpeminghoaaDoorSweC
import Derived.Test.YtocijpeminghoaaDoorCelX
import Derived.IntWalk
import Derived.Handy
namespace Go.Proofs.YtocijpeminghoaaDoor
open Go.RowKit
set_option maxRecDepth 100000
set_option linter.unusedVariables false
set_option linter.unusedSimpArgs false
set_option linter.unnecessarySimpa false

theorem at15 (n : Int) (w : World) : Calls Tryd.prog 7 #[.int .i64 n] w fun e w' => e = .returned (.agg #[.int .i64 n, .int .i64 0]) ∧ Gr w w' := by
  go_enter Tryd.func7, Tryd.ntmps7
  go_wp2
  go_returns
  exact ⟨rfl, (by repeat (first | (with_reducible exact Gr.refl _) | (with_reducible assumption) | (with_reducible refine Gr.alloc ?_ _) | (with_reducible refine Gr.drew ?_) | (with_reducible refine Gr.drewN ?_ _) | (with_reducible refine Gr.trans ?_ (by assumption)) | (with_reducible refine Gr.setCell ?_ (by first | exact Nat.le_refl _ | omega | (simp; done) | (simp; omega)) _)))⟩
def hiK : ByteArray := ⟨(Lib.repeatL [255] 33).toArray⟩
theorem all15 (w : World) : Calls Tryd.prog 6 #[] w fun e w' => e = .returned (.agg #[.string ⟨#[]⟩, .string hiK]) ∧ Gr w w' := by
  have HR := Lib.hid (Tryd.strings_Repeat ⟨#[255]⟩ 33 (w.alloc (.cells #[.string ⟨#[]⟩, .string ⟨#[]⟩] 29)) (by decide) (by decide))
  go_enter Tryd.func6, Tryd.ntmps6
  go_wp2_with fail
  refine HR.out.mono ?_
  rintro e w1 ⟨rfl, hb⟩
  have hg : Gr (w.alloc (.cells #[.string ⟨#[]⟩, .string ⟨#[]⟩] 29)) w1 := Gr.of hb
  have HG := Lib.hid (((Gr.refl w).alloc _).trans hg)
  have HB := Lib.hid (hg.blk (heap_alloc_new w _))
  clear hb hg
  obtain ⟨k_0, k_1, _, _, _⟩ := blk2 HB.out
  have hW : ((w1.setCell ⟨w.heap.size, 0, none⟩ (.string ⟨#[]⟩)).setCell ⟨w.heap.size, 1, none⟩ (.string hiK)).heap[w.heap.size]? = some (.cells #[.string ⟨#[]⟩, .string hiK] 29) := by simpa using heap_set (heap_set HB.out 0 (.string ⟨#[]⟩)) 1 (.string hiK)
  have HGf : Hid (Gr w ((w1.setCell ⟨w.heap.size, 0, none⟩ (.string ⟨#[]⟩)).setCell ⟨w.heap.size, 1, none⟩ (.string hiK))) := Lib.hid ((HG.out.setCell (Nat.le_refl _) _).setCell (Nat.le_refl _) _)
  have HW := Lib.hid hW
  clear hW
  go_wp2
  refine bodyPost_ret (v := .agg #[.string ⟨#[]⟩, .string hiK]) ?_ rfl ⟨rfl, HGf.out⟩
  exact results_cell_row rfl _ _ _ _ _ _ _ rfl HW.out Tryd.underlying29 rfl (by kernel_rfl)
def chapL : List Cl := [⟨0, ⟨#[97]⟩, 10, 0, false, ⟨#[120]⟩⟩, ⟨0, ⟨#[97]⟩, 20, 0, false, ⟨#[121]⟩⟩, ⟨0, ⟨#[97]⟩, 30, 0, true, ⟨#[]⟩⟩, ⟨0, ⟨#[97]⟩, 40, 0, false, ⟨#[122]⟩⟩, ⟨0, ⟨#[98]⟩, 10, 0, false, ⟨#[120]⟩⟩]
theorem chap_rdc {g : Nat} {w : World} (h : w.heap[g]? = some (.cells (chapL.flatMap clC).toArray 41)) : RdC w (.slice (some ⟨g, 0, none⟩) 5 5) chapL := by
  refine .inr ⟨g, 0, 5, rfl, by decide, by decide, by decide, (Array.getElem?_eq_some_iff.1 h).1, fun i hi => ?_⟩
  have hi5 : i < 5 := hi
  refine ⟨_, rfl, fun j hj => ?_, rfl⟩
  have hj6 : j < 6 := hj
  simp only [World.cell?, h]
  obtain rfl | rfl | rfl | rfl | rfl : i = 0 ∨ i = 1 ∨ i = 2 ∨ i = 3 ∨ i = 4 := by omega
  all_goals (obtain rfl | rfl | rfl | rfl | rfl | rfl : j = 0 ∨ j = 1 ∨ j = 2 ∨ j = 3 ∨ j = 4 ∨ j = 5 := by omega) <;> rfl
def chapR : List Rw := laidR chapL
set_option maxHeartbeats 4000000 in
theorem chapter15 (w : World) : Calls Tryd.prog 4 #[] w fun e w' => ∃ ta, e = .returned (.pointer (some ⟨ta, 0, none⟩)) ∧ TabAt ta (fun k => w.heap.size ≤ k) chapR w' ∧ Gr w w' := by
  go_enter Tryd.func4, Tryd.ntmps4
  go_wp2_with fail
  refine (at15 10 _).mono ?_
  rintro e w1 ⟨rfl, hg1⟩
  have HG1 := Lib.hid hg1
  clear hg1
  go_wp2_with fail
  refine (at15 20 _).mono ?_
  rintro e w2 ⟨rfl, hg2⟩
  have HG2 := Lib.hid (HG1.out.trans hg2)
  clear hg2
  go_wp2_with fail
  refine (at15 30 _).mono ?_
  rintro e w3 ⟨rfl, hg3⟩
  have HG3 := Lib.hid (HG2.out.trans hg3)
  clear hg3
  go_wp2_with fail
  refine (at15 40 _).mono ?_
  rintro e w4 ⟨rfl, hg4⟩
  have HG4 := Lib.hid (HG3.out.trans hg4)
  clear hg4
  go_wp2_with fail
  refine (at15 10 _).mono ?_
  rintro e w5 ⟨rfl, hg5⟩
  have HG5 := Lib.hid (HG4.out.trans hg5)
  have HRd := Lib.hid (chap_rdc (heap_alloc_new w5 (.cells (chapL.flatMap clC).toArray 41)))
  clear hg5
  go_wp2_with fail
  refine (laid_any HRd.out (by decide) (by decide)).mono ?_
  rintro e w6 ⟨ta, tb, rfl, h6, hg6⟩
  have HG6 := Lib.hid ((HG5.out.alloc _).trans hg6)
  have HT6 := Lib.hid (h6.a.mono (S' := fun k => w.heap.size ≤ k) (fun k hk => by have h1 := HG5.out.size; have h2 := hk.1; simp only [World.alloc, Array.size_push] at h2; omega))
  clear hg6 h6
  go_wp2
  go_ret
  exact ⟨ta, rfl, HT6.out, HG6.out⟩
end Go.Proofs.YtocijpeminghoaaDoor
