/- What the rows stand on, part 16: OrdB. Printed by bundle.py out of my texts. -/
import Derived.Test.YthgecojbggoniaaGreatDoorBd03
namespace Go.Proofs.YthgecojbggoniaaGreatDoor
open Go.RowKit
set_option maxRecDepth 100000
set_option linter.unusedVariables false
set_option linter.unusedSimpArgs false

theorem refDown_no (a b : Int) (w : World) (h : mayB a b = false) :
    Calls Tryz.prog 76 #[.agg #[.int .i64 a, .int .i64 b]] w fun e w' => e = .returned (.tuple #[.string ⟨#[]⟩, .int .i64 2]) ∧ Gr w w' := by
  go_enter Tryz.func76, Tryz.ntmps76
  go_wp2_with (go_at_call 94; refine (refMay_any _ _ _).mono ?_; rintro e w1 ⟨rfl, hg⟩)
  go_ret2
  exact ⟨rfl, (by repeat (first | (with_reducible exact Gr.refl _) | (with_reducible assumption) | (with_reducible refine Gr.alloc ?_ _) | (with_reducible refine Gr.drew ?_) | (with_reducible refine Gr.drewN ?_ _) | (with_reducible refine Gr.trans ?_ (by assumption)) | (with_reducible refine Gr.setCell ?_ (by first | exact Nat.le_refl _ | omega | (simp; done) | (simp; omega)) _)))⟩

set_option maxHeartbeats 2000000 in
theorem refDown_yes (a b : Int) (w : World) (h : mayB a b = true) :
    Calls Tryz.prog 76 #[.agg #[.int .i64 a, .int .i64 b]] w fun e w' => e = .returned (.tuple #[.string ⟨(downL a b).toArray⟩, .int .i64 0]) ∧ Gr w w' := by
  have hb := of_decide_eq_true h
  obtain ⟨h1, h2, h3, h4⟩ := hb
  have hw1 : IntKind.i64.wrap (1099511627776 - a) = 1099511627776 - a := IntWalk.i64_in _ (by omega)
  have hw2 : IntKind.i64.wrap (1048575 - b) = 1048575 - b := IntWalk.i64_in _ (by omega)
  go_enter Tryz.func76, Tryz.ntmps76
  go_wp2_with (go_at_call 94; refine (refMay_any _ _ _).mono ?_; rintro e w1 ⟨rfl, hg⟩; have hb1 : w1.heap[w.heap.size]? = some (.cells #[.int .i64 a, .int .i64 b] 26) := hg.blk (by repeat (first | (with_reducible assumption) | (with_reducible exact heap_alloc_new _ _) | (with_reducible refine heap_drew ?_) | (with_reducible refine heap_newn ?_; (first | rfl | (simp; done))) | (with_reducible refine heap_alloc_mono ?_ _))); obtain ⟨c0, c1, f0, f1, z0⟩ := blk2 hb1)
  go_region_with (go_at_call 101; refine (refBytes_int _ _ (by omega) (by omega) (by omega) (by omega) _).mono ?_; rintro e w2 ⟨rfl, hg2⟩; have hb1 : w2.heap[w.heap.size]? = some (.cells #[.int .i64 a, .int .i64 b] 26) := hg2.blk (by repeat (first | (with_reducible assumption) | (with_reducible exact heap_alloc_new _ _) | (with_reducible refine heap_drew ?_) | (with_reducible refine heap_newn ?_; (first | rfl | (simp; done))) | (with_reducible refine heap_alloc_mono ?_ _))); obtain ⟨c0, c1, f0, f1, z0⟩ := blk2 hb1)
  all_goals go_wp2
  all_goals go_ret2
  all_goals exact ⟨by rw [str_append]; rfl, (by repeat (first | (with_reducible exact Gr.refl _) | (with_reducible assumption) | (with_reducible refine Gr.alloc ?_ _) | (with_reducible refine Gr.drew ?_) | (with_reducible refine Gr.drewN ?_ _) | (with_reducible refine Gr.trans ?_ (by assumption)) | (with_reducible refine Gr.setCell ?_ (by first | exact Nat.le_refl _ | omega | (simp; done) | (simp; omega)) _)))⟩

set_option maxHeartbeats 2000000 in
theorem refTakeDown_any (s : ByteArray) (w : World) :
    Calls Tryz.prog 66 #[.string s] w fun e w' =>
      e = .returned (.tuple #[.agg #[.int .i64 (takeDownL s.data.toList).1, .int .i64 (takeDownL s.data.toList).2.1], .string ⟨(takeDownL s.data.toList).2.2.1.toArray⟩, .int .i64 (takeDownL s.data.toList).2.2.2]) ∧ Gr w w' := by
  by_cases hs : s.size < 9
  · have hd : takeDownL s.data.toList = (0, 0, [], 3) := by unfold takeDownL; rw [if_pos (by simpa using hs)]
    rw [hd]
    clear hd
    go_enter Tryz.func66, Tryz.ntmps66
    go_wp2
    refine bodyPost_ret (v := .tuple #[.agg #[.int .i64 0, .int .i64 0], .string ⟨#[]⟩, .int .i64 3]) (by simp [results, Tryz.results66, go_sem]) rfl ⟨rfl, (by repeat (first | (with_reducible exact Gr.refl _) | (with_reducible assumption) | (with_reducible refine Gr.alloc ?_ _) | (with_reducible refine Gr.drew ?_) | (with_reducible refine Gr.drewN ?_ _) | (with_reducible refine Gr.trans ?_ (by assumption)) | (with_reducible refine Gr.setCell ?_ (by first | exact Nat.le_refl _ | omega | (simp; done) | (simp; omega)) _)))⟩
  · have bA0 := (numL_bd (s.data.toList.take 6)).1
    have bB0 := (numL_bd ((s.data.toList.drop 6).take 3)).1
    have bA1 := numL_lt6 (s.data.toList.take 6) (by simp; omega)
    have bB1 := numL_lt6 ((s.data.toList.drop 6).take 3) (by simp; omega)
    have hwA : IntKind.i64.wrap (1099511627776 - numL (s.data.toList.take 6)) = 1099511627776 - numL (s.data.toList.take 6) := IntWalk.i64_in _ (by omega)
    have hwB : IntKind.i64.wrap (1048575 - numL ((s.data.toList.drop 6).take 3)) = 1048575 - numL ((s.data.toList.drop 6).take 3) := IntWalk.i64_in _ (by omega)
    have hd : takeDownL s.data.toList = if mayB (1099511627776 - numL (s.data.toList.take 6)) (1048575 - numL ((s.data.toList.drop 6).take 3)) = true then (1099511627776 - numL (s.data.toList.take 6), 1048575 - numL ((s.data.toList.drop 6).take 3), s.data.toList.drop 9, 0) else (0, 0, [], 4) := by
      unfold takeDownL; rw [if_neg (by simpa using hs)]
    have hex : s.extract 9 s.size = ⟨(s.data.toList.drop 9).toArray⟩ := ext_drop s 9
    by_cases hm : mayB (1099511627776 - numL (s.data.toList.take 6)) (1048575 - numL ((s.data.toList.drop 6).take 3)) = true
    · rw [if_pos hm] at hd
      rw [hd]
      clear hd
      go_enter Tryz.func66, Tryz.ntmps66
      go_wp2
      go_region_with (go_at_call 93; refine (number_any _ (by simp; omega) _).mono ?_; rintro e w2 ⟨rfl, rfl⟩)
      all_goals go_wp2_with (go_at_call 94; refine (refMay_any _ _ _).mono ?_; rintro e w3 ⟨rfl, hg3⟩; have hr3 : w3.heap[w.heap.size]? = some (.cells #[.int .i64 0, .int .i64 0] 26) := hg3.blk (by repeat (first | (with_reducible assumption) | (with_reducible exact heap_alloc_new _ _) | (with_reducible refine heap_drew ?_) | (with_reducible refine heap_newn ?_; (first | rfl | (simp; done))) | (with_reducible refine heap_alloc_mono ?_ _))); have hb3 : w3.heap[w.heap.size + 1]? = some (.cells #[.int .i64 (1099511627776 - numL (s.data.toList.take 6)), .int .i64 (1048575 - numL ((s.data.toList.drop 6).take 3))] 26) := hg3.blk (by repeat (first | (with_reducible assumption) | (with_reducible exact heap_alloc_new _ _) | (with_reducible refine heap_drew ?_) | (with_reducible refine heap_newn ?_; (first | rfl | (simp; done))) | (with_reducible refine heap_alloc_mono ?_ _))); obtain ⟨d0, d1, e0, e1, y0⟩ := blk2 hb3; obtain ⟨p0, p1, m0, m1, v0⟩ := blk2 hr3)
      all_goals go_region
      all_goals go_wp2
      all_goals obtain ⟨q0, q1, _, _, qz⟩ := blk2 (heap_drew (by simpa using heap_set (heap_set hr3 0 (.int .i64 (1099511627776 - numL (s.data.toList.take 6)))) 1 (.int .i64 (1048575 - numL ((s.data.toList.drop 6).take 3)))))
      all_goals exact bodyPost_ret (v := .tuple #[.agg #[.int .i64 (1099511627776 - numL (s.data.toList.take 6)), .int .i64 (1048575 - numL ((s.data.toList.drop 6).take 3))], .string ⟨(s.data.toList.drop 9).toArray⟩, .int .i64 0]) (by simp [results, Tryz.results66, go_sem, q0, q1]) rfl ⟨rfl, (by repeat (first | (with_reducible exact Gr.refl _) | (with_reducible assumption) | (with_reducible refine Gr.alloc ?_ _) | (with_reducible refine Gr.drew ?_) | (with_reducible refine Gr.drewN ?_ _) | (with_reducible refine Gr.trans ?_ (by assumption)) | (with_reducible refine Gr.setCell ?_ (by first | exact Nat.le_refl _ | omega | (simp; done) | (simp; omega)) _)))⟩
    · rw [if_neg hm] at hd
      rw [hd]
      clear hd
      have hm' : mayB (1099511627776 - numL (s.data.toList.take 6)) (1048575 - numL ((s.data.toList.drop 6).take 3)) = false := by simpa using hm
      clear hm
      go_enter Tryz.func66, Tryz.ntmps66
      go_wp2
      go_region_with (go_at_call 93; refine (number_any _ (by simp; omega) _).mono ?_; rintro e w2 ⟨rfl, rfl⟩)
      all_goals go_wp2_with (go_at_call 94; refine (refMay_any _ _ _).mono ?_; rintro e w3 ⟨rfl, hg3⟩; have hr3 : w3.heap[w.heap.size]? = some (.cells #[.int .i64 0, .int .i64 0] 26) := hg3.blk (by repeat (first | (with_reducible assumption) | (with_reducible exact heap_alloc_new _ _) | (with_reducible refine heap_drew ?_) | (with_reducible refine heap_newn ?_; (first | rfl | (simp; done))) | (with_reducible refine heap_alloc_mono ?_ _))); have hb3 : w3.heap[w.heap.size + 1]? = some (.cells #[.int .i64 (1099511627776 - numL (s.data.toList.take 6)), .int .i64 (1048575 - numL ((s.data.toList.drop 6).take 3))] 26) := hg3.blk (by repeat (first | (with_reducible assumption) | (with_reducible exact heap_alloc_new _ _) | (with_reducible refine heap_drew ?_) | (with_reducible refine heap_newn ?_; (first | rfl | (simp; done))) | (with_reducible refine heap_alloc_mono ?_ _))); obtain ⟨d0, d1, e0, e1, y0⟩ := blk2 hb3; obtain ⟨p0, p1, m0, m1, v0⟩ := blk2 hr3)
      all_goals obtain ⟨q0, q1, _, _, qz⟩ := blk2 (by simpa using heap_set (heap_set hr3 0 (.int .i64 0)) 1 (.int .i64 0))
      all_goals exact bodyPost_ret (v := .tuple #[.agg #[.int .i64 0, .int .i64 0], .string ⟨#[]⟩, .int .i64 4]) (by simp [results, Tryz.results66, go_sem, q0, q1]) rfl ⟨rfl, (by repeat (first | (with_reducible exact Gr.refl _) | (with_reducible assumption) | (with_reducible refine Gr.alloc ?_ _) | (with_reducible refine Gr.drew ?_) | (with_reducible refine Gr.drewN ?_ _) | (with_reducible refine Gr.trans ?_ (by assumption)) | (with_reducible refine Gr.setCell ?_ (by first | exact Nat.le_refl _ | omega | (simp; done) | (simp; omega)) _)))⟩

end Go.Proofs.YthgecojbggoniaaGreatDoor
