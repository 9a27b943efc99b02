/- What the rows stand on, part 45: PekI. Printed by bundle.py out of my texts. -/
import Derived.Test.YthgecojbggoniaaGreatDoorBd21
import Derived.Test.YthgecojbggoniaaGreatDoorBd44
namespace Go.Proofs.YthgecojbggoniaaGreatDoor
open Go.RowKit
set_option maxRecDepth 100000
set_option linter.unusedVariables false
set_option linter.unusedSimpArgs false
set_option linter.unnecessarySimpa false

set_option maxHeartbeats 4000000 in
theorem refSame12 {w : World} (f : Fnd) {v1 v2 : Value} (h1 : RdC w v1 f.way.l) (h2 : RdC w v2 f.way.l) (hlen : f.way.l.length ≤ 9223372036854775807) :
    Calls Tryz.prog 13 #[.agg (fndA f v1), .agg (fndA f v2)] w fun e w' => e = .returned (.bool true) ∧ Gr w w' := by
  have hS := Lib.hid (fun (u : World) (hg : Gr w u) => refSame_any f.way f.way (RdC.gr h1 hg) (RdC.gr h2 hg) hlen)
  rw [eqItt_self] at hS
  obtain ⟨W1, hW1⟩ : ∃ W1, W1 = (w.alloc (.cells (fndA f v1) 51)).alloc (.cells (fndA f v2) 51) := ⟨_, rfl⟩
  have HX := Lib.hid (show Gr w W1 by rw [hW1]; exact ((Gr.refl w).alloc _).alloc _)
  have hA : W1.heap[w.heap.size]? = some (.cells (fndA f v1) 51) := by rw [hW1]; exact ((Gr.refl _).alloc _).blk (heap_alloc_new w _)
  have hB : W1.heap[w.heap.size + 1]? = some (.cells (fndA f v2) 51) := by rw [hW1]; exact heap_newn (by simp)
  have HW1 := Lib.hid hW1
  unfold fndA at *
  obtain ⟨k_0, k_1, k_2, k_3, k_4, k_5, k_6, k_7, k_8, k_9, k_10, k_11, k_12, k_13, k_14, _, _, _, _, _, _, _, _, _, _, _, _, _, _, _, _⟩ := blk15 hA
  obtain ⟨n_0, n_1, n_2, n_3, n_4, n_5, n_6, n_7, n_8, n_9, n_10, n_11, n_12, n_13, n_14, _, _, _, _, _, _, _, _, _, _, _, _, _, _, _, _⟩ := blk15 hB
  clear hA hB hW1 h1 h2
  go_enter Tryz.func13, Tryz.ntmps13
  go_wp2_with fail
  rw [← HW1.out]
  refine (hS.out _ HX.out).mono ?_
  rintro e w1 ⟨rfl, hg1⟩
  go_wp2
  go_ret
  exact ⟨rfl, HX.out.trans hg1⟩
theorem found12 (f : Fnd) (q : Option Addr) (n c : Nat) (w : World) :
    Calls Tryz.prog 14 #[.agg (fndA f (.slice q n c))] w fun e w' => e = .returned (.agg (fndA f (.slice q n c))) ∧ Gr w w' := by
  have HI15 : Hid ((Tryz.prog.info? 51).map (·.size) = some 15) := Lib.hid (by kernel_rfl)
  obtain ⟨W1, hW1⟩ : ∃ W1, W1 = (w.alloc (.cells (fndA f (.slice q n c)) 42)).alloc (.cells (fndA fnd0 (.slice none 0 0)) 51) := ⟨_, rfl⟩
  have HX := Lib.hid (show Gr w W1 by rw [hW1]; exact ((Gr.refl w).alloc _).alloc _)
  have hA : W1.heap[w.heap.size]? = some (.cells (fndA f (.slice q n c)) 42) := by rw [hW1]; exact ((Gr.refl _).alloc _).blk (heap_alloc_new w _)
  have HB := Lib.hid (show W1.heap[w.heap.size + 1]? = some (.cells (fndA fnd0 (.slice none 0 0)) 51) by rw [hW1]; exact heap_newn (by simp))
  subst hW1
  have HB' := Lib.hid HB.out
  unfold fndA at hA HB ⊢
  obtain ⟨k_0, k_1, k_2, k_3, k_4, k_5, k_6, k_7, k_8, k_9, k_10, k_11, k_12, k_13, k_14, _, _, _, _, _, _, _, _, _, _, _, _, _, _, _, _⟩ := blk15 hA
  clear hA
  go_enter Tryz.func14, Tryz.ntmps14
  go_wp2_with (refine wpList_store_row (by rfl) _ _ _ (by rfl) _ (fndA f (.slice q n c)) (by rfl) (by rfl) _ _ HB.out HI15.out (by rfl) (fnd_one _ _ _ _) ?_)
  refine bodyPost_ret (v := .agg (fndA f (.slice q n c))) ?_ rfl ⟨rfl, ⟨below_setRow HX.out.b (Nat.le_succ _) _⟩⟩
  exact results_cell_row rfl _ _ _ _ _ _ _ rfl (setRow_heap _ _ _ _ _ _ HB.out) Tryz.underlying51 rfl HI15.out
set_option maxHeartbeats 2000000 in
theorem sameRows12 {w : World} {va vb : Value} {R : List Rw} (ha : RdRw w va R) (hb : RdRw w vb R) (hlen : R.length ≤ 1000000000) :
    Calls Tryz.prog 18 #[va, vb] w fun e w' => e = .returned (.bool true) ∧ Gr w w' := by
  obtain ⟨q, c, rfl⟩ := RdRw.form ha
  obtain ⟨q2, c2, rfl⟩ := RdRw.form hb
  have HA := Lib.hid ha
  have HB := Lib.hid hb
  have hl1 := fun W ty => len_rows (w := W) (q := q) (n := R.length) (c := c) (ty := ty)
  have hl2 := fun W ty => len_rows (w := W) (q := q2) (n := R.length) (c := c2) (ty := ty)
  clear ha hb
  go_enter Tryz.func18, Tryz.ntmps18
  go_wp2
  go_loopw [5] (fun iv wr => ∃ k : Nat, iv = .int .i64 k ∧ k ≤ R.length ∧ Gr w wr) (fun iv _ => R.length - (intOf iv).toNat)
  case atStart => exact ⟨0, rfl, Nat.zero_le _, Gr.refl _⟩
  case round =>
    obtain ⟨k, rfl, hk, hg⟩ := hrel
    by_cases hkl : k < R.length
    · obtain ⟨bk, of, cp, e1, q1, q2, c0, c1⟩ := RdRw.at (RdRw.gr HA.out hg) hkl
      cases e1
      obtain ⟨bk2, of2, cp2, e2, p1, p2, d0, d1⟩ := RdRw.at (RdRw.gr HB.out hg) hkl
      cases e2
      unfold maxLen at q2 p2
      go_wp2
      go_quiet (fail)
      go_wp2
      go_roundw
      case rel => exact ⟨k + 1, by go_num, by omega, hg.drewN _⟩
      case measure => simp [intOf]; omega
    · obtain rfl : k = R.length := by omega
      go_wp2
      go_ret
      exact ⟨rfl, hg⟩
end Go.Proofs.YthgecojbggoniaaGreatDoor
