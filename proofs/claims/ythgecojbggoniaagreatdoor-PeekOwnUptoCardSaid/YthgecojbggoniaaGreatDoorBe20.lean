/- What the rows stand on, part 20: PekM. Printed by bundle.py out of my texts. -/
import Derived.Test.YthgecojbggoniaaGreatDoorBe07
import Derived.Test.YthgecojbggoniaaGreatDoorBe18
import Derived.BigQuiet
import Derived.RegionTactic
import Derived.Handy
namespace Go.Proofs.YthgecojbggoniaaGreatDoor
open Go.RowKit
set_option maxRecDepth 100000
set_option linter.unusedVariables false
set_option linter.unusedSimpArgs false
set_option linter.unnecessarySimpa false

theorem cmp_less (a b c d : Int) : decide (0 < cmpS c d a b) = lessS a b c d := by
  unfold cmpS orV cmpI lessS
  by_cases h1 : a < c
  · have : ¬ c < a := by omega
    have h3 : ¬ a = c := by omega
    simp [h1, this]
  · by_cases h2 : c < a
    · have h3 : ¬ a = c := by omega
      simp [h1, h2, h3]
    · obtain rfl : a = c := by omega
      by_cases h4 : b < d
      · have : ¬ d < b := by omega
        simp [h4, this]
      · by_cases h5 : d < b <;> simp [h4, h5]
set_option maxHeartbeats 4000000 in
theorem maxS_any {a b c d x y : Int} (hx : x = if lessS a b c d = true then c else a) (hy : y = if lessS a b c d = true then d else b) (w : World) {g : Nat} (hg : w.heap[g]? = some (.cells #[.int .i64 a, .int .i64 b, .int .i64 c, .int .i64 d] 26)) :
    Calls Tryz.prog 71 #[.slice (some ⟨g, 0, none⟩) 2 2, .func (.func 72) #[] #[]] w fun e w' => e = .returned (.agg #[.int .i64 x, .int .i64 y]) ∧ Gr w w' := by
  have HX0 := Lib.hid hx
  have HY0 := Lib.hid hy
  clear hx hy
  have hlen : ∀ W ty, (Builtin.len_ #[120] ty #[.slice (some ⟨g, 0, none⟩) 2 2]).run Tryz.prog W = .ok (.int .i64 2) W := fun W ty => by simp [Builtin.len_, run_underlying Tryz.underlying120, go_sem]
  have HB := Lib.hid hg
  obtain ⟨k_0, k_1, k_2, k_3, _, _, _, _, l_0⟩ := blk4 hg
  clear hg
  go_enter Tryz.func71, Tryz.ntmps71
  go_wp2
  go_loopw [6] (fun iv wr => ∃ m n : Int, Hid (Gr w wr) ∧ Hid (wr.heap[w.heap.size]? = some (.cells #[.int .i64 0, .int .i64 0] 26)) ∧ Hid (wr.heap[w.heap.size + 1]? = some (.cells #[.int .i64 m, .int .i64 n] 26)) ∧ ((iv = .int .i64 1 ∧ m = a ∧ n = b) ∨ (iv = .int .i64 2 ∧ m = x ∧ n = y))) (fun iv _ => (2 - intOf iv).toNat)
  case atStart => exact ⟨a, b, Lib.hid (((Gr.refl w).alloc _).alloc _), Lib.hid (((Gr.refl _).alloc _).blk (heap_alloc_new _ _)), Lib.hid (heap_newn (by simp)), .inl ⟨rfl, rfl, rfl⟩⟩
  case round =>
    obtain ⟨m, n, HG, H0, H1, ⟨rfl, rfl, rfl⟩ | ⟨rfl, rfl, rfl⟩⟩ := hrel
    · obtain ⟨k_0, k_1, k_2, k_3, _, _, _, _, l_0⟩ := blk4 (HG.out.blk HB.out)
      obtain ⟨j_0, j_1, jf_0, jf_1, _⟩ := blk2 H1.out
      have HC := Lib.hid (fun w => compareS c d m n w)
      have hcl := cmp_less m n c d
      generalize cmpS c d m n = z at *
      cases hl : lessS m n c d with
      | true =>
        have hz : 0 < z := by rw [hl] at hcl; simpa using hcl
        have HL := Lib.hid hl
        clear hcl hl
        go_wp2
        go_region_with (go_at_call 72; refine (HC.out _).mono ?_; rintro e w2 ⟨rfl, hg2⟩; have HX := Lib.hid (HG.out.trans ((Gr.refl wr).drew.trans hg2)); have HY := Lib.hid ((Gr.refl wr).drew.trans hg2))
        all_goals clear hg2 k_0 k_1 k_2 k_3 j_0 j_1 jf_0 jf_1
        all_goals (
          obtain ⟨k_0, k_1, k_2, k_3, _, _, _, _, l_0⟩ := blk4 (HX.out.blk HB.out)
          obtain ⟨j_0, j_1, jf_0, jf_1, _⟩ := blk2 (HY.out.blk H1.out)
          have HS1 := Lib.hid (heap_set (heap_set (HY.out.blk H1.out) 0 (.int .i64 c)) 1 (.int .i64 d))
          have HS0 := Lib.hid (heap_set_other (heap_set_other (HY.out.blk H0.out) ⟨w.heap.size + 1, 0, none⟩ (.int .i64 c) (by simp)) ⟨w.heap.size + 1, 1, none⟩ (.int .i64 d) (by simp))
          have HGs := Lib.hid ((HX.out.setCell (p := ⟨w.heap.size + 1, 0, none⟩) (by simp) (.int .i64 c)).setCell (p := ⟨w.heap.size + 1, 1, none⟩) (by simp) (.int .i64 d))
          go_wp2
          go_roundw
          case rel => exact ⟨c, d, HGs, HS0, HS1, .inr ⟨by go_num, by rw [HX0.out, HL.out]; rfl, by rw [HY0.out, HL.out]; rfl⟩⟩
          case measure => simp [intOf])
      | false =>
        have hz : ¬ 0 < z := by rw [hl] at hcl; simpa using hcl
        have HL := Lib.hid hl
        clear hcl hl
        go_wp2
        go_region_with (go_at_call 72; refine (HC.out _).mono ?_; rintro e w2 ⟨rfl, hg2⟩; have HX := Lib.hid (HG.out.trans ((Gr.refl wr).drew.trans hg2)); have HY := Lib.hid ((Gr.refl wr).drew.trans hg2))
        all_goals clear hg2 k_0 k_1 k_2 k_3 j_0 j_1 jf_0 jf_1
        all_goals (
          go_wp2
          go_roundw
          case rel => exact ⟨m, n, HX, Lib.hid (HY.out.blk H0.out), Lib.hid (HY.out.blk H1.out), .inr ⟨by go_num, by rw [HX0.out, HL.out]; rfl, by rw [HY0.out, HL.out]; rfl⟩⟩
          case measure => simp [intOf])
    · obtain ⟨j_0, j_1, _, _, _⟩ := blk2 H1.out
      obtain ⟨i_0, i_1, if_0, if_1, _⟩ := blk2 H0.out
      have HS := Lib.hid (heap_set (heap_set H0.out 0 (.int .i64 m)) 1 (.int .i64 n))
      have HGs := Lib.hid ((HG.out.setCell (p := ⟨w.heap.size, 0, none⟩) (Nat.le_refl _) (.int .i64 m)).setCell (p := ⟨w.heap.size, 1, none⟩) (Nat.le_refl _) (.int .i64 n))
      go_wp2
      refine bodyPost_ret (v := .agg #[.int .i64 m, .int .i64 n]) ?_ rfl ⟨rfl, HGs.out⟩
      exact results_cell_row rfl _ _ _ _ _ _ _ rfl HS.out Tryz.underlying26 rfl (by kernel_rfl)
end Go.Proofs.YthgecojbggoniaaGreatDoor
