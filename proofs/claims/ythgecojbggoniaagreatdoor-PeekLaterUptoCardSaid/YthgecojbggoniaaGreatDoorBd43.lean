/- What the rows stand on, part 43: PekG. Printed by bundle.py out of my texts. -/
import Derived.Test.YthgecojbggoniaaGreatDoorBd32
import Derived.Test.YthgecojbggoniaaGreatDoorBd39
import Derived.Test.YthgecojbggoniaaGreatDoorBd40
import Derived.Laws.ResultCell
namespace Go.Proofs.YthgecojbggoniaaGreatDoor
open Go.RowKit
set_option maxRecDepth 100000
set_option linter.unusedVariables false
set_option linter.unusedSimpArgs false
set_option linter.unnecessarySimpa false

theorem refLess_any (a b c d : Int) (w : World) : Calls Tryz.prog 41 #[.agg #[.int .i64 a, .int .i64 b], .agg #[.int .i64 c, .int .i64 d]] w fun e w' => e = .returned (.bool (lessS a b c d)) ∧ Gr w w' := by
  unfold lessS
  by_cases h1 : a < c
  · go_enter Tryz.func41, Tryz.ntmps41
    go_wp2
    go_ret
    exact ⟨ret_bool (by simp [h1]), (by repeat (first | (with_reducible exact Gr.refl _) | (with_reducible assumption) | (with_reducible refine Gr.alloc ?_ _) | (with_reducible refine Gr.drew ?_) | (with_reducible refine Gr.drewN ?_ _) | (with_reducible refine Gr.trans ?_ (by assumption)) | (with_reducible refine Gr.setCell ?_ (by first | exact Nat.le_refl _ | omega | (simp; done) | (simp; omega)) _)))⟩
  · by_cases h2 : a = c
    · by_cases h3 : b < d
      · go_enter Tryz.func41, Tryz.ntmps41
        go_wp2
        go_ret
        exact ⟨ret_bool (by simp [h1, h2, h3]), (by repeat (first | (with_reducible exact Gr.refl _) | (with_reducible assumption) | (with_reducible refine Gr.alloc ?_ _) | (with_reducible refine Gr.drew ?_) | (with_reducible refine Gr.drewN ?_ _) | (with_reducible refine Gr.trans ?_ (by assumption)) | (with_reducible refine Gr.setCell ?_ (by first | exact Nat.le_refl _ | omega | (simp; done) | (simp; omega)) _)))⟩
      · go_enter Tryz.func41, Tryz.ntmps41
        go_wp2
        go_ret
        exact ⟨ret_bool (by simp [h1, h2, h3]), (by repeat (first | (with_reducible exact Gr.refl _) | (with_reducible assumption) | (with_reducible refine Gr.alloc ?_ _) | (with_reducible refine Gr.drew ?_) | (with_reducible refine Gr.drewN ?_ _) | (with_reducible refine Gr.trans ?_ (by assumption)) | (with_reducible refine Gr.setCell ?_ (by first | exact Nat.le_refl _ | omega | (simp; done) | (simp; omega)) _)))⟩
    · go_enter Tryz.func41, Tryz.ntmps41
      go_wp2
      go_ret
      exact ⟨ret_bool (by simp [h1, h2]), (by repeat (first | (with_reducible exact Gr.refl _) | (with_reducible assumption) | (with_reducible refine Gr.alloc ?_ _) | (with_reducible refine Gr.drew ?_) | (with_reducible refine Gr.drewN ?_ _) | (with_reducible refine Gr.trans ?_ (by assumption)) | (with_reducible refine Gr.setCell ?_ (by first | exact Nat.le_refl _ | omega | (simp; done) | (simp; omega)) _)))⟩
theorem refTwo_any {a b c d x y : Int} (hx : x = if lessS a b c d = true then c else a) (hy : y = if lessS a b c d = true then d else b) (w : World) : Calls Tryz.prog 44 #[.agg #[.int .i64 a, .int .i64 b], .agg #[.int .i64 c, .int .i64 d]] w fun e w' => e = .returned (.agg #[.int .i64 x, .int .i64 y]) ∧ Gr w w' := by
  cases hl : lessS a b c d with
  | true =>
    obtain rfl : c = x := by rw [hx, if_pos hl]
    obtain rfl : d = y := by rw [hy, if_pos hl]
    have HLs := Lib.hid (fun w => refLess_any a b c d w)
    rw [hl] at HLs
    clear hx hy
    obtain ⟨W1, hW1⟩ : ∃ W1, W1 = ((w.alloc (.cells #[.int .i64 a, .int .i64 b] 26)).alloc (.cells #[.int .i64 c, .int .i64 d] 26)).alloc (.cells #[.int .i64 0, .int .i64 0] 26) := ⟨_, rfl⟩
    have HG := Lib.hid (show Gr w W1 by rw [hW1]; exact (((Gr.refl w).alloc _).alloc _).alloc _)
    have HA := Lib.hid (show W1.heap[w.heap.size]? = some (.cells #[.int .i64 a, .int .i64 b] 26) by rw [hW1]; exact ((Gr.refl _).alloc _).blk (((Gr.refl _).alloc _).blk (heap_alloc_new w _)))
    have HB := Lib.hid (show W1.heap[w.heap.size + 1]? = some (.cells #[.int .i64 c, .int .i64 d] 26) by rw [hW1]; exact ((Gr.refl _).alloc _).blk (heap_newn (by simp)))
    have HC := Lib.hid (show W1.heap[w.heap.size + 1 + 1]? = some (.cells #[.int .i64 0, .int .i64 0] 26) by rw [hW1]; exact heap_newn (by simp))
    have HW1 := Lib.hid hW1
    clear hW1 hl
    go_enter Tryz.func44, Tryz.ntmps44
    go_wp2_with fail
    rw [← HW1.out]
    refine (HLs.out _).mono ?_
    rintro e w1 ⟨rfl, hg1⟩
    obtain ⟨i_0, i_1, _, _, _⟩ := blk2 (hg1.blk HA.out)
    obtain ⟨j_0, j_1, _, _, _⟩ := blk2 (hg1.blk HB.out)
    obtain ⟨m_0, m_1, mf_0, mf_1, _⟩ := blk2 (hg1.blk HC.out)
    have HX := Lib.hid (HG.out.trans hg1)
    have HS := Lib.hid (heap_set (heap_set (hg1.blk HC.out) 0 (.int .i64 c)) 1 (.int .i64 d))
    have HGs := Lib.hid ((HX.out.setCell (p := ⟨w.heap.size + 1 + 1, 0, none⟩) (by simp; omega) (.int .i64 c)).setCell (p := ⟨w.heap.size + 1 + 1, 1, none⟩) (by simp; omega) (.int .i64 d))
    go_wp2
    refine bodyPost_ret (v := .agg #[.int .i64 c, .int .i64 d]) ?_ rfl ⟨rfl, HGs.out⟩
    exact results_cell_row rfl _ _ _ _ _ _ _ rfl HS.out Tryz.underlying26 rfl (by kernel_rfl)
  | false =>
    obtain rfl : a = x := by rw [hx, if_neg (by simp [hl])]
    obtain rfl : b = y := by rw [hy, if_neg (by simp [hl])]
    have HLs := Lib.hid (fun w => refLess_any a b c d w)
    rw [hl] at HLs
    clear hx hy
    obtain ⟨W1, hW1⟩ : ∃ W1, W1 = ((w.alloc (.cells #[.int .i64 a, .int .i64 b] 26)).alloc (.cells #[.int .i64 c, .int .i64 d] 26)).alloc (.cells #[.int .i64 0, .int .i64 0] 26) := ⟨_, rfl⟩
    have HG := Lib.hid (show Gr w W1 by rw [hW1]; exact (((Gr.refl w).alloc _).alloc _).alloc _)
    have HA := Lib.hid (show W1.heap[w.heap.size]? = some (.cells #[.int .i64 a, .int .i64 b] 26) by rw [hW1]; exact ((Gr.refl _).alloc _).blk (((Gr.refl _).alloc _).blk (heap_alloc_new w _)))
    have HB := Lib.hid (show W1.heap[w.heap.size + 1]? = some (.cells #[.int .i64 c, .int .i64 d] 26) by rw [hW1]; exact ((Gr.refl _).alloc _).blk (heap_newn (by simp)))
    have HC := Lib.hid (show W1.heap[w.heap.size + 1 + 1]? = some (.cells #[.int .i64 0, .int .i64 0] 26) by rw [hW1]; exact heap_newn (by simp))
    have HW1 := Lib.hid hW1
    clear hW1 hl
    go_enter Tryz.func44, Tryz.ntmps44
    go_wp2_with fail
    rw [← HW1.out]
    refine (HLs.out _).mono ?_
    rintro e w1 ⟨rfl, hg1⟩
    obtain ⟨i_0, i_1, _, _, _⟩ := blk2 (hg1.blk HA.out)
    obtain ⟨j_0, j_1, _, _, _⟩ := blk2 (hg1.blk HB.out)
    obtain ⟨m_0, m_1, mf_0, mf_1, _⟩ := blk2 (hg1.blk HC.out)
    have HX := Lib.hid (HG.out.trans hg1)
    have HS := Lib.hid (heap_set (heap_set (hg1.blk HC.out) 0 (.int .i64 a)) 1 (.int .i64 b))
    have HGs := Lib.hid ((HX.out.setCell (p := ⟨w.heap.size + 1 + 1, 0, none⟩) (by simp; omega) (.int .i64 a)).setCell (p := ⟨w.heap.size + 1 + 1, 1, none⟩) (by simp; omega) (.int .i64 b))
    go_wp2
    refine bodyPost_ret (v := .agg #[.int .i64 a, .int .i64 b]) ?_ rfl ⟨rfl, HGs.out⟩
    exact results_cell_row rfl _ _ _ _ _ _ _ rfl HS.out Tryz.underlying26 rfl (by kernel_rfl)
set_option maxHeartbeats 2000000 in
theorem refTop_any (x : Tx) (w : World) : Calls Tryz.prog 17 #[.agg (txC x)] w fun e w' => e = .returned (.agg #[.int .i64 (topS x).1, .int .i64 (topS x).2]) ∧ Gr w w' := by
  have hx : (topS x).1 = if lessS x.rw x.rl x.lw x.ll = true then x.lw else x.rw := by unfold topS; split <;> rfl
  have hy : (topS x).2 = if lessS x.rw x.rl x.lw x.ll = true then x.ll else x.rl := by unfold topS; split <;> rfl
  obtain ⟨m, hm⟩ : ∃ m, (topS x).1 = m := ⟨_, rfl⟩
  obtain ⟨n, hn⟩ : ∃ n, (topS x).2 = n := ⟨_, rfl⟩
  rw [hm] at hx ⊢
  rw [hn] at hy ⊢
  obtain ⟨W1, hW1⟩ : ∃ W1, W1 = (w.alloc (.cells (txC x) 28)).alloc (.cells #[.int .i64 0, .int .i64 0] 26) := ⟨_, rfl⟩
  have HM := Lib.hid (refTwo_any hx hy W1)
  have H1 : Hid (W1.heap[w.heap.size + 1]? = some (.cells #[.int .i64 0, .int .i64 0] 26)) := Lib.hid (by rw [hW1]; exact heap_newn (by simp))
  have HG1 : Hid (Gr w W1) := Lib.hid (by rw [hW1]; exact ((Gr.refl w).alloc _).alloc _)
  unfold txC at hW1 ⊢
  have HW1 := Lib.hid hW1
  clear hx hy hm hn hW1
  go_enter Tryz.func17, Tryz.ntmps17
  go_wp2_with fail
  rw [← HW1.out]
  refine HM.out.mono ?_
  rintro e w1 ⟨rfl, hg1⟩
  have H0 := Lib.hid (hg1.blk H1.out)
  have HG := Lib.hid (HG1.out.trans hg1)
  clear hg1
  obtain ⟨i_0, i_1, if_0, if_1, _⟩ := blk2 H0.out
  have HS := Lib.hid (heap_set (heap_set H0.out 0 (.int .i64 m)) 1 (.int .i64 n))
  have HGs := Lib.hid ((HG.out.setCell (p := ⟨w.heap.size + 1, 0, none⟩) (by simp) (.int .i64 m)).setCell (p := ⟨w.heap.size + 1, 1, none⟩) (by simp) (.int .i64 n))
  go_wp2
  refine bodyPost_ret (v := .agg #[.int .i64 m, .int .i64 n]) ?_ rfl ⟨rfl, HGs.out⟩
  exact results_cell_row rfl _ _ _ _ _ _ _ rfl HS.out Tryz.underlying26 rfl (by kernel_rfl)
set_option maxHeartbeats 4000000 in
theorem refMay12 (x : Tx) (w : World) : Calls Tryz.prog 30 #[.agg (txC x)] w fun e w' => e = .returned (.bool (mayT x)) ∧ Gr w w' := by
  have HM : Hid (mayT x = (idsB x && (mayB x.rw x.rl && mayB x.lw x.ll))) := Lib.hid rfl
  have HC1 := Lib.hid (fun w => refStampCheck_ck x.rw x.rl w)
  have HC2 := Lib.hid (fun w => refStampCheck_ck x.lw x.ll w)
  have hb0 := heap_alloc_new w (.cells (txC x) 28)
  unfold txC at *
  have HB := Lib.hid hb0
  obtain ⟨k_0, k_1, k_2, k_3, k_4, k_5, k_6, k_7, k_8, k_9, k_10, k_11, _, _, _, _, _, _, _, _, _, _, _, _, _⟩ := blk12 hb0
  clear hb0
  by_cases hid : 1 ≤ x.id ∧ x.id ≤ 9007199254740991 ∧ 0 ≤ x.ep ∧ x.ep ≤ 9007199254740991
  · have HI : Hid (idsB x = true) := Lib.hid (decide_eq_true hid)
    obtain ⟨i1, i2, i3, i4⟩ := hid
    cases h1 : mayB x.rw x.rl with
    | false =>
      have hs : stampCk x.rw x.rl = 9 := by simp [stampCk, h1]
      have HR : Hid (mayT x = false) := Lib.hid (by rw [HM.out, h1]; simp)
      rw [hs] at HC1
      go_enter Tryz.func30, Tryz.ntmps30
      go_wp2_with (go_at_call 40; refine (HC1.out _).mono ?_; rintro e w1 ⟨rfl, hg1⟩)
      go_ret
      exact ⟨by rw [HR.out]; rfl, (by repeat (first | (with_reducible exact Gr.refl _) | (with_reducible assumption) | (with_reducible refine Gr.alloc ?_ _) | (with_reducible refine Gr.drew ?_) | (with_reducible refine Gr.drewN ?_ _) | (with_reducible refine Gr.trans ?_ (by assumption)) | (with_reducible refine Gr.setCell ?_ (by first | exact Nat.le_refl _ | omega | (simp; done) | (simp; omega)) _)))⟩
    | true =>
      have hs : stampCk x.rw x.rl = 0 := by simp [stampCk, h1]
      rw [hs] at HC1
      cases h2 : mayB x.lw x.ll with
      | false =>
        have hs2 : stampCk x.lw x.ll = 9 := by simp [stampCk, h2]
        rw [hs2] at HC2
        have HR : Hid (mayT x = false) := Lib.hid (by rw [HM.out, h2]; simp)
        go_enter Tryz.func30, Tryz.ntmps30
        go_wp2_with fail
        refine (HC1.out _).mono ?_
        rintro e w1 ⟨rfl, hg1⟩
        have HG := Lib.hid (((Gr.refl w).alloc _).trans hg1)
        clear k_0 k_1 k_2 k_3 k_4 k_5 k_6 k_7 k_8 k_9 k_10 k_11
        obtain ⟨k_0, k_1, k_2, k_3, k_4, k_5, k_6, k_7, k_8, k_9, k_10, k_11, _, _, _, _, _, _, _, _, _, _, _, _, _⟩ := blk12 (hg1.blk HB.out)
        go_wp2_with (go_at_call 40; refine (HC2.out _).mono ?_; rintro e w2 ⟨rfl, hg2⟩)
        go_ret
        exact ⟨by rw [HR.out]; rfl, HG.out.trans hg2⟩
      | true =>
        have hs2 : stampCk x.lw x.ll = 0 := by simp [stampCk, h2]
        rw [hs2] at HC2
        have HR : Hid (mayT x = true) := Lib.hid (by rw [HM.out, HI.out, h1, h2]; rfl)
        go_enter Tryz.func30, Tryz.ntmps30
        go_wp2_with fail
        refine (HC1.out _).mono ?_
        rintro e w1 ⟨rfl, hg1⟩
        have HG := Lib.hid (((Gr.refl w).alloc _).trans hg1)
        clear k_0 k_1 k_2 k_3 k_4 k_5 k_6 k_7 k_8 k_9 k_10 k_11
        obtain ⟨k_0, k_1, k_2, k_3, k_4, k_5, k_6, k_7, k_8, k_9, k_10, k_11, _, _, _, _, _, _, _, _, _, _, _, _, _⟩ := blk12 (hg1.blk HB.out)
        go_wp2_with (go_at_call 40; refine (HC2.out _).mono ?_; rintro e w2 ⟨rfl, hg2⟩)
        go_ret
        exact ⟨by rw [HR.out]; rfl, HG.out.trans hg2⟩
  · have HI : Hid (idsB x = false) := Lib.hid (decide_eq_false hid)
    have HR : Hid (mayT x = false) := Lib.hid (by rw [HM.out, HI.out]; rfl)
    have hor : ¬ 1 ≤ x.id ∨ (1 ≤ x.id ∧ ¬ x.id ≤ 9007199254740991) ∨ ((1 ≤ x.id ∧ x.id ≤ 9007199254740991) ∧ ¬ 0 ≤ x.ep) ∨ ((1 ≤ x.id ∧ x.id ≤ 9007199254740991) ∧ 0 ≤ x.ep ∧ ¬ x.ep ≤ 9007199254740991) := by omega
    clear hid
    rcases hor with i1 | ⟨i1, i2⟩ | ⟨⟨i1, i2⟩, i3⟩ | ⟨⟨i1, i2⟩, i3, i4⟩
    all_goals
      go_enter Tryz.func30, Tryz.ntmps30
      go_wp2
      go_ret
      exact ⟨by rw [HR.out]; rfl, (by repeat (first | (with_reducible exact Gr.refl _) | (with_reducible assumption) | (with_reducible refine Gr.alloc ?_ _) | (with_reducible refine Gr.drew ?_) | (with_reducible refine Gr.drewN ?_ _) | (with_reducible refine Gr.trans ?_ (by assumption)) | (with_reducible refine Gr.setCell ?_ (by first | exact Nat.le_refl _ | omega | (simp; done) | (simp; omega)) _)))⟩
/-- the document's Get of a table -/
theorem get10_any {tb N : Nat} {R : List Rw} {w : World} (h : DocAt tb N R w) (hlen : R.length ≤ 140737488355328) (key : ByteArray) :
    Calls Tryz.prog 97 #[.pointer (some ⟨tb, 0, none⟩), .string key] w fun e w' => e = .returned (.tuple (outS (getR key R))) ∧ w = w' := by
  obtain ⟨v, hv, ho⟩ := h.ex
  have hR := ho.rd encRow (by decide)
  have HA := Lib.hid (at10_any hv hR hlen key)
  obtain ⟨q, c, rfl⟩ := RdRw.form hR
  have HR := Lib.hid hR
  obtain ⟨k_0, g_0, l_0⟩ := blk1 hv
  have hlenv := fun W ty => len_rows (w := W) (q := q) (n := R.length) (c := c) (ty := ty)
  have hbl := below_le key R
  have HGt : Hid (getR key R = match (aboveR key R).head? with | some x => if x.1.toList == key.toList then some x.2 else none | none => none) := Lib.hid rfl
  clear hR hv ho
  by_cases hkl : (belowR key R).length < R.length
  · have ha := above_at hkl
    rw [ha] at HGt
    generalize (belowR key R).length = k at *
    obtain ⟨bk, of, cp, e1, q1, q2, c0, c1⟩ := RdRw.at HR.out hkl
    cases e1
    unfold maxLen at q2
    clear ha
    cases hq : R[k].1.toList == key.toList with
    | true =>
      have HE : Hid (getR key R = some R[k].2) := Lib.hid (by rw [HGt.out]; simp only [List.head?_cons]; rw [if_pos hq])
      go_enter Tryz.func97, Tryz.ntmps97
      go_wp2_with (go_at_call 86; refine HA.out.mono ?_; rintro e w1 ⟨rfl, rfl⟩)
      go_ret2
      exact ⟨by rw [HE.out]; rfl, by first | rfl | trivial⟩
    | false =>
      have HE : Hid (getR key R = none) := Lib.hid (by rw [HGt.out]; simp only [List.head?_cons]; rw [if_neg (by simp [hq])])
      go_enter Tryz.func97, Tryz.ntmps97
      go_wp2_with (go_at_call 86; refine HA.out.mono ?_; rintro e w1 ⟨rfl, rfl⟩)
      go_ret2
      exact ⟨by rw [HE.out]; rfl, by first | rfl | trivial⟩
  · have hz : (belowR key R).length = R.length := by omega
    have ha : aboveR key R = [] := by rw [← above_drop, hz, List.drop_length]
    rw [ha] at HGt
    have HE : Hid (getR key R = none) := Lib.hid (by rw [HGt.out]; rfl)
    rw [hz] at HA
    clear ha hz hbl hkl
    go_enter Tryz.func97, Tryz.ntmps97
    go_wp2_with (go_at_call 86; refine HA.out.mono ?_; rintro e w1 ⟨rfl, rfl⟩)
    go_ret2
    exact ⟨by rw [HE.out]; rfl, by first | rfl | trivial⟩
end Go.Proofs.YthgecojbggoniaaGreatDoor
