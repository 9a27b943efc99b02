/- What the rows stand on, part 50: PekK. Printed by bundle.py out of my texts. -/
import Derived.Test.YthgecojbggoniaaGreatDoorBd47
import Derived.Test.YthgecojbggoniaaGreatDoorBd48
import Derived.Test.YthgecojbggoniaaGreatDoorBd49
namespace Go.Proofs.YthgecojbggoniaaGreatDoor
open Go.RowKit
set_option maxRecDepth 100000
set_option linter.unusedVariables false
set_option linter.unusedSimpArgs false
set_option linter.unnecessarySimpa false

theorem read12 {tb N : Nat} {R : List Rw} {w : World} (h : DocAt tb N R w) (hR : R.length ≤ 1000000) (hsz : ∀ x ∈ R, SzP x) {key : ByteArray} (hk : keyOk key = true) (x : Tx) : Calls Tryz.prog 42 #[.pointer (some ⟨tb, 0, none⟩), .string key, .agg (txC x)] w fun e w' => ∃ vl, e = .returned (.tuple #[.agg (fndA (foundD R key x).1 vl), .int .i64 (foundD R key x).2]) ∧ RdC w' vl (foundD R key x).1.way.l ∧ Gr w w' := by
  cases hno : intentR R key with
  | none => exact readRest h hR hsz hk x hno
  | some y =>
    by_cases hid : y.id = x.id
    · rcases Int.lt_trichotomy x.ep y.epoch with he | he | he
      · exact readStale h hR hsz hk x hno hid he
      · exact readOwn h hR hsz hk x hno hid he.symm
      · exact readOld h hR hsz hk x hno hid he
    · cases hl : lessS (topS x).1 (topS x).2 y.sw y.sl with
      | true => exact readPast h hR hsz hk x hno hid hl
      | false => exact readWait h hR hsz hk x hno hid hl
set_option maxHeartbeats 8000000 in
theorem refGet12 {tb N : Nat} {R : List Rw} {w : World} (h : DocAt tb N R w) (hR : R.length ≤ 1000000) (hsz : ∀ x ∈ R, SzP x) (key : ByteArray) (x : Tx) (a b : Int) : Calls Tryz.prog 15 #[.pointer (some ⟨tb, 0, none⟩), .string key, .agg (txC x), .agg #[.int .i64 a, .int .i64 b]] w fun e w' => ∃ vl, e = .returned (.tuple #[.agg (fndA (getD R key x a b).1 vl), .int .i64 (getD R key x a b).2]) ∧ RdC w' vl (getD R key x a b).1.way.l ∧ Gr w w' := by
  have HR : Hid (getD R key x a b = if (!keyOk key || (!mayT x || !mayB a b)) = true then (fnd0, 2) else if (!lessS a b x.rw x.rl) = true then (fnd0, 122) else foundD R key x) := Lib.hid rfl
  have HT := Lib.hid h
  have HSz := Lib.hid hsz
  have HLen := Lib.hid hR
  clear h hsz hR
  have hce := keyOk_check key
  cases hk : keyOk key with
  | false =>
    have HRs : Hid (getD R key x a b = (fnd0, 2)) := Lib.hid (by rw [HR.out, hk]; rfl)
    rw [hk] at hce
    have hce2 : (checkE key.size != 0) = true := by rw [bne, hce]; rfl
    obtain ⟨W1, hW1⟩ : ∃ W1, W1 = ((w.alloc (.cells (txC x) 28)).alloc (.cells #[.int .i64 a, .int .i64 b] 26)).alloc (.cells (fndA fnd0 (.slice none 0 0)) 51) := ⟨_, rfl⟩
    have HX := Lib.hid (show Gr w W1 by rw [hW1]; exact (((Gr.refl w).alloc _).alloc _).alloc _)
    have HA := Lib.hid (show W1.heap[w.heap.size]? = some (.cells (txC x) 28) by rw [hW1]; exact ((Gr.refl _).alloc _).blk (((Gr.refl _).alloc _).blk (heap_alloc_new w _)))
    have HS := Lib.hid (show W1.heap[w.heap.size + 1]? = some (.cells #[.int .i64 a, .int .i64 b] 26) by rw [hW1]; exact ((Gr.refl _).alloc _).blk (heap_newn (by simp)))
    have HF := Lib.hid (show W1.heap[w.heap.size + 1 + 1]? = some (.cells (fndA fnd0 (.slice none 0 0)) 51) by rw [hW1]; exact heap_newn (by simp))
    have HI15 : Hid ((Tryz.prog.info? 51).map (·.size) = some 15) := Lib.hid (by kernel_rfl)
    have HCk := Lib.hid (refCheck_any key)
    have HMy := Lib.hid (refMay12 x)
    have HSt := Lib.hid (refStampCheck_ck a b)
    have HLs := Lib.hid (refLess_any a b x.rw x.rl)
    have HW1 := Lib.hid hW1
    have e1 := HW1.out
    clear hW1
    unfold txC fndA fnd0 itt0 at e1
    simp only at e1
    unfold txC at HA HMy ⊢
    obtain ⟨k_0, k_1, k_2, k_3, k_4, k_5, k_6, k_7, k_8, k_9, k_10, k_11, _, _, _, _, _, _, _, _, _, _, _, _, _⟩ := blk12 HA.out
    obtain ⟨c_0, c_1, _, _, _⟩ := blk2 HS.out
    go_enter Tryz.func15, Tryz.ntmps15
    go_wp2_with fail
    rw [← e1]
    clear e1
    refine (HCk.out _).mono ?_
    rintro e w1 ⟨rfl, rfl⟩
    clear k_0 k_1 k_2 k_3 k_4 k_5 k_6 k_7 k_8 k_9 k_10 k_11 c_0 c_1
    go_wp2_with (refine wpList_store_row (by rfl) _ _ _ (by rfl) _ (fndA fnd0 (.slice none 0 0)) (by rfl) (by rfl) _ _ HF.out HI15.out (by rfl) (fnd_one _ _ _ _) ?_)
    refine bodyPost_ret (v := .tuple #[.agg (fndA fnd0 (.slice none 0 0)), .int .i64 _]) ?_ rfl ⟨_, by rw [HRs.out], by rw [HRs.out]; exact .inl ⟨rfl, none, 0, rfl, by decide, fun _ => rfl⟩, ⟨below_setRow HX.out.b (by omega) _⟩⟩
    exact results_row_tmp rfl _ _ (w.heap.size + 1 + 1) 51 (fndA fnd0 (.slice none 0 0)) (0, 0) _ rfl (setRow_heap _ _ _ _ _ _ HF.out) Tryz.underlying51 rfl HI15.out rfl
  | true =>
    rw [hk] at hce
    have hce2 : (checkE key.size != 0) = false := by rw [bne, hce]; rfl
    cases hm : mayT x with
    | false =>
      have HRs : Hid (getD R key x a b = (fnd0, 2)) := Lib.hid (by rw [HR.out, hk, hm]; rfl)
      obtain ⟨W1, hW1⟩ : ∃ W1, W1 = ((w.alloc (.cells (txC x) 28)).alloc (.cells #[.int .i64 a, .int .i64 b] 26)).alloc (.cells (fndA fnd0 (.slice none 0 0)) 51) := ⟨_, rfl⟩
      have HX := Lib.hid (show Gr w W1 by rw [hW1]; exact (((Gr.refl w).alloc _).alloc _).alloc _)
      have HA := Lib.hid (show W1.heap[w.heap.size]? = some (.cells (txC x) 28) by rw [hW1]; exact ((Gr.refl _).alloc _).blk (((Gr.refl _).alloc _).blk (heap_alloc_new w _)))
      have HS := Lib.hid (show W1.heap[w.heap.size + 1]? = some (.cells #[.int .i64 a, .int .i64 b] 26) by rw [hW1]; exact ((Gr.refl _).alloc _).blk (heap_newn (by simp)))
      have HF := Lib.hid (show W1.heap[w.heap.size + 1 + 1]? = some (.cells (fndA fnd0 (.slice none 0 0)) 51) by rw [hW1]; exact heap_newn (by simp))
      have HI15 : Hid ((Tryz.prog.info? 51).map (·.size) = some 15) := Lib.hid (by kernel_rfl)
      have HCk := Lib.hid (refCheck_any key)
      have HMy := Lib.hid (refMay12 x)
      have HSt := Lib.hid (refStampCheck_ck a b)
      have HLs := Lib.hid (refLess_any a b x.rw x.rl)
      have HW1 := Lib.hid hW1
      have e1 := HW1.out
      clear hW1
      unfold txC fndA fnd0 itt0 at e1
      simp only at e1
      unfold txC at HA HMy ⊢
      obtain ⟨k_0, k_1, k_2, k_3, k_4, k_5, k_6, k_7, k_8, k_9, k_10, k_11, _, _, _, _, _, _, _, _, _, _, _, _, _⟩ := blk12 HA.out
      obtain ⟨c_0, c_1, _, _, _⟩ := blk2 HS.out
      go_enter Tryz.func15, Tryz.ntmps15
      go_wp2_with fail
      rw [← e1]
      clear e1
      refine (HCk.out _).mono ?_
      rintro e w1 ⟨rfl, rfl⟩
      rw [hm] at HMy
      go_wp2_with fail
      refine (HMy.out _).mono ?_
      rintro e w2 ⟨rfl, hg⟩
      have HX := Lib.hid (HX.out.trans hg)
      have HA := Lib.hid (hg.blk HA.out)
      have HS := Lib.hid (hg.blk HS.out)
      have HF := Lib.hid (hg.blk HF.out)
      clear k_0 k_1 k_2 k_3 k_4 k_5 k_6 k_7 k_8 k_9 k_10 k_11 c_0 c_1 hg
      go_wp2_with (refine wpList_store_row (by rfl) _ _ _ (by rfl) _ (fndA fnd0 (.slice none 0 0)) (by rfl) (by rfl) _ _ HF.out HI15.out (by rfl) (fnd_one _ _ _ _) ?_)
      refine bodyPost_ret (v := .tuple #[.agg (fndA fnd0 (.slice none 0 0)), .int .i64 _]) ?_ rfl ⟨_, by rw [HRs.out], by rw [HRs.out]; exact .inl ⟨rfl, none, 0, rfl, by decide, fun _ => rfl⟩, ⟨below_setRow HX.out.b (by omega) _⟩⟩
      exact results_row_tmp rfl _ _ (w.heap.size + 1 + 1) 51 (fndA fnd0 (.slice none 0 0)) (0, 0) _ rfl (setRow_heap _ _ _ _ _ _ HF.out) Tryz.underlying51 rfl HI15.out rfl
    | true =>
      have HKy := Lib.hid hk
      cases hb : mayB a b with
      | false =>
        have HRs : Hid (getD R key x a b = (fnd0, 2)) := Lib.hid (by rw [HR.out, hk, hm, hb]; rfl)
        have hs : stampCk a b = 9 := by simp [stampCk, hb]
        obtain ⟨W1, hW1⟩ : ∃ W1, W1 = ((w.alloc (.cells (txC x) 28)).alloc (.cells #[.int .i64 a, .int .i64 b] 26)).alloc (.cells (fndA fnd0 (.slice none 0 0)) 51) := ⟨_, rfl⟩
        have HX := Lib.hid (show Gr w W1 by rw [hW1]; exact (((Gr.refl w).alloc _).alloc _).alloc _)
        have HA := Lib.hid (show W1.heap[w.heap.size]? = some (.cells (txC x) 28) by rw [hW1]; exact ((Gr.refl _).alloc _).blk (((Gr.refl _).alloc _).blk (heap_alloc_new w _)))
        have HS := Lib.hid (show W1.heap[w.heap.size + 1]? = some (.cells #[.int .i64 a, .int .i64 b] 26) by rw [hW1]; exact ((Gr.refl _).alloc _).blk (heap_newn (by simp)))
        have HF := Lib.hid (show W1.heap[w.heap.size + 1 + 1]? = some (.cells (fndA fnd0 (.slice none 0 0)) 51) by rw [hW1]; exact heap_newn (by simp))
        have HI15 : Hid ((Tryz.prog.info? 51).map (·.size) = some 15) := Lib.hid (by kernel_rfl)
        have HCk := Lib.hid (refCheck_any key)
        have HMy := Lib.hid (refMay12 x)
        have HSt := Lib.hid (refStampCheck_ck a b)
        have HLs := Lib.hid (refLess_any a b x.rw x.rl)
        have HW1 := Lib.hid hW1
        have e1 := HW1.out
        clear hW1
        unfold txC fndA fnd0 itt0 at e1
        simp only at e1
        unfold txC at HA HMy ⊢
        obtain ⟨k_0, k_1, k_2, k_3, k_4, k_5, k_6, k_7, k_8, k_9, k_10, k_11, _, _, _, _, _, _, _, _, _, _, _, _, _⟩ := blk12 HA.out
        obtain ⟨c_0, c_1, _, _, _⟩ := blk2 HS.out
        go_enter Tryz.func15, Tryz.ntmps15
        go_wp2_with fail
        rw [← e1]
        clear e1
        refine (HCk.out _).mono ?_
        rintro e w1 ⟨rfl, rfl⟩
        rw [hm] at HMy
        rw [hs] at HSt
        go_wp2_with fail
        refine (HMy.out _).mono ?_
        rintro e w2 ⟨rfl, hg⟩
        have HX := Lib.hid (HX.out.trans hg)
        have HA := Lib.hid (hg.blk HA.out)
        have HS := Lib.hid (hg.blk HS.out)
        have HF := Lib.hid (hg.blk HF.out)
        clear k_0 k_1 k_2 k_3 k_4 k_5 k_6 k_7 k_8 k_9 k_10 k_11 c_0 c_1 hg
        obtain ⟨k_0, k_1, k_2, k_3, k_4, k_5, k_6, k_7, k_8, k_9, k_10, k_11, _, _, _, _, _, _, _, _, _, _, _, _, _⟩ := blk12 HA.out
        obtain ⟨c_0, c_1, _, _, _⟩ := blk2 HS.out
        go_wp2_with fail
        refine (HSt.out _).mono ?_
        rintro e w3 ⟨rfl, hg⟩
        have HX := Lib.hid (HX.out.trans hg)
        have HA := Lib.hid (hg.blk HA.out)
        have HS := Lib.hid (hg.blk HS.out)
        have HF := Lib.hid (hg.blk HF.out)
        clear k_0 k_1 k_2 k_3 k_4 k_5 k_6 k_7 k_8 k_9 k_10 k_11 c_0 c_1 hg
        go_wp2_with (refine wpList_store_row (by rfl) _ _ _ (by rfl) _ (fndA fnd0 (.slice none 0 0)) (by rfl) (by rfl) _ _ HF.out HI15.out (by rfl) (fnd_one _ _ _ _) ?_)
        refine bodyPost_ret (v := .tuple #[.agg (fndA fnd0 (.slice none 0 0)), .int .i64 _]) ?_ rfl ⟨_, by rw [HRs.out], by rw [HRs.out]; exact .inl ⟨rfl, none, 0, rfl, by decide, fun _ => rfl⟩, ⟨below_setRow HX.out.b (by omega) _⟩⟩
        exact results_row_tmp rfl _ _ (w.heap.size + 1 + 1) 51 (fndA fnd0 (.slice none 0 0)) (0, 0) _ rfl (setRow_heap _ _ _ _ _ _ HF.out) Tryz.underlying51 rfl HI15.out rfl
      | true =>
        have hs : stampCk a b = 0 := by simp [stampCk, hb]
        cases hl : lessS a b x.rw x.rl with
        | false =>
          have HRs : Hid (getD R key x a b = (fnd0, 122)) := Lib.hid (by rw [HR.out, hk, hm, hb, hl]; rfl)
          obtain ⟨W1, hW1⟩ : ∃ W1, W1 = ((w.alloc (.cells (txC x) 28)).alloc (.cells #[.int .i64 a, .int .i64 b] 26)).alloc (.cells (fndA fnd0 (.slice none 0 0)) 51) := ⟨_, rfl⟩
          have HX := Lib.hid (show Gr w W1 by rw [hW1]; exact (((Gr.refl w).alloc _).alloc _).alloc _)
          have HA := Lib.hid (show W1.heap[w.heap.size]? = some (.cells (txC x) 28) by rw [hW1]; exact ((Gr.refl _).alloc _).blk (((Gr.refl _).alloc _).blk (heap_alloc_new w _)))
          have HS := Lib.hid (show W1.heap[w.heap.size + 1]? = some (.cells #[.int .i64 a, .int .i64 b] 26) by rw [hW1]; exact ((Gr.refl _).alloc _).blk (heap_newn (by simp)))
          have HF := Lib.hid (show W1.heap[w.heap.size + 1 + 1]? = some (.cells (fndA fnd0 (.slice none 0 0)) 51) by rw [hW1]; exact heap_newn (by simp))
          have HI15 : Hid ((Tryz.prog.info? 51).map (·.size) = some 15) := Lib.hid (by kernel_rfl)
          have HCk := Lib.hid (refCheck_any key)
          have HMy := Lib.hid (refMay12 x)
          have HSt := Lib.hid (refStampCheck_ck a b)
          have HLs := Lib.hid (refLess_any a b x.rw x.rl)
          have HW1 := Lib.hid hW1
          have e1 := HW1.out
          clear hW1
          unfold txC fndA fnd0 itt0 at e1
          simp only at e1
          unfold txC at HA HMy ⊢
          obtain ⟨k_0, k_1, k_2, k_3, k_4, k_5, k_6, k_7, k_8, k_9, k_10, k_11, _, _, _, _, _, _, _, _, _, _, _, _, _⟩ := blk12 HA.out
          obtain ⟨c_0, c_1, _, _, _⟩ := blk2 HS.out
          go_enter Tryz.func15, Tryz.ntmps15
          go_wp2_with fail
          rw [← e1]
          clear e1
          refine (HCk.out _).mono ?_
          rintro e w1 ⟨rfl, rfl⟩
          rw [hm] at HMy
          rw [hs] at HSt
          rw [hl] at HLs
          clear hm hs hl
          go_wp2_with fail
          refine (HMy.out _).mono ?_
          rintro e w2 ⟨rfl, hg⟩
          have HX := Lib.hid (HX.out.trans hg)
          have HA := Lib.hid (hg.blk HA.out)
          have HS := Lib.hid (hg.blk HS.out)
          have HF := Lib.hid (hg.blk HF.out)
          clear k_0 k_1 k_2 k_3 k_4 k_5 k_6 k_7 k_8 k_9 k_10 k_11 c_0 c_1 hg
          obtain ⟨k_0, k_1, k_2, k_3, k_4, k_5, k_6, k_7, k_8, k_9, k_10, k_11, _, _, _, _, _, _, _, _, _, _, _, _, _⟩ := blk12 HA.out
          obtain ⟨c_0, c_1, _, _, _⟩ := blk2 HS.out
          go_wp2_with fail
          refine (HSt.out _).mono ?_
          rintro e w3 ⟨rfl, hg⟩
          have HX := Lib.hid (HX.out.trans hg)
          have HA := Lib.hid (hg.blk HA.out)
          have HS := Lib.hid (hg.blk HS.out)
          have HF := Lib.hid (hg.blk HF.out)
          clear k_0 k_1 k_2 k_3 k_4 k_5 k_6 k_7 k_8 k_9 k_10 k_11 c_0 c_1 hg
          obtain ⟨k_0, k_1, k_2, k_3, k_4, k_5, k_6, k_7, k_8, k_9, k_10, k_11, _, _, _, _, _, _, _, _, _, _, _, _, _⟩ := blk12 HA.out
          obtain ⟨c_0, c_1, _, _, _⟩ := blk2 HS.out
          go_wp2_with fail
          refine (HLs.out _).mono ?_
          rintro e w4 ⟨rfl, hg⟩
          have HX := Lib.hid (HX.out.trans hg)
          have HA := Lib.hid (hg.blk HA.out)
          have HS := Lib.hid (hg.blk HS.out)
          have HF := Lib.hid (hg.blk HF.out)
          clear k_0 k_1 k_2 k_3 k_4 k_5 k_6 k_7 k_8 k_9 k_10 k_11 c_0 c_1 hg
          go_wp2_with (refine wpList_store_row (by rfl) _ _ _ (by rfl) _ (fndA fnd0 (.slice none 0 0)) (by rfl) (by rfl) _ _ HF.out HI15.out (by rfl) (fnd_one _ _ _ _) ?_)
          refine bodyPost_ret (v := .tuple #[.agg (fndA fnd0 (.slice none 0 0)), .int .i64 _]) ?_ rfl ⟨_, by rw [HRs.out], by rw [HRs.out]; exact .inl ⟨rfl, none, 0, rfl, by decide, fun _ => rfl⟩, ⟨below_setRow HX.out.b (by omega) _⟩⟩
          exact results_row_tmp rfl _ _ (w.heap.size + 1 + 1) 51 (fndA fnd0 (.slice none 0 0)) (0, 0) _ rfl (setRow_heap _ _ _ _ _ _ HF.out) Tryz.underlying51 rfl HI15.out rfl
        | true =>
          have HRs : Hid (getD R key x a b = foundD R key x) := Lib.hid (by rw [HR.out, hk, hm, hb, hl]; rfl)
          obtain ⟨W1, hW1⟩ : ∃ W1, W1 = ((w.alloc (.cells (txC x) 28)).alloc (.cells #[.int .i64 a, .int .i64 b] 26)).alloc (.cells (fndA fnd0 (.slice none 0 0)) 51) := ⟨_, rfl⟩
          have HX := Lib.hid (show Gr w W1 by rw [hW1]; exact (((Gr.refl w).alloc _).alloc _).alloc _)
          have HA := Lib.hid (show W1.heap[w.heap.size]? = some (.cells (txC x) 28) by rw [hW1]; exact ((Gr.refl _).alloc _).blk (((Gr.refl _).alloc _).blk (heap_alloc_new w _)))
          have HS := Lib.hid (show W1.heap[w.heap.size + 1]? = some (.cells #[.int .i64 a, .int .i64 b] 26) by rw [hW1]; exact ((Gr.refl _).alloc _).blk (heap_newn (by simp)))
          have HF := Lib.hid (show W1.heap[w.heap.size + 1 + 1]? = some (.cells (fndA fnd0 (.slice none 0 0)) 51) by rw [hW1]; exact heap_newn (by simp))
          have HI15 : Hid ((Tryz.prog.info? 51).map (·.size) = some 15) := Lib.hid (by kernel_rfl)
          have HCk := Lib.hid (refCheck_any key)
          have HMy := Lib.hid (refMay12 x)
          have HSt := Lib.hid (refStampCheck_ck a b)
          have HLs := Lib.hid (refLess_any a b x.rw x.rl)
          have HW1 := Lib.hid hW1
          have e1 := HW1.out
          clear hW1
          unfold txC fndA fnd0 itt0 at e1
          simp only at e1
          unfold txC at HA HMy ⊢
          obtain ⟨k_0, k_1, k_2, k_3, k_4, k_5, k_6, k_7, k_8, k_9, k_10, k_11, _, _, _, _, _, _, _, _, _, _, _, _, _⟩ := blk12 HA.out
          obtain ⟨c_0, c_1, _, _, _⟩ := blk2 HS.out
          go_enter Tryz.func15, Tryz.ntmps15
          go_wp2_with fail
          rw [← e1]
          clear e1
          refine (HCk.out _).mono ?_
          rintro e w1 ⟨rfl, rfl⟩
          rw [hm] at HMy
          rw [hs] at HSt
          rw [hl] at HLs
          clear hm hs hl
          go_wp2_with fail
          refine (HMy.out _).mono ?_
          rintro e w2 ⟨rfl, hg⟩
          have HX := Lib.hid (HX.out.trans hg)
          have HA := Lib.hid (hg.blk HA.out)
          have HS := Lib.hid (hg.blk HS.out)
          have HF := Lib.hid (hg.blk HF.out)
          clear k_0 k_1 k_2 k_3 k_4 k_5 k_6 k_7 k_8 k_9 k_10 k_11 c_0 c_1 hg
          obtain ⟨k_0, k_1, k_2, k_3, k_4, k_5, k_6, k_7, k_8, k_9, k_10, k_11, _, _, _, _, _, _, _, _, _, _, _, _, _⟩ := blk12 HA.out
          obtain ⟨c_0, c_1, _, _, _⟩ := blk2 HS.out
          go_wp2_with fail
          refine (HSt.out _).mono ?_
          rintro e w3 ⟨rfl, hg⟩
          have HX := Lib.hid (HX.out.trans hg)
          have HA := Lib.hid (hg.blk HA.out)
          have HS := Lib.hid (hg.blk HS.out)
          have HF := Lib.hid (hg.blk HF.out)
          clear k_0 k_1 k_2 k_3 k_4 k_5 k_6 k_7 k_8 k_9 k_10 k_11 c_0 c_1 hg
          obtain ⟨k_0, k_1, k_2, k_3, k_4, k_5, k_6, k_7, k_8, k_9, k_10, k_11, _, _, _, _, _, _, _, _, _, _, _, _, _⟩ := blk12 HA.out
          obtain ⟨c_0, c_1, _, _, _⟩ := blk2 HS.out
          go_wp2_with fail
          refine (HLs.out _).mono ?_
          rintro e w4 ⟨rfl, hg⟩
          have HX := Lib.hid (HX.out.trans hg)
          have HA := Lib.hid (hg.blk HA.out)
          have HS := Lib.hid (hg.blk HS.out)
          have HF := Lib.hid (hg.blk HF.out)
          clear k_0 k_1 k_2 k_3 k_4 k_5 k_6 k_7 k_8 k_9 k_10 k_11 c_0 c_1 hg
          obtain ⟨k_0, k_1, k_2, k_3, k_4, k_5, k_6, k_7, k_8, k_9, k_10, k_11, _, _, _, _, _, _, _, _, _, _, _, _, _⟩ := blk12 HA.out
          obtain ⟨c_0, c_1, _, _, _⟩ := blk2 HS.out
          have HRd := Lib.hid (read12 (HT.out.gr HX.out) HLen.out HSz.out HKy.out x)
          unfold txC at HRd
          generalize foundD R key x = ff at *
          obtain ⟨f, fe⟩ := ff
          simp only at HRd
          go_wp2_with fail
          refine HRd.out.mono ?_
          rintro e w5 ⟨vl, rfl, hrd, hg⟩
          obtain ⟨vq, vz, vc, rfl⟩ := rdc_slice hrd
          have HRd5 := Lib.hid hrd
          clear hrd
          have HX := Lib.hid (HX.out.trans hg)
          have HA := Lib.hid (hg.blk HA.out)
          have HS := Lib.hid (hg.blk HS.out)
          have HF := Lib.hid (hg.blk HF.out)
          clear k_0 k_1 k_2 k_3 k_4 k_5 k_6 k_7 k_8 k_9 k_10 k_11 c_0 c_1 hg
          have HRdF := Lib.hid (chg_kept (w' := w5.setRow (w.heap.size + 1 + 1) (fndA f (.slice vq vz vc))) HRd5.out (Nat.le_of_eq (size_setRow _ _ _).symm) (fun k o hk ho => by rw [setRow_other _ _ _ _ hk]; exact ho) HF.out (noChg_fnd _ _))
          go_wp2_with (refine wpList_store_row (by rfl) _ _ _ (by rfl) _ (fndA f (.slice vq vz vc)) (by rfl) (by rfl) _ _ HF.out HI15.out (by rfl) (fnd_one _ _ _ _) ?_)
          refine bodyPost_ret (v := .tuple #[.agg (fndA f (.slice vq vz vc)), .int .i64 fe]) ?_ rfl ⟨_, by rw [HRs.out], by rw [HRs.out]; exact HRdF.out, ⟨below_setRow HX.out.b (by omega) _⟩⟩
          exact results_row_tmp rfl _ _ (w.heap.size + 1 + 1) 51 (fndA f (.slice vq vz vc)) (0, 0) _ rfl (setRow_heap _ _ _ _ _ _ HF.out) Tryz.underlying51 rfl HI15.out rfl
end Go.Proofs.YthgecojbggoniaaGreatDoor
