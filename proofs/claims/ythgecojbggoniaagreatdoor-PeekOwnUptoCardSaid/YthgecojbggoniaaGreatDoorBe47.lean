/- What the rows stand on, part 47: PekF. Printed by bundle.py out of my texts. -/
import Derived.Test.YthgecojbggoniaaGreatDoorBe02
import Derived.Test.YthgecojbggoniaaGreatDoorBe18
import Derived.Test.YthgecojbggoniaaGreatDoorBe43
import Derived.Test.YthgecojbggoniaaGreatDoorBe44
namespace Go.Proofs.YthgecojbggoniaaGreatDoor
open Go.RowKit
set_option maxRecDepth 100000
set_option linter.unusedVariables false
set_option linter.unusedSimpArgs false
set_option linter.unnecessarySimpa false

theorem keyOk_check (key : ByteArray) : (checkE key.size == 0) = keyOk key := by
  unfold checkE keyOk
  split <;> rename_i h
  · simp [h]
  · simp [h]
set_option maxHeartbeats 8000000 in
theorem get12 {ta : Nat} {S : Nat → Prop} {R : List Rw} {w : World} (hw : Sh w) (h : TabAt ta S R w) (hsz : ∀ x ∈ R, x.1.size < 140737488355328 ∧ x.2.size ≤ 140737488351232) (hszp : ∀ x ∈ R, SzP x) (key : ByteArray) (x : Tx) (a b : Int) :
    Calls Tryz.prog 11 #[.pointer (some ⟨ta, 0, none⟩), .string key, .agg (txC x), .agg #[.int .i64 a, .int .i64 b]] w fun e w' => ∃ vl, e = .returned (.tuple #[.agg (fndA (getF R key x a b).1 vl), .int .i64 (getF R key x a b).2]) ∧ RdC w' vl (getF R key x a b).1.way.l ∧ Gr w w' := by
  have HB := Lib.hid (fun w => begins_any ta (keyOk key) x a b w)
  have HK := Lib.hid (fun w' g (hg : Gr w w') (hb : w'.heap[g]? = some (Obj.cells (rdgC ta x) 123 (0, 0))) => key12 (hw.gr hg) (h.gr hg) hb hsz hszp key)
  have HR : Hid (getF R key x a b = if beginsE (keyOk key) x a b ≠ 0 then (fnd0, beginsE (keyOk key) x a b) else foundF R key x) := Lib.hid rfl
  have HC : Hid ((checkE key.size == 0) = keyOk key) := Lib.hid (keyOk_check key)
  have HI15 : Hid ((Tryz.prog.info? 42).map (·.size) = some 15) := Lib.hid (by kernel_rfl)
  clear hw h hsz hszp
  generalize beginsE (keyOk key) x a b = ee at *
  generalize getF R key x a b = gg at *
  unfold txC at *
  obtain ⟨W1, hW1⟩ : ∃ W1, W1 = ((w.alloc (.cells #[.int .i64 x.id, .int .i64 x.ep, .int .i64 x.pr, .string x.an, .int .i64 x.rw, .int .i64 x.rl, .int .i64 x.ww, .int .i64 x.wl, .int .i64 x.lw, .int .i64 x.ll, .int .i64 x.bw, .int .i64 x.bl] 28)).alloc (.cells #[.int .i64 a, .int .i64 b] 26)).alloc (.cells #[.string ⟨#[]⟩, .string ⟨#[]⟩, .bool false, .bool false, .int .i64 0, .int .i64 0, .int .i64 0, .int .i64 0, .int .i64 0, .string ⟨#[]⟩, .int .i64 0, .int .i64 0, .int .i64 0, .int .i64 0, .slice none 0 0] 42) := ⟨_, rfl⟩
  have HX1 : Hid (Gr w W1) := Lib.hid (by rw [hW1]; exact (((Gr.refl w).alloc _).alloc _).alloc _)
  have HF : Hid (W1.heap[w.heap.size + 1 + 1]? = some (.cells (fndA fnd0 (.slice none 0 0)) 42)) := Lib.hid (by rw [hW1]; exact heap_newn (by simp))
  obtain ⟨k_0, k_1, k_2, k_3, k_4, k_5, k_6, k_7, k_8, k_9, k_10, k_11, _, _, _, _, _, _, _, _, _, _, _, _, _⟩ := blk12 (show W1.heap[w.heap.size]? = _ by rw [hW1]; exact ((Gr.refl _).alloc _).blk (((Gr.refl _).alloc _).blk (heap_alloc_new w _)))
  obtain ⟨c_0, c_1, _, _, _⟩ := blk2 (show W1.heap[w.heap.size + 1]? = _ by rw [hW1]; exact ((Gr.refl _).alloc _).blk (heap_newn (by simp)))
  have F0 := cellRule (w := W1.drew) k_0
  have F1 := cellRule (w := W1.drew) k_1
  have F2 := cellRule (w := W1.drew) k_2
  have F3 := cellRule (w := W1.drew) k_3
  have F4 := cellRule (w := W1.drew) k_4
  have F5 := cellRule (w := W1.drew) k_5
  have F6 := cellRule (w := W1.drew) k_6
  have F7 := cellRule (w := W1.drew) k_7
  have F8 := cellRule (w := W1.drew) k_8
  have F9 := cellRule (w := W1.drew) k_9
  have F10 := cellRule (w := W1.drew) k_10
  have F11 := cellRule (w := W1.drew) k_11
  have G0 := cellRule (w := W1.drew) c_0
  have G1 := cellRule (w := W1.drew) c_1
  have HW1 := Lib.hid hW1
  clear k_0 k_1 k_2 k_3 k_4 k_5 k_6 k_7 k_8 k_9 k_10 k_11 c_0 c_1 hW1
  go_enter Tryz.func11, Tryz.ntmps11
  go_wp2_with fail
  rw [← HW1.out]
  refine wp_region_T (S := fun w' => Gr W1.drew w') [] (by kernel_rfl) (Gr.refl _) (fun hHeld => ?_)
  try dsimp only at hHeld
  refine wpAnyT_take (i := 0) rfl (by kernel_rfl) (by kernel_rfl) (by kernel_rfl) (by kernel_rfl) (fun _ _ _ h => h) (Or.inl ⟨by rfl, by intro w hSw; (try dsimp only at hSw); go_simp; (try with_reducible rfl)⟩) (by assumption) ?_; (try simp only [Act.put, List.setIfInBounds_toArray, List.set_cons_zero, List.set_cons_succ, List.getElem_toArray, List.getElem_cons_zero, List.getElem_cons_succ])
  refine wpAnyT_take (i := 1) rfl (by kernel_rfl) (by kernel_rfl) (by kernel_rfl) (by kernel_rfl) (fun _ _ _ h => h) (Or.inl ⟨by rfl, by intro w hSw; (try dsimp only at hSw); go_simp; (try with_reducible rfl)⟩) (by assumption) ?_; (try simp only [Act.put, List.setIfInBounds_toArray, List.set_cons_zero, List.set_cons_succ, List.getElem_toArray, List.getElem_cons_zero, List.getElem_cons_succ])
  refine wpAnyT_take (i := 4) rfl (by kernel_rfl) (by kernel_rfl) (by kernel_rfl) (by kernel_rfl) (fun _ _ _ h => h) (Or.inl ⟨by rfl, by intro w hSw; (try dsimp only at hSw); go_simp; (try with_reducible rfl)⟩) (by assumption) ?_; (try simp only [Act.put, List.setIfInBounds_toArray, List.set_cons_zero, List.set_cons_succ, List.getElem_toArray, List.getElem_cons_zero, List.getElem_cons_succ])
  refine wpAnyT_take (i := 5) rfl (by kernel_rfl) (by kernel_rfl) (by kernel_rfl) (by kernel_rfl) (fun _ _ _ h => h) (Or.inl ⟨by rfl, by intro w hSw; (try dsimp only at hSw); go_simp; (try with_reducible rfl)⟩) (by assumption) ?_; (try simp only [Act.put, List.setIfInBounds_toArray, List.set_cons_zero, List.set_cons_succ, List.getElem_toArray, List.getElem_cons_zero, List.getElem_cons_succ])
  refine wpAnyT_ready (rs := [2]) (by kernel_rfl) (by simp) ?_
  refine AllReadyT.cons rfl (fun K hK => ?_) AllReadyT.nil
  go_simp
  refine (check_any _ _).mono ?_
  rintro e w1 ⟨rfl, rfl⟩
  refine hK.out _ _ (by assumption) (fun _ => ?_)
  clear hK K
  refine wpAnyT_take (i := 3) rfl (by kernel_rfl) (by kernel_rfl) (by kernel_rfl) (by kernel_rfl) (fun _ _ _ h => h) (Or.inl ⟨by rfl, by intro w hSw; (try dsimp only at hSw); go_simp; (try with_reducible rfl)⟩) (by assumption) ?_; (try simp only [Act.put, List.setIfInBounds_toArray, List.set_cons_zero, List.set_cons_succ, List.getElem_toArray, List.getElem_cons_zero, List.getElem_cons_succ])
  rw [HC.out]
  refine wpAnyT_ready (rs := [6]) (by kernel_rfl) (by simp) ?_
  refine AllReadyT.cons rfl (fun K hK => ?_) AllReadyT.nil
  go_simp
  refine (HB.out _).mono ?_
  rintro e w2 ⟨rp, rfl, hg2, hb2⟩
  refine hK.out _ _ hg2 (fun _ => wpAnyT_turn hg2 (fun hHeld => ?_))
  clear hK K F0 F1 F2 F3 F4 F5 F6 F7 F8 F9 F10 F11 G0 G1
  refine wpAnyT_take (i := 7) rfl (by kernel_rfl) (by kernel_rfl) (by kernel_rfl) (by kernel_rfl) (fun _ _ _ h => h) (Or.inl ⟨by rfl, by intro w hSw; (try dsimp only at hSw); go_simp; (try with_reducible rfl)⟩) (by assumption) ?_; (try simp only [Act.put, List.setIfInBounds_toArray, List.set_cons_zero, List.set_cons_succ, List.getElem_toArray, List.getElem_cons_zero, List.getElem_cons_succ])
  refine wpAnyT_take (i := 8) rfl (by kernel_rfl) (by kernel_rfl) (by kernel_rfl) (by kernel_rfl) (fun _ _ _ h => h) (Or.inl ⟨by rfl, by intro w hSw; (try dsimp only at hSw); go_simp; (try with_reducible rfl)⟩) (by assumption) ?_; (try simp only [Act.put, List.setIfInBounds_toArray, List.set_cons_zero, List.set_cons_succ, List.getElem_toArray, List.getElem_cons_zero, List.getElem_cons_succ])
  refine wpAnyT_take (i := 9) rfl (by kernel_rfl) (by kernel_rfl) (by kernel_rfl) (by kernel_rfl) (fun _ _ _ h => h) (Or.inl ⟨by rfl, by intro w hSw; (try dsimp only at hSw); go_simp; (try with_reducible rfl)⟩) (by assumption) ?_; (try simp only [Act.put, List.setIfInBounds_toArray, List.set_cons_zero, List.set_cons_succ, List.getElem_toArray, List.getElem_cons_zero, List.getElem_cons_succ])
  refine wpAnyT_take (i := 10) rfl (by kernel_rfl) (by kernel_rfl) (by kernel_rfl) (by kernel_rfl) (fun _ _ _ h => h) (Or.inl ⟨by rfl, by intro w hSw; (try dsimp only at hSw); go_simp; (try with_reducible rfl)⟩) (by assumption) ?_; (try simp only [Act.put, List.setIfInBounds_toArray, List.set_cons_zero, List.set_cons_succ, List.getElem_toArray, List.getElem_cons_zero, List.getElem_cons_succ])
  refine wpAnyT_take (i := 11) rfl (by kernel_rfl) (by kernel_rfl) (by kernel_rfl) (by kernel_rfl) (fun _ _ _ h => h) (Or.inl ⟨by rfl, by intro w hSw; (try dsimp only at hSw); go_simp; (try with_reducible rfl)⟩) (by assumption) ?_; (try simp only [Act.put, List.setIfInBounds_toArray, List.set_cons_zero, List.set_cons_succ, List.getElem_toArray, List.getElem_cons_zero, List.getElem_cons_succ])
  refine wpAnyT_done (by kernel_rfl) ?_ _
  have HX2 := Lib.hid (HX1.out.drew.trans hg2)
  have HF2 := Lib.hid (hg2.blk (heap_drew HF.out))
  have HB2 := Lib.hid hb2
  clear hg2 hb2 hHeld
  by_cases hee : ee = 0
  · obtain ⟨g, rfl, hgb⟩ := HB2.out hee
    have HRes : Hid (gg = foundF R key x) := Lib.hid (by rw [HR.out, if_neg (by simp [hee])])
    have HKk := Lib.hid (HK.out w2 g HX2.out hgb)
    subst hee
    clear HB2 hgb HK
    generalize foundF R key x = ff at *
    obtain ⟨f, fe⟩ := ff
    simp only at HKk
    go_wp2_with fail
    refine HKk.out.mono ?_
    rintro e w3 ⟨vl, rfl, hrd, hg3⟩
    obtain ⟨vq, vz, vc, rfl⟩ := rdc_slice hrd
    have H4 := Lib.hid (hg3.blk HF2.out)
    have HXf := Lib.hid (HX2.out.trans hg3)
    have HRd := Lib.hid (chg_kept (w' := w3.setRow (w.heap.size + 1 + 1) (fndA f (.slice vq vz vc))) hrd (Nat.le_of_eq (size_setRow _ _ _).symm) (fun k o hk ho => by rw [setRow_other _ _ _ _ hk]; exact ho) H4.out (noChg_fnd _ _))
    clear hrd hg3
    go_wp2_with (refine wpList_store_row (by rfl) _ _ _ (by rfl) _ (fndA f (.slice vq vz vc)) (by rfl) (by rfl) _ _ H4.out HI15.out (by rfl) (fnd_one _ _ _ _) ?_)
    refine bodyPost_ret (v := .tuple #[.agg (fndA f (.slice vq vz vc)), .int .i64 fe]) ?_ rfl ⟨_, by rw [HRes.out], by rw [HRes.out]; exact HRd.out, ⟨below_setRow HXf.out.b (by omega) _⟩⟩
    exact results_row_tmp rfl _ _ (w.heap.size + 1 + 1) 42 (fndA f (.slice vq vz vc)) (0, 0) _ rfl (setRow_heap _ _ _ _ _ _ H4.out) Tryz.underlying42 rfl HI15.out rfl
  · have HRes : Hid (gg = (fnd0, ee)) := Lib.hid (by rw [HR.out, if_pos hee])
    have hne : (ee == 0) = false := by simpa using hee
    clear HB2 HK
    go_wp2_with (refine wpList_store_row (by rfl) _ _ _ (by rfl) _ (fndA fnd0 (.slice none 0 0)) (by rfl) (by rfl) _ _ HF2.out HI15.out (by rfl) (fnd_one _ _ _ _) ?_)
    refine bodyPost_ret (v := .tuple #[.agg (fndA fnd0 (.slice none 0 0)), .int .i64 ee]) ?_ rfl ⟨_, by rw [HRes.out], by rw [HRes.out]; exact .inl ⟨rfl, none, 0, rfl, by decide, fun _ => rfl⟩, ⟨below_setRow HX2.out.b (by omega) _⟩⟩
    exact results_row_tmp rfl _ _ (w.heap.size + 1 + 1) 42 (fndA fnd0 (.slice none 0 0)) (0, 0) _ rfl (setRow_heap _ _ _ _ _ _ HF2.out) Tryz.underlying42 rfl HI15.out rfl
end Go.Proofs.YthgecojbggoniaaGreatDoor
