/- What the rows stand on, part 31: CelZ. Printed by bundle.py out of my texts. -/
import Derived.Test.YthgecojbggoniaaGreatDoorBe24
namespace Go.Proofs.YthgecojbggoniaaGreatDoor
open Go.RowKit
set_option maxRecDepth 100000
set_option linter.unusedVariables false
set_option linter.unusedSimpArgs false

theorem chgW_length (c : Chg) : (chgW c).length ≤ 88 := by
  have h1 := numW_length c.seq
  have h2 := numW_length (if c.del = true then 1 else 0)
  have h3 := strW_length c.value.data.toList
  simp only [chgW, List.length_append]
  omega
theorem chgsW_length : ∀ l : List Chg, (l.flatMap chgW).length ≤ 88 * l.length
  | [] => by simp
  | c :: r => by
    have h1 := chgW_length c
    have h2 := chgsW_length r
    simp only [List.flatMap_cons, List.length_append, List.length_cons]
    omega
def ittH (x : Itt) : List UInt8 := numW x.id ++ numW x.epoch ++ numW x.prio ++ strW x.anchor.data.toList ++ stampW (x.sw, x.sl) ++ stampW (x.bw, x.bl) ++ numW (x.l.length : Int)
theorem ittW_eq (x : Itt) : ittW x = ittH x ++ x.l.flatMap chgW := by simp [ittW, ittH, stampW]
theorem ittH_length (x : Itt) : (ittH x).length ≤ 136 := by
  have l1 := numW_length x.id
  have l2 := numW_length x.epoch
  have l3 := numW_length x.prio
  have l4 := strW_length x.anchor.data.toList
  have l5 := numW_length x.sw
  have l6 := numW_length x.sl
  have l7 := numW_length x.bw
  have l8 := numW_length x.bl
  have l9 := numW_length (x.l.length : Int)
  simp only [ittH, stampW, List.length_append]
  omega
theorem ok16 {x : Itt} (h : ittOk x = true) : x.l.length ≤ 16 := by
  simp only [ittOk, Bool.and_eq_true, decide_eq_true_eq] at h
  exact h.1.2

set_option maxHeartbeats 8000000 in
theorem refIntent_any {w : World} (x : Itt) {vl : Value} (h : RdC w vl x.l) (hlen : x.l.length ≤ 140737488355328) :
    Calls Tryz.prog 49 #[.agg #[.int .i64 x.id, .int .i64 x.epoch, .int .i64 x.prio, .string x.anchor, .int .i64 x.sw, .int .i64 x.sl, .int .i64 x.bw, .int .i64 x.bl, vl]] w fun e w' => e = .returned (.tuple #[.string ⟨(ittT x).toArray⟩, .int .i64 (okE (ittOk x))]) ∧ Gr w w' := by
  have hbx := heap_alloc_new w (.cells #[.int .i64 x.id, .int .i64 x.epoch, .int .i64 x.prio, .string x.anchor, .int .i64 x.sw, .int .i64 x.sl, .int .i64 x.bw, .int .i64 x.bl, vl] 40)
  have HBX := Lib.hid hbx
  obtain ⟨k_0, k_1, k_2, k_3, k_4, k_5, k_6, k_7, k_8, g_0, g_1, g_2, g_3, g_4, g_5, g_6, g_7, g_8, l_0⟩ := blk9 hbx
  clear hbx
  have HM := Lib.hid (fun (w' : World) (hg : Gr w w') => mayIntent_any x (h.gr hg) hlen)
  have HT : Hid (ittT x = if ittOk x = true then ittW x else []) := Lib.hid rfl
  obtain ⟨q, c, hvl⟩ := h.form
  have HL := Lib.hid h
  subst hvl
  clear h
  cases hok : ittOk x with
  | false =>
    rw [hok] at HM HT
    clear hok
    go_enter Tryz.func49, Tryz.ntmps49
    go_wp2_with (go_at_call 79; refine (HM.out _ (by repeat (first | (with_reducible exact Gr.refl _) | (with_reducible assumption) | (with_reducible refine Gr.alloc ?_ _) | (with_reducible refine Gr.drew ?_) | (with_reducible refine Gr.drewN ?_ _) | (with_reducible refine Gr.trans ?_ (by assumption)) | (with_reducible refine Gr.setCell ?_ (by first | exact Nat.le_refl _ | omega | (simp; done) | (simp; omega)) _)))).mono ?_; rintro e w1 ⟨rfl, hg1⟩)
    go_ret2
    exact ⟨by rw [HT.out]; rfl, (by repeat (first | (with_reducible exact Gr.refl _) | (with_reducible assumption) | (with_reducible refine Gr.alloc ?_ _) | (with_reducible refine Gr.drew ?_) | (with_reducible refine Gr.drewN ?_ _) | (with_reducible refine Gr.trans ?_ (by assumption)) | (with_reducible refine Gr.setCell ?_ (by first | exact Nat.le_refl _ | omega | (simp; done) | (simp; omega)) _)))⟩
  | true =>
    have h16 := ok16 hok
    rw [hok] at HM HT
    have HW : Hid (ittT x = ittH x ++ x.l.flatMap chgW) := Lib.hid (by rw [HT.out, if_pos rfl, ittW_eq])
    clear hok
    have l1 := numW_length x.id
    have l2 := numW_length x.epoch
    have l3 := numW_length x.prio
    have l4 := strW_length x.anchor.data.toList
    have l5 : (stampW (x.sw, x.sl)).length ≤ 16 := by have a := numW_length x.sw; have b := numW_length x.sl; simp only [stampW, List.length_append]; omega
    have l6 : (stampW (x.bw, x.bl)).length ≤ 16 := by have a := numW_length x.bw; have b := numW_length x.bl; simp only [stampW, List.length_append]; omega
    have l7 := numW_length (x.l.length : Int)
    have hq1 : ¬ 9223372036854775807 < (numW x.id).length + (numW x.epoch).length := by omega
    have hq2 : ¬ 9223372036854775807 < (numW x.id).length + (numW x.epoch).length + (numW x.prio).length := by omega
    have hq3 : ¬ 9223372036854775807 < (numW x.id).length + (numW x.epoch).length + (numW x.prio).length + (strW x.anchor.data.toList).length := by omega
    have hq4 : ¬ 9223372036854775807 < (numW x.id).length + (numW x.epoch).length + (numW x.prio).length + (strW x.anchor.data.toList).length + (stampW (x.sw, x.sl)).length := by omega
    have hq5 : ¬ 9223372036854775807 < (numW x.id).length + (numW x.epoch).length + (numW x.prio).length + (strW x.anchor.data.toList).length + (stampW (x.sw, x.sl)).length + (stampW (x.bw, x.bl)).length := by omega
    have hq6 : ¬ 9223372036854775807 < (numW x.id).length + (numW x.epoch).length + (numW x.prio).length + (strW x.anchor.data.toList).length + (stampW (x.sw, x.sl)).length + (stampW (x.bw, x.bl)).length + (numW (x.l.length : Int)).length := by omega
    go_enter Tryz.func49, Tryz.ntmps49
    go_wp2_with (go_at_call 79; refine (HM.out _ (by repeat (first | (with_reducible exact Gr.refl _) | (with_reducible assumption) | (with_reducible refine Gr.alloc ?_ _) | (with_reducible refine Gr.drew ?_) | (with_reducible refine Gr.drewN ?_ _) | (with_reducible refine Gr.trans ?_ (by assumption)) | (with_reducible refine Gr.setCell ?_ (by first | exact Nat.le_refl _ | omega | (simp; done) | (simp; omega)) _)))).mono ?_; rintro e w1 ⟨rfl, hg1⟩)
    have hg0 : Gr w w1 := ((Gr.refl w).alloc _).trans hg1
    have HB1 := Lib.hid (hg1.blk HBX.out)
    obtain ⟨k_0, k_1, k_2, k_3, k_4, k_5, k_6, k_7, k_8, g_0, g_1, g_2, g_3, g_4, g_5, g_6, g_7, g_8, l_0⟩ := blk9 (heap_drew HB1.out)
    have F0 := cellRule k_0
    have F1 := cellRule k_1
    have F2 := cellRule k_2
    have F3 := cellRule k_3
    have F4 := cellRule k_4
    have F5 := cellRule k_5
    have F6 := cellRule k_6
    have F7 := cellRule k_7
    have F8 := cellRule k_8
    clear k_0 k_1 k_2 k_3 k_4 k_5 k_6 k_7 k_8 g_0 g_1 g_2 g_3 g_4 g_5 g_6 g_7 g_8
    refine wp_region_held_drew (S := fun w' => Gr w1.drew w') (by kernel_rfl) (Gr.refl _) (fun hHeld => ?_)
    try dsimp only at hHeld
    refine wpAnyH_take (i := 0) rfl (by kernel_rfl) (by kernel_rfl) (by kernel_rfl) (fun _ _ _ h => h) (Or.inl ⟨by rfl, by intro w hSw; (try dsimp only at hSw); go_simp; (try with_reducible rfl)⟩) (by assumption) ?_; (try simp only [Act.put, List.setIfInBounds_toArray, List.set_cons_zero, List.set_cons_succ, List.getElem_toArray, List.getElem_cons_zero, List.getElem_cons_succ])
    refine wpAnyH_take (i := 1) rfl (by kernel_rfl) (by kernel_rfl) (by kernel_rfl) (fun _ _ _ h => h) (Or.inl ⟨by rfl, by intro w hSw; (try dsimp only at hSw); go_simp; (try with_reducible rfl)⟩) (by assumption) ?_; (try simp only [Act.put, List.setIfInBounds_toArray, List.set_cons_zero, List.set_cons_succ, List.getElem_toArray, List.getElem_cons_zero, List.getElem_cons_succ])
    refine wpAnyH_take (i := 4) rfl (by kernel_rfl) (by kernel_rfl) (by kernel_rfl) (fun _ _ _ h => h) (Or.inl ⟨by rfl, by intro w hSw; (try dsimp only at hSw); go_simp; (try with_reducible rfl)⟩) (by assumption) ?_; (try simp only [Act.put, List.setIfInBounds_toArray, List.set_cons_zero, List.set_cons_succ, List.getElem_toArray, List.getElem_cons_zero, List.getElem_cons_succ])
    refine wpAnyH_take (i := 5) rfl (by kernel_rfl) (by kernel_rfl) (by kernel_rfl) (fun _ _ _ h => h) (Or.inl ⟨by rfl, by intro w hSw; (try dsimp only at hSw); go_simp; (try with_reducible rfl)⟩) (by assumption) ?_; (try simp only [Act.put, List.setIfInBounds_toArray, List.set_cons_zero, List.set_cons_succ, List.getElem_toArray, List.getElem_cons_zero, List.getElem_cons_succ])
    refine wpAnyH_take (i := 9) rfl (by kernel_rfl) (by kernel_rfl) (by kernel_rfl) (fun _ _ _ h => h) (Or.inl ⟨by rfl, by intro w hSw; (try dsimp only at hSw); go_simp; (try with_reducible rfl)⟩) (by assumption) ?_; (try simp only [Act.put, List.setIfInBounds_toArray, List.set_cons_zero, List.set_cons_succ, List.getElem_toArray, List.getElem_cons_zero, List.getElem_cons_succ])
    refine wpAnyH_take (i := 10) rfl (by kernel_rfl) (by kernel_rfl) (by kernel_rfl) (fun _ _ _ h => h) (Or.inl ⟨by rfl, by intro w hSw; (try dsimp only at hSw); go_simp; (try with_reducible rfl)⟩) (by assumption) ?_; (try simp only [Act.put, List.setIfInBounds_toArray, List.set_cons_zero, List.set_cons_succ, List.getElem_toArray, List.getElem_cons_zero, List.getElem_cons_succ])
    refine wpAnyH_take (i := 14) rfl (by kernel_rfl) (by kernel_rfl) (by kernel_rfl) (fun _ _ _ h => h) (Or.inl ⟨by rfl, by intro w hSw; (try dsimp only at hSw); go_simp; (try with_reducible rfl)⟩) (by assumption) ?_; (try simp only [Act.put, List.setIfInBounds_toArray, List.set_cons_zero, List.set_cons_succ, List.getElem_toArray, List.getElem_cons_zero, List.getElem_cons_succ])
    refine wpAnyH_take (i := 15) rfl (by kernel_rfl) (by kernel_rfl) (by kernel_rfl) (fun _ _ _ h => h) (Or.inl ⟨by rfl, by intro w hSw; (try dsimp only at hSw); go_simp; (try with_reducible rfl)⟩) (by assumption) ?_; (try simp only [Act.put, List.setIfInBounds_toArray, List.set_cons_zero, List.set_cons_succ, List.getElem_toArray, List.getElem_cons_zero, List.getElem_cons_succ])
    refine wpAnyH_take (i := 19) rfl (by kernel_rfl) (by kernel_rfl) (by kernel_rfl) (fun _ _ _ h => h) (Or.inl ⟨by rfl, by intro w hSw; (try dsimp only at hSw); go_simp; (try with_reducible rfl)⟩) (by assumption) ?_; (try simp only [Act.put, List.setIfInBounds_toArray, List.set_cons_zero, List.set_cons_succ, List.getElem_toArray, List.getElem_cons_zero, List.getElem_cons_succ])
    refine wpAnyH_take (i := 20) rfl (by kernel_rfl) (by kernel_rfl) (by kernel_rfl) (fun _ _ _ h => h) (Or.inl ⟨by rfl, by intro w hSw; (try dsimp only at hSw); go_simp; (try with_reducible rfl)⟩) (by assumption) ?_; (try simp only [Act.put, List.setIfInBounds_toArray, List.set_cons_zero, List.set_cons_succ, List.getElem_toArray, List.getElem_cons_zero, List.getElem_cons_succ])
    refine wpAnyH_take (i := 23) rfl (by kernel_rfl) (by kernel_rfl) (by kernel_rfl) (fun _ _ _ h => h) (Or.inl ⟨by rfl, by intro w hSw; (try dsimp only at hSw); go_simp; (try with_reducible rfl)⟩) (by assumption) ?_; (try simp only [Act.put, List.setIfInBounds_toArray, List.set_cons_zero, List.set_cons_succ, List.getElem_toArray, List.getElem_cons_zero, List.getElem_cons_succ])
    refine wpAnyH_take (i := 24) rfl (by kernel_rfl) (by kernel_rfl) (by kernel_rfl) (fun _ _ _ h => h) (Or.inl ⟨by rfl, by intro w hSw; (try dsimp only at hSw); go_simp; (try with_reducible rfl)⟩) (by assumption) ?_; (try simp only [Act.put, List.setIfInBounds_toArray, List.set_cons_zero, List.set_cons_succ, List.getElem_toArray, List.getElem_cons_zero, List.getElem_cons_succ])
    refine wpAnyH_take (i := 27) rfl (by kernel_rfl) (by kernel_rfl) (by kernel_rfl) (fun _ _ _ h => h) (Or.inl ⟨by rfl, by intro w hSw; (try dsimp only at hSw); go_simp; (try with_reducible rfl)⟩) (by assumption) ?_; (try simp only [Act.put, List.setIfInBounds_toArray, List.set_cons_zero, List.set_cons_succ, List.getElem_toArray, List.getElem_cons_zero, List.getElem_cons_succ])
    refine wpAnyH_take (i := 28) rfl (by kernel_rfl) (by kernel_rfl) (by kernel_rfl) (fun _ _ _ h => h) (Or.inl ⟨by rfl, by intro w hSw; (try dsimp only at hSw); go_simp; (try with_reducible rfl)⟩) (by assumption) ?_; (try simp only [Act.put, List.setIfInBounds_toArray, List.set_cons_zero, List.set_cons_succ, List.getElem_toArray, List.getElem_cons_zero, List.getElem_cons_succ])
    refine wpAnyH_take (i := 29) rfl (by kernel_rfl) (by kernel_rfl) (by kernel_rfl) (fun _ _ _ h => h) (Or.inl ⟨by rfl, by intro w hSw; (try dsimp only at hSw); go_simp; (try with_reducible rfl)⟩) (by assumption) ?_; (try simp only [Act.put, List.setIfInBounds_toArray, List.set_cons_zero, List.set_cons_succ, List.getElem_toArray, List.getElem_cons_zero, List.getElem_cons_succ])
    refine wpAnyH_ready (rs := [2]) (by kernel_rfl) (by simp) ?_
    refine AllReadyH.cons rfl (fun K hK => ?_) AllReadyH.nil
    go_simp
    go_wp2_with (go_at_call 77; refine (refNumb_any x.id _).mono ?_; rintro e u1 ⟨v1, rfl, hown1, hu1⟩)
    refine hK.out _ _ hu1 (fun _ => wpAnyH_turn hu1 (fun hHeld => ?_))
    clear hK K
    try dsimp only at hHeld
    have F0' := Rule.turn F0 hu1
    have F1' := Rule.turn F1 hu1
    have F2' := Rule.turn F2 hu1
    have F3' := Rule.turn F3 hu1
    have F4' := Rule.turn F4 hu1
    have F5' := Rule.turn F5 hu1
    have F6' := Rule.turn F6 hu1
    have F7' := Rule.turn F7 hu1
    have F8' := Rule.turn F8 hu1
    clear F0 F1 F2 F3 F4 F5 F6 F7 F8
    have C1 := convRule hown1.rd
    refine wpAnyH_take (i := 3) rfl (by kernel_rfl) (by kernel_rfl) (by kernel_rfl) (fun _ _ _ h => h) (Or.inl ⟨by rfl, by intro w hSw; (try dsimp only at hSw); go_simp; (try with_reducible rfl)⟩) (by assumption) ?_; (try simp only [Act.put, List.setIfInBounds_toArray, List.set_cons_zero, List.set_cons_succ, List.getElem_toArray, List.getElem_cons_zero, List.getElem_cons_succ])
    refine wpAnyH_ready (rs := [6]) (by kernel_rfl) (by simp) ?_
    refine AllReadyH.cons rfl (fun K hK => ?_) AllReadyH.nil
    go_simp
    go_wp2_with (go_at_call 77; refine (refNumb_any x.epoch _).mono ?_; rintro e u2 ⟨v2, rfl, hown2, hu2⟩)
    refine hK.out _ _ hu2 (fun _ => wpAnyH_turn hu2 (fun hHeld => ?_))
    clear hK K
    try dsimp only at hHeld
    have F0'' := Rule.turn F0' hu2
    have F1'' := Rule.turn F1' hu2
    have F2'' := Rule.turn F2' hu2
    have F3'' := Rule.turn F3' hu2
    have F4'' := Rule.turn F4' hu2
    have F5'' := Rule.turn F5' hu2
    have F6'' := Rule.turn F6' hu2
    have F7'' := Rule.turn F7' hu2
    have F8'' := Rule.turn F8' hu2
    have C1' := Rule.turn C1 hu2
    clear F0' F1' F2' F3' F4' F5' F6' F7' F8' C1
    have C2 := convRule hown2.rd
    refine wpAnyH_take (i := 7) rfl (by kernel_rfl) (by kernel_rfl) (by kernel_rfl) (fun _ _ _ h => h) (Or.inl ⟨by rfl, by intro w hSw; (try dsimp only at hSw); go_simp; (try with_reducible rfl)⟩) (by assumption) ?_; (try simp only [Act.put, List.setIfInBounds_toArray, List.set_cons_zero, List.set_cons_succ, List.getElem_toArray, List.getElem_cons_zero, List.getElem_cons_succ])
    refine wpAnyH_take (i := 8) rfl (by kernel_rfl) (by kernel_rfl) (by kernel_rfl) (fun _ _ _ h => h) (Or.inl ⟨by rfl, by intro w hSw; (try dsimp only at hSw); go_simp; (try with_reducible rfl)⟩) (by assumption) ?_; (try simp only [Act.put, List.setIfInBounds_toArray, List.set_cons_zero, List.set_cons_succ, List.getElem_toArray, List.getElem_cons_zero, List.getElem_cons_succ])
    refine wpAnyH_ready (rs := [11]) (by kernel_rfl) (by simp) ?_
    refine AllReadyH.cons rfl (fun K hK => ?_) AllReadyH.nil
    go_simp
    go_wp2_with (go_at_call 77; refine (refNumb_any x.prio _).mono ?_; rintro e u3 ⟨v3, rfl, hown3, hu3⟩)
    refine hK.out _ _ hu3 (fun _ => wpAnyH_turn hu3 (fun hHeld => ?_))
    clear hK K
    try dsimp only at hHeld
    have F0''' := Rule.turn F0'' hu3
    have F1''' := Rule.turn F1'' hu3
    have F2''' := Rule.turn F2'' hu3
    have F3''' := Rule.turn F3'' hu3
    have F4''' := Rule.turn F4'' hu3
    have F5''' := Rule.turn F5'' hu3
    have F6''' := Rule.turn F6'' hu3
    have F7''' := Rule.turn F7'' hu3
    have F8''' := Rule.turn F8'' hu3
    have C1'' := Rule.turn C1' hu3
    have C2' := Rule.turn C2 hu3
    clear F0'' F1'' F2'' F3'' F4'' F5'' F6'' F7'' F8'' C1' C2
    have C3 := convRule hown3.rd
    refine wpAnyH_take (i := 12) rfl (by kernel_rfl) (by kernel_rfl) (by kernel_rfl) (fun _ _ _ h => h) (Or.inl ⟨by rfl, by intro w hSw; (try dsimp only at hSw); go_simp; (try with_reducible rfl)⟩) (by assumption) ?_; (try simp only [Act.put, List.setIfInBounds_toArray, List.set_cons_zero, List.set_cons_succ, List.getElem_toArray, List.getElem_cons_zero, List.getElem_cons_succ])
    refine wpAnyH_take (i := 13) rfl (by kernel_rfl) (by kernel_rfl) (by kernel_rfl) (fun _ _ _ h => h) (Or.inl ⟨by rfl, by intro w hSw; (try dsimp only at hSw); go_simp; (try with_reducible rfl)⟩) (by assumption) ?_; (try simp only [Act.put, List.setIfInBounds_toArray, List.set_cons_zero, List.set_cons_succ, List.getElem_toArray, List.getElem_cons_zero, List.getElem_cons_succ])
    refine wpAnyH_ready (rs := [16]) (by kernel_rfl) (by simp) ?_
    refine AllReadyH.cons rfl (fun K hK => ?_) AllReadyH.nil
    go_simp
    go_wp2_with (go_at_call 78; refine (refStrb_any x.anchor _).mono ?_; rintro e u4 ⟨v4, rfl, hown4, hu4⟩)
    refine hK.out _ _ hu4 (fun _ => wpAnyH_turn hu4 (fun hHeld => ?_))
    clear hK K
    try dsimp only at hHeld
    have F0'''' := Rule.turn F0''' hu4
    have F1'''' := Rule.turn F1''' hu4
    have F2'''' := Rule.turn F2''' hu4
    have F3'''' := Rule.turn F3''' hu4
    have F4'''' := Rule.turn F4''' hu4
    have F5'''' := Rule.turn F5''' hu4
    have F6'''' := Rule.turn F6''' hu4
    have F7'''' := Rule.turn F7''' hu4
    have F8'''' := Rule.turn F8''' hu4
    have C1''' := Rule.turn C1'' hu4
    have C2'' := Rule.turn C2' hu4
    have C3' := Rule.turn C3 hu4
    clear F0''' F1''' F2''' F3''' F4''' F5''' F6''' F7''' F8''' C1'' C2' C3
    have C4 := convRule hown4.rd
    refine wpAnyH_take (i := 17) rfl (by kernel_rfl) (by kernel_rfl) (by kernel_rfl) (fun _ _ _ h => h) (Or.inl ⟨by rfl, by intro w hSw; (try dsimp only at hSw); go_simp; (try with_reducible rfl)⟩) (by assumption) ?_; (try simp only [Act.put, List.setIfInBounds_toArray, List.set_cons_zero, List.set_cons_succ, List.getElem_toArray, List.getElem_cons_zero, List.getElem_cons_succ])
    refine wpAnyH_take (i := 18) rfl (by kernel_rfl) (by kernel_rfl) (by kernel_rfl) (fun _ _ _ h => h) (Or.inl ⟨by rfl, by intro w hSw; (try dsimp only at hSw); go_simp; (try with_reducible rfl)⟩) (by assumption) ?_; (try simp only [Act.put, List.setIfInBounds_toArray, List.set_cons_zero, List.set_cons_succ, List.getElem_toArray, List.getElem_cons_zero, List.getElem_cons_succ])
    refine wpAnyH_ready (rs := [21]) (by kernel_rfl) (by simp) ?_
    refine AllReadyH.cons rfl (fun K hK => ?_) AllReadyH.nil
    go_simp
    go_wp2_with (go_at_call 80; refine (refStamps_any x.sw x.sl _).mono ?_; rintro e u5 ⟨rfl, hu5⟩)
    refine hK.out _ _ hu5 (fun _ => wpAnyH_turn hu5 (fun hHeld => ?_))
    clear hK K
    try dsimp only at hHeld
    have F0''''' := Rule.turn F0'''' hu5
    have F1''''' := Rule.turn F1'''' hu5
    have F2''''' := Rule.turn F2'''' hu5
    have F3''''' := Rule.turn F3'''' hu5
    have F4''''' := Rule.turn F4'''' hu5
    have F5''''' := Rule.turn F5'''' hu5
    have F6''''' := Rule.turn F6'''' hu5
    have F7''''' := Rule.turn F7'''' hu5
    have F8''''' := Rule.turn F8'''' hu5
    have C1'''' := Rule.turn C1''' hu5
    have C2''' := Rule.turn C2'' hu5
    have C3'' := Rule.turn C3' hu5
    have C4' := Rule.turn C4 hu5
    clear F0'''' F1'''' F2'''' F3'''' F4'''' F5'''' F6'''' F7'''' F8'''' C1''' C2'' C3' C4
    refine wpAnyH_take (i := 22) rfl (by kernel_rfl) (by kernel_rfl) (by kernel_rfl) (fun _ _ _ h => h) (Or.inl ⟨by rfl, by intro w hSw; (try dsimp only at hSw); go_simp; (try with_reducible rfl)⟩) (by assumption) ?_; (try simp only [Act.put, List.setIfInBounds_toArray, List.set_cons_zero, List.set_cons_succ, List.getElem_toArray, List.getElem_cons_zero, List.getElem_cons_succ])
    refine wpAnyH_ready (rs := [25]) (by kernel_rfl) (by simp) ?_
    refine AllReadyH.cons rfl (fun K hK => ?_) AllReadyH.nil
    go_simp
    go_wp2_with (go_at_call 80; refine (refStamps_any x.bw x.bl _).mono ?_; rintro e u6 ⟨rfl, hu6⟩)
    refine hK.out _ _ hu6 (fun _ => wpAnyH_turn hu6 (fun hHeld => ?_))
    clear hK K
    try dsimp only at hHeld
    have F0'''''' := Rule.turn F0''''' hu6
    have F1'''''' := Rule.turn F1''''' hu6
    have F2'''''' := Rule.turn F2''''' hu6
    have F3'''''' := Rule.turn F3''''' hu6
    have F4'''''' := Rule.turn F4''''' hu6
    have F5'''''' := Rule.turn F5''''' hu6
    have F6'''''' := Rule.turn F6''''' hu6
    have F7'''''' := Rule.turn F7''''' hu6
    have F8'''''' := Rule.turn F8''''' hu6
    have C1''''' := Rule.turn C1'''' hu6
    have C2'''' := Rule.turn C2''' hu6
    have C3''' := Rule.turn C3'' hu6
    have C4'' := Rule.turn C4' hu6
    clear F0''''' F1''''' F2''''' F3''''' F4''''' F5''''' F6''''' F7''''' F8''''' C1'''' C2''' C3'' C4'
    refine wpAnyH_take (i := 26) rfl (by kernel_rfl) (by kernel_rfl) (by kernel_rfl) (fun _ _ _ h => h) (Or.inl ⟨by rfl, by intro w hSw; (try dsimp only at hSw); go_simp; (try with_reducible rfl)⟩) (by assumption) ?_; (try simp only [Act.put, List.setIfInBounds_toArray, List.set_cons_zero, List.set_cons_succ, List.getElem_toArray, List.getElem_cons_zero, List.getElem_cons_succ])
    refine wpAnyH_ready (rs := [30]) (by kernel_rfl) (by simp) ?_
    refine AllReadyH.cons rfl (fun K hK => ?_) AllReadyH.nil
    go_simp
    go_wp2_with (go_at_call 77; refine (refNumb_any x.l.length _).mono ?_; rintro e u7 ⟨v7, rfl, hown7, hu7⟩)
    refine hK.out _ _ hu7 (fun _ => wpAnyH_turn hu7 (fun hHeld => ?_))
    clear hK K
    try dsimp only at hHeld
    have F0''''''' := Rule.turn F0'''''' hu7
    have F1''''''' := Rule.turn F1'''''' hu7
    have F2''''''' := Rule.turn F2'''''' hu7
    have F3''''''' := Rule.turn F3'''''' hu7
    have F4''''''' := Rule.turn F4'''''' hu7
    have F5''''''' := Rule.turn F5'''''' hu7
    have F6''''''' := Rule.turn F6'''''' hu7
    have F7''''''' := Rule.turn F7'''''' hu7
    have F8''''''' := Rule.turn F8'''''' hu7
    have C1'''''' := Rule.turn C1''''' hu7
    have C2''''' := Rule.turn C2'''' hu7
    have C3'''' := Rule.turn C3''' hu7
    have C4''' := Rule.turn C4'' hu7
    clear F0'''''' F1'''''' F2'''''' F3'''''' F4'''''' F5'''''' F6'''''' F7'''''' F8'''''' C1''''' C2'''' C3''' C4''
    have C7 := convRule hown7.rd
    refine wpAnyH_take (i := 31) rfl (by kernel_rfl) (by kernel_rfl) (by kernel_rfl) (fun _ _ _ h => h) (Or.inl ⟨by rfl, by intro w hSw; (try dsimp only at hSw); go_simp; (try with_reducible rfl)⟩) (by assumption) ?_; (try simp only [Act.put, List.setIfInBounds_toArray, List.set_cons_zero, List.set_cons_succ, List.getElem_toArray, List.getElem_cons_zero, List.getElem_cons_succ])
    refine wpAnyH_take (i := 32) rfl (by kernel_rfl) (by kernel_rfl) (by kernel_rfl) (fun _ _ _ h => h) (Or.inl ⟨by rfl, by intro w hSw; (try dsimp only at hSw); go_simp; (try with_reducible rfl)⟩) (by assumption) ?_; (try simp only [Act.put, List.setIfInBounds_toArray, List.set_cons_zero, List.set_cons_succ, List.getElem_toArray, List.getElem_cons_zero, List.getElem_cons_succ])
    refine wpAnyH_take (i := 33) rfl (by kernel_rfl) (by kernel_rfl) (by kernel_rfl) (fun _ _ _ h => h) (Or.inl ⟨by rfl, by intro w hSw; (try dsimp only at hSw); go_simp; (try with_reducible rfl)⟩) (by assumption) ?_; (try simp only [Act.put, List.setIfInBounds_toArray, List.set_cons_zero, List.set_cons_succ, List.getElem_toArray, List.getElem_cons_zero, List.getElem_cons_succ])
    refine wpAnyH_done (by kernel_rfl) ?_ _
    clear hHeld F0''''''' F1''''''' F2''''''' F3''''''' F4''''''' F5''''''' F6''''''' F7''''''' F8''''''' C1'''''' C2''''' C3'''' C4''' C7
    clear hq1 hq2 hq3 hq4 hq5 hq6
    have hgu : Gr w u7 := hg0.trans ((Gr.drew (Gr.refl w1)).trans (hu1.trans (hu2.trans (hu3.trans (hu4.trans (hu5.trans (hu6.trans hu7)))))))
    have HB7 := Lib.hid (hu7.blk (hu6.blk (hu5.blk (hu4.blk (hu3.blk (hu2.blk (hu1.blk (heap_drew HB1.out))))))))
    clear hown1 hown2 hown3 hown4 hown7 hg1 hu1 hu2 hu3 hu4 hu5 hu6 hu7
    go_wp2_with fail
    have hLl := ittH_length x
    go_loopw [4, 5] (fun s i wr => ∃ k : Nat, k ≤ x.l.length ∧ i = .int .i64 k ∧ s = .string ⟨(ittH x ++ (x.l.take k).flatMap chgW).toArray⟩ ∧ Gr w wr ∧ Hid (wr.heap[w.heap.size]? = some (.cells #[.int .i64 x.id, .int .i64 x.epoch, .int .i64 x.prio, .string x.anchor, .int .i64 x.sw, .int .i64 x.sl, .int .i64 x.bw, .int .i64 x.bl, (.slice q x.l.length c)] 40))) (fun _ i _ => x.l.length - (intOf i).toNat)
    case atStart => exact ⟨0, Nat.zero_le _, rfl, by simp only [str_append, List.take_zero, List.flatMap_nil, List.append_nil]; rfl, hgu, HB7⟩
    case round =>
      clear hgu HB7 HB1 l1 l2 l3 l4 l5 l6 l7
      obtain ⟨k, hk, rfl, rfl, hg, HB⟩ := hrel
      by_cases hlt : k < x.l.length
      · obtain ⟨bk, of, cp, e1, q2, q3, c1, c2, c3⟩ := (HL.out.gr hg).at hlt
        injection e1 with e1a e1b e1c
        subst e1a e1c
        have hL0 : (ittH x ++ (x.l.take k).flatMap chgW).length ≤ 2000 := by
          have := chgsW_length (x.l.take k)
          simp only [List.length_append, List.length_take] at this ⊢
          omega
        have HS : Hid (ittH x ++ (x.l.take (k + 1)).flatMap chgW = (ittH x ++ (x.l.take k).flatMap chgW) ++ chgW x.l[k]) := Lib.hid (by
          rw [List.take_succ_eq_append_getElem hlt, List.flatMap_append]; simp)
        generalize ittH x ++ (x.l.take k).flatMap chgW = L0 at hL0 HS
        generalize x.l[k] = cc at c1 c2 c3 HS
        obtain ⟨sq, va, dl⟩ := cc
        simp only at c1 c2 c3
        have k_8 := (blk9 HB.out).2.2.2.2.2.2.2.2.1
        have hkn : (k : Int) < (x.l.length : Int) := by omega
        have m1 := numW_length sq
        have m2 := numW_length 0
        have m2' := numW_length 1
        have m3 := strW_length va.data.toList
        have hq1 : ¬ 9223372036854775807 < L0.length + (numW sq).length := by omega
        have hq2 : ¬ 9223372036854775807 < L0.length + (numW sq).length + (numW 0).length := by omega
        have hq2' : ¬ 9223372036854775807 < L0.length + (numW sq).length + (numW 1).length := by omega
        have hq3 : ¬ 9223372036854775807 < L0.length + (numW sq).length + (numW 0).length + (strW va.data.toList).length := by omega
        have hq3' : ¬ 9223372036854775807 < L0.length + (numW sq).length + (numW 1).length + (strW va.data.toList).length := by omega
        unfold maxLen at q3
        cases dl with
        | false =>
          go_wp2
          have G0 := cellRule (w := wr.drew) k_8
          have G1 := cellRule (w := wr.drew) c1
          have G2 := cellRule (w := wr.drew) c2
          clear k_8 c1 c2 c3
          refine wp_region_held_drew (S := fun w' => Gr wr.drew w') (by kernel_rfl) (Gr.refl _) (fun hHeld => ?_)
          try dsimp only at hHeld
          refine wpAnyH_take (i := 0) rfl (by kernel_rfl) (by kernel_rfl) (by kernel_rfl) (fun _ _ _ h => h) (Or.inl ⟨by rfl, by intro w hSw; (try dsimp only at hSw); go_simp; (try with_reducible rfl)⟩) (by assumption) ?_; (try simp only [Act.put, List.setIfInBounds_toArray, List.set_cons_zero, List.set_cons_succ, List.getElem_toArray, List.getElem_cons_zero, List.getElem_cons_succ])
          refine wpAnyH_take (i := 1) rfl (by kernel_rfl) (by kernel_rfl) (by kernel_rfl) (fun _ _ _ h => h) (Or.inl ⟨by rfl, by intro w hSw; (try dsimp only at hSw); go_simp; (try with_reducible rfl)⟩) (by assumption) ?_; (try simp only [Act.put, List.setIfInBounds_toArray, List.set_cons_zero, List.set_cons_succ, List.getElem_toArray, List.getElem_cons_zero, List.getElem_cons_succ])
          refine wpAnyH_take (i := 2) rfl (by kernel_rfl) (by kernel_rfl) (by kernel_rfl) (fun _ _ _ h => h) (Or.inl ⟨by rfl, by intro w hSw; (try dsimp only at hSw); go_simp; (try with_reducible rfl)⟩) (by assumption) ?_; (try simp only [Act.put, List.setIfInBounds_toArray, List.set_cons_zero, List.set_cons_succ, List.getElem_toArray, List.getElem_cons_zero, List.getElem_cons_succ])
          refine wpAnyH_take (i := 3) rfl (by kernel_rfl) (by kernel_rfl) (by kernel_rfl) (fun _ _ _ h => h) (Or.inl ⟨by rfl, by intro w hSw; (try dsimp only at hSw); go_simp; (try with_reducible rfl)⟩) (by assumption) ?_; (try simp only [Act.put, List.setIfInBounds_toArray, List.set_cons_zero, List.set_cons_succ, List.getElem_toArray, List.getElem_cons_zero, List.getElem_cons_succ])
          refine wpAnyH_take (i := 4) rfl (by kernel_rfl) (by kernel_rfl) (by kernel_rfl) (fun _ _ _ h => h) (Or.inl ⟨by rfl, by intro w hSw; (try dsimp only at hSw); go_simp; (try with_reducible rfl)⟩) (by assumption) ?_; (try simp only [Act.put, List.setIfInBounds_toArray, List.set_cons_zero, List.set_cons_succ, List.getElem_toArray, List.getElem_cons_zero, List.getElem_cons_succ])
          refine wpAnyH_take (i := 5) rfl (by kernel_rfl) (by kernel_rfl) (by kernel_rfl) (fun _ _ _ h => h) (Or.inl ⟨by rfl, by intro w hSw; (try dsimp only at hSw); go_simp; (try with_reducible rfl)⟩) (by assumption) ?_; (try simp only [Act.put, List.setIfInBounds_toArray, List.set_cons_zero, List.set_cons_succ, List.getElem_toArray, List.getElem_cons_zero, List.getElem_cons_succ])
          refine wpAnyH_take (i := 6) rfl (by kernel_rfl) (by kernel_rfl) (by kernel_rfl) (fun _ _ _ h => h) (Or.inl ⟨by rfl, by intro w hSw; (try dsimp only at hSw); go_simp; (try with_reducible rfl)⟩) (by assumption) ?_; (try simp only [Act.put, List.setIfInBounds_toArray, List.set_cons_zero, List.set_cons_succ, List.getElem_toArray, List.getElem_cons_zero, List.getElem_cons_succ])
          refine wpAnyH_take (i := 10) rfl (by kernel_rfl) (by kernel_rfl) (by kernel_rfl) (fun _ _ _ h => h) (Or.inl ⟨by rfl, by intro w hSw; (try dsimp only at hSw); go_simp; (try with_reducible rfl)⟩) (by assumption) ?_; (try simp only [Act.put, List.setIfInBounds_toArray, List.set_cons_zero, List.set_cons_succ, List.getElem_toArray, List.getElem_cons_zero, List.getElem_cons_succ])
          refine wpAnyH_take (i := 14) rfl (by kernel_rfl) (by kernel_rfl) (by kernel_rfl) (fun _ _ _ h => h) (Or.inl ⟨by rfl, by intro w hSw; (try dsimp only at hSw); go_simp; (try with_reducible rfl)⟩) (by assumption) ?_; (try simp only [Act.put, List.setIfInBounds_toArray, List.set_cons_zero, List.set_cons_succ, List.getElem_toArray, List.getElem_cons_zero, List.getElem_cons_succ])
          refine wpAnyH_take (i := 15) rfl (by kernel_rfl) (by kernel_rfl) (by kernel_rfl) (fun _ _ _ h => h) (Or.inl ⟨by rfl, by intro w hSw; (try dsimp only at hSw); go_simp; (try with_reducible rfl)⟩) (by assumption) ?_; (try simp only [Act.put, List.setIfInBounds_toArray, List.set_cons_zero, List.set_cons_succ, List.getElem_toArray, List.getElem_cons_zero, List.getElem_cons_succ])
          refine wpAnyH_take (i := 16) rfl (by kernel_rfl) (by kernel_rfl) (by kernel_rfl) (fun _ _ _ h => h) (Or.inl ⟨by rfl, by intro w hSw; (try dsimp only at hSw); go_simp; (try with_reducible rfl)⟩) (by assumption) ?_; (try simp only [Act.put, List.setIfInBounds_toArray, List.set_cons_zero, List.set_cons_succ, List.getElem_toArray, List.getElem_cons_zero, List.getElem_cons_succ])
          refine wpAnyH_take (i := 17) rfl (by kernel_rfl) (by kernel_rfl) (by kernel_rfl) (fun _ _ _ h => h) (Or.inl ⟨by rfl, by intro w hSw; (try dsimp only at hSw); go_simp; (try with_reducible rfl)⟩) (by assumption) ?_; (try simp only [Act.put, List.setIfInBounds_toArray, List.set_cons_zero, List.set_cons_succ, List.getElem_toArray, List.getElem_cons_zero, List.getElem_cons_succ])
          refine wpAnyH_take (i := 18) rfl (by kernel_rfl) (by kernel_rfl) (by kernel_rfl) (fun _ _ _ h => h) (Or.inl ⟨by rfl, by intro w hSw; (try dsimp only at hSw); go_simp; (try with_reducible rfl)⟩) (by assumption) ?_; (try simp only [Act.put, List.setIfInBounds_toArray, List.set_cons_zero, List.set_cons_succ, List.getElem_toArray, List.getElem_cons_zero, List.getElem_cons_succ])
          refine wpAnyH_take (i := 19) rfl (by kernel_rfl) (by kernel_rfl) (by kernel_rfl) (fun _ _ _ h => h) (Or.inl ⟨by rfl, by intro w hSw; (try dsimp only at hSw); go_simp; (try with_reducible rfl)⟩) (by assumption) ?_; (try simp only [Act.put, List.setIfInBounds_toArray, List.set_cons_zero, List.set_cons_succ, List.getElem_toArray, List.getElem_cons_zero, List.getElem_cons_succ])
          refine wpAnyH_ready (rs := [7]) (by kernel_rfl) (by simp) ?_
          refine AllReadyH.cons rfl (fun K hK => ?_) AllReadyH.nil
          go_simp
          go_wp2_with (go_at_call 77; refine (refNumb_any sq _).mono ?_; rintro e u1 ⟨v1, rfl, hown1, hu1⟩)
          refine hK.out _ _ hu1 (fun _ => wpAnyH_turn hu1 (fun hHeld => ?_))
          clear hK K
          try dsimp only at hHeld
          have G0' := Rule.turn G0 hu1
          have G1' := Rule.turn G1 hu1
          have G2' := Rule.turn G2 hu1
          clear G0 G1 G2
          have C1 := convRule hown1.rd
          refine wpAnyH_take (i := 8) rfl (by kernel_rfl) (by kernel_rfl) (by kernel_rfl) (fun _ _ _ h => h) (Or.inl ⟨by rfl, by intro w hSw; (try dsimp only at hSw); go_simp; (try with_reducible rfl)⟩) (by assumption) ?_; (try simp only [Act.put, List.setIfInBounds_toArray, List.set_cons_zero, List.set_cons_succ, List.getElem_toArray, List.getElem_cons_zero, List.getElem_cons_succ])
          refine wpAnyH_take (i := 9) rfl (by kernel_rfl) (by kernel_rfl) (by kernel_rfl) (fun _ _ _ h => h) (Or.inl ⟨by rfl, by intro w hSw; (try dsimp only at hSw); go_simp; (try with_reducible rfl)⟩) (by assumption) ?_; (try simp only [Act.put, List.setIfInBounds_toArray, List.set_cons_zero, List.set_cons_succ, List.getElem_toArray, List.getElem_cons_zero, List.getElem_cons_succ])
          refine wpAnyH_ready (rs := [11]) (by kernel_rfl) (by simp) ?_
          refine AllReadyH.cons rfl (fun K hK => ?_) AllReadyH.nil
          go_simp
          go_wp2_with (go_at_call 77; refine (refNumb_any 0 _).mono ?_; rintro e u2 ⟨v2, rfl, hown2, hu2⟩)
          refine hK.out _ _ hu2 (fun _ => wpAnyH_turn hu2 (fun hHeld => ?_))
          clear hK K
          try dsimp only at hHeld
          have G0'' := Rule.turn G0' hu2
          have G1'' := Rule.turn G1' hu2
          have G2'' := Rule.turn G2' hu2
          have C1' := Rule.turn C1 hu2
          clear G0' G1' G2' C1
          have C2 := convRule hown2.rd
          refine wpAnyH_take (i := 12) rfl (by kernel_rfl) (by kernel_rfl) (by kernel_rfl) (fun _ _ _ h => h) (Or.inl ⟨by rfl, by intro w hSw; (try dsimp only at hSw); go_simp; (try with_reducible rfl)⟩) (by assumption) ?_; (try simp only [Act.put, List.setIfInBounds_toArray, List.set_cons_zero, List.set_cons_succ, List.getElem_toArray, List.getElem_cons_zero, List.getElem_cons_succ])
          refine wpAnyH_take (i := 13) rfl (by kernel_rfl) (by kernel_rfl) (by kernel_rfl) (fun _ _ _ h => h) (Or.inl ⟨by rfl, by intro w hSw; (try dsimp only at hSw); go_simp; (try with_reducible rfl)⟩) (by assumption) ?_; (try simp only [Act.put, List.setIfInBounds_toArray, List.set_cons_zero, List.set_cons_succ, List.getElem_toArray, List.getElem_cons_zero, List.getElem_cons_succ])
          refine wpAnyH_ready (rs := [20]) (by kernel_rfl) (by simp) ?_
          refine AllReadyH.cons rfl (fun K hK => ?_) AllReadyH.nil
          go_simp
          go_wp2_with (go_at_call 78; refine (refStrb_any va _).mono ?_; rintro e u3 ⟨v3, rfl, hown3, hu3⟩)
          refine hK.out _ _ hu3 (fun _ => wpAnyH_turn hu3 (fun hHeld => ?_))
          clear hK K
          try dsimp only at hHeld
          have G0''' := Rule.turn G0'' hu3
          have G1''' := Rule.turn G1'' hu3
          have G2''' := Rule.turn G2'' hu3
          have C1'' := Rule.turn C1' hu3
          have C2' := Rule.turn C2 hu3
          clear G0'' G1'' G2'' C1' C2
          have C3 := convRule hown3.rd
          refine wpAnyH_take (i := 21) rfl (by kernel_rfl) (by kernel_rfl) (by kernel_rfl) (fun _ _ _ h => h) (Or.inl ⟨by rfl, by intro w hSw; (try dsimp only at hSw); go_simp; (try with_reducible rfl)⟩) (by assumption) ?_; (try simp only [Act.put, List.setIfInBounds_toArray, List.set_cons_zero, List.set_cons_succ, List.getElem_toArray, List.getElem_cons_zero, List.getElem_cons_succ])
          refine wpAnyH_take (i := 22) rfl (by kernel_rfl) (by kernel_rfl) (by kernel_rfl) (fun _ _ _ h => h) (Or.inl ⟨by rfl, by intro w hSw; (try dsimp only at hSw); go_simp; (try with_reducible rfl)⟩) (by assumption) ?_; (try simp only [Act.put, List.setIfInBounds_toArray, List.set_cons_zero, List.set_cons_succ, List.getElem_toArray, List.getElem_cons_zero, List.getElem_cons_succ])
          refine wpAnyH_take (i := 23) rfl (by kernel_rfl) (by kernel_rfl) (by kernel_rfl) (fun _ _ _ h => h) (Or.inl ⟨by rfl, by intro w hSw; (try dsimp only at hSw); go_simp; (try with_reducible rfl)⟩) (by assumption) ?_; (try simp only [Act.put, List.setIfInBounds_toArray, List.set_cons_zero, List.set_cons_succ, List.getElem_toArray, List.getElem_cons_zero, List.getElem_cons_succ])
          refine wpAnyH_done (by kernel_rfl) ?_ _
          clear hHeld G0''' G1''' G2''' C1'' C2' C3
          have hgu : Gr w u3 := hg.trans ((Gr.drew (Gr.refl wr)).trans (hu1.trans (hu2.trans hu3)))
          have HBu := Lib.hid (hu3.blk (hu2.blk (hu1.blk (heap_drew HB.out))))
          clear hown1 hown2 hown3 hu1 hu2 hu3 hq1 hq2 hq2' hq3 hq3'
          go_wp2
          go_roundw
          case rel => exact ⟨k + 1, by omega, by go_num, by rw [HS.out]; simp only [str_append]; simp [chgW], hgu, HBu⟩
          case measure => simp [intOf]; omega
        | true =>
          go_wp2
          have G0 := cellRule (w := wr.drew) k_8
          have G1 := cellRule (w := wr.drew) c1
          have G2 := cellRule (w := wr.drew) c2
          clear k_8 c1 c2 c3
          refine wp_region_held_drew (S := fun w' => Gr wr.drew w') (by kernel_rfl) (Gr.refl _) (fun hHeld => ?_)
          try dsimp only at hHeld
          refine wpAnyH_take (i := 0) rfl (by kernel_rfl) (by kernel_rfl) (by kernel_rfl) (fun _ _ _ h => h) (Or.inl ⟨by rfl, by intro w hSw; (try dsimp only at hSw); go_simp; (try with_reducible rfl)⟩) (by assumption) ?_; (try simp only [Act.put, List.setIfInBounds_toArray, List.set_cons_zero, List.set_cons_succ, List.getElem_toArray, List.getElem_cons_zero, List.getElem_cons_succ])
          refine wpAnyH_take (i := 1) rfl (by kernel_rfl) (by kernel_rfl) (by kernel_rfl) (fun _ _ _ h => h) (Or.inl ⟨by rfl, by intro w hSw; (try dsimp only at hSw); go_simp; (try with_reducible rfl)⟩) (by assumption) ?_; (try simp only [Act.put, List.setIfInBounds_toArray, List.set_cons_zero, List.set_cons_succ, List.getElem_toArray, List.getElem_cons_zero, List.getElem_cons_succ])
          refine wpAnyH_take (i := 2) rfl (by kernel_rfl) (by kernel_rfl) (by kernel_rfl) (fun _ _ _ h => h) (Or.inl ⟨by rfl, by intro w hSw; (try dsimp only at hSw); go_simp; (try with_reducible rfl)⟩) (by assumption) ?_; (try simp only [Act.put, List.setIfInBounds_toArray, List.set_cons_zero, List.set_cons_succ, List.getElem_toArray, List.getElem_cons_zero, List.getElem_cons_succ])
          refine wpAnyH_take (i := 3) rfl (by kernel_rfl) (by kernel_rfl) (by kernel_rfl) (fun _ _ _ h => h) (Or.inl ⟨by rfl, by intro w hSw; (try dsimp only at hSw); go_simp; (try with_reducible rfl)⟩) (by assumption) ?_; (try simp only [Act.put, List.setIfInBounds_toArray, List.set_cons_zero, List.set_cons_succ, List.getElem_toArray, List.getElem_cons_zero, List.getElem_cons_succ])
          refine wpAnyH_take (i := 4) rfl (by kernel_rfl) (by kernel_rfl) (by kernel_rfl) (fun _ _ _ h => h) (Or.inl ⟨by rfl, by intro w hSw; (try dsimp only at hSw); go_simp; (try with_reducible rfl)⟩) (by assumption) ?_; (try simp only [Act.put, List.setIfInBounds_toArray, List.set_cons_zero, List.set_cons_succ, List.getElem_toArray, List.getElem_cons_zero, List.getElem_cons_succ])
          refine wpAnyH_take (i := 5) rfl (by kernel_rfl) (by kernel_rfl) (by kernel_rfl) (fun _ _ _ h => h) (Or.inl ⟨by rfl, by intro w hSw; (try dsimp only at hSw); go_simp; (try with_reducible rfl)⟩) (by assumption) ?_; (try simp only [Act.put, List.setIfInBounds_toArray, List.set_cons_zero, List.set_cons_succ, List.getElem_toArray, List.getElem_cons_zero, List.getElem_cons_succ])
          refine wpAnyH_take (i := 6) rfl (by kernel_rfl) (by kernel_rfl) (by kernel_rfl) (fun _ _ _ h => h) (Or.inl ⟨by rfl, by intro w hSw; (try dsimp only at hSw); go_simp; (try with_reducible rfl)⟩) (by assumption) ?_; (try simp only [Act.put, List.setIfInBounds_toArray, List.set_cons_zero, List.set_cons_succ, List.getElem_toArray, List.getElem_cons_zero, List.getElem_cons_succ])
          refine wpAnyH_take (i := 10) rfl (by kernel_rfl) (by kernel_rfl) (by kernel_rfl) (fun _ _ _ h => h) (Or.inl ⟨by rfl, by intro w hSw; (try dsimp only at hSw); go_simp; (try with_reducible rfl)⟩) (by assumption) ?_; (try simp only [Act.put, List.setIfInBounds_toArray, List.set_cons_zero, List.set_cons_succ, List.getElem_toArray, List.getElem_cons_zero, List.getElem_cons_succ])
          refine wpAnyH_take (i := 14) rfl (by kernel_rfl) (by kernel_rfl) (by kernel_rfl) (fun _ _ _ h => h) (Or.inl ⟨by rfl, by intro w hSw; (try dsimp only at hSw); go_simp; (try with_reducible rfl)⟩) (by assumption) ?_; (try simp only [Act.put, List.setIfInBounds_toArray, List.set_cons_zero, List.set_cons_succ, List.getElem_toArray, List.getElem_cons_zero, List.getElem_cons_succ])
          refine wpAnyH_take (i := 15) rfl (by kernel_rfl) (by kernel_rfl) (by kernel_rfl) (fun _ _ _ h => h) (Or.inl ⟨by rfl, by intro w hSw; (try dsimp only at hSw); go_simp; (try with_reducible rfl)⟩) (by assumption) ?_; (try simp only [Act.put, List.setIfInBounds_toArray, List.set_cons_zero, List.set_cons_succ, List.getElem_toArray, List.getElem_cons_zero, List.getElem_cons_succ])
          refine wpAnyH_take (i := 16) rfl (by kernel_rfl) (by kernel_rfl) (by kernel_rfl) (fun _ _ _ h => h) (Or.inl ⟨by rfl, by intro w hSw; (try dsimp only at hSw); go_simp; (try with_reducible rfl)⟩) (by assumption) ?_; (try simp only [Act.put, List.setIfInBounds_toArray, List.set_cons_zero, List.set_cons_succ, List.getElem_toArray, List.getElem_cons_zero, List.getElem_cons_succ])
          refine wpAnyH_take (i := 17) rfl (by kernel_rfl) (by kernel_rfl) (by kernel_rfl) (fun _ _ _ h => h) (Or.inl ⟨by rfl, by intro w hSw; (try dsimp only at hSw); go_simp; (try with_reducible rfl)⟩) (by assumption) ?_; (try simp only [Act.put, List.setIfInBounds_toArray, List.set_cons_zero, List.set_cons_succ, List.getElem_toArray, List.getElem_cons_zero, List.getElem_cons_succ])
          refine wpAnyH_take (i := 18) rfl (by kernel_rfl) (by kernel_rfl) (by kernel_rfl) (fun _ _ _ h => h) (Or.inl ⟨by rfl, by intro w hSw; (try dsimp only at hSw); go_simp; (try with_reducible rfl)⟩) (by assumption) ?_; (try simp only [Act.put, List.setIfInBounds_toArray, List.set_cons_zero, List.set_cons_succ, List.getElem_toArray, List.getElem_cons_zero, List.getElem_cons_succ])
          refine wpAnyH_take (i := 19) rfl (by kernel_rfl) (by kernel_rfl) (by kernel_rfl) (fun _ _ _ h => h) (Or.inl ⟨by rfl, by intro w hSw; (try dsimp only at hSw); go_simp; (try with_reducible rfl)⟩) (by assumption) ?_; (try simp only [Act.put, List.setIfInBounds_toArray, List.set_cons_zero, List.set_cons_succ, List.getElem_toArray, List.getElem_cons_zero, List.getElem_cons_succ])
          refine wpAnyH_ready (rs := [7]) (by kernel_rfl) (by simp) ?_
          refine AllReadyH.cons rfl (fun K hK => ?_) AllReadyH.nil
          go_simp
          go_wp2_with (go_at_call 77; refine (refNumb_any sq _).mono ?_; rintro e u1 ⟨v1, rfl, hown1, hu1⟩)
          refine hK.out _ _ hu1 (fun _ => wpAnyH_turn hu1 (fun hHeld => ?_))
          clear hK K
          try dsimp only at hHeld
          have G0' := Rule.turn G0 hu1
          have G1' := Rule.turn G1 hu1
          have G2' := Rule.turn G2 hu1
          clear G0 G1 G2
          have C1 := convRule hown1.rd
          refine wpAnyH_take (i := 8) rfl (by kernel_rfl) (by kernel_rfl) (by kernel_rfl) (fun _ _ _ h => h) (Or.inl ⟨by rfl, by intro w hSw; (try dsimp only at hSw); go_simp; (try with_reducible rfl)⟩) (by assumption) ?_; (try simp only [Act.put, List.setIfInBounds_toArray, List.set_cons_zero, List.set_cons_succ, List.getElem_toArray, List.getElem_cons_zero, List.getElem_cons_succ])
          refine wpAnyH_take (i := 9) rfl (by kernel_rfl) (by kernel_rfl) (by kernel_rfl) (fun _ _ _ h => h) (Or.inl ⟨by rfl, by intro w hSw; (try dsimp only at hSw); go_simp; (try with_reducible rfl)⟩) (by assumption) ?_; (try simp only [Act.put, List.setIfInBounds_toArray, List.set_cons_zero, List.set_cons_succ, List.getElem_toArray, List.getElem_cons_zero, List.getElem_cons_succ])
          refine wpAnyH_ready (rs := [11]) (by kernel_rfl) (by simp) ?_
          refine AllReadyH.cons rfl (fun K hK => ?_) AllReadyH.nil
          go_simp
          go_wp2_with (go_at_call 77; refine (refNumb_any 1 _).mono ?_; rintro e u2 ⟨v2, rfl, hown2, hu2⟩)
          refine hK.out _ _ hu2 (fun _ => wpAnyH_turn hu2 (fun hHeld => ?_))
          clear hK K
          try dsimp only at hHeld
          have G0'' := Rule.turn G0' hu2
          have G1'' := Rule.turn G1' hu2
          have G2'' := Rule.turn G2' hu2
          have C1' := Rule.turn C1 hu2
          clear G0' G1' G2' C1
          have C2 := convRule hown2.rd
          refine wpAnyH_take (i := 12) rfl (by kernel_rfl) (by kernel_rfl) (by kernel_rfl) (fun _ _ _ h => h) (Or.inl ⟨by rfl, by intro w hSw; (try dsimp only at hSw); go_simp; (try with_reducible rfl)⟩) (by assumption) ?_; (try simp only [Act.put, List.setIfInBounds_toArray, List.set_cons_zero, List.set_cons_succ, List.getElem_toArray, List.getElem_cons_zero, List.getElem_cons_succ])
          refine wpAnyH_take (i := 13) rfl (by kernel_rfl) (by kernel_rfl) (by kernel_rfl) (fun _ _ _ h => h) (Or.inl ⟨by rfl, by intro w hSw; (try dsimp only at hSw); go_simp; (try with_reducible rfl)⟩) (by assumption) ?_; (try simp only [Act.put, List.setIfInBounds_toArray, List.set_cons_zero, List.set_cons_succ, List.getElem_toArray, List.getElem_cons_zero, List.getElem_cons_succ])
          refine wpAnyH_ready (rs := [20]) (by kernel_rfl) (by simp) ?_
          refine AllReadyH.cons rfl (fun K hK => ?_) AllReadyH.nil
          go_simp
          go_wp2_with (go_at_call 78; refine (refStrb_any va _).mono ?_; rintro e u3 ⟨v3, rfl, hown3, hu3⟩)
          refine hK.out _ _ hu3 (fun _ => wpAnyH_turn hu3 (fun hHeld => ?_))
          clear hK K
          try dsimp only at hHeld
          have G0''' := Rule.turn G0'' hu3
          have G1''' := Rule.turn G1'' hu3
          have G2''' := Rule.turn G2'' hu3
          have C1'' := Rule.turn C1' hu3
          have C2' := Rule.turn C2 hu3
          clear G0'' G1'' G2'' C1' C2
          have C3 := convRule hown3.rd
          refine wpAnyH_take (i := 21) rfl (by kernel_rfl) (by kernel_rfl) (by kernel_rfl) (fun _ _ _ h => h) (Or.inl ⟨by rfl, by intro w hSw; (try dsimp only at hSw); go_simp; (try with_reducible rfl)⟩) (by assumption) ?_; (try simp only [Act.put, List.setIfInBounds_toArray, List.set_cons_zero, List.set_cons_succ, List.getElem_toArray, List.getElem_cons_zero, List.getElem_cons_succ])
          refine wpAnyH_take (i := 22) rfl (by kernel_rfl) (by kernel_rfl) (by kernel_rfl) (fun _ _ _ h => h) (Or.inl ⟨by rfl, by intro w hSw; (try dsimp only at hSw); go_simp; (try with_reducible rfl)⟩) (by assumption) ?_; (try simp only [Act.put, List.setIfInBounds_toArray, List.set_cons_zero, List.set_cons_succ, List.getElem_toArray, List.getElem_cons_zero, List.getElem_cons_succ])
          refine wpAnyH_take (i := 23) rfl (by kernel_rfl) (by kernel_rfl) (by kernel_rfl) (fun _ _ _ h => h) (Or.inl ⟨by rfl, by intro w hSw; (try dsimp only at hSw); go_simp; (try with_reducible rfl)⟩) (by assumption) ?_; (try simp only [Act.put, List.setIfInBounds_toArray, List.set_cons_zero, List.set_cons_succ, List.getElem_toArray, List.getElem_cons_zero, List.getElem_cons_succ])
          refine wpAnyH_done (by kernel_rfl) ?_ _
          clear hHeld G0''' G1''' G2''' C1'' C2' C3
          have hgu : Gr w u3 := hg.trans ((Gr.drew (Gr.refl wr)).trans (hu1.trans (hu2.trans hu3)))
          have HBu := Lib.hid (hu3.blk (hu2.blk (hu1.blk (heap_drew HB.out))))
          clear hown1 hown2 hown3 hu1 hu2 hu3 hq1 hq2 hq2' hq3 hq3'
          go_wp2
          go_roundw
          case rel => exact ⟨k + 1, by omega, by go_num, by rw [HS.out]; simp only [str_append]; simp [chgW], hgu, HBu⟩
          case measure => simp [intOf]; omega
      · obtain rfl : k = x.l.length := by omega
        have k_8 := (blk9 HB.out).2.2.2.2.2.2.2.2.1
        rw [List.take_length]
        go_wp2
        go_ret2
        exact ⟨by rw [HW.out]; rfl, hg⟩
end Go.Proofs.YthgecojbggoniaaGreatDoor
