/- Layer 11: the document's texts of intents. -/
import Derived.Test.YtpnojkgdjkncbaaDoorCelT
import Derived.Test.YtpnojkgdjkncbaaDoorRegT
namespace Go.Proofs.YtpnojkgdjkncbaaDoor
open Go.RowKit
set_option maxRecDepth 100000
set_option linter.unusedVariables false
set_option linter.unusedSimpArgs false

theorem convRule {w : World} {v : Value} {l : List UInt8} (h : Rd w v l) : ∀ w', Gr w w' → (convert 73 9 v).run Tryd.prog w' = .ok (.string ⟨l.toArray⟩) w' := fun _ hg => conv_rd (h.gr hg)

set_option maxHeartbeats 2000000 in
theorem refStamps_any (a b : Int) (w : World) :
    Calls Tryd.prog 65 #[.agg #[.int .i64 a, .int .i64 b]] w fun e w' => e = .returned (.string ⟨(stampW (a, b)).toArray⟩) ∧ Gr w w' := by
  have hX := heap_alloc_new w (.cells #[.int .i64 a, .int .i64 b] 23)
  obtain ⟨k_0, k_1, g_0, g_1, l_0⟩ := blk2 (heap_drew hX)
  have F0 := cellRule k_0
  have F1 := cellRule k_1
  have ha8 := numW_length a
  have hb8 := numW_length b
  have hq : ¬ 9223372036854775807 < (numW a).length + (numW b).length := by omega
  clear k_0 k_1 g_0 g_1 hX
  go_enter Tryd.func65, Tryd.ntmps65
  go_wp2
  refine wp_region_held_drew (S := fun w' => Gr (w.alloc (.cells #[.int .i64 a, .int .i64 b] 23)).drew w') (by kernel_rfl) (Gr.refl _) (fun hHeld => ?_)
  try dsimp only at hHeld
  refine wpAnyH_take (i := 0) rfl (by kernel_rfl) (by kernel_rfl) (by kernel_rfl) (fun _ _ _ h => h) (Or.inl ⟨by rfl, by intro w hSw; (try dsimp only at hSw); go_simp; (try with_reducible rfl)⟩) (by assumption) ?_; (try simp only [Act.put, List.setIfInBounds_toArray, List.set_cons_zero, List.set_cons_succ, List.getElem_toArray, List.getElem_cons_zero, List.getElem_cons_succ])
  refine wpAnyH_take (i := 1) rfl (by kernel_rfl) (by kernel_rfl) (by kernel_rfl) (fun _ _ _ h => h) (Or.inl ⟨by rfl, by intro w hSw; (try dsimp only at hSw); go_simp; (try with_reducible rfl)⟩) (by assumption) ?_; (try simp only [Act.put, List.setIfInBounds_toArray, List.set_cons_zero, List.set_cons_succ, List.getElem_toArray, List.getElem_cons_zero, List.getElem_cons_succ])
  refine wpAnyH_take (i := 4) rfl (by kernel_rfl) (by kernel_rfl) (by kernel_rfl) (fun _ _ _ h => h) (Or.inl ⟨by rfl, by intro w hSw; (try dsimp only at hSw); go_simp; (try with_reducible rfl)⟩) (by assumption) ?_; (try simp only [Act.put, List.setIfInBounds_toArray, List.set_cons_zero, List.set_cons_succ, List.getElem_toArray, List.getElem_cons_zero, List.getElem_cons_succ])
  refine wpAnyH_take (i := 5) rfl (by kernel_rfl) (by kernel_rfl) (by kernel_rfl) (fun _ _ _ h => h) (Or.inl ⟨by rfl, by intro w hSw; (try dsimp only at hSw); go_simp; (try with_reducible rfl)⟩) (by assumption) ?_; (try simp only [Act.put, List.setIfInBounds_toArray, List.set_cons_zero, List.set_cons_succ, List.getElem_toArray, List.getElem_cons_zero, List.getElem_cons_succ])
  refine wpAnyH_ready (rs := [2]) (by kernel_rfl) (by simp) ?_
  refine AllReadyH.cons rfl (fun K hK => ?_) AllReadyH.nil
  go_simp
  go_wp2_with (go_at_call 56; refine (refNumb_any a _).mono ?_; rintro e w1 ⟨v1, rfl, hown1, hg1⟩)
  refine hK.out _ _ hg1 (fun _ => wpAnyH_turn hg1 (fun hHeld => ?_))
  clear hK K
  try dsimp only at hHeld
  have F0' := Rule.turn F0 hg1
  have F1' := Rule.turn F1 hg1
  clear F0 F1
  have C1 := convRule hown1.rd
  refine wpAnyH_take (i := 3) rfl (by kernel_rfl) (by kernel_rfl) (by kernel_rfl) (fun _ _ _ h => h) (Or.inl ⟨by rfl, by intro w hSw; (try dsimp only at hSw); go_simp; (try with_reducible rfl)⟩) (by assumption) ?_; (try simp only [Act.put, List.setIfInBounds_toArray, List.set_cons_zero, List.set_cons_succ, List.getElem_toArray, List.getElem_cons_zero, List.getElem_cons_succ])
  refine wpAnyH_ready (rs := [6]) (by kernel_rfl) (by simp) ?_
  refine AllReadyH.cons rfl (fun K hK => ?_) AllReadyH.nil
  go_simp
  go_wp2_with (go_at_call 56; refine (refNumb_any b _).mono ?_; rintro e w2 ⟨v2, rfl, hown2, hg2⟩)
  refine hK.out _ _ hg2 (fun _ => wpAnyH_turn hg2 (fun hHeld => ?_))
  clear hK K
  try dsimp only at hHeld
  have F0'' := Rule.turn F0' hg2
  have F1'' := Rule.turn F1' hg2
  have C1' := Rule.turn C1 hg2
  clear F0' F1' C1
  have C2 := convRule hown2.rd
  refine wpAnyH_take (i := 7) rfl (by kernel_rfl) (by kernel_rfl) (by kernel_rfl) (fun _ _ _ h => h) (Or.inl ⟨by rfl, by intro w hSw; (try dsimp only at hSw); go_simp; (try with_reducible rfl)⟩) (by assumption) ?_; (try simp only [Act.put, List.setIfInBounds_toArray, List.set_cons_zero, List.set_cons_succ, List.getElem_toArray, List.getElem_cons_zero, List.getElem_cons_succ])
  refine wpAnyH_take (i := 8) rfl (by kernel_rfl) (by kernel_rfl) (by kernel_rfl) (fun _ _ _ h => h) (Or.inl ⟨by rfl, by intro w hSw; (try dsimp only at hSw); go_simp; (try with_reducible rfl)⟩) (by assumption) ?_; (try simp only [Act.put, List.setIfInBounds_toArray, List.set_cons_zero, List.set_cons_succ, List.getElem_toArray, List.getElem_cons_zero, List.getElem_cons_succ])
  refine wpAnyH_take (i := 9) rfl (by kernel_rfl) (by kernel_rfl) (by kernel_rfl) (fun _ _ _ h => h) (Or.inl ⟨by rfl, by intro w hSw; (try dsimp only at hSw); go_simp; (try with_reducible rfl)⟩) (by assumption) ?_; (try simp only [Act.put, List.setIfInBounds_toArray, List.set_cons_zero, List.set_cons_succ, List.getElem_toArray, List.getElem_cons_zero, List.getElem_cons_succ])
  refine wpAnyH_done (by kernel_rfl) ?_ _
  clear hHeld F0'' F1'' C1' C2
  go_wp2
  go_ret
  exact ⟨by rw [str_append]; rfl, (Gr.drew ((Gr.refl w).alloc _)).trans (hg1.trans hg2)⟩
end Go.Proofs.YtpnojkgdjkncbaaDoor
