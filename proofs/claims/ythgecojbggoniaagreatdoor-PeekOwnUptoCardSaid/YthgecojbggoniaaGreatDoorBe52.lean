/- What the rows stand on, part 52: PekY. Printed by bundle.py out of my texts. -/
import Derived.Test.YthgecojbggoniaaGreatDoorBe06
import Derived.Test.YthgecojbggoniaaGreatDoorBe46
import Derived.Test.YthgecojbggoniaaGreatDoorBe51
namespace Go.Proofs.YthgecojbggoniaaGreatDoor
open Go.RowKit
set_option maxRecDepth 100000
set_option linter.unusedVariables false
set_option linter.unusedSimpArgs false
set_option linter.unnecessarySimpa false

theorem region_share8 {P : Program} {c : Code} {K : Act → World → Prop} {Q : Exit → Act → World → Prop} {a : Act} {w : World} (Pf : Nat → Nat → World → Prop)
    (hK : ∀ (u30 u31 u32 u33 u34 u35 u36 u37 : Value) (g9 gS : Nat) (W : World), Pf g9 gS W → K { a with tmps := (((((((((a.tmps.setIfInBounds 30 u30).setIfInBounds 31 u31).setIfInBounds 32 u32).setIfInBounds 33 u33).setIfInBounds 34 u34).setIfInBounds 35 u35).setIfInBounds 36 u36).setIfInBounds 37 u37).setIfInBounds 9 (.pointer (some ⟨g9, 0, none⟩))) } W)
    (hc : c.wp P (Exit.then (fun a' w' => ∃ (u30 u31 u32 u33 u34 u35 u36 u37 : Value) (g9 gS : Nat), a' = { a with tmps := (((((((((a.tmps.setIfInBounds 30 u30).setIfInBounds 31 u31).setIfInBounds 32 u32).setIfInBounds 33 u33).setIfInBounds 34 u34).setIfInBounds 35 u35).setIfInBounds 36 u36).setIfInBounds 37 u37).setIfInBounds 9 (.pointer (some ⟨g9, 0, none⟩))) } ∧ Pf g9 gS w') Q) a w) : c.wp P (Exit.then K Q) a w := by
  refine wp_mono hc (fun e a' w' h => ?_)
  cases e with
  | normal =>
    obtain ⟨u30, u31, u32, u33, u34, u35, u36, u37, g9, gS, rfl, h2⟩ := h
    exact hK _ _ _ _ _ _ _ _ _ _ _ h2
  | _ => exact h
set_option maxHeartbeats 16000000 in
theorem peekOwn_walk {w : World} {v : Value} {l : List Th} (hw : Sh w) (hl : RdT w v l) (hlen : l.length ≤ 140737488355328) (hit : ∀ x ∈ l, x.it.l.length ≤ 140737488355328) (hsz : ∀ c ∈ l, SzT c) (x : Tx) (cs : Int) (cv : ByteArray) (cd : Bool) (hcs : -9223372036854775808 ≤ cs ∧ cs ≤ 9223372036854775807) :
    Calls Tryz.prog 6 #[v, .agg (txC x), .agg #[.int .i64 cs, .string cv, .bool cd]] w fun e w' => e = .returned (.bool true) ∧ Gr w w' := by
  have HSh := Lib.hid hw
  have HL := Lib.hid hl
  have HIt := Lib.hid hit
  have HSz := Lib.hid (tab_szs hsz)
  have HG := Lib.hid (((Gr.refl w).alloc (.cells (txC x) 28)).alloc (.cells #[.int .i64 cs, .string cv, .bool cd] 76))
  have HTx := Lib.hid (((Gr.refl _).alloc (.cells #[.int .i64 cs, .string cv, .bool cd] 76)).blk (heap_alloc_new w (.cells (txC x) 28)))
  have HCh : Hid (((w.alloc (.cells (txC x) 28)).alloc (.cells #[.int .i64 cs, .string cv, .bool cd] 76)).heap[w.heap.size + 1]? = some (.cells #[.int .i64 cs, .string cv, .bool cd] 76)) := Lib.hid (heap_newn (by simp))
  have HR60 := Lib.hid (tab60 l)
  have HMy := Lib.hid (lawMay12 x)
  have HBr := Lib.hid (bring_any cs 100 hcs (by decide))
  have HBb := Lib.hid (bring_bd cs (n := 100) (by decide))
  clear hw hl hit hsz hcs
  unfold txC at HMy ⊢
  have htx := HTx.out
  unfold txC at htx
  obtain ⟨x_0, x_1, x_2, x_3, x_4, x_5, x_6, x_7, x_8, x_9, x_10, x_11, _, _, _, _, _, _, _, _, _, _, _, _, _⟩ := blk12 htx
  clear htx
  go_enter Tryz.func6, Tryz.ntmps6
  cases hm : mayT x with
  | false =>
    rw [hm] at HMy
    go_wp2_with fail
    refine (HMy.out _).mono ?_
    rintro e w1 ⟨rfl, hg⟩
    replace HG := Lib.hid (HG.out.trans hg)
    replace HTx := Lib.hid (hg.blk HTx.out)
    replace HCh := Lib.hid (hg.blk HCh.out)
    clear hg
    clear x_0 x_1 x_2 x_3 x_4 x_5 x_6 x_7 x_8 x_9 x_10 x_11
    go_wp2_with fail
    refine (awake12 (HSh.out.gr HG.out)).mono ?_
    rintro e wz ⟨rfl, hg⟩
    go_wp2
    go_ret
    exact ⟨rfl, HG.out.trans hg⟩
  | true =>
    have HMt := Lib.hid hm
    rw [hm] at HMy
    go_wp2_with fail
    refine (HMy.out _).mono ?_
    rintro e w1 ⟨rfl, hg⟩
    replace HG := Lib.hid (HG.out.trans hg)
    replace HTx := Lib.hid (hg.blk HTx.out)
    replace HCh := Lib.hid (hg.blk HCh.out)
    clear hg
    clear x_0 x_1 x_2 x_3 x_4 x_5 x_6 x_7 x_8 x_9 x_10 x_11
    obtain ⟨c_0, c_1, c_2, cf_0, cf_1, cf_2, _⟩ := blk3 HCh.out
    obtain ⟨hb1, hb2⟩ := HBb.out
    generalize bringI cs 100 = br at *
    have HB1 := Lib.hid hb1
    have HB2 := Lib.hid hb2
    cases cd with
    | true =>
      go_wp2_with fail
      obtain ⟨W2, hW2⟩ : ∃ W2, W2 = w1.setCell ⟨w.heap.size + 1, 1, none⟩ (.string ⟨#[]⟩) := ⟨_, rfl⟩
      replace HCh : Hid (W2.heap[w.heap.size + 1]? = some (.cells #[.int .i64 cs, .string ⟨#[]⟩, .bool true] 76)) := Lib.hid (by rw [hW2]; exact heap_set HCh.out 1 (.string ⟨#[]⟩))
      replace HTx := Lib.hid (show W2.heap[w.heap.size]? = some (.cells (txC x) 28) by rw [hW2]; exact heap_set_other HTx.out _ _ (by simp))
      replace HG := Lib.hid (show Gr w W2 by rw [hW2]; exact HG.out.setCell (p := ⟨w.heap.size + 1, 1, none⟩) (by simp) _)
      rw [← hW2]
      clear hW2
      clear c_0 c_1 c_2 cf_0 cf_1 cf_2
      obtain ⟨c_0, c_1, c_2, cf_0, cf_1, cf_2, _⟩ := blk3 HCh.out
      refine (HBr.out _).mono ?_
      rintro e wb ⟨rfl, rfl⟩
      go_wp2_with fail
      obtain ⟨W3, hW3⟩ : ∃ W3, W3 = W2.setCell ⟨w.heap.size + 1, 0, none⟩ (.int .i64 (1 + br)) := ⟨_, rfl⟩
      replace HCh : Hid (W3.heap[w.heap.size + 1]? = some (.cells #[.int .i64 (1 + br), .string ⟨#[]⟩, .bool true] 76)) := Lib.hid (by rw [hW3]; exact heap_set HCh.out 0 (.int .i64 (1 + br)))
      replace HTx := Lib.hid (show W3.heap[w.heap.size]? = some (.cells (txC x) 28) by rw [hW3]; exact heap_set_other HTx.out _ _ (by simp))
      replace HG := Lib.hid (show Gr w W3 by rw [hW3]; exact HG.out.setCell (p := ⟨w.heap.size + 1, 0, none⟩) (by simp) _)
      rw [← hW3]
      clear hW3
      clear c_0 c_1 c_2 cf_0 cf_1 cf_2
      refine (tables12 (HL.out.gr HG.out) hlen HIt.out).mono ?_
      rintro e w4 ⟨ta, tb, rfl, hT, hg⟩
      replace HG := Lib.hid (HG.out.trans hg)
      replace HTx := Lib.hid (hg.blk HTx.out)
      replace HCh := Lib.hid (hg.blk HCh.out)
      have HT := Lib.hid hT.a
      clear hT hg HL HIt
      generalize tabR (opsT l) = R at *
      have htx := HTx.out
      unfold txC at htx
      obtain ⟨x_0, x_1, x_2, x_3, x_4, x_5, x_6, x_7, x_8, x_9, x_10, x_11, _, _, _, _, _, _, _, _, _, _, _, _, _⟩ := blk12 htx
      clear htx
      obtain ⟨c_0, c_1, c_2, cf_0, cf_1, cf_2, _⟩ := blk3 HCh.out
      go_wp2
      refine region_share8 (fun g9 gS W => Gr w4 W ∧ W.heap[g9]? = some (.cells (ittA (mineI x (1 + br) ⟨#[]⟩ true) (.slice (some ⟨gS, 0, none⟩) 1 1)) 40) ∧ RdC W (.slice (some ⟨gS, 0, none⟩) 1 1) [⟨1 + br, ⟨#[]⟩, true⟩]) ?rest ?reg
      case reg =>
        have HI9 : Hid ((Tryz.prog.info? 40).map (·.size) = some 9) := Lib.hid (by kernel_rfl)
        have F0 : ∀ w', Gr w4.drew w' → w'.cell? ⟨w.heap.size, 0, none⟩ = some (.int .i64 x.id) := cellRule (w := w4.drew) (cell_of HTx.out rfl)
        have F1 : ∀ w', Gr w4.drew w' → w'.cell? ⟨w.heap.size, 1, none⟩ = some (.int .i64 x.ep) := cellRule (w := w4.drew) (cell_of HTx.out rfl)
        have D0 : ∀ w', Gr w4.drew w' → w'.cell? ⟨w.heap.size + 1, 0, none⟩ = some (.int .i64 (1 + br)) := cellRule (w := w4.drew) (cell_of HCh.out rfl)
        have D1 : ∀ w', Gr w4.drew w' → w'.cell? ⟨w.heap.size + 1, 1, none⟩ = some (.string ⟨#[]⟩) := cellRule (w := w4.drew) (cell_of HCh.out rfl)
        have D2 : ∀ w', Gr w4.drew w' → w'.cell? ⟨w.heap.size + 1, 2, none⟩ = some (.bool true) := cellRule (w := w4.drew) (cell_of HCh.out rfl)
        refine wp_region_held_drew (S := fun w' => Gr w4.drew w') (by kernel_rfl) (Gr.refl _) (fun hHeld => ?_)
        try dsimp only at hHeld
        refine wpAnyH_take (i := 0) rfl (by kernel_rfl) (by kernel_rfl) (by kernel_rfl) (fun _ _ _ h => h) (Or.inl ⟨by rfl, by intro w hSw; (try dsimp only at hSw); go_simp; (try with_reducible rfl)⟩) (by assumption) ?_; (try simp only [Act.put, List.setIfInBounds_toArray, List.set_cons_zero, List.set_cons_succ, List.getElem_toArray, List.getElem_cons_zero, List.getElem_cons_succ])
        refine wpAnyH_take (i := 1) rfl (by kernel_rfl) (by kernel_rfl) (by kernel_rfl) (fun _ _ _ h => h) (Or.inl ⟨by rfl, by intro w hSw; (try dsimp only at hSw); go_simp; (try with_reducible rfl)⟩) (by assumption) ?_; (try simp only [Act.put, List.setIfInBounds_toArray, List.set_cons_zero, List.set_cons_succ, List.getElem_toArray, List.getElem_cons_zero, List.getElem_cons_succ])
        refine wpAnyH_take (i := 2) rfl (by kernel_rfl) (by kernel_rfl) (by kernel_rfl) (fun _ _ _ h => h) (Or.inl ⟨by rfl, by intro w hSw; (try dsimp only at hSw); go_simp; (try with_reducible rfl)⟩) (by assumption) ?_; (try simp only [Act.put, List.setIfInBounds_toArray, List.set_cons_zero, List.set_cons_succ, List.getElem_toArray, List.getElem_cons_zero, List.getElem_cons_succ])
        refine wpAnyH_take (i := 3) rfl (by kernel_rfl) (by kernel_rfl) (by kernel_rfl) (fun _ _ _ h => h) (Or.inl ⟨by rfl, by intro w hSw; (try dsimp only at hSw); go_simp; (try with_reducible rfl)⟩) (by assumption) ?_; (try simp only [Act.put, List.setIfInBounds_toArray, List.set_cons_zero, List.set_cons_succ, List.getElem_toArray, List.getElem_cons_zero, List.getElem_cons_succ])
        refine wpAnyH_take (i := 5) rfl (by kernel_rfl) (by kernel_rfl) (by kernel_rfl) (fun _ _ _ h => h) (Or.inl ⟨by rfl, by intro w hSw; (try dsimp only at hSw); go_simp; (try with_reducible rfl)⟩) (by assumption) ?_; (try simp only [Act.put, List.setIfInBounds_toArray, List.set_cons_zero, List.set_cons_succ, List.getElem_toArray, List.getElem_cons_zero, List.getElem_cons_succ])
        clear F0 F1 D0 D1 D2 x_0 x_1 x_2 x_3 x_4 x_5 x_6 x_7 x_8 x_9 x_10 x_11 c_0 c_1 c_2 cf_0 cf_1 cf_2
        have HGw : Hid (Gr w4.drew w4.drew) := Lib.hid (Gr.refl _)
        refine wpAnyH_ready (rs := [4, 6, 8]) (by kernel_rfl) (by simp) ?_
        refine AllReadyH.cons rfl (fun K hK => ?_) (AllReadyH.cons rfl (fun K hK => ?_) (AllReadyH.cons rfl (fun K hK => ?_) (AllReadyH.nil)))
        · skip
          go_simp
          refine (at12 5 _).mono ?_
          rintro e u0 ⟨rfl, hg⟩
          refine hK.out _ _ (HGw.out.trans hg) (fun _ => ?_)
          clear hK K
          replace HGw := Lib.hid (HGw.out.trans hg)
          clear hg
          refine wpAnyH_ready (rs := [6, 8]) (by kernel_rfl) (by simp) ?_
          refine AllReadyH.cons rfl (fun K hK => ?_) (AllReadyH.cons rfl (fun K hK => ?_) (AllReadyH.nil))
          · skip
            go_simp
            have hg := (Gr.refl (u0)).alloc (.cells #[.int .i64 (1 + br), .string ⟨#[]⟩, .bool true] 76)
            refine hK.out _ _ (HGw.out.trans hg) (fun _ => ?_)
            clear hK K
            replace HGw := Lib.hid (HGw.out.trans hg)
            have HSl := Lib.hid (show ((u0).alloc (.cells #[.int .i64 (1 + br), .string ⟨#[]⟩, .bool true] 76)).heap[u0.heap.size]? = _ from heap_newn (by simp))
            clear hg
            refine wpAnyH_take (i := 7) rfl (by kernel_rfl) (by kernel_rfl) (by kernel_rfl) (fun _ _ _ h => h) (Or.inl ⟨by rfl, by intro w hSw; (try dsimp only at hSw); go_simp; (try with_reducible rfl)⟩) (by assumption) ?_; (try simp only [Act.put, List.setIfInBounds_toArray, List.set_cons_zero, List.set_cons_succ, List.getElem_toArray, List.getElem_cons_zero, List.getElem_cons_succ])
            refine wpAnyH_ready (rs := [8]) (by kernel_rfl) (by simp) ?_
            refine AllReadyH.cons rfl (fun K hK => ?_) (AllReadyH.nil)
            go_simp
            have hg := (Gr.refl ((u0).alloc (.cells #[.int .i64 (1 + br), .string ⟨#[]⟩, .bool true] 76))).alloc (.cells (ittA itt0 (.slice none 0 0)) 40)
            refine hK.out _ _ (HGw.out.trans hg) (fun _ => ?_)
            clear hK K
            have HB9 := Lib.hid (show (((u0).alloc (.cells #[.int .i64 (1 + br), .string ⟨#[]⟩, .bool true] 76)).alloc (.cells (ittA itt0 (.slice none 0 0)) 40)).heap[u0.heap.size + 1]? = _ ∧ w4.drew.heap.size ≤ u0.heap.size + 1 from ⟨heap_newn (by simp), (by have := HGw.out.size; simp at this ⊢; try omega)⟩)
            replace HGw := Lib.hid (HGw.out.trans hg)
            replace HSl := Lib.hid (hg.blk HSl.out)
            clear hg
            refine wpAnyH_ready (rs := [9]) (by kernel_rfl) (by simp) ?_
            refine AllReadyH.cons rfl (fun K hK => ?_) AllReadyH.nil
            rw [if_pos (by rfl)]
            have hrow : Gr w4.drew ((((u0).alloc (.cells #[.int .i64 (1 + br), .string ⟨#[]⟩, .bool true] 76)).alloc (.cells (ittA itt0 (.slice none 0 0)) 40)).setRow (u0.heap.size + 1) (ittA (mineI x (1 + br) ⟨#[]⟩ true) (.slice (some ⟨(u0.heap.size), 0, none⟩) 1 1))) := ⟨below_setRow HGw.out.b HB9.out.2 _⟩
            refine wp_store_row _ _ _ rfl (u0.heap.size + 1) (ittA (mineI x (1 + br) ⟨#[]⟩ true) (.slice (some ⟨(u0.heap.size), 0, none⟩) 1 1)) (by rfl) (by rfl) 40 (ittA itt0 (.slice none 0 0)) HB9.out.1 HI9.out (by rfl) (itt_one _ _ _ _) ?_
            refine hK.out _ _ hrow (fun _ => ?_)
            clear hK K
            refine wpAnyH_done (by kernel_rfl) ?_ _
            have hrd := chg_kept (w' := (((u0).alloc (.cells #[.int .i64 (1 + br), .string ⟨#[]⟩, .bool true] 76)).alloc (.cells (ittA itt0 (.slice none 0 0)) 40)).setRow (u0.heap.size + 1) (ittA (mineI x (1 + br) ⟨#[]⟩ true) (.slice (some ⟨(u0.heap.size), 0, none⟩) 1 1))) (chg_lit (c := ⟨1 + br, ⟨#[]⟩, true⟩) HSl.out) (Nat.le_of_eq (size_setRow _ _ _).symm) (fun k o hk ho => by rw [setRow_other _ _ _ _ hk]; exact ho) HB9.out.1 (noChg_itt _ _)
            exact ⟨_, _, _, _, _, _, _, _, (u0.heap.size + 1), (u0.heap.size), rfl, (Gr.refl w4).drew.trans hrow, setRow_heap _ _ _ _ _ _ HB9.out.1, hrd⟩
          · skip
            go_simp
            have hg := (Gr.refl (u0)).alloc (.cells (ittA itt0 (.slice none 0 0)) 40)
            refine hK.out _ _ (HGw.out.trans hg) (fun _ => ?_)
            clear hK K
            have HB9 := Lib.hid (show ((u0).alloc (.cells (ittA itt0 (.slice none 0 0)) 40)).heap[u0.heap.size]? = _ ∧ w4.drew.heap.size ≤ u0.heap.size from ⟨heap_newn (by simp), (by have := HGw.out.size; simp at this ⊢; try omega)⟩)
            replace HGw := Lib.hid (HGw.out.trans hg)
            clear hg
            refine wpAnyH_ready (rs := [6]) (by kernel_rfl) (by simp) ?_
            refine AllReadyH.cons rfl (fun K hK => ?_) (AllReadyH.nil)
            go_simp
            have hg := (Gr.refl ((u0).alloc (.cells (ittA itt0 (.slice none 0 0)) 40))).alloc (.cells #[.int .i64 (1 + br), .string ⟨#[]⟩, .bool true] 76)
            refine hK.out _ _ (HGw.out.trans hg) (fun _ => ?_)
            clear hK K
            replace HGw := Lib.hid (HGw.out.trans hg)
            have HSl := Lib.hid (show (((u0).alloc (.cells (ittA itt0 (.slice none 0 0)) 40)).alloc (.cells #[.int .i64 (1 + br), .string ⟨#[]⟩, .bool true] 76)).heap[u0.heap.size + 1]? = _ from heap_newn (by simp))
            replace HB9 := Lib.hid (show _ ∧ _ from ⟨hg.blk HB9.out.1, HB9.out.2⟩)
            clear hg
            refine wpAnyH_take (i := 7) rfl (by kernel_rfl) (by kernel_rfl) (by kernel_rfl) (fun _ _ _ h => h) (Or.inl ⟨by rfl, by intro w hSw; (try dsimp only at hSw); go_simp; (try with_reducible rfl)⟩) (by assumption) ?_; (try simp only [Act.put, List.setIfInBounds_toArray, List.set_cons_zero, List.set_cons_succ, List.getElem_toArray, List.getElem_cons_zero, List.getElem_cons_succ])
            refine wpAnyH_ready (rs := [9]) (by kernel_rfl) (by simp) ?_
            refine AllReadyH.cons rfl (fun K hK => ?_) AllReadyH.nil
            rw [if_pos (by rfl)]
            have hrow : Gr w4.drew ((((u0).alloc (.cells (ittA itt0 (.slice none 0 0)) 40)).alloc (.cells #[.int .i64 (1 + br), .string ⟨#[]⟩, .bool true] 76)).setRow (u0.heap.size) (ittA (mineI x (1 + br) ⟨#[]⟩ true) (.slice (some ⟨(u0.heap.size + 1), 0, none⟩) 1 1))) := ⟨below_setRow HGw.out.b HB9.out.2 _⟩
            refine wp_store_row _ _ _ rfl (u0.heap.size) (ittA (mineI x (1 + br) ⟨#[]⟩ true) (.slice (some ⟨(u0.heap.size + 1), 0, none⟩) 1 1)) (by rfl) (by rfl) 40 (ittA itt0 (.slice none 0 0)) HB9.out.1 HI9.out (by rfl) (itt_one _ _ _ _) ?_
            refine hK.out _ _ hrow (fun _ => ?_)
            clear hK K
            refine wpAnyH_done (by kernel_rfl) ?_ _
            have hrd := chg_kept (w' := (((u0).alloc (.cells (ittA itt0 (.slice none 0 0)) 40)).alloc (.cells #[.int .i64 (1 + br), .string ⟨#[]⟩, .bool true] 76)).setRow (u0.heap.size) (ittA (mineI x (1 + br) ⟨#[]⟩ true) (.slice (some ⟨(u0.heap.size + 1), 0, none⟩) 1 1))) (chg_lit (c := ⟨1 + br, ⟨#[]⟩, true⟩) HSl.out) (Nat.le_of_eq (size_setRow _ _ _).symm) (fun k o hk ho => by rw [setRow_other _ _ _ _ hk]; exact ho) HB9.out.1 (noChg_itt _ _)
            exact ⟨_, _, _, _, _, _, _, _, (u0.heap.size), (u0.heap.size + 1), rfl, (Gr.refl w4).drew.trans hrow, setRow_heap _ _ _ _ _ _ HB9.out.1, hrd⟩
        · skip
          go_simp
          have hg := (Gr.refl (w4.drew)).alloc (.cells #[.int .i64 (1 + br), .string ⟨#[]⟩, .bool true] 76)
          refine hK.out _ _ (HGw.out.trans hg) (fun _ => ?_)
          clear hK K
          replace HGw := Lib.hid (HGw.out.trans hg)
          have HSl := Lib.hid (show ((w4.drew).alloc (.cells #[.int .i64 (1 + br), .string ⟨#[]⟩, .bool true] 76)).heap[w4.heap.size]? = _ from heap_newn (by simp))
          clear hg
          refine wpAnyH_ready (rs := [4, 8]) (by kernel_rfl) (by simp) ?_
          refine AllReadyH.cons rfl (fun K hK => ?_) (AllReadyH.cons rfl (fun K hK => ?_) (AllReadyH.nil))
          · skip
            go_simp
            refine (at12 5 _).mono ?_
            rintro e u0 ⟨rfl, hg⟩
            refine hK.out _ _ (HGw.out.trans hg) (fun _ => ?_)
            clear hK K
            replace HGw := Lib.hid (HGw.out.trans hg)
            replace HSl := Lib.hid (hg.blk HSl.out)
            clear hg
            refine wpAnyH_take (i := 7) rfl (by kernel_rfl) (by kernel_rfl) (by kernel_rfl) (fun _ _ _ h => h) (Or.inl ⟨by rfl, by intro w hSw; (try dsimp only at hSw); go_simp; (try with_reducible rfl)⟩) (by assumption) ?_; (try simp only [Act.put, List.setIfInBounds_toArray, List.set_cons_zero, List.set_cons_succ, List.getElem_toArray, List.getElem_cons_zero, List.getElem_cons_succ])
            refine wpAnyH_ready (rs := [8]) (by kernel_rfl) (by simp) ?_
            refine AllReadyH.cons rfl (fun K hK => ?_) (AllReadyH.nil)
            go_simp
            have hg := (Gr.refl (u0)).alloc (.cells (ittA itt0 (.slice none 0 0)) 40)
            refine hK.out _ _ (HGw.out.trans hg) (fun _ => ?_)
            clear hK K
            have HB9 := Lib.hid (show ((u0).alloc (.cells (ittA itt0 (.slice none 0 0)) 40)).heap[u0.heap.size]? = _ ∧ w4.drew.heap.size ≤ u0.heap.size from ⟨heap_newn (by simp), (by have := HGw.out.size; simp at this ⊢; try omega)⟩)
            replace HGw := Lib.hid (HGw.out.trans hg)
            replace HSl := Lib.hid (hg.blk HSl.out)
            clear hg
            refine wpAnyH_ready (rs := [9]) (by kernel_rfl) (by simp) ?_
            refine AllReadyH.cons rfl (fun K hK => ?_) AllReadyH.nil
            rw [if_pos (by rfl)]
            have hrow : Gr w4.drew (((u0).alloc (.cells (ittA itt0 (.slice none 0 0)) 40)).setRow (u0.heap.size) (ittA (mineI x (1 + br) ⟨#[]⟩ true) (.slice (some ⟨(w4.heap.size), 0, none⟩) 1 1))) := ⟨below_setRow HGw.out.b HB9.out.2 _⟩
            refine wp_store_row _ _ _ rfl (u0.heap.size) (ittA (mineI x (1 + br) ⟨#[]⟩ true) (.slice (some ⟨(w4.heap.size), 0, none⟩) 1 1)) (by rfl) (by rfl) 40 (ittA itt0 (.slice none 0 0)) HB9.out.1 HI9.out (by rfl) (itt_one _ _ _ _) ?_
            refine hK.out _ _ hrow (fun _ => ?_)
            clear hK K
            refine wpAnyH_done (by kernel_rfl) ?_ _
            have hrd := chg_kept (w' := ((u0).alloc (.cells (ittA itt0 (.slice none 0 0)) 40)).setRow (u0.heap.size) (ittA (mineI x (1 + br) ⟨#[]⟩ true) (.slice (some ⟨(w4.heap.size), 0, none⟩) 1 1))) (chg_lit (c := ⟨1 + br, ⟨#[]⟩, true⟩) HSl.out) (Nat.le_of_eq (size_setRow _ _ _).symm) (fun k o hk ho => by rw [setRow_other _ _ _ _ hk]; exact ho) HB9.out.1 (noChg_itt _ _)
            exact ⟨_, _, _, _, _, _, _, _, (u0.heap.size), (w4.heap.size), rfl, (Gr.refl w4).drew.trans hrow, setRow_heap _ _ _ _ _ _ HB9.out.1, hrd⟩
          · skip
            go_simp
            have hg := (Gr.refl ((w4.drew).alloc (.cells #[.int .i64 (1 + br), .string ⟨#[]⟩, .bool true] 76))).alloc (.cells (ittA itt0 (.slice none 0 0)) 40)
            refine hK.out _ _ (HGw.out.trans hg) (fun _ => ?_)
            clear hK K
            have HB9 := Lib.hid (show (((w4.drew).alloc (.cells #[.int .i64 (1 + br), .string ⟨#[]⟩, .bool true] 76)).alloc (.cells (ittA itt0 (.slice none 0 0)) 40)).heap[w4.heap.size + 1]? = _ ∧ w4.drew.heap.size ≤ w4.heap.size + 1 from ⟨heap_newn (by simp), (by have := HGw.out.size; simp at this ⊢; try omega)⟩)
            replace HGw := Lib.hid (HGw.out.trans hg)
            replace HSl := Lib.hid (hg.blk HSl.out)
            clear hg
            refine wpAnyH_ready (rs := [4]) (by kernel_rfl) (by simp) ?_
            refine AllReadyH.cons rfl (fun K hK => ?_) (AllReadyH.nil)
            go_simp
            refine (at12 5 _).mono ?_
            rintro e u0 ⟨rfl, hg⟩
            refine hK.out _ _ (HGw.out.trans hg) (fun _ => ?_)
            clear hK K
            replace HGw := Lib.hid (HGw.out.trans hg)
            replace HB9 := Lib.hid (show _ ∧ _ from ⟨hg.blk HB9.out.1, HB9.out.2⟩)
            replace HSl := Lib.hid (hg.blk HSl.out)
            clear hg
            refine wpAnyH_take (i := 7) rfl (by kernel_rfl) (by kernel_rfl) (by kernel_rfl) (fun _ _ _ h => h) (Or.inl ⟨by rfl, by intro w hSw; (try dsimp only at hSw); go_simp; (try with_reducible rfl)⟩) (by assumption) ?_; (try simp only [Act.put, List.setIfInBounds_toArray, List.set_cons_zero, List.set_cons_succ, List.getElem_toArray, List.getElem_cons_zero, List.getElem_cons_succ])
            refine wpAnyH_ready (rs := [9]) (by kernel_rfl) (by simp) ?_
            refine AllReadyH.cons rfl (fun K hK => ?_) AllReadyH.nil
            rw [if_pos (by rfl)]
            have hrow : Gr w4.drew ((u0).setRow (w4.heap.size + 1) (ittA (mineI x (1 + br) ⟨#[]⟩ true) (.slice (some ⟨(w4.heap.size), 0, none⟩) 1 1))) := ⟨below_setRow HGw.out.b HB9.out.2 _⟩
            refine wp_store_row _ _ _ rfl (w4.heap.size + 1) (ittA (mineI x (1 + br) ⟨#[]⟩ true) (.slice (some ⟨(w4.heap.size), 0, none⟩) 1 1)) (by rfl) (by rfl) 40 (ittA itt0 (.slice none 0 0)) HB9.out.1 HI9.out (by rfl) (itt_one _ _ _ _) ?_
            refine hK.out _ _ hrow (fun _ => ?_)
            clear hK K
            refine wpAnyH_done (by kernel_rfl) ?_ _
            have hrd := chg_kept (w' := (u0).setRow (w4.heap.size + 1) (ittA (mineI x (1 + br) ⟨#[]⟩ true) (.slice (some ⟨(w4.heap.size), 0, none⟩) 1 1))) (chg_lit (c := ⟨1 + br, ⟨#[]⟩, true⟩) HSl.out) (Nat.le_of_eq (size_setRow _ _ _).symm) (fun k o hk ho => by rw [setRow_other _ _ _ _ hk]; exact ho) HB9.out.1 (noChg_itt _ _)
            exact ⟨_, _, _, _, _, _, _, _, (w4.heap.size + 1), (w4.heap.size), rfl, (Gr.refl w4).drew.trans hrow, setRow_heap _ _ _ _ _ _ HB9.out.1, hrd⟩
        · skip
          go_simp
          have hg := (Gr.refl (w4.drew)).alloc (.cells (ittA itt0 (.slice none 0 0)) 40)
          refine hK.out _ _ (HGw.out.trans hg) (fun _ => ?_)
          clear hK K
          have HB9 := Lib.hid (show ((w4.drew).alloc (.cells (ittA itt0 (.slice none 0 0)) 40)).heap[w4.heap.size]? = _ ∧ w4.drew.heap.size ≤ w4.heap.size from ⟨heap_newn (by simp), (by have := HGw.out.size; simp at this ⊢; try omega)⟩)
          replace HGw := Lib.hid (HGw.out.trans hg)
          clear hg
          refine wpAnyH_ready (rs := [4, 6]) (by kernel_rfl) (by simp) ?_
          refine AllReadyH.cons rfl (fun K hK => ?_) (AllReadyH.cons rfl (fun K hK => ?_) (AllReadyH.nil))
          · skip
            go_simp
            refine (at12 5 _).mono ?_
            rintro e u0 ⟨rfl, hg⟩
            refine hK.out _ _ (HGw.out.trans hg) (fun _ => ?_)
            clear hK K
            replace HGw := Lib.hid (HGw.out.trans hg)
            replace HB9 := Lib.hid (show _ ∧ _ from ⟨hg.blk HB9.out.1, HB9.out.2⟩)
            clear hg
            refine wpAnyH_ready (rs := [6]) (by kernel_rfl) (by simp) ?_
            refine AllReadyH.cons rfl (fun K hK => ?_) (AllReadyH.nil)
            go_simp
            have hg := (Gr.refl (u0)).alloc (.cells #[.int .i64 (1 + br), .string ⟨#[]⟩, .bool true] 76)
            refine hK.out _ _ (HGw.out.trans hg) (fun _ => ?_)
            clear hK K
            replace HGw := Lib.hid (HGw.out.trans hg)
            have HSl := Lib.hid (show ((u0).alloc (.cells #[.int .i64 (1 + br), .string ⟨#[]⟩, .bool true] 76)).heap[u0.heap.size]? = _ from heap_newn (by simp))
            replace HB9 := Lib.hid (show _ ∧ _ from ⟨hg.blk HB9.out.1, HB9.out.2⟩)
            clear hg
            refine wpAnyH_take (i := 7) rfl (by kernel_rfl) (by kernel_rfl) (by kernel_rfl) (fun _ _ _ h => h) (Or.inl ⟨by rfl, by intro w hSw; (try dsimp only at hSw); go_simp; (try with_reducible rfl)⟩) (by assumption) ?_; (try simp only [Act.put, List.setIfInBounds_toArray, List.set_cons_zero, List.set_cons_succ, List.getElem_toArray, List.getElem_cons_zero, List.getElem_cons_succ])
            refine wpAnyH_ready (rs := [9]) (by kernel_rfl) (by simp) ?_
            refine AllReadyH.cons rfl (fun K hK => ?_) AllReadyH.nil
            rw [if_pos (by rfl)]
            have hrow : Gr w4.drew (((u0).alloc (.cells #[.int .i64 (1 + br), .string ⟨#[]⟩, .bool true] 76)).setRow (w4.heap.size) (ittA (mineI x (1 + br) ⟨#[]⟩ true) (.slice (some ⟨(u0.heap.size), 0, none⟩) 1 1))) := ⟨below_setRow HGw.out.b HB9.out.2 _⟩
            refine wp_store_row _ _ _ rfl (w4.heap.size) (ittA (mineI x (1 + br) ⟨#[]⟩ true) (.slice (some ⟨(u0.heap.size), 0, none⟩) 1 1)) (by rfl) (by rfl) 40 (ittA itt0 (.slice none 0 0)) HB9.out.1 HI9.out (by rfl) (itt_one _ _ _ _) ?_
            refine hK.out _ _ hrow (fun _ => ?_)
            clear hK K
            refine wpAnyH_done (by kernel_rfl) ?_ _
            have hrd := chg_kept (w' := ((u0).alloc (.cells #[.int .i64 (1 + br), .string ⟨#[]⟩, .bool true] 76)).setRow (w4.heap.size) (ittA (mineI x (1 + br) ⟨#[]⟩ true) (.slice (some ⟨(u0.heap.size), 0, none⟩) 1 1))) (chg_lit (c := ⟨1 + br, ⟨#[]⟩, true⟩) HSl.out) (Nat.le_of_eq (size_setRow _ _ _).symm) (fun k o hk ho => by rw [setRow_other _ _ _ _ hk]; exact ho) HB9.out.1 (noChg_itt _ _)
            exact ⟨_, _, _, _, _, _, _, _, (w4.heap.size), (u0.heap.size), rfl, (Gr.refl w4).drew.trans hrow, setRow_heap _ _ _ _ _ _ HB9.out.1, hrd⟩
          · skip
            go_simp
            have hg := (Gr.refl ((w4.drew).alloc (.cells (ittA itt0 (.slice none 0 0)) 40))).alloc (.cells #[.int .i64 (1 + br), .string ⟨#[]⟩, .bool true] 76)
            refine hK.out _ _ (HGw.out.trans hg) (fun _ => ?_)
            clear hK K
            replace HGw := Lib.hid (HGw.out.trans hg)
            have HSl := Lib.hid (show (((w4.drew).alloc (.cells (ittA itt0 (.slice none 0 0)) 40)).alloc (.cells #[.int .i64 (1 + br), .string ⟨#[]⟩, .bool true] 76)).heap[w4.heap.size + 1]? = _ from heap_newn (by simp))
            replace HB9 := Lib.hid (show _ ∧ _ from ⟨hg.blk HB9.out.1, HB9.out.2⟩)
            clear hg
            refine wpAnyH_ready (rs := [4]) (by kernel_rfl) (by simp) ?_
            refine AllReadyH.cons rfl (fun K hK => ?_) (AllReadyH.nil)
            go_simp
            refine (at12 5 _).mono ?_
            rintro e u0 ⟨rfl, hg⟩
            refine hK.out _ _ (HGw.out.trans hg) (fun _ => ?_)
            clear hK K
            replace HGw := Lib.hid (HGw.out.trans hg)
            replace HB9 := Lib.hid (show _ ∧ _ from ⟨hg.blk HB9.out.1, HB9.out.2⟩)
            replace HSl := Lib.hid (hg.blk HSl.out)
            clear hg
            refine wpAnyH_take (i := 7) rfl (by kernel_rfl) (by kernel_rfl) (by kernel_rfl) (fun _ _ _ h => h) (Or.inl ⟨by rfl, by intro w hSw; (try dsimp only at hSw); go_simp; (try with_reducible rfl)⟩) (by assumption) ?_; (try simp only [Act.put, List.setIfInBounds_toArray, List.set_cons_zero, List.set_cons_succ, List.getElem_toArray, List.getElem_cons_zero, List.getElem_cons_succ])
            refine wpAnyH_ready (rs := [9]) (by kernel_rfl) (by simp) ?_
            refine AllReadyH.cons rfl (fun K hK => ?_) AllReadyH.nil
            rw [if_pos (by rfl)]
            have hrow : Gr w4.drew ((u0).setRow (w4.heap.size) (ittA (mineI x (1 + br) ⟨#[]⟩ true) (.slice (some ⟨(w4.heap.size + 1), 0, none⟩) 1 1))) := ⟨below_setRow HGw.out.b HB9.out.2 _⟩
            refine wp_store_row _ _ _ rfl (w4.heap.size) (ittA (mineI x (1 + br) ⟨#[]⟩ true) (.slice (some ⟨(w4.heap.size + 1), 0, none⟩) 1 1)) (by rfl) (by rfl) 40 (ittA itt0 (.slice none 0 0)) HB9.out.1 HI9.out (by rfl) (itt_one _ _ _ _) ?_
            refine hK.out _ _ hrow (fun _ => ?_)
            clear hK K
            refine wpAnyH_done (by kernel_rfl) ?_ _
            have hrd := chg_kept (w' := (u0).setRow (w4.heap.size) (ittA (mineI x (1 + br) ⟨#[]⟩ true) (.slice (some ⟨(w4.heap.size + 1), 0, none⟩) 1 1))) (chg_lit (c := ⟨1 + br, ⟨#[]⟩, true⟩) HSl.out) (Nat.le_of_eq (size_setRow _ _ _).symm) (fun k o hk ho => by rw [setRow_other _ _ _ _ hk]; exact ho) HB9.out.1 (noChg_itt _ _)
            exact ⟨_, _, _, _, _, _, _, _, (w4.heap.size), (w4.heap.size + 1), rfl, (Gr.refl w4).drew.trans hrow, setRow_heap _ _ _ _ _ _ HB9.out.1, hrd⟩
      case rest =>
        intro u30 u31 u32 u33 u34 u35 u36 u37 g9 gS W5 ⟨hg, hm, hrd⟩
        have HM := Lib.hid hm
        have HRd := Lib.hid hrd
        replace HG := Lib.hid (HG.out.trans hg)
        replace HTx := Lib.hid (hg.blk HTx.out)
        replace HCh := Lib.hid (hg.blk HCh.out)
        replace HT := Lib.hid (HT.out.gr hg)
        clear hg hm hrd x_0 x_1 x_2 x_3 x_4 x_5 x_6 x_7 x_8 x_9 x_10 x_11 c_0 c_1 c_2 cf_0 cf_1 cf_2
        simp only [List.setIfInBounds_toArray, List.set_cons_zero, List.set_cons_succ]
        have hm9 := HM.out
        unfold ittA mineI at hm9
        obtain ⟨i_0, i_1, i_2, i_3, i_4, i_5, i_6, i_7, i_8, _, _, _, _, _, _, _, _, _, _⟩ := blk9 hm9
        clear hm9
        go_wp2_with fail
        refine (put12 HT.out HSz.out (Nat.le_trans HR60.out (by decide)) (tI (mineI x (1 + br) ⟨#[]⟩ true)) HRd.out (by show 1 ≤ _; decide)).mono ?_
        rintro e w6 ⟨tc, rfl, ht, hg⟩
        replace HG := Lib.hid (HG.out.trans hg)
        replace HTx := Lib.hid (hg.blk HTx.out)
        replace HCh := Lib.hid (hg.blk HCh.out)
        replace HT := Lib.hid (HT.out.gr hg)
        have HC := Lib.hid ht
        clear ht hg i_0 i_1 i_2 i_3 i_4 i_5 i_6 i_7 i_8 HM HRd
        have HSc := Lib.hid (putT_sz (x := tI (mineI x (1 + br) ⟨#[]⟩ true)) HSz.out (by show (1 : Nat) ≤ _; decide) (by show (0 : Nat) ≤ _; decide))
        have htx := HTx.out
        unfold txC at htx
        obtain ⟨x_0, x_1, x_2, x_3, x_4, x_5, x_6, x_7, x_8, x_9, x_10, x_11, _, _, _, _, _, _, _, _, _, _, _, _, _⟩ := blk12 htx
        clear htx
        obtain ⟨c_0, c_1, c_2, cf_0, cf_1, cf_2, _⟩ := blk3 HCh.out
        have hv : (⟨#[]⟩ : ByteArray).size ≤ 64 := by decide
        by_cases hr : x.rw = 0 ∧ x.rl = 0
        · skip
          have e1 : (x.rw == 0) = true := by simpa using hr.1
          have e2 : (x.rl == 0) = true := by simpa using hr.2
          clear hr
          have HGt := Lib.hid (get12 (HSh.out.gr HG.out) HC.out (szw HSc.out) HSc.out keyA x 0 0)
          generalize getF (putT (tI (mineI x (1 + br) ⟨#[]⟩ true)) R) keyA x 0 0 = gg at *
          obtain ⟨f, ee⟩ := gg
          simp only at HGt
          unfold txC at HGt
          go_wp2_with fail
          refine (HGt.out).mono ?_
          rintro e w7 ⟨vl, rfl, hrd, hg⟩
          replace HG := Lib.hid (HG.out.trans hg)
          replace HTx := Lib.hid (hg.blk HTx.out)
          replace HCh := Lib.hid (hg.blk HCh.out)
          replace HT := Lib.hid (HT.out.gr hg)
          replace HC := Lib.hid (HC.out.gr hg)
          obtain ⟨q1, n1, c1, rfl⟩ := rdc_slice hrd
          have hgn := hg.alloc (.cells (fndA f (.slice q1 n1 c1)) 42)
          clear x_0 x_1 x_2 x_3 x_4 x_5 x_6 x_7 x_8 x_9 x_10 x_11
          clear c_0 c_1 c_2 cf_0 cf_1 cf_2
          clear hg hrd HGt
          have hga := (Gr.refl w7).alloc (.cells (fndA f (.slice q1 n1 c1)) 42)
          replace HG := Lib.hid (HG.out.trans hga)
          replace HTx := Lib.hid (hga.blk HTx.out)
          replace HCh := Lib.hid (hga.blk HCh.out)
          replace HT := Lib.hid (HT.out.gr hga)
          replace HC := Lib.hid (HC.out.gr hga)
          clear hga hgn
          unfold fndA at *
          have htx := HTx.out
          unfold txC at htx
          obtain ⟨x_0, x_1, x_2, x_3, x_4, x_5, x_6, x_7, x_8, x_9, x_10, x_11, _, _, _, _, _, _, _, _, _, _, _, _, _⟩ := blk12 htx
          clear htx
          obtain ⟨c_0, c_1, c_2, cf_0, cf_1, cf_2, _⟩ := blk3 HCh.out
          go_wp2_with fail
          refine (awake12 (HSh.out.gr HG.out)).mono ?_
          rintro e wz ⟨rfl, hg⟩
          go_wp2
          go_ret
          exact ⟨rfl, HG.out.trans hg⟩
        · skip
          have hgr : getF (putT (tI (mineI x (1 + br) ⟨#[]⟩ true)) R) keyA x 0 0 = (⟨keyA, ⟨#[]⟩, false, true, 5, 0, itt0⟩, 0) := own_read (R := R) (x := x) HMt.out (s := 1 + br) (by have h1 := HB1.out; have h2 := HB2.out; omega) (v := ⟨#[]⟩) hv (d := true) (by intro _; rfl) hr
          have HGt := Lib.hid (getC (HSh.out.gr HG.out) HC.out HSc.out hgr)
          unfold txC at HGt
          have e3 : (x.rw == 0 && x.rl == 0) = false := by cases h1 : x.rw == 0 <;> cases h2 : x.rl == 0 <;> simp_all
          clear hgr hr
          go_wp2_with fail
          refine (HGt.out).mono ?_
          rintro e w7 ⟨q1, n1, c1, rfl, hrd, hg⟩
          replace HG := Lib.hid (HG.out.trans hg)
          replace HTx := Lib.hid (hg.blk HTx.out)
          replace HCh := Lib.hid (hg.blk HCh.out)
          replace HT := Lib.hid (HT.out.gr hg)
          replace HC := Lib.hid (HC.out.gr hg)
          unfold fndA
          have HF := Lib.hid (heap_alloc_new w7 (.cells (fndA ⟨keyA, ⟨#[]⟩, false, true, 5, 0, itt0⟩ (.slice q1 n1 c1)) 42))
          have hga := (Gr.refl w7).alloc (.cells (fndA ⟨keyA, ⟨#[]⟩, false, true, 5, 0, itt0⟩ (.slice q1 n1 c1)) 42)
          replace HG := Lib.hid (HG.out.trans hga)
          replace HTx := Lib.hid (hga.blk HTx.out)
          replace HCh := Lib.hid (hga.blk HCh.out)
          replace HT := Lib.hid (HT.out.gr hga)
          replace HC := Lib.hid (HC.out.gr hga)
          clear x_0 x_1 x_2 x_3 x_4 x_5 x_6 x_7 x_8 x_9 x_10 x_11
          clear c_0 c_1 c_2 cf_0 cf_1 cf_2
          clear hga hg hrd HGt
          unfold fndA at *
          dsimp only at *
          have htx := HTx.out
          unfold txC at htx
          obtain ⟨x_0, x_1, x_2, x_3, x_4, x_5, x_6, x_7, x_8, x_9, x_10, x_11, _, _, _, _, _, _, _, _, _, _, _, _, _⟩ := blk12 htx
          clear htx
          obtain ⟨c_0, c_1, c_2, cf_0, cf_1, cf_2, _⟩ := blk3 HCh.out
          go_wp2_with fail
          · exfalso
            clear HF HCh HTx HG HC HT
            simp_all
          all_goals
            refine wp_gen (fun w8 hg8 => ?_)
            replace HG := Lib.hid (HG.out.trans hg8)
            replace HTx := Lib.hid (hg8.blk HTx.out)
            replace HCh := Lib.hid (hg8.blk HCh.out)
            replace HT := Lib.hid (HT.out.gr hg8)
            replace HC := Lib.hid (HC.out.gr hg8)
            replace HF := Lib.hid (hg8.blk HF.out)
            clear hg8
            clear x_0 x_1 x_2 x_3 x_4 x_5 x_6 x_7 x_8 x_9 x_10 x_11
            clear c_0 c_1 c_2 cf_0 cf_1 cf_2
            replace HG := Lib.hid (HG.out.trans (Gr.refl w8).drew)
            have G3 : ∀ w', Gr w8.drew w' → w'.cell? ⟨w7.heap.size, 3, none⟩ = some (.bool true) := cellRule (w := w8.drew) (cell_of HF.out rfl)
            have G2 : ∀ w', Gr w8.drew w' → w'.cell? ⟨w7.heap.size, 2, none⟩ = some (.bool false) := cellRule (w := w8.drew) (cell_of HF.out rfl)
            have D2 : ∀ w', Gr w8.drew w' → w'.cell? ⟨w.heap.size + 1, 2, none⟩ = some (.bool true) := cellRule (w := w8.drew) (cell_of HCh.out rfl)
            have G1 : ∀ w', Gr w8.drew w' → w'.cell? ⟨w7.heap.size, 1, none⟩ = some (.string ⟨#[]⟩) := cellRule (w := w8.drew) (cell_of HF.out rfl)
            have D1 : ∀ w', Gr w8.drew w' → w'.cell? ⟨w.heap.size + 1, 1, none⟩ = some (.string ⟨#[]⟩) := cellRule (w := w8.drew) (cell_of HCh.out rfl)
            have G4 : ∀ w', Gr w8.drew w' → w'.cell? ⟨w7.heap.size, 4, none⟩ = some (.int .i64 5) := cellRule (w := w8.drew) (cell_of HF.out rfl)
            have G5 : ∀ w', Gr w8.drew w' → w'.cell? ⟨w7.heap.size, 5, none⟩ = some (.int .i64 0) := cellRule (w := w8.drew) (cell_of HF.out rfl)
            refine wp_region_held_drew (S := fun w' => Gr w8.drew w') (by kernel_rfl) (Gr.refl _) (fun hHeld => ?_)
            try dsimp only at hHeld
            refine wpAnyH_take (i := 0) rfl (by kernel_rfl) (by kernel_rfl) (by kernel_rfl) (fun _ _ _ h => h) (Or.inl ⟨by rfl, by intro w hSw; (try dsimp only at hSw); go_simp; (try with_reducible rfl)⟩) (by assumption) ?_; (try simp only [Act.put, List.setIfInBounds_toArray, List.set_cons_zero, List.set_cons_succ, List.getElem_toArray, List.getElem_cons_zero, List.getElem_cons_succ])
            refine wpAnyH_take (i := 1) rfl (by kernel_rfl) (by kernel_rfl) (by kernel_rfl) (fun _ _ _ h => h) (Or.inl ⟨by rfl, by intro w hSw; (try dsimp only at hSw); go_simp; (try with_reducible rfl)⟩) (by assumption) ?_; (try simp only [Act.put, List.setIfInBounds_toArray, List.set_cons_zero, List.set_cons_succ, List.getElem_toArray, List.getElem_cons_zero, List.getElem_cons_succ])
            refine wpAnyH_take (i := 2) rfl (by kernel_rfl) (by kernel_rfl) (by kernel_rfl) (fun _ _ _ h => h) (Or.inl ⟨by rfl, by intro w hSw; (try dsimp only at hSw); go_simp; (try with_reducible rfl)⟩) (by assumption) ?_; (try simp only [Act.put, List.setIfInBounds_toArray, List.set_cons_zero, List.set_cons_succ, List.getElem_toArray, List.getElem_cons_zero, List.getElem_cons_succ])
            refine wpAnyH_take (i := 3) rfl (by kernel_rfl) (by kernel_rfl) (by kernel_rfl) (fun _ _ _ h => h) (Or.inl ⟨by rfl, by intro w hSw; (try dsimp only at hSw); go_simp; (try with_reducible rfl)⟩) (by assumption) ?_; (try simp only [Act.put, List.setIfInBounds_toArray, List.set_cons_zero, List.set_cons_succ, List.getElem_toArray, List.getElem_cons_zero, List.getElem_cons_succ])
            refine wpAnyH_take (i := 4) rfl (by kernel_rfl) (by kernel_rfl) (by kernel_rfl) (fun _ _ _ h => h) (Or.inl ⟨by rfl, by intro w hSw; (try dsimp only at hSw); go_simp; (try with_reducible rfl)⟩) (by assumption) ?_; (try simp only [Act.put, List.setIfInBounds_toArray, List.set_cons_zero, List.set_cons_succ, List.getElem_toArray, List.getElem_cons_zero, List.getElem_cons_succ])
            refine wpAnyH_take (i := 5) rfl (by kernel_rfl) (by kernel_rfl) (by kernel_rfl) (fun _ _ _ h => h) (Or.inl ⟨by rfl, by intro w hSw; (try dsimp only at hSw); go_simp; (try with_reducible rfl)⟩) (by assumption) ?_; (try simp only [Act.put, List.setIfInBounds_toArray, List.set_cons_zero, List.set_cons_succ, List.getElem_toArray, List.getElem_cons_zero, List.getElem_cons_succ])
            refine wpAnyH_take (i := 6) rfl (by kernel_rfl) (by kernel_rfl) (by kernel_rfl) (fun _ _ _ h => h) (Or.inl ⟨by rfl, by intro w hSw; (try dsimp only at hSw); go_simp; (try with_reducible rfl)⟩) (by assumption) ?_; (try simp only [Act.put, List.setIfInBounds_toArray, List.set_cons_zero, List.set_cons_succ, List.getElem_toArray, List.getElem_cons_zero, List.getElem_cons_succ])
            refine wpAnyH_take (i := 7) rfl (by kernel_rfl) (by kernel_rfl) (by kernel_rfl) (fun _ _ _ h => h) (Or.inl ⟨by rfl, by intro w hSw; (try dsimp only at hSw); go_simp; (try with_reducible rfl)⟩) (by assumption) ?_; (try simp only [Act.put, List.setIfInBounds_toArray, List.set_cons_zero, List.set_cons_succ, List.getElem_toArray, List.getElem_cons_zero, List.getElem_cons_succ])
            refine wpAnyH_take (i := 8) rfl (by kernel_rfl) (by kernel_rfl) (by kernel_rfl) (fun _ _ _ h => h) (Or.inl ⟨by rfl, by intro w hSw; (try dsimp only at hSw); go_simp; (try with_reducible rfl)⟩) (by assumption) ?_; (try simp only [Act.put, List.setIfInBounds_toArray, List.set_cons_zero, List.set_cons_succ, List.getElem_toArray, List.getElem_cons_zero, List.getElem_cons_succ])
            refine wpAnyH_take (i := 9) rfl (by kernel_rfl) (by kernel_rfl) (by kernel_rfl) (fun _ _ _ h => h) (Or.inl ⟨by rfl, by intro w hSw; (try dsimp only at hSw); go_simp; (try with_reducible rfl)⟩) (by assumption) ?_; (try simp only [Act.put, List.setIfInBounds_toArray, List.set_cons_zero, List.set_cons_succ, List.getElem_toArray, List.getElem_cons_zero, List.getElem_cons_succ])
            refine wpAnyH_take (i := 10) rfl (by kernel_rfl) (by kernel_rfl) (by kernel_rfl) (fun _ _ _ h => h) (Or.inl ⟨by rfl, by intro w hSw; (try dsimp only at hSw); go_simp; (try with_reducible rfl)⟩) (by assumption) ?_; (try simp only [Act.put, List.setIfInBounds_toArray, List.set_cons_zero, List.set_cons_succ, List.getElem_toArray, List.getElem_cons_zero, List.getElem_cons_succ])
            refine wpAnyH_take (i := 11) rfl (by kernel_rfl) (by kernel_rfl) (by kernel_rfl) (fun _ _ _ h => h) (Or.inl ⟨by rfl, by intro w hSw; (try dsimp only at hSw); go_simp; (try with_reducible rfl)⟩) (by assumption) ?_; (try simp only [Act.put, List.setIfInBounds_toArray, List.set_cons_zero, List.set_cons_succ, List.getElem_toArray, List.getElem_cons_zero, List.getElem_cons_succ])
            refine wpAnyH_take (i := 12) rfl (by kernel_rfl) (by kernel_rfl) (by kernel_rfl) (fun _ _ _ h => h) (Or.inl ⟨by rfl, by intro w hSw; (try dsimp only at hSw); go_simp; (try with_reducible rfl)⟩) (by assumption) ?_; (try simp only [Act.put, List.setIfInBounds_toArray, List.set_cons_zero, List.set_cons_succ, List.getElem_toArray, List.getElem_cons_zero, List.getElem_cons_succ])
            refine wpAnyH_take (i := 13) rfl (by kernel_rfl) (by kernel_rfl) (by kernel_rfl) (fun _ _ _ h => h) (Or.inl ⟨by rfl, by intro w hSw; (try dsimp only at hSw); go_simp; (try with_reducible rfl)⟩) (by assumption) ?_; (try simp only [Act.put, List.setIfInBounds_toArray, List.set_cons_zero, List.set_cons_succ, List.getElem_toArray, List.getElem_cons_zero, List.getElem_cons_succ])
            refine wpAnyH_take (i := 14) rfl (by kernel_rfl) (by kernel_rfl) (by kernel_rfl) (fun _ _ _ h => h) (Or.inl ⟨by rfl, by intro w hSw; (try dsimp only at hSw); go_simp; (try with_reducible rfl)⟩) (by assumption) ?_; (try simp only [Act.put, List.setIfInBounds_toArray, List.set_cons_zero, List.set_cons_succ, List.getElem_toArray, List.getElem_cons_zero, List.getElem_cons_succ])
            refine wpAnyH_take (i := 15) rfl (by kernel_rfl) (by kernel_rfl) (by kernel_rfl) (fun _ _ _ h => h) (Or.inl ⟨by rfl, by intro w hSw; (try dsimp only at hSw); go_simp; (try with_reducible rfl)⟩) (by assumption) ?_; (try simp only [Act.put, List.setIfInBounds_toArray, List.set_cons_zero, List.set_cons_succ, List.getElem_toArray, List.getElem_cons_zero, List.getElem_cons_succ])
            refine wpAnyH_take (i := 16) rfl (by kernel_rfl) (by kernel_rfl) (by kernel_rfl) (fun _ _ _ h => h) (Or.inl ⟨by rfl, by intro w hSw; (try dsimp only at hSw); go_simp; (try with_reducible rfl)⟩) (by assumption) ?_; (try simp only [Act.put, List.setIfInBounds_toArray, List.set_cons_zero, List.set_cons_succ, List.getElem_toArray, List.getElem_cons_zero, List.getElem_cons_succ])
            refine wpAnyH_take (i := 17) rfl (by kernel_rfl) (by kernel_rfl) (by kernel_rfl) (fun _ _ _ h => h) (Or.inl ⟨by rfl, by intro w hSw; (try dsimp only at hSw); go_simp; (try with_reducible rfl)⟩) (by assumption) ?_; (try simp only [Act.put, List.setIfInBounds_toArray, List.set_cons_zero, List.set_cons_succ, List.getElem_toArray, List.getElem_cons_zero, List.getElem_cons_succ])
            refine wpAnyH_take (i := 18) rfl (by kernel_rfl) (by kernel_rfl) (by kernel_rfl) (fun _ _ _ h => h) (Or.inl ⟨by rfl, by intro w hSw; (try dsimp only at hSw); go_simp; (try with_reducible rfl)⟩) (by assumption) ?_; (try simp only [Act.put, List.setIfInBounds_toArray, List.set_cons_zero, List.set_cons_succ, List.getElem_toArray, List.getElem_cons_zero, List.getElem_cons_succ])
            refine wpAnyH_take (i := 19) rfl (by kernel_rfl) (by kernel_rfl) (by kernel_rfl) (fun _ _ _ h => h) (Or.inl ⟨by rfl, by intro w hSw; (try dsimp only at hSw); go_simp; (try with_reducible rfl)⟩) (by assumption) ?_; (try simp only [Act.put, List.setIfInBounds_toArray, List.set_cons_zero, List.set_cons_succ, List.getElem_toArray, List.getElem_cons_zero, List.getElem_cons_succ])
            refine wpAnyH_take (i := 20) rfl (by kernel_rfl) (by kernel_rfl) (by kernel_rfl) (fun _ _ _ h => h) (Or.inl ⟨by rfl, by intro w hSw; (try dsimp only at hSw); go_simp; (try with_reducible rfl)⟩) (by assumption) ?_; (try simp only [Act.put, List.setIfInBounds_toArray, List.set_cons_zero, List.set_cons_succ, List.getElem_toArray, List.getElem_cons_zero, List.getElem_cons_succ])
            refine wpAnyH_take (i := 21) rfl (by kernel_rfl) (by kernel_rfl) (by kernel_rfl) (fun _ _ _ h => h) (Or.inl ⟨by rfl, by intro w hSw; (try dsimp only at hSw); go_simp; (try with_reducible rfl)⟩) (by assumption) ?_; (try simp only [Act.put, List.setIfInBounds_toArray, List.set_cons_zero, List.set_cons_succ, List.getElem_toArray, List.getElem_cons_zero, List.getElem_cons_succ])
            refine wpAnyH_take (i := 22) rfl (by kernel_rfl) (by kernel_rfl) (by kernel_rfl) (fun _ _ _ h => h) (Or.inl ⟨by rfl, by intro w hSw; (try dsimp only at hSw); go_simp; (try with_reducible rfl)⟩) (by assumption) ?_; (try simp only [Act.put, List.setIfInBounds_toArray, List.set_cons_zero, List.set_cons_succ, List.getElem_toArray, List.getElem_cons_zero, List.getElem_cons_succ])
            refine wpAnyH_take (i := 23) rfl (by kernel_rfl) (by kernel_rfl) (by kernel_rfl) (fun _ _ _ h => h) (Or.inl ⟨by rfl, by intro w hSw; (try dsimp only at hSw); go_simp; (try with_reducible rfl)⟩) (by assumption) ?_; (try simp only [Act.put, List.setIfInBounds_toArray, List.set_cons_zero, List.set_cons_succ, List.getElem_toArray, List.getElem_cons_zero, List.getElem_cons_succ])
            refine wpAnyH_ready (rs := [24]) (by kernel_rfl) (by simp) ?_
            refine AllReadyH.cons rfl (fun K hK => ?_) AllReadyH.nil
            go_simp
            refine (at12 5 _).mono ?_
            rintro e u0 ⟨rfl, hg⟩
            refine hK.out _ _ hg (fun _ => wpAnyH_turn hg (fun hHeld => ?_))
            clear hK K
            try dsimp only at hHeld
            clear G3 G2 D2 G1 D1 G4 G5
            replace HG := Lib.hid (HG.out.trans hg)
            clear hg
            refine wpAnyH_take (i := 25) rfl (by kernel_rfl) (by kernel_rfl) (by kernel_rfl) (fun _ _ _ h => h) (Or.inl ⟨by rfl, by intro w hSw; (try dsimp only at hSw); go_simp; (try with_reducible rfl)⟩) (by assumption) ?_; (try simp only [Act.put, List.setIfInBounds_toArray, List.set_cons_zero, List.set_cons_succ, List.getElem_toArray, List.getElem_cons_zero, List.getElem_cons_succ])
            refine wpAnyH_take (i := 26) rfl (by kernel_rfl) (by kernel_rfl) (by kernel_rfl) (fun _ _ _ h => h) (Or.inl ⟨by rfl, by intro w hSw; (try dsimp only at hSw); go_simp; (try with_reducible rfl)⟩) (by assumption) ?_; (try simp only [Act.put, List.setIfInBounds_toArray, List.set_cons_zero, List.set_cons_succ, List.getElem_toArray, List.getElem_cons_zero, List.getElem_cons_succ])
            refine wpAnyH_take (i := 27) rfl (by kernel_rfl) (by kernel_rfl) (by kernel_rfl) (fun _ _ _ h => h) (Or.inl ⟨by rfl, by intro w hSw; (try dsimp only at hSw); go_simp; (try with_reducible rfl)⟩) (by assumption) ?_; (try simp only [Act.put, List.setIfInBounds_toArray, List.set_cons_zero, List.set_cons_succ, List.getElem_toArray, List.getElem_cons_zero, List.getElem_cons_succ])
            refine wpAnyH_ready (rs := [28]) (by kernel_rfl) (by simp) ?_
            refine AllReadyH.cons rfl (fun K hK => ?_) AllReadyH.nil
            go_simp
            refine (awake12 (HSh.out.gr HG.out)).mono ?_
            rintro e u1 ⟨rfl, hg⟩
            refine hK.out _ _ hg (fun _ => wpAnyH_turn hg (fun hHeld => ?_))
            clear hK K
            try dsimp only at hHeld
            replace HG := Lib.hid (HG.out.trans hg)
            clear hg
            refine wpAnyH_take (i := 29) rfl (by kernel_rfl) (by kernel_rfl) (by kernel_rfl) (fun _ _ _ h => h) (Or.inl ⟨by rfl, by intro w hSw; (try dsimp only at hSw); go_simp; (try with_reducible rfl)⟩) (by assumption) ?_; (try simp only [Act.put, List.setIfInBounds_toArray, List.set_cons_zero, List.set_cons_succ, List.getElem_toArray, List.getElem_cons_zero, List.getElem_cons_succ])
            refine wpAnyH_take (i := 30) rfl (by kernel_rfl) (by kernel_rfl) (by kernel_rfl) (fun _ _ _ h => h) (Or.inl ⟨by rfl, by intro w hSw; (try dsimp only at hSw); go_simp; (try with_reducible rfl)⟩) (by assumption) ?_; (try simp only [Act.put, List.setIfInBounds_toArray, List.set_cons_zero, List.set_cons_succ, List.getElem_toArray, List.getElem_cons_zero, List.getElem_cons_succ])
            refine wpAnyH_done (by kernel_rfl) ?_ _
            clear hHeld
            go_wp2
            go_ret
            exact ⟨rfl, HG.out⟩
    | false =>
      go_wp2_with fail
      clear c_0 c_1 c_2 cf_0 cf_1 cf_2
      obtain ⟨c_0, c_1, c_2, cf_0, cf_1, cf_2, _⟩ := blk3 HCh.out
      refine (HBr.out _).mono ?_
      rintro e wb ⟨rfl, rfl⟩
      go_wp2_with fail
      obtain ⟨W3, hW3⟩ : ∃ W3, W3 = w1.setCell ⟨w.heap.size + 1, 0, none⟩ (.int .i64 (1 + br)) := ⟨_, rfl⟩
      replace HCh : Hid (W3.heap[w.heap.size + 1]? = some (.cells #[.int .i64 (1 + br), .string cv, .bool false] 76)) := Lib.hid (by rw [hW3]; exact heap_set HCh.out 0 (.int .i64 (1 + br)))
      replace HTx := Lib.hid (show W3.heap[w.heap.size]? = some (.cells (txC x) 28) by rw [hW3]; exact heap_set_other HTx.out _ _ (by simp))
      replace HG := Lib.hid (show Gr w W3 by rw [hW3]; exact HG.out.setCell (p := ⟨w.heap.size + 1, 0, none⟩) (by simp) _)
      rw [← hW3]
      clear hW3
      clear c_0 c_1 c_2 cf_0 cf_1 cf_2
      refine (tables12 (HL.out.gr HG.out) hlen HIt.out).mono ?_
      rintro e w4 ⟨ta, tb, rfl, hT, hg⟩
      replace HG := Lib.hid (HG.out.trans hg)
      replace HTx := Lib.hid (hg.blk HTx.out)
      replace HCh := Lib.hid (hg.blk HCh.out)
      have HT := Lib.hid hT.a
      clear hT hg HL HIt
      generalize tabR (opsT l) = R at *
      have htx := HTx.out
      unfold txC at htx
      obtain ⟨x_0, x_1, x_2, x_3, x_4, x_5, x_6, x_7, x_8, x_9, x_10, x_11, _, _, _, _, _, _, _, _, _, _, _, _, _⟩ := blk12 htx
      clear htx
      obtain ⟨c_0, c_1, c_2, cf_0, cf_1, cf_2, _⟩ := blk3 HCh.out
      go_wp2
      refine region_share8 (fun g9 gS W => Gr w4 W ∧ W.heap[g9]? = some (.cells (ittA (mineI x (1 + br) cv false) (.slice (some ⟨gS, 0, none⟩) 1 1)) 40) ∧ RdC W (.slice (some ⟨gS, 0, none⟩) 1 1) [⟨1 + br, cv, false⟩]) ?rest ?reg
      case reg =>
        have HI9 : Hid ((Tryz.prog.info? 40).map (·.size) = some 9) := Lib.hid (by kernel_rfl)
        have F0 : ∀ w', Gr w4.drew w' → w'.cell? ⟨w.heap.size, 0, none⟩ = some (.int .i64 x.id) := cellRule (w := w4.drew) (cell_of HTx.out rfl)
        have F1 : ∀ w', Gr w4.drew w' → w'.cell? ⟨w.heap.size, 1, none⟩ = some (.int .i64 x.ep) := cellRule (w := w4.drew) (cell_of HTx.out rfl)
        have D0 : ∀ w', Gr w4.drew w' → w'.cell? ⟨w.heap.size + 1, 0, none⟩ = some (.int .i64 (1 + br)) := cellRule (w := w4.drew) (cell_of HCh.out rfl)
        have D1 : ∀ w', Gr w4.drew w' → w'.cell? ⟨w.heap.size + 1, 1, none⟩ = some (.string cv) := cellRule (w := w4.drew) (cell_of HCh.out rfl)
        have D2 : ∀ w', Gr w4.drew w' → w'.cell? ⟨w.heap.size + 1, 2, none⟩ = some (.bool false) := cellRule (w := w4.drew) (cell_of HCh.out rfl)
        refine wp_region_held_drew (S := fun w' => Gr w4.drew w') (by kernel_rfl) (Gr.refl _) (fun hHeld => ?_)
        try dsimp only at hHeld
        refine wpAnyH_take (i := 0) rfl (by kernel_rfl) (by kernel_rfl) (by kernel_rfl) (fun _ _ _ h => h) (Or.inl ⟨by rfl, by intro w hSw; (try dsimp only at hSw); go_simp; (try with_reducible rfl)⟩) (by assumption) ?_; (try simp only [Act.put, List.setIfInBounds_toArray, List.set_cons_zero, List.set_cons_succ, List.getElem_toArray, List.getElem_cons_zero, List.getElem_cons_succ])
        refine wpAnyH_take (i := 1) rfl (by kernel_rfl) (by kernel_rfl) (by kernel_rfl) (fun _ _ _ h => h) (Or.inl ⟨by rfl, by intro w hSw; (try dsimp only at hSw); go_simp; (try with_reducible rfl)⟩) (by assumption) ?_; (try simp only [Act.put, List.setIfInBounds_toArray, List.set_cons_zero, List.set_cons_succ, List.getElem_toArray, List.getElem_cons_zero, List.getElem_cons_succ])
        refine wpAnyH_take (i := 2) rfl (by kernel_rfl) (by kernel_rfl) (by kernel_rfl) (fun _ _ _ h => h) (Or.inl ⟨by rfl, by intro w hSw; (try dsimp only at hSw); go_simp; (try with_reducible rfl)⟩) (by assumption) ?_; (try simp only [Act.put, List.setIfInBounds_toArray, List.set_cons_zero, List.set_cons_succ, List.getElem_toArray, List.getElem_cons_zero, List.getElem_cons_succ])
        refine wpAnyH_take (i := 3) rfl (by kernel_rfl) (by kernel_rfl) (by kernel_rfl) (fun _ _ _ h => h) (Or.inl ⟨by rfl, by intro w hSw; (try dsimp only at hSw); go_simp; (try with_reducible rfl)⟩) (by assumption) ?_; (try simp only [Act.put, List.setIfInBounds_toArray, List.set_cons_zero, List.set_cons_succ, List.getElem_toArray, List.getElem_cons_zero, List.getElem_cons_succ])
        refine wpAnyH_take (i := 5) rfl (by kernel_rfl) (by kernel_rfl) (by kernel_rfl) (fun _ _ _ h => h) (Or.inl ⟨by rfl, by intro w hSw; (try dsimp only at hSw); go_simp; (try with_reducible rfl)⟩) (by assumption) ?_; (try simp only [Act.put, List.setIfInBounds_toArray, List.set_cons_zero, List.set_cons_succ, List.getElem_toArray, List.getElem_cons_zero, List.getElem_cons_succ])
        clear F0 F1 D0 D1 D2 x_0 x_1 x_2 x_3 x_4 x_5 x_6 x_7 x_8 x_9 x_10 x_11 c_0 c_1 c_2 cf_0 cf_1 cf_2
        have HGw : Hid (Gr w4.drew w4.drew) := Lib.hid (Gr.refl _)
        refine wpAnyH_ready (rs := [4, 6, 8]) (by kernel_rfl) (by simp) ?_
        refine AllReadyH.cons rfl (fun K hK => ?_) (AllReadyH.cons rfl (fun K hK => ?_) (AllReadyH.cons rfl (fun K hK => ?_) (AllReadyH.nil)))
        · skip
          go_simp
          refine (at12 5 _).mono ?_
          rintro e u0 ⟨rfl, hg⟩
          refine hK.out _ _ (HGw.out.trans hg) (fun _ => ?_)
          clear hK K
          replace HGw := Lib.hid (HGw.out.trans hg)
          clear hg
          refine wpAnyH_ready (rs := [6, 8]) (by kernel_rfl) (by simp) ?_
          refine AllReadyH.cons rfl (fun K hK => ?_) (AllReadyH.cons rfl (fun K hK => ?_) (AllReadyH.nil))
          · skip
            go_simp
            have hg := (Gr.refl (u0)).alloc (.cells #[.int .i64 (1 + br), .string cv, .bool false] 76)
            refine hK.out _ _ (HGw.out.trans hg) (fun _ => ?_)
            clear hK K
            replace HGw := Lib.hid (HGw.out.trans hg)
            have HSl := Lib.hid (show ((u0).alloc (.cells #[.int .i64 (1 + br), .string cv, .bool false] 76)).heap[u0.heap.size]? = _ from heap_newn (by simp))
            clear hg
            refine wpAnyH_take (i := 7) rfl (by kernel_rfl) (by kernel_rfl) (by kernel_rfl) (fun _ _ _ h => h) (Or.inl ⟨by rfl, by intro w hSw; (try dsimp only at hSw); go_simp; (try with_reducible rfl)⟩) (by assumption) ?_; (try simp only [Act.put, List.setIfInBounds_toArray, List.set_cons_zero, List.set_cons_succ, List.getElem_toArray, List.getElem_cons_zero, List.getElem_cons_succ])
            refine wpAnyH_ready (rs := [8]) (by kernel_rfl) (by simp) ?_
            refine AllReadyH.cons rfl (fun K hK => ?_) (AllReadyH.nil)
            go_simp
            have hg := (Gr.refl ((u0).alloc (.cells #[.int .i64 (1 + br), .string cv, .bool false] 76))).alloc (.cells (ittA itt0 (.slice none 0 0)) 40)
            refine hK.out _ _ (HGw.out.trans hg) (fun _ => ?_)
            clear hK K
            have HB9 := Lib.hid (show (((u0).alloc (.cells #[.int .i64 (1 + br), .string cv, .bool false] 76)).alloc (.cells (ittA itt0 (.slice none 0 0)) 40)).heap[u0.heap.size + 1]? = _ ∧ w4.drew.heap.size ≤ u0.heap.size + 1 from ⟨heap_newn (by simp), (by have := HGw.out.size; simp at this ⊢; try omega)⟩)
            replace HGw := Lib.hid (HGw.out.trans hg)
            replace HSl := Lib.hid (hg.blk HSl.out)
            clear hg
            refine wpAnyH_ready (rs := [9]) (by kernel_rfl) (by simp) ?_
            refine AllReadyH.cons rfl (fun K hK => ?_) AllReadyH.nil
            rw [if_pos (by rfl)]
            have hrow : Gr w4.drew ((((u0).alloc (.cells #[.int .i64 (1 + br), .string cv, .bool false] 76)).alloc (.cells (ittA itt0 (.slice none 0 0)) 40)).setRow (u0.heap.size + 1) (ittA (mineI x (1 + br) cv false) (.slice (some ⟨(u0.heap.size), 0, none⟩) 1 1))) := ⟨below_setRow HGw.out.b HB9.out.2 _⟩
            refine wp_store_row _ _ _ rfl (u0.heap.size + 1) (ittA (mineI x (1 + br) cv false) (.slice (some ⟨(u0.heap.size), 0, none⟩) 1 1)) (by rfl) (by rfl) 40 (ittA itt0 (.slice none 0 0)) HB9.out.1 HI9.out (by rfl) (itt_one _ _ _ _) ?_
            refine hK.out _ _ hrow (fun _ => ?_)
            clear hK K
            refine wpAnyH_done (by kernel_rfl) ?_ _
            have hrd := chg_kept (w' := (((u0).alloc (.cells #[.int .i64 (1 + br), .string cv, .bool false] 76)).alloc (.cells (ittA itt0 (.slice none 0 0)) 40)).setRow (u0.heap.size + 1) (ittA (mineI x (1 + br) cv false) (.slice (some ⟨(u0.heap.size), 0, none⟩) 1 1))) (chg_lit (c := ⟨1 + br, cv, false⟩) HSl.out) (Nat.le_of_eq (size_setRow _ _ _).symm) (fun k o hk ho => by rw [setRow_other _ _ _ _ hk]; exact ho) HB9.out.1 (noChg_itt _ _)
            exact ⟨_, _, _, _, _, _, _, _, (u0.heap.size + 1), (u0.heap.size), rfl, (Gr.refl w4).drew.trans hrow, setRow_heap _ _ _ _ _ _ HB9.out.1, hrd⟩
          · skip
            go_simp
            have hg := (Gr.refl (u0)).alloc (.cells (ittA itt0 (.slice none 0 0)) 40)
            refine hK.out _ _ (HGw.out.trans hg) (fun _ => ?_)
            clear hK K
            have HB9 := Lib.hid (show ((u0).alloc (.cells (ittA itt0 (.slice none 0 0)) 40)).heap[u0.heap.size]? = _ ∧ w4.drew.heap.size ≤ u0.heap.size from ⟨heap_newn (by simp), (by have := HGw.out.size; simp at this ⊢; try omega)⟩)
            replace HGw := Lib.hid (HGw.out.trans hg)
            clear hg
            refine wpAnyH_ready (rs := [6]) (by kernel_rfl) (by simp) ?_
            refine AllReadyH.cons rfl (fun K hK => ?_) (AllReadyH.nil)
            go_simp
            have hg := (Gr.refl ((u0).alloc (.cells (ittA itt0 (.slice none 0 0)) 40))).alloc (.cells #[.int .i64 (1 + br), .string cv, .bool false] 76)
            refine hK.out _ _ (HGw.out.trans hg) (fun _ => ?_)
            clear hK K
            replace HGw := Lib.hid (HGw.out.trans hg)
            have HSl := Lib.hid (show (((u0).alloc (.cells (ittA itt0 (.slice none 0 0)) 40)).alloc (.cells #[.int .i64 (1 + br), .string cv, .bool false] 76)).heap[u0.heap.size + 1]? = _ from heap_newn (by simp))
            replace HB9 := Lib.hid (show _ ∧ _ from ⟨hg.blk HB9.out.1, HB9.out.2⟩)
            clear hg
            refine wpAnyH_take (i := 7) rfl (by kernel_rfl) (by kernel_rfl) (by kernel_rfl) (fun _ _ _ h => h) (Or.inl ⟨by rfl, by intro w hSw; (try dsimp only at hSw); go_simp; (try with_reducible rfl)⟩) (by assumption) ?_; (try simp only [Act.put, List.setIfInBounds_toArray, List.set_cons_zero, List.set_cons_succ, List.getElem_toArray, List.getElem_cons_zero, List.getElem_cons_succ])
            refine wpAnyH_ready (rs := [9]) (by kernel_rfl) (by simp) ?_
            refine AllReadyH.cons rfl (fun K hK => ?_) AllReadyH.nil
            rw [if_pos (by rfl)]
            have hrow : Gr w4.drew ((((u0).alloc (.cells (ittA itt0 (.slice none 0 0)) 40)).alloc (.cells #[.int .i64 (1 + br), .string cv, .bool false] 76)).setRow (u0.heap.size) (ittA (mineI x (1 + br) cv false) (.slice (some ⟨(u0.heap.size + 1), 0, none⟩) 1 1))) := ⟨below_setRow HGw.out.b HB9.out.2 _⟩
            refine wp_store_row _ _ _ rfl (u0.heap.size) (ittA (mineI x (1 + br) cv false) (.slice (some ⟨(u0.heap.size + 1), 0, none⟩) 1 1)) (by rfl) (by rfl) 40 (ittA itt0 (.slice none 0 0)) HB9.out.1 HI9.out (by rfl) (itt_one _ _ _ _) ?_
            refine hK.out _ _ hrow (fun _ => ?_)
            clear hK K
            refine wpAnyH_done (by kernel_rfl) ?_ _
            have hrd := chg_kept (w' := (((u0).alloc (.cells (ittA itt0 (.slice none 0 0)) 40)).alloc (.cells #[.int .i64 (1 + br), .string cv, .bool false] 76)).setRow (u0.heap.size) (ittA (mineI x (1 + br) cv false) (.slice (some ⟨(u0.heap.size + 1), 0, none⟩) 1 1))) (chg_lit (c := ⟨1 + br, cv, false⟩) HSl.out) (Nat.le_of_eq (size_setRow _ _ _).symm) (fun k o hk ho => by rw [setRow_other _ _ _ _ hk]; exact ho) HB9.out.1 (noChg_itt _ _)
            exact ⟨_, _, _, _, _, _, _, _, (u0.heap.size), (u0.heap.size + 1), rfl, (Gr.refl w4).drew.trans hrow, setRow_heap _ _ _ _ _ _ HB9.out.1, hrd⟩
        · skip
          go_simp
          have hg := (Gr.refl (w4.drew)).alloc (.cells #[.int .i64 (1 + br), .string cv, .bool false] 76)
          refine hK.out _ _ (HGw.out.trans hg) (fun _ => ?_)
          clear hK K
          replace HGw := Lib.hid (HGw.out.trans hg)
          have HSl := Lib.hid (show ((w4.drew).alloc (.cells #[.int .i64 (1 + br), .string cv, .bool false] 76)).heap[w4.heap.size]? = _ from heap_newn (by simp))
          clear hg
          refine wpAnyH_ready (rs := [4, 8]) (by kernel_rfl) (by simp) ?_
          refine AllReadyH.cons rfl (fun K hK => ?_) (AllReadyH.cons rfl (fun K hK => ?_) (AllReadyH.nil))
          · skip
            go_simp
            refine (at12 5 _).mono ?_
            rintro e u0 ⟨rfl, hg⟩
            refine hK.out _ _ (HGw.out.trans hg) (fun _ => ?_)
            clear hK K
            replace HGw := Lib.hid (HGw.out.trans hg)
            replace HSl := Lib.hid (hg.blk HSl.out)
            clear hg
            refine wpAnyH_take (i := 7) rfl (by kernel_rfl) (by kernel_rfl) (by kernel_rfl) (fun _ _ _ h => h) (Or.inl ⟨by rfl, by intro w hSw; (try dsimp only at hSw); go_simp; (try with_reducible rfl)⟩) (by assumption) ?_; (try simp only [Act.put, List.setIfInBounds_toArray, List.set_cons_zero, List.set_cons_succ, List.getElem_toArray, List.getElem_cons_zero, List.getElem_cons_succ])
            refine wpAnyH_ready (rs := [8]) (by kernel_rfl) (by simp) ?_
            refine AllReadyH.cons rfl (fun K hK => ?_) (AllReadyH.nil)
            go_simp
            have hg := (Gr.refl (u0)).alloc (.cells (ittA itt0 (.slice none 0 0)) 40)
            refine hK.out _ _ (HGw.out.trans hg) (fun _ => ?_)
            clear hK K
            have HB9 := Lib.hid (show ((u0).alloc (.cells (ittA itt0 (.slice none 0 0)) 40)).heap[u0.heap.size]? = _ ∧ w4.drew.heap.size ≤ u0.heap.size from ⟨heap_newn (by simp), (by have := HGw.out.size; simp at this ⊢; try omega)⟩)
            replace HGw := Lib.hid (HGw.out.trans hg)
            replace HSl := Lib.hid (hg.blk HSl.out)
            clear hg
            refine wpAnyH_ready (rs := [9]) (by kernel_rfl) (by simp) ?_
            refine AllReadyH.cons rfl (fun K hK => ?_) AllReadyH.nil
            rw [if_pos (by rfl)]
            have hrow : Gr w4.drew (((u0).alloc (.cells (ittA itt0 (.slice none 0 0)) 40)).setRow (u0.heap.size) (ittA (mineI x (1 + br) cv false) (.slice (some ⟨(w4.heap.size), 0, none⟩) 1 1))) := ⟨below_setRow HGw.out.b HB9.out.2 _⟩
            refine wp_store_row _ _ _ rfl (u0.heap.size) (ittA (mineI x (1 + br) cv false) (.slice (some ⟨(w4.heap.size), 0, none⟩) 1 1)) (by rfl) (by rfl) 40 (ittA itt0 (.slice none 0 0)) HB9.out.1 HI9.out (by rfl) (itt_one _ _ _ _) ?_
            refine hK.out _ _ hrow (fun _ => ?_)
            clear hK K
            refine wpAnyH_done (by kernel_rfl) ?_ _
            have hrd := chg_kept (w' := ((u0).alloc (.cells (ittA itt0 (.slice none 0 0)) 40)).setRow (u0.heap.size) (ittA (mineI x (1 + br) cv false) (.slice (some ⟨(w4.heap.size), 0, none⟩) 1 1))) (chg_lit (c := ⟨1 + br, cv, false⟩) HSl.out) (Nat.le_of_eq (size_setRow _ _ _).symm) (fun k o hk ho => by rw [setRow_other _ _ _ _ hk]; exact ho) HB9.out.1 (noChg_itt _ _)
            exact ⟨_, _, _, _, _, _, _, _, (u0.heap.size), (w4.heap.size), rfl, (Gr.refl w4).drew.trans hrow, setRow_heap _ _ _ _ _ _ HB9.out.1, hrd⟩
          · skip
            go_simp
            have hg := (Gr.refl ((w4.drew).alloc (.cells #[.int .i64 (1 + br), .string cv, .bool false] 76))).alloc (.cells (ittA itt0 (.slice none 0 0)) 40)
            refine hK.out _ _ (HGw.out.trans hg) (fun _ => ?_)
            clear hK K
            have HB9 := Lib.hid (show (((w4.drew).alloc (.cells #[.int .i64 (1 + br), .string cv, .bool false] 76)).alloc (.cells (ittA itt0 (.slice none 0 0)) 40)).heap[w4.heap.size + 1]? = _ ∧ w4.drew.heap.size ≤ w4.heap.size + 1 from ⟨heap_newn (by simp), (by have := HGw.out.size; simp at this ⊢; try omega)⟩)
            replace HGw := Lib.hid (HGw.out.trans hg)
            replace HSl := Lib.hid (hg.blk HSl.out)
            clear hg
            refine wpAnyH_ready (rs := [4]) (by kernel_rfl) (by simp) ?_
            refine AllReadyH.cons rfl (fun K hK => ?_) (AllReadyH.nil)
            go_simp
            refine (at12 5 _).mono ?_
            rintro e u0 ⟨rfl, hg⟩
            refine hK.out _ _ (HGw.out.trans hg) (fun _ => ?_)
            clear hK K
            replace HGw := Lib.hid (HGw.out.trans hg)
            replace HB9 := Lib.hid (show _ ∧ _ from ⟨hg.blk HB9.out.1, HB9.out.2⟩)
            replace HSl := Lib.hid (hg.blk HSl.out)
            clear hg
            refine wpAnyH_take (i := 7) rfl (by kernel_rfl) (by kernel_rfl) (by kernel_rfl) (fun _ _ _ h => h) (Or.inl ⟨by rfl, by intro w hSw; (try dsimp only at hSw); go_simp; (try with_reducible rfl)⟩) (by assumption) ?_; (try simp only [Act.put, List.setIfInBounds_toArray, List.set_cons_zero, List.set_cons_succ, List.getElem_toArray, List.getElem_cons_zero, List.getElem_cons_succ])
            refine wpAnyH_ready (rs := [9]) (by kernel_rfl) (by simp) ?_
            refine AllReadyH.cons rfl (fun K hK => ?_) AllReadyH.nil
            rw [if_pos (by rfl)]
            have hrow : Gr w4.drew ((u0).setRow (w4.heap.size + 1) (ittA (mineI x (1 + br) cv false) (.slice (some ⟨(w4.heap.size), 0, none⟩) 1 1))) := ⟨below_setRow HGw.out.b HB9.out.2 _⟩
            refine wp_store_row _ _ _ rfl (w4.heap.size + 1) (ittA (mineI x (1 + br) cv false) (.slice (some ⟨(w4.heap.size), 0, none⟩) 1 1)) (by rfl) (by rfl) 40 (ittA itt0 (.slice none 0 0)) HB9.out.1 HI9.out (by rfl) (itt_one _ _ _ _) ?_
            refine hK.out _ _ hrow (fun _ => ?_)
            clear hK K
            refine wpAnyH_done (by kernel_rfl) ?_ _
            have hrd := chg_kept (w' := (u0).setRow (w4.heap.size + 1) (ittA (mineI x (1 + br) cv false) (.slice (some ⟨(w4.heap.size), 0, none⟩) 1 1))) (chg_lit (c := ⟨1 + br, cv, false⟩) HSl.out) (Nat.le_of_eq (size_setRow _ _ _).symm) (fun k o hk ho => by rw [setRow_other _ _ _ _ hk]; exact ho) HB9.out.1 (noChg_itt _ _)
            exact ⟨_, _, _, _, _, _, _, _, (w4.heap.size + 1), (w4.heap.size), rfl, (Gr.refl w4).drew.trans hrow, setRow_heap _ _ _ _ _ _ HB9.out.1, hrd⟩
        · skip
          go_simp
          have hg := (Gr.refl (w4.drew)).alloc (.cells (ittA itt0 (.slice none 0 0)) 40)
          refine hK.out _ _ (HGw.out.trans hg) (fun _ => ?_)
          clear hK K
          have HB9 := Lib.hid (show ((w4.drew).alloc (.cells (ittA itt0 (.slice none 0 0)) 40)).heap[w4.heap.size]? = _ ∧ w4.drew.heap.size ≤ w4.heap.size from ⟨heap_newn (by simp), (by have := HGw.out.size; simp at this ⊢; try omega)⟩)
          replace HGw := Lib.hid (HGw.out.trans hg)
          clear hg
          refine wpAnyH_ready (rs := [4, 6]) (by kernel_rfl) (by simp) ?_
          refine AllReadyH.cons rfl (fun K hK => ?_) (AllReadyH.cons rfl (fun K hK => ?_) (AllReadyH.nil))
          · skip
            go_simp
            refine (at12 5 _).mono ?_
            rintro e u0 ⟨rfl, hg⟩
            refine hK.out _ _ (HGw.out.trans hg) (fun _ => ?_)
            clear hK K
            replace HGw := Lib.hid (HGw.out.trans hg)
            replace HB9 := Lib.hid (show _ ∧ _ from ⟨hg.blk HB9.out.1, HB9.out.2⟩)
            clear hg
            refine wpAnyH_ready (rs := [6]) (by kernel_rfl) (by simp) ?_
            refine AllReadyH.cons rfl (fun K hK => ?_) (AllReadyH.nil)
            go_simp
            have hg := (Gr.refl (u0)).alloc (.cells #[.int .i64 (1 + br), .string cv, .bool false] 76)
            refine hK.out _ _ (HGw.out.trans hg) (fun _ => ?_)
            clear hK K
            replace HGw := Lib.hid (HGw.out.trans hg)
            have HSl := Lib.hid (show ((u0).alloc (.cells #[.int .i64 (1 + br), .string cv, .bool false] 76)).heap[u0.heap.size]? = _ from heap_newn (by simp))
            replace HB9 := Lib.hid (show _ ∧ _ from ⟨hg.blk HB9.out.1, HB9.out.2⟩)
            clear hg
            refine wpAnyH_take (i := 7) rfl (by kernel_rfl) (by kernel_rfl) (by kernel_rfl) (fun _ _ _ h => h) (Or.inl ⟨by rfl, by intro w hSw; (try dsimp only at hSw); go_simp; (try with_reducible rfl)⟩) (by assumption) ?_; (try simp only [Act.put, List.setIfInBounds_toArray, List.set_cons_zero, List.set_cons_succ, List.getElem_toArray, List.getElem_cons_zero, List.getElem_cons_succ])
            refine wpAnyH_ready (rs := [9]) (by kernel_rfl) (by simp) ?_
            refine AllReadyH.cons rfl (fun K hK => ?_) AllReadyH.nil
            rw [if_pos (by rfl)]
            have hrow : Gr w4.drew (((u0).alloc (.cells #[.int .i64 (1 + br), .string cv, .bool false] 76)).setRow (w4.heap.size) (ittA (mineI x (1 + br) cv false) (.slice (some ⟨(u0.heap.size), 0, none⟩) 1 1))) := ⟨below_setRow HGw.out.b HB9.out.2 _⟩
            refine wp_store_row _ _ _ rfl (w4.heap.size) (ittA (mineI x (1 + br) cv false) (.slice (some ⟨(u0.heap.size), 0, none⟩) 1 1)) (by rfl) (by rfl) 40 (ittA itt0 (.slice none 0 0)) HB9.out.1 HI9.out (by rfl) (itt_one _ _ _ _) ?_
            refine hK.out _ _ hrow (fun _ => ?_)
            clear hK K
            refine wpAnyH_done (by kernel_rfl) ?_ _
            have hrd := chg_kept (w' := ((u0).alloc (.cells #[.int .i64 (1 + br), .string cv, .bool false] 76)).setRow (w4.heap.size) (ittA (mineI x (1 + br) cv false) (.slice (some ⟨(u0.heap.size), 0, none⟩) 1 1))) (chg_lit (c := ⟨1 + br, cv, false⟩) HSl.out) (Nat.le_of_eq (size_setRow _ _ _).symm) (fun k o hk ho => by rw [setRow_other _ _ _ _ hk]; exact ho) HB9.out.1 (noChg_itt _ _)
            exact ⟨_, _, _, _, _, _, _, _, (w4.heap.size), (u0.heap.size), rfl, (Gr.refl w4).drew.trans hrow, setRow_heap _ _ _ _ _ _ HB9.out.1, hrd⟩
          · skip
            go_simp
            have hg := (Gr.refl ((w4.drew).alloc (.cells (ittA itt0 (.slice none 0 0)) 40))).alloc (.cells #[.int .i64 (1 + br), .string cv, .bool false] 76)
            refine hK.out _ _ (HGw.out.trans hg) (fun _ => ?_)
            clear hK K
            replace HGw := Lib.hid (HGw.out.trans hg)
            have HSl := Lib.hid (show (((w4.drew).alloc (.cells (ittA itt0 (.slice none 0 0)) 40)).alloc (.cells #[.int .i64 (1 + br), .string cv, .bool false] 76)).heap[w4.heap.size + 1]? = _ from heap_newn (by simp))
            replace HB9 := Lib.hid (show _ ∧ _ from ⟨hg.blk HB9.out.1, HB9.out.2⟩)
            clear hg
            refine wpAnyH_ready (rs := [4]) (by kernel_rfl) (by simp) ?_
            refine AllReadyH.cons rfl (fun K hK => ?_) (AllReadyH.nil)
            go_simp
            refine (at12 5 _).mono ?_
            rintro e u0 ⟨rfl, hg⟩
            refine hK.out _ _ (HGw.out.trans hg) (fun _ => ?_)
            clear hK K
            replace HGw := Lib.hid (HGw.out.trans hg)
            replace HB9 := Lib.hid (show _ ∧ _ from ⟨hg.blk HB9.out.1, HB9.out.2⟩)
            replace HSl := Lib.hid (hg.blk HSl.out)
            clear hg
            refine wpAnyH_take (i := 7) rfl (by kernel_rfl) (by kernel_rfl) (by kernel_rfl) (fun _ _ _ h => h) (Or.inl ⟨by rfl, by intro w hSw; (try dsimp only at hSw); go_simp; (try with_reducible rfl)⟩) (by assumption) ?_; (try simp only [Act.put, List.setIfInBounds_toArray, List.set_cons_zero, List.set_cons_succ, List.getElem_toArray, List.getElem_cons_zero, List.getElem_cons_succ])
            refine wpAnyH_ready (rs := [9]) (by kernel_rfl) (by simp) ?_
            refine AllReadyH.cons rfl (fun K hK => ?_) AllReadyH.nil
            rw [if_pos (by rfl)]
            have hrow : Gr w4.drew ((u0).setRow (w4.heap.size) (ittA (mineI x (1 + br) cv false) (.slice (some ⟨(w4.heap.size + 1), 0, none⟩) 1 1))) := ⟨below_setRow HGw.out.b HB9.out.2 _⟩
            refine wp_store_row _ _ _ rfl (w4.heap.size) (ittA (mineI x (1 + br) cv false) (.slice (some ⟨(w4.heap.size + 1), 0, none⟩) 1 1)) (by rfl) (by rfl) 40 (ittA itt0 (.slice none 0 0)) HB9.out.1 HI9.out (by rfl) (itt_one _ _ _ _) ?_
            refine hK.out _ _ hrow (fun _ => ?_)
            clear hK K
            refine wpAnyH_done (by kernel_rfl) ?_ _
            have hrd := chg_kept (w' := (u0).setRow (w4.heap.size) (ittA (mineI x (1 + br) cv false) (.slice (some ⟨(w4.heap.size + 1), 0, none⟩) 1 1))) (chg_lit (c := ⟨1 + br, cv, false⟩) HSl.out) (Nat.le_of_eq (size_setRow _ _ _).symm) (fun k o hk ho => by rw [setRow_other _ _ _ _ hk]; exact ho) HB9.out.1 (noChg_itt _ _)
            exact ⟨_, _, _, _, _, _, _, _, (w4.heap.size), (w4.heap.size + 1), rfl, (Gr.refl w4).drew.trans hrow, setRow_heap _ _ _ _ _ _ HB9.out.1, hrd⟩
      case rest =>
        intro u30 u31 u32 u33 u34 u35 u36 u37 g9 gS W5 ⟨hg, hm, hrd⟩
        have HM := Lib.hid hm
        have HRd := Lib.hid hrd
        replace HG := Lib.hid (HG.out.trans hg)
        replace HTx := Lib.hid (hg.blk HTx.out)
        replace HCh := Lib.hid (hg.blk HCh.out)
        replace HT := Lib.hid (HT.out.gr hg)
        clear hg hm hrd x_0 x_1 x_2 x_3 x_4 x_5 x_6 x_7 x_8 x_9 x_10 x_11 c_0 c_1 c_2 cf_0 cf_1 cf_2
        simp only [List.setIfInBounds_toArray, List.set_cons_zero, List.set_cons_succ]
        have hm9 := HM.out
        unfold ittA mineI at hm9
        obtain ⟨i_0, i_1, i_2, i_3, i_4, i_5, i_6, i_7, i_8, _, _, _, _, _, _, _, _, _, _⟩ := blk9 hm9
        clear hm9
        go_wp2_with fail
        refine (put12 HT.out HSz.out (Nat.le_trans HR60.out (by decide)) (tI (mineI x (1 + br) cv false)) HRd.out (by show 1 ≤ _; decide)).mono ?_
        rintro e w6 ⟨tc, rfl, ht, hg⟩
        replace HG := Lib.hid (HG.out.trans hg)
        replace HTx := Lib.hid (hg.blk HTx.out)
        replace HCh := Lib.hid (hg.blk HCh.out)
        replace HT := Lib.hid (HT.out.gr hg)
        have HC := Lib.hid ht
        clear ht hg i_0 i_1 i_2 i_3 i_4 i_5 i_6 i_7 i_8 HM HRd
        have HSc := Lib.hid (putT_sz (x := tI (mineI x (1 + br) cv false)) HSz.out (by show (1 : Nat) ≤ _; decide) (by show (0 : Nat) ≤ _; decide))
        have htx := HTx.out
        unfold txC at htx
        obtain ⟨x_0, x_1, x_2, x_3, x_4, x_5, x_6, x_7, x_8, x_9, x_10, x_11, _, _, _, _, _, _, _, _, _, _, _, _, _⟩ := blk12 htx
        clear htx
        obtain ⟨c_0, c_1, c_2, cf_0, cf_1, cf_2, _⟩ := blk3 HCh.out
        by_cases hv : cv.size ≤ 64
        · skip
          by_cases hr : x.rw = 0 ∧ x.rl = 0
          · skip
            have e1 : (x.rw == 0) = true := by simpa using hr.1
            have e2 : (x.rl == 0) = true := by simpa using hr.2
            clear hr
            have HGt := Lib.hid (get12 (HSh.out.gr HG.out) HC.out (szw HSc.out) HSc.out keyA x 0 0)
            generalize getF (putT (tI (mineI x (1 + br) cv false)) R) keyA x 0 0 = gg at *
            obtain ⟨f, ee⟩ := gg
            simp only at HGt
            unfold txC at HGt
            go_wp2_with fail
            refine (HGt.out).mono ?_
            rintro e w7 ⟨vl, rfl, hrd, hg⟩
            replace HG := Lib.hid (HG.out.trans hg)
            replace HTx := Lib.hid (hg.blk HTx.out)
            replace HCh := Lib.hid (hg.blk HCh.out)
            replace HT := Lib.hid (HT.out.gr hg)
            replace HC := Lib.hid (HC.out.gr hg)
            obtain ⟨q1, n1, c1, rfl⟩ := rdc_slice hrd
            have hgn := hg.alloc (.cells (fndA f (.slice q1 n1 c1)) 42)
            clear x_0 x_1 x_2 x_3 x_4 x_5 x_6 x_7 x_8 x_9 x_10 x_11
            clear c_0 c_1 c_2 cf_0 cf_1 cf_2
            clear hg hrd HGt
            have hga := (Gr.refl w7).alloc (.cells (fndA f (.slice q1 n1 c1)) 42)
            replace HG := Lib.hid (HG.out.trans hga)
            replace HTx := Lib.hid (hga.blk HTx.out)
            replace HCh := Lib.hid (hga.blk HCh.out)
            replace HT := Lib.hid (HT.out.gr hga)
            replace HC := Lib.hid (HC.out.gr hga)
            clear hga hgn
            unfold fndA at *
            have htx := HTx.out
            unfold txC at htx
            obtain ⟨x_0, x_1, x_2, x_3, x_4, x_5, x_6, x_7, x_8, x_9, x_10, x_11, _, _, _, _, _, _, _, _, _, _, _, _, _⟩ := blk12 htx
            clear htx
            obtain ⟨c_0, c_1, c_2, cf_0, cf_1, cf_2, _⟩ := blk3 HCh.out
            go_wp2_with fail
            refine (awake12 (HSh.out.gr HG.out)).mono ?_
            rintro e wz ⟨rfl, hg⟩
            go_wp2
            go_ret
            exact ⟨rfl, HG.out.trans hg⟩
          · skip
            have hgr : getF (putT (tI (mineI x (1 + br) cv false)) R) keyA x 0 0 = (⟨keyA, cv, true, true, 5, 0, itt0⟩, 0) := own_read (R := R) (x := x) HMt.out (s := 1 + br) (by have h1 := HB1.out; have h2 := HB2.out; omega) (v := cv) hv (d := false) (by intro h; cases h) hr
            have HGt := Lib.hid (getC (HSh.out.gr HG.out) HC.out HSc.out hgr)
            unfold txC at HGt
            have e3 : (x.rw == 0 && x.rl == 0) = false := by cases h1 : x.rw == 0 <;> cases h2 : x.rl == 0 <;> simp_all
            clear hgr hr
            go_wp2_with fail
            refine (HGt.out).mono ?_
            rintro e w7 ⟨q1, n1, c1, rfl, hrd, hg⟩
            replace HG := Lib.hid (HG.out.trans hg)
            replace HTx := Lib.hid (hg.blk HTx.out)
            replace HCh := Lib.hid (hg.blk HCh.out)
            replace HT := Lib.hid (HT.out.gr hg)
            replace HC := Lib.hid (HC.out.gr hg)
            unfold fndA
            have HF := Lib.hid (heap_alloc_new w7 (.cells (fndA ⟨keyA, cv, true, true, 5, 0, itt0⟩ (.slice q1 n1 c1)) 42))
            have hga := (Gr.refl w7).alloc (.cells (fndA ⟨keyA, cv, true, true, 5, 0, itt0⟩ (.slice q1 n1 c1)) 42)
            replace HG := Lib.hid (HG.out.trans hga)
            replace HTx := Lib.hid (hga.blk HTx.out)
            replace HCh := Lib.hid (hga.blk HCh.out)
            replace HT := Lib.hid (HT.out.gr hga)
            replace HC := Lib.hid (HC.out.gr hga)
            clear x_0 x_1 x_2 x_3 x_4 x_5 x_6 x_7 x_8 x_9 x_10 x_11
            clear c_0 c_1 c_2 cf_0 cf_1 cf_2
            clear hga hg hrd HGt
            unfold fndA at *
            dsimp only at *
            have htx := HTx.out
            unfold txC at htx
            obtain ⟨x_0, x_1, x_2, x_3, x_4, x_5, x_6, x_7, x_8, x_9, x_10, x_11, _, _, _, _, _, _, _, _, _, _, _, _, _⟩ := blk12 htx
            clear htx
            obtain ⟨c_0, c_1, c_2, cf_0, cf_1, cf_2, _⟩ := blk3 HCh.out
            go_wp2_with fail
            · exfalso
              clear HF HCh HTx HG HC HT
              simp_all
            all_goals
              refine wp_gen (fun w8 hg8 => ?_)
              replace HG := Lib.hid (HG.out.trans hg8)
              replace HTx := Lib.hid (hg8.blk HTx.out)
              replace HCh := Lib.hid (hg8.blk HCh.out)
              replace HT := Lib.hid (HT.out.gr hg8)
              replace HC := Lib.hid (HC.out.gr hg8)
              replace HF := Lib.hid (hg8.blk HF.out)
              clear hg8
              clear x_0 x_1 x_2 x_3 x_4 x_5 x_6 x_7 x_8 x_9 x_10 x_11
              clear c_0 c_1 c_2 cf_0 cf_1 cf_2
              replace HG := Lib.hid (HG.out.trans (Gr.refl w8).drew)
              have G3 : ∀ w', Gr w8.drew w' → w'.cell? ⟨w7.heap.size, 3, none⟩ = some (.bool true) := cellRule (w := w8.drew) (cell_of HF.out rfl)
              have G2 : ∀ w', Gr w8.drew w' → w'.cell? ⟨w7.heap.size, 2, none⟩ = some (.bool true) := cellRule (w := w8.drew) (cell_of HF.out rfl)
              have D2 : ∀ w', Gr w8.drew w' → w'.cell? ⟨w.heap.size + 1, 2, none⟩ = some (.bool false) := cellRule (w := w8.drew) (cell_of HCh.out rfl)
              have G1 : ∀ w', Gr w8.drew w' → w'.cell? ⟨w7.heap.size, 1, none⟩ = some (.string cv) := cellRule (w := w8.drew) (cell_of HF.out rfl)
              have D1 : ∀ w', Gr w8.drew w' → w'.cell? ⟨w.heap.size + 1, 1, none⟩ = some (.string cv) := cellRule (w := w8.drew) (cell_of HCh.out rfl)
              have G4 : ∀ w', Gr w8.drew w' → w'.cell? ⟨w7.heap.size, 4, none⟩ = some (.int .i64 5) := cellRule (w := w8.drew) (cell_of HF.out rfl)
              have G5 : ∀ w', Gr w8.drew w' → w'.cell? ⟨w7.heap.size, 5, none⟩ = some (.int .i64 0) := cellRule (w := w8.drew) (cell_of HF.out rfl)
              refine wp_region_held_drew (S := fun w' => Gr w8.drew w') (by kernel_rfl) (Gr.refl _) (fun hHeld => ?_)
              try dsimp only at hHeld
              refine wpAnyH_take (i := 0) rfl (by kernel_rfl) (by kernel_rfl) (by kernel_rfl) (fun _ _ _ h => h) (Or.inl ⟨by rfl, by intro w hSw; (try dsimp only at hSw); go_simp; (try with_reducible rfl)⟩) (by assumption) ?_; (try simp only [Act.put, List.setIfInBounds_toArray, List.set_cons_zero, List.set_cons_succ, List.getElem_toArray, List.getElem_cons_zero, List.getElem_cons_succ])
              refine wpAnyH_take (i := 1) rfl (by kernel_rfl) (by kernel_rfl) (by kernel_rfl) (fun _ _ _ h => h) (Or.inl ⟨by rfl, by intro w hSw; (try dsimp only at hSw); go_simp; (try with_reducible rfl)⟩) (by assumption) ?_; (try simp only [Act.put, List.setIfInBounds_toArray, List.set_cons_zero, List.set_cons_succ, List.getElem_toArray, List.getElem_cons_zero, List.getElem_cons_succ])
              refine wpAnyH_take (i := 2) rfl (by kernel_rfl) (by kernel_rfl) (by kernel_rfl) (fun _ _ _ h => h) (Or.inl ⟨by rfl, by intro w hSw; (try dsimp only at hSw); go_simp; (try with_reducible rfl)⟩) (by assumption) ?_; (try simp only [Act.put, List.setIfInBounds_toArray, List.set_cons_zero, List.set_cons_succ, List.getElem_toArray, List.getElem_cons_zero, List.getElem_cons_succ])
              refine wpAnyH_take (i := 3) rfl (by kernel_rfl) (by kernel_rfl) (by kernel_rfl) (fun _ _ _ h => h) (Or.inl ⟨by rfl, by intro w hSw; (try dsimp only at hSw); go_simp; (try with_reducible rfl)⟩) (by assumption) ?_; (try simp only [Act.put, List.setIfInBounds_toArray, List.set_cons_zero, List.set_cons_succ, List.getElem_toArray, List.getElem_cons_zero, List.getElem_cons_succ])
              refine wpAnyH_take (i := 4) rfl (by kernel_rfl) (by kernel_rfl) (by kernel_rfl) (fun _ _ _ h => h) (Or.inl ⟨by rfl, by intro w hSw; (try dsimp only at hSw); go_simp; (try with_reducible rfl)⟩) (by assumption) ?_; (try simp only [Act.put, List.setIfInBounds_toArray, List.set_cons_zero, List.set_cons_succ, List.getElem_toArray, List.getElem_cons_zero, List.getElem_cons_succ])
              refine wpAnyH_take (i := 5) rfl (by kernel_rfl) (by kernel_rfl) (by kernel_rfl) (fun _ _ _ h => h) (Or.inl ⟨by rfl, by intro w hSw; (try dsimp only at hSw); go_simp; (try with_reducible rfl)⟩) (by assumption) ?_; (try simp only [Act.put, List.setIfInBounds_toArray, List.set_cons_zero, List.set_cons_succ, List.getElem_toArray, List.getElem_cons_zero, List.getElem_cons_succ])
              refine wpAnyH_take (i := 6) rfl (by kernel_rfl) (by kernel_rfl) (by kernel_rfl) (fun _ _ _ h => h) (Or.inl ⟨by rfl, by intro w hSw; (try dsimp only at hSw); go_simp; (try with_reducible rfl)⟩) (by assumption) ?_; (try simp only [Act.put, List.setIfInBounds_toArray, List.set_cons_zero, List.set_cons_succ, List.getElem_toArray, List.getElem_cons_zero, List.getElem_cons_succ])
              refine wpAnyH_take (i := 7) rfl (by kernel_rfl) (by kernel_rfl) (by kernel_rfl) (fun _ _ _ h => h) (Or.inl ⟨by rfl, by intro w hSw; (try dsimp only at hSw); go_simp; (try with_reducible rfl)⟩) (by assumption) ?_; (try simp only [Act.put, List.setIfInBounds_toArray, List.set_cons_zero, List.set_cons_succ, List.getElem_toArray, List.getElem_cons_zero, List.getElem_cons_succ])
              refine wpAnyH_take (i := 8) rfl (by kernel_rfl) (by kernel_rfl) (by kernel_rfl) (fun _ _ _ h => h) (Or.inl ⟨by rfl, by intro w hSw; (try dsimp only at hSw); go_simp; (try with_reducible rfl)⟩) (by assumption) ?_; (try simp only [Act.put, List.setIfInBounds_toArray, List.set_cons_zero, List.set_cons_succ, List.getElem_toArray, List.getElem_cons_zero, List.getElem_cons_succ])
              refine wpAnyH_take (i := 9) rfl (by kernel_rfl) (by kernel_rfl) (by kernel_rfl) (fun _ _ _ h => h) (Or.inl ⟨by rfl, by intro w hSw; (try dsimp only at hSw); go_simp; (try with_reducible rfl)⟩) (by assumption) ?_; (try simp only [Act.put, List.setIfInBounds_toArray, List.set_cons_zero, List.set_cons_succ, List.getElem_toArray, List.getElem_cons_zero, List.getElem_cons_succ])
              refine wpAnyH_take (i := 10) rfl (by kernel_rfl) (by kernel_rfl) (by kernel_rfl) (fun _ _ _ h => h) (Or.inl ⟨by rfl, by intro w hSw; (try dsimp only at hSw); go_simp; (try with_reducible rfl)⟩) (by assumption) ?_; (try simp only [Act.put, List.setIfInBounds_toArray, List.set_cons_zero, List.set_cons_succ, List.getElem_toArray, List.getElem_cons_zero, List.getElem_cons_succ])
              refine wpAnyH_take (i := 11) rfl (by kernel_rfl) (by kernel_rfl) (by kernel_rfl) (fun _ _ _ h => h) (Or.inl ⟨by rfl, by intro w hSw; (try dsimp only at hSw); go_simp; (try with_reducible rfl)⟩) (by assumption) ?_; (try simp only [Act.put, List.setIfInBounds_toArray, List.set_cons_zero, List.set_cons_succ, List.getElem_toArray, List.getElem_cons_zero, List.getElem_cons_succ])
              refine wpAnyH_take (i := 12) rfl (by kernel_rfl) (by kernel_rfl) (by kernel_rfl) (fun _ _ _ h => h) (Or.inl ⟨by rfl, by intro w hSw; (try dsimp only at hSw); go_simp; (try with_reducible rfl)⟩) (by assumption) ?_; (try simp only [Act.put, List.setIfInBounds_toArray, List.set_cons_zero, List.set_cons_succ, List.getElem_toArray, List.getElem_cons_zero, List.getElem_cons_succ])
              refine wpAnyH_take (i := 13) rfl (by kernel_rfl) (by kernel_rfl) (by kernel_rfl) (fun _ _ _ h => h) (Or.inl ⟨by rfl, by intro w hSw; (try dsimp only at hSw); go_simp; (try with_reducible rfl)⟩) (by assumption) ?_; (try simp only [Act.put, List.setIfInBounds_toArray, List.set_cons_zero, List.set_cons_succ, List.getElem_toArray, List.getElem_cons_zero, List.getElem_cons_succ])
              refine wpAnyH_take (i := 14) rfl (by kernel_rfl) (by kernel_rfl) (by kernel_rfl) (fun _ _ _ h => h) (Or.inl ⟨by rfl, by intro w hSw; (try dsimp only at hSw); go_simp; (try with_reducible rfl)⟩) (by assumption) ?_; (try simp only [Act.put, List.setIfInBounds_toArray, List.set_cons_zero, List.set_cons_succ, List.getElem_toArray, List.getElem_cons_zero, List.getElem_cons_succ])
              refine wpAnyH_take (i := 15) rfl (by kernel_rfl) (by kernel_rfl) (by kernel_rfl) (fun _ _ _ h => h) (Or.inl ⟨by rfl, by intro w hSw; (try dsimp only at hSw); go_simp; (try with_reducible rfl)⟩) (by assumption) ?_; (try simp only [Act.put, List.setIfInBounds_toArray, List.set_cons_zero, List.set_cons_succ, List.getElem_toArray, List.getElem_cons_zero, List.getElem_cons_succ])
              refine wpAnyH_take (i := 16) rfl (by kernel_rfl) (by kernel_rfl) (by kernel_rfl) (fun _ _ _ h => h) (Or.inl ⟨by rfl, by intro w hSw; (try dsimp only at hSw); go_simp; (try with_reducible rfl)⟩) (by assumption) ?_; (try simp only [Act.put, List.setIfInBounds_toArray, List.set_cons_zero, List.set_cons_succ, List.getElem_toArray, List.getElem_cons_zero, List.getElem_cons_succ])
              refine wpAnyH_take (i := 17) rfl (by kernel_rfl) (by kernel_rfl) (by kernel_rfl) (fun _ _ _ h => h) (Or.inl ⟨by rfl, by intro w hSw; (try dsimp only at hSw); go_simp; (try with_reducible rfl)⟩) (by assumption) ?_; (try simp only [Act.put, List.setIfInBounds_toArray, List.set_cons_zero, List.set_cons_succ, List.getElem_toArray, List.getElem_cons_zero, List.getElem_cons_succ])
              refine wpAnyH_take (i := 18) rfl (by kernel_rfl) (by kernel_rfl) (by kernel_rfl) (fun _ _ _ h => h) (Or.inl ⟨by rfl, by intro w hSw; (try dsimp only at hSw); go_simp; (try with_reducible rfl)⟩) (by assumption) ?_; (try simp only [Act.put, List.setIfInBounds_toArray, List.set_cons_zero, List.set_cons_succ, List.getElem_toArray, List.getElem_cons_zero, List.getElem_cons_succ])
              refine wpAnyH_take (i := 19) rfl (by kernel_rfl) (by kernel_rfl) (by kernel_rfl) (fun _ _ _ h => h) (Or.inl ⟨by rfl, by intro w hSw; (try dsimp only at hSw); go_simp; (try with_reducible rfl)⟩) (by assumption) ?_; (try simp only [Act.put, List.setIfInBounds_toArray, List.set_cons_zero, List.set_cons_succ, List.getElem_toArray, List.getElem_cons_zero, List.getElem_cons_succ])
              refine wpAnyH_take (i := 20) rfl (by kernel_rfl) (by kernel_rfl) (by kernel_rfl) (fun _ _ _ h => h) (Or.inl ⟨by rfl, by intro w hSw; (try dsimp only at hSw); go_simp; (try with_reducible rfl)⟩) (by assumption) ?_; (try simp only [Act.put, List.setIfInBounds_toArray, List.set_cons_zero, List.set_cons_succ, List.getElem_toArray, List.getElem_cons_zero, List.getElem_cons_succ])
              refine wpAnyH_take (i := 21) rfl (by kernel_rfl) (by kernel_rfl) (by kernel_rfl) (fun _ _ _ h => h) (Or.inl ⟨by rfl, by intro w hSw; (try dsimp only at hSw); go_simp; (try with_reducible rfl)⟩) (by assumption) ?_; (try simp only [Act.put, List.setIfInBounds_toArray, List.set_cons_zero, List.set_cons_succ, List.getElem_toArray, List.getElem_cons_zero, List.getElem_cons_succ])
              refine wpAnyH_take (i := 22) rfl (by kernel_rfl) (by kernel_rfl) (by kernel_rfl) (fun _ _ _ h => h) (Or.inl ⟨by rfl, by intro w hSw; (try dsimp only at hSw); go_simp; (try with_reducible rfl)⟩) (by assumption) ?_; (try simp only [Act.put, List.setIfInBounds_toArray, List.set_cons_zero, List.set_cons_succ, List.getElem_toArray, List.getElem_cons_zero, List.getElem_cons_succ])
              refine wpAnyH_take (i := 23) rfl (by kernel_rfl) (by kernel_rfl) (by kernel_rfl) (fun _ _ _ h => h) (Or.inl ⟨by rfl, by intro w hSw; (try dsimp only at hSw); go_simp; (try with_reducible rfl)⟩) (by assumption) ?_; (try simp only [Act.put, List.setIfInBounds_toArray, List.set_cons_zero, List.set_cons_succ, List.getElem_toArray, List.getElem_cons_zero, List.getElem_cons_succ])
              refine wpAnyH_ready (rs := [24]) (by kernel_rfl) (by simp) ?_
              refine AllReadyH.cons rfl (fun K hK => ?_) AllReadyH.nil
              go_simp
              refine (at12 5 _).mono ?_
              rintro e u0 ⟨rfl, hg⟩
              refine hK.out _ _ hg (fun _ => wpAnyH_turn hg (fun hHeld => ?_))
              clear hK K
              try dsimp only at hHeld
              clear G3 G2 D2 G1 D1 G4 G5
              replace HG := Lib.hid (HG.out.trans hg)
              clear hg
              refine wpAnyH_take (i := 25) rfl (by kernel_rfl) (by kernel_rfl) (by kernel_rfl) (fun _ _ _ h => h) (Or.inl ⟨by rfl, by intro w hSw; (try dsimp only at hSw); go_simp; (try with_reducible rfl)⟩) (by assumption) ?_; (try simp only [Act.put, List.setIfInBounds_toArray, List.set_cons_zero, List.set_cons_succ, List.getElem_toArray, List.getElem_cons_zero, List.getElem_cons_succ])
              refine wpAnyH_take (i := 26) rfl (by kernel_rfl) (by kernel_rfl) (by kernel_rfl) (fun _ _ _ h => h) (Or.inl ⟨by rfl, by intro w hSw; (try dsimp only at hSw); go_simp; (try with_reducible rfl)⟩) (by assumption) ?_; (try simp only [Act.put, List.setIfInBounds_toArray, List.set_cons_zero, List.set_cons_succ, List.getElem_toArray, List.getElem_cons_zero, List.getElem_cons_succ])
              refine wpAnyH_take (i := 27) rfl (by kernel_rfl) (by kernel_rfl) (by kernel_rfl) (fun _ _ _ h => h) (Or.inl ⟨by rfl, by intro w hSw; (try dsimp only at hSw); go_simp; (try with_reducible rfl)⟩) (by assumption) ?_; (try simp only [Act.put, List.setIfInBounds_toArray, List.set_cons_zero, List.set_cons_succ, List.getElem_toArray, List.getElem_cons_zero, List.getElem_cons_succ])
              refine wpAnyH_ready (rs := [28]) (by kernel_rfl) (by simp) ?_
              refine AllReadyH.cons rfl (fun K hK => ?_) AllReadyH.nil
              go_simp
              refine (awake12 (HSh.out.gr HG.out)).mono ?_
              rintro e u1 ⟨rfl, hg⟩
              refine hK.out _ _ hg (fun _ => wpAnyH_turn hg (fun hHeld => ?_))
              clear hK K
              try dsimp only at hHeld
              replace HG := Lib.hid (HG.out.trans hg)
              clear hg
              refine wpAnyH_take (i := 29) rfl (by kernel_rfl) (by kernel_rfl) (by kernel_rfl) (fun _ _ _ h => h) (Or.inl ⟨by rfl, by intro w hSw; (try dsimp only at hSw); go_simp; (try with_reducible rfl)⟩) (by assumption) ?_; (try simp only [Act.put, List.setIfInBounds_toArray, List.set_cons_zero, List.set_cons_succ, List.getElem_toArray, List.getElem_cons_zero, List.getElem_cons_succ])
              refine wpAnyH_take (i := 30) rfl (by kernel_rfl) (by kernel_rfl) (by kernel_rfl) (fun _ _ _ h => h) (Or.inl ⟨by rfl, by intro w hSw; (try dsimp only at hSw); go_simp; (try with_reducible rfl)⟩) (by assumption) ?_; (try simp only [Act.put, List.setIfInBounds_toArray, List.set_cons_zero, List.set_cons_succ, List.getElem_toArray, List.getElem_cons_zero, List.getElem_cons_succ])
              refine wpAnyH_done (by kernel_rfl) ?_ _
              clear hHeld
              go_wp2
              go_ret
              exact ⟨rfl, HG.out⟩
        · skip
          have HGt := Lib.hid (get12 (HSh.out.gr HG.out) HC.out (szw HSc.out) HSc.out keyA x 0 0)
          generalize getF (putT (tI (mineI x (1 + br) cv false)) R) keyA x 0 0 = gg at *
          obtain ⟨f, ee⟩ := gg
          simp only at HGt
          unfold txC at HGt
          go_wp2_with fail
          refine (HGt.out).mono ?_
          rintro e w7 ⟨vl, rfl, hrd, hg⟩
          replace HG := Lib.hid (HG.out.trans hg)
          replace HTx := Lib.hid (hg.blk HTx.out)
          replace HCh := Lib.hid (hg.blk HCh.out)
          replace HT := Lib.hid (HT.out.gr hg)
          replace HC := Lib.hid (HC.out.gr hg)
          obtain ⟨q1, n1, c1, rfl⟩ := rdc_slice hrd
          have hgn := hg.alloc (.cells (fndA f (.slice q1 n1 c1)) 42)
          clear x_0 x_1 x_2 x_3 x_4 x_5 x_6 x_7 x_8 x_9 x_10 x_11
          clear c_0 c_1 c_2 cf_0 cf_1 cf_2
          clear hg hrd HGt
          have hga := (Gr.refl w7).alloc (.cells (fndA f (.slice q1 n1 c1)) 42)
          replace HG := Lib.hid (HG.out.trans hga)
          replace HTx := Lib.hid (hga.blk HTx.out)
          replace HCh := Lib.hid (hga.blk HCh.out)
          replace HT := Lib.hid (HT.out.gr hga)
          replace HC := Lib.hid (HC.out.gr hga)
          clear hga hgn
          unfold fndA at *
          have htx := HTx.out
          unfold txC at htx
          obtain ⟨x_0, x_1, x_2, x_3, x_4, x_5, x_6, x_7, x_8, x_9, x_10, x_11, _, _, _, _, _, _, _, _, _, _, _, _, _⟩ := blk12 htx
          clear htx
          obtain ⟨c_0, c_1, c_2, cf_0, cf_1, cf_2, _⟩ := blk3 HCh.out
          go_wp2_with fail
          refine (awake12 (HSh.out.gr HG.out)).mono ?_
          rintro e wz ⟨rfl, hg⟩
          go_wp2
          go_ret
          exact ⟨rfl, HG.out.trans hg⟩
end Go.Proofs.YthgecojbggoniaaGreatDoor
