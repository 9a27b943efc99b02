/- What the rows stand on, part 25: TabC. Printed by bundle.py out of my texts. -/
import Derived.Test.YthgecojbggoniaaGreatDoorBe06
import Derived.Test.YthgecojbggoniaaGreatDoorBe24
namespace Go.Proofs.YthgecojbggoniaaGreatDoor
open Go.RowKit
set_option maxRecDepth 100000
set_option linter.unusedVariables false
set_option linter.unusedSimpArgs false
set_option linter.unnecessarySimpa false

theorem len_apply (l : List Opp) (R : List Rw) : (applyR l R).length ≤ R.length + l.length := by
  induction l generalizing R with
  | nil => exact Nat.le_refl _
  | cons o r ih =>
    have h1 := ih (one R o)
    have h2 := len_one R o
    show (applyR r (one R o)).length ≤ _
    simp only [List.length_cons]
    omega
def afterR (l : List Opp) (R : List Rw) : List Rw := if applyE l = 0 then applyR l R else R
theorem tab_after {tb lb H bx : Nat} {S S' : Nat → Prop} {L' : List Nd} {x seed : Int} {wr W w5 : World} (t1 : wr.heap[tb]? = some (.cells #[.pointer (some ⟨lb, 0, none⟩), .func (.func 83) #[] #[.pointer (some ⟨bx, 0, none⟩)], .int .i64 seed] 112))
    (t2 : wr.heap[bx]? = some (.cells #[.int .u64 x] 154)) (hg : Gr wr W) (hf : FrT S' W w5) (hs : SkipAt lb H S' L' w5) (hS : ∀ k, S k → S' k) (t5 : S bx) (t6 : S tb) : TabAt tb S' (rowsL L') w5 :=
  ⟨lb, H, bx, L', x, seed, hf.blk _ _ (hg.blk t1) (fun _ => by rintro ⟨cs, fz, h | h⟩ <;> simp at h), hf.blk _ _ (hg.blk t2) (fun _ => by rintro ⟨cs, fz, h | h⟩ <;> simp at h), hs, rfl, hS _ t5, hS _ t6⟩
set_option maxHeartbeats 4000000 in
theorem apply_tab {tb : Nat} {S : Nat → Prop} {R : List Rw} {w : World} (h : TabAt tb S R w) {v : Value} {l : List Opp} (hl : RdO w v l) (hlen : l.length ≤ 140737488355328) (hR : R.length ≤ 2305843009213693952)
    (hv : ∀ g, v.ownBlock = some g → l ≠ [] → S g → ∃ cs t fz, w.heap[g]? = some (.cells cs t fz) ∧ ¬ isTab (.cells cs t fz)) :
    Calls Tryz.prog 28 #[.pointer (some ⟨tb, 0, none⟩), v] w fun e w' => e = .returned (.int .i64 (applyE l)) ∧ TabAt tb (UpS S w) (afterR l R) w' ∧ FrU (UpS S w) w w' := by
  obtain ⟨q, c, rfl⟩ := hl.form
  have HH := Lib.hid h
  have HL := Lib.hid hl
  have HV := Lib.hid hv
  have HRl := Lib.hid hR
  obtain ⟨lb, H, bx, L, x, seed, t1, t2, t3, t4, t5, t6⟩ := h.ex
  have HN := Lib.hid (tab_none (lv := .pointer none) t1)
  have hlenv := fun W ty => len_ops (w := W) (q := q) (n := l.length) (c := c) (ty := ty)
  clear h hl hv hR t1 t2 t3 t4 t5 t6
  by_cases h128 : 128 < l.length
  · have he : applyE l = 5 := by unfold applyE; rw [if_pos h128]
    have HE := Lib.hid he
    clear he
    go_enter Tryz.func28, Tryz.ntmps28
    go_wp2_with (go_at_call 50; refine HN.out.mono ?_; rintro e w1 ⟨rfl, rfl⟩)
    go_ret
    exact ⟨by rw [HE.out]; rfl, by unfold afterR; rw [HE.out, if_neg (by decide)]; exact HH.out.mono (fun _ h => .inl h), FrU.gr (Gr.refl _)⟩
  · go_enter Tryz.func28, Tryz.ntmps28
    go_wp2_with (go_at_call 50; refine HN.out.mono ?_; rintro e w1 ⟨rfl, rfl⟩)
    go_loopw [18] (fun iv wr => ∃ k : Nat, iv = .int .i64 k ∧ k ≤ l.length ∧ (l.take k).any badO = false ∧ Gr w wr) (fun iv _ => l.length - (intOf iv).toNat)
    case atStart => exact ⟨0, rfl, Nat.zero_le _, rfl, Gr.refl _⟩
    case round =>
      obtain ⟨k, rfl, hk, hpre, hg⟩ := hrel
      have HP := Lib.hid hpre
      have HG := Lib.hid hg
      clear hpre hg
      by_cases hkl : k < l.length
      · obtain ⟨bk, of, cp, e1, q1, q2, c0, c1, c2⟩ := (HL.out.gr HG.out).at hkl
        cases e1
        have HBd : Hid (badO l[k] = true → applyE l = 2) := Lib.hid (fun hb => by
          unfold applyE
          rw [if_neg h128, if_pos]
          rw [List.any_eq_true]
          exact ⟨l[k], List.getElem_mem hkl, hb⟩)
        have HBx : Hid (badO l[k] = (l[k].key.toList.isEmpty || (l[k].del && !l[k].val.toList.isEmpty))) := Lib.hid rfl
        unfold maxLen at q2
        cases b0 : l[k].key.toList.isEmpty with
        | true =>
          rw [b0] at HBx
          have he := HBd.out (by rw [HBx.out]; rfl)
          have b0' : l[k].key.toList = [] := by simpa using b0
          have HE := Lib.hid he
          clear he
          go_wp2
          go_ret
          exact ⟨by rw [HE.out]; rfl, by unfold afterR; rw [HE.out, if_neg (by decide)]; exact (HH.out.gr (HG.out.alloc _)).mono (fun _ h => .inl h), FrU.gr (HG.out.alloc _)⟩
        | false =>
          have b0' : ¬ l[k].key.toList = [] := by intro e; rw [e] at b0; cases b0
          cases b1 : l[k].del with
          | false =>
            have HBad : Hid (badO l[k] = false) := Lib.hid (by rw [HBx.out, b0, b1]; rfl)
            rw [b1] at c2
            clear HBx
            go_wp2
            go_roundw
            case rel => exact ⟨k + 1, by go_num, by omega, by rw [List.take_succ_eq_append_getElem hkl, List.any_append, HP.out]; simp [HBad.out], HG.out.alloc _⟩
            case measure => simp [intOf]; omega
          | true =>
            rw [b1] at c2
            cases b2 : l[k].val.toList.isEmpty with
            | true =>
              have HBad : Hid (badO l[k] = false) := Lib.hid (by rw [HBx.out, b0, b1, b2]; rfl)
              have b2' : l[k].val.toList = [] := by simpa using b2
              clear HBx
              go_wp2
              go_roundw
              case rel => exact ⟨k + 1, by go_num, by omega, by rw [List.take_succ_eq_append_getElem hkl, List.any_append, HP.out]; simp [HBad.out], HG.out.alloc _⟩
              case measure => simp [intOf]; omega
            | false =>
              have he := HBd.out (by rw [HBx.out, b0, b1, b2]; rfl)
              have b2' : ¬ l[k].val.toList = [] := by intro e; rw [e] at b2; cases b2
              have HE := Lib.hid he
              clear he HBx
              go_wp2
              go_ret
              exact ⟨by rw [HE.out]; rfl, by unfold afterR; rw [HE.out, if_neg (by decide)]; exact (HH.out.gr (HG.out.alloc _)).mono (fun _ h => .inl h), FrU.gr (HG.out.alloc _)⟩
      · obtain rfl : k = l.length := by omega
        have he : applyE l = 0 := by
          have := HP.out
          rw [List.take_length] at this
          unfold applyE
          rw [if_neg h128, if_neg (by rw [this]; decide)]
        have HE := Lib.hid he
        clear HP he
        go_wp2
        go_loopw [37] (fun iv wr2 => ∃ k : Nat, iv = .int .i64 k ∧ k ≤ l.length ∧ Hid (TabAt tb (UpS S w) (applyR (l.take k) R) wr2) ∧ Hid (FrU (UpS S w) w wr2)) (fun iv _ => l.length - (intOf iv).toNat)
        case atStart => exact ⟨0, rfl, Nat.zero_le _, Lib.hid ((HH.out.gr HG.out).mono (fun _ h => .inl h)), Lib.hid (FrU.gr HG.out)⟩
        case round =>
          obtain ⟨k, rfl, hk, HT, HF⟩ := hrel
          by_cases hkl : k < l.length
          · have HLr := HL.out.blk (w' := wr) (fun g o hg hne ho => HF.out.blk g o ho (fun hs => by
              have hlt := (Array.getElem?_eq_some_iff.1 ho).1
              rcases hs with hs | hs
              · obtain ⟨cs, t, fz, h1, h2⟩ := HV.out g hg hne hs
                rw [h1] at ho
                cases ho
                exact h2
              · omega))
            obtain ⟨bk, of, cp, e1, q1, q2, c0, c1, c2⟩ := HLr.at hkl
            cases e1
            obtain ⟨lb, H, bx, L, x, seed, t1, t2, t3, t4, t5, t6⟩ := HT.out.ex
            have HL2 : Hid (L.length < 4611686018427387904) := by
              have h1 := len_apply (l.take k) R
              rw [← t4] at h1
              simp only [rowsL, List.length_map, List.length_take] at h1
              have := HRl.out
              exact Lib.hid (by omega)
            have HT1 := Lib.hid t1
            have HT2 := Lib.hid t2
            have HT3 := Lib.hid t3
            have HT4 := Lib.hid t4
            have HT5 := Lib.hid t5
            have HT6 := Lib.hid t6
            obtain ⟨k_0, k_1, k_2, g_0, g_1, g_2, l_0⟩ := blk3 t1
            unfold maxLen at q2
            clear t1 t2 t3 t4 t5 t6 HLr g_0 g_1 g_2
            have HS1 : Hid (applyR (l.take (k + 1)) R = one (applyR (l.take k) R) l[k]) := Lib.hid (by unfold applyR; rw [List.take_succ_eq_append_getElem hkl, List.foldl_append]; rfl)
            cases b1 : l[k].del with
            | true =>
              rw [b1] at c2
              go_wp2
              have HW : Hid (Gr wr (wr.alloc (Obj.cells #[.string l[k].key, .string l[k].val, .bool true] 67))) := Lib.hid ((Gr.refl _).alloc _)
              obtain ⟨a_0, a_1, a_2, _, _, _, _⟩ := blk3 (heap_alloc_new wr (Obj.cells #[.string l[k].key, .string l[k].val, .bool true] 67))
              obtain ⟨b_0, b_1, b_2, _, _, _, _⟩ := blk3 (HW.out.blk HT1.out)
              have HD := Lib.hid (drop_sk (HT3.out.gr HW.out) l[k].key HL2.out)
              have HD2 := Lib.hid (drop_sk ((HT3.out.gr HW.out).gr (Gr.refl _).drew) l[k].key HL2.out)
              generalize wr.alloc (Obj.cells #[.string l[k].key, .string l[k].val, .bool true] 67) = W at *
              generalize wr.heap.size = ob at *
              clear k_0 k_1 k_2 c0 c1 c2 hlenv
              go_region_with (go_at_call 55; first | (refine HD.out.mono ?_; rintro e w5 ⟨⟨bb, rfl⟩, hL5, hf5⟩) | (refine HD2.out.mono ?_; rintro e w5 ⟨⟨bb, rfl⟩, hL5, hf5⟩))
              all_goals (
                obtain ⟨L5, hr5, hs5⟩ := hL5
                have HT5' : Hid (TabAt tb (UpS S w) (applyR (l.take (k + 1)) R) w5 ∧ FrU (UpS S w) w w5) := Lib.hid (by
                  rw [HS1.out, show one (applyR (l.take k) R) l[k] = rowsL L5 by rw [hr5, HT4.out]; unfold one; rw [if_pos b1]]
                  first
                    | exact ⟨tab_after HT1.out HT2.out HW.out hf5 hs5 (fun _ h => h) HT5.out HT6.out, HF.out.trans ((FrU.gr HW.out).trans hf5.u (fun _ h _ => h)) (fun _ h _ => h)⟩
                    | exact ⟨tab_after HT1.out HT2.out HW.out.drew hf5 hs5 (fun _ h => h) HT5.out HT6.out, HF.out.trans ((FrU.gr HW.out.drew).trans hf5.u (fun _ h _ => h)) (fun _ h _ => h)⟩)
                clear hr5 hs5 hf5
                go_wp2
                go_roundw
                case rel => exact ⟨k + 1, by go_num, by omega, Lib.hid HT5'.out.1, Lib.hid HT5'.out.2⟩
                case measure => simp [intOf]; omega)
            | false =>
              rw [b1] at c2
              go_wp2
              have HW : Hid (Gr wr (wr.alloc (Obj.cells #[.string l[k].key, .string l[k].val, .bool false] 67))) := Lib.hid ((Gr.refl _).alloc _)
              have HOb := Lib.hid (heap_alloc_new wr (Obj.cells #[.string l[k].key, .string l[k].val, .bool false] 67))
              obtain ⟨a_0, a_1, a_2, _, _, _, _⟩ := blk3 HOb.out
              have HTb := Lib.hid (HW.out.blk HT1.out)
              have HBx := Lib.hid (HW.out.blk HT2.out)
              have HSk := Lib.hid (HT3.out.gr HW.out)
              obtain ⟨b_0, b_1, b_2, _, _, _, _⟩ := blk3 HTb.out
              generalize wr.alloc (Obj.cells #[.string l[k].key, .string l[k].val, .bool false] 67) = W at *
              generalize wr.heap.size = ob at *
              have HobN : Hid (ob ≠ bx) := Lib.hid (fun e => by have h1 := HOb.out; rw [e, HBx.out] at h1; simp at h1)
              clear k_0 k_1 k_2 c0 c1 c2 hlenv
              have F1 : ∀ w' : World, (w'.heap[tb]? = some (.cells #[.pointer (some ⟨lb, 0, none⟩), .func (.func 83) #[] #[.pointer (some ⟨bx, 0, none⟩)], .int .i64 seed] 112) ∧ w'.heap[ob]? = some (.cells #[.string l[k].key, .string l[k].val, .bool false] 67)) → w'.cell? ⟨tb, 0, none⟩ = some (.pointer (some ⟨lb, 0, none⟩)) := fun w' h => cell_of h.1 rfl
              have F2 : ∀ w' : World, (w'.heap[tb]? = some (.cells #[.pointer (some ⟨lb, 0, none⟩), .func (.func 83) #[] #[.pointer (some ⟨bx, 0, none⟩)], .int .i64 seed] 112) ∧ w'.heap[ob]? = some (.cells #[.string l[k].key, .string l[k].val, .bool false] 67)) → w'.cell? ⟨tb, 1, none⟩ = some (.func (.func 83) #[] #[.pointer (some ⟨bx, 0, none⟩)]) := fun w' h => cell_of h.1 rfl
              have F3 : ∀ w' : World, (w'.heap[tb]? = some (.cells #[.pointer (some ⟨lb, 0, none⟩), .func (.func 83) #[] #[.pointer (some ⟨bx, 0, none⟩)], .int .i64 seed] 112) ∧ w'.heap[ob]? = some (.cells #[.string l[k].key, .string l[k].val, .bool false] 67)) → w'.cell? ⟨ob, 0, none⟩ = some (.string l[k].key) := fun w' h => cell_of h.2 rfl
              have F4 : ∀ w' : World, (w'.heap[tb]? = some (.cells #[.pointer (some ⟨lb, 0, none⟩), .func (.func 83) #[] #[.pointer (some ⟨bx, 0, none⟩)], .int .i64 seed] 112) ∧ w'.heap[ob]? = some (.cells #[.string l[k].key, .string l[k].val, .bool false] 67)) → w'.cell? ⟨ob, 1, none⟩ = some (.string l[k].val) := fun w' h => cell_of h.2 rfl
              clear a_0 a_1 a_2 b_0 b_1 b_2
              refine wp_region_T (S := fun w' : World => (w'.heap[tb]? = some (.cells #[.pointer (some ⟨lb, 0, none⟩), .func (.func 83) #[] #[.pointer (some ⟨bx, 0, none⟩)], .int .i64 seed] 112) ∧ w'.heap[ob]? = some (.cells #[.string l[k].key, .string l[k].val, .bool false] 67))) [13] (by kernel_rfl) ⟨HTb.out, HOb.out⟩ (fun hHeld => ?_)
              try dsimp only at hHeld
              refine wpAnyT_take (i := 0) rfl (by kernel_rfl) (by kernel_rfl) (by kernel_rfl) (by kernel_rfl) (fun _ _ _ h => h) (Or.inl ⟨by rfl, by intro w hSw; (try dsimp only at hSw); go_simp; (try with_reducible rfl)⟩) (by assumption) ?_; (try simp only [Act.put, List.setIfInBounds_toArray, List.set_cons_zero, List.set_cons_succ, List.getElem_toArray, List.getElem_cons_zero, List.getElem_cons_succ])
              refine wpAnyT_take (i := 1) rfl (by kernel_rfl) (by kernel_rfl) (by kernel_rfl) (by kernel_rfl) (fun _ _ _ h => h) (Or.inl ⟨by rfl, by intro w hSw; (try dsimp only at hSw); go_simp; (try with_reducible rfl)⟩) (by assumption) ?_; (try simp only [Act.put, List.setIfInBounds_toArray, List.set_cons_zero, List.set_cons_succ, List.getElem_toArray, List.getElem_cons_zero, List.getElem_cons_succ])
              refine wpAnyT_take (i := 2) rfl (by kernel_rfl) (by kernel_rfl) (by kernel_rfl) (by kernel_rfl) (fun _ _ _ h => h) (Or.inl ⟨by rfl, by intro w hSw; (try dsimp only at hSw); go_simp; (try with_reducible rfl)⟩) (by assumption) ?_; (try simp only [Act.put, List.setIfInBounds_toArray, List.set_cons_zero, List.set_cons_succ, List.getElem_toArray, List.getElem_cons_zero, List.getElem_cons_succ])
              refine wpAnyT_take (i := 3) rfl (by kernel_rfl) (by kernel_rfl) (by kernel_rfl) (by kernel_rfl) (fun _ _ _ h => h) (Or.inl ⟨by rfl, by intro w hSw; (try dsimp only at hSw); go_simp; (try with_reducible rfl)⟩) (by assumption) ?_; (try simp only [Act.put, List.setIfInBounds_toArray, List.set_cons_zero, List.set_cons_succ, List.getElem_toArray, List.getElem_cons_zero, List.getElem_cons_succ])
              refine wpAnyT_take (i := 4) rfl (by kernel_rfl) (by kernel_rfl) (by kernel_rfl) (by kernel_rfl) (fun _ _ _ h => h) (Or.inl ⟨by rfl, by intro w hSw; (try dsimp only at hSw); go_simp; (try with_reducible rfl)⟩) (by assumption) ?_; (try simp only [Act.put, List.setIfInBounds_toArray, List.set_cons_zero, List.set_cons_succ, List.getElem_toArray, List.getElem_cons_zero, List.getElem_cons_succ])
              refine wpAnyT_take (i := 5) rfl (by kernel_rfl) (by kernel_rfl) (by kernel_rfl) (by kernel_rfl) (fun _ _ _ h => h) (Or.inl ⟨by rfl, by intro w hSw; (try dsimp only at hSw); go_simp; (try with_reducible rfl)⟩) (by assumption) ?_; (try simp only [Act.put, List.setIfInBounds_toArray, List.set_cons_zero, List.set_cons_succ, List.getElem_toArray, List.getElem_cons_zero, List.getElem_cons_succ])
              refine wpAnyT_take (i := 6) rfl (by kernel_rfl) (by kernel_rfl) (by kernel_rfl) (by kernel_rfl) (fun _ _ _ h => h) (Or.inl ⟨by rfl, by intro w hSw; (try dsimp only at hSw); go_simp; (try with_reducible rfl)⟩) (by assumption) ?_; (try simp only [Act.put, List.setIfInBounds_toArray, List.set_cons_zero, List.set_cons_succ, List.getElem_toArray, List.getElem_cons_zero, List.getElem_cons_succ])
              refine wpAnyT_take (i := 7) rfl (by kernel_rfl) (by kernel_rfl) (by kernel_rfl) (by kernel_rfl) (fun _ _ _ h => h) (Or.inl ⟨by rfl, by intro w hSw; (try dsimp only at hSw); go_simp; (try with_reducible rfl)⟩) (by assumption) ?_; (try simp only [Act.put, List.setIfInBounds_toArray, List.set_cons_zero, List.set_cons_succ, List.getElem_toArray, List.getElem_cons_zero, List.getElem_cons_succ])
              refine wpAnyT_take (i := 8) rfl (by kernel_rfl) (by kernel_rfl) (by kernel_rfl) (by kernel_rfl) (fun _ _ _ h => h) (Or.inl ⟨by rfl, by intro w hSw; (try dsimp only at hSw); go_simp; (try with_reducible rfl)⟩) (by assumption) ?_; (try simp only [Act.put, List.setIfInBounds_toArray, List.set_cons_zero, List.set_cons_succ, List.getElem_toArray, List.getElem_cons_zero, List.getElem_cons_succ])
              refine wpAnyT_take (i := 9) rfl (by kernel_rfl) (by kernel_rfl) (by kernel_rfl) (by kernel_rfl) (fun _ _ _ h => h) (Or.inl ⟨by rfl, by intro w hSw; (try dsimp only at hSw); go_simp; (try with_reducible rfl)⟩) (by assumption) ?_; (try simp only [Act.put, List.setIfInBounds_toArray, List.set_cons_zero, List.set_cons_succ, List.getElem_toArray, List.getElem_cons_zero, List.getElem_cons_succ])
              refine wpAnyT_take (i := 10) rfl (by kernel_rfl) (by kernel_rfl) (by kernel_rfl) (by kernel_rfl) (fun _ _ _ h => h) (Or.inl ⟨by rfl, by intro w hSw; (try dsimp only at hSw); go_simp; (try with_reducible rfl)⟩) (by assumption) ?_; (try simp only [Act.put, List.setIfInBounds_toArray, List.set_cons_zero, List.set_cons_succ, List.getElem_toArray, List.getElem_cons_zero, List.getElem_cons_succ])
              refine wpAnyT_take (i := 11) rfl (by kernel_rfl) (by kernel_rfl) (by kernel_rfl) (by kernel_rfl) (fun _ _ _ h => h) (Or.inl ⟨by rfl, by intro w hSw; (try dsimp only at hSw); go_simp; (try with_reducible rfl)⟩) (by assumption) ?_; (try simp only [Act.put, List.setIfInBounds_toArray, List.set_cons_zero, List.set_cons_succ, List.getElem_toArray, List.getElem_cons_zero, List.getElem_cons_succ])
              refine wpAnyT_ready (rs := [12]) (by kernel_rfl) (by simp) ?_
              refine AllReadyT.cons rfl (fun K hK => ?_) AllReadyT.nil
              go_simp
              refine (draw_any ((Gr.refl W).drew.blk HBx.out)).mono ?_
              rintro e w6 ⟨s, x', rfl, hs1, hs2, rfl⟩
              obtain ⟨y1, y2, y3, y4, y5⟩ := draw_turn (x' := x') (w := W.drew) HTb.out HBx.out (HSk.out.gr (Gr.refl _).drew) HT5.out
              refine hK.out _ _ ⟨y1, y5 _ _ HobN.out HOb.out⟩ (fun _ => ?_)
              clear hK K hHeld F1 F2 F3 F4
              refine wpAnyT_chain [13] (.cons rfl .nil) (by kernel_rfl) (by kernel_rfl) rfl ?_
              have Y1 := Lib.hid y1
              have Y2 := Lib.hid y2
              have Y3 := Lib.hid y3
              have hFW : FrU (UpS S w) w (W.drew.setCell ⟨bx, 0, none⟩ (.int .u64 x')) := HF.out.trans ((FrU.gr HW.out.drew).trans y4 (fun _ h _ => h)) (fun _ h _ => h)
              have HFW := Lib.hid hFW
              clear y1 y2 y3 y4 y5 hFW
              generalize W.drew.setCell ⟨bx, 0, none⟩ (.int .u64 x') = W6 at *
              go_wp2_with fail
              refine (put_sk Y3.out l[k].key l[k].val s ⟨hs1, hs2⟩ HL2.out).mono ?_
              rintro e w5 ⟨rfl, ⟨L5, hr5, hs5⟩, hf5⟩
              have HT5' : Hid (TabAt tb (UpS S w) (applyR (l.take (k + 1)) R) w5 ∧ FrU (UpS S w) w w5) := Lib.hid (by
                rw [HS1.out, show one (applyR (l.take k) R) l[k] = rowsL L5 by rw [hr5, HT4.out]; unfold one; rw [if_neg (by rw [b1]; decide)]]
                refine ⟨(tab_after Y1.out Y2.out (Gr.refl _) hf5 hs5 (fun _ h => .inl h) HT5.out HT6.out).mono (fun j hj => ?_), HFW.out.trans hf5.u (fun j hj hlt => ?_)⟩
                · rcases hj with hj | hj
                  · exact hj
                  · exact .inr (Nat.le_trans HFW.out.size hj)
                · rcases hj with hj | hj
                  · exact hj
                  · have := HFW.out.size; omega)
              clear hr5 hs5 hf5
              go_wp2
              go_roundw
              case rel => exact ⟨k + 1, by go_num, by omega, Lib.hid HT5'.out.1, Lib.hid HT5'.out.2⟩
              case measure => simp [intOf]; omega
          · obtain rfl : k = l.length := by omega
            go_wp2
            go_ret
            have := HT.out
            rw [List.take_length] at this
            exact ⟨by rw [HE.out]; rfl, by unfold afterR; rw [HE.out, if_pos rfl]; exact this, HF.out⟩
end Go.Proofs.YthgecojbggoniaaGreatDoor
