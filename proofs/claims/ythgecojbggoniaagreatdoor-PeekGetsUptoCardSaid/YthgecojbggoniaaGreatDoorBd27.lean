/- What the rows stand on, part 27: RftD, SweB, CelY. Printed by bundle.py out of my texts. -/
import Derived.Test.YthgecojbggoniaaGreatDoorBd01
import Derived.Test.YthgecojbggoniaaGreatDoorBd11
import Derived.Test.YthgecojbggoniaaGreatDoorBd15
import Derived.Test.YthgecojbggoniaaGreatDoorBd17
import Derived.Test.YthgecojbggoniaaGreatDoorBd25
import Derived.Test.YthgecojbggoniaaGreatDoorBd26
import Derived.RangeFuncWrites
import Derived.Laws.EntriesVeiled
namespace Go.Proofs.YthgecojbggoniaaGreatDoor
open Go.RowKit
set_option maxRecDepth 100000
set_option linter.unusedVariables false
set_option linter.unusedSimpArgs false
set_option linter.unnecessarySimpa false

theorem one10 {tb N : Nat} {R : List Rw} {w : World} (h : DocAt tb N R w) (hN : N ≤ w.heap.size) (o : Opp) (hlen : (R.length + 1) * 32 ≤ 140737488355328) :
    Calls Tryz.prog 58 #[.pointer (some ⟨tb, 0, none⟩), .agg #[.string o.key, .string o.val, .bool o.del]] w fun e w' => e = .returned (.tuple #[]) ∧ DocAt tb N (one R o) w' ∧ Fr1 tb w w' := by
  obtain ⟨k, v, d⟩ := o
  cases d
  · exact one10_false h hN k v hlen
  · exact one10_true h hN k v hlen
theorem RdO.fr1 {tb : Nat} {w w' : World} {v : Value} {l : List Opp} (h : RdO w v l) (hf : Fr1 tb w w') (hv : v.ownBlock ≠ some tb) : RdO w' v l :=
  h.blk (fun g o hg _ ho => hf.blk g o (fun e => hv (e ▸ hg)) ho)
theorem apply_room {l : List Opp} {R : List Rw} {k M : Nat} (h : (R.length + l.length + 1) * 32 ≤ M) : ((applyR (l.take k) R).length + 1) * 32 ≤ M := by
  have h1 := len_apply (l.take k) R
  have h2 : (l.take k).length ≤ l.length := by rw [List.length_take]; exact Nat.min_le_right _ _
  exact Nat.le_trans (Nat.mul_le_mul_right 32 (Nat.succ_le_succ (Nat.le_trans h1 (Nat.add_le_add_left h2 _)))) h
set_option maxHeartbeats 4000000 in
theorem apply10 {tb N : Nat} {R : List Rw} {w : World} (h : DocAt tb N R w) (hN : N ≤ w.heap.size) {v : Value} {l : List Opp} (hl : RdO w v l) (hlen : (R.length + l.length + 1) * 32 ≤ 140737488355328) (hv : v.ownBlock ≠ some tb) :
    Calls Tryz.prog 29 #[.pointer (some ⟨tb, 0, none⟩), v] w fun e w' => e = .returned (.int .i64 (applyE l)) ∧ DocAt tb N (afterR l R) w' ∧ Fr1 tb w w' := by
  have HC := Lib.hid (refCheck10 hl (by have := hlen; omega))
  obtain ⟨q, c, rfl⟩ := hl.form
  have HH := Lib.hid h
  have HL := Lib.hid hl
  have HV := Lib.hid hv
  have HRl := Lib.hid hlen
  have hlenv := fun W ty => len_ops (w := W) (q := q) (n := l.length) (c := c) (ty := ty)
  clear h hl hv hlen
  by_cases he : applyE l = 0
  · have HA : Hid (afterR l R = applyR l R) := Lib.hid (by unfold afterR; rw [if_pos he])
    rw [he] at HC
    have HE := Lib.hid he
    clear he
    go_enter Tryz.func29, Tryz.ntmps29
    go_wp2_with (go_at_call 57; refine HC.out.mono ?_; rintro e w1 ⟨rfl, rfl⟩)
    go_loopw [6] (fun iv wr => ∃ k : Nat, iv = .int .i64 k ∧ k ≤ l.length ∧ Hid (DocAt tb N (applyR (l.take k) R) wr) ∧ Hid (Fr1 tb w wr)) (fun iv _ => l.length - (intOf iv).toNat)
    case atStart => exact ⟨0, rfl, Nat.zero_le _, Lib.hid HH.out, Lib.hid (Fr1.gr (Gr.refl _))⟩
    case round =>
      obtain ⟨k, rfl, hk, HT, HF⟩ := hrel
      by_cases hkl : k < l.length
      · have HLr := HL.out.fr1 HF.out HV.out
        obtain ⟨bk, of, cp, e1, q1, q2, c0, c1, c2⟩ := HLr.at hkl
        cases e1
        have HS1 : Hid (applyR (l.take (k + 1)) R = one (applyR (l.take k) R) l[k]) := Lib.hid (by unfold applyR; rw [List.take_succ_eq_append_getElem hkl, List.foldl_append]; rfl)
        have hln := apply_room (k := k) HRl.out
        have HO := Lib.hid (one10 HT.out (Nat.le_trans hN HF.out.size) l[k] hln)
        clear hln
        unfold maxLen at q2
        clear HLr
        go_wp2_with fail
        refine HO.out.mono ?_
        rintro e w1 ⟨rfl, hd, hf⟩
        have HD := Lib.hid hd
        have HF1 := Lib.hid hf
        clear hd hf
        go_wp2
        go_roundw
        case rel => exact ⟨k + 1, by go_num, by omega, Lib.hid (by rw [HS1.out]; exact HD.out), Lib.hid (HF.out.trans HF1.out)⟩
        case measure => simp [intOf]; omega
      · obtain rfl : k = l.length := by omega
        go_wp2
        go_ret
        refine ⟨by rw [HE.out]; rfl, ?_, HF.out⟩
        have := HT.out
        rw [List.take_length] at this
        rw [HA.out]
        exact this
  · have HA : Hid (afterR l R = R) := Lib.hid (by unfold afterR; rw [if_neg he])
    go_enter Tryz.func29, Tryz.ntmps29
    go_wp2_with (go_at_call 57; refine HC.out.mono ?_; rintro e w1 ⟨rfl, rfl⟩)
    go_ret
    exact ⟨rfl, by rw [HA.out]; exact HH.out, Fr1.gr (Gr.refl _)⟩
end Go.Proofs.YthgecojbggoniaaGreatDoor
namespace Go.Proofs.YthgecojbggoniaaGreatDoor
open Go.RowKit Go.Shelf
set_option maxRecDepth 100000
set_option linter.unusedVariables false
set_option linter.unusedSimpArgs false
set_option linter.unnecessarySimpa false
attribute [local go_sem] Oper.semAt_some

theorem opEl : ElTy 80 67 3 (.agg #[.string ⟨#[]⟩, .string ⟨#[]⟩, .bool false]) 40 := ⟨Tryz.underlying80, by kernel_rfl, rfl, by decide⟩
theorem opEnc : Enc oppC 3 := ⟨fun _ => rfl, fun a u hu => by
  simp only [oppC, List.mem_cons, List.mem_nil_iff, or_false] at hu
  rcases hu with rfl | rfl | rfl <;> rfl⟩
theorem grown_cells {W W' : World} {row : Option Nat} (hg : W.grownBy W' row) (hr : ∀ r, row = some r → ∃ o : Obj, W.heap[r]? = some o ∧ o.isCells = false) {b : Nat} {cs : Array Value} {t : TypeId} {fz : Nat × Nat} (h : W.heap[b]? = some (.cells cs t fz)) : W'.heap[b]? = some (.cells cs t fz) := by
  rw [hg.block b (Array.getElem?_eq_some_iff.1 h).1 (fun e => ?_), h]
  obtain ⟨o, h1, h2⟩ := hr b e.symm
  rw [h] at h1
  cases h1
  cases h2
theorem TabAt.grown {tb : Nat} {S : Nat → Prop} {R : List Rw} {W W' : World} {row : Option Nat} (h : TabAt tb S R W) (hg : W.grownBy W' row) (hr : ∀ r, row = some r → ∃ o : Obj, W.heap[r]? = some o ∧ o.isCells = false) : TabAt tb S R W' := by
  obtain ⟨lb, H, bx, L, x, seed, h1, h2, h3, h4, h5, h6⟩ := h.ex
  refine ⟨lb, H, bx, L, x, seed, grown_cells hg hr h1, grown_cells hg hr h2, { h3 with list := grown_cells hg hr h3.list, chain := chainF_blk h3.chain (fun n hn o ho => ?_) }, h4, h5, h6⟩
  obtain ⟨cs, hcs⟩ := chain_blk h3.chain n hn
  rw [hcs] at ho
  cases ho
  exact grown_cells hg hr hcs
theorem ItAt.grown {tb b1 b2 b3 : Nat} {S : Nat → Prop} {R : List Rw} {lo hi : ByteArray} {W W' : World} {row : Option Nat} (h : ItAt tb b1 b2 b3 S R lo hi W) (hg : W.grownBy W' row) (hr : ∀ r, row = some r → ∃ o : Obj, W.heap[r]? = some o ∧ o.isCells = false) : ItAt tb b1 b2 b3 S R lo hi W' :=
  ⟨h.tab.grown hg hr, grown_cells hg hr h.t1, grown_cells hg hr h.t2, grown_cells hg hr h.t3⟩
theorem keeps_gr {B : Nat} {W W' : World} (hg : Gr W W') : KeepsFrom B W W' := (⟨hg.size, fun k o h _ => hg.blk h⟩ : KeepsOthers W W').from B
end Go.Proofs.YthgecojbggoniaaGreatDoor
namespace Go.Proofs.YthgecojbggoniaaGreatDoor
open Go.RowKit
set_option maxRecDepth 100000
set_option linter.unusedVariables false
set_option linter.unusedSimpArgs false

theorem convRule {w : World} {v : Value} {l : List UInt8} (h : Rd w v l) : ∀ w', Gr w w' → (convert 133 9 v).run Tryz.prog w' = .ok (.string ⟨l.toArray⟩) w' := fun _ hg => conv_rd (h.gr hg)

set_option maxHeartbeats 2000000 in
theorem refStamps_any (a b : Int) (w : World) :
    Calls Tryz.prog 80 #[.agg #[.int .i64 a, .int .i64 b]] w fun e w' => e = .returned (.string ⟨(stampW (a, b)).toArray⟩) ∧ Gr w w' := by
  have hX := heap_alloc_new w (.cells #[.int .i64 a, .int .i64 b] 26)
  obtain ⟨k_0, k_1, g_0, g_1, l_0⟩ := blk2 (heap_drew hX)
  have F0 := cellRule k_0
  have F1 := cellRule k_1
  have ha8 := numW_length a
  have hb8 := numW_length b
  have hq : ¬ 9223372036854775807 < (numW a).length + (numW b).length := by omega
  clear k_0 k_1 g_0 g_1 hX
  go_enter Tryz.func80, Tryz.ntmps80
  go_wp2
  refine wp_region_held_drew (S := fun w' => Gr (w.alloc (.cells #[.int .i64 a, .int .i64 b] 26)).drew w') (by kernel_rfl) (Gr.refl _) (fun hHeld => ?_)
  try dsimp only at hHeld
  refine wpAnyH_take (i := 0) rfl (by kernel_rfl) (by kernel_rfl) (by kernel_rfl) (fun _ _ _ h => h) (Or.inl ⟨by rfl, by intro w hSw; (try dsimp only at hSw); go_simp; (try with_reducible rfl)⟩) (by assumption) ?_; (try simp only [Act.put, List.setIfInBounds_toArray, List.set_cons_zero, List.set_cons_succ, List.getElem_toArray, List.getElem_cons_zero, List.getElem_cons_succ])
  refine wpAnyH_take (i := 1) rfl (by kernel_rfl) (by kernel_rfl) (by kernel_rfl) (fun _ _ _ h => h) (Or.inl ⟨by rfl, by intro w hSw; (try dsimp only at hSw); go_simp; (try with_reducible rfl)⟩) (by assumption) ?_; (try simp only [Act.put, List.setIfInBounds_toArray, List.set_cons_zero, List.set_cons_succ, List.getElem_toArray, List.getElem_cons_zero, List.getElem_cons_succ])
  refine wpAnyH_take (i := 4) rfl (by kernel_rfl) (by kernel_rfl) (by kernel_rfl) (fun _ _ _ h => h) (Or.inl ⟨by rfl, by intro w hSw; (try dsimp only at hSw); go_simp; (try with_reducible rfl)⟩) (by assumption) ?_; (try simp only [Act.put, List.setIfInBounds_toArray, List.set_cons_zero, List.set_cons_succ, List.getElem_toArray, List.getElem_cons_zero, List.getElem_cons_succ])
  refine wpAnyH_take (i := 5) rfl (by kernel_rfl) (by kernel_rfl) (by kernel_rfl) (fun _ _ _ h => h) (Or.inl ⟨by rfl, by intro w hSw; (try dsimp only at hSw); go_simp; (try with_reducible rfl)⟩) (by assumption) ?_; (try simp only [Act.put, List.setIfInBounds_toArray, List.set_cons_zero, List.set_cons_succ, List.getElem_toArray, List.getElem_cons_zero, List.getElem_cons_succ])
  refine wpAnyH_ready (rs := [2]) (by kernel_rfl) (by simp) ?_
  refine AllReadyH.cons rfl (fun K hK => ?_) AllReadyH.nil
  go_simp
  go_wp2_with (go_at_call 77; refine (refNumb_any a _).mono ?_; rintro e w1 ⟨v1, rfl, hown1, hg1⟩)
  refine hK.out _ _ hg1 (fun _ => wpAnyH_turn hg1 (fun hHeld => ?_))
  clear hK K
  try dsimp only at hHeld
  have F0' := Rule.turn F0 hg1
  have F1' := Rule.turn F1 hg1
  clear F0 F1
  have C1 := convRule hown1.rd
  refine wpAnyH_take (i := 3) rfl (by kernel_rfl) (by kernel_rfl) (by kernel_rfl) (fun _ _ _ h => h) (Or.inl ⟨by rfl, by intro w hSw; (try dsimp only at hSw); go_simp; (try with_reducible rfl)⟩) (by assumption) ?_; (try simp only [Act.put, List.setIfInBounds_toArray, List.set_cons_zero, List.set_cons_succ, List.getElem_toArray, List.getElem_cons_zero, List.getElem_cons_succ])
  refine wpAnyH_ready (rs := [6]) (by kernel_rfl) (by simp) ?_
  refine AllReadyH.cons rfl (fun K hK => ?_) AllReadyH.nil
  go_simp
  go_wp2_with (go_at_call 77; refine (refNumb_any b _).mono ?_; rintro e w2 ⟨v2, rfl, hown2, hg2⟩)
  refine hK.out _ _ hg2 (fun _ => wpAnyH_turn hg2 (fun hHeld => ?_))
  clear hK K
  try dsimp only at hHeld
  have F0'' := Rule.turn F0' hg2
  have F1'' := Rule.turn F1' hg2
  have C1' := Rule.turn C1 hg2
  clear F0' F1' C1
  have C2 := convRule hown2.rd
  refine wpAnyH_take (i := 7) rfl (by kernel_rfl) (by kernel_rfl) (by kernel_rfl) (fun _ _ _ h => h) (Or.inl ⟨by rfl, by intro w hSw; (try dsimp only at hSw); go_simp; (try with_reducible rfl)⟩) (by assumption) ?_; (try simp only [Act.put, List.setIfInBounds_toArray, List.set_cons_zero, List.set_cons_succ, List.getElem_toArray, List.getElem_cons_zero, List.getElem_cons_succ])
  refine wpAnyH_take (i := 8) rfl (by kernel_rfl) (by kernel_rfl) (by kernel_rfl) (fun _ _ _ h => h) (Or.inl ⟨by rfl, by intro w hSw; (try dsimp only at hSw); go_simp; (try with_reducible rfl)⟩) (by assumption) ?_; (try simp only [Act.put, List.setIfInBounds_toArray, List.set_cons_zero, List.set_cons_succ, List.getElem_toArray, List.getElem_cons_zero, List.getElem_cons_succ])
  refine wpAnyH_take (i := 9) rfl (by kernel_rfl) (by kernel_rfl) (by kernel_rfl) (fun _ _ _ h => h) (Or.inl ⟨by rfl, by intro w hSw; (try dsimp only at hSw); go_simp; (try with_reducible rfl)⟩) (by assumption) ?_; (try simp only [Act.put, List.setIfInBounds_toArray, List.set_cons_zero, List.set_cons_succ, List.getElem_toArray, List.getElem_cons_zero, List.getElem_cons_succ])
  refine wpAnyH_done (by kernel_rfl) ?_ _
  clear hHeld F0'' F1'' C1' C2
  go_wp2
  go_ret
  exact ⟨by rw [str_append]; rfl, (Gr.drew ((Gr.refl w).alloc _)).trans (hg1.trans hg2)⟩
end Go.Proofs.YthgecojbggoniaaGreatDoor
