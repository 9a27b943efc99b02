/- The document's table: New, Apply. -/
import Derived.Test.YtocijpeminghoaaGreatDoorRftC
namespace Go.Proofs.YtocijpeminghoaaGreatDoor
open Go.RowKit
set_option maxRecDepth 100000
set_option linter.unusedVariables false
set_option linter.unusedSimpArgs false
set_option linter.unnecessarySimpa false

theorem one10 {tb N : Nat} {R : List Rw} {w : World} (h : DocAt tb N R w) (hN : N ≤ w.heap.size) (o : Opp) (hlen : (R.length + 1) * 32 ≤ 140737488355328) :
    Calls Tryz.prog 50 #[.pointer (some ⟨tb, 0, none⟩), .agg #[.string o.key, .string o.val, .bool o.del]] w fun e w' => e = .returned (.tuple #[]) ∧ DocAt tb N (one R o) w' ∧ Fr1 tb w w' := by
  obtain ⟨k, v, d⟩ := o
  cases d
  · exact one10_false h hN k v hlen
  · exact one10_true h hN k v hlen
theorem new10 (seed : Int) (w : World) : Calls Tryz.prog 19 #[.int .i64 seed] w fun e w' => ∃ tb, e = .returned (.pointer (some ⟨tb, 0, none⟩)) ∧ DocAt tb w.heap.size [] w' ∧ Gr w w' := by
  go_enter Tryz.func19, Tryz.ntmps19
  go_wp2
  go_ret
  exact ⟨_, rfl, ⟨⟨_, heap_alloc_new _ _, OwnG.nil _ _⟩, Nat.le_refl _⟩, (Gr.refl w).alloc _⟩
theorem RdO.fr1 {tb : Nat} {w w' : World} {v : Value} {l : List Opp} (h : RdO w v l) (hf : Fr1 tb w w') (hv : v.ownBlock ≠ some tb) : RdO w' v l :=
  h.blk (fun g o hg _ ho => hf.blk g o (fun e => hv (e ▸ hg)) ho)
theorem apply_room {l : List Opp} {R : List Rw} {k M : Nat} (h : (R.length + l.length + 1) * 32 ≤ M) : ((applyR (l.take k) R).length + 1) * 32 ≤ M := by
  have h1 := len_apply (l.take k) R
  have h2 : (l.take k).length ≤ l.length := by rw [List.length_take]; exact Nat.min_le_right _ _
  exact Nat.le_trans (Nat.mul_le_mul_right 32 (Nat.succ_le_succ (Nat.le_trans h1 (Nat.add_le_add_left h2 _)))) h
set_option maxHeartbeats 4000000 in
theorem apply10 {tb N : Nat} {R : List Rw} {w : World} (h : DocAt tb N R w) (hN : N ≤ w.heap.size) {v : Value} {l : List Opp} (hl : RdO w v l) (hlen : (R.length + l.length + 1) * 32 ≤ 140737488355328) (hv : v.ownBlock ≠ some tb) :
    Calls Tryz.prog 24 #[.pointer (some ⟨tb, 0, none⟩), v] w fun e w' => e = .returned (.int .i64 (applyE l)) ∧ DocAt tb N (afterR l R) w' ∧ Fr1 tb w w' := by
  have HC := Lib.hid (refCheck10 hl (by have := hlen; omega))
  obtain ⟨q, c, rfl⟩ := hl.form
  have HH := Lib.hid h
  have HL := Lib.hid hl
  have HV := Lib.hid hv
  have HRl := Lib.hid hlen
  have hlenv := fun W ty => len_ops (w := W) (q := q) (n := l.length) (c := c) (ty := ty)
  clear h hl hv hlen
  by_cases he : applyE l = 0
  · have HA : Hid (afterR l R = applyR l R) := Lib.hid (by unfold afterR; rw [if_pos he])
    rw [he] at HC
    have HE := Lib.hid he
    clear he
    go_enter Tryz.func24, Tryz.ntmps24
    go_wp2_with (go_at_call 49; refine HC.out.mono ?_; rintro e w1 ⟨rfl, rfl⟩)
    go_loopw [6] (fun iv wr => ∃ k : Nat, iv = .int .i64 k ∧ k ≤ l.length ∧ Hid (DocAt tb N (applyR (l.take k) R) wr) ∧ Hid (Fr1 tb w wr)) (fun iv _ => l.length - (intOf iv).toNat)
    case atStart => exact ⟨0, rfl, Nat.zero_le _, Lib.hid HH.out, Lib.hid (Fr1.gr (Gr.refl _))⟩
    case round =>
      obtain ⟨k, rfl, hk, HT, HF⟩ := hrel
      by_cases hkl : k < l.length
      · have HLr := HL.out.fr1 HF.out HV.out
        obtain ⟨bk, of, cp, e1, q1, q2, c0, c1, c2⟩ := HLr.at hkl
        cases e1
        have HS1 : Hid (applyR (l.take (k + 1)) R = one (applyR (l.take k) R) l[k]) := Lib.hid (by unfold applyR; rw [List.take_succ_eq_append_getElem hkl, List.foldl_append]; rfl)
        have hln := apply_room (k := k) HRl.out
        have HO := Lib.hid (one10 HT.out (Nat.le_trans hN HF.out.size) l[k] hln)
        clear hln
        unfold maxLen at q2
        clear HLr
        go_wp2_with fail
        refine HO.out.mono ?_
        rintro e w1 ⟨rfl, hd, hf⟩
        have HD := Lib.hid hd
        have HF1 := Lib.hid hf
        clear hd hf
        go_wp2
        go_roundw
        case rel => exact ⟨k + 1, by go_num, by omega, Lib.hid (by rw [HS1.out]; exact HD.out), Lib.hid (HF.out.trans HF1.out)⟩
        case measure => simp [intOf]; omega
      · obtain rfl : k = l.length := by omega
        go_wp2
        go_ret
        refine ⟨by rw [HE.out]; rfl, ?_, HF.out⟩
        have := HT.out
        rw [List.take_length] at this
        rw [HA.out]
        exact this
  · have HA : Hid (afterR l R = R) := Lib.hid (by unfold afterR; rw [if_neg he])
    go_enter Tryz.func24, Tryz.ntmps24
    go_wp2_with (go_at_call 49; refine HC.out.mono ?_; rintro e w1 ⟨rfl, rfl⟩)
    go_ret
    exact ⟨rfl, by rw [HA.out]; exact HH.out, Fr1.gr (Gr.refl _)⟩
end Go.Proofs.YtocijpeminghoaaGreatDoor
