/- What the rows stand on, part 33: ThB. Printed by bundle.py out of my texts. -/
import Derived.Test.YthgecojbggoniaaGreatDoorBe32
namespace Go.Proofs.YthgecojbggoniaaGreatDoor
open Go.RowKit
set_option maxRecDepth 100000
set_option linter.unusedVariables false
set_option linter.unusedSimpArgs false
set_option linter.unnecessarySimpa false

abbrev RdT (w : World) (v : Value) (l : List Th) : Prop := RdR (fun w ds x => ∃ vl, ds = thC x vl ∧ RdC w vl x.it.l) 15 w v l
theorem RdT.gr {a b : World} {v : Value} {l : List Th} (h : RdT a v l) (hg : Gr a b) : RdT b v l := RdR.gr (fun _ _ _ _ hg h => h.elim fun vl h => ⟨vl, h.1, RdC.gr h.2 hg⟩) hg h
theorem RdT.form {w : World} {v : Value} {l : List Th} (h : RdT w v l) : ∃ q c, v = .slice q l.length c := by
  rcases h with ⟨rfl, q, c, rfl, _⟩ | ⟨blk, off, cap, rfl, _⟩
  · exact ⟨q, c, rfl⟩
  · exact ⟨_, _, rfl⟩
theorem RdT.at {w : World} {v : Value} {l : List Th} (h : RdT w v l) {k : Nat} (hk : k < l.length) : ∃ blk off cap vl, v = .slice (some ⟨blk, off, none⟩) l.length cap ∧ l.length ≤ cap ∧ cap ≤ maxLen ∧ RdC w vl l[k].it.l ∧
    w.cell? ⟨blk, off + k * 15, none⟩ = some (.int .i64 l[k].kind) ∧ w.cell? ⟨blk, off + k * 15 + 1, none⟩ = some (.string l[k].key) ∧ w.cell? ⟨blk, off + k * 15 + 2, none⟩ = some (.string l[k].val) ∧
    w.cell? ⟨blk, off + k * 15 + 3, none⟩ = some (.bool l[k].gone) ∧ w.cell? ⟨blk, off + k * 15 + 4, none⟩ = some (.int .i64 l[k].wall) ∧ w.cell? ⟨blk, off + k * 15 + 5, none⟩ = some (.int .i64 l[k].tick) ∧
    w.cell? ⟨blk, off + k * 15 + 6, none⟩ = some (.int .i64 l[k].it.id) ∧ w.cell? ⟨blk, off + k * 15 + 7, none⟩ = some (.int .i64 l[k].it.epoch) ∧ w.cell? ⟨blk, off + k * 15 + 8, none⟩ = some (.int .i64 l[k].it.prio) ∧
    w.cell? ⟨blk, off + k * 15 + 9, none⟩ = some (.string l[k].it.anchor) ∧ w.cell? ⟨blk, off + k * 15 + 10, none⟩ = some (.int .i64 l[k].it.sw) ∧ w.cell? ⟨blk, off + k * 15 + 11, none⟩ = some (.int .i64 l[k].it.sl) ∧
    w.cell? ⟨blk, off + k * 15 + 12, none⟩ = some (.int .i64 l[k].it.bw) ∧ w.cell? ⟨blk, off + k * 15 + 13, none⟩ = some (.int .i64 l[k].it.bl) ∧ w.cell? ⟨blk, off + k * 15 + 14, none⟩ = some vl := by
  rcases h with ⟨rfl, _⟩ | ⟨blk, off, cap, rfl, h1, h2, h3, h4, h5⟩
  · simp at hk
  · obtain ⟨ds, d1, d2, vl, rfl, d4⟩ := h5 k hk
    have hc : ∀ j (hj : j < 15), w.cell? ⟨blk, off + k * 15 + j, none⟩ = some ((thC l[k] vl)[j]'(by simpa [thC] using hj)) := fun j hj => by rw [Nat.add_assoc]; exact d2 j (by simpa [thC] using hj)
    exact ⟨blk, off, cap, vl, rfl, h2, h3, d4, hc 0 (by decide), hc 1 (by decide), hc 2 (by decide), hc 3 (by decide), hc 4 (by decide), hc 5 (by decide), hc 6 (by decide), hc 7 (by decide), hc 8 (by decide), hc 9 (by decide), hc 10 (by decide), hc 11 (by decide), hc 12 (by decide), hc 13 (by decide), hc 14 (by decide)⟩
theorem len_ths {w : World} {q : Option Addr} {n c : Nat} {ty : TypeId} : (Builtin.len_ #[22] ty #[.slice q n c]).run Tryz.prog w = .ok (.int .i64 n) w := by
  cases q <;> simp [Builtin.len_, run_underlying Tryz.underlying22, go_sem]
def opsT (l : List Th) : List Opp := (l.take 60).filterMap thOp
def opsK (l : List Th) (k : Nat) : List Opp := (l.take k).filterMap thOp
theorem opsK_len (l : List Th) (k : Nat) : (opsK l k).length ≤ k := by
  unfold opsK
  refine Nat.le_trans (List.length_filterMap_le _ _) ?_
  rw [List.length_take]
  omega
theorem opsK_some {l : List Th} {k : Nat} (hk : k < l.length) {o : Opp} (h : thOp l[k] = some o) : opsK l (k + 1) = opsK l k ++ [o] := by
  unfold opsK
  rw [List.take_succ_eq_append_getElem hk, List.filterMap_append]
  simp [h]
theorem opsK_none {l : List Th} {k : Nat} (hk : k < l.length) (h : thOp l[k] = none) : opsK l (k + 1) = opsK l k := by
  unfold opsK
  rw [List.take_succ_eq_append_getElem hk, List.filterMap_append]
  simp [h]
def tabR (ops : List Opp) : List Rw := ops.foldl (fun R o => afterR [o] R) []
theorem tabR_snoc {ops : List Opp} {k : Nat} (hk : k < ops.length) : tabR (ops.take (k + 1)) = afterR [ops[k]] (tabR (ops.take k)) := by
  unfold tabR
  rw [List.take_succ_eq_append_getElem hk, List.foldl_append]
  rfl
theorem len_after (o : Opp) (R : List Rw) : (afterR [o] R).length ≤ R.length + 1 := by
  unfold afterR
  split
  · exact len_apply [_] R
  · omega
theorem tabR_len (ops : List Opp) : (tabR ops).length ≤ ops.length := by
  have gen : ∀ (l : List Opp) (R : List Rw), (l.foldl (fun R o => afterR [o] R) R).length ≤ R.length + l.length := by
    intro l
    induction l with
    | nil => intro R; exact Nat.le_refl _
    | cons o r ih =>
      intro R
      have h1 := ih (afterR [o] R)
      have h2 := len_after o R
      rw [List.foldl_cons, List.length_cons]
      omega
  have := gen ops []
  simpa [tabR] using this
set_option maxHeartbeats 8000000 in
theorem laid12 {w : World} {v : Value} {l : List Th} (hl : RdT w v l) (hlen : l.length ≤ 140737488355328) (hit : ∀ x ∈ l, x.it.l.length ≤ 140737488355328) :
    Calls Tryz.prog 27 #[v] w fun e w' => ∃ vo, e = .returned vo ∧ OwnG 67 3 oppC w' w.heap.size vo (opsT l) ∧ Gr w w' := by
  obtain ⟨q, c, rfl⟩ := hl.form
  have HL := Lib.hid hl
  have HI := Lib.hid hit
  have hlenv := fun W ty => len_ths (w := W) (q := q) (n := l.length) (c := c) (ty := ty)
  clear hl hit
  go_enter Tryz.func27, Tryz.ntmps27
  go_wp2
  go_loopw [3, 4] (fun vo iv wr => ∃ k : Nat, iv = .int .i64 k ∧ k ≤ l.length ∧ k ≤ 60 ∧ Hid (OwnG 67 3 oppC wr w.heap.size vo (opsK l k)) ∧ Hid (Gr w wr)) (fun _ iv _ => l.length - (intOf iv).toNat)
  case atStart => exact ⟨0, rfl, Nat.zero_le _, by omega, Lib.hid (OwnG.nil _ _), Lib.hid (Gr.refl _)⟩
  case round =>
    obtain ⟨k, rfl, hk1, hk2, HO, HG⟩ := hrel
    by_cases hkl : k < l.length
    · by_cases hkh : k < 60
      · obtain ⟨bk, of, cp, vl, e1, q1, q2, hvl, c0, c1, c2, c3, c4, c5, c6, c7, c8, c9, c10, c11, c12, c13, c14⟩ := (HL.out.gr HG.out).at hkl
        cases e1
        unfold maxLen at q2
        have HOp := Lib.hid (thing_op l[k] hvl (HI.out _ (List.getElem_mem hkl)))
        have HLn := Lib.hid (opsK_len l k)
        clear hvl
        obtain ⟨vq, vc, vz, rfl⟩ := slice_any HO.out
        go_wp2_with fail
        refine HOp.out.mono ?_
        rintro e w1 ⟨ok, ov, ob, rfl, ho, hg1⟩
        have HG1 := Lib.hid (HG.out.trans hg1)
        have HO1 := Lib.hid (HO.out.gr hg1)
        have HZ1 := Lib.hid (HG.out.trans hg1).size
        clear hg1 c0 c1 c2 c3 c4 c5 c6 c7 c8 c9 c10 c11 c12 c13 c14
        cases ob with
        | false =>
          have HS := Lib.hid (opsK_none hkl ho)
          clear ho
          go_wp2
          go_roundw
          case rel => exact ⟨k + 1, by go_num, by omega, by omega, Lib.hid (by rw [HS.out]; exact HO1.out.gr ((Gr.refl _).alloc _)), Lib.hid (HG1.out.alloc _)⟩
          case measure => simp [intOf]; omega
        | true =>
          have HS := Lib.hid (opsK_some hkl ho)
          clear ho
          go_wp2_with (at_builtin; go_loud (refine app_gen opEl opEnc (N := w.heap.size) (by have := HZ1.out; simp; omega) (by rfl) _ _ (by rfl) (opsK l k) [⟨ok, ov, false⟩] (by rfl) (by rfl) (HO1.out.gr (((Gr.refl _).alloc _).alloc _)) (RdE.one opEnc (w1.alloc (.cells #[.string ok, .string ov, .bool false] 67)) 67 ⟨ok, ov, false⟩ (by simp) rfl) (by have := HLn.out; simp; omega) (by have := HLn.out; simp; omega) ?_); intro v2 w2 hown2 hgb2; have HO2 := Lib.hid hown2; have HG2 := Lib.hid (((HG1.out.alloc _).alloc _).grown hgb2 (fun k hk => (World.ownsRow.lt HO1.out k hk).1)); clear hown2 hgb2)
          go_roundw
          case rel => exact ⟨k + 1, by go_num, by omega, by omega, Lib.hid (by rw [HS.out]; exact HO2.out), HG2⟩
          case measure => simp [intOf]; omega
      · obtain rfl : k = 60 := by omega
        go_wp2
        go_ret
        exact ⟨_, rfl, HO.out, HG.out⟩
    · obtain rfl : k = l.length := by omega
      go_wp2
      go_ret
      refine ⟨_, rfl, ?_, HG.out⟩
      have := HO.out
      unfold opsK at this
      unfold opsT
      rw [List.take_length] at this
      rwa [List.take_of_length_le hk2]
end Go.Proofs.YthgecojbggoniaaGreatDoor
