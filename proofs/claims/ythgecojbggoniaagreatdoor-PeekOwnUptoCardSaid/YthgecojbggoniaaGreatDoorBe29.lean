/- What the rows stand on, part 29: RftD, CelX, SweB. Printed by bundle.py out of my texts. -/
import Derived.Test.YthgecojbggoniaaGreatDoorBe07
import Derived.Test.YthgecojbggoniaaGreatDoorBe16
import Derived.Test.YthgecojbggoniaaGreatDoorBe18
import Derived.Test.YthgecojbggoniaaGreatDoorBe27
import Derived.Test.YthgecojbggoniaaGreatDoorBe28
import Derived.RegionTactic
import Derived.ChangeAlike
import Derived.RangeFuncWrites
import Derived.Laws.EntriesVeiled
namespace Go.Proofs.YthgecojbggoniaaGreatDoor
open Go.RowKit
set_option maxRecDepth 100000
set_option linter.unusedVariables false
set_option linter.unusedSimpArgs false
set_option linter.unnecessarySimpa false

theorem one10 {tb N : Nat} {R : List Rw} {w : World} (h : DocAt tb N R w) (hN : N ≤ w.heap.size) (o : Opp) (hlen : (R.length + 1) * 32 ≤ 140737488355328) :
    Calls Tryz.prog 58 #[.pointer (some ⟨tb, 0, none⟩), .agg #[.string o.key, .string o.val, .bool o.del]] w fun e w' => e = .returned (.tuple #[]) ∧ DocAt tb N (one R o) w' ∧ Fr1 tb w w' := by
  obtain ⟨k, v, d⟩ := o
  cases d
  · exact one10_false h hN k v hlen
  · exact one10_true h hN k v hlen
theorem RdO.fr1 {tb : Nat} {w w' : World} {v : Value} {l : List Opp} (h : RdO w v l) (hf : Fr1 tb w w') (hv : v.ownBlock ≠ some tb) : RdO w' v l :=
  h.blk (fun g o hg _ ho => hf.blk g o (fun e => hv (e ▸ hg)) ho)
theorem apply_room {l : List Opp} {R : List Rw} {k M : Nat} (h : (R.length + l.length + 1) * 32 ≤ M) : ((applyR (l.take k) R).length + 1) * 32 ≤ M := by
  have h1 := len_apply (l.take k) R
  have h2 : (l.take k).length ≤ l.length := by rw [List.length_take]; exact Nat.min_le_right _ _
  exact Nat.le_trans (Nat.mul_le_mul_right 32 (Nat.succ_le_succ (Nat.le_trans h1 (Nat.add_le_add_left h2 _)))) h
set_option maxHeartbeats 4000000 in
theorem apply10 {tb N : Nat} {R : List Rw} {w : World} (h : DocAt tb N R w) (hN : N ≤ w.heap.size) {v : Value} {l : List Opp} (hl : RdO w v l) (hlen : (R.length + l.length + 1) * 32 ≤ 140737488355328) (hv : v.ownBlock ≠ some tb) :
    Calls Tryz.prog 29 #[.pointer (some ⟨tb, 0, none⟩), v] w fun e w' => e = .returned (.int .i64 (applyE l)) ∧ DocAt tb N (afterR l R) w' ∧ Fr1 tb w w' := by
  have HC := Lib.hid (refCheck10 hl (by have := hlen; omega))
  obtain ⟨q, c, rfl⟩ := hl.form
  have HH := Lib.hid h
  have HL := Lib.hid hl
  have HV := Lib.hid hv
  have HRl := Lib.hid hlen
  have hlenv := fun W ty => len_ops (w := W) (q := q) (n := l.length) (c := c) (ty := ty)
  clear h hl hv hlen
  by_cases he : applyE l = 0
  · have HA : Hid (afterR l R = applyR l R) := Lib.hid (by unfold afterR; rw [if_pos he])
    rw [he] at HC
    have HE := Lib.hid he
    clear he
    go_enter Tryz.func29, Tryz.ntmps29
    go_wp2_with (go_at_call 57; refine HC.out.mono ?_; rintro e w1 ⟨rfl, rfl⟩)
    go_loopw [6] (fun iv wr => ∃ k : Nat, iv = .int .i64 k ∧ k ≤ l.length ∧ Hid (DocAt tb N (applyR (l.take k) R) wr) ∧ Hid (Fr1 tb w wr)) (fun iv _ => l.length - (intOf iv).toNat)
    case atStart => exact ⟨0, rfl, Nat.zero_le _, Lib.hid HH.out, Lib.hid (Fr1.gr (Gr.refl _))⟩
    case round =>
      obtain ⟨k, rfl, hk, HT, HF⟩ := hrel
      by_cases hkl : k < l.length
      · have HLr := HL.out.fr1 HF.out HV.out
        obtain ⟨bk, of, cp, e1, q1, q2, c0, c1, c2⟩ := HLr.at hkl
        cases e1
        have HS1 : Hid (applyR (l.take (k + 1)) R = one (applyR (l.take k) R) l[k]) := Lib.hid (by unfold applyR; rw [List.take_succ_eq_append_getElem hkl, List.foldl_append]; rfl)
        have hln := apply_room (k := k) HRl.out
        have HO := Lib.hid (one10 HT.out (Nat.le_trans hN HF.out.size) l[k] hln)
        clear hln
        unfold maxLen at q2
        clear HLr
        go_wp2_with fail
        refine HO.out.mono ?_
        rintro e w1 ⟨rfl, hd, hf⟩
        have HD := Lib.hid hd
        have HF1 := Lib.hid hf
        clear hd hf
        go_wp2
        go_roundw
        case rel => exact ⟨k + 1, by go_num, by omega, Lib.hid (by rw [HS1.out]; exact HD.out), Lib.hid (HF.out.trans HF1.out)⟩
        case measure => simp [intOf]; omega
      · obtain rfl : k = l.length := by omega
        go_wp2
        go_ret
        refine ⟨by rw [HE.out]; rfl, ?_, HF.out⟩
        have := HT.out
        rw [List.take_length] at this
        rw [HA.out]
        exact this
  · have HA : Hid (afterR l R = R) := Lib.hid (by unfold afterR; rw [if_neg he])
    go_enter Tryz.func29, Tryz.ntmps29
    go_wp2_with (go_at_call 57; refine HC.out.mono ?_; rintro e w1 ⟨rfl, rfl⟩)
    go_ret
    exact ⟨rfl, by rw [HA.out]; exact HH.out, Fr1.gr (Gr.refl _)⟩
end Go.Proofs.YthgecojbggoniaaGreatDoor
namespace Go.Proofs.YthgecojbggoniaaGreatDoor
open Go.RowKit
set_option maxRecDepth 100000
set_option linter.unusedVariables false
set_option linter.unusedSimpArgs false

/-- ReadVersion -/
theorem takeDown_cases (l : List UInt8) : (takeDownL l).2.2.2 = 0 ∨ ((takeDownL l).2.2.2 = 3 ∨ (takeDownL l).2.2.2 = 4) := by
  unfold takeDownL
  split
  · simp
  · split <;> simp
set_option maxHeartbeats 2000000 in
theorem readVersion_any (s : ByteArray) (hs : s.size ≤ 140737488355328) (w : World) : Calls Tryz.prog 91 #[.string s] w fun e w' =>
    e = .returned (.tuple #[.string ⟨(readVersionR s.data.toList).1.toArray⟩, .agg #[.int .i64 (readVersionR s.data.toList).2.1, .int .i64 (readVersionR s.data.toList).2.2.1], .int .i64 (readVersionR s.data.toList).2.2.2]) ∧ Gr w w' := by
  have HT := Lib.hid (fun w => whose_any s hs 118 w)
  have HU : Hid (readVersionR s.data.toList = if (whoseR s.data.toList 118).2.2 = true ∧ (takeDownL (whoseR s.data.toList 118).2.1).2.2.2 = 0 ∧ (takeDownL (whoseR s.data.toList 118).2.1).2.2.1 = [] then ((whoseR s.data.toList 118).1, (takeDownL (whoseR s.data.toList 118).2.1).1, (takeDownL (whoseR s.data.toList 118).2.1).2.1, 0) else ([], 0, 0, 4)) := Lib.hid rfl
  generalize (whoseR s.data.toList 118) = r at HT HU
  obtain ⟨k, rest, ok⟩ := r
  have HD := Lib.hid (fun w => takeDown_any ⟨rest.toArray⟩ w)
  rw [show (⟨rest.toArray⟩ : ByteArray).data.toList = rest by simp] at HD
  have HC := Lib.hid (takeDown_cases rest)
  replace HU : Hid (readVersionR s.data.toList = if ok = true ∧ (takeDownL rest).2.2.2 = 0 ∧ (takeDownL rest).2.2.1 = [] then (k, (takeDownL rest).1, (takeDownL rest).2.1, 0) else ([], 0, 0, 4)) := HU
  generalize takeDownL rest = d at HD HU HC
  obtain ⟨a, b, more, e⟩ := d
  have hk0 : (w.alloc (.cells #[.int .i64 0, .int .i64 0] 26)).heap[w.heap.size]? = some (.cells #[.int .i64 0, .int .i64 0] 26) := heap_alloc_new _ _
  have HK0 := Lib.hid hk0
  clear hk0
  cases ok with
  | false =>
    clear HC
    go_enter Tryz.func91, Tryz.ntmps91
    go_wp2_with (first
      | (go_at_call 115; refine (HT.out _).mono ?_; rintro e w1 ⟨rfl, hg1⟩)
      | (go_at_call 116; refine (HD.out _).mono ?_; rintro e w2 ⟨rfl, hg2⟩; (have hb := hg2.blk (hg1.blk HK0.out)); (have HB := Lib.hid hb); obtain ⟨k_0, k_1, g_0, g_1, l_0⟩ := blk2 hb; clear hb))
    have hgF := ((Gr.refl w).alloc (.cells #[.int .i64 0, .int .i64 0] 26)).trans (hg1.trans hg2)
    obtain ⟨q0, q1, _, _, _⟩ := blk2 (by simpa using heap_set (heap_set (heap_set (heap_set HB.out 0 (.int .i64 a)) 1 (.int .i64 b)) 0 (.int .i64 0)) 1 (.int .i64 0))
    exact bodyPost_ret (v := .tuple #[.string ⟨#[]⟩, .agg #[.int .i64 0, .int .i64 0], .int .i64 4]) (by simp [results, Tryz.results91, go_sem, q0, q1]) rfl ⟨by rw [HU.out]; simp, (by repeat (first | (with_reducible exact Gr.refl _) | (with_reducible assumption) | (with_reducible refine Gr.alloc ?_ _) | (with_reducible refine Gr.drew ?_) | (with_reducible refine Gr.drewN ?_ _) | (with_reducible refine Gr.trans ?_ (by assumption)) | (with_reducible refine Gr.setCell ?_ (by first | exact Nat.le_refl _ | omega | (simp; done) | (simp; omega)) _)))⟩
  | true =>
    rcases HC.out with he | he | he
    · simp only at he
      subst he
      cases more with
      | nil =>
        clear HC
        go_enter Tryz.func91, Tryz.ntmps91
        go_wp2_with (first
          | (go_at_call 115; refine (HT.out _).mono ?_; rintro e w1 ⟨rfl, hg1⟩)
          | (go_at_call 116; refine (HD.out _).mono ?_; rintro e w2 ⟨rfl, hg2⟩; (have hb := hg2.blk (hg1.blk HK0.out)); (have HB := Lib.hid hb); obtain ⟨k_0, k_1, g_0, g_1, l_0⟩ := blk2 hb; clear hb))
        have hgF := ((Gr.refl w).alloc (.cells #[.int .i64 0, .int .i64 0] 26)).trans (hg1.trans hg2)
        obtain ⟨q0, q1, qf0, qf1, ql⟩ := blk2 (by simpa using heap_set (heap_set HB.out 0 (.int .i64 a)) 1 (.int .i64 b))
        go_region
        all_goals go_wp2
        all_goals
          obtain ⟨z0, z1, _, _, _⟩ := blk2 (by simpa using heap_set (heap_set (heap_set (heap_set HB.out 0 (.int .i64 a)) 1 (.int .i64 b)) 0 (.int .i64 a)) 1 (.int .i64 b))
          exact bodyPost_ret (v := .tuple #[.string ⟨k.toArray⟩, .agg #[.int .i64 a, .int .i64 b], .int .i64 0]) (by simp [results, Tryz.results91, go_sem, z0, z1]) rfl ⟨by rw [HU.out]; simp, (by repeat (first | (with_reducible exact Gr.refl _) | (with_reducible assumption) | (with_reducible refine Gr.alloc ?_ _) | (with_reducible refine Gr.drew ?_) | (with_reducible refine Gr.drewN ?_ _) | (with_reducible refine Gr.trans ?_ (by assumption)) | (with_reducible refine Gr.setCell ?_ (by first | exact Nat.le_refl _ | omega | (simp; done) | (simp; omega)) _)))⟩
      | cons x t =>
        have hne : ((⟨(x :: t).toArray⟩ : ByteArray) != ⟨#[]⟩) = true := (ba_bne (x :: t) []).trans (by simp)
        have hem : (⟨(x :: t).toArray⟩ : ByteArray).toList.isEmpty = false := by rw [isEmpty_size, ba_len]; simp
        clear HC
        go_enter Tryz.func91, Tryz.ntmps91
        go_wp2_with (first
          | (go_at_call 115; refine (HT.out _).mono ?_; rintro e w1 ⟨rfl, hg1⟩)
          | (go_at_call 116; refine (HD.out _).mono ?_; rintro e w2 ⟨rfl, hg2⟩; (have hb := hg2.blk (hg1.blk HK0.out)); (have HB := Lib.hid hb); obtain ⟨k_0, k_1, g_0, g_1, l_0⟩ := blk2 hb; clear hb))
        have hgF := ((Gr.refl w).alloc (.cells #[.int .i64 0, .int .i64 0] 26)).trans (hg1.trans hg2)
        obtain ⟨q0, q1, _, _, _⟩ := blk2 (by simpa using heap_set (heap_set (heap_set (heap_set HB.out 0 (.int .i64 a)) 1 (.int .i64 b)) 0 (.int .i64 0)) 1 (.int .i64 0))
        exact bodyPost_ret (v := .tuple #[.string ⟨#[]⟩, .agg #[.int .i64 0, .int .i64 0], .int .i64 4]) (by simp [results, Tryz.results91, go_sem, q0, q1]) rfl ⟨by rw [HU.out]; simp, (by repeat (first | (with_reducible exact Gr.refl _) | (with_reducible assumption) | (with_reducible refine Gr.alloc ?_ _) | (with_reducible refine Gr.drew ?_) | (with_reducible refine Gr.drewN ?_ _) | (with_reducible refine Gr.trans ?_ (by assumption)) | (with_reducible refine Gr.setCell ?_ (by first | exact Nat.le_refl _ | omega | (simp; done) | (simp; omega)) _)))⟩
    · simp only at he
      subst he
      clear HC
      go_enter Tryz.func91, Tryz.ntmps91
      go_wp2_with (first
        | (go_at_call 115; refine (HT.out _).mono ?_; rintro e w1 ⟨rfl, hg1⟩)
        | (go_at_call 116; refine (HD.out _).mono ?_; rintro e w2 ⟨rfl, hg2⟩; (have hb := hg2.blk (hg1.blk HK0.out)); (have HB := Lib.hid hb); obtain ⟨k_0, k_1, g_0, g_1, l_0⟩ := blk2 hb; clear hb))
      have hgF := ((Gr.refl w).alloc (.cells #[.int .i64 0, .int .i64 0] 26)).trans (hg1.trans hg2)
      obtain ⟨q0, q1, _, _, _⟩ := blk2 (by simpa using heap_set (heap_set (heap_set (heap_set HB.out 0 (.int .i64 a)) 1 (.int .i64 b)) 0 (.int .i64 0)) 1 (.int .i64 0))
      exact bodyPost_ret (v := .tuple #[.string ⟨#[]⟩, .agg #[.int .i64 0, .int .i64 0], .int .i64 4]) (by simp [results, Tryz.results91, go_sem, q0, q1]) rfl ⟨by rw [HU.out]; simp, (by repeat (first | (with_reducible exact Gr.refl _) | (with_reducible assumption) | (with_reducible refine Gr.alloc ?_ _) | (with_reducible refine Gr.drew ?_) | (with_reducible refine Gr.drewN ?_ _) | (with_reducible refine Gr.trans ?_ (by assumption)) | (with_reducible refine Gr.setCell ?_ (by first | exact Nat.le_refl _ | omega | (simp; done) | (simp; omega)) _)))⟩
    · simp only at he
      subst he
      clear HC
      go_enter Tryz.func91, Tryz.ntmps91
      go_wp2_with (first
        | (go_at_call 115; refine (HT.out _).mono ?_; rintro e w1 ⟨rfl, hg1⟩)
        | (go_at_call 116; refine (HD.out _).mono ?_; rintro e w2 ⟨rfl, hg2⟩; (have hb := hg2.blk (hg1.blk HK0.out)); (have HB := Lib.hid hb); obtain ⟨k_0, k_1, g_0, g_1, l_0⟩ := blk2 hb; clear hb))
      have hgF := ((Gr.refl w).alloc (.cells #[.int .i64 0, .int .i64 0] 26)).trans (hg1.trans hg2)
      obtain ⟨q0, q1, _, _, _⟩ := blk2 (by simpa using heap_set (heap_set (heap_set (heap_set HB.out 0 (.int .i64 a)) 1 (.int .i64 b)) 0 (.int .i64 0)) 1 (.int .i64 0))
      exact bodyPost_ret (v := .tuple #[.string ⟨#[]⟩, .agg #[.int .i64 0, .int .i64 0], .int .i64 4]) (by simp [results, Tryz.results91, go_sem, q0, q1]) rfl ⟨by rw [HU.out]; simp, (by repeat (first | (with_reducible exact Gr.refl _) | (with_reducible assumption) | (with_reducible refine Gr.alloc ?_ _) | (with_reducible refine Gr.drew ?_) | (with_reducible refine Gr.drewN ?_ _) | (with_reducible refine Gr.trans ?_ (by assumption)) | (with_reducible refine Gr.setCell ?_ (by first | exact Nat.le_refl _ | omega | (simp; done) | (simp; omega)) _)))⟩
end Go.Proofs.YthgecojbggoniaaGreatDoor
namespace Go.Proofs.YthgecojbggoniaaGreatDoor
open Go.RowKit Go.Shelf
set_option maxRecDepth 100000
set_option linter.unusedVariables false
set_option linter.unusedSimpArgs false
set_option linter.unnecessarySimpa false
attribute [local go_sem] Oper.semAt_some

theorem opEl : ElTy 80 67 3 (.agg #[.string ⟨#[]⟩, .string ⟨#[]⟩, .bool false]) 40 := ⟨Tryz.underlying80, by kernel_rfl, rfl, by decide⟩
theorem opEnc : Enc oppC 3 := ⟨fun _ => rfl, fun a u hu => by
  simp only [oppC, List.mem_cons, List.mem_nil_iff, or_false] at hu
  rcases hu with rfl | rfl | rfl <;> rfl⟩
theorem grown_cells {W W' : World} {row : Option Nat} (hg : W.grownBy W' row) (hr : ∀ r, row = some r → ∃ o : Obj, W.heap[r]? = some o ∧ o.isCells = false) {b : Nat} {cs : Array Value} {t : TypeId} {fz : Nat × Nat} (h : W.heap[b]? = some (.cells cs t fz)) : W'.heap[b]? = some (.cells cs t fz) := by
  rw [hg.block b (Array.getElem?_eq_some_iff.1 h).1 (fun e => ?_), h]
  obtain ⟨o, h1, h2⟩ := hr b e.symm
  rw [h] at h1
  cases h1
  cases h2
theorem TabAt.grown {tb : Nat} {S : Nat → Prop} {R : List Rw} {W W' : World} {row : Option Nat} (h : TabAt tb S R W) (hg : W.grownBy W' row) (hr : ∀ r, row = some r → ∃ o : Obj, W.heap[r]? = some o ∧ o.isCells = false) : TabAt tb S R W' := by
  obtain ⟨lb, H, bx, L, x, seed, h1, h2, h3, h4, h5, h6⟩ := h.ex
  refine ⟨lb, H, bx, L, x, seed, grown_cells hg hr h1, grown_cells hg hr h2, { h3 with list := grown_cells hg hr h3.list, chain := chainF_blk h3.chain (fun n hn o ho => ?_) }, h4, h5, h6⟩
  obtain ⟨cs, hcs⟩ := chain_blk h3.chain n hn
  rw [hcs] at ho
  cases ho
  exact grown_cells hg hr hcs
theorem ItAt.grown {tb b1 b2 b3 : Nat} {S : Nat → Prop} {R : List Rw} {lo hi : ByteArray} {W W' : World} {row : Option Nat} (h : ItAt tb b1 b2 b3 S R lo hi W) (hg : W.grownBy W' row) (hr : ∀ r, row = some r → ∃ o : Obj, W.heap[r]? = some o ∧ o.isCells = false) : ItAt tb b1 b2 b3 S R lo hi W' :=
  ⟨h.tab.grown hg hr, grown_cells hg hr h.t1, grown_cells hg hr h.t2, grown_cells hg hr h.t3⟩
theorem keeps_gr {B : Nat} {W W' : World} (hg : Gr W W') : KeepsFrom B W W' := (⟨hg.size, fun k o h _ => hg.blk h⟩ : KeepsOthers W W').from B
end Go.Proofs.YthgecojbggoniaaGreatDoor
