/- Layer 11: whether a record may be: the document's side. -/
import Derived.Test.YtpnojkgdjkncbaaDoorRecA
import Derived.Test.YtpnojkgdjkncbaaDoorCelT
import Derived.Deep.QuietTactic
import Derived.BigQuiet
import Derived.IntWalk
namespace Go.Proofs.YtpnojkgdjkncbaaDoor
open Go.RowKit
set_option maxRecDepth 100000
set_option linter.unusedVariables false
set_option linter.unusedSimpArgs false

theorem bne_not2 {α : Type} [BEq α] {a b : α} {c : Bool} (h : (a == b) = c) : (a != b) = !c := by rw [bne, h]
theorem gtrB_empty {s : ByteArray} (h : checkE s.size = 0) : gtrB s ⟨#[]⟩ = true := by
  have h1 : s.size ≠ 0 := by
    intro e
    rw [e] at h
    simp [checkE] at h
  have h2 : s.toList.isEmpty = false := by rw [isEmpty_size]; simpa using h1
  have h3 : (⟨#[]⟩ : ByteArray).toList = [] := by rw [ByteArray.toList_eq]
  unfold gtrB
  rw [h3]
  cases hs : s.toList with
  | nil => rw [hs] at h2; simp at h2
  | cons a t => simp [Op.bytesLess]

set_option maxHeartbeats 8000000 in
theorem mayRecord_any {w : World} (x : Rec) {vl : Value} (h : RdW w vl x.l) (hlen : x.l.length ≤ 140737488355328) :
    Calls Tryd.prog 33 #[.agg #[.int .i64 x.id, .int .i64 x.epoch, .int .i64 x.status, .int .i64 x.prio, .string x.anchor, .int .i64 x.sw, .int .i64 x.sl, .int .i64 x.bw, .int .i64 x.bl, vl]] w fun e w' => e = .returned (.bool (recOk x)) ∧ Gr w w' := by
  obtain ⟨q, c, hvl⟩ := h.form
  have HL := Lib.hid h
  subst hvl
  clear h
  have hbx := heap_alloc_new w (.cells #[.int .i64 x.id, .int .i64 x.epoch, .int .i64 x.status, .int .i64 x.prio, .string x.anchor, .int .i64 x.sw, .int .i64 x.sl, .int .i64 x.bw, .int .i64 x.bl, (.slice q x.l.length c)] 47)
  have HBX := Lib.hid hbx
  obtain ⟨k_0, k_1, k_2, k_3, k_4, k_5, k_6, k_7, k_8, k_9, g_0, g_1, g_2, g_3, g_4, g_5, g_6, g_7, g_8, g_9, l_0⟩ := blk10 hbx
  clear hbx
  have HH := Lib.hid (fun w => refHead_any x.id x.epoch x.prio x.anchor w)
  have HU : Hid (recOk x = (preB (rheadB x.id x.epoch x.prio x.anchor && (mayB x.sw x.sl && mayB x.bw x.bl)) x.status x.l.length && wrtsOk ⟨#[]⟩ x.l)) := Lib.hid (by rw [← head_split]; rfl)
  have S1 := Lib.hid (fun w => refStampCheck_ck x.sw x.sl w)
  have S2 := Lib.hid (fun w => refStampCheck_ck x.bw x.bl w)
  have hk1 : stampCk x.sw x.sl = if mayB x.sw x.sl = true then 0 else 9 := rfl
  have hk2 : stampCk x.bw x.bl = if mayB x.bw x.bl = true then 0 else 9 := rfl
  generalize rheadB x.id x.epoch x.prio x.anchor = hd at HH HU
  generalize stampCk x.sw x.sl = s1 at S1 hk1
  generalize stampCk x.bw x.bl = s2 at S2 hk2
  generalize mayB x.sw x.sl = m1 at hk1 HU
  generalize mayB x.bw x.bl = m2 at hk2 HU
  have HP : Hid (preB (hd && (m1 && m2)) x.status x.l.length = ((hd && (m1 && m2)) && !decide (x.status < 1) && !decide (4 < x.status) && !decide ((32 : Int) < (x.l.length : Int)) && ((x.status == 2) || !decide ((0 : Int) < (x.l.length : Int))))) := Lib.hid (by
    unfold preB
    rw [show (!decide (x.status < 1)) = decide (1 ≤ x.status) by rw [Bool.eq_iff_iff]; simp, show (!decide (4 < x.status)) = decide (x.status ≤ 4) by rw [Bool.eq_iff_iff]; simp,
      show (!decide ((32 : Int) < (x.l.length : Int))) = decide (x.l.length ≤ 32) by rw [Bool.eq_iff_iff]; simp; omega, show (!decide ((0 : Int) < (x.l.length : Int))) = (x.l.length == 0) by rw [Bool.eq_iff_iff]; simp])
  cases hd with
  | false =>
    have HR : Hid (recOk x = false) := Lib.hid (by rw [HU.out, HP.out]; simp [*])
    go_enter Tryd.func33, Tryd.ntmps33
    go_wp2_with (first
      | (go_at_call 67; refine (HH.out _).mono ?_; rintro e w1 ⟨rfl, rfl⟩)
      | (go_at_call 59; first
        | ((with_reducible refine (S1.out _).mono ?_); rintro e w2 ⟨rfl, hg2⟩; (have hbx := hg2.blk (HBX.out)); obtain ⟨k_0, k_1, k_2, k_3, k_4, k_5, k_6, k_7, k_8, k_9, g_0, g_1, g_2, g_3, g_4, g_5, g_6, g_7, g_8, g_9, l_0⟩ := blk10 hbx; clear hbx)
        | ((with_reducible refine (S2.out _).mono ?_); rintro e w3 ⟨rfl, hg3⟩; (have hbx := hg3.blk (hg2.blk (HBX.out))); obtain ⟨k_0, k_1, k_2, k_3, k_4, k_5, k_6, k_7, k_8, k_9, g_0, g_1, g_2, g_3, g_4, g_5, g_6, g_7, g_8, g_9, l_0⟩ := blk10 hbx; clear hbx)))
    go_ret
    exact ⟨by rw [HR.out]; rfl, (by repeat (first | (with_reducible exact Gr.refl _) | (with_reducible assumption) | (with_reducible refine Gr.alloc ?_ _) | (with_reducible refine Gr.drew ?_) | (with_reducible refine Gr.drewN ?_ _) | (with_reducible refine Gr.trans ?_ (by assumption)) | (with_reducible refine Gr.setCell ?_ (by first | exact Nat.le_refl _ | omega | (simp; done) | (simp; omega)) _)))⟩
  | true =>
  cases m1 with
  | false =>
    obtain rfl : s1 = 9 := hk1
    have HR : Hid (recOk x = false) := Lib.hid (by rw [HU.out, HP.out]; simp [*])
    go_enter Tryd.func33, Tryd.ntmps33
    go_wp2_with (first
      | (go_at_call 67; refine (HH.out _).mono ?_; rintro e w1 ⟨rfl, rfl⟩)
      | (go_at_call 59; first
        | ((with_reducible refine (S1.out _).mono ?_); rintro e w2 ⟨rfl, hg2⟩; (have hbx := hg2.blk (HBX.out)); obtain ⟨k_0, k_1, k_2, k_3, k_4, k_5, k_6, k_7, k_8, k_9, g_0, g_1, g_2, g_3, g_4, g_5, g_6, g_7, g_8, g_9, l_0⟩ := blk10 hbx; clear hbx)
        | ((with_reducible refine (S2.out _).mono ?_); rintro e w3 ⟨rfl, hg3⟩; (have hbx := hg3.blk (hg2.blk (HBX.out))); obtain ⟨k_0, k_1, k_2, k_3, k_4, k_5, k_6, k_7, k_8, k_9, g_0, g_1, g_2, g_3, g_4, g_5, g_6, g_7, g_8, g_9, l_0⟩ := blk10 hbx; clear hbx)))
    go_ret
    exact ⟨by rw [HR.out]; rfl, (by repeat (first | (with_reducible exact Gr.refl _) | (with_reducible assumption) | (with_reducible refine Gr.alloc ?_ _) | (with_reducible refine Gr.drew ?_) | (with_reducible refine Gr.drewN ?_ _) | (with_reducible refine Gr.trans ?_ (by assumption)) | (with_reducible refine Gr.setCell ?_ (by first | exact Nat.le_refl _ | omega | (simp; done) | (simp; omega)) _)))⟩
  | true =>
  obtain rfl : s1 = 0 := hk1
  cases m2 with
  | false =>
    obtain rfl : s2 = 9 := hk2
    have HR : Hid (recOk x = false) := Lib.hid (by rw [HU.out, HP.out]; simp [*])
    go_enter Tryd.func33, Tryd.ntmps33
    go_wp2_with (first
      | (go_at_call 67; refine (HH.out _).mono ?_; rintro e w1 ⟨rfl, rfl⟩)
      | (go_at_call 59; first
        | ((with_reducible refine (S1.out _).mono ?_); rintro e w2 ⟨rfl, hg2⟩; (have hbx := hg2.blk (HBX.out)); obtain ⟨k_0, k_1, k_2, k_3, k_4, k_5, k_6, k_7, k_8, k_9, g_0, g_1, g_2, g_3, g_4, g_5, g_6, g_7, g_8, g_9, l_0⟩ := blk10 hbx; clear hbx)
        | ((with_reducible refine (S2.out _).mono ?_); rintro e w3 ⟨rfl, hg3⟩; (have hbx := hg3.blk (hg2.blk (HBX.out))); obtain ⟨k_0, k_1, k_2, k_3, k_4, k_5, k_6, k_7, k_8, k_9, g_0, g_1, g_2, g_3, g_4, g_5, g_6, g_7, g_8, g_9, l_0⟩ := blk10 hbx; clear hbx)))
    go_ret
    exact ⟨by rw [HR.out]; rfl, (by repeat (first | (with_reducible exact Gr.refl _) | (with_reducible assumption) | (with_reducible refine Gr.alloc ?_ _) | (with_reducible refine Gr.drew ?_) | (with_reducible refine Gr.drewN ?_ _) | (with_reducible refine Gr.trans ?_ (by assumption)) | (with_reducible refine Gr.setCell ?_ (by first | exact Nat.le_refl _ | omega | (simp; done) | (simp; omega)) _)))⟩
  | true =>
  obtain rfl : s2 = 0 := hk2
  cases t1 : decide (x.status < 1) with
  | true =>
    have HR : Hid (recOk x = false) := Lib.hid (by rw [HU.out, HP.out]; simp [*])
    go_enter Tryd.func33, Tryd.ntmps33
    go_wp2_with (first
      | (go_at_call 67; refine (HH.out _).mono ?_; rintro e w1 ⟨rfl, rfl⟩)
      | (go_at_call 59; first
        | ((with_reducible refine (S1.out _).mono ?_); rintro e w2 ⟨rfl, hg2⟩; (have hbx := hg2.blk (HBX.out)); obtain ⟨k_0, k_1, k_2, k_3, k_4, k_5, k_6, k_7, k_8, k_9, g_0, g_1, g_2, g_3, g_4, g_5, g_6, g_7, g_8, g_9, l_0⟩ := blk10 hbx; clear hbx)
        | ((with_reducible refine (S2.out _).mono ?_); rintro e w3 ⟨rfl, hg3⟩; (have hbx := hg3.blk (hg2.blk (HBX.out))); obtain ⟨k_0, k_1, k_2, k_3, k_4, k_5, k_6, k_7, k_8, k_9, g_0, g_1, g_2, g_3, g_4, g_5, g_6, g_7, g_8, g_9, l_0⟩ := blk10 hbx; clear hbx)))
    go_ret
    exact ⟨by rw [HR.out]; rfl, (by repeat (first | (with_reducible exact Gr.refl _) | (with_reducible assumption) | (with_reducible refine Gr.alloc ?_ _) | (with_reducible refine Gr.drew ?_) | (with_reducible refine Gr.drewN ?_ _) | (with_reducible refine Gr.trans ?_ (by assumption)) | (with_reducible refine Gr.setCell ?_ (by first | exact Nat.le_refl _ | omega | (simp; done) | (simp; omega)) _)))⟩
  | false =>
  cases t4 : decide (4 < x.status) with
  | true =>
    have HR : Hid (recOk x = false) := Lib.hid (by rw [HU.out, HP.out]; simp [*])
    go_enter Tryd.func33, Tryd.ntmps33
    go_wp2_with (first
      | (go_at_call 67; refine (HH.out _).mono ?_; rintro e w1 ⟨rfl, rfl⟩)
      | (go_at_call 59; first
        | ((with_reducible refine (S1.out _).mono ?_); rintro e w2 ⟨rfl, hg2⟩; (have hbx := hg2.blk (HBX.out)); obtain ⟨k_0, k_1, k_2, k_3, k_4, k_5, k_6, k_7, k_8, k_9, g_0, g_1, g_2, g_3, g_4, g_5, g_6, g_7, g_8, g_9, l_0⟩ := blk10 hbx; clear hbx)
        | ((with_reducible refine (S2.out _).mono ?_); rintro e w3 ⟨rfl, hg3⟩; (have hbx := hg3.blk (hg2.blk (HBX.out))); obtain ⟨k_0, k_1, k_2, k_3, k_4, k_5, k_6, k_7, k_8, k_9, g_0, g_1, g_2, g_3, g_4, g_5, g_6, g_7, g_8, g_9, l_0⟩ := blk10 hbx; clear hbx)))
    go_ret
    exact ⟨by rw [HR.out]; rfl, (by repeat (first | (with_reducible exact Gr.refl _) | (with_reducible assumption) | (with_reducible refine Gr.alloc ?_ _) | (with_reducible refine Gr.drew ?_) | (with_reducible refine Gr.drewN ?_ _) | (with_reducible refine Gr.trans ?_ (by assumption)) | (with_reducible refine Gr.setCell ?_ (by first | exact Nat.le_refl _ | omega | (simp; done) | (simp; omega)) _)))⟩
  | false =>
  cases b32 : decide ((32 : Int) < (x.l.length : Int)) with
  | true =>
    have HR : Hid (recOk x = false) := Lib.hid (by rw [HU.out, HP.out]; simp [*])
    go_enter Tryd.func33, Tryd.ntmps33
    go_wp2_with (first
      | (go_at_call 67; refine (HH.out _).mono ?_; rintro e w1 ⟨rfl, rfl⟩)
      | (go_at_call 59; first
        | ((with_reducible refine (S1.out _).mono ?_); rintro e w2 ⟨rfl, hg2⟩; (have hbx := hg2.blk (HBX.out)); obtain ⟨k_0, k_1, k_2, k_3, k_4, k_5, k_6, k_7, k_8, k_9, g_0, g_1, g_2, g_3, g_4, g_5, g_6, g_7, g_8, g_9, l_0⟩ := blk10 hbx; clear hbx)
        | ((with_reducible refine (S2.out _).mono ?_); rintro e w3 ⟨rfl, hg3⟩; (have hbx := hg3.blk (hg2.blk (HBX.out))); obtain ⟨k_0, k_1, k_2, k_3, k_4, k_5, k_6, k_7, k_8, k_9, g_0, g_1, g_2, g_3, g_4, g_5, g_6, g_7, g_8, g_9, l_0⟩ := blk10 hbx; clear hbx)))
    go_ret
    exact ⟨by rw [HR.out]; rfl, (by repeat (first | (with_reducible exact Gr.refl _) | (with_reducible assumption) | (with_reducible refine Gr.alloc ?_ _) | (with_reducible refine Gr.drew ?_) | (with_reducible refine Gr.drewN ?_ _) | (with_reducible refine Gr.trans ?_ (by assumption)) | (with_reducible refine Gr.setCell ?_ (by first | exact Nat.le_refl _ | omega | (simp; done) | (simp; omega)) _)))⟩
  | false =>
  cases z2 : (x.status == 2) with
  | true =>
    have HR : Hid (recOk x = wrtsOk ⟨#[]⟩ x.l) := Lib.hid (by rw [HU.out, HP.out, t1, t4, b32, z2]; rfl)
    have z2n := bne_not2 z2
    go_enter Tryd.func33, Tryd.ntmps33
    go_wp2_with (first
      | (go_at_call 67; refine (HH.out _).mono ?_; rintro e w1 ⟨rfl, rfl⟩)
      | (go_at_call 59; first
        | ((with_reducible refine (S1.out _).mono ?_); rintro e w2 ⟨rfl, hg2⟩; (have hbx := hg2.blk (HBX.out)); obtain ⟨k_0, k_1, k_2, k_3, k_4, k_5, k_6, k_7, k_8, k_9, g_0, g_1, g_2, g_3, g_4, g_5, g_6, g_7, g_8, g_9, l_0⟩ := blk10 hbx; clear hbx)
        | ((with_reducible refine (S2.out _).mono ?_); rintro e w3 ⟨rfl, hg3⟩; (have hbx := hg3.blk (hg2.blk (HBX.out))); obtain ⟨k_0, k_1, k_2, k_3, k_4, k_5, k_6, k_7, k_8, k_9, g_0, g_1, g_2, g_3, g_4, g_5, g_6, g_7, g_8, g_9, l_0⟩ := blk10 hbx; clear hbx)))
    clear k_0 k_1 k_2 k_3 k_4 k_5 k_6 k_7 k_8 k_9 g_0 g_1 g_2 g_3 g_4 g_5 g_6 g_7 g_8 g_9 l_0
    have hg0 : Gr w w3 := (by repeat (first | (with_reducible exact Gr.refl _) | (with_reducible assumption) | (with_reducible refine Gr.alloc ?_ _) | (with_reducible refine Gr.drew ?_) | (with_reducible refine Gr.drewN ?_ _) | (with_reducible refine Gr.trans ?_ (by assumption)) | (with_reducible refine Gr.setCell ?_ (by first | exact Nat.le_refl _ | omega | (simp; done) | (simp; omega)) _)))
    have HB3 := Lib.hid (hg3.blk (hg2.blk HBX.out))
    have HQ1 := Lib.hid (fun (s : ByteArray) (w : World) => (refCheck_any s w).mono fun _ _ h => And.intro h.1 h.2.symm)
    have HQ2 := Lib.hid (fun (n : Int) (w : World) => (refIsId_any n w).mono fun _ _ h => And.intro h.1 h.2.symm)
    go_loopw [3] (fun i wr => ∃ k : Nat, k ≤ x.l.length ∧ i = .int .i64 k ∧ Hid (true = wrtsOk ⟨#[]⟩ (x.l.take k)) ∧ Gr w3 wr) (fun i _ => x.l.length - (intOf i).toNat)
    case atStart => exact ⟨0, Nat.zero_le _, rfl, Lib.hid rfl, (by repeat (first | (with_reducible exact Gr.refl _) | (with_reducible assumption) | (with_reducible refine Gr.alloc ?_ _) | (with_reducible refine Gr.drew ?_) | (with_reducible refine Gr.drewN ?_ _) | (with_reducible refine Gr.trans ?_ (by assumption)) | (with_reducible refine Gr.setCell ?_ (by first | exact Nat.le_refl _ | omega | (simp; done) | (simp; omega)) _)))⟩
    case round =>
      obtain ⟨k, hk, rfl, HI, hg⟩ := hrel
      have hgw : Gr w wr := hg0.trans hg
      have HBr := Lib.hid (hg.blk HB3.out)
      obtain ⟨k_0, k_1, k_2, k_3, k_4, k_5, k_6, k_7, k_8, k_9, g_0, g_1, g_2, g_3, g_4, g_5, g_6, g_7, g_8, g_9, l_0⟩ := blk10 HBr.out
      by_cases hlt : k < x.l.length
      · obtain ⟨bk, of, cp, e1, r2, r3, c1, c2⟩ := (HL.out.gr hgw).at hlt
        injection e1 with e1a e1b e1c
        subst e1a e1c
        have HS : Hid (wrtsOk ⟨#[]⟩ (x.l.take (k + 1)) = wrtOk (lastKey ⟨#[]⟩ (x.l.take k)) x.l[k]) := Lib.hid (by
          rw [List.take_succ_eq_append_getElem hlt, wrtsOk_snoc, ← HI.out, Bool.true_and])
        have HA : Hid (wrtOk (lastKey ⟨#[]⟩ (x.l.take k)) x.l[k] = false → wrtsOk ⟨#[]⟩ x.l = false) := Lib.hid (fun hf => by
          have h7 := HS.out
          rw [hf] at h7
          rw [← List.take_append_drop (k + 1) x.l]
          exact wrtsOk_app _ _ _ h7)
        have hC := heap_alloc_new wr (.cells #[.string x.l[k].key, .int .i64 x.l[k].seq] 92)
        obtain ⟨j_0, j_1, i_0, i_1, n_0⟩ := blk2 hC
        clear hC
        unfold maxLen at r3
        have h9 : x.l.length ≤ 9223372036854775807 := by omega
        cases k with
        | zero =>
          have hlk : lastKey ⟨#[]⟩ (x.l.take 0) = ⟨#[]⟩ := rfl
          rw [hlk] at HS HA
          clear hlk
          generalize x.l[0] = cc at c1 c2 HS HA j_0 j_1
          obtain ⟨ke, sq⟩ := cc
          simp only [Nat.zero_mul, Nat.add_zero] at c1 c2 j_0 j_1
          rcases checkE_cases ke.size with a1 | a1
          · cases a3 : idB sq with
            | false =>
              have HC : Hid (wrtOk ⟨#[]⟩ ⟨ke, sq⟩ = false) := Lib.hid (by unfold wrtOk; simp [a3])
              go_wp2
              go_quiet ((first | (go_at_call 71; exact Calls.quiet_of_same (HQ1.out _ _)) | (go_at_call 72; exact Calls.quiet_of_same (HQ2.out _ _))))
              go_wp2
              go_ret
              exact ⟨by rw [HR.out]; exact ret_bool (by symm; exact HA.out HC.out), hgw.trans (by repeat (first | (with_reducible exact Gr.refl _) | (with_reducible assumption) | (with_reducible refine Gr.alloc ?_ _) | (with_reducible refine Gr.drew ?_) | (with_reducible refine Gr.drewN ?_ _) | (with_reducible refine Gr.trans ?_ (by assumption)) | (with_reducible refine Gr.setCell ?_ (by first | exact Nat.le_refl _ | omega | (simp; done) | (simp; omega)) _)))⟩
            | true =>
              have HC : Hid (wrtOk ⟨#[]⟩ ⟨ke, sq⟩ = true) := Lib.hid (by unfold wrtOk; simp [a1, a3, gtrB_empty a1])
              go_wp2
              go_quiet ((first | (go_at_call 71; exact Calls.quiet_of_same (HQ1.out _ _)) | (go_at_call 72; exact Calls.quiet_of_same (HQ2.out _ _))))
              go_wp2
              go_roundw
              case rel => exact ⟨1, by omega, by go_num, Lib.hid (by rw [HS.out, HC.out]), hg.trans (by repeat (first | (with_reducible exact Gr.refl _) | (with_reducible assumption) | (with_reducible refine Gr.alloc ?_ _) | (with_reducible refine Gr.drew ?_) | (with_reducible refine Gr.drewN ?_ _) | (with_reducible refine Gr.trans ?_ (by assumption)) | (with_reducible refine Gr.setCell ?_ (by first | exact Nat.le_refl _ | omega | (simp; done) | (simp; omega)) _)))⟩
              case measure => simp [intOf]; omega
          · have HC : Hid (wrtOk ⟨#[]⟩ ⟨ke, sq⟩ = false) := Lib.hid (by unfold wrtOk; simp [a1])
            go_wp2
            go_quiet ((first | (go_at_call 71; exact Calls.quiet_of_same (HQ1.out _ _)) | (go_at_call 72; exact Calls.quiet_of_same (HQ2.out _ _))))
            go_wp2
            go_ret
            exact ⟨by rw [HR.out]; exact ret_bool (by symm; exact HA.out HC.out), hgw.trans (by repeat (first | (with_reducible exact Gr.refl _) | (with_reducible assumption) | (with_reducible refine Gr.alloc ?_ _) | (with_reducible refine Gr.drew ?_) | (with_reducible refine Gr.drewN ?_ _) | (with_reducible refine Gr.trans ?_ (by assumption)) | (with_reducible refine Gr.setCell ?_ (by first | exact Nat.le_refl _ | omega | (simp; done) | (simp; omega)) _)))⟩
        | succ j =>
          have hj : j < x.l.length := by omega
          have hlk : lastKey ⟨#[]⟩ (x.l.take (j + 1)) = x.l[j].key := by rw [List.take_succ_eq_append_getElem hj, lastKey_snoc]
          rw [hlk] at HS HA
          clear hlk
          obtain ⟨bk', of', cp', e1', r2', r3', d1, d2⟩ := (HL.out.gr hgw).at hj
          injection e1' with e1a e1b e1c
          injection e1a with e1a
          injection e1a with e1a e1d
          subst e1a e1c e1d
          generalize x.l[j + 1] = cc at c1 c2 HS HA j_0 j_1
          obtain ⟨ke, sq⟩ := cc
          simp only at c1 c2 j_0 j_1
          generalize x.l[j].key = pk at d1 HS HA
          have d1' := ((Gr.refl wr).alloc (.cells #[.string ke, .int .i64 sq] 92)).cell' d1
          have hbk := World.block_lt_of_cell? wr _ d1
          simp only at hbk
          have hwa : IntKind.i64.wrap ((j : Int) + 1 - 1) = (j : Int) := by rw [show (j : Int) + 1 - 1 = j by omega]; exact IntWalk.i64_in _ (by omega)
          have hwb : IntKind.i64.wrap (j : Int) = (j : Int) := IntWalk.i64_in _ (by omega)
          have hG : (Op.bytesLess ke.toList pk.toList || ke.toList == pk.toList) = !gtrB ke pk := by unfold gtrB; rw [Bool.not_not]
          rcases checkE_cases ke.size with a1 | a1
          · cases a3 : idB sq with
            | false =>
              have HC : Hid (wrtOk pk ⟨ke, sq⟩ = false) := Lib.hid (by unfold wrtOk; simp [a3])
              clear hG
              go_wp2
              go_quiet ((first | (go_at_call 71; exact Calls.quiet_of_same (HQ1.out _ _)) | (go_at_call 72; exact Calls.quiet_of_same (HQ2.out _ _))))
              go_wp2
              go_ret
              exact ⟨by rw [HR.out]; exact ret_bool (by symm; exact HA.out HC.out), hgw.trans (by repeat (first | (with_reducible exact Gr.refl _) | (with_reducible assumption) | (with_reducible refine Gr.alloc ?_ _) | (with_reducible refine Gr.drew ?_) | (with_reducible refine Gr.drewN ?_ _) | (with_reducible refine Gr.trans ?_ (by assumption)) | (with_reducible refine Gr.setCell ?_ (by first | exact Nat.le_refl _ | omega | (simp; done) | (simp; omega)) _)))⟩
            | true =>
              cases a2 : gtrB ke pk with
              | false =>
                rw [a2] at hG
                have HC : Hid (wrtOk pk ⟨ke, sq⟩ = false) := Lib.hid (by unfold wrtOk; simp [a2])
                go_wp2
                go_quiet ((first | (go_at_call 71; exact Calls.quiet_of_same (HQ1.out _ _)) | (go_at_call 72; exact Calls.quiet_of_same (HQ2.out _ _))))
                go_wp2
                go_ret
                exact ⟨by rw [HR.out]; exact ret_bool (by symm; exact HA.out HC.out), hgw.trans (by repeat (first | (with_reducible exact Gr.refl _) | (with_reducible assumption) | (with_reducible refine Gr.alloc ?_ _) | (with_reducible refine Gr.drew ?_) | (with_reducible refine Gr.drewN ?_ _) | (with_reducible refine Gr.trans ?_ (by assumption)) | (with_reducible refine Gr.setCell ?_ (by first | exact Nat.le_refl _ | omega | (simp; done) | (simp; omega)) _)))⟩
              | true =>
                rw [a2] at hG
                have HC : Hid (wrtOk pk ⟨ke, sq⟩ = true) := Lib.hid (by unfold wrtOk; simp [a1, a2, a3])
                go_wp2
                go_quiet ((first | (go_at_call 71; exact Calls.quiet_of_same (HQ1.out _ _)) | (go_at_call 72; exact Calls.quiet_of_same (HQ2.out _ _))))
                go_wp2
                go_roundw
                case rel => exact ⟨j + 1 + 1, by omega, by go_num, Lib.hid (by rw [HS.out, HC.out]), hg.trans (by repeat (first | (with_reducible exact Gr.refl _) | (with_reducible assumption) | (with_reducible refine Gr.alloc ?_ _) | (with_reducible refine Gr.drew ?_) | (with_reducible refine Gr.drewN ?_ _) | (with_reducible refine Gr.trans ?_ (by assumption)) | (with_reducible refine Gr.setCell ?_ (by first | exact Nat.le_refl _ | omega | (simp; done) | (simp; omega)) _)))⟩
                case measure => simp [intOf]; omega
          · have HC : Hid (wrtOk pk ⟨ke, sq⟩ = false) := Lib.hid (by unfold wrtOk; simp [a1])
            clear hG
            go_wp2
            go_quiet ((first | (go_at_call 71; exact Calls.quiet_of_same (HQ1.out _ _)) | (go_at_call 72; exact Calls.quiet_of_same (HQ2.out _ _))))
            go_wp2
            go_ret
            exact ⟨by rw [HR.out]; exact ret_bool (by symm; exact HA.out HC.out), hgw.trans (by repeat (first | (with_reducible exact Gr.refl _) | (with_reducible assumption) | (with_reducible refine Gr.alloc ?_ _) | (with_reducible refine Gr.drew ?_) | (with_reducible refine Gr.drewN ?_ _) | (with_reducible refine Gr.trans ?_ (by assumption)) | (with_reducible refine Gr.setCell ?_ (by first | exact Nat.le_refl _ | omega | (simp; done) | (simp; omega)) _)))⟩
      · obtain rfl : k = x.l.length := by omega
        have hI := HI.out
        rw [List.take_length] at hI
        have HI2 := Lib.hid hI
        clear hI
        go_wp2
        go_ret
        exact ⟨by rw [HR.out]; exact ret_bool HI2.out, hgw⟩
  | false =>
  have z2n := bne_not2 z2
  cases z0 : decide ((0 : Int) < (x.l.length : Int)) with
  | true =>
    have HR : Hid (recOk x = false) := Lib.hid (by rw [HU.out, HP.out, t1, t4, b32, z2, z0]; rfl)
    have z0n : 0 < x.l.length := by simpa using z0
    go_enter Tryd.func33, Tryd.ntmps33
    go_wp2_with (first
      | (go_at_call 67; refine (HH.out _).mono ?_; rintro e w1 ⟨rfl, rfl⟩)
      | (go_at_call 59; first
        | ((with_reducible refine (S1.out _).mono ?_); rintro e w2 ⟨rfl, hg2⟩; (have hbx := hg2.blk (HBX.out)); obtain ⟨k_0, k_1, k_2, k_3, k_4, k_5, k_6, k_7, k_8, k_9, g_0, g_1, g_2, g_3, g_4, g_5, g_6, g_7, g_8, g_9, l_0⟩ := blk10 hbx; clear hbx)
        | ((with_reducible refine (S2.out _).mono ?_); rintro e w3 ⟨rfl, hg3⟩; (have hbx := hg3.blk (hg2.blk (HBX.out))); obtain ⟨k_0, k_1, k_2, k_3, k_4, k_5, k_6, k_7, k_8, k_9, g_0, g_1, g_2, g_3, g_4, g_5, g_6, g_7, g_8, g_9, l_0⟩ := blk10 hbx; clear hbx)))
    go_ret
    exact ⟨by rw [HR.out]; rfl, (by repeat (first | (with_reducible exact Gr.refl _) | (with_reducible assumption) | (with_reducible refine Gr.alloc ?_ _) | (with_reducible refine Gr.drew ?_) | (with_reducible refine Gr.drewN ?_ _) | (with_reducible refine Gr.trans ?_ (by assumption)) | (with_reducible refine Gr.setCell ?_ (by first | exact Nat.le_refl _ | omega | (simp; done) | (simp; omega)) _)))⟩
  | false =>
    have z0n : ¬ 0 < x.l.length := by simpa using z0
    have z0m : decide (0 < x.l.length) = false := by simpa using z0n
    have HR : Hid (recOk x = wrtsOk ⟨#[]⟩ x.l) := Lib.hid (by rw [HU.out, HP.out, t1, t4, b32, z2, z0]; rfl)
    go_enter Tryd.func33, Tryd.ntmps33
    go_wp2_with (first
      | (go_at_call 67; refine (HH.out _).mono ?_; rintro e w1 ⟨rfl, rfl⟩)
      | (go_at_call 59; first
        | ((with_reducible refine (S1.out _).mono ?_); rintro e w2 ⟨rfl, hg2⟩; (have hbx := hg2.blk (HBX.out)); obtain ⟨k_0, k_1, k_2, k_3, k_4, k_5, k_6, k_7, k_8, k_9, g_0, g_1, g_2, g_3, g_4, g_5, g_6, g_7, g_8, g_9, l_0⟩ := blk10 hbx; clear hbx)
        | ((with_reducible refine (S2.out _).mono ?_); rintro e w3 ⟨rfl, hg3⟩; (have hbx := hg3.blk (hg2.blk (HBX.out))); obtain ⟨k_0, k_1, k_2, k_3, k_4, k_5, k_6, k_7, k_8, k_9, g_0, g_1, g_2, g_3, g_4, g_5, g_6, g_7, g_8, g_9, l_0⟩ := blk10 hbx; clear hbx)))
    clear k_0 k_1 k_2 k_3 k_4 k_5 k_6 k_7 k_8 k_9 g_0 g_1 g_2 g_3 g_4 g_5 g_6 g_7 g_8 g_9 l_0
    have hg0 : Gr w w3 := (by repeat (first | (with_reducible exact Gr.refl _) | (with_reducible assumption) | (with_reducible refine Gr.alloc ?_ _) | (with_reducible refine Gr.drew ?_) | (with_reducible refine Gr.drewN ?_ _) | (with_reducible refine Gr.trans ?_ (by assumption)) | (with_reducible refine Gr.setCell ?_ (by first | exact Nat.le_refl _ | omega | (simp; done) | (simp; omega)) _)))
    have HB3 := Lib.hid (hg3.blk (hg2.blk HBX.out))
    go_loopw [3] (fun i wr => i = .int .i64 0 ∧ Gr w3 wr) (fun i _ => 0)
    case atStart => exact ⟨rfl, (by repeat (first | (with_reducible exact Gr.refl _) | (with_reducible assumption) | (with_reducible refine Gr.alloc ?_ _) | (with_reducible refine Gr.drew ?_) | (with_reducible refine Gr.drewN ?_ _) | (with_reducible refine Gr.trans ?_ (by assumption)) | (with_reducible refine Gr.setCell ?_ (by first | exact Nat.le_refl _ | omega | (simp; done) | (simp; omega)) _)))⟩
    case round =>
      obtain ⟨rfl, hg⟩ := hrel
      have HBr := Lib.hid (hg.blk HB3.out)
      obtain ⟨k_0, k_1, k_2, k_3, k_4, k_5, k_6, k_7, k_8, k_9, g_0, g_1, g_2, g_3, g_4, g_5, g_6, g_7, g_8, g_9, l_0⟩ := blk10 HBr.out
      go_wp2
      go_ret
      exact ⟨by rw [HR.out]; exact ret_bool (by rw [List.eq_nil_of_length_eq_zero (show x.l.length = 0 by omega)]; rfl), hg0.trans hg⟩
end Go.Proofs.YtpnojkgdjkncbaaDoor
