/- Layer 11: whether a record may be: the program's side. -/
import Derived.Test.YtpnojkgdjkncbaaDoorCelO
import Derived.Test.YtpnojkgdjkncbaaDoorCelU
import Derived.Test.YtpnojkgdjkncbaaDoorPlainA
namespace Go.Proofs.YtpnojkgdjkncbaaDoor
open Go.RowKit
set_option maxRecDepth 100000
set_option linter.unusedVariables false
set_option linter.unusedSimpArgs false

def RW (_ : World) (ds : List Value) (c : Wrt) : Prop := ds = wrtCells c
abbrev RdW (w : World) (v : Value) (l : List Wrt) : Prop := RdR RW 2 w v l
theorem RdW.gr {a b : World} {v : Value} {l : List Wrt} (h : RdW a v l) (hg : Gr a b) : RdW b v l := RdR.gr (fun _ _ _ _ _ h => h) hg h
theorem RdW.at {w : World} {v : Value} {l : List Wrt} (h : RdW w v l) {k : Nat} (hk : k < l.length) : ∃ blk off cap, v = .slice (some ⟨blk, off, none⟩) l.length cap ∧ l.length ≤ cap ∧ cap ≤ maxLen ∧
    w.cell? ⟨blk, off + k * 2, none⟩ = some (.string l[k].key) ∧ w.cell? ⟨blk, off + k * 2 + 1, none⟩ = some (.int .i64 l[k].seq) := by
  rcases h with ⟨rfl, _⟩ | ⟨blk, off, cap, h1, h2, h3, h4, h5, h6⟩
  · simp at hk
  · obtain ⟨ds, d1, d2, d3⟩ := h6 k hk
    unfold RW at d3
    subst d3
    have a := d2 0 (by simp [wrtCells])
    have b := d2 1 (by simp [wrtCells])
    simp [wrtCells] at a b
    exact ⟨blk, off, cap, h1, h3, h4, a, by rw [Nat.add_assoc]; exact b⟩

set_option maxHeartbeats 8000000 in
theorem checkRecord_any {w : World} (x : Rec) {vl : Value} (h : RdW w vl x.l) (hlen : x.l.length ≤ 140737488355328) :
    Calls Tryd.prog 32 #[.agg #[.int .i64 x.id, .int .i64 x.epoch, .int .i64 x.status, .int .i64 x.prio, .string x.anchor, .int .i64 x.sw, .int .i64 x.sl, .int .i64 x.bw, .int .i64 x.bl, vl]] w fun e w' => e = .returned (.int .i64 (okE (recOk x))) ∧ Gr w w' := by
  obtain ⟨q, c, hvl⟩ := h.form
  have HL := Lib.hid h
  subst hvl
  clear h
  have hbx := heap_alloc_new w (.cells #[.int .i64 x.id, .int .i64 x.epoch, .int .i64 x.status, .int .i64 x.prio, .string x.anchor, .int .i64 x.sw, .int .i64 x.sl, .int .i64 x.bw, .int .i64 x.bl, (.slice q x.l.length c)] 47)
  have HBX := Lib.hid hbx
  obtain ⟨k_0, k_1, k_2, k_3, k_4, k_5, k_6, k_7, k_8, k_9, g_0, g_1, g_2, g_3, g_4, g_5, g_6, g_7, g_8, g_9, l_0⟩ := blk10 hbx
  clear hbx
  have HH := Lib.hid (fun (w : World) (bl c : Nat) (hbl : w.heap[bl]? = some (.cells (stampsCells [(x.sw, x.sl), (x.bw, x.bl)]).toArray 23)) => head_any x.id x.epoch x.prio x.anchor bl c [(x.sw, x.sl), (x.bw, x.bl)] hbl (by simp))
  have HU : Hid (recOk x = (preB (headB x.id x.epoch x.prio x.anchor [(x.sw, x.sl), (x.bw, x.bl)]) x.status x.l.length && wrtsOk ⟨#[]⟩ x.l)) := Lib.hid rfl
  generalize headB x.id x.epoch x.prio x.anchor [(x.sw, x.sl), (x.bw, x.bl)] = hd at HH HU
  have HP : Hid (preB hd x.status x.l.length = (hd && decide (1 ≤ x.status) && decide (x.status ≤ 4) && decide (x.l.length ≤ 32) && ((x.status == 2) || (x.l.length == 0)))) := Lib.hid rfl
  have e32 : decide ((x.l.length : Int) ≤ 32) = decide (x.l.length ≤ 32) := by rw [decide_eq_decide]; omega
  have e0 : ((x.l.length : Int) == 0) = (x.l.length == 0) := by rw [Bool.eq_iff_iff]; simp
  cases hd with
  | false =>
    have HR : Hid (recOk x = false) := Lib.hid (by rw [HU.out, HP.out]; simp [*])
    go_enter Tryd.func32, Tryd.ntmps32
    go_wp2_with (go_at_call 66; refine (HH.out _ _ _ (by exact heap_newn (by first | rfl | (simp; done)))).mono ?_; rintro e w1 ⟨rfl, hg1⟩; (have hbx := hg1.blk (heap_alloc_mono HBX.out _)); obtain ⟨k_0, k_1, k_2, k_3, k_4, k_5, k_6, k_7, k_8, k_9, g_0, g_1, g_2, g_3, g_4, g_5, g_6, g_7, g_8, g_9, l_0⟩ := blk10 hbx; clear hbx)
    clear k_0 k_1 k_2 k_3 k_4 k_5 k_6 k_7 k_8 k_9 g_0 g_1 g_2 g_3 g_4 g_5 g_6 g_7 g_8 g_9 l_0
    go_loopw [3, 52] (fun o i wr => ∃ k : Nat, k ≤ x.l.length ∧ i = .int .i64 k ∧ o = .bool false ∧ Gr w wr) (fun _ i _ => x.l.length - (intOf i).toNat)
    case atStart => exact ⟨0, Nat.zero_le _, rfl, rfl, (by repeat (first | (with_reducible exact Gr.refl _) | (with_reducible assumption) | (with_reducible refine Gr.alloc ?_ _) | (with_reducible refine Gr.drew ?_) | (with_reducible refine Gr.drewN ?_ _) | (with_reducible refine Gr.trans ?_ (by assumption)) | (with_reducible refine Gr.setCell ?_ (by first | exact Nat.le_refl _ | omega | (simp; done) | (simp; omega)) _)))⟩
    case round =>
      obtain ⟨k, hk, rfl, rfl, hg⟩ := hrel
      by_cases hlt : k < x.l.length
      · obtain ⟨bk, of, cp, e1, r2, r3, c1, c2⟩ := (HL.out.gr hg).at hlt
        injection e1 with e1a e1b e1c
        subst e1a e1c
        go_wp2
        go_roundw
        case rel => exact ⟨k + 1, by omega, by go_num, rfl, (by repeat (first | (with_reducible exact Gr.refl _) | (with_reducible assumption) | (with_reducible refine Gr.alloc ?_ _) | (with_reducible refine Gr.drew ?_) | (with_reducible refine Gr.drewN ?_ _) | (with_reducible refine Gr.trans ?_ (by assumption)) | (with_reducible refine Gr.setCell ?_ (by first | exact Nat.le_refl _ | omega | (simp; done) | (simp; omega)) _)))⟩
        case measure => simp [intOf]; omega
      · obtain rfl : k = x.l.length := by omega
        go_wp2_with (go_at_call 55; refine (may_any2 _ _).mono ?_; rintro e w2 ⟨rfl, rfl⟩)
        go_ret
        exact ⟨by rw [HR.out]; rfl, hg⟩
  | true =>
  cases s1 : decide (1 ≤ x.status) with
  | false =>
    have HR : Hid (recOk x = false) := Lib.hid (by rw [HU.out, HP.out]; simp [*])
    go_enter Tryd.func32, Tryd.ntmps32
    go_wp2_with (go_at_call 66; refine (HH.out _ _ _ (by exact heap_newn (by first | rfl | (simp; done)))).mono ?_; rintro e w1 ⟨rfl, hg1⟩; (have hbx := hg1.blk (heap_alloc_mono HBX.out _)); obtain ⟨k_0, k_1, k_2, k_3, k_4, k_5, k_6, k_7, k_8, k_9, g_0, g_1, g_2, g_3, g_4, g_5, g_6, g_7, g_8, g_9, l_0⟩ := blk10 hbx; clear hbx)
    clear k_0 k_1 k_2 k_3 k_4 k_5 k_6 k_7 k_8 k_9 g_0 g_1 g_2 g_3 g_4 g_5 g_6 g_7 g_8 g_9 l_0
    go_loopw [3, 52] (fun o i wr => ∃ k : Nat, k ≤ x.l.length ∧ i = .int .i64 k ∧ o = .bool false ∧ Gr w wr) (fun _ i _ => x.l.length - (intOf i).toNat)
    case atStart => exact ⟨0, Nat.zero_le _, rfl, rfl, (by repeat (first | (with_reducible exact Gr.refl _) | (with_reducible assumption) | (with_reducible refine Gr.alloc ?_ _) | (with_reducible refine Gr.drew ?_) | (with_reducible refine Gr.drewN ?_ _) | (with_reducible refine Gr.trans ?_ (by assumption)) | (with_reducible refine Gr.setCell ?_ (by first | exact Nat.le_refl _ | omega | (simp; done) | (simp; omega)) _)))⟩
    case round =>
      obtain ⟨k, hk, rfl, rfl, hg⟩ := hrel
      by_cases hlt : k < x.l.length
      · obtain ⟨bk, of, cp, e1, r2, r3, c1, c2⟩ := (HL.out.gr hg).at hlt
        injection e1 with e1a e1b e1c
        subst e1a e1c
        go_wp2
        go_roundw
        case rel => exact ⟨k + 1, by omega, by go_num, rfl, (by repeat (first | (with_reducible exact Gr.refl _) | (with_reducible assumption) | (with_reducible refine Gr.alloc ?_ _) | (with_reducible refine Gr.drew ?_) | (with_reducible refine Gr.drewN ?_ _) | (with_reducible refine Gr.trans ?_ (by assumption)) | (with_reducible refine Gr.setCell ?_ (by first | exact Nat.le_refl _ | omega | (simp; done) | (simp; omega)) _)))⟩
        case measure => simp [intOf]; omega
      · obtain rfl : k = x.l.length := by omega
        go_wp2_with (go_at_call 55; refine (may_any2 _ _).mono ?_; rintro e w2 ⟨rfl, rfl⟩)
        go_ret
        exact ⟨by rw [HR.out]; rfl, hg⟩
  | true =>
  cases s4 : decide (x.status ≤ 4) with
  | false =>
    have HR : Hid (recOk x = false) := Lib.hid (by rw [HU.out, HP.out]; simp [*])
    go_enter Tryd.func32, Tryd.ntmps32
    go_wp2_with (go_at_call 66; refine (HH.out _ _ _ (by exact heap_newn (by first | rfl | (simp; done)))).mono ?_; rintro e w1 ⟨rfl, hg1⟩; (have hbx := hg1.blk (heap_alloc_mono HBX.out _)); obtain ⟨k_0, k_1, k_2, k_3, k_4, k_5, k_6, k_7, k_8, k_9, g_0, g_1, g_2, g_3, g_4, g_5, g_6, g_7, g_8, g_9, l_0⟩ := blk10 hbx; clear hbx)
    clear k_0 k_1 k_2 k_3 k_4 k_5 k_6 k_7 k_8 k_9 g_0 g_1 g_2 g_3 g_4 g_5 g_6 g_7 g_8 g_9 l_0
    go_loopw [3, 52] (fun o i wr => ∃ k : Nat, k ≤ x.l.length ∧ i = .int .i64 k ∧ o = .bool false ∧ Gr w wr) (fun _ i _ => x.l.length - (intOf i).toNat)
    case atStart => exact ⟨0, Nat.zero_le _, rfl, rfl, (by repeat (first | (with_reducible exact Gr.refl _) | (with_reducible assumption) | (with_reducible refine Gr.alloc ?_ _) | (with_reducible refine Gr.drew ?_) | (with_reducible refine Gr.drewN ?_ _) | (with_reducible refine Gr.trans ?_ (by assumption)) | (with_reducible refine Gr.setCell ?_ (by first | exact Nat.le_refl _ | omega | (simp; done) | (simp; omega)) _)))⟩
    case round =>
      obtain ⟨k, hk, rfl, rfl, hg⟩ := hrel
      by_cases hlt : k < x.l.length
      · obtain ⟨bk, of, cp, e1, r2, r3, c1, c2⟩ := (HL.out.gr hg).at hlt
        injection e1 with e1a e1b e1c
        subst e1a e1c
        go_wp2
        go_roundw
        case rel => exact ⟨k + 1, by omega, by go_num, rfl, (by repeat (first | (with_reducible exact Gr.refl _) | (with_reducible assumption) | (with_reducible refine Gr.alloc ?_ _) | (with_reducible refine Gr.drew ?_) | (with_reducible refine Gr.drewN ?_ _) | (with_reducible refine Gr.trans ?_ (by assumption)) | (with_reducible refine Gr.setCell ?_ (by first | exact Nat.le_refl _ | omega | (simp; done) | (simp; omega)) _)))⟩
        case measure => simp [intOf]; omega
      · obtain rfl : k = x.l.length := by omega
        go_wp2_with (go_at_call 55; refine (may_any2 _ _).mono ?_; rintro e w2 ⟨rfl, rfl⟩)
        go_ret
        exact ⟨by rw [HR.out]; rfl, hg⟩
  | true =>
  cases b32 : decide (x.l.length ≤ 32) with
  | false =>
    rw [b32] at e32
    have HR : Hid (recOk x = false) := Lib.hid (by rw [HU.out, HP.out]; simp [*])
    go_enter Tryd.func32, Tryd.ntmps32
    go_wp2_with (go_at_call 66; refine (HH.out _ _ _ (by exact heap_newn (by first | rfl | (simp; done)))).mono ?_; rintro e w1 ⟨rfl, hg1⟩; (have hbx := hg1.blk (heap_alloc_mono HBX.out _)); obtain ⟨k_0, k_1, k_2, k_3, k_4, k_5, k_6, k_7, k_8, k_9, g_0, g_1, g_2, g_3, g_4, g_5, g_6, g_7, g_8, g_9, l_0⟩ := blk10 hbx; clear hbx)
    clear k_0 k_1 k_2 k_3 k_4 k_5 k_6 k_7 k_8 k_9 g_0 g_1 g_2 g_3 g_4 g_5 g_6 g_7 g_8 g_9 l_0
    go_loopw [3, 52] (fun o i wr => ∃ k : Nat, k ≤ x.l.length ∧ i = .int .i64 k ∧ o = .bool false ∧ Gr w wr) (fun _ i _ => x.l.length - (intOf i).toNat)
    case atStart => exact ⟨0, Nat.zero_le _, rfl, rfl, (by repeat (first | (with_reducible exact Gr.refl _) | (with_reducible assumption) | (with_reducible refine Gr.alloc ?_ _) | (with_reducible refine Gr.drew ?_) | (with_reducible refine Gr.drewN ?_ _) | (with_reducible refine Gr.trans ?_ (by assumption)) | (with_reducible refine Gr.setCell ?_ (by first | exact Nat.le_refl _ | omega | (simp; done) | (simp; omega)) _)))⟩
    case round =>
      obtain ⟨k, hk, rfl, rfl, hg⟩ := hrel
      by_cases hlt : k < x.l.length
      · obtain ⟨bk, of, cp, e1, r2, r3, c1, c2⟩ := (HL.out.gr hg).at hlt
        injection e1 with e1a e1b e1c
        subst e1a e1c
        go_wp2
        go_roundw
        case rel => exact ⟨k + 1, by omega, by go_num, rfl, (by repeat (first | (with_reducible exact Gr.refl _) | (with_reducible assumption) | (with_reducible refine Gr.alloc ?_ _) | (with_reducible refine Gr.drew ?_) | (with_reducible refine Gr.drewN ?_ _) | (with_reducible refine Gr.trans ?_ (by assumption)) | (with_reducible refine Gr.setCell ?_ (by first | exact Nat.le_refl _ | omega | (simp; done) | (simp; omega)) _)))⟩
        case measure => simp [intOf]; omega
      · obtain rfl : k = x.l.length := by omega
        go_wp2_with (go_at_call 55; refine (may_any2 _ _).mono ?_; rintro e w2 ⟨rfl, rfl⟩)
        go_ret
        exact ⟨by rw [HR.out]; rfl, hg⟩
  | true =>
  rw [b32] at e32
  cases s2 : (x.status == 2) with
  | true =>
    have HR : Hid (recOk x = wrtsOk ⟨#[]⟩ x.l) := Lib.hid (by rw [HU.out, HP.out]; simp [*])
    go_enter Tryd.func32, Tryd.ntmps32
    go_wp2_with (go_at_call 66; refine (HH.out _ _ _ (by exact heap_newn (by first | rfl | (simp; done)))).mono ?_; rintro e w1 ⟨rfl, hg1⟩; (have hbx := hg1.blk (heap_alloc_mono HBX.out _)); obtain ⟨k_0, k_1, k_2, k_3, k_4, k_5, k_6, k_7, k_8, k_9, g_0, g_1, g_2, g_3, g_4, g_5, g_6, g_7, g_8, g_9, l_0⟩ := blk10 hbx; clear hbx)
    clear k_0 k_1 k_2 k_3 k_4 k_5 k_6 k_7 k_8 k_9 g_0 g_1 g_2 g_3 g_4 g_5 g_6 g_7 g_8 g_9 l_0
    go_loopw [3, 4, 52] (fun o z i wr => ∃ (k : Nat) (ob : Bool) (la : ByteArray), k ≤ x.l.length ∧ i = .int .i64 k ∧ o = .bool ob ∧ z = .string la ∧ Hid (ob = wrtsOk ⟨#[]⟩ (x.l.take k) ∧ la = lastKey ⟨#[]⟩ (x.l.take k)) ∧ Gr w wr) (fun _ _ i _ => x.l.length - (intOf i).toNat)
    case atStart => exact ⟨0, true, _, Nat.zero_le _, rfl, rfl, rfl, Lib.hid ⟨rfl, rfl⟩, (by repeat (first | (with_reducible exact Gr.refl _) | (with_reducible assumption) | (with_reducible refine Gr.alloc ?_ _) | (with_reducible refine Gr.drew ?_) | (with_reducible refine Gr.drewN ?_ _) | (with_reducible refine Gr.trans ?_ (by assumption)) | (with_reducible refine Gr.setCell ?_ (by first | exact Nat.le_refl _ | omega | (simp; done) | (simp; omega)) _)))⟩
    case round =>
      obtain ⟨k, ob, la, hk, rfl, rfl, rfl, HI, hg⟩ := hrel
      by_cases hlt : k < x.l.length
      · obtain ⟨bk, of, cp, e1, r2, r3, c1, c2⟩ := (HL.out.gr hg).at hlt
        injection e1 with e1a e1b e1c
        subst e1a e1c
        have HS : Hid (wrtsOk ⟨#[]⟩ (x.l.take (k + 1)) = (ob && wrtOk la x.l[k]) ∧ lastKey ⟨#[]⟩ (x.l.take (k + 1)) = x.l[k].key) := Lib.hid (by
          rw [List.take_succ_eq_append_getElem hlt, wrtsOk_snoc, lastKey_snoc, ← HI.out.1, ← HI.out.2]; exact ⟨rfl, rfl⟩)
        generalize x.l[k] = cc at c1 c2 HS
        obtain ⟨ke, sq⟩ := cc
        have HC : Hid (wrtOk la ⟨ke, sq⟩ = ((checkE ke.size == 0) && gtrB ke la && idB sq)) := Lib.hid rfl
        have HG : Hid (gtrB ke la = !(Op.bytesLess ke.toList la.toList || ke.toList == la.toList)) := Lib.hid rfl
        simp only at c1 c2
        have hC := heap_alloc_new wr (.cells #[.string ke, .int .i64 sq] 92)
        obtain ⟨j_0, j_1, i_0, i_1, n_0⟩ := blk2 hC
        clear hC
        cases ob with
        | false =>
          go_wp2_with (first
            | (go_at_call 69; refine (check_any _ _).mono ?_; rintro e w2 ⟨rfl, rfl⟩)
            | (go_at_call 70; refine (isId_any _ _).mono ?_; rintro e w3 ⟨rfl, rfl⟩))
          go_roundw
          case rel => exact ⟨k + 1, _, _, by omega, by go_num, rfl, rfl, Lib.hid ⟨by rw [HS.out.1, HC.out]; simp [*], HS.out.2.symm⟩, (by repeat (first | (with_reducible exact Gr.refl _) | (with_reducible assumption) | (with_reducible refine Gr.alloc ?_ _) | (with_reducible refine Gr.drew ?_) | (with_reducible refine Gr.drewN ?_ _) | (with_reducible refine Gr.trans ?_ (by assumption)) | (with_reducible refine Gr.setCell ?_ (by first | exact Nat.le_refl _ | omega | (simp; done) | (simp; omega)) _)))⟩
          case measure => simp [intOf]; omega
        | true =>
        rcases checkE_cases ke.size with a1 | a1
        · have hgB := HG.out
          cases a2 : gtrB ke la with
          | false =>
            have hg2 : (!(Op.bytesLess ke.toList la.toList || ke.toList == la.toList)) = false := hgB.symm.trans a2
            go_wp2_with (first
              | (go_at_call 69; refine (check_any _ _).mono ?_; rintro e w2 ⟨rfl, rfl⟩)
              | (go_at_call 70; refine (isId_any _ _).mono ?_; rintro e w3 ⟨rfl, rfl⟩))
            go_roundw
            case rel => exact ⟨k + 1, _, _, by omega, by go_num, rfl, rfl, Lib.hid ⟨by rw [HS.out.1, HC.out]; simp [*], HS.out.2.symm⟩, (by repeat (first | (with_reducible exact Gr.refl _) | (with_reducible assumption) | (with_reducible refine Gr.alloc ?_ _) | (with_reducible refine Gr.drew ?_) | (with_reducible refine Gr.drewN ?_ _) | (with_reducible refine Gr.trans ?_ (by assumption)) | (with_reducible refine Gr.setCell ?_ (by first | exact Nat.le_refl _ | omega | (simp; done) | (simp; omega)) _)))⟩
            case measure => simp [intOf]; omega
          | true =>
            have hg2 : (!(Op.bytesLess ke.toList la.toList || ke.toList == la.toList)) = true := hgB.symm.trans a2
            go_wp2_with (first
              | (go_at_call 69; refine (check_any _ _).mono ?_; rintro e w2 ⟨rfl, rfl⟩)
              | (go_at_call 70; refine (isId_any _ _).mono ?_; rintro e w3 ⟨rfl, rfl⟩))
            go_roundw
            case rel => exact ⟨k + 1, _, _, by omega, by go_num, rfl, rfl, Lib.hid ⟨by rw [HS.out.1, HC.out]; simp [*], HS.out.2.symm⟩, (by repeat (first | (with_reducible exact Gr.refl _) | (with_reducible assumption) | (with_reducible refine Gr.alloc ?_ _) | (with_reducible refine Gr.drew ?_) | (with_reducible refine Gr.drewN ?_ _) | (with_reducible refine Gr.trans ?_ (by assumption)) | (with_reducible refine Gr.setCell ?_ (by first | exact Nat.le_refl _ | omega | (simp; done) | (simp; omega)) _)))⟩
            case measure => simp [intOf]; omega
        ·
          go_wp2_with (first
            | (go_at_call 69; refine (check_any _ _).mono ?_; rintro e w2 ⟨rfl, rfl⟩)
            | (go_at_call 70; refine (isId_any _ _).mono ?_; rintro e w3 ⟨rfl, rfl⟩))
          go_roundw
          case rel => exact ⟨k + 1, _, _, by omega, by go_num, rfl, rfl, Lib.hid ⟨by rw [HS.out.1, HC.out]; simp [*], HS.out.2.symm⟩, (by repeat (first | (with_reducible exact Gr.refl _) | (with_reducible assumption) | (with_reducible refine Gr.alloc ?_ _) | (with_reducible refine Gr.drew ?_) | (with_reducible refine Gr.drewN ?_ _) | (with_reducible refine Gr.trans ?_ (by assumption)) | (with_reducible refine Gr.setCell ?_ (by first | exact Nat.le_refl _ | omega | (simp; done) | (simp; omega)) _)))⟩
          case measure => simp [intOf]; omega
      · obtain rfl : k = x.l.length := by omega
        have hI := HI.out.1
        rw [List.take_length] at hI
        have HI2 := Lib.hid hI
        clear hI
        cases ob <;>
        · go_wp2_with (go_at_call 55; refine (may_any2 _ _).mono ?_; rintro e w2 ⟨rfl, rfl⟩)
          go_ret
          exact ⟨by rw [HR.out, ← HI2.out]; rfl, hg⟩
  | false =>
  cases z0 : (x.l.length == 0) with
  | false =>
    rw [z0] at e0
    have HR : Hid (recOk x = false) := Lib.hid (by rw [HU.out, HP.out]; simp [*])
    go_enter Tryd.func32, Tryd.ntmps32
    go_wp2_with (go_at_call 66; refine (HH.out _ _ _ (by exact heap_newn (by first | rfl | (simp; done)))).mono ?_; rintro e w1 ⟨rfl, hg1⟩; (have hbx := hg1.blk (heap_alloc_mono HBX.out _)); obtain ⟨k_0, k_1, k_2, k_3, k_4, k_5, k_6, k_7, k_8, k_9, g_0, g_1, g_2, g_3, g_4, g_5, g_6, g_7, g_8, g_9, l_0⟩ := blk10 hbx; clear hbx)
    clear k_0 k_1 k_2 k_3 k_4 k_5 k_6 k_7 k_8 k_9 g_0 g_1 g_2 g_3 g_4 g_5 g_6 g_7 g_8 g_9 l_0
    go_loopw [3, 52] (fun o i wr => ∃ k : Nat, k ≤ x.l.length ∧ i = .int .i64 k ∧ o = .bool false ∧ Gr w wr) (fun _ i _ => x.l.length - (intOf i).toNat)
    case atStart => exact ⟨0, Nat.zero_le _, rfl, rfl, (by repeat (first | (with_reducible exact Gr.refl _) | (with_reducible assumption) | (with_reducible refine Gr.alloc ?_ _) | (with_reducible refine Gr.drew ?_) | (with_reducible refine Gr.drewN ?_ _) | (with_reducible refine Gr.trans ?_ (by assumption)) | (with_reducible refine Gr.setCell ?_ (by first | exact Nat.le_refl _ | omega | (simp; done) | (simp; omega)) _)))⟩
    case round =>
      obtain ⟨k, hk, rfl, rfl, hg⟩ := hrel
      by_cases hlt : k < x.l.length
      · obtain ⟨bk, of, cp, e1, r2, r3, c1, c2⟩ := (HL.out.gr hg).at hlt
        injection e1 with e1a e1b e1c
        subst e1a e1c
        go_wp2
        go_roundw
        case rel => exact ⟨k + 1, by omega, by go_num, rfl, (by repeat (first | (with_reducible exact Gr.refl _) | (with_reducible assumption) | (with_reducible refine Gr.alloc ?_ _) | (with_reducible refine Gr.drew ?_) | (with_reducible refine Gr.drewN ?_ _) | (with_reducible refine Gr.trans ?_ (by assumption)) | (with_reducible refine Gr.setCell ?_ (by first | exact Nat.le_refl _ | omega | (simp; done) | (simp; omega)) _)))⟩
        case measure => simp [intOf]; omega
      · obtain rfl : k = x.l.length := by omega
        go_wp2_with (go_at_call 55; refine (may_any2 _ _).mono ?_; rintro e w2 ⟨rfl, rfl⟩)
        go_ret
        exact ⟨by rw [HR.out]; rfl, hg⟩
  | true =>
    rw [z0] at e0
    have HR : Hid (recOk x = wrtsOk ⟨#[]⟩ x.l) := Lib.hid (by rw [HU.out, HP.out]; simp [*])
    go_enter Tryd.func32, Tryd.ntmps32
    go_wp2_with (go_at_call 66; refine (HH.out _ _ _ (by exact heap_newn (by first | rfl | (simp; done)))).mono ?_; rintro e w1 ⟨rfl, hg1⟩; (have hbx := hg1.blk (heap_alloc_mono HBX.out _)); obtain ⟨k_0, k_1, k_2, k_3, k_4, k_5, k_6, k_7, k_8, k_9, g_0, g_1, g_2, g_3, g_4, g_5, g_6, g_7, g_8, g_9, l_0⟩ := blk10 hbx; clear hbx)
    clear k_0 k_1 k_2 k_3 k_4 k_5 k_6 k_7 k_8 k_9 g_0 g_1 g_2 g_3 g_4 g_5 g_6 g_7 g_8 g_9 l_0
    go_loopw [3, 4, 52] (fun o z i wr => ∃ (k : Nat) (ob : Bool) (la : ByteArray), k ≤ x.l.length ∧ i = .int .i64 k ∧ o = .bool ob ∧ z = .string la ∧ Hid (ob = wrtsOk ⟨#[]⟩ (x.l.take k) ∧ la = lastKey ⟨#[]⟩ (x.l.take k)) ∧ Gr w wr) (fun _ _ i _ => x.l.length - (intOf i).toNat)
    case atStart => exact ⟨0, true, _, Nat.zero_le _, rfl, rfl, rfl, Lib.hid ⟨rfl, rfl⟩, (by repeat (first | (with_reducible exact Gr.refl _) | (with_reducible assumption) | (with_reducible refine Gr.alloc ?_ _) | (with_reducible refine Gr.drew ?_) | (with_reducible refine Gr.drewN ?_ _) | (with_reducible refine Gr.trans ?_ (by assumption)) | (with_reducible refine Gr.setCell ?_ (by first | exact Nat.le_refl _ | omega | (simp; done) | (simp; omega)) _)))⟩
    case round =>
      obtain ⟨k, ob, la, hk, rfl, rfl, rfl, HI, hg⟩ := hrel
      by_cases hlt : k < x.l.length
      · obtain ⟨bk, of, cp, e1, r2, r3, c1, c2⟩ := (HL.out.gr hg).at hlt
        injection e1 with e1a e1b e1c
        subst e1a e1c
        have HS : Hid (wrtsOk ⟨#[]⟩ (x.l.take (k + 1)) = (ob && wrtOk la x.l[k]) ∧ lastKey ⟨#[]⟩ (x.l.take (k + 1)) = x.l[k].key) := Lib.hid (by
          rw [List.take_succ_eq_append_getElem hlt, wrtsOk_snoc, lastKey_snoc, ← HI.out.1, ← HI.out.2]; exact ⟨rfl, rfl⟩)
        generalize x.l[k] = cc at c1 c2 HS
        obtain ⟨ke, sq⟩ := cc
        have HC : Hid (wrtOk la ⟨ke, sq⟩ = ((checkE ke.size == 0) && gtrB ke la && idB sq)) := Lib.hid rfl
        have HG : Hid (gtrB ke la = !(Op.bytesLess ke.toList la.toList || ke.toList == la.toList)) := Lib.hid rfl
        simp only at c1 c2
        have hC := heap_alloc_new wr (.cells #[.string ke, .int .i64 sq] 92)
        obtain ⟨j_0, j_1, i_0, i_1, n_0⟩ := blk2 hC
        clear hC
        cases ob with
        | false =>
          go_wp2_with (first
            | (go_at_call 69; refine (check_any _ _).mono ?_; rintro e w2 ⟨rfl, rfl⟩)
            | (go_at_call 70; refine (isId_any _ _).mono ?_; rintro e w3 ⟨rfl, rfl⟩))
          go_roundw
          case rel => exact ⟨k + 1, _, _, by omega, by go_num, rfl, rfl, Lib.hid ⟨by rw [HS.out.1, HC.out]; simp [*], HS.out.2.symm⟩, (by repeat (first | (with_reducible exact Gr.refl _) | (with_reducible assumption) | (with_reducible refine Gr.alloc ?_ _) | (with_reducible refine Gr.drew ?_) | (with_reducible refine Gr.drewN ?_ _) | (with_reducible refine Gr.trans ?_ (by assumption)) | (with_reducible refine Gr.setCell ?_ (by first | exact Nat.le_refl _ | omega | (simp; done) | (simp; omega)) _)))⟩
          case measure => simp [intOf]; omega
        | true =>
        rcases checkE_cases ke.size with a1 | a1
        · have hgB := HG.out
          cases a2 : gtrB ke la with
          | false =>
            have hg2 : (!(Op.bytesLess ke.toList la.toList || ke.toList == la.toList)) = false := hgB.symm.trans a2
            go_wp2_with (first
              | (go_at_call 69; refine (check_any _ _).mono ?_; rintro e w2 ⟨rfl, rfl⟩)
              | (go_at_call 70; refine (isId_any _ _).mono ?_; rintro e w3 ⟨rfl, rfl⟩))
            go_roundw
            case rel => exact ⟨k + 1, _, _, by omega, by go_num, rfl, rfl, Lib.hid ⟨by rw [HS.out.1, HC.out]; simp [*], HS.out.2.symm⟩, (by repeat (first | (with_reducible exact Gr.refl _) | (with_reducible assumption) | (with_reducible refine Gr.alloc ?_ _) | (with_reducible refine Gr.drew ?_) | (with_reducible refine Gr.drewN ?_ _) | (with_reducible refine Gr.trans ?_ (by assumption)) | (with_reducible refine Gr.setCell ?_ (by first | exact Nat.le_refl _ | omega | (simp; done) | (simp; omega)) _)))⟩
            case measure => simp [intOf]; omega
          | true =>
            have hg2 : (!(Op.bytesLess ke.toList la.toList || ke.toList == la.toList)) = true := hgB.symm.trans a2
            go_wp2_with (first
              | (go_at_call 69; refine (check_any _ _).mono ?_; rintro e w2 ⟨rfl, rfl⟩)
              | (go_at_call 70; refine (isId_any _ _).mono ?_; rintro e w3 ⟨rfl, rfl⟩))
            go_roundw
            case rel => exact ⟨k + 1, _, _, by omega, by go_num, rfl, rfl, Lib.hid ⟨by rw [HS.out.1, HC.out]; simp [*], HS.out.2.symm⟩, (by repeat (first | (with_reducible exact Gr.refl _) | (with_reducible assumption) | (with_reducible refine Gr.alloc ?_ _) | (with_reducible refine Gr.drew ?_) | (with_reducible refine Gr.drewN ?_ _) | (with_reducible refine Gr.trans ?_ (by assumption)) | (with_reducible refine Gr.setCell ?_ (by first | exact Nat.le_refl _ | omega | (simp; done) | (simp; omega)) _)))⟩
            case measure => simp [intOf]; omega
        ·
          go_wp2_with (first
            | (go_at_call 69; refine (check_any _ _).mono ?_; rintro e w2 ⟨rfl, rfl⟩)
            | (go_at_call 70; refine (isId_any _ _).mono ?_; rintro e w3 ⟨rfl, rfl⟩))
          go_roundw
          case rel => exact ⟨k + 1, _, _, by omega, by go_num, rfl, rfl, Lib.hid ⟨by rw [HS.out.1, HC.out]; simp [*], HS.out.2.symm⟩, (by repeat (first | (with_reducible exact Gr.refl _) | (with_reducible assumption) | (with_reducible refine Gr.alloc ?_ _) | (with_reducible refine Gr.drew ?_) | (with_reducible refine Gr.drewN ?_ _) | (with_reducible refine Gr.trans ?_ (by assumption)) | (with_reducible refine Gr.setCell ?_ (by first | exact Nat.le_refl _ | omega | (simp; done) | (simp; omega)) _)))⟩
          case measure => simp [intOf]; omega
      · obtain rfl : k = x.l.length := by omega
        have hI := HI.out.1
        rw [List.take_length] at hI
        have HI2 := Lib.hid hI
        clear hI
        cases ob <;>
        · go_wp2_with (go_at_call 55; refine (may_any2 _ _).mono ?_; rintro e w2 ⟨rfl, rfl⟩)
          go_ret
          exact ⟨by rw [HR.out, ← HI2.out]; rfl, hg⟩
end Go.Proofs.YtpnojkgdjkncbaaDoor
