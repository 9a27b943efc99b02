/- Layer 11: whether two records are the same: both sides. -/
import Derived.Test.YtpnojkgdjkncbaaDoorRecA
import Derived.RegionTactic
import Derived.ChangeAlike
namespace Go.Proofs.YtpnojkgdjkncbaaDoor
open Go.RowKit
set_option maxRecDepth 100000
set_option linter.unusedVariables false
set_option linter.unusedSimpArgs false

set_option maxHeartbeats 4000000 in
theorem equalWrt_any {w : World} {va vb : Value} {a b : List Wrt} (ha : RdW w va a) (hb : RdW w vb b) (hla : a.length ≤ 9223372036854775807) :
    Calls Tryd.prog 73 #[va, vb] w fun e w' => e = .returned (.bool (eqL eqWrt a b)) ∧ Gr w w' := by
  have HA := Lib.hid ha
  have HB := Lib.hid hb
  obtain ⟨qa, ca, hva⟩ := ha.form
  obtain ⟨qb, cb, hvb⟩ := hb.form
  subst hva hvb
  clear ha hb
  by_cases hl : a.length = b.length
  · have HL := Lib.hid hl
    have hne : ((a.length : Int) != (b.length : Int)) = false := by rw [hl]; simp
    clear hl
    go_enter Tryd.func73, Tryd.ntmps73
    go_wp2
    clear hne
    go_loopw [13] (fun i wr => ∃ k : Nat, k ≤ a.length ∧ i = .int .i64 k ∧ Hid (eqL eqWrt (a.take k) (b.take k) = true) ∧ Gr w wr) (fun i _ => a.length - (intOf i).toNat)
    case atStart => exact ⟨0, Nat.zero_le _, rfl, Lib.hid rfl, (by repeat (first | (with_reducible exact Gr.refl _) | (with_reducible assumption) | (with_reducible refine Gr.alloc ?_ _) | (with_reducible refine Gr.drew ?_) | (with_reducible refine Gr.drewN ?_ _) | (with_reducible refine Gr.trans ?_ (by assumption)) | (with_reducible refine Gr.setCell ?_ (by first | exact Nat.le_refl _ | omega | (simp; done) | (simp; omega)) _)))⟩
    case round =>
      obtain ⟨k, hk, rfl, HP, hg⟩ := hrel
      by_cases hlt : k < a.length
      · have hlb : k < b.length := by rw [← HL.out]; exact hlt
        obtain ⟨bk, of, cp, e1, q2, q3, c1, c2⟩ := (HA.out.gr hg).at hlt
        obtain ⟨bk2, of2, cp2, e2, r2, r3, d1, d2⟩ := (HB.out.gr hg).at hlb
        injection e1 with e1a e1b e1c
        injection e2 with e2a e2b e2c
        subst e1a e1c e2a e2c
        have HS : Hid (eqL eqWrt (a.take (k + 1)) (b.take (k + 1)) = eqWrt a[k] b[k]) := Lib.hid (by
          rw [List.take_succ_eq_append_getElem hlt, List.take_succ_eq_append_getElem hlb, eqL_snoc _ _ (by simp; rw [HL.out]), HP.out, Bool.true_and])
        have HF : Hid (eqWrt a[k] b[k] = false → eqL eqWrt a b = false) := Lib.hid (fun hf => by
          have h7 := HS.out
          rw [hf] at h7
          rw [← List.take_append_drop (k + 1) a, ← List.take_append_drop (k + 1) b]
          exact eqL_app _ _ (by simp; rw [HL.out]) h7)
        generalize a[k] = x at c1 c2 HS HF
        generalize b[k] = y at d1 d2 HS HF
        obtain ⟨v1, s1⟩ := x
        obtain ⟨v2, s2⟩ := y
        have HC : Hid (eqWrt ⟨v1, s1⟩ ⟨v2, s2⟩ = ((v1.toList == v2.toList) && (s1 == s2))) := Lib.hid rfl
        simp only at c1 c2 d1 d2
        unfold maxLen at q3 r3
        cases f2 : (v1.toList == v2.toList) with
        | false =>
          go_wp2
          go_region
          go_wp2
          go_ret
          exact ⟨ret_bool (by symm; exact HF.out (by rw [HC.out]; simp [*])), (by repeat (first | (with_reducible exact Gr.refl _) | (with_reducible assumption) | (with_reducible refine Gr.alloc ?_ _) | (with_reducible refine Gr.drew ?_) | (with_reducible refine Gr.drewN ?_ _) | (with_reducible refine Gr.trans ?_ (by assumption)) | (with_reducible refine Gr.setCell ?_ (by first | exact Nat.le_refl _ | omega | (simp; done) | (simp; omega)) _)))⟩
        | true =>
        cases f1 : (s1 == s2) with
        | false =>
          go_wp2
          go_region
          go_wp2
          go_ret
          exact ⟨ret_bool (by symm; exact HF.out (by rw [HC.out]; simp [*])), (by repeat (first | (with_reducible exact Gr.refl _) | (with_reducible assumption) | (with_reducible refine Gr.alloc ?_ _) | (with_reducible refine Gr.drew ?_) | (with_reducible refine Gr.drewN ?_ _) | (with_reducible refine Gr.trans ?_ (by assumption)) | (with_reducible refine Gr.setCell ?_ (by first | exact Nat.le_refl _ | omega | (simp; done) | (simp; omega)) _)))⟩
        | true =>
          go_wp2
          go_region
          go_wp2
          go_roundw
          case rel => exact ⟨k + 1, by omega, by go_num, Lib.hid (by rw [HS.out, HC.out]; simp [*]), (by repeat (first | (with_reducible exact Gr.refl _) | (with_reducible assumption) | (with_reducible refine Gr.alloc ?_ _) | (with_reducible refine Gr.drew ?_) | (with_reducible refine Gr.drewN ?_ _) | (with_reducible refine Gr.trans ?_ (by assumption)) | (with_reducible refine Gr.setCell ?_ (by first | exact Nat.le_refl _ | omega | (simp; done) | (simp; omega)) _)))⟩
          case measure => simp [intOf]; omega
      · obtain rfl : k = a.length := by omega
        have hP := HP.out
        rw [List.take_length, HL.out, List.take_length] at hP
        have HP2 := Lib.hid hP
        clear hP
        go_wp2
        go_ret
        exact ⟨ret_bool HP2.out.symm, hg⟩
  · have HL := Lib.hid hl
    have hne : ((a.length : Int) != (b.length : Int)) = true := by rw [bne_iff_ne]; intro e; exact hl (by exact_mod_cast e)
    clear hl
    go_enter Tryd.func73, Tryd.ntmps73
    go_wp2
    go_ret
    exact ⟨ret_bool (by rw [eqL_len HL.out]), (by repeat (first | (with_reducible exact Gr.refl _) | (with_reducible assumption) | (with_reducible refine Gr.alloc ?_ _) | (with_reducible refine Gr.drew ?_) | (with_reducible refine Gr.drewN ?_ _) | (with_reducible refine Gr.trans ?_ (by assumption)) | (with_reducible refine Gr.setCell ?_ (by first | exact Nat.le_refl _ | omega | (simp; done) | (simp; omega)) _)))⟩
set_option maxHeartbeats 4000000 in
theorem refSameWrites_any {w : World} {va vb : Value} {a b : List Wrt} (ha : RdW w va a) (hb : RdW w vb b) (hla : a.length ≤ 9223372036854775807) :
    Calls Tryd.prog 74 #[va, vb] w fun e w' => e = .returned (.bool (eqL eqWrt a b)) ∧ Gr w w' := by
  have HA := Lib.hid ha
  have HB := Lib.hid hb
  obtain ⟨qa, ca, hva⟩ := ha.form
  obtain ⟨qb, cb, hvb⟩ := hb.form
  subst hva hvb
  clear ha hb
  by_cases hl : a.length = b.length
  · have HL := Lib.hid hl
    have hne : ((a.length : Int) != (b.length : Int)) = false := by rw [hl]; simp
    clear hl
    go_enter Tryd.func74, Tryd.ntmps74
    go_wp2
    clear hne
    go_loopw [5] (fun i wr => ∃ k : Nat, k ≤ a.length ∧ i = .int .i64 k ∧ Hid (eqL eqWrt (a.take k) (b.take k) = true) ∧ Gr w wr) (fun i _ => a.length - (intOf i).toNat)
    case atStart => exact ⟨0, Nat.zero_le _, rfl, Lib.hid rfl, (by repeat (first | (with_reducible exact Gr.refl _) | (with_reducible assumption) | (with_reducible refine Gr.alloc ?_ _) | (with_reducible refine Gr.drew ?_) | (with_reducible refine Gr.drewN ?_ _) | (with_reducible refine Gr.trans ?_ (by assumption)) | (with_reducible refine Gr.setCell ?_ (by first | exact Nat.le_refl _ | omega | (simp; done) | (simp; omega)) _)))⟩
    case round =>
      obtain ⟨k, hk, rfl, HP, hg⟩ := hrel
      by_cases hlt : k < a.length
      · have hlb : k < b.length := by rw [← HL.out]; exact hlt
        obtain ⟨bk, of, cp, e1, q2, q3, c1, c2⟩ := (HA.out.gr hg).at hlt
        obtain ⟨bk2, of2, cp2, e2, r2, r3, d1, d2⟩ := (HB.out.gr hg).at hlb
        injection e1 with e1a e1b e1c
        injection e2 with e2a e2b e2c
        subst e1a e1c e2a e2c
        have HS : Hid (eqL eqWrt (a.take (k + 1)) (b.take (k + 1)) = eqWrt a[k] b[k]) := Lib.hid (by
          rw [List.take_succ_eq_append_getElem hlt, List.take_succ_eq_append_getElem hlb, eqL_snoc _ _ (by simp; rw [HL.out]), HP.out, Bool.true_and])
        have HF : Hid (eqWrt a[k] b[k] = false → eqL eqWrt a b = false) := Lib.hid (fun hf => by
          have h7 := HS.out
          rw [hf] at h7
          rw [← List.take_append_drop (k + 1) a, ← List.take_append_drop (k + 1) b]
          exact eqL_app _ _ (by simp; rw [HL.out]) h7)
        generalize a[k] = x at c1 c2 HS HF
        generalize b[k] = y at d1 d2 HS HF
        obtain ⟨v1, s1⟩ := x
        obtain ⟨v2, s2⟩ := y
        have HC : Hid (eqWrt ⟨v1, s1⟩ ⟨v2, s2⟩ = ((v1.toList == v2.toList) && (s1 == s2))) := Lib.hid rfl
        simp only at c1 c2 d1 d2
        unfold maxLen at q3 r3
        cases f2 : (v1.toList == v2.toList) with
        | false =>
          go_wp2
          go_region
          go_wp2
          go_ret
          exact ⟨ret_bool (by symm; exact HF.out (by rw [HC.out]; simp [*])), (by repeat (first | (with_reducible exact Gr.refl _) | (with_reducible assumption) | (with_reducible refine Gr.alloc ?_ _) | (with_reducible refine Gr.drew ?_) | (with_reducible refine Gr.drewN ?_ _) | (with_reducible refine Gr.trans ?_ (by assumption)) | (with_reducible refine Gr.setCell ?_ (by first | exact Nat.le_refl _ | omega | (simp; done) | (simp; omega)) _)))⟩
        | true =>
        cases f1 : (s1 == s2) with
        | false =>
          go_wp2
          go_region
          go_wp2
          go_ret
          exact ⟨ret_bool (by symm; exact HF.out (by rw [HC.out]; simp [*])), (by repeat (first | (with_reducible exact Gr.refl _) | (with_reducible assumption) | (with_reducible refine Gr.alloc ?_ _) | (with_reducible refine Gr.drew ?_) | (with_reducible refine Gr.drewN ?_ _) | (with_reducible refine Gr.trans ?_ (by assumption)) | (with_reducible refine Gr.setCell ?_ (by first | exact Nat.le_refl _ | omega | (simp; done) | (simp; omega)) _)))⟩
        | true =>
          go_wp2
          go_region
          go_wp2
          go_roundw
          case rel => exact ⟨k + 1, by omega, by go_num, Lib.hid (by rw [HS.out, HC.out]; simp [*]), (by repeat (first | (with_reducible exact Gr.refl _) | (with_reducible assumption) | (with_reducible refine Gr.alloc ?_ _) | (with_reducible refine Gr.drew ?_) | (with_reducible refine Gr.drewN ?_ _) | (with_reducible refine Gr.trans ?_ (by assumption)) | (with_reducible refine Gr.setCell ?_ (by first | exact Nat.le_refl _ | omega | (simp; done) | (simp; omega)) _)))⟩
          case measure => simp [intOf]; omega
      · obtain rfl : k = a.length := by omega
        have hP := HP.out
        rw [List.take_length, HL.out, List.take_length] at hP
        have HP2 := Lib.hid hP
        clear hP
        go_wp2
        go_ret
        exact ⟨ret_bool HP2.out.symm, hg⟩
  · have HL := Lib.hid hl
    have hne : ((a.length : Int) != (b.length : Int)) = true := by rw [bne_iff_ne]; intro e; exact hl (by exact_mod_cast e)
    clear hl
    go_enter Tryd.func74, Tryd.ntmps74
    go_wp2
    go_ret
    exact ⟨ret_bool (by rw [eqL_len HL.out]), (by repeat (first | (with_reducible exact Gr.refl _) | (with_reducible assumption) | (with_reducible refine Gr.alloc ?_ _) | (with_reducible refine Gr.drew ?_) | (with_reducible refine Gr.drewN ?_ _) | (with_reducible refine Gr.trans ?_ (by assumption)) | (with_reducible refine Gr.setCell ?_ (by first | exact Nat.le_refl _ | omega | (simp; done) | (simp; omega)) _)))⟩
set_option maxHeartbeats 4000000 in
theorem cellSameRecord_any {w : World} (x y : Rec) {vx vy : Value} (hx : RdW w vx x.l) (hy : RdW w vy y.l) (hlen : x.l.length ≤ 9223372036854775807) :
    Calls Tryd.prog 34 #[.agg #[.int .i64 x.id, .int .i64 x.epoch, .int .i64 x.status, .int .i64 x.prio, .string x.anchor, .int .i64 x.sw, .int .i64 x.sl, .int .i64 x.bw, .int .i64 x.bl, vx], .agg #[.int .i64 y.id, .int .i64 y.epoch, .int .i64 y.status, .int .i64 y.prio, .string y.anchor, .int .i64 y.sw, .int .i64 y.sl, .int .i64 y.bw, .int .i64 y.bl, vy]] w fun e w' => e = .returned (.bool (eqRec x y)) ∧ Gr w w' := by
  have hb1 := heap_alloc_mono (heap_alloc_new w (.cells #[.int .i64 x.id, .int .i64 x.epoch, .int .i64 x.status, .int .i64 x.prio, .string x.anchor, .int .i64 x.sw, .int .i64 x.sl, .int .i64 x.bw, .int .i64 x.bl, vx] 47)) (.cells #[.int .i64 y.id, .int .i64 y.epoch, .int .i64 y.status, .int .i64 y.prio, .string y.anchor, .int .i64 y.sw, .int .i64 y.sl, .int .i64 y.bw, .int .i64 y.bl, vy] 47)
  have hb2 := heap_newn (w := w.alloc (.cells #[.int .i64 x.id, .int .i64 x.epoch, .int .i64 x.status, .int .i64 x.prio, .string x.anchor, .int .i64 x.sw, .int .i64 x.sl, .int .i64 x.bw, .int .i64 x.bl, vx] 47)) (n := w.heap.size + 1) (o := .cells #[.int .i64 y.id, .int .i64 y.epoch, .int .i64 y.status, .int .i64 y.prio, .string y.anchor, .int .i64 y.sw, .int .i64 y.sl, .int .i64 y.bw, .int .i64 y.bl, vy] 47) (by simp)
  obtain ⟨ka_0, ka_1, ka_2, ka_3, ka_4, ka_5, ka_6, ka_7, ka_8, ka_9, ga_0, ga_1, ga_2, ga_3, ga_4, ga_5, ga_6, ga_7, ga_8, ga_9, la_0⟩ := blk10 hb1
  obtain ⟨kb_0, kb_1, kb_2, kb_3, kb_4, kb_5, kb_6, kb_7, kb_8, kb_9, gb_0, gb_1, gb_2, gb_3, gb_4, gb_5, gb_6, gb_7, gb_8, gb_9, lb_0⟩ := blk10 hb2
  clear hb1 hb2
  have HU : Hid (eqRec x y = ((x.id == y.id) && (x.epoch == y.epoch) && (x.status == y.status) && (x.prio == y.prio) && (x.anchor.toList == y.anchor.toList) && (x.sw == y.sw) && (x.sl == y.sl) && (x.bw == y.bw) && (x.bl == y.bl) && eqL eqWrt x.l y.l)) := Lib.hid rfl
  obtain ⟨qx, cx, hvx⟩ := hx.form
  obtain ⟨qy, cy, hvy⟩ := hy.form
  have HX := Lib.hid hx
  have HY := Lib.hid hy
  subst hvx hvy
  clear hx hy
  cases f0 : (x.id == y.id) with
  | false =>
    go_enter Tryd.func34, Tryd.ntmps34
    go_wp2
    go_ret
    exact ⟨by rw [HU.out]; exact ret_bool (by simp [*]), (by repeat (first | (with_reducible exact Gr.refl _) | (with_reducible assumption) | (with_reducible refine Gr.alloc ?_ _) | (with_reducible refine Gr.drew ?_) | (with_reducible refine Gr.drewN ?_ _) | (with_reducible refine Gr.trans ?_ (by assumption)) | (with_reducible refine Gr.setCell ?_ (by first | exact Nat.le_refl _ | omega | (simp; done) | (simp; omega)) _)))⟩
  | true =>
  cases f1 : (x.epoch == y.epoch) with
  | false =>
    go_enter Tryd.func34, Tryd.ntmps34
    go_wp2
    go_ret
    exact ⟨by rw [HU.out]; exact ret_bool (by simp [*]), (by repeat (first | (with_reducible exact Gr.refl _) | (with_reducible assumption) | (with_reducible refine Gr.alloc ?_ _) | (with_reducible refine Gr.drew ?_) | (with_reducible refine Gr.drewN ?_ _) | (with_reducible refine Gr.trans ?_ (by assumption)) | (with_reducible refine Gr.setCell ?_ (by first | exact Nat.le_refl _ | omega | (simp; done) | (simp; omega)) _)))⟩
  | true =>
  cases f2 : (x.status == y.status) with
  | false =>
    go_enter Tryd.func34, Tryd.ntmps34
    go_wp2
    go_ret
    exact ⟨by rw [HU.out]; exact ret_bool (by simp [*]), (by repeat (first | (with_reducible exact Gr.refl _) | (with_reducible assumption) | (with_reducible refine Gr.alloc ?_ _) | (with_reducible refine Gr.drew ?_) | (with_reducible refine Gr.drewN ?_ _) | (with_reducible refine Gr.trans ?_ (by assumption)) | (with_reducible refine Gr.setCell ?_ (by first | exact Nat.le_refl _ | omega | (simp; done) | (simp; omega)) _)))⟩
  | true =>
  cases f3 : (x.prio == y.prio) with
  | false =>
    go_enter Tryd.func34, Tryd.ntmps34
    go_wp2
    go_ret
    exact ⟨by rw [HU.out]; exact ret_bool (by simp [*]), (by repeat (first | (with_reducible exact Gr.refl _) | (with_reducible assumption) | (with_reducible refine Gr.alloc ?_ _) | (with_reducible refine Gr.drew ?_) | (with_reducible refine Gr.drewN ?_ _) | (with_reducible refine Gr.trans ?_ (by assumption)) | (with_reducible refine Gr.setCell ?_ (by first | exact Nat.le_refl _ | omega | (simp; done) | (simp; omega)) _)))⟩
  | true =>
  cases f4 : (x.anchor.toList == y.anchor.toList) with
  | false =>
    go_enter Tryd.func34, Tryd.ntmps34
    go_wp2
    go_ret
    exact ⟨by rw [HU.out]; exact ret_bool (by simp [*]), (by repeat (first | (with_reducible exact Gr.refl _) | (with_reducible assumption) | (with_reducible refine Gr.alloc ?_ _) | (with_reducible refine Gr.drew ?_) | (with_reducible refine Gr.drewN ?_ _) | (with_reducible refine Gr.trans ?_ (by assumption)) | (with_reducible refine Gr.setCell ?_ (by first | exact Nat.le_refl _ | omega | (simp; done) | (simp; omega)) _)))⟩
  | true =>
  cases f5 : (x.sw == y.sw) with
  | false =>
    go_enter Tryd.func34, Tryd.ntmps34
    go_wp2
    go_ret
    exact ⟨by rw [HU.out]; exact ret_bool (by simp [*]), (by repeat (first | (with_reducible exact Gr.refl _) | (with_reducible assumption) | (with_reducible refine Gr.alloc ?_ _) | (with_reducible refine Gr.drew ?_) | (with_reducible refine Gr.drewN ?_ _) | (with_reducible refine Gr.trans ?_ (by assumption)) | (with_reducible refine Gr.setCell ?_ (by first | exact Nat.le_refl _ | omega | (simp; done) | (simp; omega)) _)))⟩
  | true =>
  cases f6 : (x.sl == y.sl) with
  | false =>
    go_enter Tryd.func34, Tryd.ntmps34
    go_wp2
    go_ret
    exact ⟨by rw [HU.out]; exact ret_bool (by simp [*]), (by repeat (first | (with_reducible exact Gr.refl _) | (with_reducible assumption) | (with_reducible refine Gr.alloc ?_ _) | (with_reducible refine Gr.drew ?_) | (with_reducible refine Gr.drewN ?_ _) | (with_reducible refine Gr.trans ?_ (by assumption)) | (with_reducible refine Gr.setCell ?_ (by first | exact Nat.le_refl _ | omega | (simp; done) | (simp; omega)) _)))⟩
  | true =>
  cases f7 : (x.bw == y.bw) with
  | false =>
    go_enter Tryd.func34, Tryd.ntmps34
    go_wp2
    go_ret
    exact ⟨by rw [HU.out]; exact ret_bool (by simp [*]), (by repeat (first | (with_reducible exact Gr.refl _) | (with_reducible assumption) | (with_reducible refine Gr.alloc ?_ _) | (with_reducible refine Gr.drew ?_) | (with_reducible refine Gr.drewN ?_ _) | (with_reducible refine Gr.trans ?_ (by assumption)) | (with_reducible refine Gr.setCell ?_ (by first | exact Nat.le_refl _ | omega | (simp; done) | (simp; omega)) _)))⟩
  | true =>
  cases f8 : (x.bl == y.bl) with
  | false =>
    go_enter Tryd.func34, Tryd.ntmps34
    go_wp2
    go_ret
    exact ⟨by rw [HU.out]; exact ret_bool (by simp [*]), (by repeat (first | (with_reducible exact Gr.refl _) | (with_reducible assumption) | (with_reducible refine Gr.alloc ?_ _) | (with_reducible refine Gr.drew ?_) | (with_reducible refine Gr.drewN ?_ _) | (with_reducible refine Gr.trans ?_ (by assumption)) | (with_reducible refine Gr.setCell ?_ (by first | exact Nat.le_refl _ | omega | (simp; done) | (simp; omega)) _)))⟩
  | true =>
  have HE := Lib.hid (fun (w' : World) (hg : Gr w w') => equalWrt_any (HX.out.gr hg) (HY.out.gr hg) hlen)
  go_enter Tryd.func34, Tryd.ntmps34
  go_wp2_with (go_at_call 73; refine (HE.out _ (by repeat (first | (with_reducible exact Gr.refl _) | (with_reducible assumption) | (with_reducible refine Gr.alloc ?_ _) | (with_reducible refine Gr.drew ?_) | (with_reducible refine Gr.drewN ?_ _) | (with_reducible refine Gr.trans ?_ (by assumption)) | (with_reducible refine Gr.setCell ?_ (by first | exact Nat.le_refl _ | omega | (simp; done) | (simp; omega)) _)))).mono ?_; rintro e w1 ⟨rfl, hg1⟩)
  go_ret
  exact ⟨by rw [HU.out]; exact ret_bool (by simp [*]), (by repeat (first | (with_reducible exact Gr.refl _) | (with_reducible assumption) | (with_reducible refine Gr.alloc ?_ _) | (with_reducible refine Gr.drew ?_) | (with_reducible refine Gr.drewN ?_ _) | (with_reducible refine Gr.trans ?_ (by assumption)) | (with_reducible refine Gr.setCell ?_ (by first | exact Nat.le_refl _ | omega | (simp; done) | (simp; omega)) _)))⟩

set_option maxHeartbeats 4000000 in
theorem refSameRecord_any {w : World} (x y : Rec) {vx vy : Value} (hx : RdW w vx x.l) (hy : RdW w vy y.l) (hlen : x.l.length ≤ 9223372036854775807) :
    Calls Tryd.prog 35 #[.agg #[.int .i64 x.id, .int .i64 x.epoch, .int .i64 x.status, .int .i64 x.prio, .string x.anchor, .int .i64 x.sw, .int .i64 x.sl, .int .i64 x.bw, .int .i64 x.bl, vx], .agg #[.int .i64 y.id, .int .i64 y.epoch, .int .i64 y.status, .int .i64 y.prio, .string y.anchor, .int .i64 y.sw, .int .i64 y.sl, .int .i64 y.bw, .int .i64 y.bl, vy]] w fun e w' => e = .returned (.bool (eqRec x y)) ∧ Gr w w' := by
  have hb1 := heap_alloc_mono (heap_alloc_new w (.cells #[.int .i64 x.id, .int .i64 x.epoch, .int .i64 x.status, .int .i64 x.prio, .string x.anchor, .int .i64 x.sw, .int .i64 x.sl, .int .i64 x.bw, .int .i64 x.bl, vx] 47)) (.cells #[.int .i64 y.id, .int .i64 y.epoch, .int .i64 y.status, .int .i64 y.prio, .string y.anchor, .int .i64 y.sw, .int .i64 y.sl, .int .i64 y.bw, .int .i64 y.bl, vy] 47)
  have hb2 := heap_newn (w := w.alloc (.cells #[.int .i64 x.id, .int .i64 x.epoch, .int .i64 x.status, .int .i64 x.prio, .string x.anchor, .int .i64 x.sw, .int .i64 x.sl, .int .i64 x.bw, .int .i64 x.bl, vx] 47)) (n := w.heap.size + 1) (o := .cells #[.int .i64 y.id, .int .i64 y.epoch, .int .i64 y.status, .int .i64 y.prio, .string y.anchor, .int .i64 y.sw, .int .i64 y.sl, .int .i64 y.bw, .int .i64 y.bl, vy] 47) (by simp)
  obtain ⟨ka_0, ka_1, ka_2, ka_3, ka_4, ka_5, ka_6, ka_7, ka_8, ka_9, ga_0, ga_1, ga_2, ga_3, ga_4, ga_5, ga_6, ga_7, ga_8, ga_9, la_0⟩ := blk10 hb1
  obtain ⟨kb_0, kb_1, kb_2, kb_3, kb_4, kb_5, kb_6, kb_7, kb_8, kb_9, gb_0, gb_1, gb_2, gb_3, gb_4, gb_5, gb_6, gb_7, gb_8, gb_9, lb_0⟩ := blk10 hb2
  clear hb1 hb2
  have HU : Hid (eqRec x y = ((x.id == y.id) && (x.epoch == y.epoch) && (x.status == y.status) && (x.prio == y.prio) && (x.anchor.toList == y.anchor.toList) && (x.sw == y.sw) && (x.sl == y.sl) && (x.bw == y.bw) && (x.bl == y.bl) && eqL eqWrt x.l y.l)) := Lib.hid rfl
  obtain ⟨qx, cx, hvx⟩ := hx.form
  obtain ⟨qy, cy, hvy⟩ := hy.form
  have HX := Lib.hid hx
  have HY := Lib.hid hy
  subst hvx hvy
  clear hx hy
  cases f0 : (x.id == y.id) with
  | false =>
    go_enter Tryd.func35, Tryd.ntmps35
    go_wp2
    go_ret
    exact ⟨by rw [HU.out]; exact ret_bool (by simp [*]), (by repeat (first | (with_reducible exact Gr.refl _) | (with_reducible assumption) | (with_reducible refine Gr.alloc ?_ _) | (with_reducible refine Gr.drew ?_) | (with_reducible refine Gr.drewN ?_ _) | (with_reducible refine Gr.trans ?_ (by assumption)) | (with_reducible refine Gr.setCell ?_ (by first | exact Nat.le_refl _ | omega | (simp; done) | (simp; omega)) _)))⟩
  | true =>
  cases f1 : (x.epoch == y.epoch) with
  | false =>
    go_enter Tryd.func35, Tryd.ntmps35
    go_wp2
    go_ret
    exact ⟨by rw [HU.out]; exact ret_bool (by simp [*]), (by repeat (first | (with_reducible exact Gr.refl _) | (with_reducible assumption) | (with_reducible refine Gr.alloc ?_ _) | (with_reducible refine Gr.drew ?_) | (with_reducible refine Gr.drewN ?_ _) | (with_reducible refine Gr.trans ?_ (by assumption)) | (with_reducible refine Gr.setCell ?_ (by first | exact Nat.le_refl _ | omega | (simp; done) | (simp; omega)) _)))⟩
  | true =>
  cases f2 : (x.status == y.status) with
  | false =>
    go_enter Tryd.func35, Tryd.ntmps35
    go_wp2
    go_ret
    exact ⟨by rw [HU.out]; exact ret_bool (by simp [*]), (by repeat (first | (with_reducible exact Gr.refl _) | (with_reducible assumption) | (with_reducible refine Gr.alloc ?_ _) | (with_reducible refine Gr.drew ?_) | (with_reducible refine Gr.drewN ?_ _) | (with_reducible refine Gr.trans ?_ (by assumption)) | (with_reducible refine Gr.setCell ?_ (by first | exact Nat.le_refl _ | omega | (simp; done) | (simp; omega)) _)))⟩
  | true =>
  cases f3 : (x.prio == y.prio) with
  | false =>
    go_enter Tryd.func35, Tryd.ntmps35
    go_wp2
    go_ret
    exact ⟨by rw [HU.out]; exact ret_bool (by simp [*]), (by repeat (first | (with_reducible exact Gr.refl _) | (with_reducible assumption) | (with_reducible refine Gr.alloc ?_ _) | (with_reducible refine Gr.drew ?_) | (with_reducible refine Gr.drewN ?_ _) | (with_reducible refine Gr.trans ?_ (by assumption)) | (with_reducible refine Gr.setCell ?_ (by first | exact Nat.le_refl _ | omega | (simp; done) | (simp; omega)) _)))⟩
  | true =>
  cases f4 : (x.anchor.toList == y.anchor.toList) with
  | false =>
    go_enter Tryd.func35, Tryd.ntmps35
    go_wp2
    go_ret
    exact ⟨by rw [HU.out]; exact ret_bool (by simp [*]), (by repeat (first | (with_reducible exact Gr.refl _) | (with_reducible assumption) | (with_reducible refine Gr.alloc ?_ _) | (with_reducible refine Gr.drew ?_) | (with_reducible refine Gr.drewN ?_ _) | (with_reducible refine Gr.trans ?_ (by assumption)) | (with_reducible refine Gr.setCell ?_ (by first | exact Nat.le_refl _ | omega | (simp; done) | (simp; omega)) _)))⟩
  | true =>
  cases f5 : (x.sw == y.sw) with
  | false =>
    go_enter Tryd.func35, Tryd.ntmps35
    go_wp2
    go_ret
    exact ⟨by rw [HU.out]; exact ret_bool (by simp [*]), (by repeat (first | (with_reducible exact Gr.refl _) | (with_reducible assumption) | (with_reducible refine Gr.alloc ?_ _) | (with_reducible refine Gr.drew ?_) | (with_reducible refine Gr.drewN ?_ _) | (with_reducible refine Gr.trans ?_ (by assumption)) | (with_reducible refine Gr.setCell ?_ (by first | exact Nat.le_refl _ | omega | (simp; done) | (simp; omega)) _)))⟩
  | true =>
  cases f6 : (x.sl == y.sl) with
  | false =>
    go_enter Tryd.func35, Tryd.ntmps35
    go_wp2
    go_ret
    exact ⟨by rw [HU.out]; exact ret_bool (by simp [*]), (by repeat (first | (with_reducible exact Gr.refl _) | (with_reducible assumption) | (with_reducible refine Gr.alloc ?_ _) | (with_reducible refine Gr.drew ?_) | (with_reducible refine Gr.drewN ?_ _) | (with_reducible refine Gr.trans ?_ (by assumption)) | (with_reducible refine Gr.setCell ?_ (by first | exact Nat.le_refl _ | omega | (simp; done) | (simp; omega)) _)))⟩
  | true =>
  cases f7 : (x.bw == y.bw) with
  | false =>
    go_enter Tryd.func35, Tryd.ntmps35
    go_wp2
    go_ret
    exact ⟨by rw [HU.out]; exact ret_bool (by simp [*]), (by repeat (first | (with_reducible exact Gr.refl _) | (with_reducible assumption) | (with_reducible refine Gr.alloc ?_ _) | (with_reducible refine Gr.drew ?_) | (with_reducible refine Gr.drewN ?_ _) | (with_reducible refine Gr.trans ?_ (by assumption)) | (with_reducible refine Gr.setCell ?_ (by first | exact Nat.le_refl _ | omega | (simp; done) | (simp; omega)) _)))⟩
  | true =>
  cases f8 : (x.bl == y.bl) with
  | false =>
    go_enter Tryd.func35, Tryd.ntmps35
    go_wp2
    go_ret
    exact ⟨by rw [HU.out]; exact ret_bool (by simp [*]), (by repeat (first | (with_reducible exact Gr.refl _) | (with_reducible assumption) | (with_reducible refine Gr.alloc ?_ _) | (with_reducible refine Gr.drew ?_) | (with_reducible refine Gr.drewN ?_ _) | (with_reducible refine Gr.trans ?_ (by assumption)) | (with_reducible refine Gr.setCell ?_ (by first | exact Nat.le_refl _ | omega | (simp; done) | (simp; omega)) _)))⟩
  | true =>
  have HE := Lib.hid (fun (w' : World) (hg : Gr w w') => refSameWrites_any (HX.out.gr hg) (HY.out.gr hg) hlen)
  go_enter Tryd.func35, Tryd.ntmps35
  go_wp2_with (go_at_call 74; refine (HE.out _ (by repeat (first | (with_reducible exact Gr.refl _) | (with_reducible assumption) | (with_reducible refine Gr.alloc ?_ _) | (with_reducible refine Gr.drew ?_) | (with_reducible refine Gr.drewN ?_ _) | (with_reducible refine Gr.trans ?_ (by assumption)) | (with_reducible refine Gr.setCell ?_ (by first | exact Nat.le_refl _ | omega | (simp; done) | (simp; omega)) _)))).mono ?_; rintro e w1 ⟨rfl, hg1⟩)
  go_ret
  exact ⟨by rw [HU.out]; exact ret_bool (by simp [*]), (by repeat (first | (with_reducible exact Gr.refl _) | (with_reducible assumption) | (with_reducible refine Gr.alloc ?_ _) | (with_reducible refine Gr.drew ?_) | (with_reducible refine Gr.drewN ?_ _) | (with_reducible refine Gr.trans ?_ (by assumption)) | (with_reducible refine Gr.setCell ?_ (by first | exact Nat.le_refl _ | omega | (simp; done) | (simp; omega)) _)))⟩

end Go.Proofs.YtpnojkgdjkncbaaDoor
