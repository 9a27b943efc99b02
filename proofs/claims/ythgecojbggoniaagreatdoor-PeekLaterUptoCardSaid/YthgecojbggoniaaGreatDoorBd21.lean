/- What the rows stand on, part 21: CelV. Printed by bundle.py out of my texts. -/
import Derived.Test.YthgecojbggoniaaGreatDoorBd01
import Derived.Test.YthgecojbggoniaaGreatDoorBd15
namespace Go.Proofs.YthgecojbggoniaaGreatDoor
open Go.RowKit
set_option maxRecDepth 100000
set_option linter.unusedVariables false
set_option linter.unusedSimpArgs false

theorem bne_not {α : Type} [BEq α] {a b : α} {c : Bool} (h : (a == b) = c) : (a != b) = !c := by rw [bne, h]

set_option maxHeartbeats 4000000 in
theorem refSame_any {w : World} (x y : Itt) {vx vy : Value} (hx : RdC w vx x.l) (hy : RdC w vy y.l) (hlen : x.l.length ≤ 9223372036854775807) :
    Calls Tryz.prog 24 #[.agg #[.int .i64 x.id, .int .i64 x.epoch, .int .i64 x.prio, .string x.anchor, .int .i64 x.sw, .int .i64 x.sl, .int .i64 x.bw, .int .i64 x.bl, vx], .agg #[.int .i64 y.id, .int .i64 y.epoch, .int .i64 y.prio, .string y.anchor, .int .i64 y.sw, .int .i64 y.sl, .int .i64 y.bw, .int .i64 y.bl, vy]] w fun e w' => e = .returned (.bool (eqItt x y)) ∧ Gr w w' := by
  have hb1 := heap_alloc_mono (heap_alloc_new w (.cells #[.int .i64 x.id, .int .i64 x.epoch, .int .i64 x.prio, .string x.anchor, .int .i64 x.sw, .int .i64 x.sl, .int .i64 x.bw, .int .i64 x.bl, vx] 40)) (.cells #[.int .i64 y.id, .int .i64 y.epoch, .int .i64 y.prio, .string y.anchor, .int .i64 y.sw, .int .i64 y.sl, .int .i64 y.bw, .int .i64 y.bl, vy] 40)
  have hb2 := heap_newn (w := w.alloc (.cells #[.int .i64 x.id, .int .i64 x.epoch, .int .i64 x.prio, .string x.anchor, .int .i64 x.sw, .int .i64 x.sl, .int .i64 x.bw, .int .i64 x.bl, vx] 40)) (n := w.heap.size + 1) (o := .cells #[.int .i64 y.id, .int .i64 y.epoch, .int .i64 y.prio, .string y.anchor, .int .i64 y.sw, .int .i64 y.sl, .int .i64 y.bw, .int .i64 y.bl, vy] 40) (by simp)
  have HB1 := Lib.hid hb1
  have HB2 := Lib.hid hb2
  obtain ⟨ka_0, ka_1, ka_2, ka_3, ka_4, ka_5, ka_6, ka_7, ka_8, ga_0, ga_1, ga_2, ga_3, ga_4, ga_5, ga_6, ga_7, ga_8, la_0⟩ := blk9 hb1
  obtain ⟨kb_0, kb_1, kb_2, kb_3, kb_4, kb_5, kb_6, kb_7, kb_8, gb_0, gb_1, gb_2, gb_3, gb_4, gb_5, gb_6, gb_7, gb_8, lb_0⟩ := blk9 hb2
  clear hb1 hb2
  have HU : Hid (eqItt x y = ((x.id == y.id) && (x.epoch == y.epoch) && (x.prio == y.prio) && (x.anchor.toList == y.anchor.toList) && (x.sw == y.sw) && (x.sl == y.sl) && (x.bw == y.bw) && (x.bl == y.bl) && eqL eqChg x.l y.l)) := Lib.hid rfl
  obtain ⟨qx, cx, hvx⟩ := hx.form
  obtain ⟨qy, cy, hvy⟩ := hy.form
  have HX := Lib.hid hx
  have HY := Lib.hid hy
  subst hvx hvy
  clear hx hy
  cases f0 : (x.id == y.id) with
  | false =>
    have m0 := bne_not f0
    go_enter Tryz.func24, Tryz.ntmps24
    go_wp2
    go_ret
    exact ⟨by rw [HU.out]; exact ret_bool (by simp [*]), (by repeat (first | (with_reducible exact Gr.refl _) | (with_reducible assumption) | (with_reducible refine Gr.alloc ?_ _) | (with_reducible refine Gr.drew ?_) | (with_reducible refine Gr.drewN ?_ _) | (with_reducible refine Gr.trans ?_ (by assumption)) | (with_reducible refine Gr.setCell ?_ (by first | exact Nat.le_refl _ | omega | (simp; done) | (simp; omega)) _)))⟩
  | true =>
  have m0 := bne_not f0
  cases f1 : (x.epoch == y.epoch) with
  | false =>
    have m1 := bne_not f1
    go_enter Tryz.func24, Tryz.ntmps24
    go_wp2
    go_ret
    exact ⟨by rw [HU.out]; exact ret_bool (by simp [*]), (by repeat (first | (with_reducible exact Gr.refl _) | (with_reducible assumption) | (with_reducible refine Gr.alloc ?_ _) | (with_reducible refine Gr.drew ?_) | (with_reducible refine Gr.drewN ?_ _) | (with_reducible refine Gr.trans ?_ (by assumption)) | (with_reducible refine Gr.setCell ?_ (by first | exact Nat.le_refl _ | omega | (simp; done) | (simp; omega)) _)))⟩
  | true =>
  have m1 := bne_not f1
  cases f2 : (x.prio == y.prio) with
  | false =>
    have m2 := bne_not f2
    go_enter Tryz.func24, Tryz.ntmps24
    go_wp2
    go_ret
    exact ⟨by rw [HU.out]; exact ret_bool (by simp [*]), (by repeat (first | (with_reducible exact Gr.refl _) | (with_reducible assumption) | (with_reducible refine Gr.alloc ?_ _) | (with_reducible refine Gr.drew ?_) | (with_reducible refine Gr.drewN ?_ _) | (with_reducible refine Gr.trans ?_ (by assumption)) | (with_reducible refine Gr.setCell ?_ (by first | exact Nat.le_refl _ | omega | (simp; done) | (simp; omega)) _)))⟩
  | true =>
  have m2 := bne_not f2
  cases f3 : (x.anchor.toList == y.anchor.toList) with
  | false =>
    have m3 := bne_not f3
    go_enter Tryz.func24, Tryz.ntmps24
    go_wp2
    go_ret
    exact ⟨by rw [HU.out]; exact ret_bool (by simp [*]), (by repeat (first | (with_reducible exact Gr.refl _) | (with_reducible assumption) | (with_reducible refine Gr.alloc ?_ _) | (with_reducible refine Gr.drew ?_) | (with_reducible refine Gr.drewN ?_ _) | (with_reducible refine Gr.trans ?_ (by assumption)) | (with_reducible refine Gr.setCell ?_ (by first | exact Nat.le_refl _ | omega | (simp; done) | (simp; omega)) _)))⟩
  | true =>
  have m3 := bne_not f3
  cases f4 : (x.sw == y.sw) with
  | false =>
    have m4 := bne_not f4
    go_enter Tryz.func24, Tryz.ntmps24
    go_wp2
    go_ret
    exact ⟨by rw [HU.out]; exact ret_bool (by simp [*]), (by repeat (first | (with_reducible exact Gr.refl _) | (with_reducible assumption) | (with_reducible refine Gr.alloc ?_ _) | (with_reducible refine Gr.drew ?_) | (with_reducible refine Gr.drewN ?_ _) | (with_reducible refine Gr.trans ?_ (by assumption)) | (with_reducible refine Gr.setCell ?_ (by first | exact Nat.le_refl _ | omega | (simp; done) | (simp; omega)) _)))⟩
  | true =>
  have m4 := bne_not f4
  cases f5 : (x.sl == y.sl) with
  | false =>
    have m5 := bne_not f5
    go_enter Tryz.func24, Tryz.ntmps24
    go_wp2
    go_ret
    exact ⟨by rw [HU.out]; exact ret_bool (by simp [*]), (by repeat (first | (with_reducible exact Gr.refl _) | (with_reducible assumption) | (with_reducible refine Gr.alloc ?_ _) | (with_reducible refine Gr.drew ?_) | (with_reducible refine Gr.drewN ?_ _) | (with_reducible refine Gr.trans ?_ (by assumption)) | (with_reducible refine Gr.setCell ?_ (by first | exact Nat.le_refl _ | omega | (simp; done) | (simp; omega)) _)))⟩
  | true =>
  have m5 := bne_not f5
  cases f6 : (x.bw == y.bw) with
  | false =>
    have m6 := bne_not f6
    go_enter Tryz.func24, Tryz.ntmps24
    go_wp2
    go_ret
    exact ⟨by rw [HU.out]; exact ret_bool (by simp [*]), (by repeat (first | (with_reducible exact Gr.refl _) | (with_reducible assumption) | (with_reducible refine Gr.alloc ?_ _) | (with_reducible refine Gr.drew ?_) | (with_reducible refine Gr.drewN ?_ _) | (with_reducible refine Gr.trans ?_ (by assumption)) | (with_reducible refine Gr.setCell ?_ (by first | exact Nat.le_refl _ | omega | (simp; done) | (simp; omega)) _)))⟩
  | true =>
  have m6 := bne_not f6
  cases f7 : (x.bl == y.bl) with
  | false =>
    have m7 := bne_not f7
    go_enter Tryz.func24, Tryz.ntmps24
    go_wp2
    go_ret
    exact ⟨by rw [HU.out]; exact ret_bool (by simp [*]), (by repeat (first | (with_reducible exact Gr.refl _) | (with_reducible assumption) | (with_reducible refine Gr.alloc ?_ _) | (with_reducible refine Gr.drew ?_) | (with_reducible refine Gr.drewN ?_ _) | (with_reducible refine Gr.trans ?_ (by assumption)) | (with_reducible refine Gr.setCell ?_ (by first | exact Nat.le_refl _ | omega | (simp; done) | (simp; omega)) _)))⟩
  | true =>
  have m7 := bne_not f7
  have HU2 : Hid (eqItt x y = eqL eqChg x.l y.l) := Lib.hid (by rw [HU.out]; simp [*])
  by_cases hl : x.l.length = y.l.length
  · have HL := Lib.hid hl
    have hne : ((x.l.length : Int) != (y.l.length : Int)) = false := by rw [hl]; simp
    clear hl
    have hg0 : Gr w ((w.alloc (.cells #[.int .i64 x.id, .int .i64 x.epoch, .int .i64 x.prio, .string x.anchor, .int .i64 x.sw, .int .i64 x.sl, .int .i64 x.bw, .int .i64 x.bl, (.slice qx x.l.length cx)] 40)).alloc (.cells #[.int .i64 y.id, .int .i64 y.epoch, .int .i64 y.prio, .string y.anchor, .int .i64 y.sw, .int .i64 y.sl, .int .i64 y.bw, .int .i64 y.bl, (.slice qy y.l.length cy)] 40)) := (by repeat (first | (with_reducible exact Gr.refl _) | (with_reducible assumption) | (with_reducible refine Gr.alloc ?_ _) | (with_reducible refine Gr.drew ?_) | (with_reducible refine Gr.drewN ?_ _) | (with_reducible refine Gr.trans ?_ (by assumption)) | (with_reducible refine Gr.setCell ?_ (by first | exact Nat.le_refl _ | omega | (simp; done) | (simp; omega)) _)))
    go_enter Tryz.func24, Tryz.ntmps24
    go_wp2
    clear f0 m0 f1 m1 f2 m2 f3 m3 f4 m4 f5 m5 f6 m6 f7 m7 hne
    clear ka_0 ka_1 ka_2 ka_3 ka_4 ka_5 ka_6 ka_7 ka_8 ga_0 ga_1 ga_2 ga_3 ga_4 ga_5 ga_6 ga_7 ga_8 la_0 kb_0 kb_1 kb_2 kb_3 kb_4 kb_5 kb_6 kb_7 kb_8 gb_0 gb_1 gb_2 gb_3 gb_4 gb_5 gb_6 gb_7 gb_8 lb_0
    go_loopw [5] (fun i wr => ∃ k : Nat, k ≤ x.l.length ∧ i = .int .i64 k ∧ Hid (eqL eqChg (x.l.take k) (y.l.take k) = true) ∧ Gr ((w.alloc (.cells #[.int .i64 x.id, .int .i64 x.epoch, .int .i64 x.prio, .string x.anchor, .int .i64 x.sw, .int .i64 x.sl, .int .i64 x.bw, .int .i64 x.bl, (.slice qx x.l.length cx)] 40)).alloc (.cells #[.int .i64 y.id, .int .i64 y.epoch, .int .i64 y.prio, .string y.anchor, .int .i64 y.sw, .int .i64 y.sl, .int .i64 y.bw, .int .i64 y.bl, (.slice qy y.l.length cy)] 40)) wr) (fun i _ => x.l.length - (intOf i).toNat)
    case atStart => exact ⟨0, Nat.zero_le _, rfl, Lib.hid rfl, (by repeat (first | (with_reducible exact Gr.refl _) | (with_reducible assumption) | (with_reducible refine Gr.alloc ?_ _) | (with_reducible refine Gr.drew ?_) | (with_reducible refine Gr.drewN ?_ _) | (with_reducible refine Gr.trans ?_ (by assumption)) | (with_reducible refine Gr.setCell ?_ (by first | exact Nat.le_refl _ | omega | (simp; done) | (simp; omega)) _)))⟩
    case round =>
      obtain ⟨k, hk, rfl, HP, hg1⟩ := hrel
      have hg := hg0.trans hg1
      obtain ⟨ka_0, ka_1, ka_2, ka_3, ka_4, ka_5, ka_6, ka_7, ka_8, ga_0, ga_1, ga_2, ga_3, ga_4, ga_5, ga_6, ga_7, ga_8, la_0⟩ := blk9 (hg1.blk HB1.out)
      obtain ⟨kb_0, kb_1, kb_2, kb_3, kb_4, kb_5, kb_6, kb_7, kb_8, gb_0, gb_1, gb_2, gb_3, gb_4, gb_5, gb_6, gb_7, gb_8, lb_0⟩ := blk9 (hg1.blk HB2.out)
      by_cases hlt : k < x.l.length
      · have hlb : k < y.l.length := by rw [← HL.out]; exact hlt
        obtain ⟨bk, of, cp, e1, q2, q3, c1, c2, c3⟩ := (HX.out.gr hg).at hlt
        obtain ⟨bk2, of2, cp2, e2, r2, r3, d1, d2, d3⟩ := (HY.out.gr hg).at hlb
        injection e1 with e1a e1b e1c
        injection e2 with e2a e2b e2c
        subst e1a e1c e2a e2c
        have HS : Hid (eqL eqChg (x.l.take (k + 1)) (y.l.take (k + 1)) = eqChg x.l[k] y.l[k]) := Lib.hid (by
          rw [List.take_succ_eq_append_getElem hlt, List.take_succ_eq_append_getElem hlb, eqL_snoc _ _ (by simp; rw [HL.out]), HP.out, Bool.true_and])
        have HF : Hid (eqChg x.l[k] y.l[k] = false → eqL eqChg x.l y.l = false) := Lib.hid (fun hf => by
          have h7 := HS.out
          rw [hf] at h7
          rw [← List.take_append_drop (k + 1) x.l, ← List.take_append_drop (k + 1) y.l]
          exact eqL_app _ _ (by simp; rw [HL.out]) h7)
        generalize x.l[k] = p at c1 c2 c3 HS HF
        generalize y.l[k] = q at d1 d2 d3 HS HF
        obtain ⟨s1, v1, l1⟩ := p
        obtain ⟨s2, v2, l2⟩ := q
        have HC : Hid (eqChg ⟨s1, v1, l1⟩ ⟨s2, v2, l2⟩ = ((s1 == s2) && (v1.toList == v2.toList) && (l1 == l2))) := Lib.hid rfl
        simp only at c1 c2 c3 d1 d2 d3
        unfold maxLen at q3 r3
        cases f1 : (s1 == s2) with
        | false =>
          go_wp2
          go_region
          go_wp2
          go_ret
          exact ⟨ret_bool (by symm; rw [HU2.out]; exact HF.out (by rw [HC.out]; simp [*])), (by repeat (first | (with_reducible exact Gr.refl _) | (with_reducible assumption) | (with_reducible refine Gr.alloc ?_ _) | (with_reducible refine Gr.drew ?_) | (with_reducible refine Gr.drewN ?_ _) | (with_reducible refine Gr.trans ?_ (by assumption)) | (with_reducible refine Gr.setCell ?_ (by first | exact Nat.le_refl _ | omega | (simp; done) | (simp; omega)) _)))⟩
        | true =>
        cases f2 : (v1.toList == v2.toList) with
        | false =>
          go_wp2
          go_region
          go_wp2
          go_ret
          exact ⟨ret_bool (by symm; rw [HU2.out]; exact HF.out (by rw [HC.out]; simp [*])), (by repeat (first | (with_reducible exact Gr.refl _) | (with_reducible assumption) | (with_reducible refine Gr.alloc ?_ _) | (with_reducible refine Gr.drew ?_) | (with_reducible refine Gr.drewN ?_ _) | (with_reducible refine Gr.trans ?_ (by assumption)) | (with_reducible refine Gr.setCell ?_ (by first | exact Nat.le_refl _ | omega | (simp; done) | (simp; omega)) _)))⟩
        | true =>
        cases f3 : (l1 == l2) with
        | false =>
          go_wp2
          go_region
          go_wp2
          go_ret
          exact ⟨ret_bool (by symm; rw [HU2.out]; exact HF.out (by rw [HC.out]; simp [*])), (by repeat (first | (with_reducible exact Gr.refl _) | (with_reducible assumption) | (with_reducible refine Gr.alloc ?_ _) | (with_reducible refine Gr.drew ?_) | (with_reducible refine Gr.drewN ?_ _) | (with_reducible refine Gr.trans ?_ (by assumption)) | (with_reducible refine Gr.setCell ?_ (by first | exact Nat.le_refl _ | omega | (simp; done) | (simp; omega)) _)))⟩
        | true =>
          go_wp2
          go_region
          go_wp2
          go_roundw
          case rel => exact ⟨k + 1, by omega, by go_num, Lib.hid (by rw [HS.out, HC.out]; simp [*]), (by repeat (first | (with_reducible exact Gr.refl _) | (with_reducible assumption) | (with_reducible refine Gr.alloc ?_ _) | (with_reducible refine Gr.drew ?_) | (with_reducible refine Gr.drewN ?_ _) | (with_reducible refine Gr.trans ?_ (by assumption)) | (with_reducible refine Gr.setCell ?_ (by first | exact Nat.le_refl _ | omega | (simp; done) | (simp; omega)) _)))⟩
          case measure => simp [intOf]; omega
      · obtain rfl : k = x.l.length := by omega
        have hP := HP.out
        rw [List.take_length, HL.out, List.take_length] at hP
        have HP2 := Lib.hid hP
        clear hP
        go_wp2
        go_ret
        exact ⟨ret_bool (by rw [HU2.out]; exact HP2.out.symm), hg⟩
  · have HL := Lib.hid hl
    have hne : ((x.l.length : Int) != (y.l.length : Int)) = true := by rw [bne_iff_ne]; intro e; exact hl (by exact_mod_cast e)
    clear hl
    go_enter Tryz.func24, Tryz.ntmps24
    go_wp2
    go_ret
    exact ⟨ret_bool (by rw [HU2.out, eqL_len HL.out]), (by repeat (first | (with_reducible exact Gr.refl _) | (with_reducible assumption) | (with_reducible refine Gr.alloc ?_ _) | (with_reducible refine Gr.drew ?_) | (with_reducible refine Gr.drewN ?_ _) | (with_reducible refine Gr.trans ?_ (by assumption)) | (with_reducible refine Gr.setCell ?_ (by first | exact Nat.le_refl _ | omega | (simp; done) | (simp; omega)) _)))⟩

end Go.Proofs.YthgecojbggoniaaGreatDoor
