/- Layer 11: the program's texts of intents. -/
import Derived.Test.YtpnojkgdjkncbaaDoorCelZ
import Derived.Test.YtpnojkgdjkncbaaDoorCelD
namespace Go.Proofs.YtpnojkgdjkncbaaDoor
open Go.RowKit
set_option maxRecDepth 100000
set_option linter.unusedVariables false
set_option linter.unusedSimpArgs false

set_option maxHeartbeats 8000000 in
theorem cellIntent_any {w : World} (x : Itt) {vl : Value} (h : RdC w vl x.l) (hlen : x.l.length ≤ 1000000000) :
    Calls Tryd.prog 23 #[.agg #[.int .i64 x.id, .int .i64 x.epoch, .int .i64 x.prio, .string x.anchor, .int .i64 x.sw, .int .i64 x.sl, .int .i64 x.bw, .int .i64 x.bl, vl]] w fun e w' => e = .returned (.tuple #[.string ⟨(ittT x).toArray⟩, .int .i64 (okE (ittOk x))]) ∧ Gr w w' := by
  have HM := Lib.hid (fun (w' : World) (hg : Gr w w') => checkIntent_any x (h.gr hg) (by omega))
  have HT : Hid (ittT x = if ittOk x = true then ittH x ++ x.l.flatMap chgW else []) := Lib.hid (by rw [← ittW_eq]; rfl)
  obtain ⟨q, c, hvl⟩ := h.form
  have HL := Lib.hid h
  subst hvl
  clear h
  have hbx := heap_alloc_new w (.cells #[.int .i64 x.id, .int .i64 x.epoch, .int .i64 x.prio, .string x.anchor, .int .i64 x.sw, .int .i64 x.sl, .int .i64 x.bw, .int .i64 x.bl, (.slice q x.l.length c)] 39)
  have HBX := Lib.hid hbx
  obtain ⟨k_0, k_1, k_2, k_3, k_4, k_5, k_6, k_7, k_8, g_0, g_1, g_2, g_3, g_4, g_5, g_6, g_7, g_8, l_0⟩ := blk9 hbx
  clear hbx
  have hHl := ittH_length x
  have m4 := strW_length x.anchor.data.toList
  have HHX : Hid (ittH x = ([] : List UInt8) ++ [x.id, x.epoch, x.prio].flatMap numW ++ strW x.anchor.data.toList ++ (stampW (x.sw, x.sl) ++ stampW (x.bw, x.bl)) ++ [(x.l.length : Int)].flatMap numW) := Lib.hid (by simp [ittH])
  have h3 := numWs_length [x.id, x.epoch, x.prio]
  have hst := stampsW_length [(x.sw, x.sl), (x.bw, x.bl)]
  simp at h3 hst
  have hW0 := Wri.new' (w.alloc (.cells #[.int .i64 x.id, .int .i64 x.epoch, .int .i64 x.prio, .string x.anchor, .int .i64 x.sw, .int .i64 x.sl, .int .i64 x.bw, .int .i64 x.bl, (.slice q x.l.length c)] 39)) (N := w.heap.size) (n := w.heap.size + 1) (by simp) (by omega)
  have HW0 := Lib.hid hW0
  clear hW0
  go_enter Tryd.func23, Tryd.ntmps23
  go_wp2_with fail
  refine (wnum (HW0.out.gr (by repeat (first | (with_reducible exact Gr.refl _) | (with_reducible assumption) | (with_reducible refine Gr.alloc ?_ _) | (with_reducible refine Gr.drew ?_) | (with_reducible refine Gr.drewN ?_ _) | (with_reducible refine Gr.trans ?_ (by assumption)) | (with_reducible refine Gr.setCell ?_ (by first | exact Nat.le_refl _ | omega | (simp; done) | (simp; omega)) _)))) _ 3 3 [x.id, x.epoch, x.prio] (by exact heap_newn (by first | rfl | (simp; done))) rfl (by simp)).mono ?_
  rintro e w1 ⟨rfl, hW1, hF1⟩
  have HW1 := Lib.hid hW1
  have HB1 := Lib.hid (hF1.blk _ _ (heap_alloc_mono (heap_alloc_mono HBX.out _) _) (by omega) (.inr (by simp)))
  have hG1 : Gr w w1 := Fb.toGr (by repeat (first | (with_reducible exact Gr.refl _) | (with_reducible assumption) | (with_reducible refine Gr.alloc ?_ _) | (with_reducible refine Gr.drew ?_) | (with_reducible refine Gr.drewN ?_ _) | (with_reducible refine Gr.trans ?_ (by assumption)) | (with_reducible refine Gr.setCell ?_ (by first | exact Nat.le_refl _ | omega | (simp; done) | (simp; omega)) _))) hF1 (Nat.le_refl _) (by omega)
  have hz1 := hW1.lt
  clear hW1 hF1
  obtain ⟨k_0, k_1, k_2, k_3, k_4, k_5, k_6, k_7, k_8, g_0, g_1, g_2, g_3, g_4, g_5, g_6, g_7, g_8, l_0⟩ := blk9 HB1.out
  go_wp2_with fail
  refine (wstr HW1.out x.anchor (by simp; omega)).mono ?_
  rintro e w2 ⟨rfl, hW2, hF2⟩
  have HW2 := Lib.hid hW2
  have HB2 := Lib.hid (hF2.blk _ _ HB1.out (by omega) (.inr (by simp)))
  have hG2 : Gr w w2 := Fb.toGr hG1 hF2 (Nat.le_refl _) (by omega)
  have hz2 := hW2.lt
  clear hW2 hF2
  obtain ⟨k_0, k_1, k_2, k_3, k_4, k_5, k_6, k_7, k_8, g_0, g_1, g_2, g_3, g_4, g_5, g_6, g_7, g_8, l_0⟩ := blk9 HB2.out
  go_wp2_with fail
  refine (wstamp2 (HW2.out.gr (by repeat (first | (with_reducible exact Gr.refl _) | (with_reducible assumption) | (with_reducible refine Gr.alloc ?_ _) | (with_reducible refine Gr.drew ?_) | (with_reducible refine Gr.drewN ?_ _) | (with_reducible refine Gr.trans ?_ (by assumption)) | (with_reducible refine Gr.setCell ?_ (by first | exact Nat.le_refl _ | omega | (simp; done) | (simp; omega)) _)))) _ _ x.sw x.sl x.bw x.bl (by exact heap_newn (by first | rfl | (simp; done))) (by simp; omega)).mono ?_
  rintro e w3 ⟨rfl, hW3, hF3⟩
  have HW3 := Lib.hid hW3
  have HB3 := Lib.hid (hF3.blk _ _ (heap_alloc_mono HB2.out _) (by omega) (.inr (by simp)))
  have hG3 : Gr w w3 := Fb.toGr (hG2.alloc _) hF3 (Nat.le_refl _) (by omega)
  have hz3 := hW3.lt
  clear hW3 hF3
  obtain ⟨k_0, k_1, k_2, k_3, k_4, k_5, k_6, k_7, k_8, g_0, g_1, g_2, g_3, g_4, g_5, g_6, g_7, g_8, l_0⟩ := blk9 HB3.out
  go_wp2_with fail
  refine (wnum (HW3.out.gr (by repeat (first | (with_reducible exact Gr.refl _) | (with_reducible assumption) | (with_reducible refine Gr.alloc ?_ _) | (with_reducible refine Gr.drew ?_) | (with_reducible refine Gr.drewN ?_ _) | (with_reducible refine Gr.trans ?_ (by assumption)) | (with_reducible refine Gr.setCell ?_ (by first | exact Nat.le_refl _ | omega | (simp; done) | (simp; omega)) _)))) _ 1 1 [(x.l.length : Int)] (by exact heap_newn (by first | rfl | (simp; done))) rfl (by simp; omega)).mono ?_
  rintro e w4 ⟨rfl, hW4, hF4⟩
  have HW4 := Lib.hid hW4
  have HB4 := Lib.hid (hF4.blk _ _ (heap_alloc_mono HB3.out _) (by omega) (.inr (by simp)))
  have hG4 : Gr w w4 := Fb.toGr (hG3.alloc _) hF4 (Nat.le_refl _) (by omega)
  have hz4 := hW4.lt
  clear hW4 hF4
  obtain ⟨k_0, k_1, k_2, k_3, k_4, k_5, k_6, k_7, k_8, g_0, g_1, g_2, g_3, g_4, g_5, g_6, g_7, g_8, l_0⟩ := blk9 HB4.out
  rw [← HHX.out] at HW4
  go_wp2_with fail
  clear k_0 k_1 k_2 k_3 k_4 k_5 k_6 k_7 k_8 g_0 g_1 g_2 g_3 g_4 g_5 g_6 g_7 g_8 l_0 HW0 HW1 HW2 HW3 HB1 HB2 HB3 h3 hst m4
  go_loopw [32] (fun i wr => ∃ k : Nat, k ≤ x.l.length ∧ i = .int .i64 k ∧ Hid (Wri w.heap.size (w.heap.size + 1) (ittH x ++ (x.l.take k).flatMap chgW) wr) ∧ Gr w wr ∧ Hid (wr.heap[w.heap.size]? = some (.cells #[.int .i64 x.id, .int .i64 x.epoch, .int .i64 x.prio, .string x.anchor, .int .i64 x.sw, .int .i64 x.sl, .int .i64 x.bw, .int .i64 x.bl, (.slice q x.l.length c)] 39))) (fun i _ => x.l.length - (intOf i).toNat)
  case atStart => exact ⟨0, Nat.zero_le _, rfl, Lib.hid (by simpa using HW4.out), hG4, HB4⟩
  case round =>
    clear HW4 hG4 HB4
    obtain ⟨k, hk, rfl, HW, hg, HB⟩ := hrel
    have hzr := HW.out.lt
    by_cases hlt : k < x.l.length
    · obtain ⟨bk, of, cp, e1, q2, q3, c1, c2, c3⟩ := (HL.out.gr hg).at hlt
      injection e1 with e1a e1b e1c
      subst e1a e1c
      have hL0 : (ittH x ++ (x.l.take k).flatMap chgW).length ≤ 140 + 88 * x.l.length := by
        have := chgsW_length (x.l.take k)
        simp only [List.length_append, List.length_take] at this ⊢
        omega
      have HS : Hid (ittH x ++ (x.l.take (k + 1)).flatMap chgW = (ittH x ++ (x.l.take k).flatMap chgW) ++ chgW x.l[k]) := Lib.hid (by
        rw [List.take_succ_eq_append_getElem hlt, List.flatMap_append]; simp)
      generalize ittH x ++ (x.l.take k).flatMap chgW = L0 at hL0 HS HW
      generalize x.l[k] = cc at c1 c2 c3 HS
      obtain ⟨sq, va, dl⟩ := cc
      simp only at c1 c2 c3
      have m1 := numW_length sq
      have m2 := numW_length (if dl = true then 1 else 0)
      unfold maxLen at q3
      have hC := heap_alloc_new wr (.cells #[.int .i64 sq, .string va, .bool dl] 86)
      have HC := Lib.hid hC
      obtain ⟨j_0, j_1, j_2, i_0, i_1, i_2, n_0⟩ := blk3 hC
      clear hC
      go_wp2_with fail
      refine (wnum (HW.out.gr (by repeat (first | (with_reducible exact Gr.refl _) | (with_reducible assumption) | (with_reducible refine Gr.alloc ?_ _) | (with_reducible refine Gr.drew ?_) | (with_reducible refine Gr.drewN ?_ _) | (with_reducible refine Gr.trans ?_ (by assumption)) | (with_reducible refine Gr.setCell ?_ (by first | exact Nat.le_refl _ | omega | (simp; done) | (simp; omega)) _)))) _ 1 1 [sq] (by exact heap_newn (by first | rfl | (simp; done))) rfl (by omega)).mono ?_
      rintro e u1 ⟨rfl, hW1, hF1⟩
      have HW1 := Lib.hid hW1
      have hG1 : Gr w u1 := Fb.toGr ((hg.alloc _).alloc _) hF1 (Nat.le_refl _) (by omega)
      have HC1 := Lib.hid (hF1.blk _ _ (heap_alloc_mono HC.out _) (by omega) (.inr (by simp)))
      have HB1 := Lib.hid (hF1.blk _ _ (heap_alloc_mono (heap_alloc_mono HB.out _) _) (by omega) (.inr (by simp)))
      clear hW1 hF1 j_0 j_1 j_2 i_0 i_1 i_2 n_0
      obtain ⟨j_0, j_1, j_2, i_0, i_1, i_2, n_0⟩ := blk3 HC1.out
      go_wp2_with fail
      refine (wflag HW1.out dl (by simp; omega)).mono ?_
      rintro e u2 ⟨rfl, hW2, hF2⟩
      have HW2 := Lib.hid hW2
      have hG2 : Gr w u2 := Fb.toGr hG1 hF2 (Nat.le_refl _) (by omega)
      have HC2 := Lib.hid (hF2.blk _ _ HC1.out (by omega) (.inr (by simp)))
      have HB2 := Lib.hid (hF2.blk _ _ HB1.out (by omega) (.inr (by simp)))
      clear hW2 hF2 j_0 j_1 j_2 i_0 i_1 i_2 n_0
      obtain ⟨j_0, j_1, j_2, i_0, i_1, i_2, n_0⟩ := blk3 HC2.out
      go_wp2_with fail
      refine (wstr HW2.out va (by simp; omega)).mono ?_
      rintro e u3 ⟨rfl, hW3, hF3⟩
      have HW3 := Lib.hid hW3
      have hG3 : Gr w u3 := Fb.toGr hG2 hF3 (Nat.le_refl _) (by omega)
      have HB3 := Lib.hid (hF3.blk _ _ HB2.out (by omega) (.inr (by simp)))
      clear hW3 hF3 j_0 j_1 j_2 i_0 i_1 i_2 n_0
      go_wp2_with fail
      go_roundw
      case rel => exact ⟨k + 1, by omega, by go_num, Lib.hid (by rw [HS.out]; simpa [chgW] using HW3.out), hG3, HB3⟩
      case measure => simp [intOf]; omega
    · obtain rfl : k = x.l.length := by omega
      rw [List.take_length] at HW
      obtain ⟨k_0, k_1, k_2, k_3, k_4, k_5, k_6, k_7, k_8, g_0, g_1, g_2, g_3, g_4, g_5, g_6, g_7, g_8, l_0⟩ := blk9 HB.out
      go_wp2_with fail
      refine (HM.out _ hg).mono ?_
      rintro e u1 ⟨rfl, hu1⟩
      have HT2 : Hid ((⟨(if okE (ittOk x) = 0 then ittH x ++ x.l.flatMap chgW else []).toArray⟩ : ByteArray) = ⟨(ittT x).toArray⟩) := Lib.hid (by rw [HT.out]; cases ittOk x <;> rfl)
      generalize hoe : okE (ittOk x) = oe at HT2 ⊢
      have HOE := Lib.hid hoe
      clear hoe
      go_wp2_with fail
      refine (wtext (HW.out.gr hu1) oe).mono ?_
      rintro e u2 ⟨rfl, rfl⟩
      rw [HT2.out]
      go_wp2
      go_ret2
      exact ⟨by rw [HOE.out]; rfl, hg.trans hu1⟩
end Go.Proofs.YtpnojkgdjkncbaaDoor
