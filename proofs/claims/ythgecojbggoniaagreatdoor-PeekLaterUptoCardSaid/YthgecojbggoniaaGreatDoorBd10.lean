/- What the rows stand on, part 10: CelJ, CelE. Printed by bundle.py out of my texts. -/
import Derived.Test.YthgecojbggoniaaGreatDoorBd09
namespace Go.Proofs.YthgecojbggoniaaGreatDoor
open Go.RowKit
set_option maxRecDepth 100000
set_option linter.unusedVariables false
set_option linter.unusedSimpArgs false

theorem tnum {B : Nat} {s : St} {w : World} (h : Rdr 135 B s w) (hlen : s.1.length ≤ 140737488355320) :
    Calls Tryz.prog 95 #[.pointer (some ⟨B, 0, none⟩)] w fun e w' => e = .returned (.int .i64 (dvalN s)) ∧ Rdr 135 B (dnextN s) w' ∧ Fx B w w' := by
  have H := Lib.hid h
  have hlt := h.lt
  obtain ⟨⟨v, hv, hr⟩, _⟩ := h
  obtain ⟨k_0, k_1, g_0, g_1, l_0⟩ := blk2 hv
  have HV := Lib.hid hv
  have HT := Lib.hid (refTakeNum_any hr (by omega))
  have HN : Hid (dnextN s = if (decide ((takeN s.1).2.2 ≠ 0) || s.2) = true then (s.1, true) else ((takeN s.1).2.1, s.2)) := Lib.hid rfl
  have HF : Hid (dvalN s = if (decide ((takeN s.1).2.2 ≠ 0) || s.2) = true then 0 else (takeN s.1).1) := Lib.hid rfl
  clear hv hr
  obtain ⟨l, b⟩ := s
  generalize (takeN (l, b).1).2.2 = q at HT HN HF
  by_cases h0 : q = 0
  · subst h0
    cases b with
    | false =>
      go_enter Tryz.func95, Tryz.ntmps95
      go_wp2_with (go_at_call 117; refine HT.out.mono ?_; rintro e w1 ⟨v1, rfl, hown, hg⟩; (have H1 := Lib.hid (H.out.gr hg)); obtain ⟨p, n, c, rfl⟩ := hown.rd.slice; (have hv1 := hg.blk HV.out); obtain ⟨k_0, k_1, g_0, g_1, l_0⟩ := blk2 hv1; clear hv1)
      go_ret
      exact ⟨by rw [HF.out]; rfl, by rw [HN.out]; simpa using H1.out.setS hown, (Fx.gr hg B).trans (Fx.set 0 _)⟩
    | true =>
      go_enter Tryz.func95, Tryz.ntmps95
      go_wp2_with (go_at_call 117; refine HT.out.mono ?_; rintro e w1 ⟨v1, rfl, hown, hg⟩; (have H1 := Lib.hid (H.out.gr hg)); obtain ⟨p, n, c, rfl⟩ := hown.rd.slice; (have hv1 := hg.blk HV.out); obtain ⟨k_0, k_1, g_0, g_1, l_0⟩ := blk2 hv1; clear hv1)
      go_ret
      exact ⟨by rw [HF.out]; rfl, by rw [HN.out]; simpa using H1.out.setB true, (Fx.gr hg B).trans (Fx.set 1 _)⟩
  · have hb : (q != 0) = true := by simpa using h0
    have hd : (decide (q ≠ 0) || b) = true := by simp [h0]
    have HD := Lib.hid hd
    have HB := Lib.hid hb
    clear h0 hd hb
    go_enter Tryz.func95, Tryz.ntmps95
    have hb := HB.out
    go_wp2_with (go_at_call 117; refine HT.out.mono ?_; rintro e w1 ⟨v1, rfl, hown, hg⟩; (have H1 := Lib.hid (H.out.gr hg)); obtain ⟨p, n, c, rfl⟩ := hown.rd.slice; (have hv1 := hg.blk HV.out); obtain ⟨k_0, k_1, g_0, g_1, l_0⟩ := blk2 hv1; clear hv1)
    go_ret
    exact ⟨by rw [HF.out, if_pos HD.out]; rfl, by rw [HN.out, if_pos HD.out]; simpa using H1.out.setB true, (Fx.gr hg B).trans (Fx.set 1 _)⟩

theorem tstr {B : Nat} {s : St} {w : World} (h : Rdr 135 B s w) (hlen : s.1.length ≤ 140737488355320) :
    Calls Tryz.prog 68 #[.pointer (some ⟨B, 0, none⟩)] w fun e w' => e = .returned (.string ⟨(dvalS s).toArray⟩) ∧ Rdr 135 B (dnextS s) w' ∧ Fx B w w' := by
  have H := Lib.hid h
  have hlt := h.lt
  obtain ⟨⟨v, hv, hr⟩, _⟩ := h
  obtain ⟨k_0, k_1, g_0, g_1, l_0⟩ := blk2 hv
  have HV := Lib.hid hv
  have HT := Lib.hid (refTakeStr_any hr (by omega))
  have HN : Hid (dnextS s = if (decide ((takeS s.1).2.2 ≠ 0) || s.2) = true then (s.1, true) else ((takeS s.1).2.1, s.2)) := Lib.hid rfl
  have HF : Hid (dvalS s = if (decide ((takeS s.1).2.2 ≠ 0) || s.2) = true then [] else (takeS s.1).1) := Lib.hid rfl
  clear hv hr
  obtain ⟨l, b⟩ := s
  generalize (takeS (l, b).1).2.2 = q at HT HN HF
  by_cases h0 : q = 0
  · subst h0
    cases b with
    | false =>
      go_enter Tryz.func68, Tryz.ntmps68
      go_wp2_with (go_at_call 96; refine HT.out.mono ?_; rintro e w1 ⟨v1, rfl, hown, hg⟩; (have H1 := Lib.hid (H.out.gr hg)); obtain ⟨p, n, c, rfl⟩ := hown.rd.slice; (have hv1 := hg.blk HV.out); obtain ⟨k_0, k_1, g_0, g_1, l_0⟩ := blk2 hv1; clear hv1)
      go_ret
      exact ⟨by rw [HF.out]; rfl, by rw [HN.out]; simpa using H1.out.setS hown, (Fx.gr hg B).trans (Fx.set 0 _)⟩
    | true =>
      go_enter Tryz.func68, Tryz.ntmps68
      go_wp2_with (go_at_call 96; refine HT.out.mono ?_; rintro e w1 ⟨v1, rfl, hown, hg⟩; (have H1 := Lib.hid (H.out.gr hg)); obtain ⟨p, n, c, rfl⟩ := hown.rd.slice; (have hv1 := hg.blk HV.out); obtain ⟨k_0, k_1, g_0, g_1, l_0⟩ := blk2 hv1; clear hv1)
      go_ret
      exact ⟨by rw [HF.out]; rfl, by rw [HN.out]; simpa using H1.out.setB true, (Fx.gr hg B).trans (Fx.set 1 _)⟩
  · have hb : (q != 0) = true := by simpa using h0
    have hd : (decide (q ≠ 0) || b) = true := by simp [h0]
    have HD := Lib.hid hd
    have HB := Lib.hid hb
    clear h0 hd hb
    go_enter Tryz.func68, Tryz.ntmps68
    have hb := HB.out
    go_wp2_with (go_at_call 96; refine HT.out.mono ?_; rintro e w1 ⟨v1, rfl, hown, hg⟩; (have H1 := Lib.hid (H.out.gr hg)); obtain ⟨p, n, c, rfl⟩ := hown.rd.slice; (have hv1 := hg.blk HV.out); obtain ⟨k_0, k_1, g_0, g_1, l_0⟩ := blk2 hv1; clear hv1)
    go_ret
    exact ⟨by rw [HF.out, if_pos HD.out]; rfl, by rw [HN.out, if_pos HD.out]; simpa using H1.out.setB true, (Fx.gr hg B).trans (Fx.set 1 _)⟩

theorem tflag {B : Nat} {s : St} {w : World} (h : Rdr 135 B s w) (hlen : s.1.length ≤ 140737488355320) :
    Calls Tryz.prog 67 #[.pointer (some ⟨B, 0, none⟩)] w fun e w' => e = .returned (.bool (dvalF s)) ∧ Rdr 135 B (dnextF s) w' ∧ Fx B w w' := by
  have hlt := h.lt
  have HR := Lib.hid (tnum h hlen)
  have HF : Hid (dvalF s = decide (dvalN s = 1)) := Lib.hid rfl
  have HN : Hid (dnextF s = ((dnextN s).1, (dnextN s).2 || decide (1 < dvalN s))) := Lib.hid rfl
  clear h
  generalize dvalN s = n at HR HF HN
  generalize dnextN s = s' at HR HN
  obtain ⟨l', b'⟩ := s'
  cases b' with
  | false =>
    go_enter Tryz.func67, Tryz.ntmps67
    go_wp2_with (go_at_call 95; refine HR.out.mono ?_; rintro e w1 ⟨rfl, hr1, hF1⟩; (have H1 := Lib.hid hr1); obtain ⟨⟨v1, hv1, _⟩, _⟩ := hr1; obtain ⟨k_0, k_1, g_0, g_1, l_0⟩ := blk2 hv1; clear hv1)
    go_ret
    exact ⟨by rw [HF.out]; exact ret_bool (by rw [Bool.eq_iff_iff]; simp; omega), by rw [HN.out]; have := H1.out.setB (decide (1 < n)); rw [show decide ((1 : Int) < (n : Int)) = decide (1 < n) by rw [decide_eq_decide]; omega]; simpa using this, hF1.trans (Fx.set 1 _)⟩
  | true =>
    go_enter Tryz.func67, Tryz.ntmps67
    go_wp2_with (go_at_call 95; refine HR.out.mono ?_; rintro e w1 ⟨rfl, hr1, hF1⟩; (have H1 := Lib.hid hr1); obtain ⟨⟨v1, hv1, _⟩, _⟩ := hr1; obtain ⟨k_0, k_1, g_0, g_1, l_0⟩ := blk2 hv1; clear hv1)
    go_ret
    exact ⟨by rw [HF.out]; exact ret_bool (by rw [Bool.eq_iff_iff]; simp; omega), by rw [HN.out]; have := H1.out.setB true; simpa using this, hF1.trans (Fx.set 1 _)⟩

theorem tstamp {B : Nat} {s : St} {w : World} (h : Rdr 135 B s w) (hlen : s.1.length ≤ 140737488355320) :
    Calls Tryz.prog 119 #[.pointer (some ⟨B, 0, none⟩)] w fun e w' => e = .returned (.agg #[.int .i64 (dvalN s), .int .i64 (dvalN (dnextN s))]) ∧ Rdr 135 B (dnextN (dnextN s)) w' ∧ Fx B w w' := by
  have hlt := h.lt
  have hl2 := dnextN_length s
  have H := Lib.hid h
  clear h
  go_enter Tryz.func119, Tryz.ntmps119
  go_wp2_with fail
  refine (tnum (H.out.gr (by repeat (first | (with_reducible exact Gr.refl _) | (with_reducible assumption) | (with_reducible refine Gr.alloc ?_ _) | (with_reducible refine Gr.drew ?_) | (with_reducible refine Gr.drewN ?_ _) | (with_reducible refine Gr.trans ?_ (by assumption)) | (with_reducible refine Gr.setCell ?_ (by first | exact Nat.le_refl _ | omega | (simp; done) | (simp; omega)) _)))) hlen).mono ?_
  rintro e w1 ⟨rfl, hr1, hF1⟩
  have HR1 := Lib.hid hr1
  have hS1 : w1.heap[w.heap.size]? = some (.cells #[.int .i64 0, .int .i64 0] 26) := hF1.blk _ _ (heap_alloc_new _ _) (by omega)
  obtain ⟨k_0, k_1, g_0, g_1, l_0⟩ := blk2 hS1
  have HS1 := Lib.hid hS1
  clear hr1 hS1
  go_wp2_with fail
  refine (tnum HR1.out (by omega)).mono ?_
  rintro e w2 ⟨rfl, hr2, hF2⟩
  have HR2 := Lib.hid hr2
  have hS2 : w2.heap[w.heap.size]? = some (.cells #[.int .i64 0, .int .i64 0] 26) := hF2.blk _ _ HS1.out (by omega)
  clear k_0 k_1 g_0 g_1 l_0
  obtain ⟨k_0, k_1, g_0, g_1, l_0⟩ := blk2 hS2
  have HS2 := Lib.hid hS2
  clear hr2 hS2
  go_wp2
  obtain ⟨q0, q1, _, _, _⟩ := blk2 (by simpa using heap_set (heap_set HS2.out 0 (.int .i64 (dvalN s))) 1 (.int .i64 (dvalN (dnextN s))))
  refine bodyPost_ret (v := .agg #[.int .i64 (dvalN s), .int .i64 (dvalN (dnextN s))]) (by simp [results, Tryz.results119, go_sem, q0, q1]) rfl ⟨rfl, ?_, ?_⟩
  · have h1 := HR2.out.setO (i := 0) (u := .int .i64 (dvalN s)) HS2.out (by omega) (noU8_ints2 _ _)
    exact h1.setO (i := 1) (by simpa using heap_set HS2.out 0 (.int .i64 (dvalN s))) (by omega) (noU8_ints2 _ _)
  · exact (((((Fx.gr (by repeat (first | (with_reducible exact Gr.refl _) | (with_reducible assumption) | (with_reducible refine Gr.alloc ?_ _) | (with_reducible refine Gr.drew ?_) | (with_reducible refine Gr.drewN ?_ _) | (with_reducible refine Gr.trans ?_ (by assumption)) | (with_reducible refine Gr.setCell ?_ (by first | exact Nat.le_refl _ | omega | (simp; done) | (simp; omega)) _))) B).trans hF1).trans hF2).setNew (Nat.le_refl _) 0 _).setNew (Nat.le_refl _) 1 _)


theorem tend {B : Nat} {s : St} {w : World} (h : Rdr 135 B s w) (hlen : s.1.length ≤ 140737488355320) :
    Calls Tryz.prog 69 #[.pointer (some ⟨B, 0, none⟩)] w fun e w' => e = .returned (.bool (endB s)) ∧ w = w' := by
  have hlt := h.lt
  obtain ⟨l, b⟩ := s
  obtain ⟨⟨v, hv, hr⟩, _⟩ := h
  obtain ⟨k_0, k_1, g_0, g_1, l_0⟩ := blk2 hv
  have hln := len_rd (ty := 3) hr
  clear hr hv
  cases b with
  | true =>
    go_enter Tryz.func69, Tryz.ntmps69
    go_wp2
    go_ret
    exact ⟨ret_bool (by simp [endB]), rfl⟩
  | false =>
    go_enter Tryz.func69, Tryz.ntmps69
    go_wp2
    go_ret
    exact ⟨ret_bool (by cases l <;> simp [endB]; try omega), rfl⟩
end Go.Proofs.YthgecojbggoniaaGreatDoor
namespace Go.Proofs.YthgecojbggoniaaGreatDoor
open Go.RowKit
set_option maxRecDepth 100000
set_option linter.unusedVariables false
set_option linter.unusedSimpArgs false

theorem empty_size (s : ByteArray) : s.toList.isEmpty = decide (s.size = 0) := by
  rw [ByteArray.toList_eq]
  show s.data.toList.isEmpty = decide (s.data.size = 0)
  rw [← Array.length_toList]
  cases s.data.toList <;> simp

set_option maxHeartbeats 4000000 in
set_option maxRecDepth 100000 in
theorem refVersion_any (s : ByteArray) (is : Bool) (w : World) :
    Calls Tryz.prog 47 #[.string s, .bool is] w fun e w' => e = .returned (.tuple #[.string ⟨(versionW s.data.toList is).toArray⟩, .int .i64 (versionE s.data.toList is)]) ∧ Gr w w' := by
  have hl : s.data.toList.length = s.size := Array.length_toList
  have h1 := numW_length 1
  have h0 := numW_length 0
  have h2 := strW_length s.data.toList
  have hem := empty_size s
  cases is with
  | true =>
    by_cases h64 : s.size ≤ 64
    · have e1 : versionW s.data.toList true = numW 1 ++ strW s.data.toList := by simp [versionW, okV, hl, h64]
      have e2 : versionE s.data.toList true = 0 := by simp [versionE, okV, hl, h64]
      rw [e1, e2]
      go_enter Tryz.func47, Tryz.ntmps47
      go_wp2_with fail
      go_region_with (first
        | (go_at_call 77; refine (refNumb_any 1 _).mono ?_; rintro e wa ⟨va, rfl, howna, hga⟩; have hca := conv_rd howna.rd; try (have hcb2 := conv_rd (hownb.gr hga).rd))
        | (go_at_call 78; refine (refStrb_any s _).mono ?_; rintro e wb ⟨vb, rfl, hownb, hgb⟩; have hcb := conv_rd hownb.rd; try (have hca2 := conv_rd (howna.gr hgb).rd)))
      all_goals (go_wp2; go_ret2; exact ⟨by rw [str_append]; rfl, (by repeat (first | (with_reducible exact Gr.refl _) | (with_reducible assumption) | (with_reducible refine Gr.alloc ?_ _) | (with_reducible refine Gr.drew ?_) | (with_reducible refine Gr.drewN ?_ _) | (with_reducible refine Gr.trans ?_ (by assumption)) | (with_reducible refine Gr.setCell ?_ (by first | exact Nat.le_refl _ | omega | (simp; done) | (simp; omega)) _)))⟩)
    · have e1 : versionW s.data.toList true = [] := by simp [versionW, okV, hl, h64]
      have e2 : versionE s.data.toList true = 2 := by simp [versionE, okV, hl, h64]
      rw [e1, e2]
      go_enter Tryz.func47, Tryz.ntmps47
      go_wp2
      go_ret2
      exact ⟨rfl, (by repeat (first | (with_reducible exact Gr.refl _) | (with_reducible assumption) | (with_reducible refine Gr.alloc ?_ _) | (with_reducible refine Gr.drew ?_) | (with_reducible refine Gr.drewN ?_ _) | (with_reducible refine Gr.trans ?_ (by assumption)) | (with_reducible refine Gr.setCell ?_ (by first | exact Nat.le_refl _ | omega | (simp; done) | (simp; omega)) _)))⟩
  | false =>
    by_cases hz : s.size = 0
    · have hs : s = ⟨#[]⟩ := by
        apply ba_ext
        rw [List.eq_nil_of_length_eq_zero (hl.trans hz)]
      subst hs
      have e1 : versionW [] false = numW 0 := by simp [versionW, okV]
      have e2 : versionE [] false = 0 := by simp [versionE, okV]
      show Calls _ _ _ _ fun e w' => e = .returned (.tuple #[.string ⟨(versionW [] false).toArray⟩, .int .i64 (versionE [] false)]) ∧ Gr w w'
      rw [e1, e2]
      clear hem
      go_enter Tryz.func47, Tryz.ntmps47
      go_wp2_with (go_at_call 77; refine (refNumb_any 0 _).mono ?_; rintro e wa ⟨va, rfl, howna, hga⟩; have hca := conv_rd howna.rd)
      go_ret2
      exact ⟨rfl, hga⟩
    · have hne : s.data.toList ≠ [] := by
        intro h
        rw [h] at hl
        exact hz hl.symm
      have e1 : versionW s.data.toList false = [] := by
        simp [versionW, okV]
        intro _ h; exact absurd (by simpa using h) hne
      have e2 : versionE s.data.toList false = 2 := by
        simp [versionE, okV]
        intro _ h; exact absurd (by simpa using h) hne
      have hbe : (s == ⟨#[]⟩) = false := by
        cases hb : s == ⟨#[]⟩ with
        | false => rfl
        | true =>
          exfalso
          have : (s.data == #[]) = true := hb
          simp at this
          exact hne (by simp [this])
      have hse : s.toList.isEmpty = false := by rw [hem]; simpa using hz
      rw [e1, e2]
      go_enter Tryz.func47, Tryz.ntmps47
      go_wp2
      all_goals (go_ret2; exact ⟨rfl, (by repeat (first | (with_reducible exact Gr.refl _) | (with_reducible assumption) | (with_reducible refine Gr.alloc ?_ _) | (with_reducible refine Gr.drew ?_) | (with_reducible refine Gr.drewN ?_ _) | (with_reducible refine Gr.trans ?_ (by assumption)) | (with_reducible refine Gr.setCell ?_ (by first | exact Nat.le_refl _ | omega | (simp; done) | (simp; omega)) _)))⟩)
end Go.Proofs.YthgecojbggoniaaGreatDoor
