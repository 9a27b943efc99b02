/- The walks of OrdAgain and OrdOrder. -/
import Derived.Test.YtmidoifdcidjcaaDoorOrdE
namespace Go.Proofs.YtmidoifdcidjcaaDoor
open Go.RowKit
set_option linter.unusedVariables false
set_option linter.unusedSimpArgs false

theorem ordAgain_walk (s : ByteArray) (hs : s.size ≤ 140737488351232) (w : World) (hw : Sh w) :
    Calls Tryd.prog 9 #[.string s] w fun e w' => e = .returned (.bool true) ∧ Gr w w' := by
  obtain ⟨p, q, e, hk, he⟩ : ∃ p q e, takeL [] s.data.toList = (p, q, e) ∧ ((e ≠ 0 ∧ p = [] ∧ q = []) ∨ (e = 0 ∧ keyF p ++ q = s.data.toList ∧ p.length ≤ 1000)) := by
    rcases takeL_again s.data.toList with ⟨e, h, he⟩ | ⟨p, q, h, h1, h2⟩
    · exact ⟨_, _, _, h, .inl ⟨he, rfl, rfl⟩⟩
    · exact ⟨_, _, _, h, .inr ⟨rfl, h1, h2⟩⟩
  obtain ⟨A, B, r, f, hd, hf⟩ : ∃ A B r f, takeDownL s.data.toList = (A, B, r, f) ∧ ((f ≠ 0 ∧ A = 0 ∧ B = 0 ∧ r = []) ∨ (f = 0 ∧ mayB A B = true ∧ downL A B ++ r = s.data.toList)) := by
    rcases takeDown_again s.data.toList with ⟨e, h, he⟩ | ⟨a, b, x, h, h1, h2⟩
    · exact ⟨_, _, _, _, h, .inl ⟨he, rfl, rfl, rfl⟩⟩
    · exact ⟨_, _, _, _, h, .inr ⟨rfl, h1, h2⟩⟩
  have H1 := Lib.hid (takeKey_eq s (by omega) hk)
  have H2 := Lib.hid (takeDown_eq s hd)
  clear hk hd
  have e1 : s.toList = s.data.toList := ByteArray.toList_eq s
  rcases he with ⟨he, rfl, rfl⟩ | ⟨rfl, hkq, hpl⟩
  · have heb : (e == 0) = false := by rw [beq_eq_false_iff_ne]; exact he
    clear he
    rcases hf with ⟨hf, rfl, rfl, rfl⟩ | ⟨rfl, hmy, hdr⟩
    · have hfb : (f == 0) = false := by rw [beq_eq_false_iff_ne]; exact hf
      clear hf
      go_enter Tryd.func9, Tryd.ntmps9
      go_wp2_with (first
        | (go_at_call 14; refine (H1.out _).mono ?_; rintro e w2 ⟨rfl, hg2⟩)
        | (go_at_call 25; refine (H2.out _).mono ?_; rintro e w3 ⟨rfl, hg3⟩)
        | (go_at_call 22; refine (down_all _ _ _).mono ?_; rintro e w5 ⟨rfl, hg5⟩; have hbk : w5.heap[w3.heap.size]? = some (.cells #[.int .i64 0, .int .i64 0] 35) := hg5.blk (by repeat (first | (with_reducible assumption) | (with_reducible exact heap_alloc_new _ _) | (with_reducible refine heap_drew ?_) | (with_reducible exact heap_newn (by first | rfl | (simp; done))) | (with_reducible refine heap_alloc_mono ?_ _))); obtain ⟨k_0, k_1, g_0, g_1, l_0⟩ := blk2 hbk)
        | (go_at_call 12; refine (key_all _ _ (hw.gr (by repeat (first | (with_reducible exact Gr.refl _) | (with_reducible assumption) | (with_reducible refine Gr.alloc ?_ _) | (with_reducible refine Gr.drew ?_) | (with_reducible refine Gr.drewN ?_ _) | (with_reducible refine Gr.trans ?_ (by assumption)) | (with_reducible refine Gr.setCell ?_ (by first | exact Nat.le_refl _ | omega | (simp; done) | (simp; omega)) _))))).mono ?_; rintro e w1 ⟨rfl, hg1⟩) | (go_at_call 14; refine (takeKey_any _ (by first | omega | (simp; omega)) _).mono ?_; rintro e w1 ⟨rfl, hg1⟩) | (go_at_call 22; refine (down_all _ _ _).mono ?_; rintro e w1 ⟨rfl, hg1⟩) | (go_at_call 25; refine (takeDown_any _ _).mono ?_; rintro e w1 ⟨rfl, hg1⟩) | (go_at_call 16; refine (check_any _ _).mono ?_; rintro e w1 ⟨rfl, rfl⟩) | (go_at_call 18; refine (works_any _ (hw.gr (by repeat (first | (with_reducible exact Gr.refl _) | (with_reducible assumption) | (with_reducible refine Gr.alloc ?_ _) | (with_reducible refine Gr.drew ?_) | (with_reducible refine Gr.drewN ?_ _) | (with_reducible refine Gr.trans ?_ (by assumption)) | (with_reducible refine Gr.setCell ?_ (by first | exact Nat.le_refl _ | omega | (simp; done) | (simp; omega)) _))))).mono ?_; rintro e w1 ⟨rfl, hg1⟩) | (go_at_call 19; refine (Tryd.strings_Compare _ _ _).mono ?_; rintro e w1 ⟨rfl, rfl⟩))
      go_ret
      exact ⟨rfl, (by repeat (first | (with_reducible exact Gr.refl _) | (with_reducible assumption) | (with_reducible refine Gr.alloc ?_ _) | (with_reducible refine Gr.drew ?_) | (with_reducible refine Gr.drewN ?_ _) | (with_reducible refine Gr.trans ?_ (by assumption)) | (with_reducible refine Gr.setCell ?_ (by first | exact Nat.le_refl _ | omega | (simp; done) | (simp; omega)) _)))⟩
    · have hcat : (({ data := (downL A B).toArray } : ByteArray) ++ { data := r.toArray }) = s := ba_ext (by rw [Joins.data_append]; exact hdr)
      have hdl : (downL A B).length = 9 := downL_length A B
      have hrl : r.length ≤ s.size := by
        have := congrArg List.length hdr
        simp at this; omega
      clear hdr
      go_enter Tryd.func9, Tryd.ntmps9
      go_wp2_with (first
        | (go_at_call 14; refine (H1.out _).mono ?_; rintro e w2 ⟨rfl, hg2⟩)
        | (go_at_call 25; refine (H2.out _).mono ?_; rintro e w3 ⟨rfl, hg3⟩)
        | (go_at_call 22; refine (down_yes _ _ _ hmy).mono ?_; rintro e w5 ⟨rfl, hg5⟩; have hbk : w5.heap[w3.heap.size]? = some (.cells #[.int .i64 A, .int .i64 B] 35) := hg5.blk (by repeat (first | (with_reducible assumption) | (with_reducible exact heap_alloc_new _ _) | (with_reducible refine heap_drew ?_) | (with_reducible exact heap_newn (by first | rfl | (simp; done))) | (with_reducible refine heap_alloc_mono ?_ _))); obtain ⟨k_0, k_1, g_0, g_1, l_0⟩ := blk2 hbk)
        | (go_at_call 12; refine (key_all _ _ (hw.gr (by repeat (first | (with_reducible exact Gr.refl _) | (with_reducible assumption) | (with_reducible refine Gr.alloc ?_ _) | (with_reducible refine Gr.drew ?_) | (with_reducible refine Gr.drewN ?_ _) | (with_reducible refine Gr.trans ?_ (by assumption)) | (with_reducible refine Gr.setCell ?_ (by first | exact Nat.le_refl _ | omega | (simp; done) | (simp; omega)) _))))).mono ?_; rintro e w1 ⟨rfl, hg1⟩) | (go_at_call 14; refine (takeKey_any _ (by first | omega | (simp; omega)) _).mono ?_; rintro e w1 ⟨rfl, hg1⟩) | (go_at_call 22; refine (down_all _ _ _).mono ?_; rintro e w1 ⟨rfl, hg1⟩) | (go_at_call 25; refine (takeDown_any _ _).mono ?_; rintro e w1 ⟨rfl, hg1⟩) | (go_at_call 16; refine (check_any _ _).mono ?_; rintro e w1 ⟨rfl, rfl⟩) | (go_at_call 18; refine (works_any _ (hw.gr (by repeat (first | (with_reducible exact Gr.refl _) | (with_reducible assumption) | (with_reducible refine Gr.alloc ?_ _) | (with_reducible refine Gr.drew ?_) | (with_reducible refine Gr.drewN ?_ _) | (with_reducible refine Gr.trans ?_ (by assumption)) | (with_reducible refine Gr.setCell ?_ (by first | exact Nat.le_refl _ | omega | (simp; done) | (simp; omega)) _))))).mono ?_; rintro e w1 ⟨rfl, hg1⟩) | (go_at_call 19; refine (Tryd.strings_Compare _ _ _).mono ?_; rintro e w1 ⟨rfl, rfl⟩))
      go_ret
      exact ⟨rfl, (by repeat (first | (with_reducible exact Gr.refl _) | (with_reducible assumption) | (with_reducible refine Gr.alloc ?_ _) | (with_reducible refine Gr.drew ?_) | (with_reducible refine Gr.drewN ?_ _) | (with_reducible refine Gr.trans ?_ (by assumption)) | (with_reducible refine Gr.setCell ?_ (by first | exact Nat.le_refl _ | omega | (simp; done) | (simp; omega)) _)))⟩
  · have hcat1 : (({ data := (keyF p).toArray } : ByteArray) ++ { data := q.toArray }) = s := ba_ext (by rw [Joins.data_append]; exact hkq)
    have hkl : (keyF p).length + q.length = s.size := by
      have := congrArg List.length hkq
      simpa using this
    clear hkq
    rcases hf with ⟨hf, rfl, rfl, rfl⟩ | ⟨rfl, hmy, hdr⟩
    · have hfb : (f == 0) = false := by rw [beq_eq_false_iff_ne]; exact hf
      clear hf
      have hkl' : (keyF p).length + q.length ≤ 140737488351232 := by omega
      clear hkl
      go_enter Tryd.func9, Tryd.ntmps9
      go_wp2_with (first
        | (go_at_call 14; refine (H1.out _).mono ?_; rintro e w2 ⟨rfl, hg2⟩)
        | (go_at_call 25; refine (H2.out _).mono ?_; rintro e w3 ⟨rfl, hg3⟩)
        | (go_at_call 20; refine (lawKey_any _ _ (hw.gr (by repeat (first | (with_reducible exact Gr.refl _) | (with_reducible assumption) | (with_reducible refine Gr.alloc ?_ _) | (with_reducible refine Gr.drew ?_) | (with_reducible refine Gr.drewN ?_ _) | (with_reducible refine Gr.trans ?_ (by assumption)) | (with_reducible refine Gr.setCell ?_ (by first | exact Nat.le_refl _ | omega | (simp; done) | (simp; omega)) _))))).mono ?_; rintro e w4 ⟨rfl, hg4⟩; have hbk : w4.heap[w3.heap.size]? = some (.cells #[.int .i64 0, .int .i64 0] 35) := hg4.blk (by repeat (first | (with_reducible assumption) | (with_reducible exact heap_alloc_new _ _) | (with_reducible refine heap_drew ?_) | (with_reducible exact heap_newn (by first | rfl | (simp; done))) | (with_reducible refine heap_alloc_mono ?_ _))); obtain ⟨k_0, k_1, g_0, g_1, l_0⟩ := blk2 hbk)
        | (go_at_call 22; refine (down_all _ _ _).mono ?_; rintro e w5 ⟨rfl, hg5⟩; have hbk : w5.heap[w3.heap.size]? = some (.cells #[.int .i64 0, .int .i64 0] 35) := hg5.blk (by repeat (first | (with_reducible assumption) | (with_reducible exact heap_alloc_new _ _) | (with_reducible refine heap_drew ?_) | (with_reducible exact heap_newn (by first | rfl | (simp; done))) | (with_reducible refine heap_alloc_mono ?_ _))); obtain ⟨k_0, k_1, g_0, g_1, l_0⟩ := blk2 hbk)
        | (go_at_call 12; refine (key_all _ _ (hw.gr (by repeat (first | (with_reducible exact Gr.refl _) | (with_reducible assumption) | (with_reducible refine Gr.alloc ?_ _) | (with_reducible refine Gr.drew ?_) | (with_reducible refine Gr.drewN ?_ _) | (with_reducible refine Gr.trans ?_ (by assumption)) | (with_reducible refine Gr.setCell ?_ (by first | exact Nat.le_refl _ | omega | (simp; done) | (simp; omega)) _))))).mono ?_; rintro e w1 ⟨rfl, hg1⟩) | (go_at_call 14; refine (takeKey_any _ (by first | omega | (simp; omega)) _).mono ?_; rintro e w1 ⟨rfl, hg1⟩) | (go_at_call 22; refine (down_all _ _ _).mono ?_; rintro e w1 ⟨rfl, hg1⟩) | (go_at_call 25; refine (takeDown_any _ _).mono ?_; rintro e w1 ⟨rfl, hg1⟩) | (go_at_call 16; refine (check_any _ _).mono ?_; rintro e w1 ⟨rfl, rfl⟩) | (go_at_call 18; refine (works_any _ (hw.gr (by repeat (first | (with_reducible exact Gr.refl _) | (with_reducible assumption) | (with_reducible refine Gr.alloc ?_ _) | (with_reducible refine Gr.drew ?_) | (with_reducible refine Gr.drewN ?_ _) | (with_reducible refine Gr.trans ?_ (by assumption)) | (with_reducible refine Gr.setCell ?_ (by first | exact Nat.le_refl _ | omega | (simp; done) | (simp; omega)) _))))).mono ?_; rintro e w1 ⟨rfl, hg1⟩) | (go_at_call 19; refine (Tryd.strings_Compare _ _ _).mono ?_; rintro e w1 ⟨rfl, rfl⟩))
      go_ret
      exact ⟨rfl, (by repeat (first | (with_reducible exact Gr.refl _) | (with_reducible assumption) | (with_reducible refine Gr.alloc ?_ _) | (with_reducible refine Gr.drew ?_) | (with_reducible refine Gr.drewN ?_ _) | (with_reducible refine Gr.trans ?_ (by assumption)) | (with_reducible refine Gr.setCell ?_ (by first | exact Nat.le_refl _ | omega | (simp; done) | (simp; omega)) _)))⟩
    · have hcat : (({ data := (downL A B).toArray } : ByteArray) ++ { data := r.toArray }) = s := ba_ext (by rw [Joins.data_append]; exact hdr)
      have hdl : (downL A B).length = 9 := downL_length A B
      have hrl : r.length ≤ s.size := by
        have := congrArg List.length hdr
        simp at this; omega
      have hkl' : (keyF p).length + q.length ≤ 140737488351232 := by omega
      clear hkl
      clear hdr
      go_enter Tryd.func9, Tryd.ntmps9
      go_wp2_with (first
        | (go_at_call 14; refine (H1.out _).mono ?_; rintro e w2 ⟨rfl, hg2⟩)
        | (go_at_call 25; refine (H2.out _).mono ?_; rintro e w3 ⟨rfl, hg3⟩)
        | (go_at_call 20; refine (lawKey_any _ _ (hw.gr (by repeat (first | (with_reducible exact Gr.refl _) | (with_reducible assumption) | (with_reducible refine Gr.alloc ?_ _) | (with_reducible refine Gr.drew ?_) | (with_reducible refine Gr.drewN ?_ _) | (with_reducible refine Gr.trans ?_ (by assumption)) | (with_reducible refine Gr.setCell ?_ (by first | exact Nat.le_refl _ | omega | (simp; done) | (simp; omega)) _))))).mono ?_; rintro e w4 ⟨rfl, hg4⟩; have hbk : w4.heap[w3.heap.size]? = some (.cells #[.int .i64 A, .int .i64 B] 35) := hg4.blk (by repeat (first | (with_reducible assumption) | (with_reducible exact heap_alloc_new _ _) | (with_reducible refine heap_drew ?_) | (with_reducible exact heap_newn (by first | rfl | (simp; done))) | (with_reducible refine heap_alloc_mono ?_ _))); obtain ⟨k_0, k_1, g_0, g_1, l_0⟩ := blk2 hbk)
        | (go_at_call 22; refine (down_yes _ _ _ hmy).mono ?_; rintro e w5 ⟨rfl, hg5⟩; have hbk : w5.heap[w3.heap.size]? = some (.cells #[.int .i64 A, .int .i64 B] 35) := hg5.blk (by repeat (first | (with_reducible assumption) | (with_reducible exact heap_alloc_new _ _) | (with_reducible refine heap_drew ?_) | (with_reducible exact heap_newn (by first | rfl | (simp; done))) | (with_reducible refine heap_alloc_mono ?_ _))); obtain ⟨k_0, k_1, g_0, g_1, l_0⟩ := blk2 hbk)
        | (go_at_call 12; refine (key_all _ _ (hw.gr (by repeat (first | (with_reducible exact Gr.refl _) | (with_reducible assumption) | (with_reducible refine Gr.alloc ?_ _) | (with_reducible refine Gr.drew ?_) | (with_reducible refine Gr.drewN ?_ _) | (with_reducible refine Gr.trans ?_ (by assumption)) | (with_reducible refine Gr.setCell ?_ (by first | exact Nat.le_refl _ | omega | (simp; done) | (simp; omega)) _))))).mono ?_; rintro e w1 ⟨rfl, hg1⟩) | (go_at_call 14; refine (takeKey_any _ (by first | omega | (simp; omega)) _).mono ?_; rintro e w1 ⟨rfl, hg1⟩) | (go_at_call 22; refine (down_all _ _ _).mono ?_; rintro e w1 ⟨rfl, hg1⟩) | (go_at_call 25; refine (takeDown_any _ _).mono ?_; rintro e w1 ⟨rfl, hg1⟩) | (go_at_call 16; refine (check_any _ _).mono ?_; rintro e w1 ⟨rfl, rfl⟩) | (go_at_call 18; refine (works_any _ (hw.gr (by repeat (first | (with_reducible exact Gr.refl _) | (with_reducible assumption) | (with_reducible refine Gr.alloc ?_ _) | (with_reducible refine Gr.drew ?_) | (with_reducible refine Gr.drewN ?_ _) | (with_reducible refine Gr.trans ?_ (by assumption)) | (with_reducible refine Gr.setCell ?_ (by first | exact Nat.le_refl _ | omega | (simp; done) | (simp; omega)) _))))).mono ?_; rintro e w1 ⟨rfl, hg1⟩) | (go_at_call 19; refine (Tryd.strings_Compare _ _ _).mono ?_; rintro e w1 ⟨rfl, rfl⟩))
      go_ret
      exact ⟨rfl, (by repeat (first | (with_reducible exact Gr.refl _) | (with_reducible assumption) | (with_reducible refine Gr.alloc ?_ _) | (with_reducible refine Gr.drew ?_) | (with_reducible refine Gr.drewN ?_ _) | (with_reducible refine Gr.trans ?_ (by assumption)) | (with_reducible refine Gr.setCell ?_ (by first | exact Nat.le_refl _ | omega | (simp; done) | (simp; omega)) _)))⟩

theorem ordOrder_walk (s t : ByteArray) (w : World) (hw : Sh w) :
    Calls Tryd.prog 6 #[.string s, .string t] w fun e w' => e = .returned (.bool true) ∧ Gr w w' := by
  have hmin := fun W => min_1000 s.size #[3, 3] 3 W
  have hmin2 := fun W => min_1000 t.size #[3, 3] 3 W
  have hm : min s.size 1000 ≤ s.size := Nat.min_le_left _ _
  have hm2 : min t.size 1000 ≤ t.size := Nat.min_le_left _ _
  have hex := ext_take s
  have hex2 := ext_take t
  have hll : (s.data.toList.take 1000).length ≤ 1000 := by simp; omega
  have hll2 : (t.data.toList.take 1000).length ≤ 1000 := by simp; omega
  obtain ⟨L, hL⟩ : ∃ L, s.data.toList.take 1000 = L := ⟨_, rfl⟩
  obtain ⟨M, hM⟩ : ∃ M, t.data.toList.take 1000 = M := ⟨_, rfl⟩
  rw [hL] at hex hll
  rw [hM] at hex2 hll2
  clear hL hM
  have hc := cmp_key L M
  have hp := prefix_key L M
  go_enter Tryd.func6, Tryd.ntmps6
  go_wp2_with (first | (go_at_call 12; refine (key_all _ _ (hw.gr (by repeat (first | (with_reducible exact Gr.refl _) | (with_reducible assumption) | (with_reducible refine Gr.alloc ?_ _) | (with_reducible refine Gr.drew ?_) | (with_reducible refine Gr.drewN ?_ _) | (with_reducible refine Gr.trans ?_ (by assumption)) | (with_reducible refine Gr.setCell ?_ (by first | exact Nat.le_refl _ | omega | (simp; done) | (simp; omega)) _))))).mono ?_; rintro e w1 ⟨rfl, hg1⟩) | (go_at_call 14; refine (takeKey_any _ (by first | omega | (simp; omega)) _).mono ?_; rintro e w1 ⟨rfl, hg1⟩) | (go_at_call 22; refine (down_all _ _ _).mono ?_; rintro e w1 ⟨rfl, hg1⟩) | (go_at_call 25; refine (takeDown_any _ _).mono ?_; rintro e w1 ⟨rfl, hg1⟩) | (go_at_call 16; refine (check_any _ _).mono ?_; rintro e w1 ⟨rfl, rfl⟩) | (go_at_call 18; refine (works_any _ (hw.gr (by repeat (first | (with_reducible exact Gr.refl _) | (with_reducible assumption) | (with_reducible refine Gr.alloc ?_ _) | (with_reducible refine Gr.drew ?_) | (with_reducible refine Gr.drewN ?_ _) | (with_reducible refine Gr.trans ?_ (by assumption)) | (with_reducible refine Gr.setCell ?_ (by first | exact Nat.le_refl _ | omega | (simp; done) | (simp; omega)) _))))).mono ?_; rintro e w1 ⟨rfl, hg1⟩) | (go_at_call 19; refine (Tryd.strings_Compare _ _ _).mono ?_; rintro e w1 ⟨rfl, rfl⟩))
  go_region
  go_wp2_with (first
    | (go_at_call 12; refine (key_any _ (by first | omega | (rw [ba_size]; omega)) _ (hw.gr (by repeat (first | (with_reducible exact Gr.refl _) | (with_reducible assumption) | (with_reducible refine Gr.alloc ?_ _) | (with_reducible refine Gr.drew ?_) | (with_reducible refine Gr.drewN ?_ _) | (with_reducible refine Gr.trans ?_ (by assumption)) | (with_reducible refine Gr.setCell ?_ (by first | exact Nat.le_refl _ | omega | (simp; done) | (simp; omega)) _))))).mono ?_; rintro e w3 ⟨rfl, hg3⟩)
    | (go_at_call 23; refine (Tryd.strings_HasPrefix _ _ _).mono ?_; rintro e w4 ⟨rfl, rfl⟩)
    | (go_at_call 12; refine (key_all _ _ (hw.gr (by repeat (first | (with_reducible exact Gr.refl _) | (with_reducible assumption) | (with_reducible refine Gr.alloc ?_ _) | (with_reducible refine Gr.drew ?_) | (with_reducible refine Gr.drewN ?_ _) | (with_reducible refine Gr.trans ?_ (by assumption)) | (with_reducible refine Gr.setCell ?_ (by first | exact Nat.le_refl _ | omega | (simp; done) | (simp; omega)) _))))).mono ?_; rintro e w1 ⟨rfl, hg1⟩) | (go_at_call 14; refine (takeKey_any _ (by first | omega | (simp; omega)) _).mono ?_; rintro e w1 ⟨rfl, hg1⟩) | (go_at_call 22; refine (down_all _ _ _).mono ?_; rintro e w1 ⟨rfl, hg1⟩) | (go_at_call 25; refine (takeDown_any _ _).mono ?_; rintro e w1 ⟨rfl, hg1⟩) | (go_at_call 16; refine (check_any _ _).mono ?_; rintro e w1 ⟨rfl, rfl⟩) | (go_at_call 18; refine (works_any _ (hw.gr (by repeat (first | (with_reducible exact Gr.refl _) | (with_reducible assumption) | (with_reducible refine Gr.alloc ?_ _) | (with_reducible refine Gr.drew ?_) | (with_reducible refine Gr.drewN ?_ _) | (with_reducible refine Gr.trans ?_ (by assumption)) | (with_reducible refine Gr.setCell ?_ (by first | exact Nat.le_refl _ | omega | (simp; done) | (simp; omega)) _))))).mono ?_; rintro e w1 ⟨rfl, hg1⟩) | (go_at_call 19; refine (Tryd.strings_Compare _ _ _).mono ?_; rintro e w1 ⟨rfl, rfl⟩))
  go_ret
  exact ⟨ret_bool (by by_cases h : L = M <;> simp [h]), (by repeat (first | (with_reducible exact Gr.refl _) | (with_reducible assumption) | (with_reducible refine Gr.alloc ?_ _) | (with_reducible refine Gr.drew ?_) | (with_reducible refine Gr.drewN ?_ _) | (with_reducible refine Gr.trans ?_ (by assumption)) | (with_reducible refine Gr.setCell ?_ (by first | exact Nat.le_refl _ | omega | (simp; done) | (simp; omega)) _)))⟩
end Go.Proofs.YtmidoifdcidjcaaDoor
