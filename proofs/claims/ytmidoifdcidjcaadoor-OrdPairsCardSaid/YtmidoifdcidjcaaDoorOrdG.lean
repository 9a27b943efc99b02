/- The walks of OrdStamps and OrdPairs. -/
import Derived.Test.YtmidoifdcidjcaaDoorOrdE
import Derived.Deep.DeepCutAuto
namespace Go.Proofs.YtmidoifdcidjcaaDoor
open Go.RowKit
set_option linter.unusedVariables false
set_option linter.unusedSimpArgs false

set_option maxHeartbeats 4000000 in
theorem ordStamps_walk (a b c d : Int) (ha : -9223372036854775808 ≤ a ∧ a ≤ 9223372036854775807) (hb : -9223372036854775808 ≤ b ∧ b ≤ 9223372036854775807)
    (hc : -9223372036854775808 ≤ c ∧ c ≤ 9223372036854775807) (hd : -9223372036854775808 ≤ d ∧ d ≤ 9223372036854775807) (w : World) (hw : Sh w) :
    Calls Tryd.prog 5 #[.agg #[.int .i64 a, .int .i64 b], .agg #[.int .i64 c, .int .i64 d]] w fun e w' => e = .returned (.bool true) ∧ Gr w w' := by
  have S1 := Lib.hid (lawStamp_any a b ha hb)
  have S2 := Lib.hid (lawStamp_any c d hc hd)
  have m1 := bring_may a b
  have m2 := bring_may c d
  generalize bringI a 1099511627777 = A at S1 m1
  generalize bringI b 1048576 = B at S1 m1
  generalize bringI c 1099511627777 = C at S2 m2
  generalize bringI d 1048576 = D at S2 m2
  have HC : Hid ((C < A ∧ Lib.compareBytes (downL A B) (downL C D) = -1) ∨ (A < C ∧ Lib.compareBytes (downL A B) (downL C D) = 1) ∨ (A = C ∧ D < B ∧ Lib.compareBytes (downL A B) (downL C D) = -1) ∨
      (A = C ∧ B < D ∧ Lib.compareBytes (downL A B) (downL C D) = 1) ∨ (A = C ∧ B = D ∧ Lib.compareBytes (downL A B) (downL C D) = 0)) := by
    show _ ∨ _ ∨ _ ∨ _ ∨ _
    rw [cmp_down m1 m2]
    by_cases h1 : C < A
    · exact .inl ⟨h1, if_pos (.inl h1)⟩
    · by_cases h2 : A < C
      · exact .inr (.inl ⟨h2, by rw [if_neg (by omega), if_pos (by omega)]⟩)
      · have h3 : A = C := by omega
        by_cases h4 : D < B
        · exact .inr (.inr (.inl ⟨h3, h4, if_pos (.inr ⟨h3, h4⟩)⟩))
        · by_cases h5 : B < D
          · exact .inr (.inr (.inr (.inl ⟨h3, h5, by rw [if_neg (by omega), if_pos (by omega)]⟩)))
          · exact .inr (.inr (.inr (.inr ⟨h3, by omega, by rw [if_neg (by omega), if_neg (by omega)]⟩)))
  have hl1 := downL_length A B
  have hl2 := downL_length C D
  clear ha hb hc hd
  go_enter Tryd.func5, Tryd.ntmps5
  go_wp2_with (first
    | (go_at_call 18; refine (works_any _ (hw.gr (by repeat (first | (with_reducible exact Gr.refl _) | (with_reducible assumption) | (with_reducible refine Gr.alloc ?_ _) | (with_reducible refine Gr.drew ?_) | (with_reducible refine Gr.drewN ?_ _) | (with_reducible refine Gr.trans ?_ (by assumption)) | (with_reducible refine Gr.setCell ?_ (by first | exact Nat.le_refl _ | omega | (simp; done) | (simp; omega)) _))))).mono ?_; rintro e w1 ⟨rfl, hg1⟩; have hb0 : w1.heap[w.heap.size]? = some (.cells #[.int .i64 a, .int .i64 b] 35) := hg1.blk (by repeat (first | (with_reducible assumption) | (with_reducible exact heap_alloc_new _ _) | (with_reducible refine heap_drew ?_) | (with_reducible exact heap_newn (by first | rfl | (simp; done))) | (with_reducible refine heap_alloc_mono ?_ _))); have hb1 : w1.heap[w.heap.size + 1]? = some (.cells #[.int .i64 c, .int .i64 d] 35) := hg1.blk (by repeat (first | (with_reducible assumption) | (with_reducible exact heap_alloc_new _ _) | (with_reducible refine heap_drew ?_) | (with_reducible exact heap_newn (by first | rfl | (simp; done))) | (with_reducible refine heap_alloc_mono ?_ _))); obtain ⟨k_0, k_1, g_0, g_1, l_0⟩ := blk2 hb0; obtain ⟨k_2, k_3, g_2, g_3, l_1⟩ := blk2 hb1))
  go_upto_region 3 with fail
  go_cut [] (fun wx => wx.heap[w.heap.size]? = some (.cells #[.int .i64 A, .int .i64 B] 35) ∧ wx.heap[w.heap.size + 1]? = some (.cells #[.int .i64 C, .int .i64 D] 35) ∧ Gr w wx)
  case first =>
    go_region_with (go_at_call 21; first | ((with_reducible refine (S1.out _).mono ?_); rintro e w2 ⟨rfl, hg2⟩; have hb0 : w2.heap[w.heap.size]? = some (.cells #[.int .i64 a, .int .i64 b] 35) := hg2.blk (by repeat (first | (with_reducible assumption) | (with_reducible exact heap_alloc_new _ _) | (with_reducible refine heap_drew ?_) | (with_reducible exact heap_newn (by first | rfl | (simp; done))) | (with_reducible refine heap_alloc_mono ?_ _))); have hb1 : w2.heap[w.heap.size + 1]? = some (.cells #[.int .i64 c, .int .i64 d] 35) := hg2.blk (by repeat (first | (with_reducible assumption) | (with_reducible exact heap_alloc_new _ _) | (with_reducible refine heap_drew ?_) | (with_reducible exact heap_newn (by first | rfl | (simp; done))) | (with_reducible refine heap_alloc_mono ?_ _))); obtain ⟨k_0, k_1, g_0, g_1, l_0⟩ := blk2 hb0; obtain ⟨k_2, k_3, g_2, g_3, l_1⟩ := blk2 hb1) | ((with_reducible refine (S2.out _).mono ?_); rintro e w2 ⟨rfl, hg2⟩; have hb0 : w2.heap[w.heap.size]? = some (.cells #[.int .i64 a, .int .i64 b] 35) := hg2.blk (by repeat (first | (with_reducible assumption) | (with_reducible exact heap_alloc_new _ _) | (with_reducible refine heap_drew ?_) | (with_reducible exact heap_newn (by first | rfl | (simp; done))) | (with_reducible refine heap_alloc_mono ?_ _))); have hb1 : w2.heap[w.heap.size + 1]? = some (.cells #[.int .i64 c, .int .i64 d] 35) := hg2.blk (by repeat (first | (with_reducible assumption) | (with_reducible exact heap_alloc_new _ _) | (with_reducible refine heap_drew ?_) | (with_reducible exact heap_newn (by first | rfl | (simp; done))) | (with_reducible refine heap_alloc_mono ?_ _))); obtain ⟨k_0, k_1, g_0, g_1, l_0⟩ := blk2 hb0; obtain ⟨k_2, k_3, g_2, g_3, l_1⟩ := blk2 hb1))
    all_goals (go_wp2_with fail; go_meet; exact ⟨by simpa using heap_set_other (heap_set_other (heap_set (heap_set hb0 0 (.int .i64 A)) 1 (.int .i64 B)) ⟨w.heap.size + 1, 0, none⟩ (.int .i64 C) (by simp)) ⟨w.heap.size + 1, 1, none⟩ (.int .i64 D) (by simp), by simpa using heap_set (heap_set (heap_set_other (heap_set_other hb1 ⟨w.heap.size, 0, none⟩ (.int .i64 A) (by simp)) ⟨w.heap.size, 1, none⟩ (.int .i64 B) (by simp)) 0 (.int .i64 C)) 1 (.int .i64 D), (by repeat (first | (with_reducible exact Gr.refl _) | (with_reducible assumption) | (with_reducible refine Gr.alloc ?_ _) | (with_reducible refine Gr.drew ?_) | (with_reducible refine Gr.drewN ?_ _) | (with_reducible refine Gr.trans ?_ (by assumption)) | (with_reducible refine Gr.setCell ?_ (by first | exact Nat.le_refl _ | omega | (simp; done) | (simp; omega)) _)))⟩)
  case rest =>
    obtain ⟨hb0, hb1, hg3⟩ := hcut
    obtain ⟨k_0, k_1, g_0, g_1, l_0⟩ := blk2 hb0
    obtain ⟨k_2, k_3, g_2, g_3, l_1⟩ := blk2 hb1
    have hd1 : downR A B = (downL A B, 0) := by unfold downR; rw [if_pos m1]
    have hd2 : downR C D = (downL C D, 0) := by unfold downR; rw [if_pos m2]
    clear m1 m2 S1 S2
    rcases HC.out with ⟨h1, h2⟩ | ⟨h1, h2⟩ | ⟨rfl, h1, h2⟩ | ⟨rfl, h1, h2⟩ | ⟨rfl, rfl, h2⟩
    all_goals clear HC
    all_goals go_wp2_with (first
      | (go_at_call 22; refine (down_all _ _ _).mono ?_; rintro e w4 ⟨rfl, hg4⟩; have hb0 := hg4.blk hb0; have hb1 := hg4.blk hb1; obtain ⟨k_0, k_1, g_0, g_1, l_0⟩ := blk2 hb0; obtain ⟨k_2, k_3, g_2, g_3, l_1⟩ := blk2 hb1)
      | (go_at_call 19; refine (Tryd.strings_Compare _ _ _).mono ?_; rintro e w1 ⟨rfl, rfl⟩))
    all_goals (go_ret; exact ⟨rfl, (by repeat (first | (with_reducible exact Gr.refl _) | (with_reducible assumption) | (with_reducible refine Gr.alloc ?_ _) | (with_reducible refine Gr.drew ?_) | (with_reducible refine Gr.drewN ?_ _) | (with_reducible refine Gr.trans ?_ (by assumption)) | (with_reducible refine Gr.setCell ?_ (by first | exact Nat.le_refl _ | omega | (simp; done) | (simp; omega)) _)))⟩)

set_option maxHeartbeats 4000000 in
theorem ordPairs_walk (p0 p1 q0 q1 : ByteArray) (w : World) (hw : Sh w) :
    Calls Tryd.prog 4 #[.agg #[.string p0, .string p1], .agg #[.string q0, .string q1]] w fun e w' => e = .returned (.bool true) ∧ Gr w w' := by
  have hm0 := fun W => min_1000 p0.size #[3, 3] 3 W
  have hm1 := fun W => min_1000 p1.size #[3, 3] 3 W
  have hm2 := fun W => min_1000 q0.size #[3, 3] 3 W
  have hm3 := fun W => min_1000 q1.size #[3, 3] 3 W
  have hn0 : min p0.size 1000 ≤ p0.size := Nat.min_le_left _ _
  have hn1 : min p1.size 1000 ≤ p1.size := Nat.min_le_left _ _
  have hn2 : min q0.size 1000 ≤ q0.size := Nat.min_le_left _ _
  have hn3 : min q1.size 1000 ≤ q1.size := Nat.min_le_left _ _
  have hx0 := ext_take p0
  have hx1 := ext_take p1
  have hx2 := ext_take q0
  have hx3 := ext_take q1
  have hl0 : (p0.data.toList.take 1000).length ≤ 1000 := by simp; omega
  have hl1 : (p1.data.toList.take 1000).length ≤ 1000 := by simp; omega
  have hl2 : (q0.data.toList.take 1000).length ≤ 1000 := by simp; omega
  have hl3 : (q1.data.toList.take 1000).length ≤ 1000 := by simp; omega
  generalize p0.data.toList.take 1000 = a at hx0 hl0
  generalize p1.data.toList.take 1000 = b at hx1 hl1
  generalize q0.data.toList.take 1000 = c at hx2 hl2
  generalize q1.data.toList.take 1000 = d at hx3 hl3
  have hc := cmp_keys a b c d
  have hka : keyF a = keyL a := by unfold keyF; rw [if_pos hl0]
  have hkb : keyF b = keyL b := by unfold keyF; rw [if_pos hl1]
  have hkc : keyF c = keyL c := by unfold keyF; rw [if_pos hl2]
  have hkd : keyF d = keyL d := by unfold keyF; rw [if_pos hl3]
  have ela := esc_length_le a
  have elb := esc_length_le b
  have elc := esc_length_le c
  have eld := esc_length_le d
  have hq1 : ¬ 9223372036854775807 < (keyL a).length + (keyL b).length := by simp only [keyL, List.length_append, List.length_cons, List.length_nil]; omega
  have hq2 : ¬ 9223372036854775807 < (keyL c).length + (keyL d).length := by simp only [keyL, List.length_append, List.length_cons, List.length_nil]; omega
  clear hl0 hl1 hl2 hl3 ela elb elc eld
  go_enter Tryd.func4, Tryd.ntmps4
  go_wp2_with (first
    | (go_at_call 18; refine (works_any _ (hw.gr (by repeat (first | (with_reducible exact Gr.refl _) | (with_reducible assumption) | (with_reducible refine Gr.alloc ?_ _) | (with_reducible refine Gr.drew ?_) | (with_reducible refine Gr.drewN ?_ _) | (with_reducible refine Gr.trans ?_ (by assumption)) | (with_reducible refine Gr.setCell ?_ (by first | exact Nat.le_refl _ | omega | (simp; done) | (simp; omega)) _))))).mono ?_; rintro e w1 ⟨rfl, hg1⟩; have hb0 : w1.heap[w.heap.size]? = some (.cells #[.string p0, .string p1] 30) := hg1.blk (by repeat (first | (with_reducible assumption) | (with_reducible exact heap_alloc_new _ _) | (with_reducible refine heap_drew ?_) | (with_reducible exact heap_newn (by first | rfl | (simp; done))) | (with_reducible refine heap_alloc_mono ?_ _))); have hb1 : w1.heap[w.heap.size + 1]? = some (.cells #[.string q0, .string q1] 30) := hg1.blk (by repeat (first | (with_reducible assumption) | (with_reducible exact heap_alloc_new _ _) | (with_reducible refine heap_drew ?_) | (with_reducible exact heap_newn (by first | rfl | (simp; done))) | (with_reducible refine heap_alloc_mono ?_ _))); obtain ⟨k_0, k_1, g_0, g_1, l_0⟩ := blk2 hb0; obtain ⟨k_2, k_3, g_2, g_3, l_1⟩ := blk2 hb1))
  clear k_0 k_1 k_2 k_3 g_0 g_1 g_2 g_3
  go_loopw [5] (fun i wr => ∃ k : Int, (k = 0 ∨ k = 1 ∨ k = 2) ∧ i = .int .i64 k ∧ wr.heap[w.heap.size]? = some (.cells #[.string (if 1 ≤ k then ⟨a.toArray⟩ else p0), .string (if 2 ≤ k then ⟨b.toArray⟩ else p1)] 30) ∧
      wr.heap[w.heap.size + 1]? = some (.cells #[.string (if 1 ≤ k then ⟨c.toArray⟩ else q0), .string (if 2 ≤ k then ⟨d.toArray⟩ else q1)] 30) ∧ Gr w wr) (fun i _ => 2 - (intOf i).toNat)
  case atStart => exact ⟨0, .inl rfl, rfl, hb0, hb1, (by repeat (first | (with_reducible exact Gr.refl _) | (with_reducible assumption) | (with_reducible refine Gr.alloc ?_ _) | (with_reducible refine Gr.drew ?_) | (with_reducible refine Gr.drewN ?_ _) | (with_reducible refine Gr.trans ?_ (by assumption)) | (with_reducible refine Gr.setCell ?_ (by first | exact Nat.le_refl _ | omega | (simp; done) | (simp; omega)) _)))⟩
  case round =>
    clear hb0 hb1 hg1 l_0 l_1
    obtain ⟨k, h012, rfl, hb0, hb1, hg1⟩ := hrel
    rcases h012 with rfl | rfl | rfl
    · have hb0 : wr.heap[w.heap.size]? = some (.cells #[.string p0, .string p1] 30) := hb0
      have hb1 : wr.heap[w.heap.size + 1]? = some (.cells #[.string q0, .string q1] 30) := hb1
      obtain ⟨k_0, k_1, g_0, g_1, l_0⟩ := blk2 hb0
      obtain ⟨k_2, k_3, g_2, g_3, l_1⟩ := blk2 hb1
      go_wp2
      go_region
      go_wp2
      go_roundw
      case rel => exact ⟨1, .inr (.inl rfl), rfl, heap_drew (by simpa using heap_set_other (heap_set hb0 0 (.string ⟨a.toArray⟩)) ⟨w.heap.size + 1, 0, none⟩ (.string ⟨c.toArray⟩) (by simp)), heap_drew (by simpa using heap_set (heap_set_other hb1 ⟨w.heap.size, 0, none⟩ (.string ⟨a.toArray⟩) (by simp)) 0 (.string ⟨c.toArray⟩)), (by repeat (first | (with_reducible exact Gr.refl _) | (with_reducible assumption) | (with_reducible refine Gr.alloc ?_ _) | (with_reducible refine Gr.drew ?_) | (with_reducible refine Gr.drewN ?_ _) | (with_reducible refine Gr.trans ?_ (by assumption)) | (with_reducible refine Gr.setCell ?_ (by first | exact Nat.le_refl _ | omega | (simp; done) | (simp; omega)) _)))⟩
      case measure => simp [intOf]
    · have hb0 : wr.heap[w.heap.size]? = some (.cells #[.string ⟨a.toArray⟩, .string p1] 30) := hb0
      have hb1 : wr.heap[w.heap.size + 1]? = some (.cells #[.string ⟨c.toArray⟩, .string q1] 30) := hb1
      obtain ⟨k_0, k_1, g_0, g_1, l_0⟩ := blk2 hb0
      obtain ⟨k_2, k_3, g_2, g_3, l_1⟩ := blk2 hb1
      go_wp2
      go_region
      go_wp2
      go_roundw
      case rel => exact ⟨2, .inr (.inr rfl), rfl, heap_drew (by simpa using heap_set_other (heap_set hb0 1 (.string ⟨b.toArray⟩)) ⟨w.heap.size + 1, 1, none⟩ (.string ⟨d.toArray⟩) (by simp)), heap_drew (by simpa using heap_set (heap_set_other hb1 ⟨w.heap.size, 1, none⟩ (.string ⟨b.toArray⟩) (by simp)) 1 (.string ⟨d.toArray⟩)), (by repeat (first | (with_reducible exact Gr.refl _) | (with_reducible assumption) | (with_reducible refine Gr.alloc ?_ _) | (with_reducible refine Gr.drew ?_) | (with_reducible refine Gr.drewN ?_ _) | (with_reducible refine Gr.trans ?_ (by assumption)) | (with_reducible refine Gr.setCell ?_ (by first | exact Nat.le_refl _ | omega | (simp; done) | (simp; omega)) _)))⟩
      case measure => simp [intOf]
    · have hb0 : wr.heap[w.heap.size]? = some (.cells #[.string ⟨a.toArray⟩, .string ⟨b.toArray⟩] 30) := hb0
      have hb1 : wr.heap[w.heap.size + 1]? = some (.cells #[.string ⟨c.toArray⟩, .string ⟨d.toArray⟩] 30) := hb1
      obtain ⟨k_0, k_1, g_0, g_1, l_0⟩ := blk2 hb0
      obtain ⟨k_2, k_3, g_2, g_3, l_1⟩ := blk2 hb1
      clear hm0 hm1 hm2 hm3
      by_cases h0 : Lib.compareBytes a c = 0
      · rw [if_pos h0] at hc
        have h0b : (Lib.compareBytes a c == 0) = true := by rw [h0]; rfl
        clear h0
        go_wp2_with (go_at_call 19; refine (Tryd.strings_Compare _ _ _).mono ?_; rintro e w1 ⟨rfl, rfl⟩)
        go_region_held3 (fun w' => w'.cell? ⟨w.heap.size, 0, none⟩ = some (.string ⟨a.toArray⟩) ∧ w'.cell? ⟨w.heap.size, 1, none⟩ = some (.string ⟨b.toArray⟩) ∧ w'.cell? ⟨w.heap.size + 1, 0, none⟩ = some (.string ⟨c.toArray⟩) ∧ w'.cell? ⟨w.heap.size + 1, 1, none⟩ = some (.string ⟨d.toArray⟩) ∧ Gr w w')
          (first | (go_split_ands; refine ⟨hg5.cell' (by assumption), hg5.cell' (by assumption), hg5.cell' (by assumption), hg5.cell' (by assumption), Gr.trans (by assumption) hg5⟩) | (go_split_ands; refine ⟨by assumption, by assumption, by assumption, by assumption, (by repeat (first | (with_reducible exact Gr.refl _) | (with_reducible assumption) | (with_reducible refine Gr.alloc ?_ _) | (with_reducible refine Gr.drew ?_) | (with_reducible refine Gr.drewN ?_ _) | (with_reducible refine Gr.trans ?_ (by assumption)) | (with_reducible refine Gr.setCell ?_ (by first | exact Nat.le_refl _ | omega | (simp; done) | (simp; omega)) _)))⟩))
          (first | (go_at_call 20; go_split_ands; refine (lawKey_any _ _ (hw.gr (by assumption))).mono ?_; rintro e w5 ⟨rfl, hg5⟩) | (go_at_call 19; refine (Tryd.strings_Compare _ _ _).mono ?_; rintro e w1 ⟨rfl, rfl⟩))
        go_split_ands
        go_wp2
        go_ret
        exact ⟨rfl, (by repeat (first | (with_reducible exact Gr.refl _) | (with_reducible assumption) | (with_reducible refine Gr.alloc ?_ _) | (with_reducible refine Gr.drew ?_) | (with_reducible refine Gr.drewN ?_ _) | (with_reducible refine Gr.trans ?_ (by assumption)) | (with_reducible refine Gr.setCell ?_ (by first | exact Nat.le_refl _ | omega | (simp; done) | (simp; omega)) _)))⟩
      · rw [if_neg h0] at hc
        have h0b : (Lib.compareBytes a c == 0) = false := by rw [beq_eq_false_iff_ne]; exact h0
        clear h0
        go_wp2_with (go_at_call 19; refine (Tryd.strings_Compare _ _ _).mono ?_; rintro e w1 ⟨rfl, rfl⟩)
        go_region_held3 (fun w' => w'.cell? ⟨w.heap.size, 0, none⟩ = some (.string ⟨a.toArray⟩) ∧ w'.cell? ⟨w.heap.size, 1, none⟩ = some (.string ⟨b.toArray⟩) ∧ w'.cell? ⟨w.heap.size + 1, 0, none⟩ = some (.string ⟨c.toArray⟩) ∧ w'.cell? ⟨w.heap.size + 1, 1, none⟩ = some (.string ⟨d.toArray⟩) ∧ Gr w w')
          (first | (go_split_ands; refine ⟨hg5.cell' (by assumption), hg5.cell' (by assumption), hg5.cell' (by assumption), hg5.cell' (by assumption), Gr.trans (by assumption) hg5⟩) | (go_split_ands; refine ⟨by assumption, by assumption, by assumption, by assumption, (by repeat (first | (with_reducible exact Gr.refl _) | (with_reducible assumption) | (with_reducible refine Gr.alloc ?_ _) | (with_reducible refine Gr.drew ?_) | (with_reducible refine Gr.drewN ?_ _) | (with_reducible refine Gr.trans ?_ (by assumption)) | (with_reducible refine Gr.setCell ?_ (by first | exact Nat.le_refl _ | omega | (simp; done) | (simp; omega)) _)))⟩))
          (first | (go_at_call 20; go_split_ands; refine (lawKey_any _ _ (hw.gr (by assumption))).mono ?_; rintro e w5 ⟨rfl, hg5⟩) | (go_at_call 19; refine (Tryd.strings_Compare _ _ _).mono ?_; rintro e w1 ⟨rfl, rfl⟩))
        go_split_ands
        go_wp2
        go_ret
        exact ⟨rfl, (by repeat (first | (with_reducible exact Gr.refl _) | (with_reducible assumption) | (with_reducible refine Gr.alloc ?_ _) | (with_reducible refine Gr.drew ?_) | (with_reducible refine Gr.drewN ?_ _) | (with_reducible refine Gr.trans ?_ (by assumption)) | (with_reducible refine Gr.setCell ?_ (by first | exact Nat.le_refl _ | omega | (simp; done) | (simp; omega)) _)))⟩

end Go.Proofs.YtmidoifdcidjcaaDoor
