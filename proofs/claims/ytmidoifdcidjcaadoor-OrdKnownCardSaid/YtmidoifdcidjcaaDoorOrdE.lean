/- The walks of layer 2's statements. -/
import Derived.Test.YtmidoifdcidjcaaDoorOrdD
import Derived.Test.YtmidoifdcidjcaaDoorOrdL
import Derived.Lib.SmallJoins
namespace Go.Proofs.YtmidoifdcidjcaaDoor
open Go.RowKit
set_option linter.unusedVariables false
set_option linter.unusedSimpArgs false

theorem min_1000 (n : Nat) (ats : Array TypeId) (ty : TypeId) (W : World) : (Builtin.min_ ats ty #[.int .i64 (n : Int), .int .i64 1000]).run Tryd.prog W = .ok (.int .i64 ((min n 1000 : Nat) : Int)) W := by
  simp only [Builtin.min_, List.foldlM_cons, List.foldlM_nil, Builtin.min2]
  by_cases h : (1000 : Int) < n
  · have e : min n 1000 = 1000 := by omega
    simp [h, e, go_sem]
  · have e : min n 1000 = n := by omega
    simp [h, e, go_sem]

theorem ordDown_walk (a b : Int) (s : ByteArray) (w : World) (hw : Sh w) :
    Calls Tryd.prog 7 #[.agg #[.int .i64 a, .int .i64 b], .string s] w fun e w' => e = .returned (.bool true) ∧ Gr w w' := by
  go_enter Tryd.func7, Tryd.ntmps7
  go_wp2_with (first
    | (go_at_call 24; refine (refDown_all _ _ _).mono ?_; rintro e w1 ⟨rfl, hg1⟩; have hbk : w1.heap[w.heap.size]? = some (.cells #[.int .i64 a, .int .i64 b] 35) := hg1.blk (by repeat (first | (with_reducible assumption) | (with_reducible exact heap_alloc_new _ _) | (with_reducible refine heap_drew ?_) | (with_reducible exact heap_newn (by first | rfl | (simp; done))) | (with_reducible refine heap_alloc_mono ?_ _))); obtain ⟨k_0, k_1, g_0, g_1, l_0⟩ := blk2 hbk)
    | (go_at_call 22; refine (down_all _ _ _).mono ?_; rintro e w1 ⟨rfl, hg1⟩; have hbk : w1.heap[w.heap.size]? = some (.cells #[.int .i64 a, .int .i64 b] 35) := hg1.blk (by repeat (first | (with_reducible assumption) | (with_reducible exact heap_alloc_new _ _) | (with_reducible refine heap_drew ?_) | (with_reducible exact heap_newn (by first | rfl | (simp; done))) | (with_reducible refine heap_alloc_mono ?_ _))); obtain ⟨k_0, k_1, g_0, g_1, l_0⟩ := blk2 hbk)
    | (go_at_call 25; refine (takeDown_any _ _).mono ?_; rintro e w3 ⟨rfl, hg3⟩)
    | (go_at_call 26; refine (refTakeDown_any _ _).mono ?_; rintro e w4 ⟨rfl, hg4⟩; have hbk : w4.heap[w3.heap.size]? = some (.cells #[.int .i64 (takeDownL s.data.toList).1, .int .i64 (takeDownL s.data.toList).2.1] 35) := hg4.blk (by repeat (first | (with_reducible assumption) | (with_reducible exact heap_alloc_new _ _) | (with_reducible refine heap_drew ?_) | (with_reducible exact heap_newn (by first | rfl | (simp; done))) | (with_reducible refine heap_alloc_mono ?_ _))); obtain ⟨k_0, k_1, g_0, g_1, l_0⟩ := blk2 hbk)
    | (go_at_call 12; refine (key_all _ _ (hw.gr (by repeat (first | (with_reducible exact Gr.refl _) | (with_reducible assumption) | (with_reducible refine Gr.alloc ?_ _) | (with_reducible refine Gr.drew ?_) | (with_reducible refine Gr.drewN ?_ _) | (with_reducible refine Gr.trans ?_ (by assumption)) | (with_reducible refine Gr.setCell ?_ (by first | exact Nat.le_refl _ | omega | (simp; done) | (simp; omega)) _))))).mono ?_; rintro e w1 ⟨rfl, hg1⟩)
    | (go_at_call 14; refine (takeKey_any _ (by first | omega | (simp; omega)) _).mono ?_; rintro e w1 ⟨rfl, hg1⟩)
    | (go_at_call 22; refine (down_all _ _ _).mono ?_; rintro e w1 ⟨rfl, hg1⟩)
    | (go_at_call 25; refine (takeDown_any _ _).mono ?_; rintro e w1 ⟨rfl, hg1⟩)
    | (go_at_call 16; refine (check_any _ _).mono ?_; rintro e w1 ⟨rfl, rfl⟩)
    | (go_at_call 18; refine (works_any _ (hw.gr (by repeat (first | (with_reducible exact Gr.refl _) | (with_reducible assumption) | (with_reducible refine Gr.alloc ?_ _) | (with_reducible refine Gr.drew ?_) | (with_reducible refine Gr.drewN ?_ _) | (with_reducible refine Gr.trans ?_ (by assumption)) | (with_reducible refine Gr.setCell ?_ (by first | exact Nat.le_refl _ | omega | (simp; done) | (simp; omega)) _))))).mono ?_; rintro e w1 ⟨rfl, hg1⟩)
    | (go_at_call 19; refine (Tryd.strings_Compare _ _ _).mono ?_; rintro e w1 ⟨rfl, rfl⟩))
  go_ret
  exact ⟨rfl, (by repeat (first | (with_reducible exact Gr.refl _) | (with_reducible assumption) | (with_reducible refine Gr.alloc ?_ _) | (with_reducible refine Gr.drew ?_) | (with_reducible refine Gr.drewN ?_ _) | (with_reducible refine Gr.trans ?_ (by assumption)) | (with_reducible refine Gr.setCell ?_ (by first | exact Nat.le_refl _ | omega | (simp; done) | (simp; omega)) _)))⟩

theorem ba_size (l : List UInt8) : (⟨l.toArray⟩ : ByteArray).size = l.length := by simp [ByteArray.size]
theorem takeKey_eq (s : ByteArray) (hs : s.size ≤ 140737488355328) {p q : List UInt8} {e : Int} (h : takeL [] s.data.toList = (p, q, e)) (w : World) :
    Calls Tryd.prog 14 #[.string s] w fun e' w' => e' = .returned (.tuple #[.string ⟨p.toArray⟩, .string ⟨q.toArray⟩, .int .i64 e]) ∧ Gr w w' := by
  have := takeKey_any s hs w
  rw [h] at this
  exact this
theorem takeDown_eq (s : ByteArray) {a b : Int} {q : List UInt8} {e : Int} (h : takeDownL s.data.toList = (a, b, q, e)) (w : World) :
    Calls Tryd.prog 25 #[.string s] w fun e' w' => e' = .returned (.tuple #[.agg #[.int .i64 a, .int .i64 b], .string ⟨q.toArray⟩, .int .i64 e]) ∧ Gr w w' := by
  have := takeDown_any s w
  rw [h] at this
  exact this
theorem bring_bd (i : Int) {n : Int} (hn : 0 < n) : 0 ≤ bringI i n ∧ bringI i n < n := by
  unfold bringI; rw [if_neg (by omega)]
  exact ⟨Int.emod_nonneg _ (by omega), Int.emod_lt_of_pos _ hn⟩
theorem bring_may (a b : Int) : mayB (bringI a 1099511627777) (bringI b 1048576) = true := by
  have h1 := bring_bd a (n := 1099511627777) (by decide)
  have h2 := bring_bd b (n := 1048576) (by decide)
  exact may_iff.2 (by omega)
theorem ext_take (s : ByteArray) : s.extract 0 (min s.size 1000) = ⟨(s.data.toList.take 1000).toArray⟩ := ba_ext (by
  rw [Lib.extract_data, List.drop_zero, Nat.sub_zero]
  have hl : s.data.toList.length = s.size := Array.length_toList
  rw [← hl]
  rw [List.take_eq_take_iff]; omega)

set_option maxHeartbeats 4000000 in
theorem ordBack_walk (s : ByteArray) (a b : Int) (u : ByteArray) (ha : -9223372036854775808 ≤ a ∧ a ≤ 9223372036854775807) (hb : -9223372036854775808 ≤ b ∧ b ≤ 9223372036854775807) (hu : u.size ≤ 140737488351232) (w : World) (hw : Sh w) :
    Calls Tryd.prog 8 #[.string s, .agg #[.int .i64 a, .int .i64 b], .string u] w fun e w' => e = .returned (.bool true) ∧ Gr w w' := by
  have hmin := fun W => min_1000 s.size #[3, 3] 3 W
  have hm : min s.size 1000 ≤ s.size := Nat.min_le_left _ _
  have hex := ext_take s
  have hll : (s.data.toList.take 1000).length ≤ 1000 := by simp; omega
  obtain ⟨L, hL⟩ : ∃ L, s.data.toList.take 1000 = L := ⟨_, rfl⟩
  rw [hL] at hex hll
  clear hL
  have hmy := bring_may a b
  obtain ⟨A, hA⟩ : ∃ A, bringI a 1099511627777 = A := ⟨_, rfl⟩
  obtain ⟨B, hB⟩ : ∃ B, bringI b 1048576 = B := ⟨_, rfl⟩
  rw [hA, hB] at hmy
  have h1 : takeL [] (keyL L ++ (downL A B ++ u.data.toList)) = (L, downL A B ++ u.data.toList, 0) := takeL_keyL L _ hll
  have h2 : takeDownL (downL A B ++ u.data.toList) = (A, B, u.data.toList, 0) := takeDown_down hmy _
  have hk : (keyL L).length ≤ 2002 := by have := esc_length_le L; simp [keyL]; omega
  have hd : (downL A B).length = 9 := downL_length A B
  have hT : ∀ w, Calls Tryd.prog 14 #[.string (⟨(keyL L).toArray⟩ ++ ⟨(downL A B).toArray⟩ ++ u)] w fun e' w' => e' = .returned (.tuple #[.string ⟨L.toArray⟩, .string ⟨(downL A B ++ u.data.toList).toArray⟩, .int .i64 0]) ∧ Gr w w' := fun w =>
    takeKey_eq _ (by rw [ByteArray.size_append, ByteArray.size_append, ba_size, ba_size]; omega) (by rw [Joins.data_append, Joins.data_append, List.append_assoc]; exact h1) w
  have hT2 : ∀ w, Calls Tryd.prog 25 #[.string ⟨(downL A B ++ u.data.toList).toArray⟩] w fun e' w' => e' = .returned (.tuple #[.agg #[.int .i64 A, .int .i64 B], .string u, .int .i64 0]) ∧ Gr w w' := fun w => by
    have := takeDown_eq ⟨(downL A B ++ u.data.toList).toArray⟩ (by simpa using h2) w
    rwa [← ba_mk u] at this
  have H1 := Lib.hid hT
  have H2 := Lib.hid hT2
  clear h1 h2 hT hT2
  go_enter Tryd.func8, Tryd.ntmps8
  go_wp2_with (first
    | (go_at_call 18; refine (works_any _ (hw.gr (by repeat (first | (with_reducible exact Gr.refl _) | (with_reducible assumption) | (with_reducible refine Gr.alloc ?_ _) | (with_reducible refine Gr.drew ?_) | (with_reducible refine Gr.drewN ?_ _) | (with_reducible refine Gr.trans ?_ (by assumption)) | (with_reducible refine Gr.setCell ?_ (by first | exact Nat.le_refl _ | omega | (simp; done) | (simp; omega)) _))))).mono ?_; rintro e w1 ⟨rfl, hg1⟩; have hbk : w1.heap[w.heap.size]? = some (.cells #[.int .i64 a, .int .i64 b] 35) := hg1.blk (by repeat (first | (with_reducible assumption) | (with_reducible exact heap_alloc_new _ _) | (with_reducible refine heap_drew ?_) | (with_reducible exact heap_newn (by first | rfl | (simp; done))) | (with_reducible refine heap_alloc_mono ?_ _))); obtain ⟨k_0, k_1, g_0, g_1, l_0⟩ := blk2 hbk)
    | (go_at_call 12; refine (key_all _ _ (hw.gr (by repeat (first | (with_reducible exact Gr.refl _) | (with_reducible assumption) | (with_reducible refine Gr.alloc ?_ _) | (with_reducible refine Gr.drew ?_) | (with_reducible refine Gr.drewN ?_ _) | (with_reducible refine Gr.trans ?_ (by assumption)) | (with_reducible refine Gr.setCell ?_ (by first | exact Nat.le_refl _ | omega | (simp; done) | (simp; omega)) _))))).mono ?_; rintro e w1 ⟨rfl, hg1⟩)
    | (go_at_call 14; refine (takeKey_any _ (by first | omega | (simp; omega)) _).mono ?_; rintro e w1 ⟨rfl, hg1⟩)
    | (go_at_call 22; refine (down_all _ _ _).mono ?_; rintro e w1 ⟨rfl, hg1⟩)
    | (go_at_call 25; refine (takeDown_any _ _).mono ?_; rintro e w1 ⟨rfl, hg1⟩)
    | (go_at_call 16; refine (check_any _ _).mono ?_; rintro e w1 ⟨rfl, rfl⟩)
    | (go_at_call 18; refine (works_any _ (hw.gr (by repeat (first | (with_reducible exact Gr.refl _) | (with_reducible assumption) | (with_reducible refine Gr.alloc ?_ _) | (with_reducible refine Gr.drew ?_) | (with_reducible refine Gr.drewN ?_ _) | (with_reducible refine Gr.trans ?_ (by assumption)) | (with_reducible refine Gr.setCell ?_ (by first | exact Nat.le_refl _ | omega | (simp; done) | (simp; omega)) _))))).mono ?_; rintro e w1 ⟨rfl, hg1⟩)
    | (go_at_call 19; refine (Tryd.strings_Compare _ _ _).mono ?_; rintro e w1 ⟨rfl, rfl⟩))
  go_region_with (go_at_call 21; refine (lawStamp_any _ _ ha hb _).mono ?_; rintro e w2 ⟨rfl, hg2⟩; have hbk : w2.heap[w.heap.size]? = some (.cells #[.int .i64 a, .int .i64 b] 35) := hg2.blk (by repeat (first | (with_reducible assumption) | (with_reducible exact heap_alloc_new _ _) | (with_reducible refine heap_drew ?_) | (with_reducible exact heap_newn (by first | rfl | (simp; done))) | (with_reducible refine heap_alloc_mono ?_ _))); obtain ⟨k_0, k_1, g_0, g_1, l_0⟩ := blk2 hbk)
  all_goals go_wp2_with (first
    | (go_at_call 12; refine (key_any _ (by first | omega | (rw [ba_size]; omega)) _ (hw.gr (by repeat (first | (with_reducible exact Gr.refl _) | (with_reducible assumption) | (with_reducible refine Gr.alloc ?_ _) | (with_reducible refine Gr.drew ?_) | (with_reducible refine Gr.drewN ?_ _) | (with_reducible refine Gr.trans ?_ (by assumption)) | (with_reducible refine Gr.setCell ?_ (by first | exact Nat.le_refl _ | omega | (simp; done) | (simp; omega)) _))))).mono ?_; rintro e w3 ⟨rfl, hg3⟩; (have hbk3 : w3.heap[w.heap.size]? = some (.cells #[.int .i64 A, .int .i64 B] 35) := hg3.blk (by simpa [hA, hB] using heap_set (heap_set hbk 0 (.int .i64 (bringI a 1099511627777))) 1 (.int .i64 (bringI b 1048576)))); obtain ⟨k_0, k_1, g_0, g_1, l_0⟩ := blk2 hbk3)
    | (go_at_call 22; refine (down_yes _ _ _ hmy).mono ?_; rintro e w4 ⟨rfl, hg4⟩; have hbk4 : w4.heap[w.heap.size]? = some (.cells #[.int .i64 A, .int .i64 B] 35) := hg4.blk (by repeat (first | (with_reducible assumption) | (with_reducible exact heap_alloc_new _ _) | (with_reducible refine heap_drew ?_) | (with_reducible exact heap_newn (by first | rfl | (simp; done))) | (with_reducible refine heap_alloc_mono ?_ _))); obtain ⟨k_0, k_1, g_0, g_1, l_0⟩ := blk2 hbk4)
    | (go_at_call 14; refine (H1.out _).mono ?_; rintro e w5 ⟨rfl, hg5⟩; have hbk5 : w5.heap[w.heap.size]? = some (.cells #[.int .i64 A, .int .i64 B] 35) := hg5.blk (by repeat (first | (with_reducible assumption) | (with_reducible exact heap_alloc_new _ _) | (with_reducible refine heap_drew ?_) | (with_reducible exact heap_newn (by first | rfl | (simp; done))) | (with_reducible refine heap_alloc_mono ?_ _))); obtain ⟨k_0, k_1, g_0, g_1, l_0⟩ := blk2 hbk5)
    | (go_at_call 25; refine (H2.out _).mono ?_; rintro e w6 ⟨rfl, hg6⟩; have hbk6 : w6.heap[w.heap.size]? = some (.cells #[.int .i64 A, .int .i64 B] 35) := hg6.blk (by repeat (first | (with_reducible assumption) | (with_reducible exact heap_alloc_new _ _) | (with_reducible refine heap_drew ?_) | (with_reducible exact heap_newn (by first | rfl | (simp; done))) | (with_reducible refine heap_alloc_mono ?_ _))); obtain ⟨k_0, k_1, g_0, g_1, l_0⟩ := blk2 hbk6))
  all_goals (go_ret; exact ⟨rfl, (by repeat (first | (with_reducible exact Gr.refl _) | (with_reducible assumption) | (with_reducible refine Gr.alloc ?_ _) | (with_reducible refine Gr.drew ?_) | (with_reducible refine Gr.drewN ?_ _) | (with_reducible refine Gr.trans ?_ (by assumption)) | (with_reducible refine Gr.setCell ?_ (by first | exact Nat.le_refl _ | omega | (simp; done) | (simp; omega)) _)))⟩)
end Go.Proofs.YtmidoifdcidjcaaDoor
