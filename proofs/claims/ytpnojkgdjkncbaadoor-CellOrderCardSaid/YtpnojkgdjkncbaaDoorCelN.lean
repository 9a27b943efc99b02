/- Layer 11: the statement on the order of keys. -/
import Derived.Test.YtpnojkgdjkncbaaDoorCelL
import Derived.Test.YtpnojkgdjkncbaaDoorPlainA
import Derived.Laws.StructEq
import Derived.Deep.DeepCutAuto
import Derived.Deep.RegionHeld3
namespace Go.Proofs.YtpnojkgdjkncbaaDoor
open Go.RowKit
set_option maxRecDepth 100000
set_option linter.unusedVariables false
set_option linter.unusedSimpArgs false

theorem blk2' {w : World} {b : Nat} {x0 x1 : Value} {t : TypeId} (h : w.heap[b]? = some (.cells #[x0, x1] t)) : w.cell? ⟨b, 0, none⟩ = some x0 ∧ w.cell? ⟨b, 1, none⟩ = some x1 ∧ w.frozen? ⟨b, 0, none⟩ = false ∧ w.frozen? ⟨b, 1, none⟩ = false ∧ b < w.heap.size := blk2 h
theorem bring_bd (i : Int) {n : Int} (hn : 0 < n) : 0 ≤ bringI i n ∧ bringI i n < n := by
  unfold bringI
  rw [if_neg (by omega)]
  exact ⟨Int.emod_nonneg _ (by omega), Int.emod_lt_of_pos _ hn⟩
theorem bring_may (a b : Int) : mayB (bringI a 1099511627777) (bringI b 1048576) = true := by
  have h1 := bring_bd a (n := 1099511627777) (by decide)
  have h2 := bring_bd b (n := 1048576) (by decide)
  simp [mayB]; omega

theorem Gr.rules {a b : World} (h : Gr a b) : (∀ k o, k < a.heap.size → b.cell? ⟨k, o, none⟩ = a.cell? ⟨k, o, none⟩) ∧ (∀ k o, k < a.heap.size → b.frozen? ⟨k, o, none⟩ = a.frozen? ⟨k, o, none⟩) :=
  ⟨fun k o hk => h.cell (p := ⟨k, o, none⟩) hk, fun k o hk => h.frozen (p := ⟨k, o, none⟩) hk⟩
/-- short: a key of 1 to 32 bytes -/
def shortL (l : List UInt8) : List UInt8 := (107 :: l).take 32
theorem shortL_len (l : List UInt8) : 1 ≤ (shortL l).length ∧ (shortL l).length ≤ 32 := by simp [shortL]; omega
theorem min_32 (n : Nat) (ats : Array TypeId) (ty : TypeId) (W : World) : (Builtin.min_ ats ty #[.int .i64 ((n : Int) + 1), .int .i64 32]).run Tryd.prog W = .ok (.int .i64 ((min (n + 1) 32 : Nat) : Int)) W := by
  simp only [Builtin.min_, List.foldlM_cons, List.foldlM_nil, Builtin.min2]
  by_cases h : (32 : Int) < (n : Int) + 1
  · have e : min (n + 1) 32 = 32 := by omega
    simp [h, e, go_sem]
  · have e : min (n + 1) 32 = n + 1 := by omega
    simp [h, e, go_sem]
theorem short_any (s : ByteArray) (hs : s.size ≤ 140737488355328) (w : World) :
    Calls Tryd.prog 18 #[.string s] w fun e w' => e = .returned (.string ⟨(shortL s.data.toList).toArray⟩) ∧ w = w' := by
  have hm := fun W => min_32 s.size #[3, 3] 3 W
  have hx : ((⟨#[107]⟩ : ByteArray) ++ s).extract 0 (min (s.size + 1) 32) = ⟨(shortL s.data.toList).toArray⟩ := ba_ext (by
    rw [show (⟨#[107]⟩ : ByteArray) ++ s = ⟨([107] ++ s.data.toList).toArray⟩ from by rw [← str_append, ← ba_mk s]]
    rw [ext_n]
    show List.take _ _ = shortL _
    unfold shortL
    have : s.data.toList.length = s.size := Array.length_toList
    simp only [List.singleton_append, List.take_eq_take_iff, List.length_cons]
    omega)
  go_enter Tryd.func18, Tryd.ntmps18
  go_wp2
  go_ret
  exact ⟨rfl, rfl⟩

set_option maxHeartbeats 2000000 in
theorem lawBring_any (a b : Int) (ha : -9223372036854775808 ≤ a ∧ a ≤ 9223372036854775807) (hb : -9223372036854775808 ≤ b ∧ b ≤ 9223372036854775807) (w : World) :
    Calls Tryd.prog 19 #[.agg #[.int .i64 a, .int .i64 b]] w fun e w' => e = .returned (.agg #[.int .i64 (bringI a 1099511627777), .int .i64 (bringI b 1048576)]) ∧
      w' = ((w.alloc (.cells #[.int .i64 a, .int .i64 b] 23)).alloc (.cells #[.int .i64 (bringI a 1099511627777), .int .i64 (bringI b 1048576)] 23)).drew := by
  go_enter Tryd.func19, Tryd.ntmps19
  go_wp2
  go_region_with (go_at_call 36; refine (bring_any _ _ (by omega) (by omega) _).mono ?_; rintro e w2 ⟨rfl, rfl⟩)
  all_goals go_wp2
  all_goals exact bodyPost_ret (v := .agg #[.int .i64 (bringI a 1099511627777), .int .i64 (bringI b 1048576)]) (by simp [results, Tryd.results19, go_sem]) rfl ⟨rfl, rfl⟩

set_option maxHeartbeats 4000000 in
theorem cellOrder_walk (s t : ByteArray) (a b c d : Int) (hs : s.size ≤ 140737488351232) (ht : t.size ≤ 140737488351232) (ha : -9223372036854775808 ≤ a ∧ a ≤ 9223372036854775807) (hb : -9223372036854775808 ≤ b ∧ b ≤ 9223372036854775807)
    (hc : -9223372036854775808 ≤ c ∧ c ≤ 9223372036854775807) (hd : -9223372036854775808 ≤ d ∧ d ≤ 9223372036854775807) (w : World) (hw : Sh w) :
    Calls Tryd.prog 4 #[.string s, .string t, .agg #[.int .i64 a, .int .i64 b, .int .i64 c, .int .i64 d]] w fun e w' => e = .returned (.bool true) ∧ Gr w w' := by
  have S1 := Lib.hid (lawBring_any a b ha hb)
  have S2 := Lib.hid (lawBring_any c d hc hd)
  have m1 := bring_may a b
  have m2 := bring_may c d
  generalize bringI a 1099511627777 = A at S1 m1
  generalize bringI b 1048576 = B at S1 m1
  generalize bringI c 1099511627777 = C at S2 m2
  generalize bringI d 1048576 = D at S2 m2
  have M1 := Lib.hid m1
  have M2 := Lib.hid m2
  clear m1 m2
  have hl1 := shortL_len s.data.toList
  have hl2 := shortL_len t.data.toList
  have K1 := Lib.hid (short_any s (by omega))
  have K2 := Lib.hid (short_any t (by omega))
  generalize shortL s.data.toList = x at K1 hl1
  generalize shortL t.data.toList = y at K2 hl2
  clear ha hb hc hd hs ht
  go_enter Tryd.func4, Tryd.ntmps4
  go_wp2_with fail
  refine (K1.out _).mono ?_; rintro e w1 ⟨rfl, rfl⟩
  go_wp2_with fail
  refine (K2.out _).mono ?_; rintro e w1 ⟨rfl, rfl⟩
  have hb0 : (w.alloc (.cells #[.int .i64 a, .int .i64 b, .int .i64 c, .int .i64 d] 31)).heap[w.heap.size]? = some (.cells #[.int .i64 a, .int .i64 b, .int .i64 c, .int .i64 d] 31) := heap_alloc_new _ _
  obtain ⟨k_0, k_1, k_2, k_3, g_0, g_1, g_2, g_3, l_0⟩ := blk4 hb0
  go_upto_region 3 with fail
  go_cut [9, 10] (fun s9 s10 wx => ∃ p q, s9 = .pointer (some ⟨p, 0, none⟩) ∧ s10 = .pointer (some ⟨q, 0, none⟩) ∧ wx.heap[p]? = some (.cells #[.int .i64 A, .int .i64 B] 23) ∧ wx.heap[q]? = some (.cells #[.int .i64 C, .int .i64 D] 23) ∧ Gr w wx)
  case first =>
    go_region_held3 (fun w' => w'.cell? ⟨w.heap.size, 0, none⟩ = some (.int .i64 a) ∧ w'.cell? ⟨w.heap.size, 1, none⟩ = some (.int .i64 b) ∧ w'.cell? ⟨w.heap.size, 2, none⟩ = some (.int .i64 c) ∧ w'.cell? ⟨w.heap.size, 3, none⟩ = some (.int .i64 d))
      ((go_split_ands; refine ⟨(blk4 (by repeat (first | (with_reducible assumption) | (with_reducible exact heap_alloc_new _ _) | (with_reducible refine heap_drew ?_) | (with_reducible refine heap_newn ?_; (first | rfl | (simp; done))) | (with_reducible refine heap_alloc_mono ?_ _)))).1, (blk4 (by repeat (first | (with_reducible assumption) | (with_reducible exact heap_alloc_new _ _) | (with_reducible refine heap_drew ?_) | (with_reducible refine heap_newn ?_; (first | rfl | (simp; done))) | (with_reducible refine heap_alloc_mono ?_ _)))).2.1, (blk4 (by repeat (first | (with_reducible assumption) | (with_reducible exact heap_alloc_new _ _) | (with_reducible refine heap_drew ?_) | (with_reducible refine heap_newn ?_; (first | rfl | (simp; done))) | (with_reducible refine heap_alloc_mono ?_ _)))).2.2.1, (blk4 (by repeat (first | (with_reducible assumption) | (with_reducible exact heap_alloc_new _ _) | (with_reducible refine heap_drew ?_) | (with_reducible refine heap_newn ?_; (first | rfl | (simp; done))) | (with_reducible refine heap_alloc_mono ?_ _)))).2.2.2.1⟩))
      ((go_at_call 19; first | ((with_reducible refine (S1.out _).mono ?_); rintro e w2 ⟨rfl, rfl⟩) | ((with_reducible refine (S2.out _).mono ?_); rintro e w3 ⟨rfl, rfl⟩)))
    all_goals (go_wp2_with fail; go_meet; exact ⟨_, _, rfl, rfl, (by repeat (first | (with_reducible assumption) | (with_reducible exact heap_alloc_new _ _) | (with_reducible refine heap_drew ?_) | (with_reducible refine heap_newn ?_; (first | rfl | (simp; done))) | (with_reducible refine heap_alloc_mono ?_ _))), (by repeat (first | (with_reducible assumption) | (with_reducible exact heap_alloc_new _ _) | (with_reducible refine heap_drew ?_) | (with_reducible refine heap_newn ?_; (first | rfl | (simp; done))) | (with_reducible refine heap_alloc_mono ?_ _))), (by repeat (first | (with_reducible exact Gr.refl _) | (with_reducible assumption) | (with_reducible refine Gr.alloc ?_ _) | (with_reducible refine Gr.drew ?_) | (with_reducible refine Gr.drewN ?_ _) | (with_reducible refine Gr.trans ?_ (by assumption)) | (with_reducible refine Gr.setCell ?_ (by first | exact Nat.le_refl _ | omega | (simp; done) | (simp; omega)) _)))⟩)
  case rest =>
    obtain ⟨p, q, rfl, rfl, hb1, hb2, hg1⟩ := hcut
    obtain ⟨k_0, k_1, g_0, g_1, l_0⟩ := blk2 hb1
    obtain ⟨k_2, k_3, g_2, g_3, l_1⟩ := blk2 hb2
    have HB1 := Lib.hid hb1
    have HB2 := Lib.hid hb2
    clear hb1 hb2
    have HV1 := Lib.hid (fun w hw => versionKey_any ⟨x.toArray⟩ A B w hw)
    have HV2 := Lib.hid (fun w hw => versionKey_any ⟨y.toArray⟩ C D w hw)
    have HI1 := Lib.hid (fun w hw => intentKey_any ⟨x.toArray⟩ w hw)
    have HI2 := Lib.hid (fun w hw => intentKey_any ⟨y.toArray⟩ w hw)
    rw [show versionKeyR (⟨x.toArray⟩ : ByteArray).data.toList A B = (118 :: (keyL x ++ downL A B), 0) by show versionKeyR x A B = _; unfold versionKeyR; rw [if_pos ⟨by omega, M1.out⟩]] at HV1
    rw [show versionKeyR (⟨y.toArray⟩ : ByteArray).data.toList C D = (118 :: (keyL y ++ downL C D), 0) by show versionKeyR y C D = _; unfold versionKeyR; rw [if_pos ⟨by omega, M2.out⟩]] at HV2
    rw [show intentKeyR (⟨x.toArray⟩ : ByteArray).data.toList = (105 :: keyL x, 0) by show intentKeyR x = _; unfold intentKeyR; rw [if_pos (by omega)]] at HI1
    rw [show intentKeyR (⟨y.toArray⟩ : ByteArray).data.toList = (105 :: keyL y, 0) by show intentKeyR y = _; unfold intentKeyR; rw [if_pos (by omega)]] at HI2
    by_cases hxy : x = y
    · subst hxy
      have f1 := less_self (105 :: keyL x)
      have f2 := less_self x
      have F5 := Lib.hid ((less_cons 118 (keyL x ++ downL A B) (keyL x ++ downL C D)).trans ((less_key_same x _ _).trans (less_down M1.out M2.out)))
      have hcase : (C < A) ∨ (A < C) ∨ (A = C ∧ D < B) ∨ (A = C ∧ B < D) ∨ (A = C ∧ B = D) := by omega
      have HI := Lib.hid (fun h => downL_inj M1.out M2.out h)
      rcases hcase with h | h | ⟨rfl, h⟩ | ⟨rfl, h⟩ | ⟨rfl, rfl⟩
      · have f5 : Op.bytesLess (118 :: (keyL x ++ downL A B)) (118 :: (keyL x ++ downL C D)) = true := F5.out.trans (by simp; omega)
        have f6 : (downL A B == downL C D) = false := beq_eq_false_iff_ne.2 (fun e => by have := HI.out e; omega)
        have f7 : (keyL x ++ downL A B == keyL x ++ downL C D) = false := beq_eq_false_iff_ne.2 (fun e => by have := HI.out (List.append_cancel_left e); omega)
        have f8 : (A == C) = false := beq_eq_false_iff_ne.2 (by omega)
        have f9 : ¬ A < C := by omega
        have f10 : decide (A < C) = false := by simpa using f9
        go_wp2_with fail
        refine (HV1.out _ (hw.gr (by repeat (first | (with_reducible exact Gr.refl _) | (with_reducible assumption) | (with_reducible refine Gr.alloc ?_ _) | (with_reducible refine Gr.drew ?_) | (with_reducible refine Gr.drewN ?_ _) | (with_reducible refine Gr.trans ?_ (by assumption)) | (with_reducible refine Gr.setCell ?_ (by first | exact Nat.le_refl _ | omega | (simp; done) | (simp; omega)) _))))).mono ?_; rintro e w2 ⟨rfl, hg2⟩
        obtain ⟨k_0, k_1, g_0, g_1, l_0⟩ := blk2 (hg2.blk HB1.out)
        obtain ⟨k_2, k_3, g_2, g_3, l_1⟩ := blk2 (hg2.blk HB2.out)
        go_wp2_with fail
        refine (HV2.out _ (hw.gr (by repeat (first | (with_reducible exact Gr.refl _) | (with_reducible assumption) | (with_reducible refine Gr.alloc ?_ _) | (with_reducible refine Gr.drew ?_) | (with_reducible refine Gr.drewN ?_ _) | (with_reducible refine Gr.trans ?_ (by assumption)) | (with_reducible refine Gr.setCell ?_ (by first | exact Nat.le_refl _ | omega | (simp; done) | (simp; omega)) _))))).mono ?_; rintro e w3 ⟨rfl, hg3⟩
        obtain ⟨k_0, k_1, g_0, g_1, l_0⟩ := blk2 (hg3.blk (hg2.blk HB1.out))
        obtain ⟨k_2, k_3, g_2, g_3, l_1⟩ := blk2 (hg3.blk (hg2.blk HB2.out))
        go_wp2_with fail
        refine (HI1.out _ (hw.gr (by repeat (first | (with_reducible exact Gr.refl _) | (with_reducible assumption) | (with_reducible refine Gr.alloc ?_ _) | (with_reducible refine Gr.drew ?_) | (with_reducible refine Gr.drewN ?_ _) | (with_reducible refine Gr.trans ?_ (by assumption)) | (with_reducible refine Gr.setCell ?_ (by first | exact Nat.le_refl _ | omega | (simp; done) | (simp; omega)) _))))).mono ?_; rintro e w4 ⟨rfl, hg4⟩
        go_wp2_with fail
        refine (HI2.out _ (hw.gr (by repeat (first | (with_reducible exact Gr.refl _) | (with_reducible assumption) | (with_reducible refine Gr.alloc ?_ _) | (with_reducible refine Gr.drew ?_) | (with_reducible refine Gr.drewN ?_ _) | (with_reducible refine Gr.trans ?_ (by assumption)) | (with_reducible refine Gr.setCell ?_ (by first | exact Nat.le_refl _ | omega | (simp; done) | (simp; omega)) _))))).mono ?_; rintro e w5 ⟨rfl, hg5⟩
        obtain ⟨k_0, k_1, g_0, g_1, l_0⟩ := blk2 (hg5.blk (hg4.blk (hg3.blk (hg2.blk HB1.out))))
        obtain ⟨k_2, k_3, g_2, g_3, l_1⟩ := blk2 (hg5.blk (hg4.blk (hg3.blk (hg2.blk HB2.out))))
        go_wp2_with (go_at_call 17; refine (awake_any _ (hw.gr (by repeat (first | (with_reducible exact Gr.refl _) | (with_reducible assumption) | (with_reducible refine Gr.alloc ?_ _) | (with_reducible refine Gr.drew ?_) | (with_reducible refine Gr.drewN ?_ _) | (with_reducible refine Gr.trans ?_ (by assumption)) | (with_reducible refine Gr.setCell ?_ (by first | exact Nat.le_refl _ | omega | (simp; done) | (simp; omega)) _))))).mono ?_; rintro e w6 ⟨rfl, hg6⟩)
        all_goals (go_ret; exact ⟨rfl, (by repeat (first | (with_reducible exact Gr.refl _) | (with_reducible assumption) | (with_reducible refine Gr.alloc ?_ _) | (with_reducible refine Gr.drew ?_) | (with_reducible refine Gr.drewN ?_ _) | (with_reducible refine Gr.trans ?_ (by assumption)) | (with_reducible refine Gr.setCell ?_ (by first | exact Nat.le_refl _ | omega | (simp; done) | (simp; omega)) _)))⟩)
      · have f5 : Op.bytesLess (118 :: (keyL x ++ downL A B)) (118 :: (keyL x ++ downL C D)) = false := F5.out.trans (by simp; omega)
        have f6 : (downL A B == downL C D) = false := beq_eq_false_iff_ne.2 (fun e => by have := HI.out e; omega)
        have f7 : (keyL x ++ downL A B == keyL x ++ downL C D) = false := beq_eq_false_iff_ne.2 (fun e => by have := HI.out (List.append_cancel_left e); omega)
        have f8 : (A == C) = false := beq_eq_false_iff_ne.2 (by omega)
        go_wp2_with fail
        refine (HV1.out _ (hw.gr (by repeat (first | (with_reducible exact Gr.refl _) | (with_reducible assumption) | (with_reducible refine Gr.alloc ?_ _) | (with_reducible refine Gr.drew ?_) | (with_reducible refine Gr.drewN ?_ _) | (with_reducible refine Gr.trans ?_ (by assumption)) | (with_reducible refine Gr.setCell ?_ (by first | exact Nat.le_refl _ | omega | (simp; done) | (simp; omega)) _))))).mono ?_; rintro e w2 ⟨rfl, hg2⟩
        obtain ⟨k_0, k_1, g_0, g_1, l_0⟩ := blk2 (hg2.blk HB1.out)
        obtain ⟨k_2, k_3, g_2, g_3, l_1⟩ := blk2 (hg2.blk HB2.out)
        go_wp2_with fail
        refine (HV2.out _ (hw.gr (by repeat (first | (with_reducible exact Gr.refl _) | (with_reducible assumption) | (with_reducible refine Gr.alloc ?_ _) | (with_reducible refine Gr.drew ?_) | (with_reducible refine Gr.drewN ?_ _) | (with_reducible refine Gr.trans ?_ (by assumption)) | (with_reducible refine Gr.setCell ?_ (by first | exact Nat.le_refl _ | omega | (simp; done) | (simp; omega)) _))))).mono ?_; rintro e w3 ⟨rfl, hg3⟩
        obtain ⟨k_0, k_1, g_0, g_1, l_0⟩ := blk2 (hg3.blk (hg2.blk HB1.out))
        obtain ⟨k_2, k_3, g_2, g_3, l_1⟩ := blk2 (hg3.blk (hg2.blk HB2.out))
        go_wp2_with fail
        refine (HI1.out _ (hw.gr (by repeat (first | (with_reducible exact Gr.refl _) | (with_reducible assumption) | (with_reducible refine Gr.alloc ?_ _) | (with_reducible refine Gr.drew ?_) | (with_reducible refine Gr.drewN ?_ _) | (with_reducible refine Gr.trans ?_ (by assumption)) | (with_reducible refine Gr.setCell ?_ (by first | exact Nat.le_refl _ | omega | (simp; done) | (simp; omega)) _))))).mono ?_; rintro e w4 ⟨rfl, hg4⟩
        go_wp2_with fail
        refine (HI2.out _ (hw.gr (by repeat (first | (with_reducible exact Gr.refl _) | (with_reducible assumption) | (with_reducible refine Gr.alloc ?_ _) | (with_reducible refine Gr.drew ?_) | (with_reducible refine Gr.drewN ?_ _) | (with_reducible refine Gr.trans ?_ (by assumption)) | (with_reducible refine Gr.setCell ?_ (by first | exact Nat.le_refl _ | omega | (simp; done) | (simp; omega)) _))))).mono ?_; rintro e w5 ⟨rfl, hg5⟩
        obtain ⟨k_0, k_1, g_0, g_1, l_0⟩ := blk2 (hg5.blk (hg4.blk (hg3.blk (hg2.blk HB1.out))))
        obtain ⟨k_2, k_3, g_2, g_3, l_1⟩ := blk2 (hg5.blk (hg4.blk (hg3.blk (hg2.blk HB2.out))))
        go_wp2_with (go_at_call 17; refine (awake_any _ (hw.gr (by repeat (first | (with_reducible exact Gr.refl _) | (with_reducible assumption) | (with_reducible refine Gr.alloc ?_ _) | (with_reducible refine Gr.drew ?_) | (with_reducible refine Gr.drewN ?_ _) | (with_reducible refine Gr.trans ?_ (by assumption)) | (with_reducible refine Gr.setCell ?_ (by first | exact Nat.le_refl _ | omega | (simp; done) | (simp; omega)) _))))).mono ?_; rintro e w6 ⟨rfl, hg6⟩)
        all_goals (go_ret; exact ⟨rfl, (by repeat (first | (with_reducible exact Gr.refl _) | (with_reducible assumption) | (with_reducible refine Gr.alloc ?_ _) | (with_reducible refine Gr.drew ?_) | (with_reducible refine Gr.drewN ?_ _) | (with_reducible refine Gr.trans ?_ (by assumption)) | (with_reducible refine Gr.setCell ?_ (by first | exact Nat.le_refl _ | omega | (simp; done) | (simp; omega)) _)))⟩)
      · have f5 : Op.bytesLess (118 :: (keyL x ++ downL A B)) (118 :: (keyL x ++ downL A D)) = true := F5.out.trans (by simp; omega)
        have f6 : (downL A B == downL A D) = false := beq_eq_false_iff_ne.2 (fun e => by have := HI.out e; omega)
        have f7 : (keyL x ++ downL A B == keyL x ++ downL A D) = false := beq_eq_false_iff_ne.2 (fun e => by have := HI.out (List.append_cancel_left e); omega)
        have f8 : (B == D) = false := beq_eq_false_iff_ne.2 (by omega)
        have f9 : ¬ B < D := by omega
        have f10 : decide (B < D) = false := by simpa using f9
        go_wp2_with fail
        refine (HV1.out _ (hw.gr (by repeat (first | (with_reducible exact Gr.refl _) | (with_reducible assumption) | (with_reducible refine Gr.alloc ?_ _) | (with_reducible refine Gr.drew ?_) | (with_reducible refine Gr.drewN ?_ _) | (with_reducible refine Gr.trans ?_ (by assumption)) | (with_reducible refine Gr.setCell ?_ (by first | exact Nat.le_refl _ | omega | (simp; done) | (simp; omega)) _))))).mono ?_; rintro e w2 ⟨rfl, hg2⟩
        obtain ⟨k_0, k_1, g_0, g_1, l_0⟩ := blk2 (hg2.blk HB1.out)
        obtain ⟨k_2, k_3, g_2, g_3, l_1⟩ := blk2 (hg2.blk HB2.out)
        go_wp2_with fail
        refine (HV2.out _ (hw.gr (by repeat (first | (with_reducible exact Gr.refl _) | (with_reducible assumption) | (with_reducible refine Gr.alloc ?_ _) | (with_reducible refine Gr.drew ?_) | (with_reducible refine Gr.drewN ?_ _) | (with_reducible refine Gr.trans ?_ (by assumption)) | (with_reducible refine Gr.setCell ?_ (by first | exact Nat.le_refl _ | omega | (simp; done) | (simp; omega)) _))))).mono ?_; rintro e w3 ⟨rfl, hg3⟩
        obtain ⟨k_0, k_1, g_0, g_1, l_0⟩ := blk2 (hg3.blk (hg2.blk HB1.out))
        obtain ⟨k_2, k_3, g_2, g_3, l_1⟩ := blk2 (hg3.blk (hg2.blk HB2.out))
        go_wp2_with fail
        refine (HI1.out _ (hw.gr (by repeat (first | (with_reducible exact Gr.refl _) | (with_reducible assumption) | (with_reducible refine Gr.alloc ?_ _) | (with_reducible refine Gr.drew ?_) | (with_reducible refine Gr.drewN ?_ _) | (with_reducible refine Gr.trans ?_ (by assumption)) | (with_reducible refine Gr.setCell ?_ (by first | exact Nat.le_refl _ | omega | (simp; done) | (simp; omega)) _))))).mono ?_; rintro e w4 ⟨rfl, hg4⟩
        go_wp2_with fail
        refine (HI2.out _ (hw.gr (by repeat (first | (with_reducible exact Gr.refl _) | (with_reducible assumption) | (with_reducible refine Gr.alloc ?_ _) | (with_reducible refine Gr.drew ?_) | (with_reducible refine Gr.drewN ?_ _) | (with_reducible refine Gr.trans ?_ (by assumption)) | (with_reducible refine Gr.setCell ?_ (by first | exact Nat.le_refl _ | omega | (simp; done) | (simp; omega)) _))))).mono ?_; rintro e w5 ⟨rfl, hg5⟩
        obtain ⟨k_0, k_1, g_0, g_1, l_0⟩ := blk2 (hg5.blk (hg4.blk (hg3.blk (hg2.blk HB1.out))))
        obtain ⟨k_2, k_3, g_2, g_3, l_1⟩ := blk2 (hg5.blk (hg4.blk (hg3.blk (hg2.blk HB2.out))))
        go_wp2_with (go_at_call 17; refine (awake_any _ (hw.gr (by repeat (first | (with_reducible exact Gr.refl _) | (with_reducible assumption) | (with_reducible refine Gr.alloc ?_ _) | (with_reducible refine Gr.drew ?_) | (with_reducible refine Gr.drewN ?_ _) | (with_reducible refine Gr.trans ?_ (by assumption)) | (with_reducible refine Gr.setCell ?_ (by first | exact Nat.le_refl _ | omega | (simp; done) | (simp; omega)) _))))).mono ?_; rintro e w6 ⟨rfl, hg6⟩)
        all_goals (go_ret; exact ⟨rfl, (by repeat (first | (with_reducible exact Gr.refl _) | (with_reducible assumption) | (with_reducible refine Gr.alloc ?_ _) | (with_reducible refine Gr.drew ?_) | (with_reducible refine Gr.drewN ?_ _) | (with_reducible refine Gr.trans ?_ (by assumption)) | (with_reducible refine Gr.setCell ?_ (by first | exact Nat.le_refl _ | omega | (simp; done) | (simp; omega)) _)))⟩)
      · have f5 : Op.bytesLess (118 :: (keyL x ++ downL A B)) (118 :: (keyL x ++ downL A D)) = false := F5.out.trans (by simp; omega)
        have f6 : (downL A B == downL A D) = false := beq_eq_false_iff_ne.2 (fun e => by have := HI.out e; omega)
        have f7 : (keyL x ++ downL A B == keyL x ++ downL A D) = false := beq_eq_false_iff_ne.2 (fun e => by have := HI.out (List.append_cancel_left e); omega)
        have f8 : (B == D) = false := beq_eq_false_iff_ne.2 (by omega)
        go_wp2_with fail
        refine (HV1.out _ (hw.gr (by repeat (first | (with_reducible exact Gr.refl _) | (with_reducible assumption) | (with_reducible refine Gr.alloc ?_ _) | (with_reducible refine Gr.drew ?_) | (with_reducible refine Gr.drewN ?_ _) | (with_reducible refine Gr.trans ?_ (by assumption)) | (with_reducible refine Gr.setCell ?_ (by first | exact Nat.le_refl _ | omega | (simp; done) | (simp; omega)) _))))).mono ?_; rintro e w2 ⟨rfl, hg2⟩
        obtain ⟨k_0, k_1, g_0, g_1, l_0⟩ := blk2 (hg2.blk HB1.out)
        obtain ⟨k_2, k_3, g_2, g_3, l_1⟩ := blk2 (hg2.blk HB2.out)
        go_wp2_with fail
        refine (HV2.out _ (hw.gr (by repeat (first | (with_reducible exact Gr.refl _) | (with_reducible assumption) | (with_reducible refine Gr.alloc ?_ _) | (with_reducible refine Gr.drew ?_) | (with_reducible refine Gr.drewN ?_ _) | (with_reducible refine Gr.trans ?_ (by assumption)) | (with_reducible refine Gr.setCell ?_ (by first | exact Nat.le_refl _ | omega | (simp; done) | (simp; omega)) _))))).mono ?_; rintro e w3 ⟨rfl, hg3⟩
        obtain ⟨k_0, k_1, g_0, g_1, l_0⟩ := blk2 (hg3.blk (hg2.blk HB1.out))
        obtain ⟨k_2, k_3, g_2, g_3, l_1⟩ := blk2 (hg3.blk (hg2.blk HB2.out))
        go_wp2_with fail
        refine (HI1.out _ (hw.gr (by repeat (first | (with_reducible exact Gr.refl _) | (with_reducible assumption) | (with_reducible refine Gr.alloc ?_ _) | (with_reducible refine Gr.drew ?_) | (with_reducible refine Gr.drewN ?_ _) | (with_reducible refine Gr.trans ?_ (by assumption)) | (with_reducible refine Gr.setCell ?_ (by first | exact Nat.le_refl _ | omega | (simp; done) | (simp; omega)) _))))).mono ?_; rintro e w4 ⟨rfl, hg4⟩
        go_wp2_with fail
        refine (HI2.out _ (hw.gr (by repeat (first | (with_reducible exact Gr.refl _) | (with_reducible assumption) | (with_reducible refine Gr.alloc ?_ _) | (with_reducible refine Gr.drew ?_) | (with_reducible refine Gr.drewN ?_ _) | (with_reducible refine Gr.trans ?_ (by assumption)) | (with_reducible refine Gr.setCell ?_ (by first | exact Nat.le_refl _ | omega | (simp; done) | (simp; omega)) _))))).mono ?_; rintro e w5 ⟨rfl, hg5⟩
        obtain ⟨k_0, k_1, g_0, g_1, l_0⟩ := blk2 (hg5.blk (hg4.blk (hg3.blk (hg2.blk HB1.out))))
        obtain ⟨k_2, k_3, g_2, g_3, l_1⟩ := blk2 (hg5.blk (hg4.blk (hg3.blk (hg2.blk HB2.out))))
        go_wp2_with (go_at_call 17; refine (awake_any _ (hw.gr (by repeat (first | (with_reducible exact Gr.refl _) | (with_reducible assumption) | (with_reducible refine Gr.alloc ?_ _) | (with_reducible refine Gr.drew ?_) | (with_reducible refine Gr.drewN ?_ _) | (with_reducible refine Gr.trans ?_ (by assumption)) | (with_reducible refine Gr.setCell ?_ (by first | exact Nat.le_refl _ | omega | (simp; done) | (simp; omega)) _))))).mono ?_; rintro e w6 ⟨rfl, hg6⟩)
        all_goals (go_ret; exact ⟨rfl, (by repeat (first | (with_reducible exact Gr.refl _) | (with_reducible assumption) | (with_reducible refine Gr.alloc ?_ _) | (with_reducible refine Gr.drew ?_) | (with_reducible refine Gr.drewN ?_ _) | (with_reducible refine Gr.trans ?_ (by assumption)) | (with_reducible refine Gr.setCell ?_ (by first | exact Nat.le_refl _ | omega | (simp; done) | (simp; omega)) _)))⟩)
      · have f5 := less_self (118 :: (keyL x ++ downL A B))
        go_wp2_with fail
        refine (HV1.out _ (hw.gr (by repeat (first | (with_reducible exact Gr.refl _) | (with_reducible assumption) | (with_reducible refine Gr.alloc ?_ _) | (with_reducible refine Gr.drew ?_) | (with_reducible refine Gr.drewN ?_ _) | (with_reducible refine Gr.trans ?_ (by assumption)) | (with_reducible refine Gr.setCell ?_ (by first | exact Nat.le_refl _ | omega | (simp; done) | (simp; omega)) _))))).mono ?_; rintro e w2 ⟨rfl, hg2⟩
        obtain ⟨k_0, k_1, g_0, g_1, l_0⟩ := blk2 (hg2.blk HB1.out)
        obtain ⟨k_2, k_3, g_2, g_3, l_1⟩ := blk2 (hg2.blk HB2.out)
        go_wp2_with fail
        refine (HV2.out _ (hw.gr (by repeat (first | (with_reducible exact Gr.refl _) | (with_reducible assumption) | (with_reducible refine Gr.alloc ?_ _) | (with_reducible refine Gr.drew ?_) | (with_reducible refine Gr.drewN ?_ _) | (with_reducible refine Gr.trans ?_ (by assumption)) | (with_reducible refine Gr.setCell ?_ (by first | exact Nat.le_refl _ | omega | (simp; done) | (simp; omega)) _))))).mono ?_; rintro e w3 ⟨rfl, hg3⟩
        obtain ⟨k_0, k_1, g_0, g_1, l_0⟩ := blk2 (hg3.blk (hg2.blk HB1.out))
        obtain ⟨k_2, k_3, g_2, g_3, l_1⟩ := blk2 (hg3.blk (hg2.blk HB2.out))
        go_wp2_with fail
        refine (HI1.out _ (hw.gr (by repeat (first | (with_reducible exact Gr.refl _) | (with_reducible assumption) | (with_reducible refine Gr.alloc ?_ _) | (with_reducible refine Gr.drew ?_) | (with_reducible refine Gr.drewN ?_ _) | (with_reducible refine Gr.trans ?_ (by assumption)) | (with_reducible refine Gr.setCell ?_ (by first | exact Nat.le_refl _ | omega | (simp; done) | (simp; omega)) _))))).mono ?_; rintro e w4 ⟨rfl, hg4⟩
        go_wp2_with fail
        refine (HI2.out _ (hw.gr (by repeat (first | (with_reducible exact Gr.refl _) | (with_reducible assumption) | (with_reducible refine Gr.alloc ?_ _) | (with_reducible refine Gr.drew ?_) | (with_reducible refine Gr.drewN ?_ _) | (with_reducible refine Gr.trans ?_ (by assumption)) | (with_reducible refine Gr.setCell ?_ (by first | exact Nat.le_refl _ | omega | (simp; done) | (simp; omega)) _))))).mono ?_; rintro e w5 ⟨rfl, hg5⟩
        obtain ⟨k_0, k_1, g_0, g_1, l_0⟩ := blk2 (hg5.blk (hg4.blk (hg3.blk (hg2.blk HB1.out))))
        obtain ⟨k_2, k_3, g_2, g_3, l_1⟩ := blk2 (hg5.blk (hg4.blk (hg3.blk (hg2.blk HB2.out))))
        go_wp2_with (go_at_call 17; refine (awake_any _ (hw.gr (by repeat (first | (with_reducible exact Gr.refl _) | (with_reducible assumption) | (with_reducible refine Gr.alloc ?_ _) | (with_reducible refine Gr.drew ?_) | (with_reducible refine Gr.drewN ?_ _) | (with_reducible refine Gr.trans ?_ (by assumption)) | (with_reducible refine Gr.setCell ?_ (by first | exact Nat.le_refl _ | omega | (simp; done) | (simp; omega)) _))))).mono ?_; rintro e w6 ⟨rfl, hg6⟩)
        all_goals (go_ret; exact ⟨rfl, (by repeat (first | (with_reducible exact Gr.refl _) | (with_reducible assumption) | (with_reducible refine Gr.alloc ?_ _) | (with_reducible refine Gr.drew ?_) | (with_reducible refine Gr.drewN ?_ _) | (with_reducible refine Gr.trans ?_ (by assumption)) | (with_reducible refine Gr.setCell ?_ (by first | exact Nat.le_refl _ | omega | (simp; done) | (simp; omega)) _)))⟩)
    · have f1 := (less_cons 105 (keyL x) (keyL y)).trans (less_key x y)
      have f2 := (less_cons 118 (keyL x ++ downL A B) (keyL y ++ downL C D)).trans (less_key_app hxy (downL A B) (downL C D))
      have f3 : (keyL x == keyL y) = false := beq_eq_false_iff_ne.2 (fun e => hxy (keyL_inj e))
      have f4 : (x == y) = false := beq_eq_false_iff_ne.2 hxy
      clear hxy
      go_wp2_with fail
      refine (HV1.out _ (hw.gr (by repeat (first | (with_reducible exact Gr.refl _) | (with_reducible assumption) | (with_reducible refine Gr.alloc ?_ _) | (with_reducible refine Gr.drew ?_) | (with_reducible refine Gr.drewN ?_ _) | (with_reducible refine Gr.trans ?_ (by assumption)) | (with_reducible refine Gr.setCell ?_ (by first | exact Nat.le_refl _ | omega | (simp; done) | (simp; omega)) _))))).mono ?_; rintro e w2 ⟨rfl, hg2⟩
      obtain ⟨k_0, k_1, g_0, g_1, l_0⟩ := blk2 (hg2.blk HB1.out)
      obtain ⟨k_2, k_3, g_2, g_3, l_1⟩ := blk2 (hg2.blk HB2.out)
      go_wp2_with fail
      refine (HV2.out _ (hw.gr (by repeat (first | (with_reducible exact Gr.refl _) | (with_reducible assumption) | (with_reducible refine Gr.alloc ?_ _) | (with_reducible refine Gr.drew ?_) | (with_reducible refine Gr.drewN ?_ _) | (with_reducible refine Gr.trans ?_ (by assumption)) | (with_reducible refine Gr.setCell ?_ (by first | exact Nat.le_refl _ | omega | (simp; done) | (simp; omega)) _))))).mono ?_; rintro e w3 ⟨rfl, hg3⟩
      obtain ⟨k_0, k_1, g_0, g_1, l_0⟩ := blk2 (hg3.blk (hg2.blk HB1.out))
      obtain ⟨k_2, k_3, g_2, g_3, l_1⟩ := blk2 (hg3.blk (hg2.blk HB2.out))
      go_wp2_with fail
      refine (HI1.out _ (hw.gr (by repeat (first | (with_reducible exact Gr.refl _) | (with_reducible assumption) | (with_reducible refine Gr.alloc ?_ _) | (with_reducible refine Gr.drew ?_) | (with_reducible refine Gr.drewN ?_ _) | (with_reducible refine Gr.trans ?_ (by assumption)) | (with_reducible refine Gr.setCell ?_ (by first | exact Nat.le_refl _ | omega | (simp; done) | (simp; omega)) _))))).mono ?_; rintro e w4 ⟨rfl, hg4⟩
      go_wp2_with fail
      refine (HI2.out _ (hw.gr (by repeat (first | (with_reducible exact Gr.refl _) | (with_reducible assumption) | (with_reducible refine Gr.alloc ?_ _) | (with_reducible refine Gr.drew ?_) | (with_reducible refine Gr.drewN ?_ _) | (with_reducible refine Gr.trans ?_ (by assumption)) | (with_reducible refine Gr.setCell ?_ (by first | exact Nat.le_refl _ | omega | (simp; done) | (simp; omega)) _))))).mono ?_; rintro e w5 ⟨rfl, hg5⟩
      go_wp2_with (go_at_call 17; refine (awake_any _ (hw.gr (by repeat (first | (with_reducible exact Gr.refl _) | (with_reducible assumption) | (with_reducible refine Gr.alloc ?_ _) | (with_reducible refine Gr.drew ?_) | (with_reducible refine Gr.drewN ?_ _) | (with_reducible refine Gr.trans ?_ (by assumption)) | (with_reducible refine Gr.setCell ?_ (by first | exact Nat.le_refl _ | omega | (simp; done) | (simp; omega)) _))))).mono ?_; rintro e w6 ⟨rfl, hg6⟩)
      all_goals (go_ret; exact ⟨rfl, (by repeat (first | (with_reducible exact Gr.refl _) | (with_reducible assumption) | (with_reducible refine Gr.alloc ?_ _) | (with_reducible refine Gr.drew ?_) | (with_reducible refine Gr.drewN ?_ _) | (with_reducible refine Gr.trans ?_ (by assumption)) | (with_reducible refine Gr.setCell ?_ (by first | exact Nat.le_refl _ | omega | (simp; done) | (simp; omega)) _)))⟩)
end Go.Proofs.YtpnojkgdjkncbaaDoor
