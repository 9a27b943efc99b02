/- Layer 11: what a text says: numbers, stamps, versions: both sides. -/
import Derived.Test.YtpnojkgdjkncbaaDoorCelJ
import Derived.Test.YtpnojkgdjkncbaaDoorCelE
namespace Go.Proofs.YtpnojkgdjkncbaaDoor
open Go.RowKit
set_option maxRecDepth 100000
set_option linter.unusedVariables false
set_option linter.unusedSimpArgs false

theorem rd_bytes (w : World) (s : ByteArray) (hs : s.size ≤ 140737488355328) : Rd (Lib.bytesWorld w 5 s) (.slice (some ⟨w.heap.size, 0, none⟩) s.size (grownCap w s.size 0 5)) s.data.toList := by
  have hl : s.data.toList.length = s.size := Array.length_toList
  refine .inr ⟨w.heap.size, 0, _, by rw [hl], by rw [hl]; exact grownCap_ge _ _ _ _, grownCap_le_maxLen w _ 0 _ (by unfold maxLen; omega), by rw [Lib.bytesWorld_size]; omega, fun j hj => ?_⟩
  have := Lib.bytesWorld_cell w 5 s j (by rw [← hl]; exact hj)
  rw [Nat.zero_add, this]
  simp only [List.getD, List.getElem?_eq_getElem hj, Option.getD_some]

theorem tyU_bytes (w : World) (s : ByteArray) : TyU (Lib.bytesWorld w 5 s) (.slice (some ⟨w.heap.size, 0, none⟩) s.size (grownCap w s.size 0 5)) := fun g o n c e => by
  cases e
  exact ⟨_, _, Lib.bytesWorld_at_new w 5 s⟩
theorem Rdr.bytes (T : TypeId) (W : World) (s : ByteArray) (hs : s.size ≤ 140737488355328) {n m : Nat} (hm : m = W.heap.size) (hn : n = W.heap.size + 1) :
    Rdr T n (s.data.toList, false) ((Lib.bytesWorld W 5 s).alloc (.cells #[.slice (some ⟨m, 0, none⟩) s.size (grownCap W s.size 0 5), .bool false] T)) := by
  subst hm
  exact Rdr.new T (rd_bytes W s hs) (tyU_bytes W s) (by rw [hn, Lib.bytesWorld_size])
theorem takeNumber_any (s : ByteArray) (hs : s.size ≤ 140737488351232) (w : World) :
    Calls Tryd.prog 43 #[.string s] w fun e w' => e = .returned (.tuple #[.int .i64 (takeNumR s.data.toList).1, .int .i64 (takeNumR s.data.toList).2]) ∧ Gr w w' := by
  have hl : s.data.toList.length = s.size := Array.length_toList
  have hcv := fun (w : World) => Lib.run_convert_string_bytes (P := Tryd.prog) w 9 73 5 s Tryd.underlying9 Tryd.underlying73 Tryd.underlying5
  have HR := Lib.hid (Rdr.new 105 (rd_bytes w s (by omega)) (tyU_bytes w s) rfl)
  have hsz := Lib.bytesWorld_size w 5 s
  have hgr := bytesWorld_gr w 5 s
  have hn := nextN_length (s.data.toList, false)
  have hn' : (nextN (s.data.toList, false)).1.length ≤ s.size := by rw [← hl]; exact hn
  have HU : Hid (takeNumR s.data.toList = if offE (nextN (s.data.toList, false)) 0 = 0 then (valN (s.data.toList, false), 0) else (0, 4)) := Lib.hid rfl
  rcases offE_cases (nextN (s.data.toList, false)) 0 with h0 | h0
  all_goals
    have HO := Lib.hid h0
    clear h0 hn
    go_enter Tryd.func43, Tryd.ntmps43
    go_wp2_with (first
      | (go_at_call 77; refine (rnum (s := (s.data.toList, false)) (by first | exact HR.out | (rw [← hsz]; exact HR.out)) (by simp; omega)).mono ?_; rintro e w1 ⟨rfl, hr1, hF1⟩; have hg1 : Gr w w1 := Fx.toGr (hgr.alloc _) hF1 (by omega); (have HR1 := Lib.hid hr1); clear hr1)
      | (go_at_call 78; refine (rdone rfl HR1.out 0 (by omega)).mono ?_; rintro e w2 ⟨rfl, rfl⟩; have ho := HO.out))
    go_ret2
    exact ⟨by rw [HU.out]; simp [HO.out], hg1⟩

theorem refTakeNumber_any (s : ByteArray) (hs : s.size ≤ 140737488351232) (w : World) :
    Calls Tryd.prog 44 #[.string s] w fun e w' => e = .returned (.tuple #[.int .i64 (takeNumR s.data.toList).1, .int .i64 (takeNumR s.data.toList).2]) ∧ Gr w w' := by
  have hl : s.data.toList.length = s.size := Array.length_toList
  have hcv := fun (w : World) => Lib.run_convert_string_bytes (P := Tryd.prog) w 9 73 5 s Tryd.underlying9 Tryd.underlying73 Tryd.underlying5
  have HR := Lib.hid (Rdr.new 110 (rd_bytes w s (by omega)) (tyU_bytes w s) rfl)
  have hsz := Lib.bytesWorld_size w 5 s
  have hgr := bytesWorld_gr w 5 s
  have hn := dnextN_length (s.data.toList, false)
  have hn' : (dnextN (s.data.toList, false)).1.length ≤ s.size := by rw [← hl]; exact hn
  have HU : Hid (takeNumR s.data.toList = if endB (dnextN (s.data.toList, false)) = true then (dvalN (s.data.toList, false), 0) else (0, 4)) := Lib.hid (takeNum_eq _).symm
  cases h0 : endB (dnextN (s.data.toList, false))
  all_goals
    have HO := Lib.hid h0
    clear h0 hn
    go_enter Tryd.func44, Tryd.ntmps44
    go_wp2_with (first
      | (go_at_call 79; refine (tnum (s := (s.data.toList, false)) (by first | exact HR.out | (rw [← hsz]; exact HR.out)) (by simp; omega)).mono ?_; rintro e w1 ⟨rfl, hr1, hF1⟩; have hg1 : Gr w w1 := Fx.toGr (hgr.alloc _) hF1 (by omega); (have HR1 := Lib.hid hr1); clear hr1)
      | (go_at_call 80; refine (tend HR1.out (by omega)).mono ?_; rintro e w2 ⟨rfl, rfl⟩; have ho := HO.out))
    go_ret2
    exact ⟨by rw [HU.out]; simp [HO.out], hg1⟩

def stampCk (a b : Int) : Int := if mayB a b = true then 0 else 9
theorem stampCheck_ck (a b : Int) (w : World) :
    Calls Tryd.prog 58 #[.agg #[.int .i64 a, .int .i64 b]] w fun e w' => e = .returned (.int .i64 (stampCk a b)) ∧ Gr w w' := stampCheck_any a b w
theorem refStampCheck_ck (a b : Int) (w : World) :
    Calls Tryd.prog 59 #[.agg #[.int .i64 a, .int .i64 b]] w fun e w' => e = .returned (.int .i64 (stampCk a b)) ∧ Gr w w' := refStampCheck_any a b w
theorem noU8_slice_bool (v : Value) (hv : ∃ (q : Option Addr) (n c : Nat), v = .slice q n c) (b : Bool) : ∀ (j : Nat) (z : Int), (#[v, Value.bool b] : Array Value)[j]? ≠ some (.int .u8 z) := by
  obtain ⟨q, n, c, rfl⟩ := hv
  intro j z
  rcases j with _ | _ | j <;> simp

set_option maxHeartbeats 1000000 in
theorem takeStamp_any (s : ByteArray) (hs : s.size ≤ 140737488351232) (w : World) :
    Calls Tryd.prog 45 #[.string s] w fun e w' => e = .returned (.tuple #[.agg #[.int .i64 (takeStampR s.data.toList stampCk).1, .int .i64 (takeStampR s.data.toList stampCk).2.1], .int .i64 (takeStampR s.data.toList stampCk).2.2]) ∧ Gr w w' := by
  have hl : s.data.toList.length = s.size := Array.length_toList
  have hcv := fun (w : World) => Lib.run_convert_string_bytes (P := Tryd.prog) w 9 73 5 s Tryd.underlying9 Tryd.underlying73 Tryd.underlying5
  have hsz := Lib.bytesWorld_size (w.alloc (.cells #[.int .i64 0, .int .i64 0] 23)) 5 s
  have hgr := bytesWorld_gr (w.alloc (.cells #[.int .i64 0, .int .i64 0] 23)) 5 s
  have hn : (nextN (nextN (s.data.toList, false))).1.length ≤ s.size := by rw [← hl]; exact Nat.le_trans (nextN_length _) (nextN_length (s.data.toList, false))
  have HU : Hid (takeStampR s.data.toList stampCk = if offE (nextN (nextN (s.data.toList, false))) (stampCk (valN (s.data.toList, false)) (valN (nextN (s.data.toList, false)))) = 0 then (valN (s.data.toList, false), valN (nextN (s.data.toList, false)), 0) else (0, 0, 4)) := Lib.hid rfl
  have hR0 : (Lib.bytesWorld (w.alloc (.cells #[.int .i64 0, .int .i64 0] 23)) 5 s).heap[w.heap.size]? = some (.cells #[.int .i64 0, .int .i64 0] 23) := hgr.blk (heap_alloc_new _ _)
  rcases offE_cases (nextN (nextN (s.data.toList, false))) (stampCk (valN (s.data.toList, false)) (valN (nextN (s.data.toList, false)))) with h0 | h0
  ·
    have HO := Lib.hid h0
    clear h0
    go_enter Tryd.func45, Tryd.ntmps45
    go_wp2_with fail
    refine (rstamp (s := (s.data.toList, false)) (by exact Rdr.bytes _ _ s (by omega) (by simp) (by simp)) (by simp; omega)).mono ?_
    rintro e w1 ⟨rfl, hr1, hF1⟩
    have hg1 : Gr w w1 := Fx.toGr (((Gr.refl w).alloc _).trans (hgr.alloc _)) hF1 (by omega)
    have HR1 := Lib.hid hr1
    have hR1 := hF1.blk _ _ (heap_alloc_mono hR0 _) (by omega)
    have HR1b := Lib.hid hR1
    have hl1 := hr1.lt
    clear hr1 hR1
    go_wp2_with (go_at_call 58; refine (stampCheck_ck _ _ _).mono ?_; rintro e w2 ⟨rfl, hg2⟩; (have hX2 := hg2.blk (heap_alloc_new _ _)); (have hR2 := hg2.blk (heap_alloc_mono HR1b.out _)); obtain ⟨k_0, k_1, g_0, g_1, l_0⟩ := blk2 hX2; obtain ⟨k_2, k_3, g_2, g_3, l_1⟩ := blk2 hR2)
    refine (rdone rfl (HR1.out.gr (by repeat (first | (with_reducible exact Gr.refl _) | (with_reducible assumption) | (with_reducible refine Gr.alloc ?_ _) | (with_reducible refine Gr.drew ?_) | (with_reducible refine Gr.drewN ?_ _) | (with_reducible refine Gr.trans ?_ (by assumption)) | (with_reducible refine Gr.setCell ?_ (by first | exact Nat.le_refl _ | omega | (simp; done) | (simp; omega)) _)))) _ (by omega)).mono ?_
    rintro e w3 ⟨rfl, rfl⟩
    have ho := HO.out
    have HR2 := Lib.hid hR2
    clear hX2 hR2
    go_wp2
    obtain ⟨q0, q1, _, _, _⟩ := blk2 (by simpa using heap_set (heap_set HR2.out 0 (.int .i64 (valN (s.data.toList, false)))) 1 (.int .i64 (valN (nextN (s.data.toList, false)))))
    exact bodyPost_ret (v := .tuple #[.agg #[.int .i64 (valN (s.data.toList, false)), .int .i64 (valN (nextN (s.data.toList, false)))], .int .i64 0]) (by simp [results, Tryd.results45, go_sem, q0, q1]) rfl ⟨by rw [HU.out]; simp [HO.out], (by repeat (first | (with_reducible exact Gr.refl _) | (with_reducible assumption) | (with_reducible refine Gr.alloc ?_ _) | (with_reducible refine Gr.drew ?_) | (with_reducible refine Gr.drewN ?_ _) | (with_reducible refine Gr.trans ?_ (by assumption)) | (with_reducible refine Gr.setCell ?_ (by first | exact Nat.le_refl _ | omega | (simp; done) | (simp; omega)) _)))⟩
  ·
    have HO := Lib.hid h0
    clear h0
    go_enter Tryd.func45, Tryd.ntmps45
    go_wp2_with fail
    refine (rstamp (s := (s.data.toList, false)) (by exact Rdr.bytes _ _ s (by omega) (by simp) (by simp)) (by simp; omega)).mono ?_
    rintro e w1 ⟨rfl, hr1, hF1⟩
    have hg1 : Gr w w1 := Fx.toGr (((Gr.refl w).alloc _).trans (hgr.alloc _)) hF1 (by omega)
    have HR1 := Lib.hid hr1
    have hR1 := hF1.blk _ _ (heap_alloc_mono hR0 _) (by omega)
    have HR1b := Lib.hid hR1
    have hl1 := hr1.lt
    clear hr1 hR1
    go_wp2_with (go_at_call 58; refine (stampCheck_ck _ _ _).mono ?_; rintro e w2 ⟨rfl, hg2⟩; (have hX2 := hg2.blk (heap_alloc_new _ _)); (have hR2 := hg2.blk (heap_alloc_mono HR1b.out _)); obtain ⟨k_0, k_1, g_0, g_1, l_0⟩ := blk2 hX2; obtain ⟨k_2, k_3, g_2, g_3, l_1⟩ := blk2 hR2)
    refine (rdone rfl (HR1.out.gr (by repeat (first | (with_reducible exact Gr.refl _) | (with_reducible assumption) | (with_reducible refine Gr.alloc ?_ _) | (with_reducible refine Gr.drew ?_) | (with_reducible refine Gr.drewN ?_ _) | (with_reducible refine Gr.trans ?_ (by assumption)) | (with_reducible refine Gr.setCell ?_ (by first | exact Nat.le_refl _ | omega | (simp; done) | (simp; omega)) _)))) _ (by omega)).mono ?_
    rintro e w3 ⟨rfl, rfl⟩
    have ho := HO.out
    have HR2 := Lib.hid hR2
    clear hX2 hR2
    go_wp2
    obtain ⟨q0, q1, _, _, _⟩ := blk2 (by simpa using heap_set (heap_set HR2.out 0 (.int .i64 0)) 1 (.int .i64 0))
    exact bodyPost_ret (v := .tuple #[.agg #[.int .i64 0, .int .i64 0], .int .i64 4]) (by simp [results, Tryd.results45, go_sem, q0, q1]) rfl ⟨by rw [HU.out]; simp [HO.out], (by repeat (first | (with_reducible exact Gr.refl _) | (with_reducible assumption) | (with_reducible refine Gr.alloc ?_ _) | (with_reducible refine Gr.drew ?_) | (with_reducible refine Gr.drewN ?_ _) | (with_reducible refine Gr.trans ?_ (by assumption)) | (with_reducible refine Gr.setCell ?_ (by first | exact Nat.le_refl _ | omega | (simp; done) | (simp; omega)) _)))⟩

theorem bool_cases (b : Bool) : b = true ∨ b = false := by cases b <;> simp
theorem stampCk_cases (a b : Int) : stampCk a b = 0 ∨ stampCk a b = 9 := by unfold stampCk; split <;> simp

set_option maxHeartbeats 1000000 in
theorem refTakeStamp_any (s : ByteArray) (hs : s.size ≤ 140737488351232) (w : World) :
    Calls Tryd.prog 46 #[.string s] w fun e w' => e = .returned (.tuple #[.agg #[.int .i64 (takeStampR s.data.toList stampCk).1, .int .i64 (takeStampR s.data.toList stampCk).2.1], .int .i64 (takeStampR s.data.toList stampCk).2.2]) ∧ Gr w w' := by
  have hl : s.data.toList.length = s.size := Array.length_toList
  have hcv := fun (w : World) => Lib.run_convert_string_bytes (P := Tryd.prog) w 9 73 5 s Tryd.underlying9 Tryd.underlying73 Tryd.underlying5
  have hsz := Lib.bytesWorld_size (w.alloc (.cells #[.int .i64 0, .int .i64 0] 23)) 5 s
  have hgr := bytesWorld_gr (w.alloc (.cells #[.int .i64 0, .int .i64 0] 23)) 5 s
  have hn : (dst2 s.data.toList).1.length ≤ s.size := by rw [← hl]; exact Nat.le_trans (dnextN_length _) (dnextN_length (s.data.toList, false))
  have HU : Hid (takeStampR s.data.toList stampCk = if endB (dst2 s.data.toList) = true ∧ stampCk (dvalN (s.data.toList, false)) (dvalN (dnextN (s.data.toList, false))) = 0 then (dvalN (s.data.toList, false), dvalN (dnextN (s.data.toList, false)), 0) else (0, 0, 4)) := Lib.hid (takeStamp_eq _ _).symm
  have hR0 : (Lib.bytesWorld (w.alloc (.cells #[.int .i64 0, .int .i64 0] 23)) 5 s).heap[w.heap.size]? = some (.cells #[.int .i64 0, .int .i64 0] 23) := hgr.blk (heap_alloc_new _ _)
  cases h0 : endB (dst2 s.data.toList) with
  | false =>
    have hc : True := trivial
    have HO := Lib.hid h0
    have HC := Lib.hid hc
    clear h0 hc
    go_enter Tryd.func46, Tryd.ntmps46
    go_wp2_with fail
    refine (tstamp (s := (s.data.toList, false)) (by exact Rdr.bytes _ _ s (by omega) (by simp) (by simp)) (by simp; omega)).mono ?_
    rintro e w1 ⟨rfl, hr1, hF1⟩
    have hg1 : Gr w w1 := Fx.toGr (((Gr.refl w).alloc _).trans (hgr.alloc _)) hF1 (by omega)
    have HR1 : Hid (Rdr 110 (w.heap.size + 1 + 1) (dst2 s.data.toList) w1) := Lib.hid hr1
    have hR1 := hF1.blk _ _ (heap_alloc_mono hR0 _) (by omega)
    have HR1b := Lib.hid hR1
    have hl1 := hr1.lt
    have hX1 := heap_alloc_new w1 (.cells #[.int .i64 (dvalN (s.data.toList, false)), .int .i64 (dvalN (dnextN (s.data.toList, false)))] 23)
    obtain ⟨k_0, k_1, g_0, g_1, l_0⟩ := blk2 hX1
    obtain ⟨k_2, k_3, g_2, g_3, l_1⟩ := blk2 (heap_alloc_mono hR1 (.cells #[.int .i64 (dvalN (s.data.toList, false)), .int .i64 (dvalN (dnextN (s.data.toList, false)))] 23))
    clear hr1 hR1 hX1
    go_wp2_with (go_at_call 80; refine (tend (HR1.out.gr (by repeat (first | (with_reducible exact Gr.refl _) | (with_reducible assumption) | (with_reducible refine Gr.alloc ?_ _) | (with_reducible refine Gr.drew ?_) | (with_reducible refine Gr.drewN ?_ _) | (with_reducible refine Gr.trans ?_ (by assumption)) | (with_reducible refine Gr.setCell ?_ (by first | exact Nat.le_refl _ | omega | (simp; done) | (simp; omega)) _)))) (by omega)).mono ?_; rintro e w3 ⟨rfl, rfl⟩; have ho := HO.out)
    obtain ⟨q0, q1, _, _, _⟩ := blk2 (by simpa using heap_set (heap_set (heap_alloc_mono HR1b.out (.cells #[.int .i64 (dvalN (s.data.toList, false)), .int .i64 (dvalN (dnextN (s.data.toList, false)))] 23)) 0 (.int .i64 0)) 1 (.int .i64 0))
    exact bodyPost_ret (v := .tuple #[.agg #[.int .i64 0, .int .i64 0], .int .i64 4]) (by simp [results, Tryd.results46, go_sem, q0, q1]) rfl ⟨by rw [HU.out]; simp [HO.out], (by repeat (first | (with_reducible exact Gr.refl _) | (with_reducible assumption) | (with_reducible refine Gr.alloc ?_ _) | (with_reducible refine Gr.drew ?_) | (with_reducible refine Gr.drewN ?_ _) | (with_reducible refine Gr.trans ?_ (by assumption)) | (with_reducible refine Gr.setCell ?_ (by first | exact Nat.le_refl _ | omega | (simp; done) | (simp; omega)) _)))⟩
  | true =>
    rcases stampCk_cases (dvalN (s.data.toList, false)) (dvalN (dnextN (s.data.toList, false))) with hc | hc
    ·
      have HO := Lib.hid h0
      have HC := Lib.hid hc
      clear h0 hc
      go_enter Tryd.func46, Tryd.ntmps46
      go_wp2_with fail
      refine (tstamp (s := (s.data.toList, false)) (by exact Rdr.bytes _ _ s (by omega) (by simp) (by simp)) (by simp; omega)).mono ?_
      rintro e w1 ⟨rfl, hr1, hF1⟩
      have hg1 : Gr w w1 := Fx.toGr (((Gr.refl w).alloc _).trans (hgr.alloc _)) hF1 (by omega)
      have HR1 : Hid (Rdr 110 (w.heap.size + 1 + 1) (dst2 s.data.toList) w1) := Lib.hid hr1
      have hR1 := hF1.blk _ _ (heap_alloc_mono hR0 _) (by omega)
      have HR1b := Lib.hid hR1
      have hl1 := hr1.lt
      have hX1 := heap_alloc_new w1 (.cells #[.int .i64 (dvalN (s.data.toList, false)), .int .i64 (dvalN (dnextN (s.data.toList, false)))] 23)
      obtain ⟨k_0, k_1, g_0, g_1, l_0⟩ := blk2 hX1
      obtain ⟨k_2, k_3, g_2, g_3, l_1⟩ := blk2 (heap_alloc_mono hR1 (.cells #[.int .i64 (dvalN (s.data.toList, false)), .int .i64 (dvalN (dnextN (s.data.toList, false)))] 23))
      clear hr1 hR1 hX1
      go_wp2_with (first
        | (go_at_call 80; refine (tend (HR1.out.gr (by repeat (first | (with_reducible exact Gr.refl _) | (with_reducible assumption) | (with_reducible refine Gr.alloc ?_ _) | (with_reducible refine Gr.drew ?_) | (with_reducible refine Gr.drewN ?_ _) | (with_reducible refine Gr.trans ?_ (by assumption)) | (with_reducible refine Gr.setCell ?_ (by first | exact Nat.le_refl _ | omega | (simp; done) | (simp; omega)) _)))) (by omega)).mono ?_; rintro e w3 ⟨rfl, rfl⟩; have ho := HO.out)
        | (go_at_call 59; refine (refStampCheck_ck _ _ _).mono ?_; rintro e w2 ⟨rfl, hg2⟩; (have hX2 := hg2.blk (heap_alloc_new _ _)); (have hR2 := hg2.blk (heap_alloc_mono HR1b.out _)); obtain ⟨k_0, k_1, g_0, g_1, l_0⟩ := blk2 hX2; obtain ⟨k_2, k_3, g_2, g_3, l_1⟩ := blk2 hR2; have hc := HC.out))
      obtain ⟨q0, q1, _, _, _⟩ := blk2 (by simpa using heap_set (heap_set hR2 0 (.int .i64 (dvalN (s.data.toList, false)))) 1 (.int .i64 (dvalN (dnextN (s.data.toList, false)))))
      exact bodyPost_ret (v := .tuple #[.agg #[.int .i64 (dvalN (s.data.toList, false)), .int .i64 (dvalN (dnextN (s.data.toList, false)))], .int .i64 0]) (by simp [results, Tryd.results46, go_sem, q0, q1]) rfl ⟨by rw [HU.out]; simp [HO.out, HC.out], (by repeat (first | (with_reducible exact Gr.refl _) | (with_reducible assumption) | (with_reducible refine Gr.alloc ?_ _) | (with_reducible refine Gr.drew ?_) | (with_reducible refine Gr.drewN ?_ _) | (with_reducible refine Gr.trans ?_ (by assumption)) | (with_reducible refine Gr.setCell ?_ (by first | exact Nat.le_refl _ | omega | (simp; done) | (simp; omega)) _)))⟩
    ·
      have HO := Lib.hid h0
      have HC := Lib.hid hc
      clear h0 hc
      go_enter Tryd.func46, Tryd.ntmps46
      go_wp2_with fail
      refine (tstamp (s := (s.data.toList, false)) (by exact Rdr.bytes _ _ s (by omega) (by simp) (by simp)) (by simp; omega)).mono ?_
      rintro e w1 ⟨rfl, hr1, hF1⟩
      have hg1 : Gr w w1 := Fx.toGr (((Gr.refl w).alloc _).trans (hgr.alloc _)) hF1 (by omega)
      have HR1 : Hid (Rdr 110 (w.heap.size + 1 + 1) (dst2 s.data.toList) w1) := Lib.hid hr1
      have hR1 := hF1.blk _ _ (heap_alloc_mono hR0 _) (by omega)
      have HR1b := Lib.hid hR1
      have hl1 := hr1.lt
      have hX1 := heap_alloc_new w1 (.cells #[.int .i64 (dvalN (s.data.toList, false)), .int .i64 (dvalN (dnextN (s.data.toList, false)))] 23)
      obtain ⟨k_0, k_1, g_0, g_1, l_0⟩ := blk2 hX1
      obtain ⟨k_2, k_3, g_2, g_3, l_1⟩ := blk2 (heap_alloc_mono hR1 (.cells #[.int .i64 (dvalN (s.data.toList, false)), .int .i64 (dvalN (dnextN (s.data.toList, false)))] 23))
      clear hr1 hR1 hX1
      go_wp2_with (first
        | (go_at_call 80; refine (tend (HR1.out.gr (by repeat (first | (with_reducible exact Gr.refl _) | (with_reducible assumption) | (with_reducible refine Gr.alloc ?_ _) | (with_reducible refine Gr.drew ?_) | (with_reducible refine Gr.drewN ?_ _) | (with_reducible refine Gr.trans ?_ (by assumption)) | (with_reducible refine Gr.setCell ?_ (by first | exact Nat.le_refl _ | omega | (simp; done) | (simp; omega)) _)))) (by omega)).mono ?_; rintro e w3 ⟨rfl, rfl⟩; have ho := HO.out)
        | (go_at_call 59; refine (refStampCheck_ck _ _ _).mono ?_; rintro e w2 ⟨rfl, hg2⟩; (have hX2 := hg2.blk (heap_alloc_new _ _)); (have hR2 := hg2.blk (heap_alloc_mono HR1b.out _)); obtain ⟨k_0, k_1, g_0, g_1, l_0⟩ := blk2 hX2; obtain ⟨k_2, k_3, g_2, g_3, l_1⟩ := blk2 hR2; have hc := HC.out))
      obtain ⟨q0, q1, _, _, _⟩ := blk2 (by simpa using heap_set (heap_set hR2 0 (.int .i64 0)) 1 (.int .i64 0))
      exact bodyPost_ret (v := .tuple #[.agg #[.int .i64 0, .int .i64 0], .int .i64 4]) (by simp [results, Tryd.results46, go_sem, q0, q1]) rfl ⟨by rw [HU.out]; simp [HO.out, HC.out], (by repeat (first | (with_reducible exact Gr.refl _) | (with_reducible assumption) | (with_reducible refine Gr.alloc ?_ _) | (with_reducible refine Gr.drew ?_) | (with_reducible refine Gr.drewN ?_ _) | (with_reducible refine Gr.trans ?_ (by assumption)) | (with_reducible refine Gr.setCell ?_ (by first | exact Nat.le_refl _ | omega | (simp; done) | (simp; omega)) _)))⟩

set_option maxHeartbeats 1000000 in
theorem takeVersion_any (s : ByteArray) (hs : s.size ≤ 140737488351232) (w : World) :
    Calls Tryd.prog 47 #[.string s] w fun e w' => e = .returned (.tuple #[.string ⟨(takeVerR s.data.toList).1.toArray⟩, .bool (takeVerR s.data.toList).2.1, .int .i64 (takeVerR s.data.toList).2.2]) ∧ Gr w w' := by
  have hl : s.data.toList.length = s.size := Array.length_toList
  have hcv := fun (w : World) => Lib.run_convert_string_bytes (P := Tryd.prog) w 9 73 5 s Tryd.underlying9 Tryd.underlying73 Tryd.underlying5
  have hgr := bytesWorld_gr w 5 s
  have hsz := Lib.bytesWorld_size w 5 s
  have hn1 : (nextF (s.data.toList, false)).1.length ≤ s.size := by rw [← hl]; exact nextF_length _
  have hn2 : (nextS (nextF (s.data.toList, false))).1.length ≤ s.size := Nat.le_trans (nextS_length _) hn1
  have HU : Hid (takeVerR s.data.toList = if offE (if valF (s.data.toList, false) = true then nextS (nextF (s.data.toList, false)) else nextF (s.data.toList, false)) 0 = 0 then ((if valF (s.data.toList, false) = true then valS (nextF (s.data.toList, false)) else []), valF (s.data.toList, false), 0) else ([], false, 4)) := Lib.hid rfl
  cases hv : valF (s.data.toList, false) with
  | false =>
    rcases offE_cases (nextF (s.data.toList, false)) 0 with h0 | h0
    all_goals
      have HV := Lib.hid hv
      have HO := Lib.hid h0
      clear h0 hv
      go_enter Tryd.func47, Tryd.ntmps47
      go_wp2_with (first
        | (go_at_call 83; refine (rflag (s := (s.data.toList, false)) (by exact Rdr.bytes _ _ s (by omega) (by simp) (by simp)) (by simp; omega)).mono ?_; rintro e w1 ⟨rfl, hr1, hF1⟩; have hg1 : Gr w w1 := Fx.toGr (hgr.alloc _) hF1 (by omega); (have HR1 := Lib.hid hr1); clear hr1; have hv := HV.out)
        | (go_at_call 84; refine (rstr HR1.out (by omega)).mono ?_; rintro e w2 ⟨rfl, hr2, hF2⟩; have hg2 : Gr w w2 := Fx.toGr hg1 hF2 (by omega); (have HR2 := Lib.hid hr2); clear hr2)
        | (go_at_call 78; (first | (with_reducible refine (rdone rfl HR2.out 0 (by omega)).mono ?_) | (with_reducible refine (rdone rfl HR1.out 0 (by omega)).mono ?_)); rintro e w3 ⟨rfl, rfl⟩; have ho := HO.out))
      go_ret3
      exact ⟨by rw [HU.out]; simp [HO.out, HV.out], by assumption⟩
  | true =>
    rcases offE_cases (nextS (nextF (s.data.toList, false))) 0 with h0 | h0
    all_goals
      have HV := Lib.hid hv
      have HO := Lib.hid h0
      clear h0 hv
      go_enter Tryd.func47, Tryd.ntmps47
      go_wp2_with (first
        | (go_at_call 83; refine (rflag (s := (s.data.toList, false)) (by exact Rdr.bytes _ _ s (by omega) (by simp) (by simp)) (by simp; omega)).mono ?_; rintro e w1 ⟨rfl, hr1, hF1⟩; have hg1 : Gr w w1 := Fx.toGr (hgr.alloc _) hF1 (by omega); (have HR1 := Lib.hid hr1); clear hr1; have hv := HV.out)
        | (go_at_call 84; refine (rstr HR1.out (by omega)).mono ?_; rintro e w2 ⟨rfl, hr2, hF2⟩; have hg2 : Gr w w2 := Fx.toGr hg1 hF2 (by omega); (have HR2 := Lib.hid hr2); clear hr2)
        | (go_at_call 78; (first | (with_reducible refine (rdone rfl HR2.out 0 (by omega)).mono ?_) | (with_reducible refine (rdone rfl HR1.out 0 (by omega)).mono ?_)); rintro e w3 ⟨rfl, rfl⟩; have ho := HO.out))
      go_ret3
      exact ⟨by rw [HU.out]; simp [HO.out, HV.out], by assumption⟩

set_option maxHeartbeats 1000000 in
theorem refTakeVersion_any (s : ByteArray) (hs : s.size ≤ 140737488351232) (w : World) :
    Calls Tryd.prog 48 #[.string s] w fun e w' => e = .returned (.tuple #[.string ⟨(takeVerR s.data.toList).1.toArray⟩, .bool (takeVerR s.data.toList).2.1, .int .i64 (takeVerR s.data.toList).2.2]) ∧ Gr w w' := by
  have hl : s.data.toList.length = s.size := Array.length_toList
  have hcv := fun (w : World) => Lib.run_convert_string_bytes (P := Tryd.prog) w 9 73 5 s Tryd.underlying9 Tryd.underlying73 Tryd.underlying5
  have hgr := bytesWorld_gr w 5 s
  have hsz := Lib.bytesWorld_size w 5 s
  have hn1 : (dnextF (s.data.toList, false)).1.length ≤ s.size := by rw [← hl]; exact dnextF_length _
  have hn2 : (dnextS (dnextF (s.data.toList, false))).1.length ≤ s.size := Nat.le_trans (dnextS_length _) hn1
  have HU : Hid (takeVerR s.data.toList = if endB (if dvalF (s.data.toList, false) = true then dnextS (dnextF (s.data.toList, false)) else dnextF (s.data.toList, false)) = true then ((if dvalF (s.data.toList, false) = true then dvalS (dnextF (s.data.toList, false)) else []), dvalF (s.data.toList, false), 0) else ([], false, 4)) := Lib.hid (takeVer_eq _).symm
  cases hv : dvalF (s.data.toList, false) with
  | false =>
    rcases bool_cases (endB (dnextF (s.data.toList, false))) with h0 | h0
    all_goals
      have HV := Lib.hid hv
      have HO := Lib.hid h0
      clear h0 hv
      go_enter Tryd.func48, Tryd.ntmps48
      go_wp2_with (first
        | (go_at_call 85; refine (tflag (s := (s.data.toList, false)) (by exact Rdr.bytes _ _ s (by omega) (by simp) (by simp)) (by simp; omega)).mono ?_; rintro e w1 ⟨rfl, hr1, hF1⟩; have hg1 : Gr w w1 := Fx.toGr (hgr.alloc _) hF1 (by omega); (have HR1 := Lib.hid hr1); clear hr1; have hv := HV.out)
        | (go_at_call 86; refine (tstr HR1.out (by omega)).mono ?_; rintro e w2 ⟨rfl, hr2, hF2⟩; have hg2 : Gr w w2 := Fx.toGr hg1 hF2 (by omega); (have HR2 := Lib.hid hr2); clear hr2)
        | (go_at_call 80; (first | (with_reducible refine (tend HR2.out (by omega)).mono ?_) | (with_reducible refine (tend HR1.out (by omega)).mono ?_)); rintro e w3 ⟨rfl, rfl⟩; have ho := HO.out))
      go_ret3
      exact ⟨by rw [HU.out]; simp [HO.out, HV.out], by assumption⟩
  | true =>
    rcases bool_cases (endB (dnextS (dnextF (s.data.toList, false)))) with h0 | h0
    all_goals
      have HV := Lib.hid hv
      have HO := Lib.hid h0
      clear h0 hv
      go_enter Tryd.func48, Tryd.ntmps48
      go_wp2_with (first
        | (go_at_call 85; refine (tflag (s := (s.data.toList, false)) (by exact Rdr.bytes _ _ s (by omega) (by simp) (by simp)) (by simp; omega)).mono ?_; rintro e w1 ⟨rfl, hr1, hF1⟩; have hg1 : Gr w w1 := Fx.toGr (hgr.alloc _) hF1 (by omega); (have HR1 := Lib.hid hr1); clear hr1; have hv := HV.out)
        | (go_at_call 86; refine (tstr HR1.out (by omega)).mono ?_; rintro e w2 ⟨rfl, hr2, hF2⟩; have hg2 : Gr w w2 := Fx.toGr hg1 hF2 (by omega); (have HR2 := Lib.hid hr2); clear hr2)
        | (go_at_call 80; (first | (with_reducible refine (tend HR2.out (by omega)).mono ?_) | (with_reducible refine (tend HR1.out (by omega)).mono ?_)); rintro e w3 ⟨rfl, rfl⟩; have ho := HO.out))
      go_ret3
      exact ⟨by rw [HU.out]; simp [HO.out, HV.out], by assumption⟩
end Go.Proofs.YtpnojkgdjkncbaaDoor
