/- Contracts of layer 1's writing half: Num, Str. -/
import Derived.Test.YtpnojkgdjkncbaaDoorCelA
namespace Go.Proofs.YtpnojkgdjkncbaaDoor
open Go.RowKit
set_option maxRecDepth 100000
set_option linter.unusedVariables false
set_option linter.unusedSimpArgs false

theorem Own.made (W : World) {N : Nat} (hN : N ≤ W.heap.size) {c : UInt8} {z : Int} (hz : z = c.toNat) : Own (W.alloc (.cells #[.int .u8 z] 5)) N (.slice (some ⟨W.heap.size, 0, none⟩) 1 1) [c] := by
  subst hz
  exact ⟨by simp [nums], .inr ⟨W.heap.size, 1, _, rfl, hN, heap_alloc_new W _, by simp [nums], by decide, rfl, rfl⟩⟩
theorem u8_mod (m : Nat) : ((m : Int) % 256) = ((UInt8.ofNat (m % 256)).toNat : Int) := by simp

set_option maxHeartbeats 1000000 in
theorem num_bad (n : Int) (h : ¬ (0 ≤ n ∧ n ≤ 9007199254740991)) (w : World) :
    Calls Tryd.prog 90 #[.int .i64 n] w fun e w' => e = .returned (.tuple #[.slice none 0 0, .int .i64 2]) ∧ w = w' := by
  by_cases h1 : n < 0
  · go_enter Tryd.func90, Tryd.ntmps90
    go_wp2
    go_ret2
    exact ⟨rfl, rfl⟩
  · have h2 : 9007199254740991 < n := by omega
    go_enter Tryd.func90, Tryd.ntmps90
    go_wp2
    go_ret2
    exact ⟨rfl, rfl⟩

set_option maxHeartbeats 2000000 in
set_option maxRecDepth 100000 in
theorem num_good (k : Nat) (hk : k ≤ 9007199254740991) (w : World) :
    Calls Tryd.prog 90 #[.int .i64 k] w fun e w' => ∃ v, e = .returned (.tuple #[v, .int .i64 0]) ∧ Own w' w.heap.size v (numT k) ∧ Gr w w' := by
  have h7 := numD_le7 hk
  go_enter Tryd.func90, Tryd.ntmps90
  go_wp2
  go_loopw [0, 4] (fun n v wr => ∃ (m : Nat) (l : List UInt8), m ≤ k ∧ n = .int .i64 m ∧ Hid (numD k = numD m ++ l.reverse) ∧ l.length ≤ 7 ∧ Own wr w.heap.size v l ∧ Gr w wr) (fun n _ _ => (intOf n).toNat)
  case atStart => exact ⟨k, [], Nat.le_refl _, rfl, Lib.hid (by simp), by simp, Own.nil _ _, Gr.refl _⟩
  case round =>
    obtain ⟨m, l, hm, rfl, HD, hl, hown, hg⟩ := hrel
    have hsz := hg.size
    by_cases h0 : 0 < m
    · go_wp2_with (at_builtin; refine app_rd (N := w.heap.size) (by simp; omega) (by rfl) (.tmp 15) (.tmp 18) (by rfl) l [UInt8.ofNat (m % 256)] (by rfl) (by rfl) (hown.alloc _) (Own.made _ (Nat.le_refl _) (u8_mod m)).rd (by simp; omega) ?_; intro v1 w1 hown1 hgb1)
      have hg1 := (hown.alloc _).grew (hg.alloc _) hgb1
      have HD' := HD.out
      rw [numD_pos h0, List.append_assoc] at HD'
      have hl7 : (l ++ [UInt8.ofNat (m % 256)]).length ≤ 7 := by
        have := congrArg List.length HD'
        simp at this ⊢; omega
      go_roundw
      case rel => exact ⟨m / 256, l ++ [UInt8.ofNat (m % 256)], by omega, by go_num, Lib.hid (by rw [HD']; simp), hl7, hown1, hg1⟩
      case measure => simp [intOf]; omega
    · have hm0 : m = 0 := by omega
      subst hm0
      have HD' := HD.out
      rw [numD_zero, List.nil_append] at HD'
      go_wp2_with (first
        | (go_at_call 105; refine (reverse_own hown (by omega)).mono ?_; rintro e w2 ⟨rfl, hown2, hgb2⟩; have hln := len_rd (ty := 3) hown2.rd; have hg2 := hown.grew hg hgb2; have hsz2 := hg2.size)
        | (at_builtin; refine app_rd (N := w.heap.size) (by simp; omega) (by rfl) (.tmp 25) (.tmp 26) (by rfl) [UInt8.ofNat (numD k).length] l.reverse (by rfl) (by rfl) (Own.made _ (by omega) (by rw [HD']; simp; omega)) (hown2.alloc _).rd (by simp; omega) ?_; intro v3 w3 hown3 hgb3))
      have hg3 := (Own.made (c := UInt8.ofNat (numD k).length) w2 (N := w.heap.size) (by omega) (by rw [HD']; simp; omega)).grew (hg2.alloc _) hgb3
      go_ret2
      refine ⟨v3, rfl, ?_, hg3⟩
      unfold numT
      rw [← HD'] at hown3
      exact hown3

theorem num_any (n : Int) (w : World) :
    Calls Tryd.prog 90 #[.int .i64 n] w fun e w' => ∃ v, e = .returned (.tuple #[v, .int .i64 (numE n)]) ∧ Own w' w.heap.size v (numW n) ∧ Gr w w' := by
  unfold numE numW
  by_cases h : 0 ≤ n ∧ n ≤ 9007199254740991
  · rw [if_pos h, if_pos h]
    obtain ⟨k, rfl⟩ := Int.eq_ofNat_of_zero_le h.1
    exact num_good k (by omega) w
  · rw [if_neg h, if_neg h]
    refine (num_bad n h w).mono ?_
    rintro e w' ⟨rfl, rfl⟩
    exact ⟨_, rfl, Own.nil _ _, Gr.refl _⟩

def strE (s : List UInt8) : Int := if s.length ≤ 64 then 0 else 5
theorem str_any (s : ByteArray) (w : World) :
    Calls Tryd.prog 92 #[.string s, .int .i64 64] w fun e w' => ∃ v, e = .returned (.tuple #[v, .int .i64 (strE s.data.toList)]) ∧ Own w' w.heap.size v (strW s.data.toList) ∧ Gr w w' := by
  have hl : s.data.toList.length = s.size := Array.length_toList
  by_cases h : s.size ≤ 64
  · have hn := Lib.hid (fun w => num_good s.size (by omega) w)
    have h7 := numD_le7 (n := s.size) (by omega)
    unfold strE strW
    rw [hl, if_pos h, if_pos h]
    go_enter Tryd.func92, Tryd.ntmps92
    go_wp2_with (first
      | (go_at_call 90; refine (hn.out _).mono ?_; rintro e w1 ⟨v1, rfl, hown1, hg1⟩; have hsz := hg1.size)
      | (at_builtin; refine app_str (N := w.heap.size) (by omega) (by rfl) (.tmp 25) (.tmp 26) (by rfl) (numT s.size) s (by rfl) (by rfl) hown1 (by simp [numT]; omega) ?_; intro v2 w2 hown2 hgb2))
    have hg2 := hown1.grew hg1 hgb2
    go_ret2
    exact ⟨v2, rfl, hown2, hg2⟩
  · unfold strE strW
    rw [hl, if_neg h, if_neg h]
    go_enter Tryd.func92, Tryd.ntmps92
    go_wp2
    go_ret2
    exact ⟨_, rfl, Own.nil _ _, Gr.refl _⟩

set_option maxHeartbeats 1000000 in
theorem refNum_bad (n : Int) (h : ¬ (0 ≤ n ∧ n ≤ 9007199254740991)) (w : World) :
    Calls Tryd.prog 91 #[.int .i64 n] w fun e w' => e = .returned (.tuple #[.slice none 0 0, .int .i64 2]) ∧ w = w' := by
  by_cases h1 : n < 0
  · go_enter Tryd.func91, Tryd.ntmps91
    go_wp2
    go_ret2
    exact ⟨rfl, rfl⟩
  · have h2 : 9007199254740991 < n := by omega
    go_enter Tryd.func91, Tryd.ntmps91
    go_wp2
    go_ret2
    exact ⟨rfl, rfl⟩

set_option maxHeartbeats 2000000 in
set_option maxRecDepth 100000 in
theorem refNum_good (k : Nat) (hk : k ≤ 9007199254740991) (w : World) :
    Calls Tryd.prog 91 #[.int .i64 k] w fun e w' => ∃ v, e = .returned (.tuple #[v, .int .i64 0]) ∧ Own w' w.heap.size v (numT k) ∧ Gr w w' := by
  have h7 := numD_le7 hk
  go_enter Tryd.func91, Tryd.ntmps91
  go_wp2
  go_loopw [0, 4] (fun n v wr => ∃ (m : Nat) (l : List UInt8), m ≤ k ∧ n = .int .i64 m ∧ Hid (numD k = numD m ++ l) ∧ l.length ≤ 7 ∧ Own wr w.heap.size v l ∧ Gr w wr) (fun n _ _ => (intOf n).toNat)
  case atStart => exact ⟨k, [], Nat.le_refl _, rfl, Lib.hid (by simp), by simp, Own.nil _ _, Gr.refl _⟩
  case round =>
    obtain ⟨m, l, hm, rfl, HD, hl, hown, hg⟩ := hrel
    have hsz := hg.size
    by_cases h0 : 0 < m
    · go_wp2_with (at_builtin; refine app_rd (N := w.heap.size) (by simp; omega) (by rfl) (.tmp 16) (.tmp 17) (by rfl) [UInt8.ofNat (m % 256)] l (by rfl) (by rfl) (Own.made _ (by omega) (by first | exact u8_mod m | (go_outline; sorry))) (hown.alloc _).rd (by simp; omega) ?_; intro v1 w1 hown1 hgb1)
      have hg1 := (Own.made (c := UInt8.ofNat (m % 256)) wr (N := w.heap.size) (by omega) (u8_mod m)).grew (hg.alloc _) hgb1
      have HD' := HD.out
      rw [numD_pos h0, List.append_assoc] at HD'
      have hl7 : ([UInt8.ofNat (m % 256)] ++ l).length ≤ 7 := by
        have := congrArg List.length HD'
        simp at this ⊢; omega
      go_roundw
      case rel => exact ⟨m / 256, [UInt8.ofNat (m % 256)] ++ l, by omega, by go_num, Lib.hid (by rw [HD']), hl7, hown1, hg1⟩
      case measure => simp [intOf]; omega
    · have hm0 : m = 0 := by omega
      subst hm0
      have HD' := HD.out
      rw [numD_zero, List.nil_append] at HD'
      have hln := len_rd (ty := 3) hown.rd
      go_wp2_with (at_builtin; refine app_rd (N := w.heap.size) (by simp; omega) (by rfl) (.tmp 24) (.tmp 25) (by rfl) [UInt8.ofNat (numD k).length] l (by rfl) (by rfl) (Own.made _ (by omega) (by rw [HD']; simp; omega)) (hown.alloc _).rd (by simp; omega) ?_; intro v3 w3 hown3 hgb3)
      have hg3 := (Own.made (c := UInt8.ofNat (numD k).length) wr (N := w.heap.size) (by omega) (by rw [HD']; simp; omega)).grew (hg.alloc _) hgb3
      go_ret2
      refine ⟨v3, rfl, ?_, hg3⟩
      unfold numT
      rw [← HD'] at hown3
      exact hown3

theorem refNum_any (n : Int) (w : World) :
    Calls Tryd.prog 91 #[.int .i64 n] w fun e w' => ∃ v, e = .returned (.tuple #[v, .int .i64 (numE n)]) ∧ Own w' w.heap.size v (numW n) ∧ Gr w w' := by
  unfold numE numW
  by_cases h : 0 ≤ n ∧ n ≤ 9007199254740991
  · rw [if_pos h, if_pos h]
    obtain ⟨k, rfl⟩ := Int.eq_ofNat_of_zero_le h.1
    exact refNum_good k (by omega) w
  · rw [if_neg h, if_neg h]
    refine (refNum_bad n h w).mono ?_
    rintro e w' ⟨rfl, rfl⟩
    exact ⟨_, rfl, Own.nil _ _, Gr.refl _⟩

theorem refStr_any (s : ByteArray) (w : World) :
    Calls Tryd.prog 93 #[.string s, .int .i64 64] w fun e w' => ∃ v, e = .returned (.tuple #[v, .int .i64 (strE s.data.toList)]) ∧ Own w' w.heap.size v (strW s.data.toList) ∧ Gr w w' := by
  have hl : s.data.toList.length = s.size := Array.length_toList
  by_cases h : s.size ≤ 64
  · have hn := Lib.hid (fun w => refNum_good s.size (by omega) w)
    have h7 := numD_le7 (n := s.size) (by omega)
    unfold strE strW
    rw [hl, if_pos h, if_pos h]
    go_enter Tryd.func93, Tryd.ntmps93
    go_wp2_with (first
      | (go_at_call 91; refine (hn.out _).mono ?_; rintro e w1 ⟨v1, rfl, hown1, hg1⟩; have hsz := hg1.size)
      | (at_builtin; refine app_str (N := w.heap.size) (by omega) (by rfl) (.tmp 23) (.tmp 24) (by rfl) (numT s.size) s (by rfl) (by rfl) hown1 (by simp [numT]; omega) ?_; intro v2 w2 hown2 hgb2))
    have hg2 := hown1.grew hg1 hgb2
    go_ret2
    exact ⟨v2, rfl, hown2, hg2⟩
  · unfold strE strW
    rw [hl, if_neg h, if_neg h]
    go_enter Tryd.func93, Tryd.ntmps93
    go_wp2
    go_ret2
    exact ⟨_, rfl, Own.nil _ _, Gr.refl _⟩
end Go.Proofs.YtpnojkgdjkncbaaDoor
