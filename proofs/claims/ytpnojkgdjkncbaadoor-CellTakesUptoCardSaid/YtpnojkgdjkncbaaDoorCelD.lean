/- Layer 11: numbers, stamps and versions as texts: both sides. -/
import Derived.Test.YtpnojkgdjkncbaaDoorCelC
import Derived.Test.YtpnojkgdjkncbaaDoorPlainA
namespace Go.Proofs.YtpnojkgdjkncbaaDoor
open Go.RowKit
set_option maxRecDepth 100000
set_option linter.unusedVariables false
set_option linter.unusedSimpArgs false

def stampW (p : Int × Int) : List UInt8 := numW p.1 ++ numW p.2
def stampE (a b : Int) : Int := if mayB a b = true then 0 else 2
def okV (value : List UInt8) (is : Bool) : Bool := decide (value.length ≤ 64) && (is || value.isEmpty)
def versionW (value : List UInt8) (is : Bool) : List UInt8 := if okV value is = true then (if is = true then numW 1 ++ strW value else numW 0) else []
def versionE (value : List UInt8) (is : Bool) : Int := if okV value is = true then 0 else 2
def stampsCells (ps : List (Int × Int)) : List Value := ps.flatMap fun p => [.int .i64 p.1, .int .i64 p.2]

theorem stampsCells_get : ∀ (ps : List (Int × Int)) (k : Nat) (h : k < ps.length), (stampsCells ps)[k * 2]? = some (.int .i64 ps[k].1) ∧ (stampsCells ps)[k * 2 + 1]? = some (.int .i64 ps[k].2)
  | p :: ps, 0, h => by simp [stampsCells]
  | p :: ps, k + 1, h => by
    have := stampsCells_get ps k (by simpa using h)
    simp only [stampsCells, List.flatMap_cons] at this ⊢
    simpa [show (k + 1) * 2 = k * 2 + 1 + 1 by omega] using this
theorem stampsW_length : ∀ ps : List (Int × Int), (ps.flatMap stampW).length ≤ 16 * ps.length
  | [] => by simp
  | p :: ps => by
    have h1 := numW_length p.1
    have h2 := numW_length p.2
    have := stampsW_length ps
    simp [stampW] at this ⊢; omega
theorem stampsW_take (L : List UInt8) (ps : List (Int × Int)) (k : Nat) (h : k < ps.length) : L ++ (ps.take (k + 1)).flatMap stampW = (L ++ (ps.take k).flatMap stampW) ++ [ps[k].1, ps[k].2].flatMap numW := by
  rw [List.take_succ_eq_append_getElem h, List.flatMap_append]
  simp [stampW]

theorem stampCheck_any (a b : Int) (w : World) :
    Calls Tryd.prog 58 #[.agg #[.int .i64 a, .int .i64 b]] w fun e w' => e = .returned (.int .i64 (if mayB a b = true then 0 else 9)) ∧ Gr w w' := by
  by_cases h : mayB a b = true
  · have hm := h
    simp [mayB] at hm
    rw [if_pos h]
    go_enter Tryd.func58, Tryd.ntmps58
    go_wp2
    go_ret
    exact ⟨rfl, (by repeat (first | (with_reducible exact Gr.refl _) | (with_reducible assumption) | (with_reducible refine Gr.alloc ?_ _) | (with_reducible refine Gr.drew ?_) | (with_reducible refine Gr.drewN ?_ _) | (with_reducible refine Gr.trans ?_ (by assumption)) | (with_reducible refine Gr.setCell ?_ (by first | exact Nat.le_refl _ | omega | (simp; done) | (simp; omega)) _)))⟩
  · have hm := h
    simp [mayB] at hm
    rw [if_neg h]
    go_enter Tryd.func58, Tryd.ntmps58
    go_wp2
    all_goals first | (exfalso; omega) | (go_ret; exact ⟨rfl, (by repeat (first | (with_reducible exact Gr.refl _) | (with_reducible assumption) | (with_reducible refine Gr.alloc ?_ _) | (with_reducible refine Gr.drew ?_) | (with_reducible refine Gr.drewN ?_ _) | (with_reducible refine Gr.trans ?_ (by assumption)) | (with_reducible refine Gr.setCell ?_ (by first | exact Nat.le_refl _ | omega | (simp; done) | (simp; omega)) _)))⟩)
theorem refStampCheck_any (a b : Int) (w : World) :
    Calls Tryd.prog 59 #[.agg #[.int .i64 a, .int .i64 b]] w fun e w' => e = .returned (.int .i64 (if mayB a b = true then 0 else 9)) ∧ Gr w w' := by
  by_cases h : mayB a b = true
  · have hm := h
    simp [mayB] at hm
    rw [if_pos h]
    go_enter Tryd.func59, Tryd.ntmps59
    go_wp2
    go_ret
    exact ⟨rfl, (by repeat (first | (with_reducible exact Gr.refl _) | (with_reducible assumption) | (with_reducible refine Gr.alloc ?_ _) | (with_reducible refine Gr.drew ?_) | (with_reducible refine Gr.drewN ?_ _) | (with_reducible refine Gr.trans ?_ (by assumption)) | (with_reducible refine Gr.setCell ?_ (by first | exact Nat.le_refl _ | omega | (simp; done) | (simp; omega)) _)))⟩
  · have hm := h
    simp [mayB] at hm
    rw [if_neg h]
    go_enter Tryd.func59, Tryd.ntmps59
    go_wp2
    all_goals first | (exfalso; omega) | (go_ret; exact ⟨rfl, (by repeat (first | (with_reducible exact Gr.refl _) | (with_reducible assumption) | (with_reducible refine Gr.alloc ?_ _) | (with_reducible refine Gr.drew ?_) | (with_reducible refine Gr.drewN ?_ _) | (with_reducible refine Gr.trans ?_ (by assumption)) | (with_reducible refine Gr.setCell ?_ (by first | exact Nat.le_refl _ | omega | (simp; done) | (simp; omega)) _)))⟩)

set_option maxHeartbeats 2000000 in
theorem wstamp {N B : Nat} {L : List UInt8} {w : World} (h : Wri N B L w) (bl n c : Nat) (ps : List (Int × Int)) (hbl : w.heap[bl]? = some (.cells (stampsCells ps).toArray 23)) (hn : ps.length = n) (hlen : L.length + 16 * n ≤ 70368744177664) :
    Calls Tryd.prog 57 #[.pointer (some ⟨B, 0, none⟩), .slice (some ⟨bl, 0, none⟩) n c] w fun e w' => e = .returned (.tuple #[]) ∧ Wri N B (L ++ ps.flatMap stampW) w' ∧ Fb N B w w' := by
  subst hn
  have hbB : bl ≠ B := by
    rintro rfl
    obtain ⟨_, v, h1, _⟩ := h
    rw [hbl] at h1
    simp at h1
  go_enter Tryd.func57, Tryd.ntmps57
  go_wp2
  go_loopw [8] (fun i wr => ∃ k : Nat, k ≤ ps.length ∧ i = .int .i64 k ∧ Wri N B (L ++ (ps.take k).flatMap stampW) wr ∧ Fb N B w wr) (fun i _ => ps.length - (intOf i).toNat)
  case atStart => exact ⟨0, Nat.zero_le _, rfl, by simpa using h, Fb.refl _ _ _⟩
  case round =>
    obtain ⟨k, hk, rfl, hW, hF⟩ := hrel
    by_cases hlt : k < ps.length
    · have hbl2 := hF.blk bl _ hbl hbB (.inr (by simp))
      obtain ⟨x1, x2⟩ := stampsCells_get ps k hlt
      have hc1 : wr.cell? ⟨bl, k * 2, none⟩ = some (.int .i64 ps[k].1) := by
        simp only [World.cell?, hbl2]
        simpa using x1
      have hc2 : wr.cell? ⟨bl, k * 2 + 1, none⟩ = some (.int .i64 ps[k].2) := by
        simp only [World.cell?, hbl2]
        simpa using x2
      have hL : (L ++ (ps.take k).flatMap stampW).length ≤ L.length + 16 * k := by
        have := stampsW_length (ps.take k)
        simp at this ⊢; omega
      have hBl := hW.lt
      clear hbl hbl2 x1 x2
      go_wp2_with (go_at_call 53; refine (wnum (hW.gr (by repeat (first | (with_reducible exact Gr.refl _) | (with_reducible assumption) | (with_reducible refine Gr.alloc ?_ _) | (with_reducible refine Gr.drew ?_) | (with_reducible refine Gr.drewN ?_ _) | (with_reducible refine Gr.trans ?_ (by assumption)) | (with_reducible refine Gr.setCell ?_ (by first | exact Nat.le_refl _ | omega | (simp; done) | (simp; omega)) _)))) _ 2 2 [ps[k].1, ps[k].2] (by exact heap_newn (by first | rfl | (simp; done))) rfl (by omega)).mono ?_; rintro e w1 ⟨rfl, hW1, hF1⟩)
      go_roundw
      case rel => exact ⟨k + 1, by omega, by go_num, by rw [stampsW_take L ps k hlt]; exact hW1, (hF.trans (Fb.gr (by repeat (first | (with_reducible exact Gr.refl _) | (with_reducible assumption) | (with_reducible refine Gr.alloc ?_ _) | (with_reducible refine Gr.drew ?_) | (with_reducible refine Gr.drewN ?_ _) | (with_reducible refine Gr.trans ?_ (by assumption)) | (with_reducible refine Gr.setCell ?_ (by first | exact Nat.le_refl _ | omega | (simp; done) | (simp; omega)) _))) _ _)).trans hF1⟩
      case measure => simp [intOf]; omega
    · obtain rfl : k = ps.length := by omega
      rw [List.take_length] at hW
      go_wp2
      go_end0
      exact ⟨rfl, hW, hF⟩

theorem Wri.new' (w : World) {N n : Nat} (hn : n = w.heap.size) (hN : N ≤ n) : Wri N n [] (w.alloc (.cells #[.slice none 0 0] 75)) := by
  subst hn
  exact Wri.new w hN
theorem wstamp1 {N B : Nat} {L : List UInt8} {w : World} (h : Wri N B L w) (bl c : Nat) (a b : Int) (hbl : w.heap[bl]? = some (.cells #[.int .i64 a, .int .i64 b] 23)) (hlen : L.length + 16 ≤ 70368744177664) :
    Calls Tryd.prog 57 #[.pointer (some ⟨B, 0, none⟩), .slice (some ⟨bl, 0, none⟩) 1 c] w fun e w' => e = .returned (.tuple #[]) ∧ Wri N B (L ++ stampW (a, b)) w' ∧ Fb N B w w' := by
  have := wstamp h bl 1 c [(a, b)] hbl rfl (by omega)
  simpa using this
theorem wstamp2 {N B : Nat} {L : List UInt8} {w : World} (h : Wri N B L w) (bl c : Nat) (a b a' b' : Int) (hbl : w.heap[bl]? = some (.cells #[.int .i64 a, .int .i64 b, .int .i64 a', .int .i64 b'] 23)) (hlen : L.length + 32 ≤ 70368744177664) :
    Calls Tryd.prog 57 #[.pointer (some ⟨B, 0, none⟩), .slice (some ⟨bl, 0, none⟩) 2 c] w fun e w' => e = .returned (.tuple #[]) ∧ Wri N B (L ++ (stampW (a, b) ++ stampW (a', b'))) w' ∧ Fb N B w w' := by
  have := wstamp h bl 2 c [(a, b), (a', b')] hbl rfl (by omega)
  simpa using this

theorem numE_text (n : Int) : (if (if decide (0 ≤ n ∧ n ≤ 9007199254740991) = true then (0 : Int) else 2) = 0 then numW n else []) = numW n := by
  unfold numW
  by_cases h : 0 ≤ n ∧ n ≤ 9007199254740991
  · simp [h]
  · simp [h]

set_option maxRecDepth 100000 in
theorem cellNumber_any (n : Int) (w : World) :
    Calls Tryd.prog 11 #[.int .i64 n] w fun e w' => e = .returned (.tuple #[.string ⟨(numW n).toArray⟩, .int .i64 (numE n)]) ∧ Gr w w' := by
  by_cases h : 0 ≤ n ∧ n ≤ 9007199254740991
  · have he : numE n = 0 := by unfold numE; rw [if_pos h]
    obtain ⟨h1, h2⟩ := h
    rw [he]
    go_enter Tryd.func11, Tryd.ntmps11
    go_wp2_with (first
      | (go_at_call 53; refine (wnum ((Wri.new w (Nat.le_refl _)).gr (by repeat (first | (with_reducible exact Gr.refl _) | (with_reducible assumption) | (with_reducible refine Gr.alloc ?_ _) | (with_reducible refine Gr.drew ?_) | (with_reducible refine Gr.drewN ?_ _) | (with_reducible refine Gr.trans ?_ (by assumption)) | (with_reducible refine Gr.setCell ?_ (by first | exact Nat.le_refl _ | omega | (simp; done) | (simp; omega)) _)))) _ 1 1 [n] (by exact heap_newn (by first | rfl | (simp; done))) rfl (by simp)).mono ?_; rintro e w1 ⟨rfl, hW1, hF1⟩; have hg1 : Gr w w1 := Fb.toGr (by repeat (first | (with_reducible exact Gr.refl _) | (with_reducible assumption) | (with_reducible refine Gr.alloc ?_ _) | (with_reducible refine Gr.drew ?_) | (with_reducible refine Gr.drewN ?_ _) | (with_reducible refine Gr.trans ?_ (by assumption)) | (with_reducible refine Gr.setCell ?_ (by first | exact Nat.le_refl _ | omega | (simp; done) | (simp; omega)) _))) hF1 (Nat.le_refl _) (Nat.le_refl _))
      | (go_at_call 55; refine (may_any2 true _).mono ?_; rintro e w2 ⟨rfl, rfl⟩)
      | (go_at_call 54; refine (wtext hW1 _).mono ?_; rintro e w3 ⟨rfl, rfl⟩))
    go_ret2
    exact ⟨by simp, hg1⟩
  · have he : numE n = 2 := by unfold numE; rw [if_neg h]
    have hw : numW n = [] := by unfold numW; rw [if_neg h]
    rw [he, hw]
    have hb : (decide (0 ≤ n) && decide (n ≤ 9007199254740991)) = false := by simp; omega
    go_enter Tryd.func11, Tryd.ntmps11
    go_wp2_with (first
      | (go_at_call 53; refine (wnum ((Wri.new w (Nat.le_refl _)).gr (by repeat (first | (with_reducible exact Gr.refl _) | (with_reducible assumption) | (with_reducible refine Gr.alloc ?_ _) | (with_reducible refine Gr.drew ?_) | (with_reducible refine Gr.drewN ?_ _) | (with_reducible refine Gr.trans ?_ (by assumption)) | (with_reducible refine Gr.setCell ?_ (by first | exact Nat.le_refl _ | omega | (simp; done) | (simp; omega)) _)))) _ 1 1 [n] (by exact heap_newn (by first | rfl | (simp; done))) rfl (by simp)).mono ?_; rintro e w1 ⟨rfl, hW1, hF1⟩; have hg1 : Gr w w1 := Fb.toGr (by repeat (first | (with_reducible exact Gr.refl _) | (with_reducible assumption) | (with_reducible refine Gr.alloc ?_ _) | (with_reducible refine Gr.drew ?_) | (with_reducible refine Gr.drewN ?_ _) | (with_reducible refine Gr.trans ?_ (by assumption)) | (with_reducible refine Gr.setCell ?_ (by first | exact Nat.le_refl _ | omega | (simp; done) | (simp; omega)) _))) hF1 (Nat.le_refl _) (Nat.le_refl _))
      | (go_at_call 55; refine (may_any2 _ _).mono ?_; rintro e w2 ⟨rfl, rfl⟩)
      | (go_at_call 54; refine (wtext hW1 _).mono ?_; rintro e w3 ⟨rfl, rfl⟩))
    all_goals (go_ret2; exact ⟨by simp, hg1⟩)

set_option maxHeartbeats 1000000 in
set_option maxRecDepth 100000 in
theorem cellStamp_any (a b : Int) (w : World) :
    Calls Tryd.prog 13 #[.agg #[.int .i64 a, .int .i64 b]] w fun e w' => e = .returned (.tuple #[.string ⟨(if stampE a b = 0 then stampW (a, b) else []).toArray⟩, .int .i64 (stampE a b)]) ∧ Gr w w' := by
  have hck : ∀ w, Calls Tryd.prog 58 #[.agg #[.int .i64 a, .int .i64 b]] w fun e w' => e = .returned (.int .i64 (if stampE a b = 0 then 0 else 9)) ∧ Gr w w' := fun w => by
    have := stampCheck_any a b w
    unfold stampE
    cases h : mayB a b <;> simpa [h] using this
  have hW0 := Wri.new' (w.alloc (.cells #[.int .i64 a, .int .i64 b] 23)) (N := w.heap.size) (n := w.heap.size + 1) (by simp) (by omega)
  have hs : stampE a b = 0 ∨ stampE a b = 2 := by unfold stampE; split <;> simp
  rcases hs with hs | hs
  · rw [hs] at hck ⊢
    have H := Lib.hid hck
    clear hck
    go_enter Tryd.func13, Tryd.ntmps13
    go_wp2_with (first
      | (go_at_call 57; refine (wstamp1 (hW0.gr (by repeat (first | (with_reducible exact Gr.refl _) | (with_reducible assumption) | (with_reducible refine Gr.alloc ?_ _) | (with_reducible refine Gr.drew ?_) | (with_reducible refine Gr.drewN ?_ _) | (with_reducible refine Gr.trans ?_ (by assumption)) | (with_reducible refine Gr.setCell ?_ (by first | exact Nat.le_refl _ | omega | (simp; done) | (simp; omega)) _)))) _ _ a b (by exact heap_newn (by first | rfl | (simp; done))) (by simp)).mono ?_; rintro e w1 ⟨rfl, hW1, hF1⟩; have hg1 : Gr w w1 := Fb.toGr (by repeat (first | (with_reducible exact Gr.refl _) | (with_reducible assumption) | (with_reducible refine Gr.alloc ?_ _) | (with_reducible refine Gr.drew ?_) | (with_reducible refine Gr.drewN ?_ _) | (with_reducible refine Gr.trans ?_ (by assumption)) | (with_reducible refine Gr.setCell ?_ (by first | exact Nat.le_refl _ | omega | (simp; done) | (simp; omega)) _))) hF1 (Nat.le_refl _) (by omega); have hbk : w1.heap[w.heap.size]? = some (.cells #[.int .i64 a, .int .i64 b] 23) := hF1.blk _ _ (heap_alloc_mono (heap_alloc_mono (heap_alloc_new _ _) _) _) (by omega) (.inr (by simp)); obtain ⟨k_0, k_1, g_0, g_1, l_0⟩ := blk2 hbk)
      | (go_at_call 58; refine (H.out _).mono ?_; rintro e w4 ⟨rfl, hg4⟩)
      | (go_at_call 55; refine (may_any2 _ _).mono ?_; rintro e w2 ⟨rfl, rfl⟩)
      | (go_at_call 54; refine (wtext (hW1.gr hg4) _).mono ?_; rintro e w3 ⟨rfl, rfl⟩))
    go_ret2
    exact ⟨by simp, (by repeat (first | (with_reducible exact Gr.refl _) | (with_reducible assumption) | (with_reducible refine Gr.alloc ?_ _) | (with_reducible refine Gr.drew ?_) | (with_reducible refine Gr.drewN ?_ _) | (with_reducible refine Gr.trans ?_ (by assumption)) | (with_reducible refine Gr.setCell ?_ (by first | exact Nat.le_refl _ | omega | (simp; done) | (simp; omega)) _)))⟩
  · rw [hs] at hck ⊢
    have H := Lib.hid hck
    clear hck
    go_enter Tryd.func13, Tryd.ntmps13
    go_wp2_with (first
      | (go_at_call 57; refine (wstamp1 (hW0.gr (by repeat (first | (with_reducible exact Gr.refl _) | (with_reducible assumption) | (with_reducible refine Gr.alloc ?_ _) | (with_reducible refine Gr.drew ?_) | (with_reducible refine Gr.drewN ?_ _) | (with_reducible refine Gr.trans ?_ (by assumption)) | (with_reducible refine Gr.setCell ?_ (by first | exact Nat.le_refl _ | omega | (simp; done) | (simp; omega)) _)))) _ _ a b (by exact heap_newn (by first | rfl | (simp; done))) (by simp)).mono ?_; rintro e w1 ⟨rfl, hW1, hF1⟩; have hg1 : Gr w w1 := Fb.toGr (by repeat (first | (with_reducible exact Gr.refl _) | (with_reducible assumption) | (with_reducible refine Gr.alloc ?_ _) | (with_reducible refine Gr.drew ?_) | (with_reducible refine Gr.drewN ?_ _) | (with_reducible refine Gr.trans ?_ (by assumption)) | (with_reducible refine Gr.setCell ?_ (by first | exact Nat.le_refl _ | omega | (simp; done) | (simp; omega)) _))) hF1 (Nat.le_refl _) (by omega); have hbk : w1.heap[w.heap.size]? = some (.cells #[.int .i64 a, .int .i64 b] 23) := hF1.blk _ _ (heap_alloc_mono (heap_alloc_mono (heap_alloc_new _ _) _) _) (by omega) (.inr (by simp)); obtain ⟨k_0, k_1, g_0, g_1, l_0⟩ := blk2 hbk)
      | (go_at_call 58; refine (H.out _).mono ?_; rintro e w4 ⟨rfl, hg4⟩)
      | (go_at_call 55; refine (may_any2 _ _).mono ?_; rintro e w2 ⟨rfl, rfl⟩)
      | (go_at_call 54; refine (wtext (hW1.gr hg4) _).mono ?_; rintro e w3 ⟨rfl, rfl⟩))
    go_ret2
    exact ⟨by simp, (by repeat (first | (with_reducible exact Gr.refl _) | (with_reducible assumption) | (with_reducible refine Gr.alloc ?_ _) | (with_reducible refine Gr.drew ?_) | (with_reducible refine Gr.drewN ?_ _) | (with_reducible refine Gr.trans ?_ (by assumption)) | (with_reducible refine Gr.setCell ?_ (by first | exact Nat.le_refl _ | omega | (simp; done) | (simp; omega)) _)))⟩

theorem refNumb_any (n : Int) (w : World) :
    Calls Tryd.prog 56 #[.int .i64 n] w fun e w' => ∃ v, e = .returned v ∧ Own w' w.heap.size v (numW n) ∧ Gr w w' := by
  go_enter Tryd.func56, Tryd.ntmps56
  go_wp2_with (go_at_call 91; refine (refNum_any _ _).mono ?_; rintro e w1 ⟨v, rfl, hown, hg⟩)
  go_ret
  exact ⟨v, rfl, hown, hg⟩
theorem refStrb_any (s : ByteArray) (w : World) :
    Calls Tryd.prog 62 #[.string s] w fun e w' => ∃ v, e = .returned v ∧ Own w' w.heap.size v (strW s.data.toList) ∧ Gr w w' := by
  go_enter Tryd.func62, Tryd.ntmps62
  go_wp2_with (go_at_call 93; refine (refStr_any _ _).mono ?_; rintro e w1 ⟨v, rfl, hown, hg⟩)
  go_ret
  exact ⟨v, rfl, hown, hg⟩

theorem refNumber_any (n : Int) (w : World) :
    Calls Tryd.prog 12 #[.int .i64 n] w fun e w' => e = .returned (.tuple #[.string ⟨(numW n).toArray⟩, .int .i64 (numE n)]) ∧ Gr w w' := by
  by_cases h : 0 ≤ n ∧ n ≤ 9007199254740991
  · have he : numE n = 0 := by unfold numE; rw [if_pos h]
    obtain ⟨h1, h2⟩ := h
    rw [he]
    go_enter Tryd.func12, Tryd.ntmps12
    go_wp2_with (go_at_call 56; refine (refNumb_any _ _).mono ?_; rintro e w1 ⟨v, rfl, hown, hg⟩; have hcv := conv_rd hown.rd)
    go_ret2
    exact ⟨rfl, hg⟩
  · have he : numE n = 2 := by unfold numE; rw [if_neg h]
    have hw : numW n = [] := by unfold numW; rw [if_neg h]
    rw [he, hw]
    by_cases h1 : n < 0
    · go_enter Tryd.func12, Tryd.ntmps12
      go_wp2
      go_ret2
      exact ⟨rfl, (by repeat (first | (with_reducible exact Gr.refl _) | (with_reducible assumption) | (with_reducible refine Gr.alloc ?_ _) | (with_reducible refine Gr.drew ?_) | (with_reducible refine Gr.drewN ?_ _) | (with_reducible refine Gr.trans ?_ (by assumption)) | (with_reducible refine Gr.setCell ?_ (by first | exact Nat.le_refl _ | omega | (simp; done) | (simp; omega)) _)))⟩
    · have h2 : 9007199254740991 < n := by omega
      go_enter Tryd.func12, Tryd.ntmps12
      go_wp2
      go_ret2
      exact ⟨rfl, (by repeat (first | (with_reducible exact Gr.refl _) | (with_reducible assumption) | (with_reducible refine Gr.alloc ?_ _) | (with_reducible refine Gr.drew ?_) | (with_reducible refine Gr.drewN ?_ _) | (with_reducible refine Gr.trans ?_ (by assumption)) | (with_reducible refine Gr.setCell ?_ (by first | exact Nat.le_refl _ | omega | (simp; done) | (simp; omega)) _)))⟩

set_option maxHeartbeats 4000000 in
set_option maxRecDepth 100000 in
theorem refStampT_any (a b : Int) (w : World) :
    Calls Tryd.prog 14 #[.agg #[.int .i64 a, .int .i64 b]] w fun e w' => e = .returned (.tuple #[.string ⟨(if stampE a b = 0 then stampW (a, b) else []).toArray⟩, .int .i64 (stampE a b)]) ∧ Gr w w' := by
  have hck : ∀ w, Calls Tryd.prog 59 #[.agg #[.int .i64 a, .int .i64 b]] w fun e w' => e = .returned (.int .i64 (if stampE a b = 0 then 0 else 9)) ∧ Gr w w' := fun w => by
    have := refStampCheck_any a b w
    unfold stampE
    cases h : mayB a b <;> simpa [h] using this
  have hs : stampE a b = 0 ∨ stampE a b = 2 := by unfold stampE; split <;> simp
  rcases hs with hs | hs
  · rw [hs] at hck ⊢
    have H := Lib.hid hck
    clear hck
    go_enter Tryd.func14, Tryd.ntmps14
    go_wp2_with (go_at_call 59; refine (H.out _).mono ?_; rintro e w4 ⟨rfl, hg4⟩; have hbk : w4.heap[w.heap.size]? = some (.cells #[.int .i64 a, .int .i64 b] 23) := hg4.blk (heap_alloc_new _ _); obtain ⟨k_0, k_1, g_0, g_1, l_0⟩ := blk2 hbk)
    have ha8 := numW_length a
    have hb8 := numW_length b
    go_region_with (go_at_call 56; first
      | ((with_reducible refine (refNumb_any a _).mono ?_); rintro e wa ⟨va, rfl, howna, hga⟩; have hca := conv_rd howna.rd; (have hbka : wa.heap[w.heap.size]? = some (.cells #[.int .i64 a, .int .i64 b] 23) := hga.blk (by repeat (first | (with_reducible assumption) | (with_reducible exact heap_alloc_new _ _) | (with_reducible refine heap_drew ?_) | (with_reducible refine heap_newn ?_; (first | rfl | (simp; done))) | (with_reducible refine heap_alloc_mono ?_ _)))); obtain ⟨k_0, k_1, g_0, g_1, l_0⟩ := blk2 hbka; try (have hcb2 := conv_rd (hownb.gr hga).rd))
      | ((with_reducible refine (refNumb_any b _).mono ?_); rintro e wb ⟨vb, rfl, hownb, hgb⟩; have hcb := conv_rd hownb.rd; (have hbkb : wb.heap[w.heap.size]? = some (.cells #[.int .i64 a, .int .i64 b] 23) := hgb.blk (by repeat (first | (with_reducible assumption) | (with_reducible exact heap_alloc_new _ _) | (with_reducible refine heap_drew ?_) | (with_reducible refine heap_newn ?_; (first | rfl | (simp; done))) | (with_reducible refine heap_alloc_mono ?_ _)))); obtain ⟨k_0, k_1, g_0, g_1, l_0⟩ := blk2 hbkb; try (have hca2 := conv_rd (howna.gr hgb).rd)))
    all_goals (go_wp2; go_ret2; exact ⟨by rw [str_append]; rfl, (by repeat (first | (with_reducible exact Gr.refl _) | (with_reducible assumption) | (with_reducible refine Gr.alloc ?_ _) | (with_reducible refine Gr.drew ?_) | (with_reducible refine Gr.drewN ?_ _) | (with_reducible refine Gr.trans ?_ (by assumption)) | (with_reducible refine Gr.setCell ?_ (by first | exact Nat.le_refl _ | omega | (simp; done) | (simp; omega)) _)))⟩)
  · rw [hs] at hck ⊢
    have H := Lib.hid hck
    clear hck
    go_enter Tryd.func14, Tryd.ntmps14
    go_wp2_with (go_at_call 59; refine (H.out _).mono ?_; rintro e w4 ⟨rfl, hg4⟩)
    go_ret2
    exact ⟨rfl, (by repeat (first | (with_reducible exact Gr.refl _) | (with_reducible assumption) | (with_reducible refine Gr.alloc ?_ _) | (with_reducible refine Gr.drew ?_) | (with_reducible refine Gr.drewN ?_ _) | (with_reducible refine Gr.trans ?_ (by assumption)) | (with_reducible refine Gr.setCell ?_ (by first | exact Nat.le_refl _ | omega | (simp; done) | (simp; omega)) _)))⟩
end Go.Proofs.YtpnojkgdjkncbaaDoor
