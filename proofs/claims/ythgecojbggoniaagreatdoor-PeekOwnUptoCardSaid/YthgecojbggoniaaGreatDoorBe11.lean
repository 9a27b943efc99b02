/- What the rows stand on, part 11: CelF. Printed by bundle.py out of my texts. -/
import Derived.Test.YthgecojbggoniaaGreatDoorBe02
import Derived.Test.YthgecojbggoniaaGreatDoorBe10
namespace Go.Proofs.YthgecojbggoniaaGreatDoor
open Go.RowKit
set_option maxRecDepth 100000
set_option linter.unusedVariables false
set_option linter.unusedSimpArgs false

theorem Own.madeNil (W : World) {N : Nat} (hN : N ≤ W.heap.size) : Own (W.alloc (.cells #[] 5)) N (.slice (some ⟨W.heap.size, 0, none⟩) 0 0) [] :=
  ⟨by simp [nums], .inr ⟨W.heap.size, 0, _, rfl, hN, heap_alloc_new W _, by simp [nums], by decide, rfl, rfl⟩⟩

theorem clone_any {w : World} {v : Value} {l : List UInt8} (h : Rd w v l) (hlen : l.length ≤ 140737488355328) :
    Calls Tryz.prog 134 #[v] w fun e w' => ∃ v', e = .returned v' ∧ Own w' w.heap.size v' l ∧ Gr w w' := by
  have hq : ∀ (w : World) (a : Option Addr) (n c n' c' : Nat), (binOp .eql 133 (.slice a n c) (.slice none n' c')).run Tryz.prog w = .ok (.bool a.isNone) w := fun w a n c n' c' => Lib.run_eql_slice_nil w _ _ a n c n' c' Tryz.underlying133
  have h0 := h
  rcases h with ⟨rfl, rfl⟩ | ⟨blk, off, cap, rfl, h2, h3, h4, h5⟩
  · go_enter Tryz.func134, Tryz.ntmps134
    go_wp2
    go_ret
    exact ⟨_, rfl, Own.nil _ _, Gr.refl _⟩
  · have H := Lib.hid h0
    clear h0 h5
    go_enter Tryz.func134, Tryz.ntmps134
    go_wp2_with (at_builtin; refine app_rd (N := w.heap.size) (by simp) (by rfl) (.tmp 5) (.tmp 6) (by rfl) [] l (by rfl) (by rfl) (Own.madeNil _ (Nat.le_refl _)) (H.out.gr (by repeat (first | (with_reducible exact Gr.refl _) | (with_reducible assumption) | (with_reducible refine Gr.alloc ?_ _) | (with_reducible refine Gr.drew ?_) | (with_reducible refine Gr.drewN ?_ _) | (with_reducible refine Gr.trans ?_ (by assumption)) | (with_reducible refine Gr.setCell ?_ (by first | exact Nat.le_refl _ | omega | (simp; done) | (simp; omega)) _)))) (by simp; omega) ?_; intro v1 w1 hown1 hgb1)
    have hg1 := (Own.madeNil w (Nat.le_refl _)).grew (by repeat (first | (with_reducible exact Gr.refl _) | (with_reducible assumption) | (with_reducible refine Gr.alloc ?_ _) | (with_reducible refine Gr.drew ?_) | (with_reducible refine Gr.drewN ?_ _) | (with_reducible refine Gr.trans ?_ (by assumption)) | (with_reducible refine Gr.setCell ?_ (by first | exact Nat.le_refl _ | omega | (simp; done) | (simp; omega)) _))) hgb1
    go_ret
    exact ⟨v1, rfl, by simpa using hown1, hg1⟩

theorem Rd.head {w : World} {v : Value} {m : UInt8} {t : List UInt8} (h : Rd w v (m :: t)) : ∃ blk off cap, v = .slice (some ⟨blk, off, none⟩) (t.length + 1) cap ∧ t.length + 1 ≤ cap ∧ cap ≤ maxLen ∧ blk < w.heap.size ∧
    w.cell? ⟨blk, off, none⟩ = some (.int .u8 m.toNat) ∧ ∀ j (h : j < t.length), w.cell? ⟨blk, off + 1 + j, none⟩ = some (.int .u8 t[j].toNat) := by
  rcases h with ⟨_, h⟩ | ⟨blk, off, cap, h1, h2, h3, h4, h5⟩
  · simp at h
  · refine ⟨blk, off, cap, h1, h2, h3, h4, h5 0 (by simp), fun j hj => ?_⟩
    have := h5 (j + 1) (by simp; omega)
    rw [show off + 1 + j = off + (j + 1) by omega]
    simpa using this

set_option maxRecDepth 100000 in
theorem take_nil {w : World} {v : Value} (h : Rd w v []) :
    Calls Tryz.prog 133 #[v] w fun e w' => e = .returned (.tuple #[.int .i64 0, .slice none 0 0, .int .i64 3]) ∧ w = w' := by
  rcases h with ⟨rfl, _⟩ | ⟨blk, off, cap, rfl, h2, h3, h4, h5⟩
  · go_enter Tryz.func133, Tryz.ntmps133
    go_wp2
    go_ret3
    exact ⟨rfl, rfl⟩
  · go_enter Tryz.func133, Tryz.ntmps133
    go_wp2
    go_ret3
    exact ⟨rfl, rfl⟩

theorem numN_take (t : List UInt8) (k : Nat) (h : k < t.length) : numN (t.take (k + 1)) = numN (t.take k) * 256 + t[k].toNat := by
  rw [List.take_succ_eq_append_getElem h, numN_snoc]
theorem numN_lt48 (l : List UInt8) (h : l.length ≤ 6) : (numN l : Int) < 281474976710656 := by
  have h1 := numN_lt l
  have h2 := Nat.pow_le_pow_right (n := 256) (by decide) h
  have h3 : (256 : Nat) ^ 6 = 281474976710656 := by decide
  omega
theorem Rd.tail {w : World} {blk off cap : Nat} {t : List UInt8} (hc : t.length + 1 ≤ cap) (hcm : cap ≤ maxLen) (hb : blk < w.heap.size) (cs : ∀ j (h : j < t.length), w.cell? ⟨blk, off + 1 + j, none⟩ = some (.int .u8 t[j].toNat)) (k n : Nat) (hk : k ≤ t.length) (hn : n = t.length - k) :
    Rd w (.slice (if cap = 1 + k then some ⟨blk, off, none⟩ else some ⟨blk, off + (1 + k), none⟩) n (cap - (1 + k))) (t.drop k) := by
  subst hn
  by_cases h : cap = 1 + k
  · rw [if_pos h]
    have hk2 : k = t.length := by omega
    subst hk2
    exact .inr ⟨blk, off, cap - (1 + t.length), by simp, by simp, by omega, hb, fun j hj => by simp at hj⟩
  · rw [if_neg h]
    refine .inr ⟨blk, off + (1 + k), cap - (1 + k), by simp, by simp; omega, by omega, hb, fun j hj => ?_⟩
    simp at hj
    have := cs (k + j) (by omega)
    rw [show off + 1 + (k + j) = off + (1 + k) + j by omega] at this
    rw [this]
    simp

set_option maxHeartbeats 4000000 in
theorem take_cons {w : World} {v : Value} {m : UInt8} {t : List UInt8} (h : Rd w v (m :: t)) :
    Calls Tryz.prog 133 #[v] w fun e w' => ∃ v', e = .returned (.tuple #[.int .i64 (takeN (m :: t)).1, v', .int .i64 (takeN (m :: t)).2.2]) ∧ Rd w' v' (takeN (m :: t)).2.1 ∧ Gr w w' := by
  obtain ⟨blk, off, cap, rfl, hc, hcm, hb, c0, cs⟩ := h.head
  have hm := m.toNat_lt
  have hcb : t.length + 1 ≤ 9223372036854775807 := by unfold maxLen at hcm; omega
  rw [takeN]
  by_cases h7 : 7 < m.toNat
  · rw [if_pos h7]
    clear cs h hcm
    go_enter Tryz.func133, Tryz.ntmps133
    go_wp2
    go_ret3
    exact ⟨_, rfl, Rd.nil _, Gr.refl _⟩
  rw [if_neg h7]
  by_cases hl : t.length < m.toNat
  · rw [if_pos hl]
    clear cs h hcm
    go_enter Tryz.func133, Tryz.ntmps133
    go_wp2
    go_ret3
    exact ⟨_, rfl, Rd.nil _, Gr.refl _⟩
  rw [if_neg hl]
  have ht := Lib.hid (Rd.tail hc hcm hb cs)
  have CS := Lib.hid cs
  clear cs h hcm
  rcases Nat.eq_zero_or_pos m.toNat with hm0 | hm0
  · rw [hm0]
    rw [if_neg (by simp [numN])]
    go_enter Tryz.func133, Tryz.ntmps133
    go_wp2
    go_loop [2, 38] (fun n i => n = .int .i64 0 ∧ i = .int .i64 0) (fun _ i => 0)
    case atStart => exact ⟨rfl, rfl⟩
    case round =>
      obtain ⟨rfl, rfl⟩ := hrel
      go_wp2
      go_region
      go_wp2
      all_goals
        have z := (ht.out 0 t.length (Nat.zero_le _) rfl).gr (Gr.refl w).drew
        first | rw [if_pos (by omega), show cap - (1 + 0) = 0 by omega] at z | rw [if_neg (by omega)] at z
        simp at z
        go_ret3
        exact ⟨_, rfl, z, (by repeat (first | (with_reducible exact Gr.refl _) | (with_reducible assumption) | (with_reducible refine Gr.alloc ?_ _) | (with_reducible refine Gr.drew ?_) | (with_reducible refine Gr.drewN ?_ _) | (with_reducible refine Gr.trans ?_ (by assumption)) | (with_reducible refine Gr.setCell ?_ (by first | exact Nat.le_refl _ | omega | (simp; done) | (simp; omega)) _)))⟩
  have hhd : (t.take m.toNat).head? = some (t[0]'(by omega)) := by
    rw [List.head?_take, if_neg (by omega), List.head?_eq_getElem?, List.getElem?_eq_getElem (by omega)]
  by_cases hh : (t.take m.toNat).head? = some 0 ∨ 9007199254740991 < numN (t.take m.toNat)
  · rw [if_pos hh]
    rw [hhd] at hh
    go_enter Tryz.func133, Tryz.ntmps133
    go_wp2
    go_loop [2, 38] (fun n i => ∃ k : Nat, k ≤ m.toNat ∧ i = .int .i64 k ∧ n = .int .i64 (numN (t.take k))) (fun _ i => m.toNat - (intOf i).toNat)
    case atStart => exact ⟨0, Nat.zero_le _, rfl, rfl⟩
    case round =>
      obtain ⟨k, hk, rfl, rfl⟩ := hrel
      by_cases hlt : k < m.toNat
      · have hcell := CS.out k (by omega)
        have hb := numN_lt48 (t.take k) (by rw [List.length_take]; omega)
        go_wp2
        go_round
        case rel => exact ⟨k + 1, by omega, by go_num, by
          have ho := or_byte (numN (t.take k)) t[k] (by omega) hb
          rw [show wrap64 ((numN (t.take k) : Int) * 256) = (numN (t.take k) : Int) * 256 by unfold wrap64; omega] at ho
          rw [numN_take t k (by omega), ho]; simp⟩
        case measure => simp [intOf]; omega
      · obtain rfl : k = m.toNat := by omega
        have hcell := CS.out 0 (by omega)
        clear hlt hk
        by_cases hz : t[0]'(by omega) = 0
        · have hzb : (((t[0]'(by omega)).toNat : Int) == 0) = true := by rw [hz]; rfl
          go_wp2
          go_ret3
          exact ⟨_, rfl, Rd.nil _, Gr.refl _⟩
        · have h9 : 9007199254740991 < numN (t.take m.toNat) := by
            rcases hh with h | h
            · exact absurd (Option.some.inj h) hz
            · exact h
          go_wp2
          all_goals (go_ret3; exact ⟨_, rfl, Rd.nil _, Gr.refl _⟩)
  · rw [if_neg hh]
    rw [hhd] at hh
    go_enter Tryz.func133, Tryz.ntmps133
    go_wp2
    go_loop [2, 38] (fun n i => ∃ k : Nat, k ≤ m.toNat ∧ i = .int .i64 k ∧ n = .int .i64 (numN (t.take k))) (fun _ i => m.toNat - (intOf i).toNat)
    case atStart => exact ⟨0, Nat.zero_le _, rfl, rfl⟩
    case round =>
      obtain ⟨k, hk, rfl, rfl⟩ := hrel
      by_cases hlt : k < m.toNat
      · have hcell := CS.out k (by omega)
        have hb := numN_lt48 (t.take k) (by rw [List.length_take]; omega)
        go_wp2
        go_round
        case rel => exact ⟨k + 1, by omega, by go_num, by
          have ho := or_byte (numN (t.take k)) t[k] (by omega) hb
          rw [show wrap64 ((numN (t.take k) : Int) * 256) = (numN (t.take k) : Int) * 256 by unfold wrap64; omega] at ho
          rw [numN_take t k (by omega), ho]; simp⟩
        case measure => simp [intOf]; omega
      · obtain rfl : k = m.toNat := by omega
        have hcell := CS.out 0 (by omega)
        clear hlt hk
        have hz : t[0]'(by omega) ≠ 0 := fun e => hh (.inl (by rw [e]))
        have hzb : (((t[0]'(by omega)).toNat : Int) == 0) = false := by
          rw [beq_eq_false_iff_ne]
          intro e
          exact hz (UInt8.toNat_inj.1 (by simpa using e))
        have h9 : numN (t.take m.toNat) ≤ 9007199254740991 := by omega
        clear hh
        go_wp2
        go_region
        go_wp2
        all_goals
          have z := (ht.out m.toNat (t.length + 1 - (1 + m.toNat)) (by omega) (by omega)).gr (Gr.refl w).drew
          first | rw [if_pos (by omega), show cap - (1 + m.toNat) = 0 by omega] at z | rw [if_neg (by omega)] at z
          go_ret3
          first | exact ⟨_, rfl, z, (by repeat (first | (with_reducible exact Gr.refl _) | (with_reducible assumption) | (with_reducible refine Gr.alloc ?_ _) | (with_reducible refine Gr.drew ?_) | (with_reducible refine Gr.drewN ?_ _) | (with_reducible refine Gr.trans ?_ (by assumption)) | (with_reducible refine Gr.setCell ?_ (by first | exact Nat.le_refl _ | omega | (simp; done) | (simp; omega)) _)))⟩ | (simp at z; exact ⟨_, rfl, z, (by repeat (first | (with_reducible exact Gr.refl _) | (with_reducible assumption) | (with_reducible refine Gr.alloc ?_ _) | (with_reducible refine Gr.drew ?_) | (with_reducible refine Gr.drewN ?_ _) | (with_reducible refine Gr.trans ?_ (by assumption)) | (with_reducible refine Gr.setCell ?_ (by first | exact Nat.le_refl _ | omega | (simp; done) | (simp; omega)) _)))⟩)

theorem take_any {w : World} {v : Value} {l : List UInt8} (h : Rd w v l) :
    Calls Tryz.prog 133 #[v] w fun e w' => ∃ v', e = .returned (.tuple #[.int .i64 (takeN l).1, v', .int .i64 (takeN l).2.2]) ∧ Rd w' v' (takeN l).2.1 ∧ Gr w w' := by
  cases l with
  | nil =>
    refine (take_nil h).mono ?_
    rintro e w' ⟨rfl, rfl⟩
    exact ⟨_, rfl, Rd.nil _, Gr.refl _⟩
  | cons m t => exact take_cons h

theorem takeN_length (l : List UInt8) : (takeN l).2.1.length ≤ l.length := by
  cases l with
  | nil => simp [takeN]
  | cons m t =>
    rw [takeN]
    split
    · simp
    split
    · simp
    split
    · simp
    · simp; omega

theorem takeNum_any {w : World} {v : Value} {l : List UInt8} (h : Rd w v l) (hlen : l.length ≤ 140737488355328) :
    Calls Tryz.prog 123 #[v] w fun e w' => ∃ v', e = .returned (.tuple #[.int .i64 (takeN l).1, v', .int .i64 (takeN l).2.2]) ∧ Own w' w.heap.size v' (takeN l).2.1 ∧ Gr w w' := by
  have hl := takeN_length l
  have H := Lib.hid (take_any h)
  clear h
  go_enter Tryz.func123, Tryz.ntmps123
  go_wp2_with (first
    | (go_at_call 133; refine H.out.mono ?_; rintro e w1 ⟨v1, rfl, hr1, hg1⟩)
    | (go_at_call 134; refine (clone_any hr1 (by omega)).mono ?_; rintro e w2 ⟨v2, rfl, hown2, hg2⟩))
  go_ret3
  exact ⟨v2, rfl, hown2.mono hg1.size, (by repeat (first | (with_reducible exact Gr.refl _) | (with_reducible assumption) | (with_reducible refine Gr.alloc ?_ _) | (with_reducible refine Gr.drew ?_) | (with_reducible refine Gr.drewN ?_ _) | (with_reducible refine Gr.trans ?_ (by assumption)) | (with_reducible refine Gr.setCell ?_ (by first | exact Nat.le_refl _ | omega | (simp; done) | (simp; omega)) _)))⟩
end Go.Proofs.YthgecojbggoniaaGreatDoor
