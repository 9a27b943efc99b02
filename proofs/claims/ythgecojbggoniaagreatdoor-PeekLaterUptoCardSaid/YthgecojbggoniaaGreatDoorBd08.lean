/- What the rows stand on, part 08: CelH. Printed by bundle.py out of my texts. -/
import Derived.Test.YthgecojbggoniaaGreatDoorBd07
import Derived.RegionTactic
import Derived.ChangeAlike
namespace Go.Proofs.YthgecojbggoniaaGreatDoor
open Go.RowKit
set_option maxRecDepth 100000
set_option linter.unusedVariables false
set_option linter.unusedSimpArgs false

theorem u8_int_ne {a b : UInt8} (h : a ≠ b) : ((a.toNat : Int) != (b.toNat : Int)) = true := by
  rw [bne_iff_ne]
  intro e
  exact h (UInt8.toNat_inj.1 (by exact_mod_cast e))
theorem u8_int_eq {a b : UInt8} (h : a = b) : ((a.toNat : Int) != (b.toNat : Int)) = false := by
  subst h; simp
theorem Rd.cells {w : World} {v : Value} {l : List UInt8} (h : Rd w v l) {k : Nat} (hk : k < l.length) : ∃ blk off cap, v = .slice (some ⟨blk, off, none⟩) l.length cap ∧ l.length ≤ cap ∧ cap ≤ maxLen ∧ blk < w.heap.size ∧
    ∀ j (h : j < l.length), w.cell? ⟨blk, off + j, none⟩ = some (.int .u8 l[j].toNat) := by
  rcases h with ⟨_, h⟩ | h
  · subst h; simp at hk
  · exact h

set_option maxHeartbeats 2000000 in
theorem eqBytes_any {w : World} {va vb : Value} {a b : List UInt8} (ha : Rd w va a) (hb : Rd w vb b) (hla : a.length ≤ 9223372036854775807) :
    Calls Tryz.prog 131 #[va, vb] w fun e w' => e = .returned (.bool (decide (a = b))) ∧ Gr w w' := by
  have h1 := len_rd (ty := 3) ha
  have h2 := len_rd (ty := 3) hb
  have HA := Lib.hid ha
  have HB := Lib.hid hb
  clear ha hb
  by_cases hl : a.length = b.length
  · have HL := Lib.hid hl
    have hne : ((a.length : Int) != (b.length : Int)) = false := by rw [hl]; simp
    clear hl
    go_enter Tryz.func131, Tryz.ntmps131
    go_wp2
    clear h1 h2 hne
    go_loopw [5] (fun i wr => ∃ k : Nat, k ≤ a.length ∧ i = .int .i64 k ∧ a.take k = b.take k ∧ Gr w wr) (fun i _ => a.length - (intOf i).toNat)
    case atStart => exact ⟨0, Nat.zero_le _, rfl, rfl, (by repeat (first | (with_reducible exact Gr.refl _) | (with_reducible assumption) | (with_reducible refine Gr.alloc ?_ _) | (with_reducible refine Gr.drew ?_) | (with_reducible refine Gr.drewN ?_ _) | (with_reducible refine Gr.trans ?_ (by assumption)) | (with_reducible refine Gr.setCell ?_ (by first | exact Nat.le_refl _ | omega | (simp; done) | (simp; omega)) _)))⟩
    case round =>
      obtain ⟨k, hk, rfl, hpre, hg⟩ := hrel
      have HP := Lib.hid hpre
      clear hpre
      have h1 := len_rd (ty := 3) (HA.out.gr hg)
      by_cases hlt : k < a.length
      · obtain ⟨bk, of, cp, rfl, q1, q2, q3, q4⟩ := (HA.out.gr hg).cells hlt
        obtain ⟨bk2, of2, cp2, rfl, r1, r2, r3, r4⟩ := (HB.out.gr hg).cells (k := k) (by rw [← HL.out]; exact hlt)
        have c1 := q4 k hlt
        have c2 := r4 k (by rw [← HL.out]; exact hlt)
        have hlb : k < b.length := by rw [← HL.out]; exact hlt
        clear q4 r4
        unfold maxLen at q2 r2
        by_cases he : a[k] = b[k]
        · have hz := u8_int_eq he
          have HE := Lib.hid he
          clear he
          go_wp2
          go_region
          go_wp2
          go_roundw
          case rel => exact ⟨k + 1, by omega, by go_num, by rw [List.take_succ_eq_append_getElem hlt, List.take_succ_eq_append_getElem hlb, HP.out, HE.out], (by repeat (first | (with_reducible exact Gr.refl _) | (with_reducible assumption) | (with_reducible refine Gr.alloc ?_ _) | (with_reducible refine Gr.drew ?_) | (with_reducible refine Gr.drewN ?_ _) | (with_reducible refine Gr.trans ?_ (by assumption)) | (with_reducible refine Gr.setCell ?_ (by first | exact Nat.le_refl _ | omega | (simp; done) | (simp; omega)) _)))⟩
          case measure => simp [intOf]; omega
        · have hz := u8_int_ne he
          have HE := Lib.hid he
          clear he
          go_wp2
          go_region
          go_wp2
          go_ret
          exact ⟨ret_bool (by symm; rw [decide_eq_false_iff_not]; intro e; subst e; exact HE.out rfl), (by repeat (first | (with_reducible exact Gr.refl _) | (with_reducible assumption) | (with_reducible refine Gr.alloc ?_ _) | (with_reducible refine Gr.drew ?_) | (with_reducible refine Gr.drewN ?_ _) | (with_reducible refine Gr.trans ?_ (by assumption)) | (with_reducible refine Gr.setCell ?_ (by first | exact Nat.le_refl _ | omega | (simp; done) | (simp; omega)) _)))⟩
      · obtain rfl : k = a.length := by omega
        go_wp2
        go_ret
        exact ⟨ret_bool (by symm; rw [decide_eq_true_iff]; have := HP.out; rwa [List.take_length, HL.out, List.take_length] at this), hg⟩
  · have HL := Lib.hid hl
    have hne : ((a.length : Int) != (b.length : Int)) = true := by rw [bne_iff_ne]; intro e; exact hl (by exact_mod_cast e)
    clear hl
    go_enter Tryz.func131, Tryz.ntmps131
    go_wp2
    go_ret
    exact ⟨ret_bool (by symm; rw [decide_eq_false_iff_not]; intro e; exact HL.out (by rw [e])), (by repeat (first | (with_reducible exact Gr.refl _) | (with_reducible assumption) | (with_reducible refine Gr.alloc ?_ _) | (with_reducible refine Gr.drew ?_) | (with_reducible refine Gr.drewN ?_ _) | (with_reducible refine Gr.trans ?_ (by assumption)) | (with_reducible refine Gr.setCell ?_ (by first | exact Nat.le_refl _ | omega | (simp; done) | (simp; omega)) _)))⟩

theorem copyBytes_any {w : World} {v : Value} {l : List UInt8} (h : Rd w v l) (hlen : l.length ≤ 140737488355328) :
    Calls Tryz.prog 118 #[v] w fun e w' => ∃ v', e = .returned v' ∧ Own w' w.heap.size v' l ∧ Gr w w' := by
  have H := Lib.hid h
  clear h
  go_enter Tryz.func118, Tryz.ntmps118
  go_wp2_with (at_builtin; refine app_rd (N := w.heap.size) (by simp) (by rfl) _ _ (by rfl) [] l (by rfl) (by rfl) (Own.nil _ _) H.out (by simp; omega) ?_; intro v1 w1 hown1 hgb1)
  have hg1 := (Own.nil w w.heap.size).grew (Gr.refl w) hgb1
  go_ret
  exact ⟨v1, rfl, by simpa using hown1, hg1⟩

theorem takeN_cons (m : UInt8) (t : List UInt8) : takeN (m :: t) = if 7 < m.toNat then (0, [], 4) else if t.length < m.toNat then (0, [], 3) else if (t.take m.toNat).head? = some 0 ∨ 9007199254740991 < numN (t.take m.toNat) then (0, [], 4) else (numN (t.take m.toNat), t.drop m.toNat, 0) := rfl
theorem numT_eq {m : UInt8} {L : List UInt8} (hL : L.length = m.toNat) : decide (numT (numN L) = m :: L) = decide (L.head? ≠ some 0) := by
  rw [decide_eq_decide]
  constructor
  · intro h
    unfold numT at h
    exact (numD_numN_iff L).1 (List.cons.inj h).2
  · intro h
    unfold numT
    rw [(numD_numN_iff L).2 h, hL]
    simp

set_option maxHeartbeats 4000000 in
theorem refTake_cons {w : World} {v : Value} {m : UInt8} {t : List UInt8} (h : Rd w v (m :: t)) (hlen : t.length ≤ 140737488355320) :
    Calls Tryz.prog 117 #[v] w fun e w' => ∃ v', e = .returned (.tuple #[.int .i64 (takeN (m :: t)).1, v', .int .i64 (takeN (m :: t)).2.2]) ∧ Own w' w.heap.size v' (takeN (m :: t)).2.1 ∧ Gr w w' := by
  obtain ⟨blk, off, cap, rfl, hc, hcm, hb, c0, cs⟩ := h.head
  have hm := m.toNat_lt
  have hcb : t.length + 1 ≤ 9223372036854775807 := by unfold maxLen at hcm; omega
  rw [takeN_cons]
  by_cases h7 : 7 < m.toNat
  · rw [if_pos h7]
    clear cs h hcm
    go_enter Tryz.func117, Tryz.ntmps117
    go_wp2
    go_ret3
    exact ⟨_, rfl, Own.nil _ _, Gr.refl _⟩
  rw [if_neg h7]
  by_cases hl : t.length < m.toNat
  · rw [if_pos hl]
    clear cs h hcm
    go_enter Tryz.func117, Tryz.ntmps117
    go_wp2
    go_ret3
    exact ⟨_, rfl, Own.nil _ _, Gr.refl _⟩
  rw [if_neg hl]
  have hp := Rd.parts (t := m :: t) (by simpa using hc) hcm hb (fun j hj => by
    cases j with
    | zero => exact c0
    | succ j => have := cs j (by simpa using hj); rw [show off + (j + 1) = off + 1 + j by omega]; simpa using this) (1 + m.toNat) (by simp; omega)
  have hp1 : Rd w (.slice (some ⟨blk, off, none⟩) (1 + m.toNat) cap) (m :: t.take m.toNat) := by
    have := hp.1
    rwa [show 1 + m.toNat = m.toNat + 1 by omega, List.take_succ_cons, show m.toNat + 1 = 1 + m.toNat by omega] at this
  have hp2 : Rd w (.slice (if cap = 1 + m.toNat then some ⟨blk, off, none⟩ else some ⟨blk, off + (1 + m.toNat), none⟩) (t.length + 1 - (1 + m.toNat)) (cap - (1 + m.toNat))) (t.drop m.toNat) := by
    have := hp.2
    rwa [show (m :: t).drop (1 + m.toNat) = t.drop m.toNat by rw [show 1 + m.toNat = m.toNat + 1 by omega, List.drop_succ_cons], List.length_cons] at this
  have hL : (t.take m.toNat).length = m.toNat := by rw [List.length_take]; omega
  have hnt := numT_eq hL
  have hb7 := numN_lt56 (t.take m.toNat) (by omega)
  have hNT := Lib.hid hnt
  have hP1 := Lib.hid hp1
  have hP2 := Lib.hid hp2
  have CS := Lib.hid cs
  have HL := Lib.hid hL
  clear cs h hcm hp hp1 hp2 hnt hL
  by_cases h9 : 9007199254740991 < numN (t.take m.toNat)
  · rw [if_pos (.inr h9)]
    have he : numE (numN (t.take m.toNat) : Int) = 2 := by unfold numE; rw [if_neg (by omega)]
    have HE := Lib.hid he
    clear h9 he hb7
    go_enter Tryz.func117, Tryz.ntmps117
    go_wp2
    go_loop [6, 7] (fun n i => ∃ (k : Nat) (z : Int), k ≤ m.toNat ∧ i = .int .i64 (1 + k) ∧ n = .int .i64 z ∧ Hid (z = numN (t.take k))) (fun _ i => 9 - (intOf i).toNat)
    case atStart => exact ⟨0, 0, Nat.zero_le _, rfl, rfl, Lib.hid rfl⟩
    case round =>
      obtain ⟨k, z, hk, rfl, rfl, HZ⟩ := hrel
      by_cases hlt : k < m.toNat
      · have hcell := CS.out k (by omega)
        rw [Nat.add_assoc] at hcell
        have hz0 : 0 ≤ z := by rw [HZ.out]; omega
        have hz1 : z < 281474976710656 := by rw [HZ.out]; exact numN_lt48 (t.take k) (by rw [List.length_take]; omega)
        go_wp2
        go_round
        case rel => exact ⟨k + 1, _, by omega, by go_num, rfl, Lib.hid (by have hz := HZ.out; have hc := t[k].toNat_lt; rw [numN_take t k (by omega)]; unfold wrap64; omega)⟩
        case measure => simp [intOf]; omega
      · obtain rfl : k = m.toNat := by omega
        have hz : z = numN (t.take m.toNat) := HZ.out
        subst hz
        have he := HE.out
        go_wp2_with (go_at_call 102; refine (refNum_any _ _).mono ?_; rintro e w1 ⟨v1, rfl, hown1, hg1⟩; clear hown1)
        go_ret3
        exact ⟨_, rfl, Own.nil _ _, hg1⟩
  · have hE0 : numE (numN (t.take m.toNat) : Int) = 0 := by unfold numE; rw [if_pos (by omega)]
    have hW0 : numW (numN (t.take m.toNat) : Int) = numT (numN (t.take m.toNat)) := by unfold numW; rw [if_pos (by omega)]; simp
    have HE := Lib.hid hE0
    have HW := Lib.hid hW0
    clear hE0 hW0
    have HNL : Hid (numN (t.take m.toNat) ≤ 9007199254740991) := Lib.hid (by omega)
    by_cases hh : (t.take m.toNat).head? = some 0
    · rw [if_pos (.inl hh)]
      have hdec : decide (numT (numN (t.take m.toNat)) = m :: t.take m.toNat) = false := by rw [hNT.out, hh]; simp
      have HD := Lib.hid hdec
      clear hh hdec h9 hb7
      go_enter Tryz.func117, Tryz.ntmps117
      go_wp2
      go_loop [6, 7] (fun n i => ∃ (k : Nat) (z : Int), k ≤ m.toNat ∧ i = .int .i64 (1 + k) ∧ n = .int .i64 z ∧ Hid (z = numN (t.take k))) (fun _ i => 9 - (intOf i).toNat)
      case atStart => exact ⟨0, 0, Nat.zero_le _, rfl, rfl, Lib.hid rfl⟩
      case round =>
       obtain ⟨k, z, hk, rfl, rfl, HZ⟩ := hrel
       by_cases hlt : k < m.toNat
       · have hcell := CS.out k (by omega)
         rw [Nat.add_assoc] at hcell
         have hz0 : 0 ≤ z := by rw [HZ.out]; omega
         have hz1 : z < 281474976710656 := by rw [HZ.out]; exact numN_lt48 (t.take k) (by rw [List.length_take]; omega)
         go_wp2
         go_round
         case rel => exact ⟨k + 1, _, by omega, by go_num, rfl, Lib.hid (by have hz := HZ.out; have hc := t[k].toNat_lt; rw [numN_take t k (by omega)]; unfold wrap64; omega)⟩
         case measure => simp [intOf]; omega
       · obtain rfl : k = m.toNat := by omega
         have hz : z = numN (t.take m.toNat) := HZ.out
         subst hz
         have he := HE.out
         go_wp2_with (first
           | (go_at_call 102; refine (refNum_any _ _).mono ?_; rintro e w1 ⟨v1, rfl, hown1, hg1⟩; (have hr1 := Lib.hid hown1.rd); clear hown1)
           | (go_at_call 131; refine (eqBytes_any hr1.out (hP1.out.gr (by repeat (first | (with_reducible exact Gr.refl _) | (with_reducible assumption) | (with_reducible refine Gr.alloc ?_ _) | (with_reducible refine Gr.drew ?_) | (with_reducible refine Gr.drewN ?_ _) | (with_reducible refine Gr.trans ?_ (by assumption)) | (with_reducible refine Gr.setCell ?_ (by first | exact Nat.le_refl _ | omega | (simp; done) | (simp; omega)) _)))) (by rw [HW.out]; have := numD_le7 HNL.out; simp [numT]; omega)).mono ?_; rintro e w2 ⟨rfl, hg2⟩; have hd := HD.out; rw [← HW.out] at hd))
         go_ret3
         exact ⟨_, rfl, Own.nil _ _, (by repeat (first | (with_reducible exact Gr.refl _) | (with_reducible assumption) | (with_reducible refine Gr.alloc ?_ _) | (with_reducible refine Gr.drew ?_) | (with_reducible refine Gr.drewN ?_ _) | (with_reducible refine Gr.trans ?_ (by assumption)) | (with_reducible refine Gr.setCell ?_ (by first | exact Nat.le_refl _ | omega | (simp; done) | (simp; omega)) _)))⟩
    · rw [if_neg (by rintro (h | h); exact hh h; exact h9 h)]
      have hdec : decide (numT (numN (t.take m.toNat)) = m :: t.take m.toNat) = true := by rw [hNT.out]; simpa using hh
      have HD := Lib.hid hdec
      clear hh hdec h9 hb7
      go_enter Tryz.func117, Tryz.ntmps117
      go_wp2
      go_loop [6, 7] (fun n i => ∃ (k : Nat) (z : Int), k ≤ m.toNat ∧ i = .int .i64 (1 + k) ∧ n = .int .i64 z ∧ Hid (z = numN (t.take k))) (fun _ i => 9 - (intOf i).toNat)
      case atStart => exact ⟨0, 0, Nat.zero_le _, rfl, rfl, Lib.hid rfl⟩
      case round =>
       obtain ⟨k, z, hk, rfl, rfl, HZ⟩ := hrel
       by_cases hlt : k < m.toNat
       · have hcell := CS.out k (by omega)
         rw [Nat.add_assoc] at hcell
         have hz0 : 0 ≤ z := by rw [HZ.out]; omega
         have hz1 : z < 281474976710656 := by rw [HZ.out]; exact numN_lt48 (t.take k) (by rw [List.length_take]; omega)
         go_wp2
         go_round
         case rel => exact ⟨k + 1, _, by omega, by go_num, rfl, Lib.hid (by have hz := HZ.out; have hc := t[k].toNat_lt; rw [numN_take t k (by omega)]; unfold wrap64; omega)⟩
         case measure => simp [intOf]; omega
       · obtain rfl : k = m.toNat := by omega
         have hz : z = numN (t.take m.toNat) := HZ.out
         subst hz
         have he := HE.out
         go_wp2_with (first
           | (go_at_call 102; refine (refNum_any _ _).mono ?_; rintro e w1 ⟨v1, rfl, hown1, hg1⟩; (have hr1 := Lib.hid hown1.rd); clear hown1)
           | (go_at_call 131; refine (eqBytes_any hr1.out (hP1.out.gr (by repeat (first | (with_reducible exact Gr.refl _) | (with_reducible assumption) | (with_reducible refine Gr.alloc ?_ _) | (with_reducible refine Gr.drew ?_) | (with_reducible refine Gr.drewN ?_ _) | (with_reducible refine Gr.trans ?_ (by assumption)) | (with_reducible refine Gr.setCell ?_ (by first | exact Nat.le_refl _ | omega | (simp; done) | (simp; omega)) _)))) (by rw [HW.out]; have := numD_le7 HNL.out; simp [numT]; omega)).mono ?_; rintro e w2 ⟨rfl, hg2⟩; have hd := HD.out; rw [← HW.out] at hd))
         all_goals
           have z := hP2.out.gr (Gr.trans hg1 hg2)
           first | rw [if_pos (by omega), show cap - (1 + m.toNat) = 0 by omega] at z | rw [if_neg (by omega)] at z
           refine (copyBytes_any (z.gr (by repeat (first | (with_reducible exact Gr.refl _) | (with_reducible assumption) | (with_reducible refine Gr.alloc ?_ _) | (with_reducible refine Gr.drew ?_) | (with_reducible refine Gr.drewN ?_ _) | (with_reducible refine Gr.trans ?_ (by assumption)) | (with_reducible refine Gr.setCell ?_ (by first | exact Nat.le_refl _ | omega | (simp; done) | (simp; omega)) _)))) (by simp; omega)).mono ?_
           rintro e w3 ⟨v3, rfl, hown3, hg3⟩
           go_wp2
           go_ret3
           exact ⟨v3, rfl, hown3.mono (Gr.trans hg1 hg2).size, (by repeat (first | (with_reducible exact Gr.refl _) | (with_reducible assumption) | (with_reducible refine Gr.alloc ?_ _) | (with_reducible refine Gr.drew ?_) | (with_reducible refine Gr.drewN ?_ _) | (with_reducible refine Gr.trans ?_ (by assumption)) | (with_reducible refine Gr.setCell ?_ (by first | exact Nat.le_refl _ | omega | (simp; done) | (simp; omega)) _)))⟩

theorem refTakeNum_any {w : World} {v : Value} {l : List UInt8} (h : Rd w v l) (hlen : l.length ≤ 140737488355320) :
    Calls Tryz.prog 117 #[v] w fun e w' => ∃ v', e = .returned (.tuple #[.int .i64 (takeN l).1, v', .int .i64 (takeN l).2.2]) ∧ Own w' w.heap.size v' (takeN l).2.1 ∧ Gr w w' := by
  cases l with
  | nil =>
    rcases h with ⟨rfl, _⟩ | ⟨blk, off, cap, rfl, h2, h3, h4, h5⟩
    · go_enter Tryz.func117, Tryz.ntmps117
      go_wp2
      go_ret3
      exact ⟨_, rfl, Own.nil _ _, Gr.refl _⟩
    · go_enter Tryz.func117, Tryz.ntmps117
      go_wp2
      go_ret3
      exact ⟨_, rfl, Own.nil _ _, Gr.refl _⟩
  | cons m t => exact refTake_cons h (by simp at hlen; omega)

set_option maxHeartbeats 4000000 in
theorem refTakeStr_any {w : World} {v : Value} {l : List UInt8} (h : Rd w v l) (hlen : l.length ≤ 140737488355320) :
    Calls Tryz.prog 96 #[v, .int .i64 64] w fun e w' => ∃ v', e = .returned (.tuple #[.string ⟨(takeS l).1.toArray⟩, v', .int .i64 (takeS l).2.2]) ∧ Own w' w.heap.size v' (takeS l).2.1 ∧ Gr w w' := by
  have hl := takeN_length l
  have H := Lib.hid (refTakeNum_any h hlen)
  clear h
  unfold takeS
  by_cases he : (takeN l).2.2 = 0
  · rw [if_neg (by simpa using he)]
    rw [he] at H
    by_cases h64 : 64 < (takeN l).1
    · rw [if_pos h64]
      go_enter Tryz.func96, Tryz.ntmps96
      go_wp2_with (go_at_call 117; refine H.out.mono ?_; rintro e w1 ⟨v1, rfl, hr1, hg1⟩)
      go_ret3
      exact ⟨_, rfl, Own.nil _ _, (by repeat (first | (with_reducible exact Gr.refl _) | (with_reducible assumption) | (with_reducible refine Gr.alloc ?_ _) | (with_reducible refine Gr.drew ?_) | (with_reducible refine Gr.drewN ?_ _) | (with_reducible refine Gr.trans ?_ (by assumption)) | (with_reducible refine Gr.setCell ?_ (by first | exact Nat.le_refl _ | omega | (simp; done) | (simp; omega)) _)))⟩
    rw [if_neg h64]
    by_cases hs : (takeN l).2.1.length < (takeN l).1
    · rw [if_pos hs]
      go_enter Tryz.func96, Tryz.ntmps96
      go_wp2_with (go_at_call 117; refine H.out.mono ?_; rintro e w1 ⟨v1, rfl, hr0, hg1⟩; (have hr1 := hr0.rd); clear hr0; have hln := len_rd (ty := 3) hr1)
      go_ret3
      exact ⟨_, rfl, Own.nil _ _, (by repeat (first | (with_reducible exact Gr.refl _) | (with_reducible assumption) | (with_reducible refine Gr.alloc ?_ _) | (with_reducible refine Gr.drew ?_) | (with_reducible refine Gr.drewN ?_ _) | (with_reducible refine Gr.trans ?_ (by assumption)) | (with_reducible refine Gr.setCell ?_ (by first | exact Nat.le_refl _ | omega | (simp; done) | (simp; omega)) _)))⟩
    rw [if_neg hs]
    generalize (takeN l).1 = n at H hs h64 ⊢
    generalize (takeN l).2.1 = r at H hs hl ⊢
    go_enter Tryz.func96, Tryz.ntmps96
    go_wp2_with (go_at_call 117; refine H.out.mono ?_; rintro e w1 ⟨v1, rfl, hr0, hg1⟩; (have hr1 := hr0.rd); clear hr0; have hln := len_rd (ty := 3) hr1)
    rcases hr1 with ⟨rfl, rfl⟩ | ⟨blk, off, cap, rfl, q1, q2, q3, q4⟩
    · have hn : n = 0 := by simpa using hs
      subst hn
      have hc0 := conv_rd (Rd.nil w1.drew)
      go_region_with (go_at_call 118; refine (copyBytes_any (Rd.nil _) (by simp)).mono ?_; rintro e w2 ⟨v2, rfl, hown2, hg2⟩; have hc2 := conv_rd (Rd.nil w2))
      all_goals (go_wp2; go_ret3; exact ⟨v2, rfl, by simpa using hown2.mono hg1.size, (by repeat (first | (with_reducible exact Gr.refl _) | (with_reducible assumption) | (with_reducible refine Gr.alloc ?_ _) | (with_reducible refine Gr.drew ?_) | (with_reducible refine Gr.drewN ?_ _) | (with_reducible refine Gr.trans ?_ (by assumption)) | (with_reducible refine Gr.setCell ?_ (by first | exact Nat.le_refl _ | omega | (simp; done) | (simp; omega)) _)))⟩)
    · have hp := Rd.parts q1 q2 q3 q4 n (by omega)
      have hc1 := conv_rd (hp.1.gr (Gr.refl w1).drew)
      have hr2 := Lib.hid hp.2
      have hr3 := Lib.hid hp.1
      clear q4 hp
      by_cases hcap : cap = n
      · subst hcap
        simp only [if_true, eq_self_iff_true, Nat.sub_self] at hr2
        have hz0 : r.length - cap = 0 := by omega
        rw [hz0] at hr2
        go_region_with (go_at_call 118; refine (copyBytes_any (hr2.out.gr (Gr.refl w1).drew) (by simp; omega)).mono ?_; rintro e w2 ⟨v2, rfl, hown2, hg2⟩; have hc2 := conv_rd ((hr3.out.gr (Gr.refl w1).drew).gr hg2))
        all_goals (go_wp2; go_ret3; exact ⟨v2, rfl, hown2.mono hg1.size, (by repeat (first | (with_reducible exact Gr.refl _) | (with_reducible assumption) | (with_reducible refine Gr.alloc ?_ _) | (with_reducible refine Gr.drew ?_) | (with_reducible refine Gr.drewN ?_ _) | (with_reducible refine Gr.trans ?_ (by assumption)) | (with_reducible refine Gr.setCell ?_ (by first | exact Nat.le_refl _ | omega | (simp; done) | (simp; omega)) _)))⟩)
      · rw [if_neg hcap] at hr2
        go_region_with (go_at_call 118; refine (copyBytes_any (hr2.out.gr (Gr.refl w1).drew) (by simp; omega)).mono ?_; rintro e w2 ⟨v2, rfl, hown2, hg2⟩; have hc2 := conv_rd ((hr3.out.gr (Gr.refl w1).drew).gr hg2))
        all_goals (go_wp2; go_ret3; exact ⟨v2, rfl, hown2.mono hg1.size, (by repeat (first | (with_reducible exact Gr.refl _) | (with_reducible assumption) | (with_reducible refine Gr.alloc ?_ _) | (with_reducible refine Gr.drew ?_) | (with_reducible refine Gr.drewN ?_ _) | (with_reducible refine Gr.trans ?_ (by assumption)) | (with_reducible refine Gr.setCell ?_ (by first | exact Nat.le_refl _ | omega | (simp; done) | (simp; omega)) _)))⟩)
  · rw [if_pos (by simpa using he)]
    generalize (takeN l).2.2 = q at H he
    have hq : (q != 0) = true := by simpa using he
    go_enter Tryz.func96, Tryz.ntmps96
    go_wp2_with (go_at_call 117; refine H.out.mono ?_; rintro e w1 ⟨v1, rfl, hr1, hg1⟩)
    go_ret3
    exact ⟨_, rfl, Own.nil _ _, (by repeat (first | (with_reducible exact Gr.refl _) | (with_reducible assumption) | (with_reducible refine Gr.alloc ?_ _) | (with_reducible refine Gr.drew ?_) | (with_reducible refine Gr.drewN ?_ _) | (with_reducible refine Gr.trans ?_ (by assumption)) | (with_reducible refine Gr.setCell ?_ (by first | exact Nat.le_refl _ | omega | (simp; done) | (simp; omega)) _)))⟩
end Go.Proofs.YthgecojbggoniaaGreatDoor
