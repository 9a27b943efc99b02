/- Layer 7: Bring, EqBytes, CopyBytes; has. -/
import Derived.Test.YtadbcikabpbogaaDskT
import Derived.RegionTactic
import Derived.ChangeAlike
namespace Go.Proofs.Ytadbcikabpbogaa
open Go.RowKit Go.Maps
set_option maxRecDepth 100000
set_option linter.unusedVariables false
set_option linter.unusedSimpArgs false

theorem u8_int_ne {a b : UInt8} (h : a ≠ b) : ((a.toNat : Int) != (b.toNat : Int)) = true := by
  rw [bne_iff_ne]
  intro e
  exact h (UInt8.toNat_inj.1 (by exact_mod_cast e))
theorem u8_int_eq {a b : UInt8} (h : a = b) : ((a.toNat : Int) != (b.toNat : Int)) = false := by
  subst h; simp
theorem Rd.cells {w : World} {v : Value} {l : List UInt8} (h : Rd w v l) {k : Nat} (hk : k < l.length) : ∃ blk off cap, v = .slice (some ⟨blk, off, none⟩) l.length cap ∧ l.length ≤ cap ∧ cap ≤ maxLen ∧ blk < w.heap.size ∧
    ∀ j (h : j < l.length), w.cell? ⟨blk, off + j, none⟩ = some (.int .u8 l[j].toNat) := by
  rcases h with ⟨h, _⟩ | h
  · subst h; simp at hk
  · exact h

set_option maxHeartbeats 2000000 in
theorem eqBytes_any {w : World} {va vb : Value} {a b : List UInt8} (ha : Rd w va a) (hb : Rd w vb b) (hla : a.length ≤ 9223372036854775807) :
    Calls Try.prog 26 #[va, vb] w fun e w' => e = .returned (.bool (decide (a = b))) ∧ Gr w w' := by
  have h1 := len_rd (ty := 3) ha
  have h2 := len_rd (ty := 3) hb
  have HA := Lib.hid ha
  have HB := Lib.hid hb
  clear ha hb
  by_cases hl : a.length = b.length
  · have HL := Lib.hid hl
    have hne : ((a.length : Int) != (b.length : Int)) = false := by rw [hl]; simp
    clear hl
    go_enter Try.func26, Try.ntmps26
    go_wp2
    clear h1 h2 hne
    go_loopw [5] (fun i wr => ∃ k : Nat, k ≤ a.length ∧ i = .int .i64 k ∧ a.take k = b.take k ∧ Gr w wr) (fun i _ => a.length - (intOf i).toNat)
    case atStart => exact ⟨0, Nat.zero_le _, rfl, rfl, (by repeat (first | (with_reducible exact Gr.refl _) | (with_reducible assumption) | (with_reducible refine Gr.alloc ?_ _) | (with_reducible refine Gr.drew ?_) | (with_reducible refine Gr.drewN ?_ _) | (with_reducible refine Gr.trans ?_ (by assumption)) | (with_reducible refine Gr.setCell ?_ (by first | exact Nat.le_refl _ | omega | (simp; done) | (simp; omega)) _)))⟩
    case round =>
      obtain ⟨k, hk, rfl, hpre, hg⟩ := hrel
      have HP := Lib.hid hpre
      clear hpre
      have h1 := len_rd (ty := 3) (HA.out.gr hg)
      by_cases hlt : k < a.length
      · obtain ⟨bk, of, cp, rfl, q1, q2, q3, q4⟩ := (HA.out.gr hg).cells hlt
        obtain ⟨bk2, of2, cp2, rfl, r1, r2, r3, r4⟩ := (HB.out.gr hg).cells (k := k) (by rw [← HL.out]; exact hlt)
        have c1 := q4 k hlt
        have c2 := r4 k (by rw [← HL.out]; exact hlt)
        have hlb : k < b.length := by rw [← HL.out]; exact hlt
        clear q4 r4
        unfold maxLen at q2 r2
        by_cases he : a[k] = b[k]
        · have hz := u8_int_eq he
          have HE := Lib.hid he
          clear he
          go_wp2
          go_region
          go_wp2
          go_roundw
          case rel => exact ⟨k + 1, by omega, by go_num, by rw [List.take_succ_eq_append_getElem hlt, List.take_succ_eq_append_getElem hlb, HP.out, HE.out], (by repeat (first | (with_reducible exact Gr.refl _) | (with_reducible assumption) | (with_reducible refine Gr.alloc ?_ _) | (with_reducible refine Gr.drew ?_) | (with_reducible refine Gr.drewN ?_ _) | (with_reducible refine Gr.trans ?_ (by assumption)) | (with_reducible refine Gr.setCell ?_ (by first | exact Nat.le_refl _ | omega | (simp; done) | (simp; omega)) _)))⟩
          case measure => simp [intOf]; omega
        · have hz := u8_int_ne he
          have HE := Lib.hid he
          clear he
          go_wp2
          go_region
          go_wp2
          go_ret
          exact ⟨ret_bool (by symm; rw [decide_eq_false_iff_not]; intro e; subst e; exact HE.out rfl), (by repeat (first | (with_reducible exact Gr.refl _) | (with_reducible assumption) | (with_reducible refine Gr.alloc ?_ _) | (with_reducible refine Gr.drew ?_) | (with_reducible refine Gr.drewN ?_ _) | (with_reducible refine Gr.trans ?_ (by assumption)) | (with_reducible refine Gr.setCell ?_ (by first | exact Nat.le_refl _ | omega | (simp; done) | (simp; omega)) _)))⟩
      · obtain rfl : k = a.length := by omega
        go_wp2
        go_ret
        exact ⟨ret_bool (by symm; rw [decide_eq_true_iff]; have := HP.out; rwa [List.take_length, HL.out, List.take_length] at this), hg⟩
  · have HL := Lib.hid hl
    have hne : ((a.length : Int) != (b.length : Int)) = true := by rw [bne_iff_ne]; intro e; exact hl (by exact_mod_cast e)
    clear hl
    go_enter Try.func26, Try.ntmps26
    go_wp2
    go_ret
    exact ⟨ret_bool (by symm; rw [decide_eq_false_iff_not]; intro e; exact HL.out (by rw [e])), (by repeat (first | (with_reducible exact Gr.refl _) | (with_reducible assumption) | (with_reducible refine Gr.alloc ?_ _) | (with_reducible refine Gr.drew ?_) | (with_reducible refine Gr.drewN ?_ _) | (with_reducible refine Gr.trans ?_ (by assumption)) | (with_reducible refine Gr.setCell ?_ (by first | exact Nat.le_refl _ | omega | (simp; done) | (simp; omega)) _)))⟩

theorem copyBytes_any {w : World} {v : Value} {l : List UInt8} (h : Rd w v l) (hlen : l.length ≤ 140737488355328) :
    Calls Try.prog 21 #[v] w fun e w' => ∃ v', e = .returned v' ∧ Own w' w.heap.size v' l ∧ Gr w w' := by
  have H := Lib.hid h
  clear h
  go_enter Try.func21, Try.ntmps21
  go_wp2_with (at_builtin; refine app_rd (N := w.heap.size) (by simp) (by rfl) _ _ (by rfl) [] l (by rfl) (by rfl) (Own.nil _ _) H.out (by simp; omega) ?_; intro v1 w1 hown1 hgb1)
  have hg1 := (Own.nil w w.heap.size).grew (Gr.refl w) hgb1
  go_ret
  exact ⟨v1, rfl, by simpa using hown1, hg1⟩

def bringI (i n : Int) : Int := if n ≤ 0 then 0 else i % n
theorem bring_neg {i n : Int} (hn : 0 < n) (hn2 : n ≤ 9223372036854775807) (h : i.tmod n < 0) : wrap64 (i.tmod n + n) = i % n := by
  have h3 := Int.emod_nonneg i (show n ≠ 0 by omega)
  have h4 := Int.emod_lt_of_pos i hn
  have h2 : i.tmod n = i % n - n := by
    rw [Int.tmod_eq_emod] at h ⊢
    split at h <;> rename_i hc
    · omega
    · rw [if_neg hc, Int.natAbs_of_nonneg (by omega)]
  rw [h2]
  unfold wrap64
  omega
theorem bring_pos {i n : Int} (hn : 0 < n) (h : 0 ≤ i.tmod n) : i.tmod n = i % n := by
  rw [Int.tmod_eq_emod] at h ⊢
  have := Int.emod_nonneg i (show n ≠ 0 by omega)
  have := Int.emod_lt_of_pos i hn
  split at h <;> rename_i hc
  · rw [if_pos hc]; omega
  · rw [if_neg hc]; omega

theorem bring_any (i n : Int) (hi : -9223372036854775808 ≤ i ∧ i ≤ 9223372036854775807) (hn : n ≤ 9223372036854775807) (w : World) :
    Calls Try.prog 11 #[.int .i64 i, .int .i64 n] w fun e w' => e = .returned (.int .i64 (bringI i n)) ∧ w = w' := by
  obtain ⟨hi1, hi2⟩ := hi
  go_enter Try.func11, Try.ntmps11
  go_wp2
  · go_ret; exact ⟨ret_int (by unfold bringI; rw [if_pos (by assumption)]), rfl⟩
  · go_ret; exact ⟨ret_int (by unfold bringI; rw [if_neg (by omega)]; exact bring_neg (by assumption) hn (by assumption)), rfl⟩
  · go_ret; exact ⟨ret_int (by unfold bringI; rw [if_neg (by omega)]; exact bring_pos (by assumption) (by assumption)), rfl⟩

theorem bring_bd (i : Int) {n : Int} (hn : 0 < n) : 0 ≤ bringI i n ∧ bringI i n < n := by
  unfold bringI
  rw [if_neg (by omega)]
  exact ⟨Int.emod_nonneg _ (by omega), Int.emod_lt_of_pos _ hn⟩
/-- has -/
theorem has_dk {D N : Nat} {st : DS} {w w1 : World} (h : DK D N st w) (hg : Gr w w1) (s : ByteArray) (hs : s.size ≤ maxLen) {bv : Value} {l : List UInt8} (hl : Rd w1 bv l) :
    Calls Try.prog 22 #[.pointer (some ⟨D, 0, none⟩), .string s, bv] w1 fun e w' => e = .returned (.bool (decide ((st.read s.data.toList).2 = 0) && decide ((st.read s.data.toList).1 = l))) ∧ Gr w1 w' := by
  have HR := Lib.hid (read_dk h hg s hs)
  have hlen := read_len h s.data.toList
  have HL := Lib.hid hl
  obtain ⟨bq, bn, bc, rfl⟩ := hl.slice'
  clear h hg hs hl
  generalize (st.read s.data.toList).1 = rl at *
  generalize (st.read s.data.toList).2 = re at *
  by_cases h0 : re = 0
  · subst h0
    go_enter Try.func22, Try.ntmps22
    go_wp2_with (first | (go_at_call 17; refine HR.out.mono ?_; rintro e w2 ⟨v2, rfl, ho2, hg2⟩) | (go_at_call 26; refine (eqBytes_any ho2.rd (HL.out.gr hg2) (by omega)).mono ?_; rintro e w3 ⟨rfl, hg3⟩))
    go_ret
    exact ⟨ret_bool (by simp), hg2.trans hg3⟩
  · have hz : (re == 0) = false := by simpa using h0
    go_enter Try.func22, Try.ntmps22
    go_wp2_with (first | (go_at_call 17; refine HR.out.mono ?_; rintro e w2 ⟨v2, rfl, ho2, hg2⟩))
    go_ret
    exact ⟨ret_bool (by simp [h0]), hg2⟩
end Go.Proofs.Ytadbcikabpbogaa
