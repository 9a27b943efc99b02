/- Layer 11: whether two intents are the same: both sides; an intent in memory of its own. -/
import Derived.Test.YtpnojkgdjkncbaaDoorCelO
import Derived.RegionTactic
import Derived.ChangeAlike
namespace Go.Proofs.YtpnojkgdjkncbaaDoor
open Go.RowKit
set_option maxRecDepth 100000
set_option linter.unusedVariables false
set_option linter.unusedSimpArgs false

theorem RdR.form {α : Type} {R : World → List Value → α → Prop} {k : Nat} {w : World} {v : Value} {l : List α} (h : RdR R k w v l) : ∃ q c, v = .slice q l.length c := by
  rcases h with ⟨rfl, q, c, rfl, _⟩ | ⟨blk, off, cap, rfl, _⟩
  · exact ⟨q, c, rfl⟩
  · exact ⟨_, _, rfl⟩
theorem RdC.at {w : World} {v : Value} {l : List Chg} (h : RdC w v l) {k : Nat} (hk : k < l.length) : ∃ blk off cap, v = .slice (some ⟨blk, off, none⟩) l.length cap ∧ l.length ≤ cap ∧ cap ≤ maxLen ∧
    w.cell? ⟨blk, off + k * 3, none⟩ = some (.int .i64 l[k].seq) ∧ w.cell? ⟨blk, off + k * 3 + 1, none⟩ = some (.string l[k].value) ∧ w.cell? ⟨blk, off + k * 3 + 2, none⟩ = some (.bool l[k].del) := by
  rcases h with ⟨rfl, _⟩ | ⟨blk, off, cap, h1, h2, h3, h4, h5, h6⟩
  · simp at hk
  · exact ⟨blk, off, cap, h1, h3, h4, RdC.cells h6 hk⟩

set_option maxHeartbeats 4000000 in
theorem equalChg_any {w : World} {va vb : Value} {a b : List Chg} (ha : RdC w va a) (hb : RdC w vb b) (hla : a.length ≤ 9223372036854775807) :
    Calls Tryd.prog 68 #[va, vb] w fun e w' => e = .returned (.bool (eqL eqChg a b)) ∧ Gr w w' := by
  have HA := Lib.hid ha
  have HB := Lib.hid hb
  obtain ⟨qa, ca, hva⟩ := ha.form
  obtain ⟨qb, cb, hvb⟩ := hb.form
  subst hva hvb
  clear ha hb
  by_cases hl : a.length = b.length
  · have HL := Lib.hid hl
    have hne : ((a.length : Int) != (b.length : Int)) = false := by rw [hl]; simp
    clear hl
    go_enter Tryd.func68, Tryd.ntmps68
    go_wp2
    clear hne
    go_loopw [13] (fun i wr => ∃ k : Nat, k ≤ a.length ∧ i = .int .i64 k ∧ Hid (eqL eqChg (a.take k) (b.take k) = true) ∧ Gr w wr) (fun i _ => a.length - (intOf i).toNat)
    case atStart => exact ⟨0, Nat.zero_le _, rfl, Lib.hid rfl, (by repeat (first | (with_reducible exact Gr.refl _) | (with_reducible assumption) | (with_reducible refine Gr.alloc ?_ _) | (with_reducible refine Gr.drew ?_) | (with_reducible refine Gr.drewN ?_ _) | (with_reducible refine Gr.trans ?_ (by assumption)) | (with_reducible refine Gr.setCell ?_ (by first | exact Nat.le_refl _ | omega | (simp; done) | (simp; omega)) _)))⟩
    case round =>
      obtain ⟨k, hk, rfl, HP, hg⟩ := hrel
      by_cases hlt : k < a.length
      · have hlb : k < b.length := by rw [← HL.out]; exact hlt
        obtain ⟨bk, of, cp, e1, q2, q3, c1, c2, c3⟩ := (HA.out.gr hg).at hlt
        obtain ⟨bk2, of2, cp2, e2, r2, r3, d1, d2, d3⟩ := (HB.out.gr hg).at hlb
        injection e1 with e1a e1b e1c
        injection e2 with e2a e2b e2c
        subst e1a e1c e2a e2c
        have HS : Hid (eqL eqChg (a.take (k + 1)) (b.take (k + 1)) = eqChg a[k] b[k]) := Lib.hid (by
          rw [List.take_succ_eq_append_getElem hlt, List.take_succ_eq_append_getElem hlb, eqL_snoc _ _ (by simp; rw [HL.out]), HP.out, Bool.true_and])
        have HF : Hid (eqChg a[k] b[k] = false → eqL eqChg a b = false) := Lib.hid (fun hf => by
          have h7 := HS.out
          rw [hf] at h7
          rw [← List.take_append_drop (k + 1) a, ← List.take_append_drop (k + 1) b]
          exact eqL_app _ _ (by simp; rw [HL.out]) h7)
        generalize a[k] = x at c1 c2 c3 HS HF
        generalize b[k] = y at d1 d2 d3 HS HF
        obtain ⟨s1, v1, l1⟩ := x
        obtain ⟨s2, v2, l2⟩ := y
        have HC : Hid (eqChg ⟨s1, v1, l1⟩ ⟨s2, v2, l2⟩ = ((s1 == s2) && (v1.toList == v2.toList) && (l1 == l2))) := Lib.hid rfl
        simp only at c1 c2 c3 d1 d2 d3
        unfold maxLen at q3 r3
        cases f1 : (s1 == s2) with
        | false =>
          go_wp2
          go_region
          go_wp2
          go_ret
          exact ⟨ret_bool (by symm; exact HF.out (by rw [HC.out]; simp [*])), (by repeat (first | (with_reducible exact Gr.refl _) | (with_reducible assumption) | (with_reducible refine Gr.alloc ?_ _) | (with_reducible refine Gr.drew ?_) | (with_reducible refine Gr.drewN ?_ _) | (with_reducible refine Gr.trans ?_ (by assumption)) | (with_reducible refine Gr.setCell ?_ (by first | exact Nat.le_refl _ | omega | (simp; done) | (simp; omega)) _)))⟩
        | true =>
        cases f2 : (v1.toList == v2.toList) with
        | false =>
          go_wp2
          go_region
          go_wp2
          go_ret
          exact ⟨ret_bool (by symm; exact HF.out (by rw [HC.out]; simp [*])), (by repeat (first | (with_reducible exact Gr.refl _) | (with_reducible assumption) | (with_reducible refine Gr.alloc ?_ _) | (with_reducible refine Gr.drew ?_) | (with_reducible refine Gr.drewN ?_ _) | (with_reducible refine Gr.trans ?_ (by assumption)) | (with_reducible refine Gr.setCell ?_ (by first | exact Nat.le_refl _ | omega | (simp; done) | (simp; omega)) _)))⟩
        | true =>
        cases f3 : (l1 == l2) with
        | false =>
          go_wp2
          go_region
          go_wp2
          go_ret
          exact ⟨ret_bool (by symm; exact HF.out (by rw [HC.out]; simp [*])), (by repeat (first | (with_reducible exact Gr.refl _) | (with_reducible assumption) | (with_reducible refine Gr.alloc ?_ _) | (with_reducible refine Gr.drew ?_) | (with_reducible refine Gr.drewN ?_ _) | (with_reducible refine Gr.trans ?_ (by assumption)) | (with_reducible refine Gr.setCell ?_ (by first | exact Nat.le_refl _ | omega | (simp; done) | (simp; omega)) _)))⟩
        | true =>
          go_wp2
          go_region
          go_wp2
          go_roundw
          case rel => exact ⟨k + 1, by omega, by go_num, Lib.hid (by rw [HS.out, HC.out]; simp [*]), (by repeat (first | (with_reducible exact Gr.refl _) | (with_reducible assumption) | (with_reducible refine Gr.alloc ?_ _) | (with_reducible refine Gr.drew ?_) | (with_reducible refine Gr.drewN ?_ _) | (with_reducible refine Gr.trans ?_ (by assumption)) | (with_reducible refine Gr.setCell ?_ (by first | exact Nat.le_refl _ | omega | (simp; done) | (simp; omega)) _)))⟩
          case measure => simp [intOf]; omega
      · obtain rfl : k = a.length := by omega
        have hP := HP.out
        rw [List.take_length, HL.out, List.take_length] at hP
        have HP2 := Lib.hid hP
        clear hP
        go_wp2
        go_ret
        exact ⟨ret_bool HP2.out.symm, hg⟩
  · have HL := Lib.hid hl
    have hne : ((a.length : Int) != (b.length : Int)) = true := by rw [bne_iff_ne]; intro e; exact hl (by exact_mod_cast e)
    clear hl
    go_enter Tryd.func68, Tryd.ntmps68
    go_wp2
    go_ret
    exact ⟨ret_bool (by rw [eqL_len HL.out]), (by repeat (first | (with_reducible exact Gr.refl _) | (with_reducible assumption) | (with_reducible refine Gr.alloc ?_ _) | (with_reducible refine Gr.drew ?_) | (with_reducible refine Gr.drewN ?_ _) | (with_reducible refine Gr.trans ?_ (by assumption)) | (with_reducible refine Gr.setCell ?_ (by first | exact Nat.le_refl _ | omega | (simp; done) | (simp; omega)) _)))⟩
end Go.Proofs.YtpnojkgdjkncbaaDoor
