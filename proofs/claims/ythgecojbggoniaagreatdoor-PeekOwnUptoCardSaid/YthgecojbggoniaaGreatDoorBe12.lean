/- What the rows stand on, part 12: CelG. Printed by bundle.py out of my texts. -/
import Derived.Test.YthgecojbggoniaaGreatDoorBe02
import Derived.Test.YthgecojbggoniaaGreatDoorBe11
namespace Go.Proofs.YthgecojbggoniaaGreatDoor
open Go.RowKit
set_option maxRecDepth 100000
set_option linter.unusedVariables false
set_option linter.unusedSimpArgs false

theorem Rd.parts {w : World} {blk off cap : Nat} {t : List UInt8} (hc : t.length ≤ cap) (hcm : cap ≤ maxLen) (hb : blk < w.heap.size) (cs : ∀ j (h : j < t.length), w.cell? ⟨blk, off + j, none⟩ = some (.int .u8 t[j].toNat)) (k : Nat) (hk : k ≤ t.length) :
    Rd w (.slice (some ⟨blk, off, none⟩) k cap) (t.take k) ∧ Rd w (.slice (if cap = k then some ⟨blk, off, none⟩ else some ⟨blk, off + k, none⟩) (t.length - k) (cap - k)) (t.drop k) := by
  have hl : (t.take k).length = k := by rw [List.length_take]; omega
  refine ⟨.inr ⟨blk, off, cap, by rw [hl], by omega, hcm, hb, fun j hj => ?_⟩, ?_⟩
  · rw [cs j (by omega)]; simp
  · by_cases h : cap = k
    · rw [if_pos h]
      have hk2 : k = t.length := by omega
      subst hk2
      exact .inr ⟨blk, off, cap - t.length, by simp, by simp, by omega, hb, fun j hj => by simp at hj⟩
    · rw [if_neg h]
      refine .inr ⟨blk, off + k, cap - k, by simp, by simp; omega, by omega, hb, fun j hj => ?_⟩
      simp at hj
      have := cs (k + j) (by omega)
      rw [show off + (k + j) = off + k + j by omega] at this
      rw [this]
      simp

set_option maxHeartbeats 4000000 in
theorem takeStr_any {w : World} {v : Value} {l : List UInt8} (h : Rd w v l) (hlen : l.length ≤ 140737488355328) :
    Calls Tryz.prog 124 #[v, .int .i64 64] w fun e w' => ∃ v', e = .returned (.tuple #[.string ⟨(takeS l).1.toArray⟩, v', .int .i64 (takeS l).2.2]) ∧ Own w' w.heap.size v' (takeS l).2.1 ∧ Gr w w' := by
  have hl := takeN_length l
  have H := Lib.hid (take_any h)
  clear h
  unfold takeS
  by_cases he : (takeN l).2.2 = 0
  · rw [if_neg (by simpa using he)]
    rw [he] at H
    by_cases h64 : 64 < (takeN l).1
    · rw [if_pos h64]
      go_enter Tryz.func124, Tryz.ntmps124
      go_wp2_with (go_at_call 133; refine H.out.mono ?_; rintro e w1 ⟨v1, rfl, hr1, hg1⟩)
      go_ret3
      exact ⟨_, rfl, Own.nil _ _, (by repeat (first | (with_reducible exact Gr.refl _) | (with_reducible assumption) | (with_reducible refine Gr.alloc ?_ _) | (with_reducible refine Gr.drew ?_) | (with_reducible refine Gr.drewN ?_ _) | (with_reducible refine Gr.trans ?_ (by assumption)) | (with_reducible refine Gr.setCell ?_ (by first | exact Nat.le_refl _ | omega | (simp; done) | (simp; omega)) _)))⟩
    rw [if_neg h64]
    by_cases hs : (takeN l).2.1.length < (takeN l).1
    · rw [if_pos hs]
      go_enter Tryz.func124, Tryz.ntmps124
      go_wp2_with (go_at_call 133; refine H.out.mono ?_; rintro e w1 ⟨v1, rfl, hr1, hg1⟩; have hln := len_rd (ty := 3) hr1)
      go_ret3
      exact ⟨_, rfl, Own.nil _ _, (by repeat (first | (with_reducible exact Gr.refl _) | (with_reducible assumption) | (with_reducible refine Gr.alloc ?_ _) | (with_reducible refine Gr.drew ?_) | (with_reducible refine Gr.drewN ?_ _) | (with_reducible refine Gr.trans ?_ (by assumption)) | (with_reducible refine Gr.setCell ?_ (by first | exact Nat.le_refl _ | omega | (simp; done) | (simp; omega)) _)))⟩
    rw [if_neg hs]
    generalize (takeN l).1 = n at H hs h64 ⊢
    generalize (takeN l).2.1 = r at H hs hl ⊢
    go_enter Tryz.func124, Tryz.ntmps124
    go_wp2_with (go_at_call 133; refine H.out.mono ?_; rintro e w1 ⟨v1, rfl, hr1, hg1⟩; have hln := len_rd (ty := 3) hr1)
    rcases hr1 with ⟨rfl, rfl⟩ | ⟨blk, off, cap, rfl, q1, q2, q3, q4⟩
    · have hn : n = 0 := by simpa using hs
      subst hn
      have hc0 := conv_rd (Rd.nil w1.drew)
      go_region_with (go_at_call 134; refine (clone_any (Rd.nil _) (by simp)).mono ?_; rintro e w2 ⟨v2, rfl, hown2, hg2⟩; have hc2 := conv_rd (Rd.nil w2))
      all_goals (go_wp2; go_ret3; exact ⟨v2, rfl, by simpa using hown2.mono hg1.size, (by repeat (first | (with_reducible exact Gr.refl _) | (with_reducible assumption) | (with_reducible refine Gr.alloc ?_ _) | (with_reducible refine Gr.drew ?_) | (with_reducible refine Gr.drewN ?_ _) | (with_reducible refine Gr.trans ?_ (by assumption)) | (with_reducible refine Gr.setCell ?_ (by first | exact Nat.le_refl _ | omega | (simp; done) | (simp; omega)) _)))⟩)
    · have hp := Rd.parts q1 q2 q3 q4 n (by omega)
      have hc1 := conv_rd (hp.1.gr (Gr.refl w1).drew)
      have hr2 := Lib.hid hp.2
      have hr3 := Lib.hid hp.1
      clear q4 hp
      by_cases hcap : cap = n
      · subst hcap
        simp only [if_true, eq_self_iff_true, Nat.sub_self] at hr2
        have hz0 : r.length - cap = 0 := by omega
        rw [hz0] at hr2
        go_region_with (go_at_call 134; refine (clone_any (hr2.out.gr (Gr.refl w1).drew) (by simp; omega)).mono ?_; rintro e w2 ⟨v2, rfl, hown2, hg2⟩; have hc2 := conv_rd ((hr3.out.gr (Gr.refl w1).drew).gr hg2))
        all_goals (go_wp2; go_ret3; exact ⟨v2, rfl, hown2.mono hg1.size, (by repeat (first | (with_reducible exact Gr.refl _) | (with_reducible assumption) | (with_reducible refine Gr.alloc ?_ _) | (with_reducible refine Gr.drew ?_) | (with_reducible refine Gr.drewN ?_ _) | (with_reducible refine Gr.trans ?_ (by assumption)) | (with_reducible refine Gr.setCell ?_ (by first | exact Nat.le_refl _ | omega | (simp; done) | (simp; omega)) _)))⟩)
      · rw [if_neg hcap] at hr2
        go_region_with (go_at_call 134; refine (clone_any (hr2.out.gr (Gr.refl w1).drew) (by simp; omega)).mono ?_; rintro e w2 ⟨v2, rfl, hown2, hg2⟩; have hc2 := conv_rd ((hr3.out.gr (Gr.refl w1).drew).gr hg2))
        all_goals (go_wp2; go_ret3; exact ⟨v2, rfl, hown2.mono hg1.size, (by repeat (first | (with_reducible exact Gr.refl _) | (with_reducible assumption) | (with_reducible refine Gr.alloc ?_ _) | (with_reducible refine Gr.drew ?_) | (with_reducible refine Gr.drewN ?_ _) | (with_reducible refine Gr.trans ?_ (by assumption)) | (with_reducible refine Gr.setCell ?_ (by first | exact Nat.le_refl _ | omega | (simp; done) | (simp; omega)) _)))⟩)
  · rw [if_pos (by simpa using he)]
    generalize (takeN l).2.2 = q at H he
    have hq : (q != 0) = true := by simpa using he
    go_enter Tryz.func124, Tryz.ntmps124
    go_wp2_with (go_at_call 133; refine H.out.mono ?_; rintro e w1 ⟨v1, rfl, hr1, hg1⟩)
    go_ret3
    exact ⟨_, rfl, Own.nil _ _, (by repeat (first | (with_reducible exact Gr.refl _) | (with_reducible assumption) | (with_reducible refine Gr.alloc ?_ _) | (with_reducible refine Gr.drew ?_) | (with_reducible refine Gr.drewN ?_ _) | (with_reducible refine Gr.trans ?_ (by assumption)) | (with_reducible refine Gr.setCell ?_ (by first | exact Nat.le_refl _ | omega | (simp; done) | (simp; omega)) _)))⟩
end Go.Proofs.YthgecojbggoniaaGreatDoor
