/- The document's table: Check, at. -/
import Derived.Test.YtocijpeminghoaaGreatDoorTabC
import Derived.Test.YtocijpeminghoaaGreatDoorOwn
namespace Go.Proofs.YtocijpeminghoaaGreatDoor
open Go.RowKit
set_option maxRecDepth 100000
set_option linter.unusedVariables false
set_option linter.unusedSimpArgs false
set_option linter.unnecessarySimpa false

theorem refCheck10 {w : World} {v : Value} {l : List Opp} (hl : RdO w v l) (hlen : l.length ≤ 140737488355328) :
    Calls Tryz.prog 49 #[v] w fun e w' => e = .returned (.int .i64 (applyE l)) ∧ w = w' := by
  obtain ⟨q, c, rfl⟩ := hl.form
  have HL := Lib.hid hl
  have hlenv := fun W ty => len_ops (w := W) (q := q) (n := l.length) (c := c) (ty := ty)
  clear hl
  by_cases h128 : 128 < l.length
  · have he : applyE l = 5 := by unfold applyE; rw [if_pos h128]
    rw [he]
    go_enter Tryz.func49, Tryz.ntmps49
    go_wp2
    go_ret
    exact ⟨rfl, rfl⟩
  · go_enter Tryz.func49, Tryz.ntmps49
    go_wp2
    go_loopw [3] (fun iv wr => ∃ k : Nat, iv = .int .i64 k ∧ k ≤ l.length ∧ (l.take k).any badO = false ∧ wr = w) (fun iv _ => l.length - (intOf iv).toNat)
    case atStart => exact ⟨0, rfl, Nat.zero_le _, rfl, rfl⟩
    case round =>
      obtain ⟨k, rfl, hk, hpre, rfl⟩ := hrel
      have HP := Lib.hid hpre
      clear hpre
      by_cases hkl : k < l.length
      · obtain ⟨bk, of, cp, e1, q1, q2, c0, c1, c2⟩ := HL.out.at hkl
        cases e1
        have HBd : Hid (badO l[k] = true → applyE l = 2) := Lib.hid (fun hb => by
          unfold applyE
          rw [if_neg h128, if_pos]
          rw [List.any_eq_true]
          exact ⟨l[k], List.getElem_mem hkl, hb⟩)
        have HBx : Hid (badO l[k] = (l[k].key.toList.isEmpty || (l[k].del && !l[k].val.toList.isEmpty))) := Lib.hid rfl
        unfold maxLen at q2
        cases b0 : l[k].key.toList.isEmpty with
        | true =>
          rw [b0] at HBx
          have HE := Lib.hid (HBd.out (by rw [HBx.out]; rfl))
          have b0' : l[k].key.toList = [] := by simpa using b0
          go_wp2
          go_ret
          exact ⟨by rw [HE.out]; rfl, by first | rfl | trivial⟩
        | false =>
          have b0' : ¬ l[k].key.toList = [] := by intro e; rw [e] at b0; cases b0
          cases b1 : l[k].del with
          | false =>
            have HBad : Hid (badO l[k] = false) := Lib.hid (by rw [HBx.out, b0, b1]; rfl)
            rw [b1] at c2
            clear HBx
            go_wp2
            go_roundw
            case rel => exact ⟨k + 1, by go_num, by omega, by rw [List.take_succ_eq_append_getElem hkl, List.any_append, HP.out]; simp [HBad.out], by first | rfl | trivial⟩
            case measure => simp [intOf]; omega
          | true =>
            rw [b1] at c2
            cases b2 : l[k].val.toList.isEmpty with
            | true =>
              have HBad : Hid (badO l[k] = false) := Lib.hid (by rw [HBx.out, b0, b1, b2]; rfl)
              have b2' : l[k].val.toList = [] := by simpa using b2
              clear HBx
              go_wp2
              go_roundw
              case rel => exact ⟨k + 1, by go_num, by omega, by rw [List.take_succ_eq_append_getElem hkl, List.any_append, HP.out]; simp [HBad.out], by first | rfl | trivial⟩
              case measure => simp [intOf]; omega
            | false =>
              have HE := Lib.hid (HBd.out (by rw [HBx.out, b0, b1, b2]; rfl))
              have b2' : ¬ l[k].val.toList = [] := by intro e; rw [e] at b2; cases b2
              clear HBx
              go_wp2
              go_ret
              exact ⟨by rw [HE.out]; rfl, by first | rfl | trivial⟩
      · obtain rfl : k = l.length := by omega
        have he : applyE l = 0 := by
          have := HP.out
          rw [List.take_length] at this
          unfold applyE
          rw [if_neg h128, if_neg (by rw [this]; decide)]
        have HE := Lib.hid he
        clear HP he
        go_wp2
        go_ret
        exact ⟨by rw [HE.out]; rfl, by first | rfl | trivial⟩
end Go.Proofs.YtocijpeminghoaaGreatDoor
