/- What the rows stand on, part 26: RftA, RftB. Printed by bundle.py out of my texts. -/
import Derived.Test.YthgecojbggoniaaGreatDoorBe18
import Derived.Test.YthgecojbggoniaaGreatDoorBe25
namespace Go.Proofs.YthgecojbggoniaaGreatDoor
open Go.RowKit
set_option maxRecDepth 100000
set_option linter.unusedVariables false
set_option linter.unusedSimpArgs false
set_option linter.unnecessarySimpa false

theorem refCheck10 {w : World} {v : Value} {l : List Opp} (hl : RdO w v l) (hlen : l.length ≤ 140737488355328) :
    Calls Tryz.prog 57 #[v] w fun e w' => e = .returned (.int .i64 (applyE l)) ∧ w = w' := by
  obtain ⟨q, c, rfl⟩ := hl.form
  have HL := Lib.hid hl
  have hlenv := fun W ty => len_ops (w := W) (q := q) (n := l.length) (c := c) (ty := ty)
  clear hl
  by_cases h128 : 128 < l.length
  · have he : applyE l = 5 := by unfold applyE; rw [if_pos h128]
    rw [he]
    go_enter Tryz.func57, Tryz.ntmps57
    go_wp2
    go_ret
    exact ⟨rfl, rfl⟩
  · go_enter Tryz.func57, Tryz.ntmps57
    go_wp2
    go_loopw [3] (fun iv wr => ∃ k : Nat, iv = .int .i64 k ∧ k ≤ l.length ∧ (l.take k).any badO = false ∧ wr = w) (fun iv _ => l.length - (intOf iv).toNat)
    case atStart => exact ⟨0, rfl, Nat.zero_le _, rfl, rfl⟩
    case round =>
      obtain ⟨k, rfl, hk, hpre, rfl⟩ := hrel
      have HP := Lib.hid hpre
      clear hpre
      by_cases hkl : k < l.length
      · obtain ⟨bk, of, cp, e1, q1, q2, c0, c1, c2⟩ := HL.out.at hkl
        cases e1
        have HBd : Hid (badO l[k] = true → applyE l = 2) := Lib.hid (fun hb => by
          unfold applyE
          rw [if_neg h128, if_pos]
          rw [List.any_eq_true]
          exact ⟨l[k], List.getElem_mem hkl, hb⟩)
        have HBx : Hid (badO l[k] = (l[k].key.toList.isEmpty || (l[k].del && !l[k].val.toList.isEmpty))) := Lib.hid rfl
        unfold maxLen at q2
        cases b0 : l[k].key.toList.isEmpty with
        | true =>
          rw [b0] at HBx
          have HE := Lib.hid (HBd.out (by rw [HBx.out]; rfl))
          have b0' : l[k].key.toList = [] := by simpa using b0
          go_wp2
          go_ret
          exact ⟨by rw [HE.out]; rfl, by first | rfl | trivial⟩
        | false =>
          have b0' : ¬ l[k].key.toList = [] := by intro e; rw [e] at b0; cases b0
          cases b1 : l[k].del with
          | false =>
            have HBad : Hid (badO l[k] = false) := Lib.hid (by rw [HBx.out, b0, b1]; rfl)
            rw [b1] at c2
            clear HBx
            go_wp2
            go_roundw
            case rel => exact ⟨k + 1, by go_num, by omega, by rw [List.take_succ_eq_append_getElem hkl, List.any_append, HP.out]; simp [HBad.out], by first | rfl | trivial⟩
            case measure => simp [intOf]; omega
          | true =>
            rw [b1] at c2
            cases b2 : l[k].val.toList.isEmpty with
            | true =>
              have HBad : Hid (badO l[k] = false) := Lib.hid (by rw [HBx.out, b0, b1, b2]; rfl)
              have b2' : l[k].val.toList = [] := by simpa using b2
              clear HBx
              go_wp2
              go_roundw
              case rel => exact ⟨k + 1, by go_num, by omega, by rw [List.take_succ_eq_append_getElem hkl, List.any_append, HP.out]; simp [HBad.out], by first | rfl | trivial⟩
              case measure => simp [intOf]; omega
            | false =>
              have HE := Lib.hid (HBd.out (by rw [HBx.out, b0, b1, b2]; rfl))
              have b2' : ¬ l[k].val.toList = [] := by intro e; rw [e] at b2; cases b2
              clear HBx
              go_wp2
              go_ret
              exact ⟨by rw [HE.out]; rfl, by first | rfl | trivial⟩
      · obtain rfl : k = l.length := by omega
        have he : applyE l = 0 := by
          have := HP.out
          rw [List.take_length] at this
          unfold applyE
          rw [if_neg h128, if_neg (by rw [this]; decide)]
        have HE := Lib.hid he
        clear HP he
        go_wp2
        go_ret
        exact ⟨by rw [HE.out]; rfl, by first | rfl | trivial⟩
end Go.Proofs.YthgecojbggoniaaGreatDoor
namespace Go.Proofs.YthgecojbggoniaaGreatDoor
open Go.RowKit
set_option maxRecDepth 100000
set_option linter.unusedVariables false
set_option linter.unusedSimpArgs false
set_option linter.unnecessarySimpa false

def rowC (x : Rw) : List Value := [.string x.1, .string x.2]
theorem elRow : ElTy 58 94 2 (.agg #[.string ⟨#[]⟩, .string ⟨#[]⟩]) 32 := ⟨Tryz.underlying58, by kernel_rfl, rfl, by decide⟩
theorem encRow : Enc rowC 2 := ⟨fun _ => rfl, fun a u hu => by simp [rowC] at hu; rcases hu with rfl | rfl <;> rfl⟩
/-- rows that are read -/
abbrev RdRw (w : World) (v : Value) (l : List Rw) : Prop := RdR (RE rowC) 2 w v l
theorem RdRw.gr {a b : World} {v : Value} {l : List Rw} (h : RdRw a v l) (hg : Gr a b) : RdRw b v l := RdE.gr hg h
theorem RdRw.form {w : World} {v : Value} {l : List Rw} (h : RdRw w v l) : ∃ q c, v = .slice q l.length c := by
  rcases h with ⟨rfl, q, c, rfl, _⟩ | ⟨blk, off, cap, rfl, _⟩
  · exact ⟨q, c, rfl⟩
  · exact ⟨_, _, rfl⟩
theorem RdRw.at {w : World} {v : Value} {l : List Rw} (h : RdRw w v l) {k : Nat} (hk : k < l.length) : ∃ blk off cap, v = .slice (some ⟨blk, off, none⟩) l.length cap ∧ l.length ≤ cap ∧ cap ≤ maxLen ∧
    w.cell? ⟨blk, off + k * 2, none⟩ = some (.string l[k].1) ∧ w.cell? ⟨blk, off + k * 2 + 1, none⟩ = some (.string l[k].2) := by
  rcases h with ⟨rfl, _⟩ | ⟨blk, off, cap, rfl, h1, h2, h3, h4, h5⟩
  · simp at hk
  · obtain ⟨ds, d1, d2, d3⟩ := h5 k hk
    unfold RE at d3
    subst d3
    have hc : ∀ j (hj : j < 2), w.cell? ⟨blk, off + k * 2 + j, none⟩ = some ((rowC l[k])[j]'(by simpa [rowC] using hj)) := fun j hj => by rw [Nat.add_assoc]; exact d2 j (by simpa [rowC] using hj)
    exact ⟨blk, off, cap, rfl, h2, h3, hc 0 (by decide), hc 1 (by decide)⟩
theorem RdE.take {α : Type} {enc : α → List Value} {k : Nat} {w : World} {q : Option Addr} {n c : Nat} {l : List α} (h : RdR (RE enc) k w (.slice q n c) l) (m : Nat) (hm : m ≤ l.length) : RdR (RE enc) k w (.slice q m c) (l.take m) := by
  have hlm : (l.take m).length = m := by rw [List.length_take]; omega
  rcases h with ⟨rfl, q', c', h1, h2, h3⟩ | ⟨blk, off, cap, h1, h2, h3, h4, h5, h6⟩
  · cases h1
    have : m = 0 := by simpa using hm
    subst this
    exact .inl ⟨rfl, q, c, rfl, h2, h3⟩
  · cases h1
    by_cases h0 : m = 0
    · subst h0
      exact .inl ⟨by simp, _, _, rfl, h4, fun e => by cases e⟩
    · refine .inr ⟨blk, off, c, by rw [hlm], by omega, by omega, h4, h5, fun i hi => ?_⟩
      rw [hlm] at hi
      obtain ⟨ds, d1, d2, d3⟩ := h6 i (by omega)
      refine ⟨ds, d1, d2, ?_⟩
      rw [List.getElem_take]
      exact d3
theorem RdE.drop {α : Type} {enc : α → List Value} {k : Nat} {w : World} {blk off n c : Nat} {l : List α} (h : RdR (RE enc) k w (.slice (some ⟨blk, off, none⟩) n c) l) (m : Nat) (hm : m ≤ l.length) : RdR (RE enc) k w (.slice (some ⟨blk, off + m * k, none⟩) (n - m) (c - m)) (l.drop m) := by
  have hlm : (l.drop m).length = l.length - m := List.length_drop
  rcases h with ⟨rfl, q', c', h1, h2, h3⟩ | ⟨blk', off', cap, h1, h2, h3, h4, h5, h6⟩
  · cases h1
    have : m = 0 := by simpa using hm
    subst this
    exact .inl ⟨rfl, _, _, rfl, by omega, fun e => by cases e⟩
  · cases h1
    by_cases h0 : m = l.length
    · subst h0
      exact .inl ⟨by simp, _, _, by rw [Nat.sub_self], by omega, fun e => by cases e⟩
    · refine .inr ⟨blk, off + m * k, c - m, by rw [hlm], by omega, by omega, by omega, h5, fun i hi => ?_⟩
      rw [hlm] at hi
      obtain ⟨ds, d1, d2, d3⟩ := h6 (m + i) (by omega)
      refine ⟨ds, d1, fun j hj => ?_, ?_⟩
      · rw [show off + m * k + (i * k + j) = off + ((m + i) * k + j) by rw [Nat.add_mul]; omega]
        exact d2 j hj
      · rw [List.getElem_drop]
        exact d3
theorem len_rows {w : World} {q : Option Addr} {n c : Nat} {ty : TypeId} : (Builtin.len_ #[58] ty #[.slice q n c]).run Tryz.prog w = .ok (.int .i64 n) w := by
  cases q <;> simp [Builtin.len_, run_underlying Tryz.underlying58, go_sem]
theorem tw_stop {α : Type} {p : α → Bool} : ∀ {R : List α} {k : Nat}, (R.take k).all p = true → (k = R.length ∨ ∃ h : k < R.length, p R[k] = false) → (R.takeWhile p).length = k
  | [], k, h, h2 => by
    rcases h2 with h2 | ⟨h2, _⟩
    · simp [h2]
    · simp at h2
  | x :: r, 0, h, h2 => by
    rcases h2 with h2 | ⟨h2, h3⟩
    · simp at h2
    · simp only [List.getElem_cons_zero] at h3
      simp [List.takeWhile_cons, h3]
  | x :: r, k + 1, h, h2 => by
    rw [List.take_succ_cons, List.all_cons, Bool.and_eq_true] at h
    rw [List.takeWhile_cons, if_pos h.1, List.length_cons, tw_stop (R := r) (k := k) h.2 ?_]
    rcases h2 with h2 | ⟨h2, h3⟩
    · left; simpa using h2
    · right
      exact ⟨by simpa using h2, by simpa using h3⟩
theorem take_of_app {α : Type} {A B R : List α} (h : A ++ B = R) : R.take A.length = A := by subst h; exact List.take_left
theorem drop_of_app {α : Type} {A B R : List α} (h : A ++ B = R) : R.drop A.length = B := by subst h; exact List.drop_left
theorem below_take (k : ByteArray) (R : List Rw) : R.take (belowR k R).length = belowR k R := take_of_app List.takeWhile_append_dropWhile
theorem above_drop (k : ByteArray) (R : List Rw) : R.drop (belowR k R).length = aboveR k R := drop_of_app List.takeWhile_append_dropWhile
theorem below_le (k : ByteArray) (R : List Rw) : (belowR k R).length ≤ R.length := (List.takeWhile_sublist _).length_le
theorem at10_any {tb : Nat} {v : Value} {R : List Rw} {w : World} (h : w.heap[tb]? = some (.cells #[v] 61)) (hR : RdRw w v R) (hlen : R.length ≤ 140737488355328) (key : ByteArray) :
    Calls Tryz.prog 86 #[.pointer (some ⟨tb, 0, none⟩), .string key] w fun e w' => e = .returned (.int .i64 ((belowR key R).length : Nat)) ∧ w = w' := by
  obtain ⟨q, c, rfl⟩ := hR.form
  have HR := Lib.hid hR
  obtain ⟨k_0, g_0, l_0⟩ := blk1 h
  have hlenv := fun W ty => len_rows (w := W) (q := q) (n := R.length) (c := c) (ty := ty)
  clear hR h
  go_enter Tryz.func86, Tryz.ntmps86
  go_wp2
  go_loopw [5] (fun iv wr => ∃ k : Nat, iv = .int .i64 k ∧ k ≤ R.length ∧ (R.take k).all (fun x => klt x.1 key) = true ∧ wr = w) (fun iv _ => R.length - (intOf iv).toNat)
  case atStart => exact ⟨0, rfl, Nat.zero_le _, rfl, rfl⟩
  case round =>
    obtain ⟨k, rfl, hk, hpre, rfl⟩ := hrel
    have HP := Lib.hid hpre
    clear hpre
    by_cases hkl : k < R.length
    · obtain ⟨bk, of, cp, e1, q1, q2, c0, c1⟩ := HR.out.at hkl
      cases e1
      unfold maxLen at q2
      cases b0 : Op.bytesLess R[k].1.toList key.toList with
      | true =>
        go_wp2
        go_roundw
        case rel => exact ⟨k + 1, by go_num, by omega, by rw [List.take_succ_eq_append_getElem hkl, List.all_append, HP.out]; simp [klt, b0], by first | rfl | trivial⟩
        case measure => simp [intOf]; omega
      | false =>
        have HE : Hid ((belowR key R).length = k) := Lib.hid (tw_stop HP.out (.inr ⟨hkl, b0⟩))
        go_wp2
        go_ret
        exact ⟨by rw [HE.out]; rfl, by first | rfl | trivial⟩
    · obtain rfl : k = R.length := by omega
      have HE : Hid ((belowR key R).length = R.length) := Lib.hid (tw_stop HP.out (.inl rfl))
      go_wp2
      go_ret
      exact ⟨by rw [HE.out]; rfl, by first | rfl | trivial⟩
end Go.Proofs.YthgecojbggoniaaGreatDoor
