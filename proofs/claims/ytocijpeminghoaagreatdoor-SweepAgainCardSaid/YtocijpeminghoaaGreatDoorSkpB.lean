/- Layer 9: lists on steps: find, Get, First, Len. -/
import Derived.Test.YtocijpeminghoaaGreatDoorSkpA
namespace Go.Proofs.YtocijpeminghoaaGreatDoor
open Go.RowKit
set_option maxRecDepth 100000
set_option linter.unusedVariables false
set_option linter.unusedSimpArgs false
set_option linter.unnecessarySimpa false

/-- the last node below a key, and what stands behind it -/
theorem last_next {lb H : Nat} {S : Nat → Prop} {L : List Nd} {w : World} (h : SkipAt lb H S L w) (key : ByteArray) : w.cell? ⟨(lastAt (hd0 H) (below key L) 0).blk, 3, none⟩ = some (ptr (above key L).head?) := by
  obtain ⟨A, R, e, h1, h2⟩ := lastAt_split (h := hd0 H) (P := below key L) (i := 0) (by simp [hd0])
  have hR : R = [] := by
    cases R with
    | nil => rfl
    | cons x r =>
      have hx := h2 x (by simp)
      have hm : x ∈ below key L := tail_mem e (by simp)
      have := (h.steps x (by rw [← below_above key L]; simp [hm])).1
      omega
  subst hR
  have hc := h.chain
  rw [show hd0 H :: L = A ++ lastAt (hd0 H) (below key L) 0 :: above key L by rw [← below_above key L, ← List.cons_append, e, below_above]; simp] at hc
  have := chain_cell (j := 0) hc (by decide) h1
  rw [this]
  simp only [List.append_nil]
  congr 1
  unfold nxt
  cases hq : above key L with
  | nil => rfl
  | cons x r =>
    have := (h.steps x (by rw [← below_above key L, hq]; simp)).1
    have h0 : decide (0 < x.steps) = true := by rw [decide_eq_true_iff]; omega
    simp only [List.find?_cons, h0, List.head?_cons]
theorem run_index (h : Nd) (P : List Nd) (j : Nat) (hj : j < 16) (w : World) : (Instr.index 113 (.agg (outA h P 0)) (.int .i64 j)).run Tryz.prog w = .ok (.pointer (some ⟨(lastAt h P j).blk, 0, none⟩)) w := by
  obtain rfl | rfl | rfl | rfl | rfl | rfl | rfl | rfl | rfl | rfl | rfl | rfl | rfl | rfl | rfl | rfl : j = 0 ∨ j = 1 ∨ j = 2 ∨ j = 3 ∨ j = 4 ∨ j = 5 ∨ j = 6 ∨ j = 7 ∨ j = 8 ∨ j = 9 ∨ j = 10 ∨ j = 11 ∨ j = 12 ∨ j = 13 ∨ j = 14 ∨ j = 15 := by omega
  all_goals kernel_rfl
def getN (key : ByteArray) (L : List Nd) : Option Nd := match (above key L).head? with | some n => if n.key.toList == key.toList then some n else none | none => none
theorem find_sk {lb H : Nat} {S : Nat → Prop} {L : List Nd} {w : World} (h : SkipAt lb H S L w) (key : ByteArray) :
    Calls Tryz.prog 61 #[.pointer (some ⟨lb, 0, none⟩), .string key] w fun e w' => e = .returned (ptr (getN key L)) ∧ Gr w w' := by
  have HH := Lib.hid h
  have HN := Lib.hid (none_skip h.list)
  have HA := Lib.hid (ahead_any h key)
  have HL := Lib.hid (last_next h key)
  clear h
  have hix : ∀ w, (Instr.index 113 (.agg (outA (hd0 H) (below key L) 0)) (.int .i64 0)).run Tryz.prog w = .ok (.pointer (some ⟨(lastAt (hd0 H) (below key L) 0).blk, 0, none⟩)) w := run_index _ _ 0 (by decide)
  have HK : Hid (∀ n, (above key L).head? = some n → w.cell? ⟨n.blk, 0, none⟩ = some (.string n.key)) := Lib.hid (fun n hn => by
    obtain ⟨r, hr⟩ : ∃ r, above key L = n :: r := by
      cases hq : above key L with
      | nil => rw [hq] at hn; simp at hn
      | cons x r => rw [hq] at hn; simp at hn; subst hn; exact ⟨r, rfl⟩
    refine chain_key (A := hd0 H :: below key L) (R := r) (X := fun _ => []) ?_
    have := HH.out.chain
    rwa [← below_above key L, hr, ← List.cons_append] at this)
  generalize outA (hd0 H) (below key L) 0 = oa at *
  generalize (lastAt (hd0 H) (below key L) 0).blk = lb0 at *
  cases hq : (above key L).head? with
  | none =>
    have hr : getN key L = none := by unfold getN; rw [hq]
    rw [hr]
    have c0 := HL.out
    rw [hq] at c0
    simp only [ptr] at c0 ⊢
    clear hr hq HL HK
    go_enter Tryz.func61, Tryz.ntmps61
    go_wp2_with (first | (go_at_call 63; refine HN.out.mono ?_; rintro e w1 ⟨rfl, rfl⟩) | (go_at_call 62; refine HA.out.mono ?_; rintro e w1 ⟨rfl, hg1⟩; have c1 := hg1.cell' c0))
    go_ret
    exact ⟨rfl, hg1⟩
  | some n =>
    have c0 := HL.out
    rw [hq] at c0
    have ck := HK.out n hq
    simp only [ptr] at c0 ⊢
    cases hk : n.key.toList == key.toList with
    | true =>
      have hr : getN key L = some n := by unfold getN; rw [hq]; simp only [hk, if_true]
      rw [hr]
      clear hr hq HL HK
      go_enter Tryz.func61, Tryz.ntmps61
      go_wp2_with (first | (go_at_call 63; refine HN.out.mono ?_; rintro e w1 ⟨rfl, rfl⟩) | (go_at_call 62; refine HA.out.mono ?_; rintro e w1 ⟨rfl, hg1⟩; have c1 := hg1.cell' c0; have c2 := hg1.cell' ck))
      go_ret
      exact ⟨rfl, hg1⟩
    | false =>
      have hr : getN key L = none := by unfold getN; rw [hq]; simp [hk]
      rw [hr]
      clear hr hq HL HK
      go_enter Tryz.func61, Tryz.ntmps61
      go_wp2_with (first | (go_at_call 63; refine HN.out.mono ?_; rintro e w1 ⟨rfl, rfl⟩) | (go_at_call 62; refine HA.out.mono ?_; rintro e w1 ⟨rfl, hg1⟩; have c1 := hg1.cell' c0; have c2 := hg1.cell' ck))
      go_ret
      exact ⟨rfl, hg1⟩
/-- the first key at or above one -/
theorem first_sk {lb H : Nat} {S : Nat → Prop} {L : List Nd} {w : World} (h : SkipAt lb H S L w) (key : ByteArray) :
    Calls Tryz.prog 52 #[.pointer (some ⟨lb, 0, none⟩), .string key] w fun e w' => e = .returned (.tuple (match (above key L).head? with | some n => #[.string n.key, .bool true] | none => #[.string ⟨#[]⟩, .bool false])) ∧ Gr w w' := by
  have HH := Lib.hid h
  have HN := Lib.hid (none_skip h.list)
  have HA := Lib.hid (ahead_any h key)
  have HL := Lib.hid (last_next h key)
  clear h
  have hix : ∀ w, (Instr.index 113 (.agg (outA (hd0 H) (below key L) 0)) (.int .i64 0)).run Tryz.prog w = .ok (.pointer (some ⟨(lastAt (hd0 H) (below key L) 0).blk, 0, none⟩)) w := run_index _ _ 0 (by decide)
  have HK : Hid (∀ n, (above key L).head? = some n → w.cell? ⟨n.blk, 0, none⟩ = some (.string n.key)) := Lib.hid (fun n hn => by
    obtain ⟨r, hr⟩ : ∃ r, above key L = n :: r := by
      cases hq : above key L with
      | nil => rw [hq] at hn; simp at hn
      | cons x r => rw [hq] at hn; simp at hn; subst hn; exact ⟨r, rfl⟩
    refine chain_key (A := hd0 H :: below key L) (R := r) (X := fun _ => []) ?_
    have := HH.out.chain
    rwa [← below_above key L, hr, ← List.cons_append] at this)
  generalize outA (hd0 H) (below key L) 0 = oa at *
  generalize (lastAt (hd0 H) (below key L) 0).blk = lb0 at *
  cases hq : (above key L).head? with
  | none =>
    have c0 := HL.out
    rw [hq] at c0
    simp only [ptr] at c0 ⊢
    clear hq HL HK
    go_enter Tryz.func52, Tryz.ntmps52
    go_wp2_with (first | (go_at_call 63; refine HN.out.mono ?_; rintro e w1 ⟨rfl, rfl⟩) | (go_at_call 62; refine HA.out.mono ?_; rintro e w1 ⟨rfl, hg1⟩; have c1 := hg1.cell' c0))
    go_ret2
    exact ⟨rfl, hg1⟩
  | some n =>
    have c0 := HL.out
    rw [hq] at c0
    have ck := HK.out n hq
    simp only [ptr] at c0 ⊢
    clear hq HL HK
    go_enter Tryz.func52, Tryz.ntmps52
    go_wp2_with (first | (go_at_call 63; refine HN.out.mono ?_; rintro e w1 ⟨rfl, rfl⟩) | (go_at_call 62; refine HA.out.mono ?_; rintro e w1 ⟨rfl, hg1⟩; have c1 := hg1.cell' c0; have c2 := hg1.cell' ck))
    go_ret2
    exact ⟨rfl, hg1⟩
theorem getN_mem {key : ByteArray} {L : List Nd} {n : Nd} (h : getN key L = some n) : (∃ r, above key L = n :: r) ∧ n.key = key := by
  unfold getN at h
  cases hq : above key L with
  | nil => rw [hq] at h; simp at h
  | cons x r =>
    rw [hq] at h
    simp only [List.head?_cons] at h
    split at h
    · rename_i hk
      cases h
      refine ⟨⟨r, rfl⟩, ?_⟩
      have := eq_of_beq hk
      rw [ByteArray.toList_eq, ByteArray.toList_eq] at this
      exact ba_ext this
    · cases h
theorem get_sk {lb H : Nat} {S : Nat → Prop} {L : List Nd} {w : World} (h : SkipAt lb H S L w) (key : ByteArray) :
    Calls Tryz.prog 38 #[.pointer (some ⟨lb, 0, none⟩), .string key] w fun e w' => e = .returned (.tuple (match getN key L with | some n => #[.string n.val, .bool true] | none => #[.string ⟨#[]⟩, .bool false])) ∧ Gr w w' := by
  have HF := Lib.hid (find_sk h key)
  have HK : Hid (∀ n, getN key L = some n → w.cell? ⟨n.blk, 1, none⟩ = some (.string n.val)) := Lib.hid (fun n hn => by
    obtain ⟨⟨r, hr⟩, _⟩ := getN_mem hn
    have hc := h.chain
    rw [← below_above key L, hr, ← List.cons_append] at hc
    have h1 := chainF_at hc
    exact cell_of h1 rfl)
  clear h
  cases hq : getN key L with
  | none =>
    rw [hq] at HF
    simp only [ptr] at HF ⊢
    clear hq HK
    go_enter Tryz.func38, Tryz.ntmps38
    go_wp2_with (go_at_call 61; refine HF.out.mono ?_; rintro e w1 ⟨rfl, hg1⟩)
    go_ret2
    exact ⟨rfl, hg1⟩
  | some n =>
    have ck := HK.out n hq
    rw [hq] at HF
    simp only [ptr] at HF ⊢
    clear hq HK
    go_enter Tryz.func38, Tryz.ntmps38
    go_wp2_with (go_at_call 61; refine HF.out.mono ?_; rintro e w1 ⟨rfl, hg1⟩; have c1 := hg1.cell' ck)
    go_ret2
    exact ⟨rfl, hg1⟩
end Go.Proofs.YtocijpeminghoaaGreatDoor
