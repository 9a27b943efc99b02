/- What the bound of an upto statement gives: texts and slices of at most so many elements. -/
import Derived.Test.YtpnojkgdjkncbaaDoorRows
import Derived.Test.YtpnojkgdjkncbaaDoorShape
namespace Go.Proofs.YtpnojkgdjkncbaaDoor
open Go.RowKit
set_option linter.unusedVariables false

theorem bulk_one {H : Type} (d : DataW H) : 1 ≤ Rows.uptoBulk d := by
  cases d with
  | lit l => cases l <;> simp [Rows.uptoBulk]
  | nil => simp [Rows.uptoBulk]
  | ptr d => simp [Rows.uptoBulk]
  | slice elems spare => simp [Rows.uptoBulk]
  | agg parts => simp [Rows.uptoBulk]
  | iface t d => simp [Rows.uptoBulk]
  | map entries => simp [Rows.uptoBulk]
  | held h => simp [Rows.uptoBulk]
theorem bulk_length {H : Type} (l : List (DataW H)) : l.length ≤ Rows.uptoBulkAll l := by
  induction l with
  | nil => simp [Rows.uptoBulkAll]
  | cons x r ih => have := bulk_one x; simp only [Rows.uptoBulkAll, List.length_cons]; omega
theorem bulk_part {H : Type} {d : DataW H} {l : List (DataW H)} (h : d ∈ l) : Rows.uptoBulk d ≤ Rows.uptoBulkAll l := by
  induction l with
  | nil => cases h
  | cons x r ih =>
    simp only [Rows.uptoBulkAll]
    cases List.mem_cons.1 h with
    | inl e => subst e; omega
    | inr e => have := ih e; omega
mutual
theorem lens_bulk {H : Type} {M : Nat} : ∀ d : DataW H, Rows.uptoBulk d ≤ M → lensLe M d
  | .lit (.string b), h => by simp only [Rows.uptoBulk] at h; simp only [lensLe]; omega
  | .lit (.bool _), h => by simp [lensLe]
  | .lit .nil, h => by simp [lensLe]
  | .lit (.int _ _), h => by simp [lensLe]
  | .lit (.float _ _), h => by simp [lensLe]
  | .nil, h => by simp [lensLe]
  | .ptr d, h => by simp [lensLe]
  | .slice el sp, h => by
    simp only [Rows.uptoBulk] at h
    have := bulk_length el
    simp only [lensLe]
    exact ⟨by omega, lens_bulkL el (by omega)⟩
  | .agg l, h => by
    simp only [Rows.uptoBulk] at h
    simp only [lensLe]
    exact lens_bulkL l (by omega)
  | .iface _ d, h => by simp [lensLe]
  | .map _, h => by simp [lensLe]
  | .held _, h => by simp [lensLe]
theorem lens_bulkL {H : Type} {M : Nat} : ∀ l : List (DataW H), Rows.uptoBulkAll l ≤ M → lensLeL M l
  | [], _ => by simp [lensLeL]
  | d :: r, h => by
    simp only [Rows.uptoBulkAll] at h
    simp only [lensLeL]
    exact ⟨lens_bulk d (by omega), lens_bulkL r (by omega)⟩
end
theorem lens_of_bulk {H : Type} {l : List (DataW H)} (hk : Rows.uptoSmall H l = true) {j : Nat} {d : DataW H} (hd : l[j]? = some d) : lensLe 1048576 d := by
  have h := of_decide_eq_true hk
  exact lens_bulk d (Nat.le_trans (bulk_part (List.mem_of_getElem? hd)) h)
end Go.Proofs.YtpnojkgdjkncbaaDoor
