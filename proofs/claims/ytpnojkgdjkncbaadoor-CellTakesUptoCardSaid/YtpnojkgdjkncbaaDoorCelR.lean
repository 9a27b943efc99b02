/- Plain laws of layer 11's keys: their order. No program in sight. -/
import Derived.Test.YtpnojkgdjkncbaaDoorOrdL
import GoSem.Op.String
namespace Go.Proofs.YtpnojkgdjkncbaaDoor
open Go Go.Lib
set_option linter.unusedVariables false

theorem less_cmp : ∀ a b : List UInt8, Op.bytesLess a b = decide (compareBytes a b = -1)
  | [], [] => by simp [Op.bytesLess, compareBytes]
  | _ :: _, [] => by simp [Op.bytesLess, compareBytes]
  | [], _ :: _ => by simp [Op.bytesLess, compareBytes]
  | a :: x, b :: y => by
    rw [Op.bytesLess, compareBytes, less_cmp x y]
    by_cases h1 : a < b
    · simp [h1]
    · by_cases h2 : b < a
      · have : a ≠ b := by rintro rfl; exact h1 h2
        simp [h1, h2, this]
      · have : a = b := by
          rw [UInt8.lt_iff_toNat_lt] at h1 h2
          exact UInt8.toNat_inj.1 (by omega)
        subst this
        simp [h1]
theorem less_cons (c : UInt8) (a b : List UInt8) : Op.bytesLess (c :: a) (c :: b) = Op.bytesLess a b := by
  rw [Op.bytesLess]
  have : ¬ c < c := by rw [UInt8.lt_iff_toNat_lt]; omega
  simp [this]
theorem cmp_key_app (s t x y : List UInt8) : compareBytes (keyL s ++ x) (keyL t ++ y) = if s = t then compareBytes x y else compareBytes s t := by
  have := cmp_esc s t x y
  simpa [keyL, List.append_assoc] using this
theorem less_key (s t : List UInt8) : Op.bytesLess (keyL s) (keyL t) = Op.bytesLess s t := by rw [less_cmp, less_cmp, cmp_key]
theorem keyL_inj {s t : List UInt8} (h : keyL s = keyL t) : s = t := by
  have := cmp_key s t
  rw [h, cmp_self] at this
  exact cmp_zero this.symm
theorem less_key_app {s t : List UInt8} (h : s ≠ t) (x y : List UInt8) : Op.bytesLess (keyL s ++ x) (keyL t ++ y) = Op.bytesLess s t := by
  rw [less_cmp, less_cmp, cmp_key_app, if_neg h]
theorem less_key_same (s x y : List UInt8) : Op.bytesLess (keyL s ++ x) (keyL s ++ y) = Op.bytesLess x y := by
  rw [less_cmp, less_cmp, cmp_key_app, if_pos rfl]
theorem less_self (s : List UInt8) : Op.bytesLess s s = false := by rw [less_cmp, cmp_self]; rfl
theorem downL_inj {a b c d : Int} (h1 : mayB a b = true) (h2 : mayB c d = true) (h : downL a b = downL c d) : a = c ∧ b = d := by
  have h3 := cmp_down h1 h2
  rw [h, cmp_self] at h3
  by_cases x : c < a ∨ a = c ∧ d < b
  · rw [if_pos x] at h3; simp at h3
  · rw [if_neg x] at h3
    by_cases y : a ≠ c ∨ b ≠ d
    · rw [if_pos y] at h3; simp at h3
    · omega
theorem less_down {a b c d : Int} (h1 : mayB a b = true) (h2 : mayB c d = true) : Op.bytesLess (downL a b) (downL c d) = decide (c < a ∨ a = c ∧ d < b) := by
  rw [less_cmp, cmp_down h1 h2]
  by_cases x : c < a ∨ a = c ∧ d < b
  · rw [if_pos x]; simp [x]
  · rw [if_neg x]
    by_cases y : a ≠ c ∨ b ≠ d
    · rw [if_pos y]; simp [x]
    · rw [if_neg y]; simp [x]
end Go.Proofs.YtpnojkgdjkncbaaDoor
