/- Layer 11: keys of one kind do not stand among those of another: the plain law, and the contracts at the statement's keys. -/
import Derived.Test.YtpnojkgdjkncbaaDoorCelY2
import Derived.Test.YtpnojkgdjkncbaaDoorCelN
namespace Go.Proofs.YtpnojkgdjkncbaaDoor
open Go.RowKit
set_option maxRecDepth 100000
set_option linter.unusedVariables false
set_option linter.unusedSimpArgs false

theorem lawBring_gr (a b : Int) (ha : -9223372036854775808 ≤ a ∧ a ≤ 9223372036854775807) (hb : -9223372036854775808 ≤ b ∧ b ≤ 9223372036854775807) (w : World) :
    Calls Tryd.prog 19 #[.agg #[.int .i64 a, .int .i64 b]] w fun e w' => e = .returned (.agg #[.int .i64 (bringI a 1099511627777), .int .i64 (bringI b 1048576)]) ∧ Gr w w' := by
  refine (lawBring_any a b ha hb w).mono ?_
  rintro e w' ⟨rfl, rfl⟩
  exact ⟨rfl, (by repeat (first | (with_reducible exact Gr.refl _) | (with_reducible assumption) | (with_reducible refine Gr.alloc ?_ _) | (with_reducible refine Gr.drew ?_) | (with_reducible refine Gr.drewN ?_ _) | (with_reducible refine Gr.trans ?_ (by assumption)) | (with_reducible refine Gr.setCell ?_ (by first | exact Nat.le_refl _ | omega | (simp; done) | (simp; omega)) _)))⟩
theorem whose_other (c d : UInt8) (t : List UInt8) (h : c ≠ d) : whoseR (c :: t) d = ([], [], false) := by simp [whoseR, h]
theorem whose_key (c : UInt8) (x t : List UInt8) (h : x.length ≤ 1000) : whoseR (c :: (keyL x ++ t)) c = (x, t, true) := by
  simp [whoseR, takeL_keyL x t h]
theorem kinds_version {x : List UInt8} {A B : Int} (hx : x.length ≤ 1000) (h : mayB A B = true) : readVersionR (118 :: (keyL x ++ downL A B)) = (x, A, B, 0) := by
  have h1 := takeDown_down h []
  rw [List.append_nil] at h1
  unfold readVersionR
  rw [whose_key 118 x _ hx]
  simp [h1]
theorem kinds_intent {x : List UInt8} (hx : x.length ≤ 1000) : readIntentR (105 :: keyL x) = (x, 0) := by
  have h1 := whose_key 105 x [] hx
  rw [List.append_nil] at h1
  unfold readIntentR
  rw [h1]
  simp
theorem kinds_record {x : List UInt8} {n : Int} (hx : x.length ≤ 1000) (h : 1 ≤ n ∧ n ≤ 9007199254740991) : readRecordR (116 :: (keyL x ++ beL n 8)) = (x, n, 0) := by
  obtain ⟨m, rfl⟩ := Int.eq_ofNat_of_zero_le (show 0 ≤ n by omega)
  have h1 := numL_beL 8 m
  have h2 : (256 : Nat) ^ 8 = 18446744073709551616 := by decide
  rw [h2, Nat.mod_eq_of_lt (by omega)] at h1
  unfold readRecordR
  rw [whose_key 116 x _ hx]
  simp only [Int.ofNat_eq_natCast] at *
  rw [h1, beL_length]
  rw [if_pos ⟨trivial, rfl, by omega, by omega⟩]
theorem kinds_v_of_i (x : List UInt8) : readVersionR (105 :: keyL x) = ([], 0, 0, 4) := by
  unfold readVersionR
  rw [whose_other _ _ _ (by decide)]
  simp
theorem kinds_i_of_t (t : List UInt8) : readIntentR (116 :: t) = ([], 4) := by
  unfold readIntentR
  rw [whose_other _ _ _ (by decide)]
  simp
theorem kinds_t_of_v (t : List UInt8) : readRecordR (118 :: t) = ([], 0, 4) := by
  unfold readRecordR
  rw [whose_other _ _ _ (by decide)]
  simp
theorem less_heads {c d : UInt8} (s t : List UInt8) (h : c.toNat < d.toNat) : Op.bytesLess (c :: s) (d :: t) = true := by
  have h1 : c < d := UInt8.lt_iff_toNat_lt.2 h
  simp [Op.bytesLess, h1]
end Go.Proofs.YtpnojkgdjkncbaaDoor
