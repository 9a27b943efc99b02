/- Plain words of layers 1 and 11: numbers and texts as lists of bytes. No program in sight. -/
import Derived.ProofKit
namespace Go.Proofs.YtpnojkgdjkncbaaDoor
open Go
set_option linter.unusedVariables false

/-- a number's digits to the base of 256, the highest first -/
def numD (n : Nat) : List UInt8 := if h : n = 0 then [] else numD (n / 256) ++ [UInt8.ofNat (n % 256)]
termination_by n
decreasing_by omega
def numT (n : Nat) : List UInt8 := UInt8.ofNat (numD n).length :: numD n
/-- what a writer writes of a number -/
def numW (n : Int) : List UInt8 := if 0 ≤ n ∧ n ≤ 9007199254740991 then numT n.toNat else []
def numE (n : Int) : Int := if 0 ≤ n ∧ n ≤ 9007199254740991 then 0 else 2
/-- .. of a text -/
def strW (s : List UInt8) : List UInt8 := if s.length ≤ 64 then numT s.length ++ s else []
def numN (l : List UInt8) : Nat := l.foldl (fun n c => n * 256 + c.toNat) 0
/-- a number is taken off: it, what is left, the error -/
def takeN : List UInt8 → Nat × List UInt8 × Int
  | [] => (0, [], 3)
  | m :: t =>
    if 7 < m.toNat then (0, [], 4)
    else if t.length < m.toNat then (0, [], 3)
    else if (t.take m.toNat).head? = some 0 ∨ 9007199254740991 < numN (t.take m.toNat) then (0, [], 4)
    else (numN (t.take m.toNat), t.drop m.toNat, 0)
def takeS (l : List UInt8) : List UInt8 × List UInt8 × Int :=
  if (takeN l).2.2 ≠ 0 then ([], [], (takeN l).2.2)
  else if 64 < (takeN l).1 then ([], [], 5)
  else if (takeN l).2.1.length < (takeN l).1 then ([], [], 3)
  else ((takeN l).2.1.take (takeN l).1, (takeN l).2.1.drop (takeN l).1, 0)

theorem numD_zero : numD 0 = [] := by unfold numD; rfl
theorem numD_pos {n : Nat} (h : 0 < n) : numD n = numD (n / 256) ++ [UInt8.ofNat (n % 256)] := by
  rw [numD]
  rw [dif_neg (by omega)]
theorem numD_small {n : Nat} (h : 0 < n) (h2 : n < 256) : numD n = [UInt8.ofNat n] := by
  rw [numD_pos h, show n / 256 = 0 by omega, numD_zero, show n % 256 = n by omega]
  rfl
theorem numD_length : ∀ (k n : Nat), n < 256 ^ k → (numD n).length ≤ k
  | 0, n, h => by
    have : n = 0 := by simpa using h
    subst this
    rw [numD_zero]; exact Nat.le_refl _
  | k + 1, n, h => by
    by_cases h0 : n = 0
    · subst h0; rw [numD_zero]; simp
    · rw [numD_pos (by omega), List.length_append]
      have := numD_length k (n / 256) (by rw [Nat.pow_succ] at h; omega)
      simp; omega
theorem numN_snoc (l : List UInt8) (c : UInt8) : numN (l ++ [c]) = numN l * 256 + c.toNat := by simp [numN]
theorem numN_nil : numN [] = 0 := rfl
theorem numN_numD (n : Nat) : numN (numD n) = n := by
  induction n using Nat.strongRecOn with
  | _ n ih =>
    by_cases h0 : n = 0
    · subst h0; rw [numD_zero]; rfl
    · rw [numD_pos (by omega), numN_snoc, ih (n / 256) (by omega)]
      simp
      omega
theorem numD_head (n : Nat) : (numD n).head? ≠ some 0 := by
  induction n using Nat.strongRecOn with
  | _ n ih =>
    by_cases h0 : n = 0
    · subst h0; rw [numD_zero]; simp
    · rw [numD_pos (by omega)]
      by_cases h1 : n / 256 = 0
      · rw [h1, numD_zero]
        simp
        intro h
        have := congrArg UInt8.toNat h
        simp at this
        omega
      · have := ih (n / 256) (by omega)
        have hne : numD (n / 256) ≠ [] := by
          rw [numD_pos (by omega)]; simp
        cases hd : numD (n / 256) with
        | nil => exact absurd hd hne
        | cons c t => rw [hd] at this; simpa using this
theorem snoc_ind {α : Type} {P : List α → Prop} (h0 : P []) (h1 : ∀ l a, P l → P (l ++ [a])) (l : List α) : P l := by
  have : ∀ l : List α, P l.reverse := by
    intro l
    induction l with
    | nil => exact h0
    | cons a t ih => rw [List.reverse_cons]; exact h1 _ _ ih
  have h := this l.reverse
  rwa [List.reverse_reverse] at h
theorem numD_numN (l : List UInt8) : l.head? ≠ some 0 → numD (numN l) = l := by
  induction l using snoc_ind with
  | h0 => intro _; rw [numN_nil, numD_zero]
  | h1 l c ih =>
    intro h
    rw [numN_snoc]
    have hc : c.toNat < 256 := c.toNat_lt
    by_cases hl : l = []
    · subst hl
      have hc0 : 0 < c.toNat := by
        rcases Nat.eq_zero_or_pos c.toNat with h' | h'
        · exact absurd (by simp; exact UInt8.toNat_inj.1 h') h
        · exact h'
      rw [numN_nil, Nat.zero_mul, Nat.zero_add, numD_small hc0 hc]
      simp
    · have hh : l.head? ≠ some 0 := by
        cases l with
        | nil => exact absurd rfl hl
        | cons a t => simpa using h
      have hi := ih hh
      have hp : 0 < numN l := by
        rcases Nat.eq_zero_or_pos (numN l) with h' | h'
        · rw [h', numD_zero] at hi; exact absurd hi.symm hl
        · exact h'
      rw [numD_pos (by omega), show (numN l * 256 + c.toNat) / 256 = numN l by omega, hi, show (numN l * 256 + c.toNat) % 256 = c.toNat by omega]
      simp
theorem numD_numN_iff (l : List UInt8) : numD (numN l) = l ↔ l.head? ≠ some 0 :=
  ⟨fun h => by rw [← h]; exact numD_head _, numD_numN l⟩
theorem numN_lt : ∀ (l : List UInt8), numN l < 256 ^ l.length := by
  intro l
  induction l using snoc_ind with
  | h0 => simp [numN]
  | h1 l c ih =>
    have hc : c.toNat < 256 := c.toNat_lt
    rw [numN_snoc, List.length_append, List.length_singleton, Nat.pow_succ]
    omega

theorem numD_le7 {n : Nat} (h : n ≤ 9007199254740991) : (numD n).length ≤ 7 := numD_length 7 n (by have : (256 : Nat) ^ 7 = 72057594037927936 := by decide
                                                                                                   omega)
/-- what was written is taken -/
theorem takeN_numT {n : Nat} (h : n ≤ 9007199254740991) (x : List UInt8) : takeN (numT n ++ x) = (n, x, 0) := by
  have h7 := numD_le7 h
  have e : (UInt8.ofNat (numD n).length).toNat = (numD n).length := by simp; omega
  unfold numT
  rw [List.cons_append, takeN, e, if_neg (by omega), if_neg (by simp), List.take_left, List.drop_left, numN_numD, if_neg]
  rintro (h1 | h1)
  · exact numD_head n h1
  · omega
/-- what is taken was written so -/
theorem takeN_inv {l : List UInt8} {n : Nat} {r : List UInt8} (h : takeN l = (n, r, 0)) : l = numT n ++ r ∧ n ≤ 9007199254740991 := by
  cases l with
  | nil => simp [takeN] at h
  | cons m t =>
    rw [takeN] at h
    split at h
    · simp at h
    split at h
    · simp at h
    split at h
    · simp at h
    · rename_i h1 h2 h3
      simp only [Prod.mk.injEq] at h
      obtain ⟨rfl, rfl, _⟩ := h
      have hh : (t.take m.toNat).head? ≠ some 0 := fun e => h3 (.inl e)
      have hd := numD_numN _ hh
      have hl : (t.take m.toNat).length = m.toNat := by rw [List.length_take]; omega
      refine ⟨?_, by omega⟩
      unfold numT
      rw [hd, hl, List.cons_append, List.take_append_drop]
      simp
theorem takeN_err {l : List UInt8} (h : (takeN l).2.2 ≠ 0) : (takeN l).1 = 0 ∧ (takeN l).2.1 = [] := by
  cases l with
  | nil => simp [takeN]
  | cons m t =>
    rw [takeN] at h ⊢
    split
    · simp
    split
    · simp
    split
    · simp
    · rename_i h1 h2 h3
      rw [if_neg h1, if_neg h2, if_neg h3] at h
      simp at h
theorem takeS_strW {s : List UInt8} (h : s.length ≤ 64) (x : List UInt8) : takeS (strW s ++ x) = (s, x, 0) := by
  unfold strW takeS
  rw [if_pos h, List.append_assoc, takeN_numT (by omega)]
  show (if (0 : Int) ≠ 0 then _ else if 64 < s.length then _ else if (s ++ x).length < s.length then _ else ((s ++ x).take s.length, (s ++ x).drop s.length, 0)) = _
  rw [if_neg (by simp), if_neg (by omega), if_neg (by simp), List.take_left, List.drop_left]
theorem takeS_inv {l s r : List UInt8} (h : takeS l = (s, r, 0)) : l = strW s ++ r ∧ s.length ≤ 64 := by
  unfold takeS at h
  split at h
  · rename_i h1; simp only [Prod.mk.injEq] at h; exact absurd h.2.2 h1
  split at h
  · simp at h
  split at h
  · simp at h
  · rename_i h1 h2 h3
    simp only [Prod.mk.injEq] at h
    obtain ⟨rfl, rfl, _⟩ := h
    have e : takeN l = ((takeN l).1, (takeN l).2.1, 0) := by
      have : (takeN l).2.2 = 0 := by simpa using h1
      rw [← this]
    have := takeN_inv e
    have hl : ((takeN l).2.1.take (takeN l).1).length = (takeN l).1 := by rw [List.length_take]; omega
    refine ⟨?_, by omega⟩
    unfold strW
    rw [if_pos (by omega), hl, List.append_assoc, List.take_append_drop]
    exact this.1
end Go.Proofs.YtpnojkgdjkncbaaDoor
