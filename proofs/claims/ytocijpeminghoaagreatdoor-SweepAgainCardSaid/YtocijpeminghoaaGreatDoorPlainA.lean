/- Plain words of layers 1, 2 and 11: numbers, texts, keys, intents, records as lists of bytes. No program in sight. -/
import Derived.ProofKit
import Derived.Lib.Replace
import Derived.Lib.Bytealg
import Derived.Lib.Strings
import GoSem.Op.String
namespace Go.Proofs.YtocijpeminghoaaGreatDoor
open Go
set_option linter.unusedVariables false

/-- a number's digits to the base of 256, the highest first -/
def numD (n : Nat) : List UInt8 := if h : n = 0 then [] else numD (n / 256) ++ [UInt8.ofNat (n % 256)]
termination_by n
decreasing_by omega
def numT (n : Nat) : List UInt8 := UInt8.ofNat (numD n).length :: numD n
/-- what a writer writes of a number -/
def numW (n : Int) : List UInt8 := if 0 ≤ n ∧ n ≤ 9007199254740991 then numT n.toNat else []
def numE (n : Int) : Int := if 0 ≤ n ∧ n ≤ 9007199254740991 then 0 else 2
/-- .. of a text -/
def strW (s : List UInt8) : List UInt8 := if s.length ≤ 64 then numT s.length ++ s else []
def numN (l : List UInt8) : Nat := l.foldl (fun n c => n * 256 + c.toNat) 0
/-- a number is taken off: it, what is left, the error -/
def takeN : List UInt8 → Nat × List UInt8 × Int
  | [] => (0, [], 3)
  | m :: t =>
    if 7 < m.toNat then (0, [], 4)
    else if t.length < m.toNat then (0, [], 3)
    else if (t.take m.toNat).head? = some 0 ∨ 9007199254740991 < numN (t.take m.toNat) then (0, [], 4)
    else (numN (t.take m.toNat), t.drop m.toNat, 0)
def takeS (l : List UInt8) : List UInt8 × List UInt8 × Int :=
  if (takeN l).2.2 ≠ 0 then ([], [], (takeN l).2.2)
  else if 64 < (takeN l).1 then ([], [], 5)
  else if (takeN l).2.1.length < (takeN l).1 then ([], [], 3)
  else ((takeN l).2.1.take (takeN l).1, (takeN l).2.1.drop (takeN l).1, 0)

theorem numD_zero : numD 0 = [] := by unfold numD; rfl
theorem numD_pos {n : Nat} (h : 0 < n) : numD n = numD (n / 256) ++ [UInt8.ofNat (n % 256)] := by
  rw [numD]
  rw [dif_neg (by omega)]
theorem numD_small {n : Nat} (h : 0 < n) (h2 : n < 256) : numD n = [UInt8.ofNat n] := by
  rw [numD_pos h, show n / 256 = 0 by omega, numD_zero, show n % 256 = n by omega]
  rfl
theorem numD_length : ∀ (k n : Nat), n < 256 ^ k → (numD n).length ≤ k
  | 0, n, h => by
    have : n = 0 := by simpa using h
    subst this
    rw [numD_zero]; exact Nat.le_refl _
  | k + 1, n, h => by
    by_cases h0 : n = 0
    · subst h0; rw [numD_zero]; simp
    · rw [numD_pos (by omega), List.length_append]
      have := numD_length k (n / 256) (by rw [Nat.pow_succ] at h; omega)
      simp; omega
theorem numN_snoc (l : List UInt8) (c : UInt8) : numN (l ++ [c]) = numN l * 256 + c.toNat := by simp [numN]
theorem numN_nil : numN [] = 0 := rfl
theorem numN_numD (n : Nat) : numN (numD n) = n := by
  induction n using Nat.strongRecOn with
  | _ n ih =>
    by_cases h0 : n = 0
    · subst h0; rw [numD_zero]; rfl
    · rw [numD_pos (by omega), numN_snoc, ih (n / 256) (by omega)]
      simp
      omega
theorem numD_head (n : Nat) : (numD n).head? ≠ some 0 := by
  induction n using Nat.strongRecOn with
  | _ n ih =>
    by_cases h0 : n = 0
    · subst h0; rw [numD_zero]; simp
    · rw [numD_pos (by omega)]
      by_cases h1 : n / 256 = 0
      · rw [h1, numD_zero]
        simp
        intro h
        have := congrArg UInt8.toNat h
        simp at this
        omega
      · have := ih (n / 256) (by omega)
        have hne : numD (n / 256) ≠ [] := by
          rw [numD_pos (by omega)]; simp
        cases hd : numD (n / 256) with
        | nil => exact absurd hd hne
        | cons c t => rw [hd] at this; simpa using this
theorem snoc_ind {α : Type} {P : List α → Prop} (h0 : P []) (h1 : ∀ l a, P l → P (l ++ [a])) (l : List α) : P l := by
  have : ∀ l : List α, P l.reverse := by
    intro l
    induction l with
    | nil => exact h0
    | cons a t ih => rw [List.reverse_cons]; exact h1 _ _ ih
  have h := this l.reverse
  rwa [List.reverse_reverse] at h
theorem numD_numN (l : List UInt8) : l.head? ≠ some 0 → numD (numN l) = l := by
  induction l using snoc_ind with
  | h0 => intro _; rw [numN_nil, numD_zero]
  | h1 l c ih =>
    intro h
    rw [numN_snoc]
    have hc : c.toNat < 256 := c.toNat_lt
    by_cases hl : l = []
    · subst hl
      have hc0 : 0 < c.toNat := by
        rcases Nat.eq_zero_or_pos c.toNat with h' | h'
        · exact absurd (by simp; exact UInt8.toNat_inj.1 h') h
        · exact h'
      rw [numN_nil, Nat.zero_mul, Nat.zero_add, numD_small hc0 hc]
      simp
    · have hh : l.head? ≠ some 0 := by
        cases l with
        | nil => exact absurd rfl hl
        | cons a t => simpa using h
      have hi := ih hh
      have hp : 0 < numN l := by
        rcases Nat.eq_zero_or_pos (numN l) with h' | h'
        · rw [h', numD_zero] at hi; exact absurd hi.symm hl
        · exact h'
      rw [numD_pos (by omega), show (numN l * 256 + c.toNat) / 256 = numN l by omega, hi, show (numN l * 256 + c.toNat) % 256 = c.toNat by omega]
      simp
theorem numD_numN_iff (l : List UInt8) : numD (numN l) = l ↔ l.head? ≠ some 0 :=
  ⟨fun h => by rw [← h]; exact numD_head _, numD_numN l⟩
theorem numN_lt : ∀ (l : List UInt8), numN l < 256 ^ l.length := by
  intro l
  induction l using snoc_ind with
  | h0 => simp [numN]
  | h1 l c ih =>
    have hc : c.toNat < 256 := c.toNat_lt
    rw [numN_snoc, List.length_append, List.length_singleton, Nat.pow_succ]
    omega

theorem numD_le7 {n : Nat} (h : n ≤ 9007199254740991) : (numD n).length ≤ 7 := numD_length 7 n (by have : (256 : Nat) ^ 7 = 72057594037927936 := by decide
                                                                                                   omega)
/-- what was written is taken -/
theorem takeN_numT {n : Nat} (h : n ≤ 9007199254740991) (x : List UInt8) : takeN (numT n ++ x) = (n, x, 0) := by
  have h7 := numD_le7 h
  have e : (UInt8.ofNat (numD n).length).toNat = (numD n).length := by simp; omega
  unfold numT
  rw [List.cons_append, takeN, e, if_neg (by omega), if_neg (by simp), List.take_left, List.drop_left, numN_numD, if_neg]
  rintro (h1 | h1)
  · exact numD_head n h1
  · omega
/-- what is taken was written so -/
theorem takeN_inv {l : List UInt8} {n : Nat} {r : List UInt8} (h : takeN l = (n, r, 0)) : l = numT n ++ r ∧ n ≤ 9007199254740991 := by
  cases l with
  | nil => simp [takeN] at h
  | cons m t =>
    rw [takeN] at h
    split at h
    · simp at h
    split at h
    · simp at h
    split at h
    · simp at h
    · rename_i h1 h2 h3
      simp only [Prod.mk.injEq] at h
      obtain ⟨rfl, rfl, _⟩ := h
      have hh : (t.take m.toNat).head? ≠ some 0 := fun e => h3 (.inl e)
      have hd := numD_numN _ hh
      have hl : (t.take m.toNat).length = m.toNat := by rw [List.length_take]; omega
      refine ⟨?_, by omega⟩
      unfold numT
      rw [hd, hl, List.cons_append, List.take_append_drop]
      simp
theorem takeN_err {l : List UInt8} (h : (takeN l).2.2 ≠ 0) : (takeN l).1 = 0 ∧ (takeN l).2.1 = [] := by
  cases l with
  | nil => simp [takeN]
  | cons m t =>
    rw [takeN] at h ⊢
    split
    · simp
    split
    · simp
    split
    · simp
    · rename_i h1 h2 h3
      rw [if_neg h1, if_neg h2, if_neg h3] at h
      simp at h
theorem takeS_strW {s : List UInt8} (h : s.length ≤ 64) (x : List UInt8) : takeS (strW s ++ x) = (s, x, 0) := by
  unfold strW takeS
  rw [if_pos h, List.append_assoc, takeN_numT (by omega)]
  show (if (0 : Int) ≠ 0 then _ else if 64 < s.length then _ else if (s ++ x).length < s.length then _ else ((s ++ x).take s.length, (s ++ x).drop s.length, 0)) = _
  rw [if_neg (by simp), if_neg (by omega), if_neg (by simp), List.take_left, List.drop_left]
theorem takeS_inv {l s r : List UInt8} (h : takeS l = (s, r, 0)) : l = strW s ++ r ∧ s.length ≤ 64 := by
  unfold takeS at h
  split at h
  · rename_i h1; simp only [Prod.mk.injEq] at h; exact absurd h.2.2 h1
  split at h
  · simp at h
  split at h
  · simp at h
  · rename_i h1 h2 h3
    simp only [Prod.mk.injEq] at h
    obtain ⟨rfl, rfl, _⟩ := h
    have e : takeN l = ((takeN l).1, (takeN l).2.1, 0) := by
      have : (takeN l).2.2 = 0 := by simpa using h1
      rw [← this]
    have := takeN_inv e
    have hl : ((takeN l).2.1.take (takeN l).1).length = (takeN l).1 := by rw [List.length_take]; omega
    refine ⟨?_, by omega⟩
    unfold strW
    rw [if_pos (by omega), hl, List.append_assoc, List.take_append_drop]
    exact this.1
end Go.Proofs.YtocijpeminghoaaGreatDoor
namespace Go.Proofs.YtocijpeminghoaaGreatDoor
open Go

/-- a text's bytes, each 0 as 0 1 -/
def esc : List UInt8 → List UInt8
  | [] => []
  | c :: l => if c = 0 then 0 :: 1 :: esc l else c :: esc l
def keyL (l : List UInt8) : List UInt8 := esc l ++ [0, 0]

/-- what is taken off: the text, what is left, the error's number; 'out' was taken already -/
def takeL (out : List UInt8) : List UInt8 → List UInt8 × List UInt8 × Int
  | [] => ([], [], 3)
  | c :: t =>
    if c = 0 then
      match t with
      | [] => ([], [], 3)
      | d :: u => if d = 0 then (out, u, 0) else if d = 1 then (if out.length = 1000 then ([], [], 5) else takeL (out ++ [0]) u) else ([], [], 4)
    else if out.length = 1000 then ([], [], 5) else takeL (out ++ [c]) t

/-- a number in so many bytes, the highest first -/
def beL (n : Int) : Nat → List UInt8
  | 0 => []
  | k + 1 => UInt8.ofNat (n / 256 ^ k % 256).toNat :: beL n k
/-- the number that bytes are -/
def numL (l : List UInt8) : Int := l.foldl (fun n c => n * 256 + c.toNat) 0

def mayB (a b : Int) : Bool := decide (0 ≤ a ∧ a ≤ 1099511627776 ∧ 0 ≤ b ∧ b ≤ 1048575)
def downL (a b : Int) : List UInt8 := beL (1099511627776 - a) 6 ++ beL (1048575 - b) 3
def checkE (n : Nat) : Int := if 1 ≤ n ∧ n ≤ 32 then 0 else 2
def bringI (i n : Int) : Int := if n ≤ 0 then 0 else i % n

def takeDownL (l : List UInt8) : Int × Int × List UInt8 × Int :=
  if l.length < 9 then (0, 0, [], 3)
  else if mayB (1099511627776 - numL (l.take 6)) (1048575 - numL ((l.drop 6).take 3)) = true then (1099511627776 - numL (l.take 6), 1048575 - numL ((l.drop 6).take 3), l.drop 9, 0)
  else (0, 0, [], 4)

/-- what Key answers -/
def keyR (l : List UInt8) : List UInt8 × Int := if l.length ≤ 1000 then (keyL l, 0) else ([], 5)
/-- what the statements' key is -/
def keyF (l : List UInt8) : List UInt8 := if l.length ≤ 1000 then keyL l else [63]
/-- what Down answers -/
def downR (a b : Int) : List UInt8 × Int := if mayB a b = true then (downL a b, 0) else ([], 2)

theorem takeL_nil (out : List UInt8) : takeL out [] = ([], [], 3) := rfl
theorem takeL_end (out : List UInt8) (c : UInt8) (hc : c = 0) : takeL out [c] = ([], [], 3) := by subst hc; rfl
theorem takeL_stop (out u : List UInt8) (c d : UInt8) (hc : c = 0) (hd : d = 0) : takeL out (c :: d :: u) = (out, u, 0) := by subst hc hd; rfl
theorem takeL_bad (out u : List UInt8) (c d : UInt8) (hc : c = 0) (h0 : d ≠ 0) (h1 : d ≠ 1) : takeL out (c :: d :: u) = ([], [], 4) := by subst hc; simp [takeL, h0, h1]
theorem takeL_lim1 (out u : List UInt8) (c d : UInt8) (hc : c = 0) (hd : d = 1) (h : out.length = 1000) : takeL out (c :: d :: u) = ([], [], 5) := by subst hc hd; simp [takeL, h]
theorem takeL_go1 (out u : List UInt8) (c d : UInt8) (hc : c = 0) (hd : d = 1) (h : out.length ≠ 1000) : takeL out (c :: d :: u) = takeL (out ++ [0]) u := by subst hc hd; rw [takeL]; simp [h]
theorem takeL_lim (out u : List UInt8) (c : UInt8) (hc : c ≠ 0) (h : out.length = 1000) : takeL out (c :: u) = ([], [], 5) := by rw [takeL.eq_def]; simp [h, hc]
theorem takeL_go (out u : List UInt8) (c : UInt8) (hc : c ≠ 0) (h : out.length ≠ 1000) : takeL out (c :: u) = takeL (out ++ [c]) u := by rw [takeL.eq_def]; simp [h, hc]

theorem esc_append (a b : List UInt8) : esc (a ++ b) = esc a ++ esc b := by
  induction a with
  | nil => rfl
  | cons c l ih => simp only [List.cons_append, esc]; split <;> simp [ih]
theorem esc_length_le (l : List UInt8) : (esc l).length ≤ 2 * l.length := by
  induction l with
  | nil => simp [esc]
  | cons c l ih => simp only [esc]; split <;> simp <;> omega
theorem length_le_esc (l : List UInt8) : l.length ≤ (esc l).length := by
  induction l with
  | nil => simp [esc]
  | cons c l ih => simp only [esc]; split <;> simp <;> omega
theorem countB_zero (s : ByteArray) : Lib.countB s ⟨#[0]⟩ = s.data.toList.count 0 := Lib.count_one 0 _
theorem index_cons_eq (l : List UInt8) : Lib.index (0 :: l) [0] = 0 := by simp [Lib.index, List.isPrefixOf]
theorem index_cons_ne (c : UInt8) (l : List UInt8) (h : c ≠ 0) (i : Nat) (hi : Lib.index l [0] = i) : Lib.index (c :: l) [0] = ((i + 1 : Nat) : Int) := by
  have h1 : ((i : Int) == -1) = false := by rw [beq_eq_false_iff_ne]; omega
  have h2 : (0 == c) = false := by rw [beq_eq_false_iff_ne]; exact fun e => h e.symm
  simp [Lib.index, List.isPrefixOf, hi, h1, h2]
theorem replaceK_esc : ∀ (l : List UInt8), Lib.replaceK [0] [0, 1] (l.count 0) l = esc l := by
  intro l
  induction l with
  | nil => simp [Lib.replaceK, esc]
  | cons c l ih =>
    by_cases hc : c = 0
    · subst hc
      rw [List.count_cons_self, Lib.replaceK_hit [0] [0, 1] _ _ 0 (index_cons_eq l)]
      simp [esc, ih]
    · have hcc : (c :: l).count 0 = l.count 0 := List.count_cons_of_ne hc
      rw [hcc, show esc (c :: l) = c :: esc l by simp [esc, hc], ← ih]
      cases hn : l.count 0 with
      | zero => simp [Lib.replaceK]
      | succ n =>
        obtain ⟨i, hi⟩ := Lib.index_of_count (s := l) (old := [0]) (by rw [Lib.count_one]; omega)
        rw [Lib.replaceK_hit [0] [0, 1] n l i hi, Lib.replaceK_hit [0] [0, 1] n (c :: l) (i + 1) (index_cons_ne c l hc i hi)]
        simp [Nat.add_assoc]
theorem replaceAll_esc (l : List UInt8) : Lib.replaceAll l [0] [0, 1] = esc l := by
  have h : ([0] == ([0, 1] : List UInt8)) = false := by decide
  have h2 : Lib.replaceNum l [0] (-1) = l.count 0 := by simp [Lib.replaceNum, Lib.count_one]
  rw [Lib.replaceAll, Lib.replace, h, h2]
  exact replaceK_esc l
theorem beL_length (n : Int) (k : Nat) : (beL n k).length = k := by
  induction k with
  | zero => rfl
  | succ k ih => simp [beL, ih]
end Go.Proofs.YtocijpeminghoaaGreatDoor
namespace Go.Proofs.YtocijpeminghoaaGreatDoor
open Go Go.Lib
set_option linter.unusedVariables false
set_option linter.unusedSimpArgs false

theorem cmp_self (l : List UInt8) : compareBytes l l = 0 := by
  induction l with
  | nil => rfl
  | cons c l ih => simp [compareBytes, UInt8.lt_irrefl, ih]
theorem cmp_zero : ∀ {a b : List UInt8}, compareBytes a b = 0 → a = b
  | [], [], _ => rfl
  | [], _ :: _, h => by simp [compareBytes] at h
  | _ :: _, [], h => by simp [compareBytes] at h
  | c :: a, d :: b, h => by
    simp only [compareBytes] at h
    split at h
    · cases h
    · split at h
      · cases h
      · rename_i h1 h2
        have : c = d := UInt8.le_antisymm (UInt8.not_lt.1 h2) (UInt8.not_lt.1 h1)
        rw [this, cmp_zero h]
theorem zero_lt {c : UInt8} (h : c ≠ 0) : (0 : UInt8) < c := by
  rw [UInt8.lt_iff_toNat_lt]
  have : c.toNat ≠ 0 := fun e => h (UInt8.toNat_inj.1 e)
  show 0 < c.toNat
  omega
theorem not_lt_zero (c : UInt8) : ¬ c < 0 := by rw [UInt8.lt_iff_toNat_lt]; exact Nat.not_lt_zero _
theorem cmp_esc : ∀ (s t x y : List UInt8), compareBytes (esc s ++ 0 :: 0 :: x) (esc t ++ 0 :: 0 :: y) = if s = t then compareBytes x y else compareBytes s t
  | [], [], x, y => by simp [esc, compareBytes, UInt8.lt_irrefl]
  | [], d :: t, x, y => by
    by_cases h : d = 0
    · subst h; simp [esc, compareBytes, UInt8.lt_irrefl]
    · simp [esc, h, compareBytes, zero_lt h]
  | c :: s, [], x, y => by
    by_cases h : c = 0
    · subst h; simp [esc, compareBytes, UInt8.lt_irrefl]
    · simp [esc, h, compareBytes, zero_lt h, not_lt_zero]
  | c :: s, d :: t, x, y => by
    have ih := cmp_esc s t x y
    by_cases h : c = 0
    · subst h
      by_cases h' : d = 0
      · subst h'; simp [esc, compareBytes, UInt8.lt_irrefl, ih]
      · have : ¬ (0 : UInt8) = d := fun e => h' e.symm
        simp [esc, h', compareBytes, zero_lt h', this]
    · by_cases h' : d = 0
      · subst h'; simp [esc, h, compareBytes, zero_lt h, not_lt_zero]
      · simp only [esc, h, h', if_false, List.cons_append, compareBytes]
        by_cases e : c = d
        · subst e; simp [UInt8.lt_irrefl, ih]
        · have : ¬ (c :: s = d :: t) := fun e' => e (List.cons.inj e').1
          rw [if_neg this]
          by_cases h1 : c < d
          · simp [h1]
          · have h2 : d < c := by
              rcases UInt8.lt_or_lt_of_ne e with h3 | h3
              · exact absurd h3 h1
              · exact h3
            simp [h1, h2]
theorem cmp_key (s t : List UInt8) : compareBytes (keyL s) (keyL t) = compareBytes s t := by
  have := cmp_esc s t [] []
  simp only [keyL]
  rw [this]
  split
  · rename_i h; rw [h, cmp_self, cmp_self]
  · rfl
theorem cmp_keys (a b c d : List UInt8) : compareBytes (keyL a ++ keyL b) (keyL c ++ keyL d) = if compareBytes a c = 0 then compareBytes b d else compareBytes a c := by
  have := cmp_esc a c (keyL b) (keyL d)
  simp only [keyL, List.append_assoc, List.cons_append, List.nil_append] at this ⊢
  rw [this]
  by_cases h : a = c
  · rw [if_pos h, h, cmp_self, if_pos rfl]; exact cmp_key b d
  · rw [if_neg h, if_neg (fun e => h (cmp_zero e))]

theorem prefix_esc : ∀ (s t x : List UInt8), (esc t ++ [0, 0]).isPrefixOf (esc s ++ 0 :: 0 :: x) = decide (s = t)
  | [], [], x => by simp [esc, List.isPrefixOf]
  | [], d :: t, x => by
    by_cases h : d = 0
    · subst h; simp [esc, List.isPrefixOf]
    · simp [esc, h, List.isPrefixOf]
  | c :: s, [], x => by
    by_cases h : c = 0
    · subst h; simp [esc, List.isPrefixOf]
    · have : ¬ (0 : UInt8) = c := fun e => h e.symm
      simp [esc, h, List.isPrefixOf, this]
  | c :: s, d :: t, x => by
    have ih := prefix_esc s t x
    by_cases h : c = 0
    · subst h
      by_cases h' : d = 0
      · subst h'; simp [esc, List.isPrefixOf, ih]
      · have : ¬ (0 : UInt8) = d := fun e => h' e.symm
        simp [esc, h', List.isPrefixOf, this]
    · by_cases h' : d = 0
      · subst h'
        have : ¬ (0 : UInt8) = c := fun e => h e.symm
        simp [esc, h, List.isPrefixOf, this]
      · simp only [esc, h, h', if_false, List.cons_append, List.isPrefixOf, ih]
        by_cases e : c = d
        · subst e; simp
        · have e2 : ¬ d = c := fun e' => e e'.symm
          simp [e, e2]
theorem prefix_key (s t : List UInt8) : hasPrefix (keyL s) (keyL t) = decide (s = t) := prefix_esc s t []

/-! stamps -/
theorem cmp_append : ∀ (a c b d : List UInt8), a.length = c.length → compareBytes (a ++ b) (c ++ d) = if compareBytes a c = 0 then compareBytes b d else compareBytes a c
  | [], [], b, d, _ => by simp [compareBytes]
  | [], _ :: _, _, _, h => by simp at h
  | _ :: _, [], _, _, h => by simp at h
  | x :: a, y :: c, b, d, h => by
    have ih := cmp_append a c b d (by simpa using h)
    simp only [List.cons_append, compareBytes]
    split
    · rfl
    · split
      · rfl
      · exact ih
theorem beL_succ (n k : Nat) : beL (n : Int) (k + 1) = UInt8.ofNat (n / 256 ^ k % 256) :: beL (n : Int) k := by
  simp only [beL]
  congr 2
theorem beL_mod (n k : Nat) : ∀ j, j ≤ k → beL ((n % 256 ^ k : Nat) : Int) j = beL (n : Int) j := by
  intro j
  induction j with
  | zero => intro _; rfl
  | succ j ih =>
    intro hj
    rw [beL_succ, beL_succ, ih (by omega)]
    congr 2
    have e : 256 ^ k = 256 ^ j * (256 * 256 ^ (k - j - 1)) := by rw [← Nat.mul_assoc, ← Nat.pow_succ, ← Nat.pow_add]; congr 1; omega
    rw [e, Nat.mod_mul_right_div_self, Nat.mod_mul_right_mod]
theorem u8_ofNat_lt {a b : Nat} (ha : a < 256) (hb : b < 256) : (UInt8.ofNat a < UInt8.ofNat b) = (a < b) := by
  rw [UInt8.lt_iff_toNat_lt, UInt8.toNat_ofNat', UInt8.toNat_ofNat', Nat.mod_eq_of_lt (by simpa using ha), Nat.mod_eq_of_lt (by simpa using hb)]
theorem cmp_beL : ∀ (k m n : Nat), m < 256 ^ k → n < 256 ^ k → compareBytes (beL (m : Int) k) (beL (n : Int) k) = if m < n then -1 else if n < m then 1 else 0 := by
  intro k
  induction k with
  | zero => intro m n hm hn; simp at hm hn; subst hm hn; simp [beL, compareBytes]
  | succ k ih =>
    intro m n hm hn
    have hp : 0 < 256 ^ k := Nat.pow_pos (by decide)
    rw [beL_succ, beL_succ]
    rw [Nat.pow_succ, Nat.mul_comm] at hm hn
    have hm1 : m / 256 ^ k < 256 := Nat.div_lt_of_lt_mul (by rw [Nat.mul_comm]; exact hm)
    have hn1 : n / 256 ^ k < 256 := Nat.div_lt_of_lt_mul (by rw [Nat.mul_comm]; exact hn)
    rw [Nat.mod_eq_of_lt hm1, Nat.mod_eq_of_lt hn1]
    simp only [compareBytes, u8_ofNat_lt hm1 hn1, u8_ofNat_lt hn1 hm1]
    have dm := Nat.div_add_mod m (256 ^ k)
    have dn := Nat.div_add_mod n (256 ^ k)
    have lm := Nat.mod_lt m hp
    have ln := Nat.mod_lt n hp
    rcases Nat.lt_trichotomy (m / 256 ^ k) (n / 256 ^ k) with h | h | h
    · have : m < n := by
        have := Nat.mul_le_mul_left (256 ^ k) (show m / 256 ^ k + 1 ≤ n / 256 ^ k from h)
        rw [Nat.mul_add] at this; omega
      rw [if_pos h, if_pos this]
    · rw [h, if_neg (Nat.lt_irrefl _), if_neg (Nat.lt_irrefl _)]
      have := ih (m % 256 ^ k) (n % 256 ^ k) lm ln
      rw [beL_mod m k k (Nat.le_refl _), beL_mod n k k (Nat.le_refl _)] at this
      rw [this]
      rw [h] at dm
      have e1 : (m % 256 ^ k < n % 256 ^ k) = (m < n) := by rw [eq_iff_iff]; omega
      have e2 : (n % 256 ^ k < m % 256 ^ k) = (n < m) := by rw [eq_iff_iff]; omega
      simp only [e1, e2]
    · have : n < m := by
        have := Nat.mul_le_mul_left (256 ^ k) (show n / 256 ^ k + 1 ≤ m / 256 ^ k from h)
        rw [Nat.mul_add] at this; omega
      rw [if_neg (by omega), if_pos h, if_neg (by omega), if_pos this]
theorem may_iff {a b : Int} : mayB a b = true ↔ 0 ≤ a ∧ a ≤ 1099511627776 ∧ 0 ≤ b ∧ b ≤ 1048575 := by simp [mayB]
theorem downL_length (a b : Int) : (downL a b).length = 9 := by simp [downL, beL_length]
theorem cmp_down {a b c d : Int} (h : mayB a b = true) (h' : mayB c d = true) :
    compareBytes (downL a b) (downL c d) = if c < a ∨ (a = c ∧ d < b) then -1 else if a ≠ c ∨ b ≠ d then 1 else 0 := by
  rw [may_iff] at h h'
  obtain ⟨A, hA⟩ := Int.eq_ofNat_of_zero_le (show 0 ≤ 1099511627776 - a by omega)
  obtain ⟨B, hB⟩ := Int.eq_ofNat_of_zero_le (show 0 ≤ 1048575 - b by omega)
  obtain ⟨C, hC⟩ := Int.eq_ofNat_of_zero_le (show 0 ≤ 1099511627776 - c by omega)
  obtain ⟨D, hD⟩ := Int.eq_ofNat_of_zero_le (show 0 ≤ 1048575 - d by omega)
  have e6 : 256 ^ 6 = 281474976710656 := by decide
  have e3 : 256 ^ 3 = 16777216 := by decide
  simp only [downL]
  rw [cmp_append _ _ _ _ (by rw [beL_length, beL_length]), hA, hB, hC, hD, cmp_beL 6 A C (by omega) (by omega), cmp_beL 3 B D (by omega) (by omega)]
  by_cases h1 : A < C
  · rw [if_pos h1, if_neg (by decide), if_pos (by omega)]
  · rw [if_neg h1]
    by_cases h2 : C < A
    · rw [if_pos h2, if_neg (by decide), if_neg (by omega), if_pos (by omega)]
    · rw [if_neg h2, if_pos rfl]
      by_cases h3 : B < D
      · rw [if_pos h3, if_pos (by omega)]
      · rw [if_neg h3]
        by_cases h4 : D < B
        · rw [if_pos h4, if_neg (by omega), if_pos (by omega)]
        · rw [if_neg h4, if_neg (by omega), if_neg (by omega)]

theorem numL_snoc' (l : List UInt8) (c : UInt8) : numL (l ++ [c]) = numL l * 256 + c.toNat := by simp [numL]
theorem numL_nat (l : List UInt8) : ∃ n : Nat, numL l = n ∧ n < 256 ^ l.length := by
  suffices h : ∀ k, ∀ l : List UInt8, l.length = k → ∃ n : Nat, numL l = n ∧ n < 256 ^ k from h _ l rfl
  intro k
  induction k with
  | zero => intro l h; have := List.length_eq_zero_iff.1 h; subst this; exact ⟨0, by simp [numL], by simp⟩
  | succ k ih =>
    intro l h
    have hne : l ≠ [] := by intro e; subst e; simp at h
    obtain ⟨n, h1, h2⟩ := ih l.dropLast (by simp [h])
    have hb := (l.getLast hne).toNat_lt
    refine ⟨n * 256 + (l.getLast hne).toNat, ?_, by rw [Nat.pow_succ]; omega⟩
    rw [show numL l = numL (l.dropLast ++ [l.getLast hne]) by rw [List.dropLast_concat_getLast hne], numL_snoc', h1]
    omega
theorem numL_foldl (l : List UInt8) (n : Int) : l.foldl (fun n c => n * 256 + (c.toNat : Int)) n = n * 256 ^ l.length + numL l := by
  induction l generalizing n with
  | nil => simp [numL]
  | cons c l ih =>
    simp only [numL, List.foldl_cons, List.length_cons]
    rw [ih, ih (0 * 256 + (c.toNat : Int)), Int.pow_succ]
    rw [Int.zero_mul, Int.zero_add, Int.add_mul, Int.mul_assoc, Int.mul_comm 256 (256 ^ l.length)]
    omega
theorem numL_cons (c : UInt8) (l : List UInt8) : numL (c :: l) = c.toNat * 256 ^ l.length + numL l := by
  rw [numL, List.foldl_cons, numL_foldl]; simp
theorem numL_beL : ∀ (k n : Nat), numL (beL (n : Int) k) = ((n % 256 ^ k : Nat) : Int) := by
  intro k
  induction k with
  | zero => intro n; simp [beL, numL, Nat.mod_one]
  | succ k ih =>
    intro n
    rw [beL_succ, numL_cons, ih, beL_length, UInt8.toNat_ofNat', Nat.mod_eq_of_lt (show n / 256 ^ k % 256 < 2 ^ 8 by omega)]
    have : n % 256 ^ (k + 1) = n / 256 ^ k % 256 * 256 ^ k + n % 256 ^ k := by
      rw [Nat.pow_succ, Nat.mod_mul, Nat.mul_comm (256 ^ k)]; omega
    rw [this, Int.natCast_add, Int.natCast_mul, Int.natCast_pow]; rfl
theorem beL_numL (l : List UInt8) : beL (numL l) l.length = l := by
  induction l with
  | nil => rfl
  | cons c l ih =>
    obtain ⟨n, hn, hlt⟩ := numL_nat l
    have hc := c.toNat_lt
    have e : numL (c :: l) = ((c.toNat * 256 ^ l.length + n : Nat) : Int) := by rw [numL_cons, hn, Int.natCast_add, Int.natCast_mul, Int.natCast_pow]; rfl
    rw [List.length_cons, e, beL_succ]
    have hp : 0 < 256 ^ l.length := Nat.pow_pos (by decide)
    have h1 : (c.toNat * 256 ^ l.length + n) / 256 ^ l.length = c.toNat := by
      rw [Nat.mul_comm, Nat.mul_add_div hp, Nat.div_eq_of_lt hlt]; rfl
    rw [h1, Nat.mod_eq_of_lt (by simpa using hc)]
    have h2 := beL_mod (c.toNat * 256 ^ l.length + n) l.length l.length (Nat.le_refl _)
    rw [Nat.mul_add_mod', Nat.mod_eq_of_lt hlt] at h2
    rw [← h2, ← hn, ih]
    simp
/-! what was written is read -/
theorem takeL_key : ∀ (s out x : List UInt8), out.length + s.length ≤ 1000 → takeL out (esc s ++ 0 :: 0 :: x) = (out ++ s, x, 0)
  | [], out, x, _ => by simp [esc, takeL_stop]
  | c :: s, out, x, h => by
    simp only [List.length_cons] at h
    by_cases hc : c = 0
    · subst hc
      simp only [esc, if_true, List.cons_append]
      rw [takeL_go1 _ _ _ _ rfl rfl (by omega), takeL_key s _ x (by simp; omega)]
      simp
    · simp only [esc, hc, if_false, List.cons_append]
      rw [takeL_go _ _ _ hc (by omega), takeL_key s _ x (by simp; omega)]
      simp
theorem takeL_keyL (s x : List UInt8) (h : s.length ≤ 1000) : takeL [] (keyL s ++ x) = (s, x, 0) := by
  simpa [keyL] using takeL_key s [] x (by simpa using h)
/-- what can be read is written so -/
theorem takeL_inv : ∀ (n : Nat) (t out : List UInt8), t.length ≤ n → out.length ≤ 1000 →
    ((∃ e, takeL out t = ([], [], e) ∧ e ≠ 0) ∨ ∃ s x, takeL out t = (out ++ s, x, 0) ∧ esc s ++ 0 :: 0 :: x = t ∧ (out ++ s).length ≤ 1000) := by
  intro n
  induction n with
  | zero => intro t out ht _; have := List.length_eq_zero_iff.1 (Nat.le_zero.1 ht); subst this; exact .inl ⟨3, rfl, by decide⟩
  | succ n ih =>
    intro t out ht ho
    cases t with
    | nil => exact .inl ⟨3, rfl, by decide⟩
    | cons c t =>
      simp only [List.length_cons] at ht
      by_cases hc : c = 0
      · cases t with
        | nil => exact .inl ⟨3, takeL_end _ _ hc, by decide⟩
        | cons d u =>
          simp only [List.length_cons] at ht
          by_cases h0 : d = 0
          · refine .inr ⟨[], u, ?_, by simp [esc, hc, h0], by simpa using ho⟩
            rw [takeL_stop _ _ _ _ hc h0]; simp
          · by_cases h1 : d = 1
            · by_cases hl : out.length = 1000
              · exact .inl ⟨5, takeL_lim1 _ _ _ _ hc h1 hl, by decide⟩
              · rw [takeL_go1 _ _ _ _ hc h1 hl]
                rcases ih u (out ++ [0]) (by omega) (by simp; omega) with h | ⟨s, x, e1, e2, e3⟩
                · exact .inl h
                · refine .inr ⟨0 :: s, x, ?_, ?_, ?_⟩
                  · rw [e1]; simp
                  · simp [esc, hc, h1, e2]
                  · simpa using e3
            · exact .inl ⟨4, takeL_bad _ _ _ _ hc h0 h1, by decide⟩
      · by_cases hl : out.length = 1000
        · exact .inl ⟨5, takeL_lim _ _ _ hc hl, by decide⟩
        · rw [takeL_go _ _ _ hc hl]
          rcases ih t (out ++ [c]) (by omega) (by simp; omega) with h | ⟨s, x, e1, e2, e3⟩
          · exact .inl h
          · refine .inr ⟨c :: s, x, ?_, ?_, ?_⟩
            · rw [e1]; simp
            · simp [esc, hc, e2]
            · simpa using e3
theorem takeL_again (t : List UInt8) : (∃ e, takeL [] t = ([], [], e) ∧ e ≠ 0) ∨ ∃ s x, takeL [] t = (s, x, 0) ∧ keyF s ++ x = t ∧ s.length ≤ 1000 := by
  rcases takeL_inv t.length t [] (Nat.le_refl _) (by simp) with h | ⟨s, x, e1, e2, e3⟩
  · exact .inl h
  · have e3' : s.length ≤ 1000 := by simpa using e3
    exact .inr ⟨s, x, by simpa using e1, by simp [keyF, keyL, e3', e2], e3'⟩
/-- what is cut is told -/
theorem takeL_cut : ∀ (s out : List UInt8) (k : Nat), k < (esc s ++ [0, 0]).length → out.length + s.length ≤ 1000 → takeL out ((esc s ++ [0, 0]).take k) = ([], [], 3)
  | [], out, k, hk, _ => by
    simp [esc] at hk
    have : k = 0 ∨ k = 1 := by omega
    rcases this with rfl | rfl <;> rfl
  | c :: s, out, k, hk, h => by
    simp only [List.length_cons] at h
    cases k with
    | zero => rfl
    | succ k =>
      by_cases hc : c = 0
      · subst hc
        simp only [esc, if_true, List.cons_append, List.length_cons] at hk ⊢
        cases k with
        | zero => rfl
        | succ k =>
          simp only [List.take_succ_cons]
          rw [takeL_go1 _ _ _ _ rfl rfl (by omega)]
          exact takeL_cut s _ k (by omega) (by simp; omega)
      · simp only [esc, hc, if_false, List.cons_append, List.length_cons] at hk ⊢
        simp only [List.take_succ_cons]
        rw [takeL_go _ _ _ hc (by omega)]
        exact takeL_cut s _ k (by omega) (by simp; omega)
theorem takeL_cutKey (s : List UInt8) (k : Nat) (h : s.length ≤ 1000) (hk : k < (keyL s).length) : takeL [] ((keyL s).take k) = ([], [], 3) :=
  takeL_cut s [] k hk (by simpa using h)
theorem takeDown_down {a b : Int} (h : mayB a b = true) (x : List UInt8) : takeDownL (downL a b ++ x) = (a, b, x, 0) := by
  have hh := may_iff.1 h
  obtain ⟨A, hA⟩ := Int.eq_ofNat_of_zero_le (show 0 ≤ 1099511627776 - a by omega)
  obtain ⟨B, hB⟩ := Int.eq_ofNat_of_zero_le (show 0 ≤ 1048575 - b by omega)
  have e6 : 256 ^ 6 = 281474976710656 := by decide
  have e3 : 256 ^ 3 = 16777216 := by decide
  have l6 : (beL (1099511627776 - a) 6).length = 6 := beL_length _ _
  have l3 : (beL (1048575 - b) 3).length = 3 := beL_length _ _
  have t1 : (downL a b ++ x).take 6 = beL (1099511627776 - a) 6 := by
    simp only [downL, List.append_assoc]
    rw [List.take_append_of_le_length (by omega), List.take_of_length_le (by omega)]
  have t2 : ((downL a b ++ x).drop 6).take 3 = beL (1048575 - b) 3 := by
    simp only [downL, List.append_assoc]
    rw [List.drop_append_of_le_length (by omega), List.drop_of_length_le (by omega), List.nil_append, List.take_append_of_le_length (by omega), List.take_of_length_le (by omega)]
  have t3 : (downL a b ++ x).drop 9 = x := by
    rw [List.drop_append_of_le_length (by rw [downL_length]; omega), List.drop_of_length_le (by rw [downL_length]; omega)]; rfl
  have n1 : numL (beL (1099511627776 - a) 6) = 1099511627776 - a := by rw [hA, numL_beL, Nat.mod_eq_of_lt (by omega)]
  have n2 : numL (beL (1048575 - b) 3) = 1048575 - b := by rw [hB, numL_beL, Nat.mod_eq_of_lt (by omega)]
  unfold takeDownL
  rw [if_neg (by rw [List.length_append, downL_length]; omega), t1, t2, t3, n1, n2]
  rw [show (1099511627776 : Int) - (1099511627776 - a) = a by omega, show (1048575 : Int) - (1048575 - b) = b by omega, if_pos h]
theorem takeDown_again (t : List UInt8) : (∃ e, takeDownL t = (0, 0, [], e) ∧ e ≠ 0) ∨ ∃ a b x, takeDownL t = (a, b, x, 0) ∧ mayB a b = true ∧ downL a b ++ x = t := by
  unfold takeDownL
  by_cases h : t.length < 9
  · rw [if_pos h]; exact .inl ⟨3, rfl, by decide⟩
  · rw [if_neg h]
    by_cases hm : mayB (1099511627776 - numL (t.take 6)) (1048575 - numL ((t.drop 6).take 3)) = true
    · rw [if_pos hm]
      refine .inr ⟨_, _, _, rfl, hm, ?_⟩
      have l6 : (t.take 6).length = 6 := by rw [List.length_take]; omega
      have l3 : ((t.drop 6).take 3).length = 3 := by rw [List.length_take, List.length_drop]; omega
      have e1 := beL_numL (t.take 6)
      have e2 := beL_numL ((t.drop 6).take 3)
      rw [l6] at e1
      rw [l3] at e2
      simp only [downL]
      rw [show (1099511627776 : Int) - (1099511627776 - numL (t.take 6)) = numL (t.take 6) by omega, show (1048575 : Int) - (1048575 - numL ((t.drop 6).take 3)) = numL ((t.drop 6).take 3) by omega, e1, e2]
      rw [List.append_assoc, show t.drop 9 = (t.drop 6).drop 3 by rw [List.drop_drop], List.take_append_drop, List.take_append_drop]
    · rw [if_neg hm]; exact .inl ⟨4, rfl, by decide⟩
theorem takeDown_short (t : List UInt8) (h : t.length < 9) : takeDownL t = (0, 0, [], 3) := by unfold takeDownL; rw [if_pos h]
end Go.Proofs.YtocijpeminghoaaGreatDoor
namespace Go.Proofs.YtocijpeminghoaaGreatDoor
open Go
set_option linter.unusedVariables false

/-- a reader: what is left, and whether something was wrong -/
abbrev St := List UInt8 × Bool
def valN (s : St) : Nat := (takeN s.1).1
def nextN (s : St) : St := ((takeN s.1).2.1, s.2 || decide ((takeN s.1).2.2 ≠ 0))
def valS (s : St) : List UInt8 := (takeS s.1).1
def nextS (s : St) : St := ((takeS s.1).2.1, s.2 || decide ((takeS s.1).2.2 ≠ 0))
def valF (s : St) : Bool := decide (valN s = 1)
def nextF (s : St) : St := ((nextN s).1, (nextN s).2 || decide (1 < valN s))
def offE (s : St) (e : Int) : Int := if s.2 = true ∨ s.1 ≠ [] ∨ e ≠ 0 then 4 else 0
/-- the document's -/
def badN (s : St) : Bool := decide ((takeN s.1).2.2 ≠ 0) || s.2
def dvalN (s : St) : Nat := if badN s = true then 0 else (takeN s.1).1
def dnextN (s : St) : St := if badN s = true then (s.1, true) else ((takeN s.1).2.1, s.2)
def badS (s : St) : Bool := decide ((takeS s.1).2.2 ≠ 0) || s.2
def dvalS (s : St) : List UInt8 := if badS s = true then [] else (takeS s.1).1
def dnextS (s : St) : St := if badS s = true then (s.1, true) else ((takeS s.1).2.1, s.2)
def dvalF (s : St) : Bool := decide (dvalN s = 1)
def dnextF (s : St) : St := ((dnextN s).1, (dnextN s).2 || decide (1 < dvalN s))
def endB (s : St) : Bool := !s.2 && decide (s.1 = [])

theorem takeS_length (l : List UInt8) : (takeS l).2.1.length ≤ l.length ∧ (takeS l).1.length ≤ l.length := by
  have h : (takeN l).2.1.length ≤ l.length := by
    cases l with
    | nil => simp [takeN]
    | cons m t =>
      rw [takeN]
      split
      · simp
      split
      · simp
      split
      · simp
      · simp; omega
  unfold takeS
  split
  · simp
  split
  · simp
  split
  · simp
  · simp; omega
theorem nextN_length (s : St) : (nextN s).1.length ≤ s.1.length := by
  unfold nextN
  cases hs : s.1 with
  | nil => simp [takeN]
  | cons m t =>
    rw [takeN]
    split
    · simp
    split
    · simp
    split
    · simp
    · simp; omega
theorem nextS_length (s : St) : (nextS s).1.length ≤ s.1.length := (takeS_length s.1).1
theorem nextF_length (s : St) : (nextF s).1.length ≤ s.1.length := nextN_length s
theorem dnextN_length (s : St) : (dnextN s).1.length ≤ s.1.length := by
  unfold dnextN
  split
  · exact Nat.le_refl _
  · exact nextN_length s
theorem dnextS_length (s : St) : (dnextS s).1.length ≤ s.1.length := by
  unfold dnextS
  split
  · exact Nat.le_refl _
  · exact nextS_length s
theorem dnextF_length (s : St) : (dnextF s).1.length ≤ s.1.length := dnextN_length s

/-- both are wrong, or both stand alike -/
def Sim (s t : St) : Prop := (s.2 = true ∧ t.2 = true) ∨ (s = t ∧ s.2 = false)
theorem Sim.refl (l : List UInt8) (b : Bool) : Sim (l, b) (l, b) := by
  cases b
  · exact .inr ⟨rfl, rfl⟩
  · exact .inl ⟨rfl, rfl⟩
theorem Sim.bad {s t : St} (h : Sim s t) : s.2 = t.2 := by
  rcases h with ⟨h1, h2⟩ | ⟨rfl, _⟩
  · rw [h1, h2]
  · rfl
theorem Sim.end {s t : St} (h : Sim s t) : endB t = decide (offE s 0 = 0) := by
  rcases h with ⟨h1, h2⟩ | ⟨rfl, h⟩
  · simp [endB, offE, h1, h2]
  · simp [endB, offE, h]
theorem nextN_bad {s : St} (h : s.2 = true) : (nextN s).2 = true := by simp [nextN, h]
theorem dnextN_bad {s : St} (h : s.2 = true) : (dnextN s).2 = true := by simp [dnextN, badN, h]
theorem nextS_bad {s : St} (h : s.2 = true) : (nextS s).2 = true := by simp [nextS, h]
theorem dnextS_bad {s : St} (h : s.2 = true) : (dnextS s).2 = true := by simp [dnextS, badS, h]
theorem nextF_bad {s : St} (h : s.2 = true) : (nextF s).2 = true := by simp [nextF, nextN_bad h]
theorem dnextF_bad {s : St} (h : s.2 = true) : (dnextF s).2 = true := by simp [dnextF, dnextN_bad h]
theorem Sim.num {s t : St} (h : Sim s t) : Sim (nextN s) (dnextN t) ∧ ((nextN s).2 = false → valN s = dvalN t) := by
  rcases h with ⟨h1, h2⟩ | ⟨rfl, h⟩
  · exact ⟨.inl ⟨nextN_bad h1, dnextN_bad h2⟩, fun h => by rw [nextN_bad h1] at h; simp at h⟩
  · by_cases he : (takeN s.1).2.2 = 0
    · have hb : badN s = false := by simp [badN, he, h]
      refine ⟨.inr ⟨?_, ?_⟩, fun _ => ?_⟩
      · simp [nextN, dnextN, hb, he]
      · simp [nextN, he, h]
      · simp [valN, dvalN, hb]
    · have hb : badN s = true := by simp [badN, he]
      refine ⟨.inl ⟨by simp [nextN, he], by simp [dnextN, hb]⟩, fun h => ?_⟩
      simp [nextN, he] at h
theorem Sim.str {s t : St} (h : Sim s t) : Sim (nextS s) (dnextS t) ∧ ((nextS s).2 = false → valS s = dvalS t) := by
  rcases h with ⟨h1, h2⟩ | ⟨rfl, h⟩
  · exact ⟨.inl ⟨nextS_bad h1, dnextS_bad h2⟩, fun h => by rw [nextS_bad h1] at h; simp at h⟩
  · by_cases he : (takeS s.1).2.2 = 0
    · have hb : badS s = false := by simp [badS, he, h]
      refine ⟨.inr ⟨?_, ?_⟩, fun _ => ?_⟩
      · simp [nextS, dnextS, hb, he]
      · simp [nextS, he, h]
      · simp [valS, dvalS, hb]
    · have hb : badS s = true := by simp [badS, he]
      refine ⟨.inl ⟨by simp [nextS, he], by simp [dnextS, hb]⟩, fun h => ?_⟩
      simp [nextS, he] at h
theorem Sim.flag {s t : St} (h : Sim s t) : Sim (nextF s) (dnextF t) ∧ ((nextF s).2 = false → valF s = dvalF t) := by
  have hn := h.num
  rcases hn.1 with ⟨h1, h2⟩ | ⟨h1, h2⟩
  · exact ⟨.inl ⟨by simp [nextF, h1], by simp [dnextF, h2]⟩, fun h => by simp [nextF, h1] at h⟩
  · have hv := hn.2 h2
    have hd : dnextF t = nextF s := by simp [dnextF, nextF, ← h1, hv]
    refine ⟨?_, fun _ => by simp [valF, dvalF, hv]⟩
    rw [hd]
    exact Sim.refl _ _

theorem Sim.ends {s t : St} (h : Sim s t) (hb : offE s 0 = 0) : s.2 = false := by
  cases hs : s.2 with
  | false => rfl
  | true => simp [offE, hs] at hb
theorem offE_cases (s : St) (e : Int) : offE s e = 0 ∨ offE s e = 4 := by
  unfold offE
  split <;> simp
/-- what a text says: a number -/
def takeNumR (l : List UInt8) : Nat × Int := if offE (nextN (l, false)) 0 = 0 then (valN (l, false), 0) else (0, 4)
def takeNumD (l : List UInt8) : Nat × Int := if endB (dnextN (l, false)) = true then (dvalN (l, false), 0) else (0, 4)
theorem takeNum_eq (l : List UInt8) : takeNumD l = takeNumR l := by
  have h := (Sim.refl l false).num
  unfold takeNumD takeNumR
  rw [h.1.end]
  by_cases h0 : offE (nextN (l, false)) 0 = 0
  · simp only [h0, decide_true, if_true]
    rw [h.2 (h.1.ends h0)]
  · simp [h0]
/-- a stamp -/
def st2 (l : List UInt8) : St := nextN (nextN (l, false))
def dst2 (l : List UInt8) : St := dnextN (dnextN (l, false))
def takeStampR (l : List UInt8) (ck : Int → Int → Int) : Nat × Nat × Int := if offE (st2 l) (ck (valN (l, false)) (valN (nextN (l, false)))) = 0 then (valN (l, false), valN (nextN (l, false)), 0) else (0, 0, 4)
def takeStampD (l : List UInt8) (ck : Int → Int → Int) : Nat × Nat × Int := if endB (dst2 l) = true ∧ ck (dvalN (l, false)) (dvalN (dnextN (l, false))) = 0 then (dvalN (l, false), dvalN (dnextN (l, false)), 0) else (0, 0, 4)
theorem nextN_false {s : St} (h : (nextN s).2 = false) : s.2 = false := by
  cases hs : s.2 with
  | false => rfl
  | true => rw [nextN_bad hs] at h; simp at h
theorem nextS_false {s : St} (h : (nextS s).2 = false) : s.2 = false := by
  cases hs : s.2 with
  | false => rfl
  | true => rw [nextS_bad hs] at h; simp at h
theorem nextF_false {s : St} (h : (nextF s).2 = false) : (nextN s).2 = false ∧ s.2 = false := by
  have h1 : (nextN s).2 = false := by
    cases hs : (nextN s).2 with
    | false => rfl
    | true => simp [nextF, hs] at h
  exact ⟨h1, nextN_false h1⟩
theorem offE_split (s : St) (e : Int) : (offE s e = 0) = (offE s 0 = 0 ∧ e = 0) := by
  unfold offE
  by_cases h1 : s.2 = true <;> by_cases h2 : s.1 = [] <;> by_cases h3 : e = 0 <;> simp [h1, h2, h3]
theorem takeStamp_eq (l : List UInt8) (ck : Int → Int → Int) : takeStampD l ck = takeStampR l ck := by
  have h := (Sim.refl l false).num
  have h2 := h.1.num
  have hs := offE_split (nextN (nextN (l, false)))
  unfold takeStampD takeStampR dst2 st2
  rw [h2.1.end]
  by_cases h0 : offE (nextN (nextN (l, false))) 0 = 0
  · have hb := h2.1.ends h0
    rw [← h2.2 hb, ← h.2 (nextN_false hb)]
    by_cases hc : ck (valN (l, false)) (valN (nextN (l, false))) = 0
    · rw [if_pos ⟨by simp [h0], hc⟩, if_pos (by rw [hs]; exact ⟨h0, hc⟩)]
    · rw [if_neg (fun e => hc e.2), if_neg (by rw [hs]; exact fun e => hc e.2)]
  · rw [if_neg (by simp [h0]), if_neg (by rw [hs]; exact fun e => h0 e.1)]
/-- a version -/
def verR (l : List UInt8) : St := if valF (l, false) = true then nextS (nextF (l, false)) else nextF (l, false)
def verD (l : List UInt8) : St := if dvalF (l, false) = true then dnextS (dnextF (l, false)) else dnextF (l, false)
def takeVerR (l : List UInt8) : List UInt8 × Bool × Int :=
  if offE (verR l) 0 = 0 then ((if valF (l, false) = true then valS (nextF (l, false)) else []), valF (l, false), 0) else ([], false, 4)
def takeVerD (l : List UInt8) : List UInt8 × Bool × Int :=
  if endB (verD l) = true then ((if dvalF (l, false) = true then dvalS (dnextF (l, false)) else []), dvalF (l, false), 0) else ([], false, 4)
theorem takeVer_eq (l : List UInt8) : takeVerD l = takeVerR l := by
  have h := (Sim.refl l false).flag
  have h2 := h.1.str
  unfold takeVerD takeVerR verD verR
  by_cases hb : (nextF (l, false)).2 = false
  · rw [← h.2 hb]
    by_cases hv : valF (l, false) = true
    · simp only [hv, if_true]
      rw [h2.1.end]
      by_cases h0 : offE (nextS (nextF (l, false))) 0 = 0
      · simp only [h0, decide_true, if_true]
        rw [h2.2 (h2.1.ends h0)]
      · simp [h0]
    · simp only [hv]
      simp only [Bool.false_eq_true, if_false]
      rw [h.1.end]
      simp
  · have hb : (nextF (l, false)).2 = true := by simpa using hb
    have hd : (dnextF (l, false)).2 = true := by rw [← h.1.bad]; exact hb
    have e1 : ∀ c : Bool, endB (if c = true then dnextS (dnextF (l, false)) else dnextF (l, false)) = false := by
      intro c
      cases c <;> simp [endB, hd, dnextS_bad hd]
    have e2 : ∀ c : Bool, ¬ offE (if c = true then nextS (nextF (l, false)) else nextF (l, false)) 0 = 0 := by
      intro c
      cases c <;> simp [offE, hb, nextS_bad hb]
    rw [e1, if_neg (e2 _)]
    simp
end Go.Proofs.YtocijpeminghoaaGreatDoor
namespace Go.Proofs.YtocijpeminghoaaGreatDoor
open Go
set_option linter.unusedVariables false

structure Chg where
  seq : Int
  value : ByteArray
  del : Bool
structure Wrt where
  key : ByteArray
  seq : Int
structure Itt where
  id : Int
  epoch : Int
  prio : Int
  anchor : ByteArray
  sw : Int
  sl : Int
  bw : Int
  bl : Int
  l : List Chg
structure Rec where
  id : Int
  epoch : Int
  status : Int
  prio : Int
  anchor : ByteArray
  sw : Int
  sl : Int
  bw : Int
  bl : Int
  l : List Wrt

def idB (n : Int) : Bool := decide (1 ≤ n) && decide (n ≤ 9007199254740991)
def plainB (id epoch prio : Int) : Bool := idB id && decide (0 ≤ epoch) && decide (epoch ≤ 9007199254740991) && decide (1 ≤ prio) && decide (prio ≤ 1000)
def headB (id epoch prio : Int) (anchor : ByteArray) (ps : List (Int × Int)) : Bool := plainB id epoch prio && (checkE anchor.size == 0) && ps.all fun p => mayB p.1 p.2
def chgOk (last : Int) (c : Chg) : Bool := decide (last < c.seq) && decide (c.seq ≤ 9007199254740991) && decide (c.value.size ≤ 64) && !(c.del && !(c.value.size == 0))
def chgsOk : Int → List Chg → Bool
  | _, [] => true
  | last, c :: r => chgOk last c && chgsOk c.seq r
def lastSeq : Int → List Chg → Int
  | last, [] => last
  | _, c :: r => lastSeq c.seq r
theorem chgsOk_snoc : ∀ (l : List Chg) (last : Int) (c : Chg), chgsOk last (l ++ [c]) = (chgsOk last l && chgOk (lastSeq last l) c)
  | [], last, c => by simp [chgsOk, lastSeq]
  | x :: r, last, c => by simp [chgsOk, lastSeq, chgsOk_snoc r, Bool.and_assoc]
theorem lastSeq_snoc : ∀ (l : List Chg) (last : Int) (c : Chg), lastSeq last (l ++ [c]) = c.seq
  | [], last, c => rfl
  | x :: r, last, c => lastSeq_snoc r _ c
theorem chgsOk_app : ∀ (l m : List Chg) (last : Int), chgsOk last l = false → chgsOk last (l ++ m) = false
  | [], m, last, h => by simp [chgsOk] at h
  | x :: r, m, last, h => by
    simp only [chgsOk, Bool.and_eq_false_iff] at h
    simp only [List.cons_append, chgsOk, Bool.and_eq_false_iff]
    rcases h with h | h
    · exact .inl h
    · exact .inr (chgsOk_app r m _ h)
def ittOk (x : Itt) : Bool := headB x.id x.epoch x.prio x.anchor [(x.sw, x.sl), (x.bw, x.bl)] && decide (1 ≤ x.l.length) && decide (x.l.length ≤ 16) && chgsOk 0 x.l
def okE (b : Bool) : Int := if b = true then 0 else 2

def chgCells (c : Chg) : List Value := [.int .i64 c.seq, .string c.value, .bool c.del]
def wrtCells (c : Wrt) : List Value := [.string c.key, .int .i64 c.seq]
def chgW (c : Chg) : List UInt8 := numW c.seq ++ (numW (if c.del then 1 else 0) ++ strW c.value.data.toList)
def ittW (x : Itt) : List UInt8 := numW x.id ++ numW x.epoch ++ numW x.prio ++ strW x.anchor.data.toList ++ (numW x.sw ++ numW x.sl) ++ (numW x.bw ++ numW x.bl) ++ numW x.l.length ++ x.l.flatMap chgW
def ittT (x : Itt) : List UInt8 := if ittOk x = true then ittW x else []

/-! lists that are compared element by element -/
def eqL {α : Type} (f : α → α → Bool) : List α → List α → Bool
  | [], [] => true
  | a :: x, b :: y => f a b && eqL f x y
  | _, _ => false
theorem eqL_len {α : Type} {f : α → α → Bool} : ∀ {a b : List α}, a.length ≠ b.length → eqL f a b = false
  | [], [], h => absurd rfl h
  | [], _ :: _, _ => rfl
  | _ :: _, [], _ => rfl
  | a :: x, b :: y, h => by
    simp only [eqL, eqL_len (a := x) (b := y) (by simpa using h), Bool.and_false]
theorem eqL_snoc {α : Type} {f : α → α → Bool} : ∀ {a b : List α} (c d : α), a.length = b.length → eqL f (a ++ [c]) (b ++ [d]) = (eqL f a b && f c d)
  | [], [], c, d, _ => by simp [eqL]
  | [], _ :: _, _, _, h => by simp at h
  | _ :: _, [], _, _, h => by simp at h
  | a :: x, b :: y, c, d, h => by
    simp only [List.cons_append, eqL, eqL_snoc (a := x) (b := y) c d (by simpa using h), Bool.and_assoc]
theorem eqL_app {α : Type} {f : α → α → Bool} : ∀ {a b : List α} (x y : List α), a.length = b.length → eqL f a b = false → eqL f (a ++ x) (b ++ y) = false
  | [], [], x, y, _, h => by simp [eqL] at h
  | [], _ :: _, _, _, h, _ => by simp at h
  | _ :: _, [], _, _, h, _ => by simp at h
  | a :: p, b :: q, x, y, hl, h => by
    simp only [eqL, Bool.and_eq_false_iff] at h
    simp only [List.cons_append, eqL, Bool.and_eq_false_iff]
    rcases h with h | h
    · exact .inl h
    · exact .inr (eqL_app x y (by simpa using hl) h)
theorem eqL_self {α : Type} {f : α → α → Bool} (hf : ∀ a, f a a = true) : ∀ l : List α, eqL f l l = true
  | [] => rfl
  | a :: x => by simp [eqL, hf, eqL_self hf x]
def eqChg (c d : Chg) : Bool := (c.seq == d.seq) && (c.value.toList == d.value.toList) && (c.del == d.del)
def eqWrt (c d : Wrt) : Bool := (c.key.toList == d.key.toList) && (c.seq == d.seq)
def eqItt (a b : Itt) : Bool := (a.id == b.id) && (a.epoch == b.epoch) && (a.prio == b.prio) && (a.anchor.toList == b.anchor.toList) && (a.sw == b.sw) && (a.sl == b.sl) && (a.bw == b.bw) && (a.bl == b.bl) && eqL eqChg a.l b.l
def eqRec (a b : Rec) : Bool := (a.id == b.id) && (a.epoch == b.epoch) && (a.status == b.status) && (a.prio == b.prio) && (a.anchor.toList == b.anchor.toList) && (a.sw == b.sw) && (a.sl == b.sl) && (a.bw == b.bw) && (a.bl == b.bl) && eqL eqWrt a.l b.l
theorem eqChg_self (c : Chg) : eqChg c c = true := by simp [eqChg]
theorem eqWrt_self (c : Wrt) : eqWrt c c = true := by simp [eqWrt]
theorem eqItt_self (a : Itt) : eqItt a a = true := by simp [eqItt, eqL_self eqChg_self]
theorem eqRec_self (a : Rec) : eqRec a a = true := by simp [eqRec, eqL_self eqWrt_self]
end Go.Proofs.YtocijpeminghoaaGreatDoor
namespace Go.Proofs.YtocijpeminghoaaGreatDoor
open Go Go.Lib
set_option linter.unusedVariables false

theorem less_cmp : ∀ a b : List UInt8, Op.bytesLess a b = decide (compareBytes a b = -1)
  | [], [] => by simp [Op.bytesLess, compareBytes]
  | _ :: _, [] => by simp [Op.bytesLess, compareBytes]
  | [], _ :: _ => by simp [Op.bytesLess, compareBytes]
  | a :: x, b :: y => by
    rw [Op.bytesLess, compareBytes, less_cmp x y]
    by_cases h1 : a < b
    · simp [h1]
    · by_cases h2 : b < a
      · have : a ≠ b := by rintro rfl; exact h1 h2
        simp [h1, h2, this]
      · have : a = b := by
          rw [UInt8.lt_iff_toNat_lt] at h1 h2
          exact UInt8.toNat_inj.1 (by omega)
        subst this
        simp [h1]
theorem less_cons (c : UInt8) (a b : List UInt8) : Op.bytesLess (c :: a) (c :: b) = Op.bytesLess a b := by
  rw [Op.bytesLess]
  have : ¬ c < c := by rw [UInt8.lt_iff_toNat_lt]; omega
  simp [this]
theorem cmp_key_app (s t x y : List UInt8) : compareBytes (keyL s ++ x) (keyL t ++ y) = if s = t then compareBytes x y else compareBytes s t := by
  have := cmp_esc s t x y
  simpa [keyL, List.append_assoc] using this
theorem less_key (s t : List UInt8) : Op.bytesLess (keyL s) (keyL t) = Op.bytesLess s t := by rw [less_cmp, less_cmp, cmp_key]
theorem keyL_inj {s t : List UInt8} (h : keyL s = keyL t) : s = t := by
  have := cmp_key s t
  rw [h, cmp_self] at this
  exact cmp_zero this.symm
theorem less_key_app {s t : List UInt8} (h : s ≠ t) (x y : List UInt8) : Op.bytesLess (keyL s ++ x) (keyL t ++ y) = Op.bytesLess s t := by
  rw [less_cmp, less_cmp, cmp_key_app, if_neg h]
theorem less_key_same (s x y : List UInt8) : Op.bytesLess (keyL s ++ x) (keyL s ++ y) = Op.bytesLess x y := by
  rw [less_cmp, less_cmp, cmp_key_app, if_pos rfl]
theorem less_self (s : List UInt8) : Op.bytesLess s s = false := by rw [less_cmp, cmp_self]; rfl
theorem downL_inj {a b c d : Int} (h1 : mayB a b = true) (h2 : mayB c d = true) (h : downL a b = downL c d) : a = c ∧ b = d := by
  have h3 := cmp_down h1 h2
  rw [h, cmp_self] at h3
  by_cases x : c < a ∨ a = c ∧ d < b
  · rw [if_pos x] at h3; simp at h3
  · rw [if_neg x] at h3
    by_cases y : a ≠ c ∨ b ≠ d
    · rw [if_pos y] at h3; simp at h3
    · omega
theorem less_down {a b c d : Int} (h1 : mayB a b = true) (h2 : mayB c d = true) : Op.bytesLess (downL a b) (downL c d) = decide (c < a ∨ a = c ∧ d < b) := by
  rw [less_cmp, cmp_down h1 h2]
  by_cases x : c < a ∨ a = c ∧ d < b
  · rw [if_pos x]; simp [x]
  · rw [if_neg x]
    by_cases y : a ≠ c ∨ b ≠ d
    · rw [if_pos y]; simp [x]
    · rw [if_neg y]; simp [x]
end Go.Proofs.YtocijpeminghoaaGreatDoor
namespace Go.Proofs.YtocijpeminghoaaGreatDoor
open Go
set_option linter.unusedVariables false

def gtrB (a b : ByteArray) : Bool := !(Op.bytesLess a.toList b.toList || a.toList == b.toList)
def wrtOk (last : ByteArray) (c : Wrt) : Bool := (checkE c.key.size == 0) && gtrB c.key last && idB c.seq
def wrtsOk : ByteArray → List Wrt → Bool
  | _, [] => true
  | last, c :: r => wrtOk last c && wrtsOk c.key r
def lastKey : ByteArray → List Wrt → ByteArray
  | last, [] => last
  | _, c :: r => lastKey c.key r
theorem wrtsOk_snoc : ∀ (l : List Wrt) (last : ByteArray) (c : Wrt), wrtsOk last (l ++ [c]) = (wrtsOk last l && wrtOk (lastKey last l) c)
  | [], last, c => by simp [wrtsOk, lastKey]
  | x :: r, last, c => by simp [wrtsOk, lastKey, wrtsOk_snoc r, Bool.and_assoc]
theorem lastKey_snoc : ∀ (l : List Wrt) (last : ByteArray) (c : Wrt), lastKey last (l ++ [c]) = c.key
  | [], last, c => rfl
  | x :: r, last, c => lastKey_snoc r _ c
theorem wrtsOk_app : ∀ (l m : List Wrt) (last : ByteArray), wrtsOk last l = false → wrtsOk last (l ++ m) = false
  | [], m, last, h => by simp [wrtsOk] at h
  | x :: r, m, last, h => by
    simp only [wrtsOk, Bool.and_eq_false_iff] at h
    simp only [List.cons_append, wrtsOk, Bool.and_eq_false_iff]
    rcases h with h | h
    · exact .inl h
    · exact .inr (wrtsOk_app r m _ h)
def preB (hd : Bool) (status : Int) (n : Nat) : Bool := hd && decide (1 ≤ status) && decide (status ≤ 4) && decide (n ≤ 32) && ((status == 2) || (n == 0))
def recOk (x : Rec) : Bool := preB (headB x.id x.epoch x.prio x.anchor [(x.sw, x.sl), (x.bw, x.bl)]) x.status x.l.length && wrtsOk ⟨#[]⟩ x.l
def wrtW (c : Wrt) : List UInt8 := strW c.key.data.toList ++ numW c.seq
def recH (x : Rec) : List UInt8 := numW x.id ++ numW x.epoch ++ numW x.status ++ numW x.prio ++ strW x.anchor.data.toList ++ (numW x.sw ++ numW x.sl) ++ (numW x.bw ++ numW x.bl) ++ numW (x.l.length : Int)
def recT (x : Rec) : List UInt8 := if recOk x = true then recH x ++ x.l.flatMap wrtW else []
end Go.Proofs.YtocijpeminghoaaGreatDoor
namespace Go.Proofs.YtocijpeminghoaaGreatDoor
open Go
set_option linter.unusedVariables false
set_option linter.unusedSimpArgs false

/-- the steps of a reader -/
structure Ops where
  vN : St → Nat
  nN : St → St
  vS : St → List UInt8
  nS : St → St
  vF : St → Bool
  nF : St → St
def opP : Ops := ⟨valN, nextN, valS, nextS, valF, nextF⟩
def opD : Ops := ⟨dvalN, dnextN, dvalS, dnextS, dvalF, dnextF⟩
def Ops.chg (o : Ops) (s : St) : Chg × St := (⟨o.vN s, ⟨(o.vS (o.nF (o.nN s))).toArray⟩, o.vF (o.nN s)⟩, o.nS (o.nF (o.nN s)))
def Ops.wrt (o : Ops) (s : St) : Wrt × St := (⟨⟨(o.vS s).toArray⟩, o.vN (o.nS s)⟩, o.nN (o.nS s))
def many {α : Type} (f : St → α × St) : Nat → St → List α × St
  | 0, s => ([], s)
  | n + 1, s => if s.2 = true then ([], s) else ((f s).1 :: (many f n (f s).2).1, (many f n (f s).2).2)
def Ops.s4 (o : Ops) (s : St) : St := o.nN (o.nN (o.nN (o.nN s)))
def Ops.itt (o : Ops) (s : St) : Itt × Nat × St :=
  (⟨o.vN s, o.vN (o.nN s), o.vN (o.nN (o.nN s)), ⟨(o.vS (o.nN (o.nN (o.nN s)))).toArray⟩,
    o.vN (o.nS (o.nN (o.nN (o.nN s)))), o.vN (o.nN (o.nS (o.nN (o.nN (o.nN s))))), o.vN (o.nN (o.nN (o.nS (o.nN (o.nN (o.nN s)))))), o.vN (o.nN (o.nN (o.nN (o.nS (o.nN (o.nN (o.nN s))))))), []⟩,
   o.vN (o.s4 (o.nS (o.nN (o.nN (o.nN s))))), o.nN (o.s4 (o.nS (o.nN (o.nN (o.nN s))))))
def Ops.recd (o : Ops) (s : St) : Rec × Nat × St :=
  (⟨o.vN s, o.vN (o.nN s), o.vN (o.nN (o.nN s)), o.vN (o.nN (o.nN (o.nN s))), ⟨(o.vS (o.s4 s)).toArray⟩,
    o.vN (o.nS (o.s4 s)), o.vN (o.nN (o.nS (o.s4 s))), o.vN (o.nN (o.nN (o.nS (o.s4 s)))), o.vN (o.nN (o.nN (o.nN (o.nS (o.s4 s))))), []⟩,
   o.vN (o.s4 (o.nS (o.s4 s))), o.nN (o.s4 (o.nS (o.s4 s))))

theorem backN {s : St} (h : (nextN s).2 = false) : s.2 = false := by
  cases hs : s.2 with
  | false => rfl
  | true => rw [nextN_bad hs] at h; simp at h
theorem backS {s : St} (h : (nextS s).2 = false) : s.2 = false := by
  cases hs : s.2 with
  | false => rfl
  | true => rw [nextS_bad hs] at h; simp at h
theorem backF {s : St} (h : (nextF s).2 = false) : s.2 = false := by
  cases hs : s.2 with
  | false => rfl
  | true => rw [nextF_bad hs] at h; simp at h

def Alike {α : Type} (f g : St → α × St) : Prop := ∀ s t, Sim s t → Sim (f s).2 (g t).2 ∧ ((f s).2.2 = false → (f s).1 = (g t).1) ∧ ((f s).2.2 = false → s.2 = false)
theorem chg_alike : Alike opP.chg opD.chg := by
  intro s t h
  obtain ⟨h1, e1⟩ := h.num
  obtain ⟨h2, e2⟩ := h1.flag
  obtain ⟨h3, e3⟩ := h2.str
  refine ⟨h3, fun hb => ?_, fun hb => backN (backF (backS hb))⟩
  have b2 := backS hb
  have b1 := backF b2
  simp only [Ops.chg, opP, opD]
  rw [e1 b1, e2 b2, e3 hb]
theorem wrt_alike : Alike opP.wrt opD.wrt := by
  intro s t h
  obtain ⟨h1, e1⟩ := h.str
  obtain ⟨h2, e2⟩ := h1.num
  refine ⟨h2, fun hb => ?_, fun hb => backS (backN hb)⟩
  have b1 := backN hb
  simp only [Ops.wrt, opP, opD]
  rw [e1 b1, e2 hb]
theorem many_bad {α : Type} (f : St → α × St) (n : Nat) (s : St) (h : s.2 = true) : many f n s = ([], s) := by
  cases n with
  | zero => rfl
  | succ n => rw [many, if_pos h]
theorem many_alike {α : Type} {f g : St → α × St} (hf : Alike f g) : ∀ (n : Nat) (s t : St), Sim s t → Sim (many f n s).2 (many g n t).2 ∧ ((many f n s).2.2 = false → (many f n s).1 = (many g n t).1)
  | 0, s, t, h => ⟨h, fun _ => rfl⟩
  | n + 1, s, t, h => by
    cases hs : s.2 with
    | true =>
      have ht : t.2 = true := by rw [← h.bad, hs]
      rw [many_bad f _ s hs, many_bad g _ t ht]
      exact ⟨h, fun _ => rfl⟩
    | false =>
      have ht : t.2 = false := by rw [← h.bad, hs]
      obtain ⟨h1, e1, b1⟩ := hf s t h
      obtain ⟨h2, e2⟩ := many_alike hf n _ _ h1
      rw [many, many, if_neg (by rw [hs]; simp), if_neg (by rw [ht]; simp)]
      refine ⟨h2, fun hb => ?_⟩
      have hb1 : (f s).2.2 = false := by
        cases hx : (f s).2.2 with
        | false => rfl
        | true => simp only [many_bad f n _ hx] at hb; rw [hx] at hb; exact hb
      simp only
      rw [e1 hb1, e2 hb]
theorem many_length {α : Type} (f : St → α × St) : ∀ (n : Nat) (s : St), (many f n s).2.2 = false → (many f n s).1.length = n
  | 0, s, _ => rfl
  | n + 1, s, h => by
    cases hs : s.2 with
    | true => rw [many_bad f _ s hs] at h; rw [hs] at h; simp at h
    | false =>
      rw [many, if_neg (by rw [hs]; simp)] at h ⊢
      simp only [List.length_cons]
      rw [many_length f n _ h]
theorem itt_alike {s t : St} (h : Sim s t) : Sim (opP.itt s).2.2 (opD.itt t).2.2 ∧ ((opP.itt s).2.2.2 = false → (opP.itt s).1 = (opD.itt t).1 ∧ (opP.itt s).2.1 = (opD.itt t).2.1) := by
  obtain ⟨h1, e1⟩ := h.num
  obtain ⟨h2, e2⟩ := h1.num
  obtain ⟨h3, e3⟩ := h2.num
  obtain ⟨h4, e4⟩ := h3.str
  obtain ⟨h5, e5⟩ := h4.num
  obtain ⟨h6, e6⟩ := h5.num
  obtain ⟨h7, e7⟩ := h6.num
  obtain ⟨h8, e8⟩ := h7.num
  obtain ⟨h9, e9⟩ := h8.num
  refine ⟨h9, fun b9 => ?_⟩
  have b8 := backN b9
  have b7 := backN b8
  have b6 := backN b7
  have b5 := backN b6
  have b4 := backN b5
  have b3 := backS b4
  have b2 := backN b3
  have b1 := backN b2
  simp only [Ops.itt, Ops.s4, opP, opD]
  rw [e1 b1, e2 b2, e3 b3, e4 b4, e5 b5, e6 b6, e7 b7, e8 b8, e9 b9]
  exact ⟨rfl, rfl⟩
theorem rec_alike {s t : St} (h : Sim s t) : Sim (opP.recd s).2.2 (opD.recd t).2.2 ∧ ((opP.recd s).2.2.2 = false → (opP.recd s).1 = (opD.recd t).1 ∧ (opP.recd s).2.1 = (opD.recd t).2.1) := by
  obtain ⟨h1, e1⟩ := h.num
  obtain ⟨h2, e2⟩ := h1.num
  obtain ⟨h3, e3⟩ := h2.num
  obtain ⟨h0, e0⟩ := h3.num
  obtain ⟨h4, e4⟩ := h0.str
  obtain ⟨h5, e5⟩ := h4.num
  obtain ⟨h6, e6⟩ := h5.num
  obtain ⟨h7, e7⟩ := h6.num
  obtain ⟨h8, e8⟩ := h7.num
  obtain ⟨h9, e9⟩ := h8.num
  refine ⟨h9, fun b9 => ?_⟩
  have b8 := backN b9
  have b7 := backN b8
  have b6 := backN b7
  have b5 := backN b6
  have b4 := backN b5
  have b0 := backS b4
  have b3 := backN b0
  have b2 := backN b3
  have b1 := backN b2
  simp only [Ops.recd, Ops.s4, opP, opD]
  rw [e1 b1, e2 b2, e3 b3, e0 b0, e4 b4, e5 b5, e6 b6, e7 b7, e8 b8, e9 b9]
  exact ⟨rfl, rfl⟩
end Go.Proofs.YtocijpeminghoaaGreatDoor
namespace Go.Proofs.YtocijpeminghoaaGreatDoor
open Go
set_option linter.unusedVariables false
set_option linter.unusedSimpArgs false

theorem itt16 {x : Itt} (h : ittOk x = true) : x.l.length ≤ 16 := by
  simp only [ittOk, Bool.and_eq_true, decide_eq_true_eq] at h
  exact h.1.2
def takeIttR (l : List UInt8) : Option Itt :=
  if offE (many opP.chg (opP.itt (l, false)).2.1 (opP.itt (l, false)).2.2).2 (okE (ittOk { (opP.itt (l, false)).1 with l := (many opP.chg (opP.itt (l, false)).2.1 (opP.itt (l, false)).2.2).1 })) = 0 then
    some { (opP.itt (l, false)).1 with l := (many opP.chg (opP.itt (l, false)).2.1 (opP.itt (l, false)).2.2).1 } else none
def takeIttD (l : List UInt8) : Option Itt :=
  if endB (many opD.chg (min (opD.itt (l, false)).2.1 17) (opD.itt (l, false)).2.2).2 = true ∧ (opD.itt (l, false)).2.1 = (many opD.chg (min (opD.itt (l, false)).2.1 17) (opD.itt (l, false)).2.2).1.length
      ∧ ittOk { (opD.itt (l, false)).1 with l := (many opD.chg (min (opD.itt (l, false)).2.1 17) (opD.itt (l, false)).2.2).1 } = true then
    some { (opD.itt (l, false)).1 with l := (many opD.chg (min (opD.itt (l, false)).2.1 17) (opD.itt (l, false)).2.2).1 } else none
theorem offE_bad {s : St} (e : Int) (h : s.2 = true) : offE s e = 4 := by simp [offE, h]
theorem endB_bad {s : St} (h : s.2 = true) : endB s = false := by simp [endB, h]
theorem takeItt_eq (l : List UInt8) : takeIttD l = takeIttR l := by
  obtain ⟨hs, he⟩ := itt_alike (Sim.refl l false)
  unfold takeIttD takeIttR
  revert hs he
  generalize opP.itt (l, false) = p
  generalize opD.itt (l, false) = d
  obtain ⟨x, n, s⟩ := p
  obtain ⟨y, m, t⟩ := d
  simp only
  intro hs he
  cases hb : s.2 with
  | true =>
    have ht : t.2 = true := by rw [← hs.bad, hb]
    rw [many_bad _ _ s hb, many_bad _ _ t ht]
    simp only
    rw [offE_bad _ hb, endB_bad ht]
    simp
  | false =>
    obtain ⟨rfl, rfl⟩ := he hb
    by_cases hn : n ≤ 16
    · rw [Nat.min_eq_left (by omega)]
      obtain ⟨h1, h2⟩ := many_alike chg_alike n s t hs
      cases hc : (many opP.chg n s).2.2 with
      | true =>
        rw [offE_bad _ hc, endB_bad (by rw [← h1.bad, hc])]
        simp
      | false =>
        have h3 := h2 hc
        have h4 := many_length _ _ _ hc
        have h5 := h1.end
        rw [← h3, h4]
        cases hok : ittOk { x with l := (many opP.chg n s).1 } with
        | true =>
          rw [h5]
          simp [okE]
        | false => simp [okE, offE]
    · have hP : offE (many opP.chg n s).2 (okE (ittOk { x with l := (many opP.chg n s).1 })) ≠ 0 := by
        intro h0
        cases hc : (many opP.chg n s).2.2 with
        | true => rw [offE_bad _ hc] at h0; simp at h0
        | false =>
          have h4 := many_length _ _ _ hc
          cases hok : ittOk { x with l := (many opP.chg n s).1 } with
          | true => have := itt16 hok; simp only at this; omega
          | false => rw [hok] at h0; simp [okE, offE] at h0
      rw [if_neg hP, if_neg]
      rintro ⟨h1, h2, h3⟩
      have := itt16 h3
      simp only at this
      omega
end Go.Proofs.YtocijpeminghoaaGreatDoor
namespace Go.Proofs.YtocijpeminghoaaGreatDoor
open Go
set_option linter.unusedVariables false
set_option linter.unusedSimpArgs false

theorem rec32 {x : Rec} (h : recOk x = true) : x.l.length ≤ 32 := by
  simp only [recOk, preB, Bool.and_eq_true, decide_eq_true_eq] at h
  exact h.1.1.2
def takeRecR (l : List UInt8) : Option Rec :=
  if offE (many opP.wrt (opP.recd (l, false)).2.1 (opP.recd (l, false)).2.2).2 (okE (recOk { (opP.recd (l, false)).1 with l := (many opP.wrt (opP.recd (l, false)).2.1 (opP.recd (l, false)).2.2).1 })) = 0 then
    some { (opP.recd (l, false)).1 with l := (many opP.wrt (opP.recd (l, false)).2.1 (opP.recd (l, false)).2.2).1 } else none
def takeRecD (l : List UInt8) : Option Rec :=
  if endB (many opD.wrt (min (opD.recd (l, false)).2.1 33) (opD.recd (l, false)).2.2).2 = true ∧ (opD.recd (l, false)).2.1 = (many opD.wrt (min (opD.recd (l, false)).2.1 33) (opD.recd (l, false)).2.2).1.length
      ∧ recOk { (opD.recd (l, false)).1 with l := (many opD.wrt (min (opD.recd (l, false)).2.1 33) (opD.recd (l, false)).2.2).1 } = true then
    some { (opD.recd (l, false)).1 with l := (many opD.wrt (min (opD.recd (l, false)).2.1 33) (opD.recd (l, false)).2.2).1 } else none
theorem takeRec_eq (l : List UInt8) : takeRecD l = takeRecR l := by
  obtain ⟨hs, he⟩ := rec_alike (Sim.refl l false)
  unfold takeRecD takeRecR
  revert hs he
  generalize opP.recd (l, false) = p
  generalize opD.recd (l, false) = d
  obtain ⟨x, n, s⟩ := p
  obtain ⟨y, m, t⟩ := d
  simp only
  intro hs he
  cases hb : s.2 with
  | true =>
    have ht : t.2 = true := by rw [← hs.bad, hb]
    rw [many_bad _ _ s hb, many_bad _ _ t ht]
    simp only
    rw [offE_bad _ hb, endB_bad ht]
    simp
  | false =>
    obtain ⟨rfl, rfl⟩ := he hb
    by_cases hn : n ≤ 32
    · rw [Nat.min_eq_left (by omega)]
      obtain ⟨h1, h2⟩ := many_alike wrt_alike n s t hs
      cases hc : (many opP.wrt n s).2.2 with
      | true =>
        rw [offE_bad _ hc, endB_bad (by rw [← h1.bad, hc])]
        simp
      | false =>
        have h3 := h2 hc
        have h4 := many_length _ _ _ hc
        have h5 := h1.end
        rw [← h3, h4]
        cases hok : recOk { x with l := (many opP.wrt n s).1 } with
        | true =>
          rw [h5]
          simp [okE]
        | false => simp [okE, offE]
    · have hP : offE (many opP.wrt n s).2 (okE (recOk { x with l := (many opP.wrt n s).1 })) ≠ 0 := by
        intro h0
        cases hc : (many opP.wrt n s).2.2 with
        | true => rw [offE_bad _ hc] at h0; simp at h0
        | false =>
          have h4 := many_length _ _ _ hc
          cases hok : recOk { x with l := (many opP.wrt n s).1 } with
          | true => have := rec32 hok; simp only at this; omega
          | false => rw [hok] at h0; simp [okE, offE] at h0
      rw [if_neg hP, if_neg]
      rintro ⟨h1, h2, h3⟩
      have := rec32 h3
      simp only at this
      omega
end Go.Proofs.YtocijpeminghoaaGreatDoor
