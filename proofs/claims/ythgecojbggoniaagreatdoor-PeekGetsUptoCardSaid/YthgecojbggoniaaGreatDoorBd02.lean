/- What the rows stand on, part 02: PlainA, SkpB, SkpC, RegS. Printed by bundle.py out of my texts. -/
import Derived.Test.YthgecojbggoniaaGreatDoorBd01
import Derived.ProofKit
import Derived.Lib.Replace
import Derived.Lib.Bytealg
import Derived.Lib.Strings
import GoSem.Op.String
import Derived.RegionTactic
import Derived.Deep.RegionHeld
import Derived.StillTail
namespace Go.Proofs.YthgecojbggoniaaGreatDoor
open Go
set_option linter.unusedVariables false

/-- a number's digits to the base of 256, the highest first -/
def numD (n : Nat) : List UInt8 := if h : n = 0 then [] else numD (n / 256) ++ [UInt8.ofNat (n % 256)]
termination_by n
decreasing_by omega
def numT (n : Nat) : List UInt8 := UInt8.ofNat (numD n).length :: numD n
/-- what a writer writes of a number -/
def numW (n : Int) : List UInt8 := if 0 ≤ n ∧ n ≤ 9007199254740991 then numT n.toNat else []
def numE (n : Int) : Int := if 0 ≤ n ∧ n ≤ 9007199254740991 then 0 else 2
/-- .. of a text -/
def strW (s : List UInt8) : List UInt8 := if s.length ≤ 64 then numT s.length ++ s else []
def numN (l : List UInt8) : Nat := l.foldl (fun n c => n * 256 + c.toNat) 0
/-- a number is taken off: it, what is left, the error -/
def takeN : List UInt8 → Nat × List UInt8 × Int
  | [] => (0, [], 3)
  | m :: t =>
    if 7 < m.toNat then (0, [], 4)
    else if t.length < m.toNat then (0, [], 3)
    else if (t.take m.toNat).head? = some 0 ∨ 9007199254740991 < numN (t.take m.toNat) then (0, [], 4)
    else (numN (t.take m.toNat), t.drop m.toNat, 0)
def takeS (l : List UInt8) : List UInt8 × List UInt8 × Int :=
  if (takeN l).2.2 ≠ 0 then ([], [], (takeN l).2.2)
  else if 64 < (takeN l).1 then ([], [], 5)
  else if (takeN l).2.1.length < (takeN l).1 then ([], [], 3)
  else ((takeN l).2.1.take (takeN l).1, (takeN l).2.1.drop (takeN l).1, 0)

theorem numD_zero : numD 0 = [] := by unfold numD; rfl
theorem numD_pos {n : Nat} (h : 0 < n) : numD n = numD (n / 256) ++ [UInt8.ofNat (n % 256)] := by
  rw [numD]
  rw [dif_neg (by omega)]
theorem numD_small {n : Nat} (h : 0 < n) (h2 : n < 256) : numD n = [UInt8.ofNat n] := by
  rw [numD_pos h, show n / 256 = 0 by omega, numD_zero, show n % 256 = n by omega]
  rfl
theorem numD_length : ∀ (k n : Nat), n < 256 ^ k → (numD n).length ≤ k
  | 0, n, h => by
    have : n = 0 := by simpa using h
    subst this
    rw [numD_zero]; exact Nat.le_refl _
  | k + 1, n, h => by
    by_cases h0 : n = 0
    · subst h0; rw [numD_zero]; simp
    · rw [numD_pos (by omega), List.length_append]
      have := numD_length k (n / 256) (by rw [Nat.pow_succ] at h; omega)
      simp; omega
theorem numN_snoc (l : List UInt8) (c : UInt8) : numN (l ++ [c]) = numN l * 256 + c.toNat := by simp [numN]
theorem numN_nil : numN [] = 0 := rfl
theorem numD_head (n : Nat) : (numD n).head? ≠ some 0 := by
  induction n using Nat.strongRecOn with
  | _ n ih =>
    by_cases h0 : n = 0
    · subst h0; rw [numD_zero]; simp
    · rw [numD_pos (by omega)]
      by_cases h1 : n / 256 = 0
      · rw [h1, numD_zero]
        simp
        intro h
        have := congrArg UInt8.toNat h
        simp at this
        omega
      · have := ih (n / 256) (by omega)
        have hne : numD (n / 256) ≠ [] := by
          rw [numD_pos (by omega)]; simp
        cases hd : numD (n / 256) with
        | nil => exact absurd hd hne
        | cons c t => rw [hd] at this; simpa using this
theorem snoc_ind {α : Type} {P : List α → Prop} (h0 : P []) (h1 : ∀ l a, P l → P (l ++ [a])) (l : List α) : P l := by
  have : ∀ l : List α, P l.reverse := by
    intro l
    induction l with
    | nil => exact h0
    | cons a t ih => rw [List.reverse_cons]; exact h1 _ _ ih
  have h := this l.reverse
  rwa [List.reverse_reverse] at h
theorem numD_numN (l : List UInt8) : l.head? ≠ some 0 → numD (numN l) = l := by
  induction l using snoc_ind with
  | h0 => intro _; rw [numN_nil, numD_zero]
  | h1 l c ih =>
    intro h
    rw [numN_snoc]
    have hc : c.toNat < 256 := c.toNat_lt
    by_cases hl : l = []
    · subst hl
      have hc0 : 0 < c.toNat := by
        rcases Nat.eq_zero_or_pos c.toNat with h' | h'
        · exact absurd (by simp; exact UInt8.toNat_inj.1 h') h
        · exact h'
      rw [numN_nil, Nat.zero_mul, Nat.zero_add, numD_small hc0 hc]
      simp
    · have hh : l.head? ≠ some 0 := by
        cases l with
        | nil => exact absurd rfl hl
        | cons a t => simpa using h
      have hi := ih hh
      have hp : 0 < numN l := by
        rcases Nat.eq_zero_or_pos (numN l) with h' | h'
        · rw [h', numD_zero] at hi; exact absurd hi.symm hl
        · exact h'
      rw [numD_pos (by omega), show (numN l * 256 + c.toNat) / 256 = numN l by omega, hi, show (numN l * 256 + c.toNat) % 256 = c.toNat by omega]
      simp
theorem numD_numN_iff (l : List UInt8) : numD (numN l) = l ↔ l.head? ≠ some 0 :=
  ⟨fun h => by rw [← h]; exact numD_head _, numD_numN l⟩
theorem numN_lt : ∀ (l : List UInt8), numN l < 256 ^ l.length := by
  intro l
  induction l using snoc_ind with
  | h0 => simp [numN]
  | h1 l c ih =>
    have hc : c.toNat < 256 := c.toNat_lt
    rw [numN_snoc, List.length_append, List.length_singleton, Nat.pow_succ]
    omega

theorem numD_le7 {n : Nat} (h : n ≤ 9007199254740991) : (numD n).length ≤ 7 := numD_length 7 n (by have : (256 : Nat) ^ 7 = 72057594037927936 := by decide
                                                                                                   omega)
end Go.Proofs.YthgecojbggoniaaGreatDoor
namespace Go.Proofs.YthgecojbggoniaaGreatDoor
open Go

/-- a text's bytes, each 0 as 0 1 -/
def esc : List UInt8 → List UInt8
  | [] => []
  | c :: l => if c = 0 then 0 :: 1 :: esc l else c :: esc l
def keyL (l : List UInt8) : List UInt8 := esc l ++ [0, 0]

/-- what is taken off: the text, what is left, the error's number; 'out' was taken already -/
def takeL (out : List UInt8) : List UInt8 → List UInt8 × List UInt8 × Int
  | [] => ([], [], 3)
  | c :: t =>
    if c = 0 then
      match t with
      | [] => ([], [], 3)
      | d :: u => if d = 0 then (out, u, 0) else if d = 1 then (if out.length = 1000 then ([], [], 5) else takeL (out ++ [0]) u) else ([], [], 4)
    else if out.length = 1000 then ([], [], 5) else takeL (out ++ [c]) t

/-- a number in so many bytes, the highest first -/
def beL (n : Int) : Nat → List UInt8
  | 0 => []
  | k + 1 => UInt8.ofNat (n / 256 ^ k % 256).toNat :: beL n k
/-- the number that bytes are -/
def numL (l : List UInt8) : Int := l.foldl (fun n c => n * 256 + c.toNat) 0

def mayB (a b : Int) : Bool := decide (0 ≤ a ∧ a ≤ 1099511627776 ∧ 0 ≤ b ∧ b ≤ 1048575)
def downL (a b : Int) : List UInt8 := beL (1099511627776 - a) 6 ++ beL (1048575 - b) 3
def checkE (n : Nat) : Int := if 1 ≤ n ∧ n ≤ 32 then 0 else 2
def bringI (i n : Int) : Int := if n ≤ 0 then 0 else i % n

def takeDownL (l : List UInt8) : Int × Int × List UInt8 × Int :=
  if l.length < 9 then (0, 0, [], 3)
  else if mayB (1099511627776 - numL (l.take 6)) (1048575 - numL ((l.drop 6).take 3)) = true then (1099511627776 - numL (l.take 6), 1048575 - numL ((l.drop 6).take 3), l.drop 9, 0)
  else (0, 0, [], 4)

/-- what Key answers -/
def keyR (l : List UInt8) : List UInt8 × Int := if l.length ≤ 1000 then (keyL l, 0) else ([], 5)
/-- what Down answers -/
def downR (a b : Int) : List UInt8 × Int := if mayB a b = true then (downL a b, 0) else ([], 2)

theorem takeL_nil (out : List UInt8) : takeL out [] = ([], [], 3) := rfl
theorem takeL_end (out : List UInt8) (c : UInt8) (hc : c = 0) : takeL out [c] = ([], [], 3) := by subst hc; rfl
theorem takeL_stop (out u : List UInt8) (c d : UInt8) (hc : c = 0) (hd : d = 0) : takeL out (c :: d :: u) = (out, u, 0) := by subst hc hd; rfl
theorem takeL_bad (out u : List UInt8) (c d : UInt8) (hc : c = 0) (h0 : d ≠ 0) (h1 : d ≠ 1) : takeL out (c :: d :: u) = ([], [], 4) := by subst hc; simp [takeL, h0, h1]
theorem takeL_lim1 (out u : List UInt8) (c d : UInt8) (hc : c = 0) (hd : d = 1) (h : out.length = 1000) : takeL out (c :: d :: u) = ([], [], 5) := by subst hc hd; simp [takeL, h]
theorem takeL_go1 (out u : List UInt8) (c d : UInt8) (hc : c = 0) (hd : d = 1) (h : out.length ≠ 1000) : takeL out (c :: d :: u) = takeL (out ++ [0]) u := by subst hc hd; rw [takeL]; simp [h]
theorem takeL_lim (out u : List UInt8) (c : UInt8) (hc : c ≠ 0) (h : out.length = 1000) : takeL out (c :: u) = ([], [], 5) := by rw [takeL.eq_def]; simp [h, hc]
theorem takeL_go (out u : List UInt8) (c : UInt8) (hc : c ≠ 0) (h : out.length ≠ 1000) : takeL out (c :: u) = takeL (out ++ [c]) u := by rw [takeL.eq_def]; simp [h, hc]

theorem esc_append (a b : List UInt8) : esc (a ++ b) = esc a ++ esc b := by
  induction a with
  | nil => rfl
  | cons c l ih => simp only [List.cons_append, esc]; split <;> simp [ih]
theorem esc_length_le (l : List UInt8) : (esc l).length ≤ 2 * l.length := by
  induction l with
  | nil => simp [esc]
  | cons c l ih => simp only [esc]; split <;> simp <;> omega
theorem countB_zero (s : ByteArray) : Lib.countB s ⟨#[0]⟩ = s.data.toList.count 0 := Lib.count_one 0 _
theorem index_cons_eq (l : List UInt8) : Lib.index (0 :: l) [0] = 0 := by simp [Lib.index, List.isPrefixOf]
theorem index_cons_ne (c : UInt8) (l : List UInt8) (h : c ≠ 0) (i : Nat) (hi : Lib.index l [0] = i) : Lib.index (c :: l) [0] = ((i + 1 : Nat) : Int) := by
  have h1 : ((i : Int) == -1) = false := by rw [beq_eq_false_iff_ne]; omega
  have h2 : (0 == c) = false := by rw [beq_eq_false_iff_ne]; exact fun e => h e.symm
  simp [Lib.index, List.isPrefixOf, hi, h1, h2]
theorem replaceK_esc : ∀ (l : List UInt8), Lib.replaceK [0] [0, 1] (l.count 0) l = esc l := by
  intro l
  induction l with
  | nil => simp [Lib.replaceK, esc]
  | cons c l ih =>
    by_cases hc : c = 0
    · subst hc
      rw [List.count_cons_self, Lib.replaceK_hit [0] [0, 1] _ _ 0 (index_cons_eq l)]
      simp [esc, ih]
    · have hcc : (c :: l).count 0 = l.count 0 := List.count_cons_of_ne hc
      rw [hcc, show esc (c :: l) = c :: esc l by simp [esc, hc], ← ih]
      cases hn : l.count 0 with
      | zero => simp [Lib.replaceK]
      | succ n =>
        obtain ⟨i, hi⟩ := Lib.index_of_count (s := l) (old := [0]) (by rw [Lib.count_one]; omega)
        rw [Lib.replaceK_hit [0] [0, 1] n l i hi, Lib.replaceK_hit [0] [0, 1] n (c :: l) (i + 1) (index_cons_ne c l hc i hi)]
        simp [Nat.add_assoc]
theorem replaceAll_esc (l : List UInt8) : Lib.replaceAll l [0] [0, 1] = esc l := by
  have h : ([0] == ([0, 1] : List UInt8)) = false := by decide
  have h2 : Lib.replaceNum l [0] (-1) = l.count 0 := by simp [Lib.replaceNum, Lib.count_one]
  rw [Lib.replaceAll, Lib.replace, h, h2]
  exact replaceK_esc l
theorem beL_length (n : Int) (k : Nat) : (beL n k).length = k := by
  induction k with
  | zero => rfl
  | succ k ih => simp [beL, ih]
end Go.Proofs.YthgecojbggoniaaGreatDoor
namespace Go.Proofs.YthgecojbggoniaaGreatDoor
open Go Go.Lib
set_option linter.unusedVariables false
set_option linter.unusedSimpArgs false

theorem zero_lt {c : UInt8} (h : c ≠ 0) : (0 : UInt8) < c := by
  rw [UInt8.lt_iff_toNat_lt]
  have : c.toNat ≠ 0 := fun e => h (UInt8.toNat_inj.1 e)
  show 0 < c.toNat
  omega
theorem not_lt_zero (c : UInt8) : ¬ c < 0 := by rw [UInt8.lt_iff_toNat_lt]; exact Nat.not_lt_zero _
theorem cmp_esc : ∀ (s t x y : List UInt8), compareBytes (esc s ++ 0 :: 0 :: x) (esc t ++ 0 :: 0 :: y) = if s = t then compareBytes x y else compareBytes s t
  | [], [], x, y => by simp [esc, compareBytes, UInt8.lt_irrefl]
  | [], d :: t, x, y => by
    by_cases h : d = 0
    · subst h; simp [esc, compareBytes, UInt8.lt_irrefl]
    · simp [esc, h, compareBytes, zero_lt h]
  | c :: s, [], x, y => by
    by_cases h : c = 0
    · subst h; simp [esc, compareBytes, UInt8.lt_irrefl]
    · simp [esc, h, compareBytes, zero_lt h, not_lt_zero]
  | c :: s, d :: t, x, y => by
    have ih := cmp_esc s t x y
    by_cases h : c = 0
    · subst h
      by_cases h' : d = 0
      · subst h'; simp [esc, compareBytes, UInt8.lt_irrefl, ih]
      · have : ¬ (0 : UInt8) = d := fun e => h' e.symm
        simp [esc, h', compareBytes, zero_lt h', this]
    · by_cases h' : d = 0
      · subst h'; simp [esc, h, compareBytes, zero_lt h, not_lt_zero]
      · simp only [esc, h, h', if_false, List.cons_append, compareBytes]
        by_cases e : c = d
        · subst e; simp [UInt8.lt_irrefl, ih]
        · have : ¬ (c :: s = d :: t) := fun e' => e (List.cons.inj e').1
          rw [if_neg this]
          by_cases h1 : c < d
          · simp [h1]
          · have h2 : d < c := by
              rcases UInt8.lt_or_lt_of_ne e with h3 | h3
              · exact absurd h3 h1
              · exact h3
            simp [h1, h2]
/-! stamps -/
theorem cmp_append : ∀ (a c b d : List UInt8), a.length = c.length → compareBytes (a ++ b) (c ++ d) = if compareBytes a c = 0 then compareBytes b d else compareBytes a c
  | [], [], b, d, _ => by simp [compareBytes]
  | [], _ :: _, _, _, h => by simp at h
  | _ :: _, [], _, _, h => by simp at h
  | x :: a, y :: c, b, d, h => by
    have ih := cmp_append a c b d (by simpa using h)
    simp only [List.cons_append, compareBytes]
    split
    · rfl
    · split
      · rfl
      · exact ih
theorem beL_succ (n k : Nat) : beL (n : Int) (k + 1) = UInt8.ofNat (n / 256 ^ k % 256) :: beL (n : Int) k := by
  simp only [beL]
  congr 2
theorem beL_mod (n k : Nat) : ∀ j, j ≤ k → beL ((n % 256 ^ k : Nat) : Int) j = beL (n : Int) j := by
  intro j
  induction j with
  | zero => intro _; rfl
  | succ j ih =>
    intro hj
    rw [beL_succ, beL_succ, ih (by omega)]
    congr 2
    have e : 256 ^ k = 256 ^ j * (256 * 256 ^ (k - j - 1)) := by rw [← Nat.mul_assoc, ← Nat.pow_succ, ← Nat.pow_add]; congr 1; omega
    rw [e, Nat.mod_mul_right_div_self, Nat.mod_mul_right_mod]
theorem u8_ofNat_lt {a b : Nat} (ha : a < 256) (hb : b < 256) : (UInt8.ofNat a < UInt8.ofNat b) = (a < b) := by
  rw [UInt8.lt_iff_toNat_lt, UInt8.toNat_ofNat', UInt8.toNat_ofNat', Nat.mod_eq_of_lt (by simpa using ha), Nat.mod_eq_of_lt (by simpa using hb)]
theorem cmp_beL : ∀ (k m n : Nat), m < 256 ^ k → n < 256 ^ k → compareBytes (beL (m : Int) k) (beL (n : Int) k) = if m < n then -1 else if n < m then 1 else 0 := by
  intro k
  induction k with
  | zero => intro m n hm hn; simp at hm hn; subst hm hn; simp [beL, compareBytes]
  | succ k ih =>
    intro m n hm hn
    have hp : 0 < 256 ^ k := Nat.pow_pos (by decide)
    rw [beL_succ, beL_succ]
    rw [Nat.pow_succ, Nat.mul_comm] at hm hn
    have hm1 : m / 256 ^ k < 256 := Nat.div_lt_of_lt_mul (by rw [Nat.mul_comm]; exact hm)
    have hn1 : n / 256 ^ k < 256 := Nat.div_lt_of_lt_mul (by rw [Nat.mul_comm]; exact hn)
    rw [Nat.mod_eq_of_lt hm1, Nat.mod_eq_of_lt hn1]
    simp only [compareBytes, u8_ofNat_lt hm1 hn1, u8_ofNat_lt hn1 hm1]
    have dm := Nat.div_add_mod m (256 ^ k)
    have dn := Nat.div_add_mod n (256 ^ k)
    have lm := Nat.mod_lt m hp
    have ln := Nat.mod_lt n hp
    rcases Nat.lt_trichotomy (m / 256 ^ k) (n / 256 ^ k) with h | h | h
    · have : m < n := by
        have := Nat.mul_le_mul_left (256 ^ k) (show m / 256 ^ k + 1 ≤ n / 256 ^ k from h)
        rw [Nat.mul_add] at this; omega
      rw [if_pos h, if_pos this]
    · rw [h, if_neg (Nat.lt_irrefl _), if_neg (Nat.lt_irrefl _)]
      have := ih (m % 256 ^ k) (n % 256 ^ k) lm ln
      rw [beL_mod m k k (Nat.le_refl _), beL_mod n k k (Nat.le_refl _)] at this
      rw [this]
      rw [h] at dm
      have e1 : (m % 256 ^ k < n % 256 ^ k) = (m < n) := by rw [eq_iff_iff]; omega
      have e2 : (n % 256 ^ k < m % 256 ^ k) = (n < m) := by rw [eq_iff_iff]; omega
      simp only [e1, e2]
    · have : n < m := by
        have := Nat.mul_le_mul_left (256 ^ k) (show n / 256 ^ k + 1 ≤ m / 256 ^ k from h)
        rw [Nat.mul_add] at this; omega
      rw [if_neg (by omega), if_pos h, if_neg (by omega), if_pos this]
theorem may_iff {a b : Int} : mayB a b = true ↔ 0 ≤ a ∧ a ≤ 1099511627776 ∧ 0 ≤ b ∧ b ≤ 1048575 := by simp [mayB]
theorem downL_length (a b : Int) : (downL a b).length = 9 := by simp [downL, beL_length]
theorem cmp_down {a b c d : Int} (h : mayB a b = true) (h' : mayB c d = true) :
    compareBytes (downL a b) (downL c d) = if c < a ∨ (a = c ∧ d < b) then -1 else if a ≠ c ∨ b ≠ d then 1 else 0 := by
  rw [may_iff] at h h'
  obtain ⟨A, hA⟩ := Int.eq_ofNat_of_zero_le (show 0 ≤ 1099511627776 - a by omega)
  obtain ⟨B, hB⟩ := Int.eq_ofNat_of_zero_le (show 0 ≤ 1048575 - b by omega)
  obtain ⟨C, hC⟩ := Int.eq_ofNat_of_zero_le (show 0 ≤ 1099511627776 - c by omega)
  obtain ⟨D, hD⟩ := Int.eq_ofNat_of_zero_le (show 0 ≤ 1048575 - d by omega)
  have e6 : 256 ^ 6 = 281474976710656 := by decide
  have e3 : 256 ^ 3 = 16777216 := by decide
  simp only [downL]
  rw [cmp_append _ _ _ _ (by rw [beL_length, beL_length]), hA, hB, hC, hD, cmp_beL 6 A C (by omega) (by omega), cmp_beL 3 B D (by omega) (by omega)]
  by_cases h1 : A < C
  · rw [if_pos h1, if_neg (by decide), if_pos (by omega)]
  · rw [if_neg h1]
    by_cases h2 : C < A
    · rw [if_pos h2, if_neg (by decide), if_neg (by omega), if_pos (by omega)]
    · rw [if_neg h2, if_pos rfl]
      by_cases h3 : B < D
      · rw [if_pos h3, if_pos (by omega)]
      · rw [if_neg h3]
        by_cases h4 : D < B
        · rw [if_pos h4, if_neg (by omega), if_pos (by omega)]
        · rw [if_neg h4, if_neg (by omega), if_neg (by omega)]

theorem numL_snoc' (l : List UInt8) (c : UInt8) : numL (l ++ [c]) = numL l * 256 + c.toNat := by simp [numL]
theorem numL_nat (l : List UInt8) : ∃ n : Nat, numL l = n ∧ n < 256 ^ l.length := by
  suffices h : ∀ k, ∀ l : List UInt8, l.length = k → ∃ n : Nat, numL l = n ∧ n < 256 ^ k from h _ l rfl
  intro k
  induction k with
  | zero => intro l h; have := List.length_eq_zero_iff.1 h; subst this; exact ⟨0, by simp [numL], by simp⟩
  | succ k ih =>
    intro l h
    have hne : l ≠ [] := by intro e; subst e; simp at h
    obtain ⟨n, h1, h2⟩ := ih l.dropLast (by simp [h])
    have hb := (l.getLast hne).toNat_lt
    refine ⟨n * 256 + (l.getLast hne).toNat, ?_, by rw [Nat.pow_succ]; omega⟩
    rw [show numL l = numL (l.dropLast ++ [l.getLast hne]) by rw [List.dropLast_concat_getLast hne], numL_snoc', h1]
    omega
theorem numL_foldl (l : List UInt8) (n : Int) : l.foldl (fun n c => n * 256 + (c.toNat : Int)) n = n * 256 ^ l.length + numL l := by
  induction l generalizing n with
  | nil => simp [numL]
  | cons c l ih =>
    simp only [numL, List.foldl_cons, List.length_cons]
    rw [ih, ih (0 * 256 + (c.toNat : Int)), Int.pow_succ]
    rw [Int.zero_mul, Int.zero_add, Int.add_mul, Int.mul_assoc, Int.mul_comm 256 (256 ^ l.length)]
    omega
theorem numL_cons (c : UInt8) (l : List UInt8) : numL (c :: l) = c.toNat * 256 ^ l.length + numL l := by
  rw [numL, List.foldl_cons, numL_foldl]; simp
theorem beL_numL (l : List UInt8) : beL (numL l) l.length = l := by
  induction l with
  | nil => rfl
  | cons c l ih =>
    obtain ⟨n, hn, hlt⟩ := numL_nat l
    have hc := c.toNat_lt
    have e : numL (c :: l) = ((c.toNat * 256 ^ l.length + n : Nat) : Int) := by rw [numL_cons, hn, Int.natCast_add, Int.natCast_mul, Int.natCast_pow]; rfl
    rw [List.length_cons, e, beL_succ]
    have hp : 0 < 256 ^ l.length := Nat.pow_pos (by decide)
    have h1 : (c.toNat * 256 ^ l.length + n) / 256 ^ l.length = c.toNat := by
      rw [Nat.mul_comm, Nat.mul_add_div hp, Nat.div_eq_of_lt hlt]; rfl
    rw [h1, Nat.mod_eq_of_lt (by simpa using hc)]
    have h2 := beL_mod (c.toNat * 256 ^ l.length + n) l.length l.length (Nat.le_refl _)
    rw [Nat.mul_add_mod', Nat.mod_eq_of_lt hlt] at h2
    rw [← h2, ← hn, ih]
    simp
/-! what was written is read -/
/-- what can be read is written so -/
theorem takeL_inv : ∀ (n : Nat) (t out : List UInt8), t.length ≤ n → out.length ≤ 1000 →
    ((∃ e, takeL out t = ([], [], e) ∧ e ≠ 0) ∨ ∃ s x, takeL out t = (out ++ s, x, 0) ∧ esc s ++ 0 :: 0 :: x = t ∧ (out ++ s).length ≤ 1000) := by
  intro n
  induction n with
  | zero => intro t out ht _; have := List.length_eq_zero_iff.1 (Nat.le_zero.1 ht); subst this; exact .inl ⟨3, rfl, by decide⟩
  | succ n ih =>
    intro t out ht ho
    cases t with
    | nil => exact .inl ⟨3, rfl, by decide⟩
    | cons c t =>
      simp only [List.length_cons] at ht
      by_cases hc : c = 0
      · cases t with
        | nil => exact .inl ⟨3, takeL_end _ _ hc, by decide⟩
        | cons d u =>
          simp only [List.length_cons] at ht
          by_cases h0 : d = 0
          · refine .inr ⟨[], u, ?_, by simp [esc, hc, h0], by simpa using ho⟩
            rw [takeL_stop _ _ _ _ hc h0]; simp
          · by_cases h1 : d = 1
            · by_cases hl : out.length = 1000
              · exact .inl ⟨5, takeL_lim1 _ _ _ _ hc h1 hl, by decide⟩
              · rw [takeL_go1 _ _ _ _ hc h1 hl]
                rcases ih u (out ++ [0]) (by omega) (by simp; omega) with h | ⟨s, x, e1, e2, e3⟩
                · exact .inl h
                · refine .inr ⟨0 :: s, x, ?_, ?_, ?_⟩
                  · rw [e1]; simp
                  · simp [esc, hc, h1, e2]
                  · simpa using e3
            · exact .inl ⟨4, takeL_bad _ _ _ _ hc h0 h1, by decide⟩
      · by_cases hl : out.length = 1000
        · exact .inl ⟨5, takeL_lim _ _ _ hc hl, by decide⟩
        · rw [takeL_go _ _ _ hc hl]
          rcases ih t (out ++ [c]) (by omega) (by simp; omega) with h | ⟨s, x, e1, e2, e3⟩
          · exact .inl h
          · refine .inr ⟨c :: s, x, ?_, ?_, ?_⟩
            · rw [e1]; simp
            · simp [esc, hc, e2]
            · simpa using e3
theorem takeDown_again (t : List UInt8) : (∃ e, takeDownL t = (0, 0, [], e) ∧ e ≠ 0) ∨ ∃ a b x, takeDownL t = (a, b, x, 0) ∧ mayB a b = true ∧ downL a b ++ x = t := by
  unfold takeDownL
  by_cases h : t.length < 9
  · rw [if_pos h]; exact .inl ⟨3, rfl, by decide⟩
  · rw [if_neg h]
    by_cases hm : mayB (1099511627776 - numL (t.take 6)) (1048575 - numL ((t.drop 6).take 3)) = true
    · rw [if_pos hm]
      refine .inr ⟨_, _, _, rfl, hm, ?_⟩
      have l6 : (t.take 6).length = 6 := by rw [List.length_take]; omega
      have l3 : ((t.drop 6).take 3).length = 3 := by rw [List.length_take, List.length_drop]; omega
      have e1 := beL_numL (t.take 6)
      have e2 := beL_numL ((t.drop 6).take 3)
      rw [l6] at e1
      rw [l3] at e2
      simp only [downL]
      rw [show (1099511627776 : Int) - (1099511627776 - numL (t.take 6)) = numL (t.take 6) by omega, show (1048575 : Int) - (1048575 - numL ((t.drop 6).take 3)) = numL ((t.drop 6).take 3) by omega, e1, e2]
      rw [List.append_assoc, show t.drop 9 = (t.drop 6).drop 3 by rw [List.drop_drop], List.take_append_drop, List.take_append_drop]
    · rw [if_neg hm]; exact .inl ⟨4, rfl, by decide⟩
end Go.Proofs.YthgecojbggoniaaGreatDoor
namespace Go.Proofs.YthgecojbggoniaaGreatDoor
open Go
set_option linter.unusedVariables false

/-- a reader: what is left, and whether something was wrong -/
abbrev St := List UInt8 × Bool
def valN (s : St) : Nat := (takeN s.1).1
def nextN (s : St) : St := ((takeN s.1).2.1, s.2 || decide ((takeN s.1).2.2 ≠ 0))
def valS (s : St) : List UInt8 := (takeS s.1).1
def nextS (s : St) : St := ((takeS s.1).2.1, s.2 || decide ((takeS s.1).2.2 ≠ 0))
def valF (s : St) : Bool := decide (valN s = 1)
def nextF (s : St) : St := ((nextN s).1, (nextN s).2 || decide (1 < valN s))
def offE (s : St) (e : Int) : Int := if s.2 = true ∨ s.1 ≠ [] ∨ e ≠ 0 then 4 else 0
/-- the document's -/
def badN (s : St) : Bool := decide ((takeN s.1).2.2 ≠ 0) || s.2
def dvalN (s : St) : Nat := if badN s = true then 0 else (takeN s.1).1
def dnextN (s : St) : St := if badN s = true then (s.1, true) else ((takeN s.1).2.1, s.2)
def badS (s : St) : Bool := decide ((takeS s.1).2.2 ≠ 0) || s.2
def dvalS (s : St) : List UInt8 := if badS s = true then [] else (takeS s.1).1
def dnextS (s : St) : St := if badS s = true then (s.1, true) else ((takeS s.1).2.1, s.2)
def dvalF (s : St) : Bool := decide (dvalN s = 1)
def dnextF (s : St) : St := ((dnextN s).1, (dnextN s).2 || decide (1 < dvalN s))
def endB (s : St) : Bool := !s.2 && decide (s.1 = [])

theorem takeS_length (l : List UInt8) : (takeS l).2.1.length ≤ l.length ∧ (takeS l).1.length ≤ l.length := by
  have h : (takeN l).2.1.length ≤ l.length := by
    cases l with
    | nil => simp [takeN]
    | cons m t =>
      rw [takeN]
      split
      · simp
      split
      · simp
      split
      · simp
      · simp; omega
  unfold takeS
  split
  · simp
  split
  · simp
  split
  · simp
  · simp; omega
theorem nextN_length (s : St) : (nextN s).1.length ≤ s.1.length := by
  unfold nextN
  cases hs : s.1 with
  | nil => simp [takeN]
  | cons m t =>
    rw [takeN]
    split
    · simp
    split
    · simp
    split
    · simp
    · simp; omega
theorem nextS_length (s : St) : (nextS s).1.length ≤ s.1.length := (takeS_length s.1).1
theorem nextF_length (s : St) : (nextF s).1.length ≤ s.1.length := nextN_length s
theorem dnextN_length (s : St) : (dnextN s).1.length ≤ s.1.length := by
  unfold dnextN
  split
  · exact Nat.le_refl _
  · exact nextN_length s
theorem dnextS_length (s : St) : (dnextS s).1.length ≤ s.1.length := by
  unfold dnextS
  split
  · exact Nat.le_refl _
  · exact nextS_length s
theorem dnextF_length (s : St) : (dnextF s).1.length ≤ s.1.length := dnextN_length s

/-- both are wrong, or both stand alike -/
def Sim (s t : St) : Prop := (s.2 = true ∧ t.2 = true) ∨ (s = t ∧ s.2 = false)
theorem Sim.refl (l : List UInt8) (b : Bool) : Sim (l, b) (l, b) := by
  cases b
  · exact .inr ⟨rfl, rfl⟩
  · exact .inl ⟨rfl, rfl⟩
theorem Sim.bad {s t : St} (h : Sim s t) : s.2 = t.2 := by
  rcases h with ⟨h1, h2⟩ | ⟨rfl, _⟩
  · rw [h1, h2]
  · rfl
theorem Sim.end {s t : St} (h : Sim s t) : endB t = decide (offE s 0 = 0) := by
  rcases h with ⟨h1, h2⟩ | ⟨rfl, h⟩
  · simp [endB, offE, h1, h2]
  · simp [endB, offE, h]
theorem nextN_bad {s : St} (h : s.2 = true) : (nextN s).2 = true := by simp [nextN, h]
theorem dnextN_bad {s : St} (h : s.2 = true) : (dnextN s).2 = true := by simp [dnextN, badN, h]
theorem nextS_bad {s : St} (h : s.2 = true) : (nextS s).2 = true := by simp [nextS, h]
theorem dnextS_bad {s : St} (h : s.2 = true) : (dnextS s).2 = true := by simp [dnextS, badS, h]
theorem nextF_bad {s : St} (h : s.2 = true) : (nextF s).2 = true := by simp [nextF, nextN_bad h]
theorem Sim.num {s t : St} (h : Sim s t) : Sim (nextN s) (dnextN t) ∧ ((nextN s).2 = false → valN s = dvalN t) := by
  rcases h with ⟨h1, h2⟩ | ⟨rfl, h⟩
  · exact ⟨.inl ⟨nextN_bad h1, dnextN_bad h2⟩, fun h => by rw [nextN_bad h1] at h; simp at h⟩
  · by_cases he : (takeN s.1).2.2 = 0
    · have hb : badN s = false := by simp [badN, he, h]
      refine ⟨.inr ⟨?_, ?_⟩, fun _ => ?_⟩
      · simp [nextN, dnextN, hb, he]
      · simp [nextN, he, h]
      · simp [valN, dvalN, hb]
    · have hb : badN s = true := by simp [badN, he]
      refine ⟨.inl ⟨by simp [nextN, he], by simp [dnextN, hb]⟩, fun h => ?_⟩
      simp [nextN, he] at h
theorem Sim.str {s t : St} (h : Sim s t) : Sim (nextS s) (dnextS t) ∧ ((nextS s).2 = false → valS s = dvalS t) := by
  rcases h with ⟨h1, h2⟩ | ⟨rfl, h⟩
  · exact ⟨.inl ⟨nextS_bad h1, dnextS_bad h2⟩, fun h => by rw [nextS_bad h1] at h; simp at h⟩
  · by_cases he : (takeS s.1).2.2 = 0
    · have hb : badS s = false := by simp [badS, he, h]
      refine ⟨.inr ⟨?_, ?_⟩, fun _ => ?_⟩
      · simp [nextS, dnextS, hb, he]
      · simp [nextS, he, h]
      · simp [valS, dvalS, hb]
    · have hb : badS s = true := by simp [badS, he]
      refine ⟨.inl ⟨by simp [nextS, he], by simp [dnextS, hb]⟩, fun h => ?_⟩
      simp [nextS, he] at h
theorem Sim.flag {s t : St} (h : Sim s t) : Sim (nextF s) (dnextF t) ∧ ((nextF s).2 = false → valF s = dvalF t) := by
  have hn := h.num
  rcases hn.1 with ⟨h1, h2⟩ | ⟨h1, h2⟩
  · exact ⟨.inl ⟨by simp [nextF, h1], by simp [dnextF, h2]⟩, fun h => by simp [nextF, h1] at h⟩
  · have hv := hn.2 h2
    have hd : dnextF t = nextF s := by simp [dnextF, nextF, ← h1, hv]
    refine ⟨?_, fun _ => by simp [valF, dvalF, hv]⟩
    rw [hd]
    exact Sim.refl _ _

theorem Sim.ends {s t : St} (h : Sim s t) (hb : offE s 0 = 0) : s.2 = false := by
  cases hs : s.2 with
  | false => rfl
  | true => simp [offE, hs] at hb
theorem offE_cases (s : St) (e : Int) : offE s e = 0 ∨ offE s e = 4 := by
  unfold offE
  split <;> simp
/-- a version -/
def verR (l : List UInt8) : St := if valF (l, false) = true then nextS (nextF (l, false)) else nextF (l, false)
def verD (l : List UInt8) : St := if dvalF (l, false) = true then dnextS (dnextF (l, false)) else dnextF (l, false)
def takeVerR (l : List UInt8) : List UInt8 × Bool × Int :=
  if offE (verR l) 0 = 0 then ((if valF (l, false) = true then valS (nextF (l, false)) else []), valF (l, false), 0) else ([], false, 4)
def takeVerD (l : List UInt8) : List UInt8 × Bool × Int :=
  if endB (verD l) = true then ((if dvalF (l, false) = true then dvalS (dnextF (l, false)) else []), dvalF (l, false), 0) else ([], false, 4)
theorem takeVer_eq (l : List UInt8) : takeVerD l = takeVerR l := by
  have h := (Sim.refl l false).flag
  have h2 := h.1.str
  unfold takeVerD takeVerR verD verR
  by_cases hb : (nextF (l, false)).2 = false
  · rw [← h.2 hb]
    by_cases hv : valF (l, false) = true
    · simp only [hv, if_true]
      rw [h2.1.end]
      by_cases h0 : offE (nextS (nextF (l, false))) 0 = 0
      · simp only [h0, decide_true, if_true]
        rw [h2.2 (h2.1.ends h0)]
      · simp [h0]
    · simp only [hv]
      simp only [Bool.false_eq_true, if_false]
      rw [h.1.end]
      simp
  · have hb : (nextF (l, false)).2 = true := by simpa using hb
    have hd : (dnextF (l, false)).2 = true := by rw [← h.1.bad]; exact hb
    have e1 : ∀ c : Bool, endB (if c = true then dnextS (dnextF (l, false)) else dnextF (l, false)) = false := by
      intro c
      cases c <;> simp [endB, hd, dnextS_bad hd]
    have e2 : ∀ c : Bool, ¬ offE (if c = true then nextS (nextF (l, false)) else nextF (l, false)) 0 = 0 := by
      intro c
      cases c <;> simp [offE, hb, nextS_bad hb]
    rw [e1, if_neg (e2 _)]
    simp
end Go.Proofs.YthgecojbggoniaaGreatDoor
namespace Go.Proofs.YthgecojbggoniaaGreatDoor
open Go
set_option linter.unusedVariables false

structure Chg where
  seq : Int
  value : ByteArray
  del : Bool
structure Itt where
  id : Int
  epoch : Int
  prio : Int
  anchor : ByteArray
  sw : Int
  sl : Int
  bw : Int
  bl : Int
  l : List Chg
def idB (n : Int) : Bool := decide (1 ≤ n) && decide (n ≤ 9007199254740991)
def plainB (id epoch prio : Int) : Bool := idB id && decide (0 ≤ epoch) && decide (epoch ≤ 9007199254740991) && decide (1 ≤ prio) && decide (prio ≤ 1000)
def headB (id epoch prio : Int) (anchor : ByteArray) (ps : List (Int × Int)) : Bool := plainB id epoch prio && (checkE anchor.size == 0) && ps.all fun p => mayB p.1 p.2
def chgOk (last : Int) (c : Chg) : Bool := decide (last < c.seq) && decide (c.seq ≤ 9007199254740991) && decide (c.value.size ≤ 64) && !(c.del && !(c.value.size == 0))
def chgsOk : Int → List Chg → Bool
  | _, [] => true
  | last, c :: r => chgOk last c && chgsOk c.seq r
def lastSeq : Int → List Chg → Int
  | last, [] => last
  | _, c :: r => lastSeq c.seq r
theorem chgsOk_snoc : ∀ (l : List Chg) (last : Int) (c : Chg), chgsOk last (l ++ [c]) = (chgsOk last l && chgOk (lastSeq last l) c)
  | [], last, c => by simp [chgsOk, lastSeq]
  | x :: r, last, c => by simp [chgsOk, lastSeq, chgsOk_snoc r, Bool.and_assoc]
theorem lastSeq_snoc : ∀ (l : List Chg) (last : Int) (c : Chg), lastSeq last (l ++ [c]) = c.seq
  | [], last, c => rfl
  | x :: r, last, c => lastSeq_snoc r _ c
theorem chgsOk_app : ∀ (l m : List Chg) (last : Int), chgsOk last l = false → chgsOk last (l ++ m) = false
  | [], m, last, h => by simp [chgsOk] at h
  | x :: r, m, last, h => by
    simp only [chgsOk, Bool.and_eq_false_iff] at h
    simp only [List.cons_append, chgsOk, Bool.and_eq_false_iff]
    rcases h with h | h
    · exact .inl h
    · exact .inr (chgsOk_app r m _ h)
def ittOk (x : Itt) : Bool := headB x.id x.epoch x.prio x.anchor [(x.sw, x.sl), (x.bw, x.bl)] && decide (1 ≤ x.l.length) && decide (x.l.length ≤ 16) && chgsOk 0 x.l
def okE (b : Bool) : Int := if b = true then 0 else 2

def chgCells (c : Chg) : List Value := [.int .i64 c.seq, .string c.value, .bool c.del]
def chgW (c : Chg) : List UInt8 := numW c.seq ++ (numW (if c.del then 1 else 0) ++ strW c.value.data.toList)
def ittW (x : Itt) : List UInt8 := numW x.id ++ numW x.epoch ++ numW x.prio ++ strW x.anchor.data.toList ++ (numW x.sw ++ numW x.sl) ++ (numW x.bw ++ numW x.bl) ++ numW x.l.length ++ x.l.flatMap chgW
def ittT (x : Itt) : List UInt8 := if ittOk x = true then ittW x else []

/-! lists that are compared element by element -/
def eqL {α : Type} (f : α → α → Bool) : List α → List α → Bool
  | [], [] => true
  | a :: x, b :: y => f a b && eqL f x y
  | _, _ => false
theorem eqL_len {α : Type} {f : α → α → Bool} : ∀ {a b : List α}, a.length ≠ b.length → eqL f a b = false
  | [], [], h => absurd rfl h
  | [], _ :: _, _ => rfl
  | _ :: _, [], _ => rfl
  | a :: x, b :: y, h => by
    simp only [eqL, eqL_len (a := x) (b := y) (by simpa using h), Bool.and_false]
theorem eqL_snoc {α : Type} {f : α → α → Bool} : ∀ {a b : List α} (c d : α), a.length = b.length → eqL f (a ++ [c]) (b ++ [d]) = (eqL f a b && f c d)
  | [], [], c, d, _ => by simp [eqL]
  | [], _ :: _, _, _, h => by simp at h
  | _ :: _, [], _, _, h => by simp at h
  | a :: x, b :: y, c, d, h => by
    simp only [List.cons_append, eqL, eqL_snoc (a := x) (b := y) c d (by simpa using h), Bool.and_assoc]
theorem eqL_app {α : Type} {f : α → α → Bool} : ∀ {a b : List α} (x y : List α), a.length = b.length → eqL f a b = false → eqL f (a ++ x) (b ++ y) = false
  | [], [], x, y, _, h => by simp [eqL] at h
  | [], _ :: _, _, _, h, _ => by simp at h
  | _ :: _, [], _, _, h, _ => by simp at h
  | a :: p, b :: q, x, y, hl, h => by
    simp only [eqL, Bool.and_eq_false_iff] at h
    simp only [List.cons_append, eqL, Bool.and_eq_false_iff]
    rcases h with h | h
    · exact .inl h
    · exact .inr (eqL_app x y (by simpa using hl) h)
theorem eqL_self {α : Type} {f : α → α → Bool} (hf : ∀ a, f a a = true) : ∀ l : List α, eqL f l l = true
  | [] => rfl
  | a :: x => by simp [eqL, hf, eqL_self hf x]
def eqChg (c d : Chg) : Bool := (c.seq == d.seq) && (c.value.toList == d.value.toList) && (c.del == d.del)
def eqItt (a b : Itt) : Bool := (a.id == b.id) && (a.epoch == b.epoch) && (a.prio == b.prio) && (a.anchor.toList == b.anchor.toList) && (a.sw == b.sw) && (a.sl == b.sl) && (a.bw == b.bw) && (a.bl == b.bl) && eqL eqChg a.l b.l
theorem eqChg_self (c : Chg) : eqChg c c = true := by simp [eqChg]
theorem eqItt_self (a : Itt) : eqItt a a = true := by simp [eqItt, eqL_self eqChg_self]
end Go.Proofs.YthgecojbggoniaaGreatDoor
namespace Go.Proofs.YthgecojbggoniaaGreatDoor
open Go Go.Lib
set_option linter.unusedVariables false

theorem less_cmp : ∀ a b : List UInt8, Op.bytesLess a b = decide (compareBytes a b = -1)
  | [], [] => by simp [Op.bytesLess, compareBytes]
  | _ :: _, [] => by simp [Op.bytesLess, compareBytes]
  | [], _ :: _ => by simp [Op.bytesLess, compareBytes]
  | a :: x, b :: y => by
    rw [Op.bytesLess, compareBytes, less_cmp x y]
    by_cases h1 : a < b
    · simp [h1]
    · by_cases h2 : b < a
      · have : a ≠ b := by rintro rfl; exact h1 h2
        simp [h1, h2, this]
      · have : a = b := by
          rw [UInt8.lt_iff_toNat_lt] at h1 h2
          exact UInt8.toNat_inj.1 (by omega)
        subst this
        simp [h1]
theorem less_cons (c : UInt8) (a b : List UInt8) : Op.bytesLess (c :: a) (c :: b) = Op.bytesLess a b := by
  rw [Op.bytesLess]
  have : ¬ c < c := by rw [UInt8.lt_iff_toNat_lt]; omega
  simp [this]
theorem cmp_key_app (s t x y : List UInt8) : compareBytes (keyL s ++ x) (keyL t ++ y) = if s = t then compareBytes x y else compareBytes s t := by
  have := cmp_esc s t x y
  simpa [keyL, List.append_assoc] using this
theorem less_key_app {s t : List UInt8} (h : s ≠ t) (x y : List UInt8) : Op.bytesLess (keyL s ++ x) (keyL t ++ y) = Op.bytesLess s t := by
  rw [less_cmp, less_cmp, cmp_key_app, if_neg h]
theorem less_key_same (s x y : List UInt8) : Op.bytesLess (keyL s ++ x) (keyL s ++ y) = Op.bytesLess x y := by
  rw [less_cmp, less_cmp, cmp_key_app, if_pos rfl]
theorem less_down {a b c d : Int} (h1 : mayB a b = true) (h2 : mayB c d = true) : Op.bytesLess (downL a b) (downL c d) = decide (c < a ∨ a = c ∧ d < b) := by
  rw [less_cmp, cmp_down h1 h2]
  by_cases x : c < a ∨ a = c ∧ d < b
  · rw [if_pos x]; simp [x]
  · rw [if_neg x]
    by_cases y : a ≠ c ∨ b ≠ d
    · rw [if_pos y]; simp [x]
    · rw [if_neg y]; simp [x]
end Go.Proofs.YthgecojbggoniaaGreatDoor
namespace Go.Proofs.YthgecojbggoniaaGreatDoor
open Go
set_option linter.unusedVariables false

end Go.Proofs.YthgecojbggoniaaGreatDoor
namespace Go.Proofs.YthgecojbggoniaaGreatDoor
open Go
set_option linter.unusedVariables false
set_option linter.unusedSimpArgs false

/-- the steps of a reader -/
structure Ops where
  vN : St → Nat
  nN : St → St
  vS : St → List UInt8
  nS : St → St
  vF : St → Bool
  nF : St → St
def opP : Ops := ⟨valN, nextN, valS, nextS, valF, nextF⟩
def opD : Ops := ⟨dvalN, dnextN, dvalS, dnextS, dvalF, dnextF⟩
def Ops.chg (o : Ops) (s : St) : Chg × St := (⟨o.vN s, ⟨(o.vS (o.nF (o.nN s))).toArray⟩, o.vF (o.nN s)⟩, o.nS (o.nF (o.nN s)))
def many {α : Type} (f : St → α × St) : Nat → St → List α × St
  | 0, s => ([], s)
  | n + 1, s => if s.2 = true then ([], s) else ((f s).1 :: (many f n (f s).2).1, (many f n (f s).2).2)
def Ops.s4 (o : Ops) (s : St) : St := o.nN (o.nN (o.nN (o.nN s)))
def Ops.itt (o : Ops) (s : St) : Itt × Nat × St :=
  (⟨o.vN s, o.vN (o.nN s), o.vN (o.nN (o.nN s)), ⟨(o.vS (o.nN (o.nN (o.nN s)))).toArray⟩,
    o.vN (o.nS (o.nN (o.nN (o.nN s)))), o.vN (o.nN (o.nS (o.nN (o.nN (o.nN s))))), o.vN (o.nN (o.nN (o.nS (o.nN (o.nN (o.nN s)))))), o.vN (o.nN (o.nN (o.nN (o.nS (o.nN (o.nN (o.nN s))))))), []⟩,
   o.vN (o.s4 (o.nS (o.nN (o.nN (o.nN s))))), o.nN (o.s4 (o.nS (o.nN (o.nN (o.nN s))))))
theorem backN {s : St} (h : (nextN s).2 = false) : s.2 = false := by
  cases hs : s.2 with
  | false => rfl
  | true => rw [nextN_bad hs] at h; simp at h
theorem backS {s : St} (h : (nextS s).2 = false) : s.2 = false := by
  cases hs : s.2 with
  | false => rfl
  | true => rw [nextS_bad hs] at h; simp at h
theorem backF {s : St} (h : (nextF s).2 = false) : s.2 = false := by
  cases hs : s.2 with
  | false => rfl
  | true => rw [nextF_bad hs] at h; simp at h

def Alike {α : Type} (f g : St → α × St) : Prop := ∀ s t, Sim s t → Sim (f s).2 (g t).2 ∧ ((f s).2.2 = false → (f s).1 = (g t).1) ∧ ((f s).2.2 = false → s.2 = false)
theorem chg_alike : Alike opP.chg opD.chg := by
  intro s t h
  obtain ⟨h1, e1⟩ := h.num
  obtain ⟨h2, e2⟩ := h1.flag
  obtain ⟨h3, e3⟩ := h2.str
  refine ⟨h3, fun hb => ?_, fun hb => backN (backF (backS hb))⟩
  have b2 := backS hb
  have b1 := backF b2
  simp only [Ops.chg, opP, opD]
  rw [e1 b1, e2 b2, e3 hb]
theorem many_bad {α : Type} (f : St → α × St) (n : Nat) (s : St) (h : s.2 = true) : many f n s = ([], s) := by
  cases n with
  | zero => rfl
  | succ n => rw [many, if_pos h]
theorem many_alike {α : Type} {f g : St → α × St} (hf : Alike f g) : ∀ (n : Nat) (s t : St), Sim s t → Sim (many f n s).2 (many g n t).2 ∧ ((many f n s).2.2 = false → (many f n s).1 = (many g n t).1)
  | 0, s, t, h => ⟨h, fun _ => rfl⟩
  | n + 1, s, t, h => by
    cases hs : s.2 with
    | true =>
      have ht : t.2 = true := by rw [← h.bad, hs]
      rw [many_bad f _ s hs, many_bad g _ t ht]
      exact ⟨h, fun _ => rfl⟩
    | false =>
      have ht : t.2 = false := by rw [← h.bad, hs]
      obtain ⟨h1, e1, b1⟩ := hf s t h
      obtain ⟨h2, e2⟩ := many_alike hf n _ _ h1
      rw [many, many, if_neg (by rw [hs]; simp), if_neg (by rw [ht]; simp)]
      refine ⟨h2, fun hb => ?_⟩
      have hb1 : (f s).2.2 = false := by
        cases hx : (f s).2.2 with
        | false => rfl
        | true => simp only [many_bad f n _ hx] at hb; rw [hx] at hb; exact hb
      simp only
      rw [e1 hb1, e2 hb]
theorem many_length {α : Type} (f : St → α × St) : ∀ (n : Nat) (s : St), (many f n s).2.2 = false → (many f n s).1.length = n
  | 0, s, _ => rfl
  | n + 1, s, h => by
    cases hs : s.2 with
    | true => rw [many_bad f _ s hs] at h; rw [hs] at h; simp at h
    | false =>
      rw [many, if_neg (by rw [hs]; simp)] at h ⊢
      simp only [List.length_cons]
      rw [many_length f n _ h]
theorem itt_alike {s t : St} (h : Sim s t) : Sim (opP.itt s).2.2 (opD.itt t).2.2 ∧ ((opP.itt s).2.2.2 = false → (opP.itt s).1 = (opD.itt t).1 ∧ (opP.itt s).2.1 = (opD.itt t).2.1) := by
  obtain ⟨h1, e1⟩ := h.num
  obtain ⟨h2, e2⟩ := h1.num
  obtain ⟨h3, e3⟩ := h2.num
  obtain ⟨h4, e4⟩ := h3.str
  obtain ⟨h5, e5⟩ := h4.num
  obtain ⟨h6, e6⟩ := h5.num
  obtain ⟨h7, e7⟩ := h6.num
  obtain ⟨h8, e8⟩ := h7.num
  obtain ⟨h9, e9⟩ := h8.num
  refine ⟨h9, fun b9 => ?_⟩
  have b8 := backN b9
  have b7 := backN b8
  have b6 := backN b7
  have b5 := backN b6
  have b4 := backN b5
  have b3 := backS b4
  have b2 := backN b3
  have b1 := backN b2
  simp only [Ops.itt, Ops.s4, opP, opD]
  rw [e1 b1, e2 b2, e3 b3, e4 b4, e5 b5, e6 b6, e7 b7, e8 b8, e9 b9]
  exact ⟨rfl, rfl⟩
end Go.Proofs.YthgecojbggoniaaGreatDoor
namespace Go.Proofs.YthgecojbggoniaaGreatDoor
open Go
set_option linter.unusedVariables false
set_option linter.unusedSimpArgs false

theorem itt16 {x : Itt} (h : ittOk x = true) : x.l.length ≤ 16 := by
  simp only [ittOk, Bool.and_eq_true, decide_eq_true_eq] at h
  exact h.1.2
def takeIttR (l : List UInt8) : Option Itt :=
  if offE (many opP.chg (opP.itt (l, false)).2.1 (opP.itt (l, false)).2.2).2 (okE (ittOk { (opP.itt (l, false)).1 with l := (many opP.chg (opP.itt (l, false)).2.1 (opP.itt (l, false)).2.2).1 })) = 0 then
    some { (opP.itt (l, false)).1 with l := (many opP.chg (opP.itt (l, false)).2.1 (opP.itt (l, false)).2.2).1 } else none
def takeIttD (l : List UInt8) : Option Itt :=
  if endB (many opD.chg (min (opD.itt (l, false)).2.1 17) (opD.itt (l, false)).2.2).2 = true ∧ (opD.itt (l, false)).2.1 = (many opD.chg (min (opD.itt (l, false)).2.1 17) (opD.itt (l, false)).2.2).1.length
      ∧ ittOk { (opD.itt (l, false)).1 with l := (many opD.chg (min (opD.itt (l, false)).2.1 17) (opD.itt (l, false)).2.2).1 } = true then
    some { (opD.itt (l, false)).1 with l := (many opD.chg (min (opD.itt (l, false)).2.1 17) (opD.itt (l, false)).2.2).1 } else none
theorem offE_bad {s : St} (e : Int) (h : s.2 = true) : offE s e = 4 := by simp [offE, h]
theorem endB_bad {s : St} (h : s.2 = true) : endB s = false := by simp [endB, h]
theorem takeItt_eq (l : List UInt8) : takeIttD l = takeIttR l := by
  obtain ⟨hs, he⟩ := itt_alike (Sim.refl l false)
  unfold takeIttD takeIttR
  revert hs he
  generalize opP.itt (l, false) = p
  generalize opD.itt (l, false) = d
  obtain ⟨x, n, s⟩ := p
  obtain ⟨y, m, t⟩ := d
  simp only
  intro hs he
  cases hb : s.2 with
  | true =>
    have ht : t.2 = true := by rw [← hs.bad, hb]
    rw [many_bad _ _ s hb, many_bad _ _ t ht]
    simp only
    rw [offE_bad _ hb, endB_bad ht]
    simp
  | false =>
    obtain ⟨rfl, rfl⟩ := he hb
    by_cases hn : n ≤ 16
    · rw [Nat.min_eq_left (by omega)]
      obtain ⟨h1, h2⟩ := many_alike chg_alike n s t hs
      cases hc : (many opP.chg n s).2.2 with
      | true =>
        rw [offE_bad _ hc, endB_bad (by rw [← h1.bad, hc])]
        simp
      | false =>
        have h3 := h2 hc
        have h4 := many_length _ _ _ hc
        have h5 := h1.end
        rw [← h3, h4]
        cases hok : ittOk { x with l := (many opP.chg n s).1 } with
        | true =>
          rw [h5]
          simp [okE]
        | false => simp [okE, offE]
    · have hP : offE (many opP.chg n s).2 (okE (ittOk { x with l := (many opP.chg n s).1 })) ≠ 0 := by
        intro h0
        cases hc : (many opP.chg n s).2.2 with
        | true => rw [offE_bad _ hc] at h0; simp at h0
        | false =>
          have h4 := many_length _ _ _ hc
          cases hok : ittOk { x with l := (many opP.chg n s).1 } with
          | true => have := itt16 hok; simp only at this; omega
          | false => rw [hok] at h0; simp [okE, offE] at h0
      rw [if_neg hP, if_neg]
      rintro ⟨h1, h2, h3⟩
      have := itt16 h3
      simp only at this
      omega
end Go.Proofs.YthgecojbggoniaaGreatDoor
namespace Go.Proofs.YthgecojbggoniaaGreatDoor
open Go
set_option linter.unusedVariables false
set_option linter.unusedSimpArgs false

end Go.Proofs.YthgecojbggoniaaGreatDoor
namespace Go.Proofs.YthgecojbggoniaaGreatDoor
open Go.RowKit
set_option maxRecDepth 100000
set_option linter.unusedVariables false
set_option linter.unusedSimpArgs false
set_option linter.unnecessarySimpa false

/-- the last node below a key, and what stands behind it -/
theorem last_next {lb H : Nat} {S : Nat → Prop} {L : List Nd} {w : World} (h : SkipAt lb H S L w) (key : ByteArray) : w.cell? ⟨(lastAt (hd0 H) (below key L) 0).blk, 3, none⟩ = some (ptr (above key L).head?) := by
  obtain ⟨A, R, e, h1, h2⟩ := lastAt_split (h := hd0 H) (P := below key L) (i := 0) (by simp [hd0])
  have hR : R = [] := by
    cases R with
    | nil => rfl
    | cons x r =>
      have hx := h2 x (by simp)
      have hm : x ∈ below key L := tail_mem e (by simp)
      have := (h.steps x (by rw [← below_above key L]; simp [hm])).1
      omega
  subst hR
  have hc := h.chain
  rw [show hd0 H :: L = A ++ lastAt (hd0 H) (below key L) 0 :: above key L by rw [← below_above key L, ← List.cons_append, e, below_above]; simp] at hc
  have := chain_cell (j := 0) hc (by decide) h1
  rw [this]
  simp only [List.append_nil]
  congr 1
  unfold nxt
  cases hq : above key L with
  | nil => rfl
  | cons x r =>
    have := (h.steps x (by rw [← below_above key L, hq]; simp)).1
    have h0 : decide (0 < x.steps) = true := by rw [decide_eq_true_iff]; omega
    simp only [List.find?_cons, h0, List.head?_cons]
theorem run_index (h : Nd) (P : List Nd) (j : Nat) (hj : j < 16) (w : World) : (Instr.index 148 (.agg (outA h P 0)) (.int .i64 j)).run Tryz.prog w = .ok (.pointer (some ⟨(lastAt h P j).blk, 0, none⟩)) w := by
  obtain rfl | rfl | rfl | rfl | rfl | rfl | rfl | rfl | rfl | rfl | rfl | rfl | rfl | rfl | rfl | rfl : j = 0 ∨ j = 1 ∨ j = 2 ∨ j = 3 ∨ j = 4 ∨ j = 5 ∨ j = 6 ∨ j = 7 ∨ j = 8 ∨ j = 9 ∨ j = 10 ∨ j = 11 ∨ j = 12 ∨ j = 13 ∨ j = 14 ∨ j = 15 := by omega
  all_goals kernel_rfl
def getN (key : ByteArray) (L : List Nd) : Option Nd := match (above key L).head? with | some n => if n.key.toList == key.toList then some n else none | none => none
theorem find_sk {lb H : Nat} {S : Nat → Prop} {L : List Nd} {w : World} (h : SkipAt lb H S L w) (key : ByteArray) :
    Calls Tryz.prog 81 #[.pointer (some ⟨lb, 0, none⟩), .string key] w fun e w' => e = .returned (ptr (getN key L)) ∧ Gr w w' := by
  have HH := Lib.hid h
  have HN := Lib.hid (none_skip h.list)
  have HA := Lib.hid (ahead_any h key)
  have HL := Lib.hid (last_next h key)
  clear h
  have hix : ∀ w, (Instr.index 148 (.agg (outA (hd0 H) (below key L) 0)) (.int .i64 0)).run Tryz.prog w = .ok (.pointer (some ⟨(lastAt (hd0 H) (below key L) 0).blk, 0, none⟩)) w := run_index _ _ 0 (by decide)
  have HK : Hid (∀ n, (above key L).head? = some n → w.cell? ⟨n.blk, 0, none⟩ = some (.string n.key)) := Lib.hid (fun n hn => by
    obtain ⟨r, hr⟩ : ∃ r, above key L = n :: r := by
      cases hq : above key L with
      | nil => rw [hq] at hn; simp at hn
      | cons x r => rw [hq] at hn; simp at hn; subst hn; exact ⟨r, rfl⟩
    refine chain_key (A := hd0 H :: below key L) (R := r) (X := fun _ => []) ?_
    have := HH.out.chain
    rwa [← below_above key L, hr, ← List.cons_append] at this)
  generalize outA (hd0 H) (below key L) 0 = oa at *
  generalize (lastAt (hd0 H) (below key L) 0).blk = lb0 at *
  cases hq : (above key L).head? with
  | none =>
    have hr : getN key L = none := by unfold getN; rw [hq]
    rw [hr]
    have c0 := HL.out
    rw [hq] at c0
    simp only [ptr] at c0 ⊢
    clear hr hq HL HK
    go_enter Tryz.func81, Tryz.ntmps81
    go_wp2_with (first | (go_at_call 85; refine HN.out.mono ?_; rintro e w1 ⟨rfl, rfl⟩) | (go_at_call 84; refine HA.out.mono ?_; rintro e w1 ⟨rfl, hg1⟩; have c1 := hg1.cell' c0))
    go_ret
    exact ⟨rfl, hg1⟩
  | some n =>
    have c0 := HL.out
    rw [hq] at c0
    have ck := HK.out n hq
    simp only [ptr] at c0 ⊢
    cases hk : n.key.toList == key.toList with
    | true =>
      have hr : getN key L = some n := by unfold getN; rw [hq]; simp only [hk, if_true]
      rw [hr]
      clear hr hq HL HK
      go_enter Tryz.func81, Tryz.ntmps81
      go_wp2_with (first | (go_at_call 85; refine HN.out.mono ?_; rintro e w1 ⟨rfl, rfl⟩) | (go_at_call 84; refine HA.out.mono ?_; rintro e w1 ⟨rfl, hg1⟩; have c1 := hg1.cell' c0; have c2 := hg1.cell' ck))
      go_ret
      exact ⟨rfl, hg1⟩
    | false =>
      have hr : getN key L = none := by unfold getN; rw [hq]; simp [hk]
      rw [hr]
      clear hr hq HL HK
      go_enter Tryz.func81, Tryz.ntmps81
      go_wp2_with (first | (go_at_call 85; refine HN.out.mono ?_; rintro e w1 ⟨rfl, rfl⟩) | (go_at_call 84; refine HA.out.mono ?_; rintro e w1 ⟨rfl, hg1⟩; have c1 := hg1.cell' c0; have c2 := hg1.cell' ck))
      go_ret
      exact ⟨rfl, hg1⟩
/-- the first key at or above one -/
theorem first_sk {lb H : Nat} {S : Nat → Prop} {L : List Nd} {w : World} (h : SkipAt lb H S L w) (key : ByteArray) :
    Calls Tryz.prog 74 #[.pointer (some ⟨lb, 0, none⟩), .string key] w fun e w' => e = .returned (.tuple (match (above key L).head? with | some n => #[.string n.key, .bool true] | none => #[.string ⟨#[]⟩, .bool false])) ∧ Gr w w' := by
  have HH := Lib.hid h
  have HN := Lib.hid (none_skip h.list)
  have HA := Lib.hid (ahead_any h key)
  have HL := Lib.hid (last_next h key)
  clear h
  have hix : ∀ w, (Instr.index 148 (.agg (outA (hd0 H) (below key L) 0)) (.int .i64 0)).run Tryz.prog w = .ok (.pointer (some ⟨(lastAt (hd0 H) (below key L) 0).blk, 0, none⟩)) w := run_index _ _ 0 (by decide)
  have HK : Hid (∀ n, (above key L).head? = some n → w.cell? ⟨n.blk, 0, none⟩ = some (.string n.key)) := Lib.hid (fun n hn => by
    obtain ⟨r, hr⟩ : ∃ r, above key L = n :: r := by
      cases hq : above key L with
      | nil => rw [hq] at hn; simp at hn
      | cons x r => rw [hq] at hn; simp at hn; subst hn; exact ⟨r, rfl⟩
    refine chain_key (A := hd0 H :: below key L) (R := r) (X := fun _ => []) ?_
    have := HH.out.chain
    rwa [← below_above key L, hr, ← List.cons_append] at this)
  generalize outA (hd0 H) (below key L) 0 = oa at *
  generalize (lastAt (hd0 H) (below key L) 0).blk = lb0 at *
  cases hq : (above key L).head? with
  | none =>
    have c0 := HL.out
    rw [hq] at c0
    simp only [ptr] at c0 ⊢
    clear hq HL HK
    go_enter Tryz.func74, Tryz.ntmps74
    go_wp2_with (first | (go_at_call 85; refine HN.out.mono ?_; rintro e w1 ⟨rfl, rfl⟩) | (go_at_call 84; refine HA.out.mono ?_; rintro e w1 ⟨rfl, hg1⟩; have c1 := hg1.cell' c0))
    go_ret2
    exact ⟨rfl, hg1⟩
  | some n =>
    have c0 := HL.out
    rw [hq] at c0
    have ck := HK.out n hq
    simp only [ptr] at c0 ⊢
    clear hq HL HK
    go_enter Tryz.func74, Tryz.ntmps74
    go_wp2_with (first | (go_at_call 85; refine HN.out.mono ?_; rintro e w1 ⟨rfl, rfl⟩) | (go_at_call 84; refine HA.out.mono ?_; rintro e w1 ⟨rfl, hg1⟩; have c1 := hg1.cell' c0; have c2 := hg1.cell' ck))
    go_ret2
    exact ⟨rfl, hg1⟩
theorem getN_mem {key : ByteArray} {L : List Nd} {n : Nd} (h : getN key L = some n) : (∃ r, above key L = n :: r) ∧ n.key = key := by
  unfold getN at h
  cases hq : above key L with
  | nil => rw [hq] at h; simp at h
  | cons x r =>
    rw [hq] at h
    simp only [List.head?_cons] at h
    split at h
    · rename_i hk
      cases h
      refine ⟨⟨r, rfl⟩, ?_⟩
      have := eq_of_beq hk
      rw [ByteArray.toList_eq, ByteArray.toList_eq] at this
      exact ba_ext this
    · cases h
theorem get_sk {lb H : Nat} {S : Nat → Prop} {L : List Nd} {w : World} (h : SkipAt lb H S L w) (key : ByteArray) :
    Calls Tryz.prog 51 #[.pointer (some ⟨lb, 0, none⟩), .string key] w fun e w' => e = .returned (.tuple (match getN key L with | some n => #[.string n.val, .bool true] | none => #[.string ⟨#[]⟩, .bool false])) ∧ Gr w w' := by
  have HF := Lib.hid (find_sk h key)
  have HK : Hid (∀ n, getN key L = some n → w.cell? ⟨n.blk, 1, none⟩ = some (.string n.val)) := Lib.hid (fun n hn => by
    obtain ⟨⟨r, hr⟩, _⟩ := getN_mem hn
    have hc := h.chain
    rw [← below_above key L, hr, ← List.cons_append] at hc
    have h1 := chainF_at hc
    exact cell_of h1 rfl)
  clear h
  cases hq : getN key L with
  | none =>
    rw [hq] at HF
    simp only [ptr] at HF ⊢
    clear hq HK
    go_enter Tryz.func51, Tryz.ntmps51
    go_wp2_with (go_at_call 81; refine HF.out.mono ?_; rintro e w1 ⟨rfl, hg1⟩)
    go_ret2
    exact ⟨rfl, hg1⟩
  | some n =>
    have ck := HK.out n hq
    rw [hq] at HF
    simp only [ptr] at HF ⊢
    clear hq HK
    go_enter Tryz.func51, Tryz.ntmps51
    go_wp2_with (go_at_call 81; refine HF.out.mono ?_; rintro e w1 ⟨rfl, hg1⟩; have c1 := hg1.cell' ck)
    go_ret2
    exact ⟨rfl, hg1⟩
end Go.Proofs.YthgecojbggoniaaGreatDoor
namespace Go.Proofs.YthgecojbggoniaaGreatDoor
open Go.RowKit
set_option maxRecDepth 100000
set_option linter.unusedVariables false
set_option linter.unusedSimpArgs false
set_option linter.unnecessarySimpa false

def UpS (S : Nat → Prop) (w : World) (k : Nat) : Prop := S k ∨ w.heap.size ≤ k
theorem chainF_nxt {w : World} {X Y : Nat → List Nd} (h : ∀ i, i < 16 → ptr (nxt (X i) i) = ptr (nxt (Y i) i)) : ∀ {P : List Nd}, ChainF w X P → ChainF w Y P
  | [], _ => trivial
  | m :: R, ⟨h1, h2⟩ => by
    refine ⟨?_, chainF_nxt h h2⟩
    rw [h1]
    have : nodeA m (fun i => up m (R ++ X i) i) = nodeA m (fun i => up m (R ++ Y i) i) := by
      unfold nodeA
      congr 4
      refine List.map_congr_left (fun i hi => ?_)
      unfold up
      rw [nxt_app, nxt_app]
      cases nxt R i with
      | none => simp only [Option.none_or]; rw [h i (List.mem_range.1 hi)]
      | some x => rfl
    rw [this]
theorem chain_lt {w : World} {X : Nat → List Nd} : ∀ {P : List Nd}, ChainF w X P → ∀ n ∈ P, n.blk < w.heap.size
  | m :: R, ⟨h1, h2⟩, n, hn => by
    rcases List.mem_cons.1 hn with rfl | hn
    · exact (Array.getElem?_eq_some_iff.1 h1).1
    · exact chain_lt h2 n hn
theorem chain_blk {w : World} {X : Nat → List Nd} : ∀ {P : List Nd}, ChainF w X P → ∀ n ∈ P, ∃ cs, w.heap[n.blk]? = some (.cells cs 150)
  | m :: R, ⟨h1, h2⟩, n, hn => by
    rcases List.mem_cons.1 hn with rfl | hn
    · exact ⟨_, h1⟩
    · exact chain_blk h2 n hn
/-- the list with a node more -/
theorem SkipAt.add {lb H : Nat} {S S' : Nat → Prop} {L : List Nd} {w w' : World} (h : SkipAt lb H S L w) (nn : Nd) (hs : 1 ≤ nn.steps ∧ nn.steps ≤ 16) (hnew : getN nn.key L = none) (hB : w.heap.size ≤ nn.blk) (hS : ∀ k, S k → S' k) (hSB : S' nn.blk)
    (hlist : w'.heap[lb]? = some (.cells #[.pointer (some ⟨H, 0, none⟩), .int .i64 ((L.length + 1 : Nat) : Int)] 153)) (hc1 : ChainF w' (fun i => if i < nn.steps then nn :: above nn.key L else above nn.key L) (hd0 H :: below nn.key L)) (hc2 : ChainF w' (fun _ => []) (above nn.key L))
    (hc3 : w'.heap[nn.blk]? = some (.cells (nodeA nn (fun i => up nn (above nn.key L) i)) 150)) : SkipAt lb H S' (below nn.key L ++ nn :: above nn.key L) w' := by
  have hLe := below_above nn.key L
  refine ⟨?_, ?_, ?_, ?_, ?_, hS _ h.sl, ?_⟩
  · rw [hlist]
    have : (below nn.key L ++ nn :: above nn.key L).length = L.length + 1 := by
      have := congrArg List.length hLe
      simp only [List.length_append, List.length_cons] at this ⊢
      omega
    rw [this]
  · rw [← List.cons_append]
    refine chainF_app.2 ⟨chainF_nxt (fun i hi => ?_) hc1, ?_⟩
    · simp only [List.append_nil]
      split
      · rfl
      · rename_i hn
        simp only [nxt, List.find?_cons]
        rw [decide_eq_false (by omega)]
    · refine ⟨?_, hc2⟩
      rw [hc3]
      simp
  · have hr := h.rise
    rw [← hLe] at hr
    obtain ⟨r1, r2, r3⟩ := List.pairwise_append.1 hr
    refine List.pairwise_append.2 ⟨r1, List.pairwise_cons.2 ⟨fun x hx => ?_, r2⟩, fun a ha b hb => ?_⟩
    · have hge := above_ge h.rise x hx
      cases hc : klt nn.key x.key with
      | true => rfl
      | false =>
        exfalso
        have heq := bl_total _ _ hge hc
        cases ha : above nn.key L with
        | nil => rw [ha] at hx; simp at hx
        | cons y r =>
          have hy := above_ge h.rise y (by rw [ha]; simp)
          have hyx : y = x := by
            rw [ha] at hx r2
            rcases List.mem_cons.1 hx with rfl | hx
            · rfl
            · have := (List.pairwise_cons.1 r2).1 x hx
              have e2 : klt y.key nn.key = true := by
                show Op.bytesLess y.key.toList nn.key.toList = true
                rw [← heq]; exact this
              rw [hy] at e2; cases e2
          subst hyx
          unfold getN at hnew
          rw [ha] at hnew
          simp only [List.head?_cons] at hnew
          rw [if_pos (by simpa using heq)] at hnew
          cases hnew
    · rcases List.mem_cons.1 hb with rfl | hb
      · exact below_lt ha
      · exact r3 a ha b hb
  · have hnd := h.nd
    have hlt := chain_lt h.chain
    rw [← hLe] at hnd hlt
    rw [← List.cons_append, List.map_append] at hnd ⊢
    rw [List.map_cons]
    obtain ⟨n1, n2, n3⟩ := List.nodup_append.1 hnd
    have hne : ∀ x ∈ hd0 H :: (below nn.key L ++ above nn.key L), x.blk ≠ nn.blk := fun x hx e => by have := hlt x hx; omega
    refine List.nodup_append.2 ⟨n1, List.nodup_cons.2 ⟨fun hm => ?_, n2⟩, fun a ha b hb => ?_⟩
    · obtain ⟨x, hx, e⟩ := List.mem_map.1 hm
      exact hne x (by simp [hx]) e
    · rcases List.mem_cons.1 hb with rfl | hb
      · have ha' : a ∈ List.map (·.blk) (hd0 H :: below nn.key L) := ha
        obtain ⟨x, hx, e⟩ := List.mem_map.1 ha'
        rw [← e]
        exact hne x (by rcases List.mem_cons.1 hx with h | h <;> simp [h])
      · exact n3 a ha b hb
  · intro x hx
    rcases List.mem_append.1 hx with hx | hx
    · exact h.steps x (by rw [← hLe]; simp [hx])
    · rcases List.mem_cons.1 hx with rfl | hx
      · exact hs
      · exact h.steps x (by rw [← hLe]; simp [hx])
  · intro x hx
    rcases List.mem_cons.1 hx with rfl | hx
    · exact hS _ (h.sn _ (by simp))
    · rcases List.mem_append.1 hx with hx | hx
      · exact hS _ (h.sn x (by rw [← hLe]; simp [hx]))
      · rcases List.mem_cons.1 hx with rfl | hx
        · exact hSB
        · exact hS _ (h.sn x (by rw [← hLe]; simp [hx]))

/-- a value that is set at a step of a node -/
theorem up_set {w : World} {b j : Nat} {nn : Nd} {f g : Nat → Value} {t : TypeId} (hb : w.heap[b]? = some (.cells (nodeA nn f) t)) (hj : j < 16) (h : ∀ i, i < 16 → i ≠ j → f i = g i) : (w.setCell ⟨b, 3 + j, none⟩ (g j)).heap[b]? = some (.cells (nodeA nn g) t) := by
  have := nodeA_set (n := nn) hj h
  rw [Array.set!_eq_setIfInBounds] at this
  rw [heap_set hb, this]
structure PutInv (lb H : Nat) (S : Nat → Prop) (L : List Nd) (nn : Nd) (w0 w : World) (k : Nat) : Prop where
  c1 : ChainF w (fun i => if i < k then nn :: above nn.key L else above nn.key L) (hd0 H :: below nn.key L)
  c2 : ChainF w (fun _ => []) (above nn.key L)
  c3 : w.heap[nn.blk]? = some (.cells (nodeA nn (fun i => if i < k then up nn (above nn.key L) i else .pointer none)) 150)
  list : w.heap[lb]? = some (.cells #[.pointer (some ⟨H, 0, none⟩), .int .i64 L.length] 153)
  fr : FrT (UpS S w0) w0 w
/-- one step -/
theorem PutInv.step {lb H : Nat} {S : Nat → Prop} {L : List Nd} {nn : Nd} {w0 w : World} {k : Nat} (h : PutInv lb H S L nn w0 w k) (hk : k < nn.steps) (hk16 : k < 16) (hnd : ((hd0 H :: L).map (·.blk)).Nodup) (hB : ∀ n ∈ hd0 H :: L, n.blk ≠ nn.blk) (hsn : ∀ n ∈ hd0 H :: L, S n.blk) (hBw : w0.heap.size ≤ nn.blk) (hlb : S lb)  :
    PutInv lb H S L nn w0 ((w.setCell ⟨nn.blk, 3 + k, none⟩ (ptr (nxt (above nn.key L) k))).setCell ⟨(lastAt (hd0 H) (below nn.key L) k).blk, 3 + k, none⟩ (.pointer (some ⟨nn.blk, 0, none⟩))) (k + 1) := by
  obtain ⟨A, R, e, hs, hR⟩ := lastAt_split (h := hd0 H) (P := below nn.key L) (i := k) (by simp [hd0]; exact hk16)
  have hLe := below_above nn.key L
  have hmem : lastAt (hd0 H) (below nn.key L) k ∈ hd0 H :: below nn.key L := by rw [e]; simp
  have hmemL : ∀ x, x ∈ hd0 H :: below nn.key L → x ∈ hd0 H :: L := fun x hx => by
    rcases List.mem_cons.1 hx with h | h
    · simp [h]
    · rw [← hLe]; simp [h]
  have hmemQ : ∀ x, x ∈ above nn.key L → x ∈ hd0 H :: L := fun x hx => by rw [← hLe]; simp [hx]
  have hnd' := hnd
  rw [← hLe, ← List.cons_append, List.map_append] at hnd'
  obtain ⟨n1, n2, n3⟩ := List.nodup_append.1 hnd'
  have hc1 : ChainF (w.setCell ⟨nn.blk, 3 + k, none⟩ (ptr (nxt (above nn.key L) k))) (fun i => if i < k then nn :: above nn.key L else above nn.key L) (hd0 H :: below nn.key L) :=
    chainF_blk h.c1 (fun n hn o ho => heap_set_other ho _ _ (fun e => hB n (hmemL n hn) e.symm))
  refine ⟨?_, ?_, ?_, ?_, ?_⟩
  · refine chainF_turn hc1 hk16 (by simp [hd0]; exact hk16) (fun i hi hne => ?_) n1 (fun A' R' e' => ?_) (fun j o hj ho => heap_set_other ho _ _ (fun e => hj e.symm))
    · by_cases h1 : i < k
      · rw [if_pos h1, if_pos (by omega)]
      · rw [if_neg h1, if_neg (by omega)]
    · have hc := hc1
      rw [e'] at hc
      have h1 := chainF_at hc
      rw [heap_set h1]
      congr 2
      rw [if_pos (by omega : k < k + 1)]
      simp only [nxt, List.find?_cons, decide_eq_true hk]
      rfl
  · refine chainF_blk h.c2 (fun n hn o ho => heap_set_other (heap_set_other ho _ _ (fun e => hB n (hmemQ n hn) e.symm)) _ _ (fun e => ?_))
    exact n3 _ (List.mem_map_of_mem hmem) _ (List.mem_map_of_mem hn) e
  · refine heap_set_other ?_ _ _ (fun e => hB _ (hmemL _ hmem) e)
    have := up_set (g := fun i => if i < k + 1 then up nn (above nn.key L) i else .pointer none) h.c3 hk16 (fun i hi hne => by
      by_cases h1 : i < k
      · rw [if_pos h1, if_pos (by omega)]
      · rw [if_neg h1, if_neg (by omega)])
    rw [if_pos (by omega), up_at hk] at this
    exact this
  · have hty : ∀ b cs, w.heap[b]? = some (.cells cs 150) → b ≠ lb := fun b cs hb e => by
      rw [e, h.list] at hb
      simp at hb
    refine heap_set_other (heap_set_other h.list _ _ ?_) _ _ ?_
    · exact hty _ _ h.c3
    · obtain ⟨cs, hcs⟩ := chain_blk h.c1 _ hmem
      exact hty _ _ hcs
  · have hset : ∀ (W : World) (b i : Nat) (v : Value), FrT (UpS S w0) w0 W → (w0.heap.size ≤ b ∨ (S b ∧ ∃ cs, W.heap[b]? = some (.cells cs 150))) → FrT (UpS S w0) w0 (W.setCell ⟨b, i, none⟩ v) := by
      intro W b i v hW hb
      refine ⟨hW.os, hW.tape, hW.output, by simpa using hW.size, fun j o ho hn => ?_⟩
      refine heap_set_other (hW.blk j o ho hn) _ _ (fun e => ?_)
      simp only at e
      subst e
      rcases hb with hb | ⟨hb, cs, hcs⟩
      · have := (Array.getElem?_eq_some_iff.1 ho).1
        omega
      · have h5 := hW.blk b o ho hn
        rw [hcs] at h5
        cases h5
        exact hn (.inl hb) ⟨cs, _, .inl rfl⟩
    refine hset _ _ _ _ (hset _ _ _ _ h.fr (.inl hBw)) (.inr ⟨hsn _ (hmemL _ hmem), ?_⟩)
    exact chain_blk hc1 _ hmem
end Go.Proofs.YthgecojbggoniaaGreatDoor
namespace Go.Proofs.YthgecojbggoniaaGreatDoor
open Go.RowKit
set_option linter.unusedVariables false
set_option linter.unusedSimpArgs false

section
variable {P : Program} {ops : Array Oper} {Q : Exit → Act → World → Prop} {md : Region.Mode} {S : World → Prop} {T : List Nat}

def wpAnyT (P : Program) (md : Region.Mode) (ops : Array Oper) (Q : Exit → Act → World → Prop) (S : World → Prop) (T : List Nat) : Nat → Array Bool → Act → World → Prop
  | 0, listed, a, w => Region.ready md ops listed = [] ∧ Q .normal a w
  | fuel + 1, listed, a, w =>
    (Region.ready md ops listed = [] → Q .normal a w) ∧
    ∀ i ∈ Region.ready md ops listed, wpOp P ops Q i (fun a' w' => (i ∉ T → S w') ∧ wpAnyT P md ops Q S T fuel (listed.setIfInBounds i true) a' w') a w
theorem wpAny_of_T : ∀ (fuel : Nat) (listed : Array Bool) (a : Act) (w : World), wpAnyT P md ops Q S T fuel listed a w → wpAny P md ops Q fuel listed a w
  | 0, _, _, _, h => h
  | fuel + 1, _, _, _, h => ⟨h.1, fun i hi => wpOp_mono (fun a' w' h' => wpAny_of_T fuel _ a' w' h'.2) (h.2 i hi)⟩
theorem wpAnyT_weaken {S' : World → Prop} (hS : ∀ w, S' w → S w) : ∀ (fuel : Nat) (listed : Array Bool) (a : Act) (w : World),
    wpAnyT P md ops Q S' T fuel listed a w → wpAnyT P md ops Q S T fuel listed a w
  | 0, _, _, _, h => h
  | fuel + 1, _, _, _, h => ⟨h.1, fun i hi => wpOp_mono (fun a' w' h' => ⟨fun hT => hS w' (h'.1 hT), wpAnyT_weaken hS fuel _ a' w' h'.2⟩) (h.2 i hi)⟩

/-- all that may come up while number i has not -/
def fillB (md : Region.Mode) (ops : Array Oper) (i : Nat) : Nat → Array Bool → Array Bool
  | 0, l => l
  | f + 1, l => fillB md ops i f ((Region.ready md ops l).foldl (fun l j => if j = i then l else l.setIfInBounds j true) l)
/-- those of T that are still to come wait for number i -/
def lateB (md : Region.Mode) (ops : Array Oper) (T : List Nat) (listed M : Array Bool) (i : Nat) : Bool :=
  decide (M.size = ops.size) && (Region.ready md ops M).all (fun j => decide (j = i)) && (List.range ops.size).all (fun k => !listed.getD k false || M.getD k false) && decide (listed.size = ops.size) && T.all (fun j => !M.getD j true || listed.getD j true)

theorem late_not {M : Array Bool} {i j : Nat} (hM : M.size = ops.size) (hr : ∀ j ∈ Region.ready md ops M, j = i) {listed : Array Bool} (h1 : ∀ k, listed.getD k false = true → M.getD k false = true)
    (hj : j ∈ Region.ready md ops listed) (hji : j ≠ i) : M.getD j true = true ∧ M.getD j false = true := by
  obtain ⟨hjun, oj, hoj, hall⟩ := mem_ready.1 hj
  have hlt : j < M.size := by rw [hM]; exact (Array.getElem?_eq_some_iff.1 hoj).1
  cases hm : M.getD j true with
  | true =>
    refine ⟨rfl, ?_⟩
    simp only [Array.getD, hlt, dif_pos] at hm ⊢
    exact hm
  | false => exact absurd (hr j (mem_ready.2 ⟨hm, oj, hoj, fun e he hb => h1 _ (hall e he hb)⟩)) hji

theorem wpAnyT_first {i : Nat} {oi : Oper} {v : Value} (hi : ops[i]? = some oi) (hsel : ∀ (j : Nat) (o : Oper) cs b, ops[j]? = some o → o.op ≠ .select cs b)
    (hQ : ∀ c a w, Q (.panic c) (a.put oi.dst v) w → Q (.panic c) a w) {M : Array Bool} (hM : M.size = ops.size) (hMr : ∀ j ∈ Region.ready md ops M, j = i) :
    ∀ (fuel : Nat) (listed : Array Bool) (a : Act) (w : World),
      (∀ k, listed.getD k false = true → M.getD k false = true) → (∀ j ∈ T, M.getD j true = true → listed.getD j true = true) →
      (∀ j oj, ops[j]? = some oj → j ≠ i → listed.getD j true = false → (∀ e ∈ oj.after, Region.binds md e = true → e.on ≠ i) → oi.apart ops oj = true) →
      i ∈ Region.ready md ops listed → YieldsIf P ops S oi v a → S w →
      wpAnyT P md ops Q S T fuel (listed.setIfInBounds i true) (a.put oi.dst v) w → wpAnyT P md ops Q S T (fuel + 1) listed a w := by
  intro fuel
  induction fuel with
  | zero =>
    intro listed a w _ _ _ hr hy hS H
    refine ⟨fun h => (by rw [h] at hr; cases hr), fun j hj => ?_⟩
    by_cases hji : j = i
    · subst hji; exact hy.wpOp hi hS ⟨fun _ => hS, H⟩
    · have := ready_mono hj hji
      rw [H.1] at this
      cases this
  | succ fuel ih =>
    intro listed a w hI1 hI2 hfree hr hy hS H
    refine ⟨fun h => (by rw [h] at hr; cases hr), fun j hj => ?_⟩
    by_cases hji : j = i
    · subst hji; exact hy.wpOp hi hS ⟨fun _ => hS, H⟩
    · have h1 := H.2 j (ready_mono hj hji)
      obtain ⟨hm1, hm2⟩ := late_not hM hMr hI1 hj hji
      obtain ⟨hjun, oj, hoj, hall⟩ := mem_ready.1 hj
      have hjT : j ∉ T := fun hT => by
        have := hI2 j hT hm1
        rw [hjun] at this
        cases this
      have hnot : ∀ e ∈ oj.after, Region.binds md e = true → e.on ≠ i := fun e he hb heq => by
        have h1 := hall e he hb
        have h0 := (mem_ready.1 hr).1
        rw [heq] at h1
        rcases Nat.lt_or_ge i listed.size with h' | h'
        · simp [h'] at h0 h1; rw [h0] at h1; cases h1
        · simp [Array.getElem?_eq_none h'] at h1
      have h2 := wpOp_putIf hoj (hfree j oj hoj hji hjun hnot) (fun cs b => hsel i oi cs b hi) (fun cs b => hsel j oj cs b hoj) hQ hy h1
      have hfree' : ∀ k ok, ops[k]? = some ok → k ≠ i → (listed.setIfInBounds j true).getD k true = false →
          (∀ e ∈ ok.after, Region.binds md e = true → e.on ≠ i) → oi.apart ops ok = true := fun k ok hk hki hun hno => by
        refine hfree k ok hk hki ?_ hno
        by_cases hjk : j = k
        · subst hjk; exact hjun
        · rw [getD_set_ne true hjk] at hun; exact hun
      refine wpOp_mono (fun a' w' h3 => ⟨h3.2.1, ih (listed.setIfInBounds j true) a' w' ?_ ?_ hfree' (ready_mono hr (Ne.symm hji)) h3.1 (h3.2.1 hjT) ?_⟩) h2
      · intro k hk
        by_cases hjk : j = k
        · subst hjk; exact hm2
        · rw [getD_set_ne false hjk] at hk; exact hI1 k hk
      · intro k hk hmk
        by_cases hjk : j = k
        · subst hjk
          have hlt : j < (listed.setIfInBounds j true).size ∨ ¬ j < (listed.setIfInBounds j true).size := by omega
          rcases hlt with h | h
          · simp only [Array.getD, h, dif_pos]; simp
          · simp only [Array.getD, h, dif_neg]; simp
        · rw [getD_set_ne true hjk]; exact hI2 k hk hmk
      · rw [Array.setIfInBounds_comm _ _ hji]
        exact h3.2.2

/-! the moves -/
theorem wpAnyT_take {i : Nat} {oi : Oper} {v : Value} {fuel : Nat} {listed : Array Bool} {a : Act} {w : World} (hi : ops[i]? = some oi)
    (hs : Region.noSelect ops = true) (hf : Region.free md ops listed i = true) (hr : (Region.ready md ops listed).contains i = true) (hl : lateB md ops T listed (fillB md ops i ops.size listed) i = true)
    (hQ : ∀ c a w, Q (.panic c) (a.put oi.dst v) w → Q (.panic c) a w) (hy : YieldsIf P ops S oi v a) (hS : S w)
    (h : wpAnyT P md ops Q S T fuel (listed.setIfInBounds i true) (a.put oi.dst v) w) : wpAnyT P md ops Q S T (fuel + 1) listed a w := by
  simp only [lateB, Bool.and_eq_true, decide_eq_true_eq, List.all_eq_true, List.mem_range, Bool.or_eq_true, Bool.not_eq_true'] at hl
  obtain ⟨⟨⟨⟨h1, h2⟩, h3⟩, h4⟩, h5⟩ := hl
  refine wpAnyT_first hi (Region.noSelect_spec hs) hQ h1 h2 fuel listed a w (fun k hk => ?_) (fun j hj hm => ?_) (Region.free_spec hi hf) (by simpa using hr) hy hS h
  · have hk' : k < ops.size := by
      rw [← h4]
      rcases Nat.lt_or_ge k listed.size with h' | h'
      · exact h'
      · simp [Array.getD, Nat.not_lt.2 h'] at hk
    rcases h3 k hk' with h | h
    · rw [h] at hk; cases hk
    · exact h
  · rcases h5 j hj with h | h
    · rw [h] at hm; cases hm
    · exact h
def AllReadyT (P : Program) (md : Region.Mode) (ops : Array Oper) (Q : Exit → Act → World → Prop) (S : World → Prop) (T : List Nat) (fuel : Nat) (listed : Array Bool) (a : Act) (w : World) (rs : List Nat) : Prop :=
  ∀ i ∈ rs, wpOp P ops Q i (fun a' w' => (i ∉ T → S w') ∧ wpAnyT P md ops Q S T fuel (listed.setIfInBounds i true) a' w') a w
theorem AllReadyT.nil {fuel : Nat} {listed : Array Bool} {a : Act} {w : World} : AllReadyT P md ops Q S T fuel listed a w [] := fun _ h => by cases h
/-- one that keeps S -/
theorem AllReadyT.cons {fuel : Nat} {listed : Array Bool} {a : Act} {w : World} {i : Nat} {o : Oper} {rs : List Nat} (ho : ops[i]? = some o)
    (h : ∀ K' : Act → World → Prop, Shut (∀ a w, S w → (S w → wpAnyT P md ops Q S T fuel (listed.setIfInBounds i true) a w) → K' a w) → if Region.wanted o (yielded ops a.tmps) = true then Oper.wp P o a w K' Q else K' (a.put o.dst undef) w)
    (hs : AllReadyT P md ops Q S T fuel listed a w rs) : AllReadyT P md ops Q S T fuel listed a w (i :: rs) := fun j hj => by
  rcases List.mem_cons.1 hj with rfl | hj
  · exact wpOp_step ho (fun K' hK => h K' (fun a w hS hW => hK a w ⟨fun _ => hS, hW hS⟩))
  · exact hs j hj
theorem wpAnyT_ready {rs : List Nat} {fuel : Nat} {listed : Array Bool} {a : Act} {w : World} (hr : Region.ready md ops listed = rs) (hne : rs ≠ [])
    (h : AllReadyT P md ops Q S T fuel listed a w rs) : wpAnyT P md ops Q S T (fuel + 1) listed a w :=
  ⟨fun h0 => absurd (hr ▸ h0) hne, hr ▸ h⟩
theorem wpAnyT_done {listed : Array Bool} {a : Act} {w : World} (hr : Region.ready md ops listed = []) (h : Q .normal a w) :
    ∀ fuel, wpAnyT P md ops Q S T fuel listed a w
  | 0 => ⟨hr, h⟩
  | _ + 1 => ⟨fun _ => h, by rw [hr]; simp⟩
theorem wp_region_T {id : Nat} {a : Act} {w : World} (T : List Nat) (hm : P.follows .mixedOrders = true) (hS : S w.drew)
    (h : S w.drew → wpAnyT P .any ops Q S T ops.size (Array.replicate ops.size false) a w.drew) : (Code.region id ops true).wp P Q a w :=
  wp_region_any hm (wpAny_of_T _ _ _ _ (h hS))

/-- all that is still to come is of the tail, and comes in the order of the text -/
theorem wpAnyT_of_any : ∀ (fuel : Nat) (listed : Array Bool) (a : Act) (w : World), (∀ j, j ∈ Region.ready md ops listed → j ∈ T) → (∀ j < ops.size, listed.getD j true = false → j ∈ T) →
    wpAny P md ops Q fuel listed a w → wpAnyT P md ops Q S T fuel listed a w
  | 0, _, _, _, _, _, h => h
  | fuel + 1, listed, a, w, hT, hU, h => ⟨h.1, fun i hi => wpOp_mono (fun a' w' h' => ⟨fun hn => absurd (hT i hi) hn, wpAnyT_of_any fuel _ a' w' (fun j hj => by
      obtain ⟨hjun, oj, hoj, _⟩ := mem_ready.1 hj
      refine hU j (Array.getElem?_eq_some_iff.1 hoj).1 ?_
      by_cases hij : i = j
      · subst hij
        exfalso
        have hlt : i < (listed.setIfInBounds i true).size ∨ ¬ i < (listed.setIfInBounds i true).size := by omega
        rcases hlt with h | h
        · simp only [Array.getD, h, dif_pos] at hjun; simp at hjun
        · simp only [Array.getD, h, dif_neg] at hjun; simp at hjun
      · rw [getD_set_ne true hij] at hjun; exact hjun) (fun j hj hun => by
      by_cases hij : i = j
      · subst hij; exact hT i hi
      · rw [getD_set_ne true hij] at hun; exact hU j hj hun) h'⟩) (h.2 i hi)⟩
/-- the operations of these numbers -/
inductive Picks (ops : Array Oper) : List Nat → List Oper → Prop
  | nil : Picks ops [] []
  | cons {k : Nat} {o : Oper} {ks : List Nat} {l : List Oper} : ops[k]? = some o → Picks ops ks l → Picks ops (k :: ks) (o :: l)
/-- just these come up, one behind the other -/
def chainK (md : Region.Mode) (ops : Array Oper) : List Nat → Array Bool → Bool
  | [], listed => (Region.ready md ops listed).isEmpty
  | k :: ks, listed => decide (Region.ready md ops listed = [k]) && chainK md ops ks (listed.setIfInBounds k true)
theorem wpAny_of_chain : ∀ (ks : List Nat) (l : List Oper) (listed : Array Bool) (a : Act) (w : World), Picks ops ks l →
    chainK md ops ks listed = true → wpList P ops Q l a w → wpAny P md ops Q l.length listed a w
  | [], _, _, _, _, .nil, hB, h => ⟨by simpa [chainK] using hB, h⟩
  | k :: ks, _, listed, a, w, .cons (o := o) (l := l) ho hp, hB, h => by
    simp only [chainK, Bool.and_eq_true, decide_eq_true_eq] at hB
    refine ⟨fun h1 => (by rw [hB.1] at h1; cases h1), fun i hi => ?_⟩
    rw [hB.1] at hi
    have hik : i = k := by simpa using hi
    subst hik
    have hw : wpOp P ops Q i (wpList P ops Q l) a w := by unfold wpOp; simp only [ho]; exact h
    exact wpOp_mono (fun a' w' h' => wpAny_of_chain ks l _ a' w' hp hB.2 h') hw
theorem wpAnyT_chain (ks : List Nat) {l : List Oper} {fuel : Nat} {listed : Array Bool} {a : Act} {w : World} (hp : Picks ops ks l) (hT : ((List.range ops.size).all fun j => listed.getD j true || T.contains j) = true)
    (hB : chainK md ops ks listed = true) (hf : fuel = l.length) (h : wpList P ops Q l a w) : wpAnyT P md ops Q S T fuel listed a w := by
  subst hf
  have hU : ∀ j < ops.size, listed.getD j true = false → j ∈ T := fun j hj hun => by
    have := List.all_eq_true.1 hT j (List.mem_range.2 hj)
    simpa [hun] using this
  exact wpAnyT_of_any _ _ _ _ (fun j hj => by
    obtain ⟨hjun, oj, hoj, _⟩ := mem_ready.1 hj
    exact hU j (Array.getElem?_eq_some_iff.1 hoj).1 hjun) hU (wpAny_of_chain ks l listed a w hp hB h)
end
end Go.Proofs.YthgecojbggoniaaGreatDoor
