/- Plain words of layer 2: texts and stamps as lists of bytes. No program in sight. -/
import Derived.Lib.Replace
namespace Go.Proofs.YtpnojkgdjkncbaaDoor
open Go

/-- a text's bytes, each 0 as 0 1 -/
def esc : List UInt8 → List UInt8
  | [] => []
  | c :: l => if c = 0 then 0 :: 1 :: esc l else c :: esc l
def keyL (l : List UInt8) : List UInt8 := esc l ++ [0, 0]

/-- what is taken off: the text, what is left, the error's number; 'out' was taken already -/
def takeL (out : List UInt8) : List UInt8 → List UInt8 × List UInt8 × Int
  | [] => ([], [], 3)
  | c :: t =>
    if c = 0 then
      match t with
      | [] => ([], [], 3)
      | d :: u => if d = 0 then (out, u, 0) else if d = 1 then (if out.length = 1000 then ([], [], 5) else takeL (out ++ [0]) u) else ([], [], 4)
    else if out.length = 1000 then ([], [], 5) else takeL (out ++ [c]) t

/-- a number in so many bytes, the highest first -/
def beL (n : Int) : Nat → List UInt8
  | 0 => []
  | k + 1 => UInt8.ofNat (n / 256 ^ k % 256).toNat :: beL n k
/-- the number that bytes are -/
def numL (l : List UInt8) : Int := l.foldl (fun n c => n * 256 + c.toNat) 0

def mayB (a b : Int) : Bool := decide (0 ≤ a ∧ a ≤ 1099511627776 ∧ 0 ≤ b ∧ b ≤ 1048575)
def downL (a b : Int) : List UInt8 := beL (1099511627776 - a) 6 ++ beL (1048575 - b) 3
def checkE (n : Nat) : Int := if 1 ≤ n ∧ n ≤ 32 then 0 else 2
def bringI (i n : Int) : Int := if n ≤ 0 then 0 else i % n

def takeDownL (l : List UInt8) : Int × Int × List UInt8 × Int :=
  if l.length < 9 then (0, 0, [], 3)
  else if mayB (1099511627776 - numL (l.take 6)) (1048575 - numL ((l.drop 6).take 3)) = true then (1099511627776 - numL (l.take 6), 1048575 - numL ((l.drop 6).take 3), l.drop 9, 0)
  else (0, 0, [], 4)

/-- what Key answers -/
def keyR (l : List UInt8) : List UInt8 × Int := if l.length ≤ 1000 then (keyL l, 0) else ([], 5)
/-- what the statements' key is -/
def keyF (l : List UInt8) : List UInt8 := if l.length ≤ 1000 then keyL l else [63]
/-- what Down answers -/
def downR (a b : Int) : List UInt8 × Int := if mayB a b = true then (downL a b, 0) else ([], 2)

theorem takeL_nil (out : List UInt8) : takeL out [] = ([], [], 3) := rfl
theorem takeL_end (out : List UInt8) (c : UInt8) (hc : c = 0) : takeL out [c] = ([], [], 3) := by subst hc; rfl
theorem takeL_stop (out u : List UInt8) (c d : UInt8) (hc : c = 0) (hd : d = 0) : takeL out (c :: d :: u) = (out, u, 0) := by subst hc hd; rfl
theorem takeL_bad (out u : List UInt8) (c d : UInt8) (hc : c = 0) (h0 : d ≠ 0) (h1 : d ≠ 1) : takeL out (c :: d :: u) = ([], [], 4) := by subst hc; simp [takeL, h0, h1]
theorem takeL_lim1 (out u : List UInt8) (c d : UInt8) (hc : c = 0) (hd : d = 1) (h : out.length = 1000) : takeL out (c :: d :: u) = ([], [], 5) := by subst hc hd; simp [takeL, h]
theorem takeL_go1 (out u : List UInt8) (c d : UInt8) (hc : c = 0) (hd : d = 1) (h : out.length ≠ 1000) : takeL out (c :: d :: u) = takeL (out ++ [0]) u := by subst hc hd; rw [takeL]; simp [h]
theorem takeL_lim (out u : List UInt8) (c : UInt8) (hc : c ≠ 0) (h : out.length = 1000) : takeL out (c :: u) = ([], [], 5) := by rw [takeL.eq_def]; simp [h, hc]
theorem takeL_go (out u : List UInt8) (c : UInt8) (hc : c ≠ 0) (h : out.length ≠ 1000) : takeL out (c :: u) = takeL (out ++ [c]) u := by rw [takeL.eq_def]; simp [h, hc]

theorem esc_append (a b : List UInt8) : esc (a ++ b) = esc a ++ esc b := by
  induction a with
  | nil => rfl
  | cons c l ih => simp only [List.cons_append, esc]; split <;> simp [ih]
theorem esc_length_le (l : List UInt8) : (esc l).length ≤ 2 * l.length := by
  induction l with
  | nil => simp [esc]
  | cons c l ih => simp only [esc]; split <;> simp <;> omega
theorem length_le_esc (l : List UInt8) : l.length ≤ (esc l).length := by
  induction l with
  | nil => simp [esc]
  | cons c l ih => simp only [esc]; split <;> simp <;> omega
theorem countB_zero (s : ByteArray) : Lib.countB s ⟨#[0]⟩ = s.data.toList.count 0 := Lib.count_one 0 _
theorem index_cons_eq (l : List UInt8) : Lib.index (0 :: l) [0] = 0 := by simp [Lib.index, List.isPrefixOf]
theorem index_cons_ne (c : UInt8) (l : List UInt8) (h : c ≠ 0) (i : Nat) (hi : Lib.index l [0] = i) : Lib.index (c :: l) [0] = ((i + 1 : Nat) : Int) := by
  have h1 : ((i : Int) == -1) = false := by rw [beq_eq_false_iff_ne]; omega
  have h2 : (0 == c) = false := by rw [beq_eq_false_iff_ne]; exact fun e => h e.symm
  simp [Lib.index, List.isPrefixOf, hi, h1, h2]
theorem replaceK_esc : ∀ (l : List UInt8), Lib.replaceK [0] [0, 1] (l.count 0) l = esc l := by
  intro l
  induction l with
  | nil => simp [Lib.replaceK, esc]
  | cons c l ih =>
    by_cases hc : c = 0
    · subst hc
      rw [List.count_cons_self, Lib.replaceK_hit [0] [0, 1] _ _ 0 (index_cons_eq l)]
      simp [esc, ih]
    · have hcc : (c :: l).count 0 = l.count 0 := List.count_cons_of_ne hc
      rw [hcc, show esc (c :: l) = c :: esc l by simp [esc, hc], ← ih]
      cases hn : l.count 0 with
      | zero => simp [Lib.replaceK]
      | succ n =>
        obtain ⟨i, hi⟩ := Lib.index_of_count (s := l) (old := [0]) (by rw [Lib.count_one]; omega)
        rw [Lib.replaceK_hit [0] [0, 1] n l i hi, Lib.replaceK_hit [0] [0, 1] n (c :: l) (i + 1) (index_cons_ne c l hc i hi)]
        simp [Nat.add_assoc]
theorem replaceAll_esc (l : List UInt8) : Lib.replaceAll l [0] [0, 1] = esc l := by
  have h : ([0] == ([0, 1] : List UInt8)) = false := by decide
  have h2 : Lib.replaceNum l [0] (-1) = l.count 0 := by simp [Lib.replaceNum, Lib.count_one]
  rw [Lib.replaceAll, Lib.replace, h, h2]
  exact replaceK_esc l
theorem beL_length (n : Int) (k : Nat) : (beL n k).length = k := by
  induction k with
  | zero => rfl
  | succ k ih => simp [beL, ih]
end Go.Proofs.YtpnojkgdjkncbaaDoor
