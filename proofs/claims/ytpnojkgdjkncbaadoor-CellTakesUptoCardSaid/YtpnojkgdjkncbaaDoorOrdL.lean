/- The plain laws of layer 2: what is written of texts and stamps stands in their order, and is read as it was. -/
import Derived.Test.YtpnojkgdjkncbaaDoorOrdP
import Derived.Lib.Bytealg
import Derived.Lib.Strings
namespace Go.Proofs.YtpnojkgdjkncbaaDoor
open Go Go.Lib
set_option linter.unusedVariables false
set_option linter.unusedSimpArgs false

theorem cmp_self (l : List UInt8) : compareBytes l l = 0 := by
  induction l with
  | nil => rfl
  | cons c l ih => simp [compareBytes, UInt8.lt_irrefl, ih]
theorem cmp_zero : ∀ {a b : List UInt8}, compareBytes a b = 0 → a = b
  | [], [], _ => rfl
  | [], _ :: _, h => by simp [compareBytes] at h
  | _ :: _, [], h => by simp [compareBytes] at h
  | c :: a, d :: b, h => by
    simp only [compareBytes] at h
    split at h
    · cases h
    · split at h
      · cases h
      · rename_i h1 h2
        have : c = d := UInt8.le_antisymm (UInt8.not_lt.1 h2) (UInt8.not_lt.1 h1)
        rw [this, cmp_zero h]
theorem zero_lt {c : UInt8} (h : c ≠ 0) : (0 : UInt8) < c := by
  rw [UInt8.lt_iff_toNat_lt]
  have : c.toNat ≠ 0 := fun e => h (UInt8.toNat_inj.1 e)
  show 0 < c.toNat
  omega
theorem not_lt_zero (c : UInt8) : ¬ c < 0 := by rw [UInt8.lt_iff_toNat_lt]; exact Nat.not_lt_zero _
theorem cmp_esc : ∀ (s t x y : List UInt8), compareBytes (esc s ++ 0 :: 0 :: x) (esc t ++ 0 :: 0 :: y) = if s = t then compareBytes x y else compareBytes s t
  | [], [], x, y => by simp [esc, compareBytes, UInt8.lt_irrefl]
  | [], d :: t, x, y => by
    by_cases h : d = 0
    · subst h; simp [esc, compareBytes, UInt8.lt_irrefl]
    · simp [esc, h, compareBytes, zero_lt h]
  | c :: s, [], x, y => by
    by_cases h : c = 0
    · subst h; simp [esc, compareBytes, UInt8.lt_irrefl]
    · simp [esc, h, compareBytes, zero_lt h, not_lt_zero]
  | c :: s, d :: t, x, y => by
    have ih := cmp_esc s t x y
    by_cases h : c = 0
    · subst h
      by_cases h' : d = 0
      · subst h'; simp [esc, compareBytes, UInt8.lt_irrefl, ih]
      · have : ¬ (0 : UInt8) = d := fun e => h' e.symm
        simp [esc, h', compareBytes, zero_lt h', this]
    · by_cases h' : d = 0
      · subst h'; simp [esc, h, compareBytes, zero_lt h, not_lt_zero]
      · simp only [esc, h, h', if_false, List.cons_append, compareBytes]
        by_cases e : c = d
        · subst e; simp [UInt8.lt_irrefl, ih]
        · have : ¬ (c :: s = d :: t) := fun e' => e (List.cons.inj e').1
          rw [if_neg this]
          by_cases h1 : c < d
          · simp [h1]
          · have h2 : d < c := by
              rcases UInt8.lt_or_lt_of_ne e with h3 | h3
              · exact absurd h3 h1
              · exact h3
            simp [h1, h2]
theorem cmp_key (s t : List UInt8) : compareBytes (keyL s) (keyL t) = compareBytes s t := by
  have := cmp_esc s t [] []
  simp only [keyL]
  rw [this]
  split
  · rename_i h; rw [h, cmp_self, cmp_self]
  · rfl
theorem cmp_keys (a b c d : List UInt8) : compareBytes (keyL a ++ keyL b) (keyL c ++ keyL d) = if compareBytes a c = 0 then compareBytes b d else compareBytes a c := by
  have := cmp_esc a c (keyL b) (keyL d)
  simp only [keyL, List.append_assoc, List.cons_append, List.nil_append] at this ⊢
  rw [this]
  by_cases h : a = c
  · rw [if_pos h, h, cmp_self, if_pos rfl]; exact cmp_key b d
  · rw [if_neg h, if_neg (fun e => h (cmp_zero e))]

theorem prefix_esc : ∀ (s t x : List UInt8), (esc t ++ [0, 0]).isPrefixOf (esc s ++ 0 :: 0 :: x) = decide (s = t)
  | [], [], x => by simp [esc, List.isPrefixOf]
  | [], d :: t, x => by
    by_cases h : d = 0
    · subst h; simp [esc, List.isPrefixOf]
    · simp [esc, h, List.isPrefixOf]
  | c :: s, [], x => by
    by_cases h : c = 0
    · subst h; simp [esc, List.isPrefixOf]
    · have : ¬ (0 : UInt8) = c := fun e => h e.symm
      simp [esc, h, List.isPrefixOf, this]
  | c :: s, d :: t, x => by
    have ih := prefix_esc s t x
    by_cases h : c = 0
    · subst h
      by_cases h' : d = 0
      · subst h'; simp [esc, List.isPrefixOf, ih]
      · have : ¬ (0 : UInt8) = d := fun e => h' e.symm
        simp [esc, h', List.isPrefixOf, this]
    · by_cases h' : d = 0
      · subst h'
        have : ¬ (0 : UInt8) = c := fun e => h e.symm
        simp [esc, h, List.isPrefixOf, this]
      · simp only [esc, h, h', if_false, List.cons_append, List.isPrefixOf, ih]
        by_cases e : c = d
        · subst e; simp
        · have e2 : ¬ d = c := fun e' => e e'.symm
          simp [e, e2]
theorem prefix_key (s t : List UInt8) : hasPrefix (keyL s) (keyL t) = decide (s = t) := prefix_esc s t []

/-! stamps -/
theorem cmp_append : ∀ (a c b d : List UInt8), a.length = c.length → compareBytes (a ++ b) (c ++ d) = if compareBytes a c = 0 then compareBytes b d else compareBytes a c
  | [], [], b, d, _ => by simp [compareBytes]
  | [], _ :: _, _, _, h => by simp at h
  | _ :: _, [], _, _, h => by simp at h
  | x :: a, y :: c, b, d, h => by
    have ih := cmp_append a c b d (by simpa using h)
    simp only [List.cons_append, compareBytes]
    split
    · rfl
    · split
      · rfl
      · exact ih
theorem beL_succ (n k : Nat) : beL (n : Int) (k + 1) = UInt8.ofNat (n / 256 ^ k % 256) :: beL (n : Int) k := by
  simp only [beL]
  congr 2
theorem beL_mod (n k : Nat) : ∀ j, j ≤ k → beL ((n % 256 ^ k : Nat) : Int) j = beL (n : Int) j := by
  intro j
  induction j with
  | zero => intro _; rfl
  | succ j ih =>
    intro hj
    rw [beL_succ, beL_succ, ih (by omega)]
    congr 2
    have e : 256 ^ k = 256 ^ j * (256 * 256 ^ (k - j - 1)) := by rw [← Nat.mul_assoc, ← Nat.pow_succ, ← Nat.pow_add]; congr 1; omega
    rw [e, Nat.mod_mul_right_div_self, Nat.mod_mul_right_mod]
theorem u8_ofNat_lt {a b : Nat} (ha : a < 256) (hb : b < 256) : (UInt8.ofNat a < UInt8.ofNat b) = (a < b) := by
  rw [UInt8.lt_iff_toNat_lt, UInt8.toNat_ofNat', UInt8.toNat_ofNat', Nat.mod_eq_of_lt (by simpa using ha), Nat.mod_eq_of_lt (by simpa using hb)]
theorem cmp_beL : ∀ (k m n : Nat), m < 256 ^ k → n < 256 ^ k → compareBytes (beL (m : Int) k) (beL (n : Int) k) = if m < n then -1 else if n < m then 1 else 0 := by
  intro k
  induction k with
  | zero => intro m n hm hn; simp at hm hn; subst hm hn; simp [beL, compareBytes]
  | succ k ih =>
    intro m n hm hn
    have hp : 0 < 256 ^ k := Nat.pow_pos (by decide)
    rw [beL_succ, beL_succ]
    rw [Nat.pow_succ, Nat.mul_comm] at hm hn
    have hm1 : m / 256 ^ k < 256 := Nat.div_lt_of_lt_mul (by rw [Nat.mul_comm]; exact hm)
    have hn1 : n / 256 ^ k < 256 := Nat.div_lt_of_lt_mul (by rw [Nat.mul_comm]; exact hn)
    rw [Nat.mod_eq_of_lt hm1, Nat.mod_eq_of_lt hn1]
    simp only [compareBytes, u8_ofNat_lt hm1 hn1, u8_ofNat_lt hn1 hm1]
    have dm := Nat.div_add_mod m (256 ^ k)
    have dn := Nat.div_add_mod n (256 ^ k)
    have lm := Nat.mod_lt m hp
    have ln := Nat.mod_lt n hp
    rcases Nat.lt_trichotomy (m / 256 ^ k) (n / 256 ^ k) with h | h | h
    · have : m < n := by
        have := Nat.mul_le_mul_left (256 ^ k) (show m / 256 ^ k + 1 ≤ n / 256 ^ k from h)
        rw [Nat.mul_add] at this; omega
      rw [if_pos h, if_pos this]
    · rw [h, if_neg (Nat.lt_irrefl _), if_neg (Nat.lt_irrefl _)]
      have := ih (m % 256 ^ k) (n % 256 ^ k) lm ln
      rw [beL_mod m k k (Nat.le_refl _), beL_mod n k k (Nat.le_refl _)] at this
      rw [this]
      rw [h] at dm
      have e1 : (m % 256 ^ k < n % 256 ^ k) = (m < n) := by rw [eq_iff_iff]; omega
      have e2 : (n % 256 ^ k < m % 256 ^ k) = (n < m) := by rw [eq_iff_iff]; omega
      simp only [e1, e2]
    · have : n < m := by
        have := Nat.mul_le_mul_left (256 ^ k) (show n / 256 ^ k + 1 ≤ m / 256 ^ k from h)
        rw [Nat.mul_add] at this; omega
      rw [if_neg (by omega), if_pos h, if_neg (by omega), if_pos this]
theorem may_iff {a b : Int} : mayB a b = true ↔ 0 ≤ a ∧ a ≤ 1099511627776 ∧ 0 ≤ b ∧ b ≤ 1048575 := by simp [mayB]
theorem downL_length (a b : Int) : (downL a b).length = 9 := by simp [downL, beL_length]
theorem cmp_down {a b c d : Int} (h : mayB a b = true) (h' : mayB c d = true) :
    compareBytes (downL a b) (downL c d) = if c < a ∨ (a = c ∧ d < b) then -1 else if a ≠ c ∨ b ≠ d then 1 else 0 := by
  rw [may_iff] at h h'
  obtain ⟨A, hA⟩ := Int.eq_ofNat_of_zero_le (show 0 ≤ 1099511627776 - a by omega)
  obtain ⟨B, hB⟩ := Int.eq_ofNat_of_zero_le (show 0 ≤ 1048575 - b by omega)
  obtain ⟨C, hC⟩ := Int.eq_ofNat_of_zero_le (show 0 ≤ 1099511627776 - c by omega)
  obtain ⟨D, hD⟩ := Int.eq_ofNat_of_zero_le (show 0 ≤ 1048575 - d by omega)
  have e6 : 256 ^ 6 = 281474976710656 := by decide
  have e3 : 256 ^ 3 = 16777216 := by decide
  simp only [downL]
  rw [cmp_append _ _ _ _ (by rw [beL_length, beL_length]), hA, hB, hC, hD, cmp_beL 6 A C (by omega) (by omega), cmp_beL 3 B D (by omega) (by omega)]
  by_cases h1 : A < C
  · rw [if_pos h1, if_neg (by decide), if_pos (by omega)]
  · rw [if_neg h1]
    by_cases h2 : C < A
    · rw [if_pos h2, if_neg (by decide), if_neg (by omega), if_pos (by omega)]
    · rw [if_neg h2, if_pos rfl]
      by_cases h3 : B < D
      · rw [if_pos h3, if_pos (by omega)]
      · rw [if_neg h3]
        by_cases h4 : D < B
        · rw [if_pos h4, if_neg (by omega), if_pos (by omega)]
        · rw [if_neg h4, if_neg (by omega), if_neg (by omega)]

theorem numL_snoc' (l : List UInt8) (c : UInt8) : numL (l ++ [c]) = numL l * 256 + c.toNat := by simp [numL]
theorem numL_nat (l : List UInt8) : ∃ n : Nat, numL l = n ∧ n < 256 ^ l.length := by
  suffices h : ∀ k, ∀ l : List UInt8, l.length = k → ∃ n : Nat, numL l = n ∧ n < 256 ^ k from h _ l rfl
  intro k
  induction k with
  | zero => intro l h; have := List.length_eq_zero_iff.1 h; subst this; exact ⟨0, by simp [numL], by simp⟩
  | succ k ih =>
    intro l h
    have hne : l ≠ [] := by intro e; subst e; simp at h
    obtain ⟨n, h1, h2⟩ := ih l.dropLast (by simp [h])
    have hb := (l.getLast hne).toNat_lt
    refine ⟨n * 256 + (l.getLast hne).toNat, ?_, by rw [Nat.pow_succ]; omega⟩
    rw [show numL l = numL (l.dropLast ++ [l.getLast hne]) by rw [List.dropLast_concat_getLast hne], numL_snoc', h1]
    omega
theorem numL_foldl (l : List UInt8) (n : Int) : l.foldl (fun n c => n * 256 + (c.toNat : Int)) n = n * 256 ^ l.length + numL l := by
  induction l generalizing n with
  | nil => simp [numL]
  | cons c l ih =>
    simp only [numL, List.foldl_cons, List.length_cons]
    rw [ih, ih (0 * 256 + (c.toNat : Int)), Int.pow_succ]
    rw [Int.zero_mul, Int.zero_add, Int.add_mul, Int.mul_assoc, Int.mul_comm 256 (256 ^ l.length)]
    omega
theorem numL_cons (c : UInt8) (l : List UInt8) : numL (c :: l) = c.toNat * 256 ^ l.length + numL l := by
  rw [numL, List.foldl_cons, numL_foldl]; simp
theorem numL_beL : ∀ (k n : Nat), numL (beL (n : Int) k) = ((n % 256 ^ k : Nat) : Int) := by
  intro k
  induction k with
  | zero => intro n; simp [beL, numL, Nat.mod_one]
  | succ k ih =>
    intro n
    rw [beL_succ, numL_cons, ih, beL_length, UInt8.toNat_ofNat', Nat.mod_eq_of_lt (show n / 256 ^ k % 256 < 2 ^ 8 by omega)]
    have : n % 256 ^ (k + 1) = n / 256 ^ k % 256 * 256 ^ k + n % 256 ^ k := by
      rw [Nat.pow_succ, Nat.mod_mul, Nat.mul_comm (256 ^ k)]; omega
    rw [this, Int.natCast_add, Int.natCast_mul, Int.natCast_pow]; rfl
theorem beL_numL (l : List UInt8) : beL (numL l) l.length = l := by
  induction l with
  | nil => rfl
  | cons c l ih =>
    obtain ⟨n, hn, hlt⟩ := numL_nat l
    have hc := c.toNat_lt
    have e : numL (c :: l) = ((c.toNat * 256 ^ l.length + n : Nat) : Int) := by rw [numL_cons, hn, Int.natCast_add, Int.natCast_mul, Int.natCast_pow]; rfl
    rw [List.length_cons, e, beL_succ]
    have hp : 0 < 256 ^ l.length := Nat.pow_pos (by decide)
    have h1 : (c.toNat * 256 ^ l.length + n) / 256 ^ l.length = c.toNat := by
      rw [Nat.mul_comm, Nat.mul_add_div hp, Nat.div_eq_of_lt hlt]; rfl
    rw [h1, Nat.mod_eq_of_lt (by simpa using hc)]
    have h2 := beL_mod (c.toNat * 256 ^ l.length + n) l.length l.length (Nat.le_refl _)
    rw [Nat.mul_add_mod', Nat.mod_eq_of_lt hlt] at h2
    rw [← h2, ← hn, ih]
    simp
/-! what was written is read -/
theorem takeL_key : ∀ (s out x : List UInt8), out.length + s.length ≤ 1000 → takeL out (esc s ++ 0 :: 0 :: x) = (out ++ s, x, 0)
  | [], out, x, _ => by simp [esc, takeL_stop]
  | c :: s, out, x, h => by
    simp only [List.length_cons] at h
    by_cases hc : c = 0
    · subst hc
      simp only [esc, if_true, List.cons_append]
      rw [takeL_go1 _ _ _ _ rfl rfl (by omega), takeL_key s _ x (by simp; omega)]
      simp
    · simp only [esc, hc, if_false, List.cons_append]
      rw [takeL_go _ _ _ hc (by omega), takeL_key s _ x (by simp; omega)]
      simp
theorem takeL_keyL (s x : List UInt8) (h : s.length ≤ 1000) : takeL [] (keyL s ++ x) = (s, x, 0) := by
  simpa [keyL] using takeL_key s [] x (by simpa using h)
/-- what can be read is written so -/
theorem takeL_inv : ∀ (n : Nat) (t out : List UInt8), t.length ≤ n → out.length ≤ 1000 →
    ((∃ e, takeL out t = ([], [], e) ∧ e ≠ 0) ∨ ∃ s x, takeL out t = (out ++ s, x, 0) ∧ esc s ++ 0 :: 0 :: x = t ∧ (out ++ s).length ≤ 1000) := by
  intro n
  induction n with
  | zero => intro t out ht _; have := List.length_eq_zero_iff.1 (Nat.le_zero.1 ht); subst this; exact .inl ⟨3, rfl, by decide⟩
  | succ n ih =>
    intro t out ht ho
    cases t with
    | nil => exact .inl ⟨3, rfl, by decide⟩
    | cons c t =>
      simp only [List.length_cons] at ht
      by_cases hc : c = 0
      · cases t with
        | nil => exact .inl ⟨3, takeL_end _ _ hc, by decide⟩
        | cons d u =>
          simp only [List.length_cons] at ht
          by_cases h0 : d = 0
          · refine .inr ⟨[], u, ?_, by simp [esc, hc, h0], by simpa using ho⟩
            rw [takeL_stop _ _ _ _ hc h0]; simp
          · by_cases h1 : d = 1
            · by_cases hl : out.length = 1000
              · exact .inl ⟨5, takeL_lim1 _ _ _ _ hc h1 hl, by decide⟩
              · rw [takeL_go1 _ _ _ _ hc h1 hl]
                rcases ih u (out ++ [0]) (by omega) (by simp; omega) with h | ⟨s, x, e1, e2, e3⟩
                · exact .inl h
                · refine .inr ⟨0 :: s, x, ?_, ?_, ?_⟩
                  · rw [e1]; simp
                  · simp [esc, hc, h1, e2]
                  · simpa using e3
            · exact .inl ⟨4, takeL_bad _ _ _ _ hc h0 h1, by decide⟩
      · by_cases hl : out.length = 1000
        · exact .inl ⟨5, takeL_lim _ _ _ hc hl, by decide⟩
        · rw [takeL_go _ _ _ hc hl]
          rcases ih t (out ++ [c]) (by omega) (by simp; omega) with h | ⟨s, x, e1, e2, e3⟩
          · exact .inl h
          · refine .inr ⟨c :: s, x, ?_, ?_, ?_⟩
            · rw [e1]; simp
            · simp [esc, hc, e2]
            · simpa using e3
theorem takeL_again (t : List UInt8) : (∃ e, takeL [] t = ([], [], e) ∧ e ≠ 0) ∨ ∃ s x, takeL [] t = (s, x, 0) ∧ keyF s ++ x = t ∧ s.length ≤ 1000 := by
  rcases takeL_inv t.length t [] (Nat.le_refl _) (by simp) with h | ⟨s, x, e1, e2, e3⟩
  · exact .inl h
  · have e3' : s.length ≤ 1000 := by simpa using e3
    exact .inr ⟨s, x, by simpa using e1, by simp [keyF, keyL, e3', e2], e3'⟩
/-- what is cut is told -/
theorem takeL_cut : ∀ (s out : List UInt8) (k : Nat), k < (esc s ++ [0, 0]).length → out.length + s.length ≤ 1000 → takeL out ((esc s ++ [0, 0]).take k) = ([], [], 3)
  | [], out, k, hk, _ => by
    simp [esc] at hk
    have : k = 0 ∨ k = 1 := by omega
    rcases this with rfl | rfl <;> rfl
  | c :: s, out, k, hk, h => by
    simp only [List.length_cons] at h
    cases k with
    | zero => rfl
    | succ k =>
      by_cases hc : c = 0
      · subst hc
        simp only [esc, if_true, List.cons_append, List.length_cons] at hk ⊢
        cases k with
        | zero => rfl
        | succ k =>
          simp only [List.take_succ_cons]
          rw [takeL_go1 _ _ _ _ rfl rfl (by omega)]
          exact takeL_cut s _ k (by omega) (by simp; omega)
      · simp only [esc, hc, if_false, List.cons_append, List.length_cons] at hk ⊢
        simp only [List.take_succ_cons]
        rw [takeL_go _ _ _ hc (by omega)]
        exact takeL_cut s _ k (by omega) (by simp; omega)
theorem takeL_cutKey (s : List UInt8) (k : Nat) (h : s.length ≤ 1000) (hk : k < (keyL s).length) : takeL [] ((keyL s).take k) = ([], [], 3) :=
  takeL_cut s [] k hk (by simpa using h)
theorem takeDown_down {a b : Int} (h : mayB a b = true) (x : List UInt8) : takeDownL (downL a b ++ x) = (a, b, x, 0) := by
  have hh := may_iff.1 h
  obtain ⟨A, hA⟩ := Int.eq_ofNat_of_zero_le (show 0 ≤ 1099511627776 - a by omega)
  obtain ⟨B, hB⟩ := Int.eq_ofNat_of_zero_le (show 0 ≤ 1048575 - b by omega)
  have e6 : 256 ^ 6 = 281474976710656 := by decide
  have e3 : 256 ^ 3 = 16777216 := by decide
  have l6 : (beL (1099511627776 - a) 6).length = 6 := beL_length _ _
  have l3 : (beL (1048575 - b) 3).length = 3 := beL_length _ _
  have t1 : (downL a b ++ x).take 6 = beL (1099511627776 - a) 6 := by
    simp only [downL, List.append_assoc]
    rw [List.take_append_of_le_length (by omega), List.take_of_length_le (by omega)]
  have t2 : ((downL a b ++ x).drop 6).take 3 = beL (1048575 - b) 3 := by
    simp only [downL, List.append_assoc]
    rw [List.drop_append_of_le_length (by omega), List.drop_of_length_le (by omega), List.nil_append, List.take_append_of_le_length (by omega), List.take_of_length_le (by omega)]
  have t3 : (downL a b ++ x).drop 9 = x := by
    rw [List.drop_append_of_le_length (by rw [downL_length]; omega), List.drop_of_length_le (by rw [downL_length]; omega)]; rfl
  have n1 : numL (beL (1099511627776 - a) 6) = 1099511627776 - a := by rw [hA, numL_beL, Nat.mod_eq_of_lt (by omega)]
  have n2 : numL (beL (1048575 - b) 3) = 1048575 - b := by rw [hB, numL_beL, Nat.mod_eq_of_lt (by omega)]
  unfold takeDownL
  rw [if_neg (by rw [List.length_append, downL_length]; omega), t1, t2, t3, n1, n2]
  rw [show (1099511627776 : Int) - (1099511627776 - a) = a by omega, show (1048575 : Int) - (1048575 - b) = b by omega, if_pos h]
theorem takeDown_again (t : List UInt8) : (∃ e, takeDownL t = (0, 0, [], e) ∧ e ≠ 0) ∨ ∃ a b x, takeDownL t = (a, b, x, 0) ∧ mayB a b = true ∧ downL a b ++ x = t := by
  unfold takeDownL
  by_cases h : t.length < 9
  · rw [if_pos h]; exact .inl ⟨3, rfl, by decide⟩
  · rw [if_neg h]
    by_cases hm : mayB (1099511627776 - numL (t.take 6)) (1048575 - numL ((t.drop 6).take 3)) = true
    · rw [if_pos hm]
      refine .inr ⟨_, _, _, rfl, hm, ?_⟩
      have l6 : (t.take 6).length = 6 := by rw [List.length_take]; omega
      have l3 : ((t.drop 6).take 3).length = 3 := by rw [List.length_take, List.length_drop]; omega
      have e1 := beL_numL (t.take 6)
      have e2 := beL_numL ((t.drop 6).take 3)
      rw [l6] at e1
      rw [l3] at e2
      simp only [downL]
      rw [show (1099511627776 : Int) - (1099511627776 - numL (t.take 6)) = numL (t.take 6) by omega, show (1048575 : Int) - (1048575 - numL ((t.drop 6).take 3)) = numL ((t.drop 6).take 3) by omega, e1, e2]
      rw [List.append_assoc, show t.drop 9 = (t.drop 6).drop 3 by rw [List.drop_drop], List.take_append_drop, List.take_append_drop]
    · rw [if_neg hm]; exact .inl ⟨4, rfl, by decide⟩
theorem takeDown_short (t : List UInt8) (h : t.length < 9) : takeDownL t = (0, 0, [], 3) := by unfold takeDownL; rw [if_pos h]
end Go.Proofs.YtpnojkgdjkncbaaDoor
