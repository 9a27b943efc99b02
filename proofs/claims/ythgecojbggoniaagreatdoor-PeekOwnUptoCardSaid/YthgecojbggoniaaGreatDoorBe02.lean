/- What the rows stand on, part 02: OrdA. Printed by bundle.py out of my texts. -/
import Derived.Test.YthgecojbggoniaaGreatDoorBe01
import Derived.Lib.ConvBytes
import Derived.Lib.Strings
import Derived.StillTailTactics
import Derived.Deep.RegionWith
import Derived.Deep.RegionHeld3
namespace Go.Proofs.YthgecojbggoniaaGreatDoor
open Go.RowKit
set_option maxRecDepth 100000
set_option linter.unusedVariables false
set_option linter.unusedSimpArgs false

theorem may_any (a b : Int) (w : World) :
    Calls Tryz.prog 127 #[.agg #[.int .i64 a, .int .i64 b]] w fun e w' => e = .returned (.bool (mayB a b)) ∧ Gr w w' := by
  go_enter Tryz.func127, Tryz.ntmps127
  go_wp2
  all_goals (go_ret; exact ⟨ret_bool (by rw [Bool.eq_iff_iff]; simp [mayB]; try omega), (by repeat (first | (with_reducible exact Gr.refl _) | (with_reducible assumption) | (with_reducible refine Gr.alloc ?_ _) | (with_reducible refine Gr.drew ?_) | (with_reducible refine Gr.drewN ?_ _) | (with_reducible refine Gr.trans ?_ (by assumption)) | (with_reducible refine Gr.setCell ?_ (by first | exact Nat.le_refl _ | omega | (simp; done) | (simp; omega)) _)))⟩)

theorem refMay_any (a b : Int) (w : World) :
    Calls Tryz.prog 94 #[.agg #[.int .i64 a, .int .i64 b]] w fun e w' => e = .returned (.bool (mayB a b)) ∧ Gr w w' := by
  go_enter Tryz.func94, Tryz.ntmps94
  go_wp2
  all_goals (go_ret; exact ⟨ret_bool (by rw [Bool.eq_iff_iff]; simp [mayB]; try omega), (by repeat (first | (with_reducible exact Gr.refl _) | (with_reducible assumption) | (with_reducible refine Gr.alloc ?_ _) | (with_reducible refine Gr.drew ?_) | (with_reducible refine Gr.drewN ?_ _) | (with_reducible refine Gr.trans ?_ (by assumption)) | (with_reducible refine Gr.setCell ?_ (by first | exact Nat.le_refl _ | omega | (simp; done) | (simp; omega)) _)))⟩)

theorem isEmpty_size (s : ByteArray) : s.toList.isEmpty = decide (s.size = 0) := by
  rw [ByteArray.toList_eq]
  show s.data.toList.isEmpty = decide (s.data.size = 0)
  rw [← Array.length_toList]
  cases s.data.toList <;> simp

theorem check_any (s : ByteArray) (w : World) :
    Calls Tryz.prog 35 #[.string s] w fun e w' => e = .returned (.int .i64 (checkE s.size)) ∧ w = w' := by
  by_cases h0 : s.size = 0
  · have h1 : s.toList.isEmpty = true := by rw [isEmpty_size]; simp [h0]
    go_enter Tryz.func35, Tryz.ntmps35
    go_wp2
    all_goals (go_ret; exact ⟨ret_int (by simp [checkE]; try omega), rfl⟩)
  · have h1 : s.toList.isEmpty = false := by rw [isEmpty_size]; simp [h0]
    go_enter Tryz.func35, Tryz.ntmps35
    go_wp2
    all_goals (go_ret; exact ⟨ret_int (by simp [checkE]; try omega), rfl⟩)

theorem refCheck_any (s : ByteArray) (w : World) :
    Calls Tryz.prog 39 #[.string s] w fun e w' => e = .returned (.int .i64 (checkE s.size)) ∧ w = w' := by
  go_enter Tryz.func39, Tryz.ntmps39
  go_wp2
  all_goals (go_ret; exact ⟨ret_int (by simp [checkE]; try omega), rfl⟩)

theorem bring_neg {i n : Int} (hn : 0 < n) (hn2 : n ≤ 9223372036854775807) (h : i.tmod n < 0) : wrap64 (i.tmod n + n) = i % n := by
  have h3 := Int.emod_nonneg i (show n ≠ 0 by omega)
  have h4 := Int.emod_lt_of_pos i hn
  have h2 : i.tmod n = i % n - n := by
    rw [Int.tmod_eq_emod] at h ⊢
    split at h <;> rename_i hc
    · omega
    · rw [if_neg hc, Int.natAbs_of_nonneg (by omega)]
  rw [h2]
  unfold wrap64
  omega
theorem bring_pos {i n : Int} (hn : 0 < n) (h : 0 ≤ i.tmod n) : i.tmod n = i % n := by
  rw [Int.tmod_eq_emod] at h ⊢
  have := Int.emod_nonneg i (show n ≠ 0 by omega)
  have := Int.emod_lt_of_pos i hn
  split at h <;> rename_i hc
  · rw [if_pos hc]; omega
  · rw [if_neg hc]; omega

theorem bring_any (i n : Int) (hi : -9223372036854775808 ≤ i ∧ i ≤ 9223372036854775807) (hn : n ≤ 9223372036854775807) (w : World) :
    Calls Tryz.prog 20 #[.int .i64 i, .int .i64 n] w fun e w' => e = .returned (.int .i64 (bringI i n)) ∧ w = w' := by
  obtain ⟨hi1, hi2⟩ := hi
  go_enter Tryz.func20, Tryz.ntmps20
  go_wp2
  · go_ret; exact ⟨ret_int (by unfold bringI; rw [if_pos (by assumption)]), rfl⟩
  · go_ret; exact ⟨ret_int (by unfold bringI; rw [if_neg (by omega)]; exact bring_neg (by assumption) hn (by assumption)), rfl⟩
  · go_ret; exact ⟨ret_int (by unfold bringI; rw [if_neg (by omega)]; exact bring_pos (by assumption) (by assumption)), rfl⟩

/-! numbers -/
theorem numL_snoc (l : List UInt8) (c : UInt8) : numL (l ++ [c]) = numL l * 256 + c.toNat := by simp [numL]
theorem numL_bd : ∀ (l : List UInt8), 0 ≤ numL l ∧ numL l < 256 ^ l.length := by
  intro l
  suffices h : ∀ n, ∀ l : List UInt8, l.length = n → 0 ≤ numL l ∧ numL l < 256 ^ n from h _ l rfl
  intro n
  induction n with
  | zero => intro l h; have := List.length_eq_zero_iff.1 h; subst this; simp [numL]
  | succ n ih =>
    intro l h
    have hne : l ≠ [] := by intro e; subst e; simp at h
    rw [show l = l.dropLast ++ [l.getLast hne] from (List.dropLast_concat_getLast hne).symm, numL_snoc]
    have := ih l.dropLast (by simp [h])
    have hb := (l.getLast hne).toNat_lt
    rw [Int.pow_succ]
    omega

theorem pow6 : (256 : Int) ^ 6 = 281474976710656 := by decide
theorem numL_lt6 (l : List UInt8) (h : l.length ≤ 6) : numL l < 281474976710656 := by
  have h1 := (numL_bd l).2
  have h3 : (256 : Int) ^ l.length ≤ (256 : Int) ^ 6 := by
    have := Nat.pow_le_pow_right (n := 256) (by decide) h
    rw [← Int.ofNat_le, Int.natCast_pow, Int.natCast_pow] at this
    exact this
  rw [pow6] at h3
  exact Int.lt_of_lt_of_le h1 h3

theorem or_byte (a : Int) (c : UInt8) (h0 : 0 ≤ a) (h1 : a < 281474976710656) : bits .or .i64 (wrap64 (a * 256)) (wrap64 c.toNat) = a * 256 + c.toNat := by
  obtain ⟨n, rfl⟩ := Int.eq_ofNat_of_zero_le h0
  have hc := c.toNat_lt
  rw [show wrap64 ((n : Int) * 256) = ((n * 256 : Nat) : Int) by unfold wrap64; omega, show wrap64 (c.toNat : Int) = (c.toNat : Int) by unfold wrap64; omega]
  have e : n * 256 ||| c.toNat = n * 256 + c.toNat := by
    have := Nat.two_pow_add_eq_or_of_lt (i := 8) (b := c.toNat) (by simpa using hc) n
    rw [show (2 : Nat) ^ 8 = 256 from rfl, Nat.mul_comm 256 n] at this
    exact this.symm
  have h2 : (BitVec.ofInt 64 ((n * 256 : Nat) : Int)).toNat = n * 256 := by
    rw [BitVec.ofInt_natCast, BitVec.toNat_ofNat]; exact Nat.mod_eq_of_lt (by omega)
  have h3 : (BitVec.ofInt 64 (c.toNat : Int)).toNat = c.toNat := by
    rw [BitVec.ofInt_natCast, BitVec.toNat_ofNat]; exact Nat.mod_eq_of_lt (by omega)
  show IntKind.i64.wrap ((BitVec.ofInt 64 ((n * 256 : Nat) : Int) ||| BitVec.ofInt 64 (c.toNat : Int)).toNat : Int) = _
  rw [BitVec.toNat_or, h2, h3, e, IntKind.wrap_i64]
  omega

theorem take_snoc (s : ByteArray) (k : Nat) (h : k < s.size) : s.data.toList.take (k + 1) = s.data.toList.take k ++ [s.data[k]] := by
  rw [List.take_succ_eq_append_getElem (by simpa using h)]; rfl

theorem bytesWorld_gr (w : World) (e : TypeId) (s : ByteArray) : Gr w (Lib.bytesWorld w e s) :=
  ⟨⟨rfl, rfl, rfl, by rw [Lib.bytesWorld_size]; omega, fun k hk => Lib.bytesWorld_at_old w e s k hk⟩⟩

theorem get_any (s : ByteArray) (hs : s.size ≤ 7) (w : World) :
    Calls Tryz.prog 130 #[.string s] w fun e w' => e = .returned (.int .i64 (numL s.data.toList)) ∧ Gr w w' := by
  have hcv := fun (w : World) => Lib.run_convert_string_bytes (P := Tryz.prog) w 9 133 5 s Tryz.underlying9 Tryz.underlying133 Tryz.underlying5
  go_enter Tryz.func130, Tryz.ntmps130
  go_wp2
  clear hcv
  go_loop [3, 9] (fun n i => ∃ k : Nat, k ≤ s.size ∧ i = .int .i64 k ∧ n = .int .i64 (numL (s.data.toList.take k))) (fun _ i => s.size - (intOf i).toNat)
  case atStart => exact ⟨0, Nat.zero_le _, rfl, rfl⟩
  case round =>
    obtain ⟨k, hk, rfl, rfl⟩ := hrel
    by_cases hlt : k < s.size
    · have hcell := Lib.bytesWorld_cell w 5 s k hlt
      have hb := numL_bd (s.data.toList.take k)
      go_wp2
      go_round
      case rel => exact ⟨k + 1, by omega, by go_num, by
        rw [take_snoc s k hlt, numL_snoc, or_byte _ _ hb.1 (by
          exact numL_lt6 _ (by rw [List.length_take]; omega))]⟩
      case measure => simp [intOf]; omega
    · go_wp2
      go_ret
      exact ⟨ret_int (by rw [List.take_of_length_le (by simp; omega)]), bytesWorld_gr _ _ _⟩

/-- the world in which k of len bytes are written -/
def wput (blk off len : Nat) (n : Int) : Nat → World → World
  | 0, w => w
  | k + 1, w => (wput blk off len n k w).setCell ⟨blk, off + (len - 1 - k), none⟩ (.int .u8 (n / 2 ^ (k * 8) % 256))

theorem wput_cell (blk off len : Nat) (n : Int) (w : World) (h : ∀ i, i < len → ∃ v, w.cell? ⟨blk, off + i, none⟩ = some v) (k : Nat) :
    ∀ i, i < len → ∃ v, (wput blk off len n k w).cell? ⟨blk, off + i, none⟩ = some v := by
  induction k with
  | zero => exact h
  | succ k ih =>
    intro i hi
    obtain ⟨v, hv⟩ := ih i hi
    exact cell?_setCell_some hv
theorem wput_frozen (blk off len : Nat) (n : Int) (k : Nat) (w : World) (a : Addr) : (wput blk off len n k w).frozen? a = w.frozen? a := by
  induction k with
  | zero => rfl
  | succ k ih => rw [wput, World.frozen?_setCell, ih]

/-- a row of cells that may be written -/
structure HasCells (w : World) (blk off len : Nat) : Prop where
  c : ∀ i, i < len → ∃ v, w.cell? ⟨blk, off + i, none⟩ = some v
  f : ∀ i, i < len → w.frozen? ⟨blk, off + i, none⟩ = false
theorem HasCells.drew {w : World} {blk off len : Nat} (h : HasCells w blk off len) : HasCells w.drew blk off len := ⟨h.c, h.f⟩
theorem HasCells.new (w : World) (c : Array Value) (t : TypeId) (off len : Nat) (h : off + len ≤ c.size) : HasCells (w.alloc (.cells c t)) w.heap.size off len := by
  refine ⟨fun i hi => ⟨c[off + i]'(by omega), ?_⟩, fun i hi => ?_⟩
  · simp only [World.cell?, heap_alloc_new]
    simp
  · simp only [World.frozen?, heap_alloc_new]
    simp
theorem HasCells.wput {w : World} {blk off len : Nat} (h : HasCells w blk off len) (o l : Nat) (n : Int) (k : Nat) : HasCells (wput blk o l n k w) blk off len := by
  induction k with
  | zero => exact h
  | succ k ih =>
    refine ⟨fun i hi => ?_, fun i hi => ?_⟩
    · obtain ⟨v, hv⟩ := ih.c i hi
      exact cell?_setCell_some hv
    · rw [wput_frozen]; exact h.f i hi

theorem put_any (blk off len cap : Nat) (n : Int) (w : World) (hc : len ≤ 8) (hh : HasCells w blk off len) :
    Calls Tryz.prog 128 #[.slice (some ⟨blk, off, none⟩) len cap, .int .i64 n] w fun e w' => e = .returned (.tuple #[]) ∧ w' = wput blk off len n len w := by
  have hcell := hh.c
  have hfr := hh.f
  go_enter Tryz.func128, Tryz.ntmps128
  go_wp2
  go_loopw [7] (fun i wr => ∃ k : Nat, k ≤ len ∧ i = .int .i64 k ∧ wr = wput blk off len n k w) (fun i _ => len - (intOf i).toNat)
  case atStart => exact ⟨0, Nat.zero_le _, rfl, rfl⟩
  case round =>
    obtain ⟨k, hk, rfl, rfl⟩ := hrel
    by_cases hlt : k < len
    · obtain ⟨v, hv⟩ := wput_cell blk off len n w hcell k (len - 1 - k) (by omega)
      have hf : (wput blk off len n k w).frozen? ⟨blk, off + (len - 1 - k), none⟩ = false := by rw [wput_frozen]; exact hfr _ (by omega)
      clear hcell hfr
      go_wp2
      go_roundw
      case rel => exact ⟨k + 1, by omega, by go_num, rfl⟩
      case measure => simp [intOf]; omega
    · clear hcell hfr
      go_wp2
      obtain rfl : k = len := by omega
      go_end0
      exact ⟨rfl, rfl⟩

theorem down_no (a b : Int) (w : World) (h : mayB a b = false) :
    Calls Tryz.prog 114 #[.agg #[.int .i64 a, .int .i64 b]] w fun e w' => e = .returned (.tuple #[.string ⟨#[]⟩, .int .i64 2]) ∧ Gr w w' := by
  go_enter Tryz.func114, Tryz.ntmps114
  go_wp2_with (go_at_call 127; refine (may_any _ _ _).mono ?_; rintro e w1 ⟨rfl, hg⟩)
  go_ret2
  exact ⟨rfl, (by repeat (first | (with_reducible exact Gr.refl _) | (with_reducible assumption) | (with_reducible refine Gr.alloc ?_ _) | (with_reducible refine Gr.drew ?_) | (with_reducible refine Gr.drewN ?_ _) | (with_reducible refine Gr.trans ?_ (by assumption)) | (with_reducible refine Gr.setCell ?_ (by first | exact Nat.le_refl _ | omega | (simp; done) | (simp; omega)) _)))⟩

def byI (n : Int) (k : Nat) : Int := n / 2 ^ (k * 8) % 256
def by8 (n : Int) (k : Nat) : Value := .int .u8 (byI n k)
theorem wput6 (w : World) (n : Int) (t : TypeId) (a b c d e f g h i : Value) :
    wput w.heap.size 0 6 n 6 (w.alloc (.cells #[a, b, c, d, e, f, g, h, i] t)).drew = (w.alloc (.cells #[by8 n 5, by8 n 4, by8 n 3, by8 n 2, by8 n 1, by8 n 0, g, h, i] t)).drew := by
  simp [wput, by8, byI, World.setCell_drew, World.setCell_alloc_new]
theorem wput3 (w : World) (n : Int) (t : TypeId) (a b c d e f g h i : Value) :
    wput w.heap.size 6 3 n 3 (w.alloc (.cells #[a, b, c, d, e, f, g, h, i] t)).drew.drew = (w.alloc (.cells #[a, b, c, d, e, f, by8 n 2, by8 n 1, by8 n 0] t)).drew.drew := by
  simp [wput, by8, byI, World.setCell_drew, World.setCell_alloc_new]

theorem down_str (a b : Int) : strOfNums [byI (1099511627776 - a) 5, byI (1099511627776 - a) 4, byI (1099511627776 - a) 3, byI (1099511627776 - a) 2, byI (1099511627776 - a) 1, byI (1099511627776 - a) 0, byI (1048575 - b) 2, byI (1048575 - b) 1, byI (1048575 - b) 0] = ⟨(downL a b).toArray⟩ := by
  simp [strOfNums, downL, beL, byI]

theorem down_yes (a b : Int) (w : World) (h : mayB a b = true) :
    Calls Tryz.prog 114 #[.agg #[.int .i64 a, .int .i64 b]] w fun e w' => e = .returned (.tuple #[.string ⟨(downL a b).toArray⟩, .int .i64 0]) ∧ Gr w w' := by
  have hb := of_decide_eq_true h
  obtain ⟨h1, h2, h3, h4⟩ := hb
  have hw1 : IntKind.i64.wrap (1099511627776 - a) = 1099511627776 - a := IntWalk.i64_in _ (by omega)
  have hw2 : IntKind.i64.wrap (1048575 - b) = 1048575 - b := IntWalk.i64_in _ (by omega)
  go_enter Tryz.func114, Tryz.ntmps114
  go_wp2_with (go_at_call 127; refine (may_any _ _ _).mono ?_; rintro e w1 ⟨rfl, hg⟩; have hc0 : w1.cell? ⟨w.heap.size, 0, none⟩ = some (.int .i64 a) := hg.cell' (by simp); have hc1 : w1.cell? ⟨w.heap.size, 1, none⟩ = some (.int .i64 b) := hg.cell' (by simp); have hz : w.heap.size < w1.heap.size := by have := hg.size; simp at this; omega)
  go_region_with (go_at_call 128; refine (put_any _ _ _ _ _ _ (by omega) (by exact (HasCells.new _ _ _ _ _ (by simp)).drew)).mono ?_; rintro e w2 ⟨rfl, rfl⟩; rw [wput6])
  all_goals go_wp2
  all_goals go_region_with (go_at_call 128; refine (put_any _ _ _ _ _ _ (by omega) (by exact (HasCells.new _ _ _ _ _ (by simp)).drew.drew)).mono ?_; rintro e w2 ⟨rfl, rfl⟩; rw [wput3])
  all_goals go_wp2
  all_goals rw [conv_row [byI (1099511627776 - a) 5, byI (1099511627776 - a) 4, byI (1099511627776 - a) 3, byI (1099511627776 - a) 2, byI (1099511627776 - a) 1, byI (1099511627776 - a) 0, byI (1048575 - b) 2, byI (1048575 - b) 1, byI (1048575 - b) 0] (W := (w1.alloc _).drew.drew) (n := 9) (c := 9) (heap_alloc_new w1 _) rfl rfl]
  all_goals go_wp2
  all_goals go_ret2
  all_goals exact ⟨by rw [down_str]; rfl, (by repeat (first | (with_reducible exact Gr.refl _) | (with_reducible assumption) | (with_reducible refine Gr.alloc ?_ _) | (with_reducible refine Gr.drew ?_) | (with_reducible refine Gr.drewN ?_ _) | (with_reducible refine Gr.trans ?_ (by assumption)) | (with_reducible refine Gr.setCell ?_ (by first | exact Nat.le_refl _ | omega | (simp; done) | (simp; omega)) _)))⟩

/-- the cells in which k of len bytes are written -/
def aput (len : Nat) (n : Int) : Nat → Array Value → Array Value
  | 0, c => c
  | k + 1, c => (aput len n k c).setIfInBounds (len - 1 - k) (by8 n k)
theorem wput_heap (blk len : Nat) (n : Int) (t : TypeId) (fz : Nat × Nat) (w : World) (c : Array Value) (h : w.heap[blk]? = some (.cells c t fz)) (k : Nat) :
    (wput blk 0 len n k w).heap[blk]? = some (.cells (aput len n k c) t fz) := by
  induction k with
  | zero => exact h
  | succ k ih => simp [wput, aput, World.setCell, Array.getElem?_modify, ih, by8, byI]
theorem aput_size (len : Nat) (n : Int) (k : Nat) (c : Array Value) : (aput len n k c).size = c.size := by
  induction k with
  | zero => rfl
  | succ k ih => simp [aput, ih]
theorem aput_get (len : Nat) (n : Int) (c : Array Value) (hc : c.size = len) (k : Nat) (hk : k ≤ len) (j : Nat) (hj : j < len) :
    (aput len n k c)[j]? = if len - k ≤ j then some (by8 n (len - 1 - j)) else c[j]? := by
  induction k with
  | zero => rw [if_neg (by omega)]; rfl
  | succ k ih =>
    simp only [aput, Array.getElem?_setIfInBounds, aput_size]
    by_cases e : len - 1 - k = j
    · rw [if_pos e, if_pos (by omega), if_pos (by omega)]
      congr 2; omega
    · rw [if_neg e, ih (by omega)]
      by_cases h2 : len - k ≤ j
      · rw [if_pos h2, if_pos (by omega)]
      · rw [if_neg h2, if_neg (by omega)]
theorem beL_get (n : Int) (m : Nat) (j : Nat) (hj : j < m) : (beL n m)[j]? = some (UInt8.ofNat (byI n (m - 1 - j)).toNat) := by
  induction m generalizing j with
  | zero => omega
  | succ m ih =>
    cases j with
    | zero =>
      simp only [beL, byI, List.getElem?_cons_zero, Nat.add_sub_cancel, Nat.sub_zero]
      rw [show (256 : Int) ^ m = 2 ^ (m * 8) by rw [Nat.mul_comm, Int.pow_mul]; rfl]
    | succ j =>
      simp only [beL, List.getElem?_cons_succ]
      rw [ih j (by omega)]
      congr 4; omega
theorem byI_bd (n : Int) (k : Nat) : 0 ≤ byI n k ∧ byI n k < 256 := by unfold byI; omega
theorem aput_beL (n : Int) (m : Nat) (c : Array Value) (hc : c.size = m) : (aput m n m c).toList = (nums (beL n m)).map (Value.int .u8) := by
  apply List.ext_getElem?
  intro j
  by_cases hj : j < m
  · rw [Array.getElem?_toList, aput_get m n c hc m (Nat.le_refl _) j hj, if_pos (by omega)]
    have hb := byI_bd n (m - 1 - j)
    simp only [nums, List.map_map, List.getElem?_map, beL_get n m j hj, Option.map_some, Function.comp]
    simp only [by8]
    rw [UInt8.toNat_ofNat', Nat.mod_eq_of_lt (by omega), Int.toNat_of_nonneg hb.1]
  · rw [List.getElem?_eq_none (by simp [aput_size, hc]; omega), List.getElem?_eq_none (by simp [nums, beL_length]; omega)]

theorem div_step (n : Int) (k : Nat) : n / 2 ^ (k * 8) / 256 = n / 2 ^ ((k + 1) * 8) := by
  rw [Int.ediv_ediv_of_nonneg (Int.pow_nonneg (by decide)), show (k + 1) * 8 = k * 8 + 8 by omega, Int.pow_add]; rfl
theorem wput_gr {a b : World} (h : Gr a b) {blk : Nat} (hb : a.heap.size ≤ blk) (off len : Nat) (n : Int) (k : Nat) : Gr a (wput blk off len n k b) := by
  induction k with
  | zero => exact h
  | succ k ih => exact ih.setCell hb _

theorem refBytes_any (n : Int) (m : Nat) (hn0 : 0 ≤ n) (hn : n ≤ 1099511627776) (hm : m ≤ 8) (w : World) :
    Calls Tryz.prog 101 #[.int .i64 n, .int .i64 m] w fun e w' => e = .returned (.string ⟨(beL n m).toArray⟩) ∧ Gr w w' := by
  obtain ⟨i0, hi, hz0, hz1, hz2⟩ := info_parts info5
  have hmk : (Instr.makeSlice 133 (.int .i64 (m : Int)) (.int .i64 (m : Int))).run Tryz.prog w = .ok (.slice (some ⟨w.heap.size, 0, none⟩) m m) (w.alloc (.cells (madeCells #[.int .u8 0] m) 5)) := by
    have := run_make (P := Tryz.prog) w 133 5 i0 (.int .u8 0) Tryz.underlying133 hi hz0 .i64 .i64 m m (by omega) (by omega) (by rw [hz2]; omega) (by omega)
    simpa [hz1, Value.cells] using this
  go_enter Tryz.func101, Tryz.ntmps101
  go_wp2
  clear hmk hi hz0 hz1 hz2
  go_loopw [0, 6] (fun x i wr => ∃ k : Nat, k ≤ m ∧ i = .int .i64 ((m : Int) - 1 - k) ∧ x = .int .i64 (n / 2 ^ (k * 8)) ∧ wr = wput w.heap.size 0 m n k (w.alloc (.cells (madeCells #[.int .u8 0] m) 5)))
    (fun _ i _ => (intOf i + 1).toNat)
  case atStart => exact ⟨0, Nat.zero_le _, by go_num, by simp, rfl⟩
  case round =>
    obtain ⟨k, hk, rfl, rfl, rfl⟩ := hrel
    have hh := (HasCells.new w (madeCells #[.int .u8 0] m) 5 0 m (by simp [size_madeCells])).wput 0 m n k
    by_cases hlt : k < m
    · obtain ⟨v, hv⟩ := hh.c (m - 1 - k) (by omega)
      have hf := hh.f (m - 1 - k) (by omega)
      clear hh
      simp only [Nat.zero_add] at hv hf
      have hd0 : 0 ≤ n / 2 ^ (k * 8) := Int.ediv_nonneg hn0 (Int.pow_nonneg (by decide))
      have hd1 : n / 2 ^ (k * 8) ≤ n := Int.ediv_le_self _ hn0
      have hx : ((m : Int) - 1 - k).toNat = m - 1 - k := by omega
      go_wp2
      go_roundw
      case rel => exact ⟨k + 1, by omega, by go_num, by rw [div_step], by simp [wput]⟩
      case measure => simp [intOf]; omega
    · clear hh
      go_wp2
      have e : k = m := by omega
      subst e
      have hr := wput_heap w.heap.size k n 5 (0, 0) _ _ (heap_alloc_new w (.cells (madeCells #[.int .u8 0] k) 5)) k
      rw [conv_row (nums (beL n k)) hr (by rw [List.take_of_length_le (by simp [aput_size, size_madeCells]), aput_beL n k _ (size_madeCells _ _)]) (by rw [nums_length, beL_length]), strOfNums_nums]
      go_wp2
      go_ret
      exact ⟨rfl, wput_gr (by repeat (first | (with_reducible exact Gr.refl _) | (with_reducible assumption) | (with_reducible refine Gr.alloc ?_ _) | (with_reducible refine Gr.drew ?_) | (with_reducible refine Gr.drewN ?_ _) | (with_reducible refine Gr.trans ?_ (by assumption)) | (with_reducible refine Gr.setCell ?_ (by first | exact Nat.le_refl _ | omega | (simp; done) | (simp; omega)) _))) (Nat.le_refl _) _ _ _ _⟩

theorem refBytes_int (n m : Int) (hn0 : 0 ≤ n) (hn : n ≤ 1099511627776) (hm0 : 0 ≤ m) (hm : m ≤ 8) (w : World) :
    Calls Tryz.prog 101 #[.int .i64 n, .int .i64 m] w fun e w' => e = .returned (.string ⟨(beL n m.toNat).toArray⟩) ∧ Gr w w' := by
  have := refBytes_any n m.toNat hn0 hn (by omega) w
  rwa [Int.toNat_of_nonneg hm0] at this

theorem takeDown_any (s : ByteArray) (w : World) :
    Calls Tryz.prog 116 #[.string s] w fun e w' =>
      e = .returned (.tuple #[.agg #[.int .i64 (takeDownL s.data.toList).1, .int .i64 (takeDownL s.data.toList).2.1], .string ⟨(takeDownL s.data.toList).2.2.1.toArray⟩, .int .i64 (takeDownL s.data.toList).2.2.2]) ∧ Gr w w' := by
  by_cases hs : s.size < 9
  · have hd : takeDownL s.data.toList = (0, 0, [], 3) := by unfold takeDownL; rw [if_pos (by simpa using hs)]
    rw [hd]
    clear hd
    go_enter Tryz.func116, Tryz.ntmps116
    go_wp2
    refine bodyPost_ret (v := .tuple #[.agg #[.int .i64 0, .int .i64 0], .string ⟨#[]⟩, .int .i64 3]) (by simp [results, Tryz.results116, go_sem]) rfl ⟨rfl, (by repeat (first | (with_reducible exact Gr.refl _) | (with_reducible assumption) | (with_reducible refine Gr.alloc ?_ _) | (with_reducible refine Gr.drew ?_) | (with_reducible refine Gr.drewN ?_ _) | (with_reducible refine Gr.trans ?_ (by assumption)) | (with_reducible refine Gr.setCell ?_ (by first | exact Nat.le_refl _ | omega | (simp; done) | (simp; omega)) _)))⟩
  · have bA0 := (numL_bd (s.data.toList.take 6)).1
    have bB0 := (numL_bd ((s.data.toList.drop 6).take 3)).1
    have bA1 := numL_lt6 (s.data.toList.take 6) (by simp; omega)
    have bB1 := numL_lt6 ((s.data.toList.drop 6).take 3) (by simp; omega)
    have hd : takeDownL s.data.toList = if mayB (1099511627776 - numL (s.data.toList.take 6)) (1048575 - numL ((s.data.toList.drop 6).take 3)) = true then (1099511627776 - numL (s.data.toList.take 6), 1048575 - numL ((s.data.toList.drop 6).take 3), s.data.toList.drop 9, 0) else (0, 0, [], 4) := by
      unfold takeDownL; rw [if_neg (by simpa using hs)]
    have hex : s.extract 9 s.size = ⟨(s.data.toList.drop 9).toArray⟩ := ext_drop s 9
    by_cases hm : mayB (1099511627776 - numL (s.data.toList.take 6)) (1048575 - numL ((s.data.toList.drop 6).take 3)) = true
    · rw [if_pos hm] at hd
      rw [hd]
      clear hd
      go_enter Tryz.func116, Tryz.ntmps116
      go_wp2
      go_region_with (go_at_call 130; refine (get_any _ (by simp; omega) _).mono ?_; rintro e w2 ⟨rfl, hg2⟩; have hb2 : w2.heap[w.heap.size]? = some (.cells #[.int .i64 0, .int .i64 0] 26) := hg2.blk (by repeat (first | (with_reducible assumption) | (with_reducible exact heap_alloc_new _ _) | (with_reducible refine heap_drew ?_) | (with_reducible refine heap_newn ?_; (first | rfl | (simp; done))) | (with_reducible refine heap_alloc_mono ?_ _))); obtain ⟨c0, c1, f0, f1, z0⟩ := blk2 hb2)
      all_goals go_wp2_with (go_at_call 127; refine (may_any _ _ _).mono ?_; rintro e w3 ⟨rfl, hg3⟩; have hb3 : w3.heap[w.heap.size]? = some (.cells #[.int .i64 (1099511627776 - numL (s.data.toList.take 6)), .int .i64 (1048575 - numL ((s.data.toList.drop 6).take 3))] 26) := hg3.blk (by simpa using heap_set (heap_set hb2 0 _) 1 _); obtain ⟨d0, d1, e0, e1, y0⟩ := blk2 hb3)
      all_goals go_region
      all_goals go_wp2
      all_goals obtain ⟨q0, q1, _, _, qz⟩ := blk2 (heap_drew (by simpa using heap_set (heap_set hb3 0 (.int .i64 (1099511627776 - numL (s.data.toList.take 6)))) 1 (.int .i64 (1048575 - numL ((s.data.toList.drop 6).take 3)))))
      all_goals exact bodyPost_ret (v := .tuple #[.agg #[.int .i64 (1099511627776 - numL (s.data.toList.take 6)), .int .i64 (1048575 - numL ((s.data.toList.drop 6).take 3))], .string ⟨(s.data.toList.drop 9).toArray⟩, .int .i64 0]) (by simp [results, Tryz.results116, go_sem, q0, q1]) rfl ⟨rfl, (by repeat (first | (with_reducible exact Gr.refl _) | (with_reducible assumption) | (with_reducible refine Gr.alloc ?_ _) | (with_reducible refine Gr.drew ?_) | (with_reducible refine Gr.drewN ?_ _) | (with_reducible refine Gr.trans ?_ (by assumption)) | (with_reducible refine Gr.setCell ?_ (by first | exact Nat.le_refl _ | omega | (simp; done) | (simp; omega)) _)))⟩
    · rw [if_neg hm] at hd
      rw [hd]
      clear hd
      have hm' : mayB (1099511627776 - numL (s.data.toList.take 6)) (1048575 - numL ((s.data.toList.drop 6).take 3)) = false := by simpa using hm
      clear hm
      go_enter Tryz.func116, Tryz.ntmps116
      go_wp2
      go_region_with (go_at_call 130; refine (get_any _ (by simp; omega) _).mono ?_; rintro e w2 ⟨rfl, hg2⟩; have hb2 : w2.heap[w.heap.size]? = some (.cells #[.int .i64 0, .int .i64 0] 26) := hg2.blk (by repeat (first | (with_reducible assumption) | (with_reducible exact heap_alloc_new _ _) | (with_reducible refine heap_drew ?_) | (with_reducible refine heap_newn ?_; (first | rfl | (simp; done))) | (with_reducible refine heap_alloc_mono ?_ _))); obtain ⟨c0, c1, f0, f1, z0⟩ := blk2 hb2)
      all_goals go_wp2_with (go_at_call 127; refine (may_any _ _ _).mono ?_; rintro e w3 ⟨rfl, hg3⟩; have hb3 : w3.heap[w.heap.size]? = some (.cells #[.int .i64 (1099511627776 - numL (s.data.toList.take 6)), .int .i64 (1048575 - numL ((s.data.toList.drop 6).take 3))] 26) := hg3.blk (by simpa using heap_set (heap_set hb2 0 _) 1 _); obtain ⟨d0, d1, e0, e1, y0⟩ := blk2 hb3)
      all_goals obtain ⟨q0, q1, _, _, qz⟩ := blk2 (by simpa using heap_set (heap_set hb3 0 (.int .i64 0)) 1 (.int .i64 0))
      all_goals exact bodyPost_ret (v := .tuple #[.agg #[.int .i64 0, .int .i64 0], .string ⟨#[]⟩, .int .i64 4]) (by simp [results, Tryz.results116, go_sem, q0, q1]) rfl ⟨rfl, (by repeat (first | (with_reducible exact Gr.refl _) | (with_reducible assumption) | (with_reducible refine Gr.alloc ?_ _) | (with_reducible refine Gr.drew ?_) | (with_reducible refine Gr.drewN ?_ _) | (with_reducible refine Gr.trans ?_ (by assumption)) | (with_reducible refine Gr.setCell ?_ (by first | exact Nat.le_refl _ | omega | (simp; done) | (simp; omega)) _)))⟩

end Go.Proofs.YthgecojbggoniaaGreatDoor
