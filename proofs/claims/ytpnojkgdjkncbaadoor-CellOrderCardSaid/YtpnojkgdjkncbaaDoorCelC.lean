/- Layer 11: Reverse at bytes, Num and Str, the writer. -/
import Derived.Test.YtpnojkgdjkncbaaDoorBy
import Derived.Test.YtpnojkgdjkncbaaDoorPlainA
import Derived.Deep.LoopGhost
import Derived.Lib.Walk
import Derived.Sort.WalkB12
import Derived.Lib.SlicesMore
import Derived.Shelf.RegionOpenPlain
namespace Go.Proofs.YtpnojkgdjkncbaaDoor
open Go.RowKit Go.Lib Go.Sort
set_option maxRecDepth 100000
set_option linter.unusedVariables false
set_option linter.unusedSimpArgs false

theorem putCells_take (l : List UInt8) (cur : Array Value) (h : l.length ≤ cur.size) : (putCells byteV 0 l.toArray cur).toList.take l.length = (nums l).map (Value.int .u8) := by
  apply List.ext_getElem?
  intro j
  rw [List.getElem?_take]
  split
  · rename_i hj
    simp [putCells, nums, byteV, hj, List.getElem?_eq_getElem hj, show j < cur.size by omega]
  · rename_i hj
    exact (List.getElem?_eq_none (by simp [nums]; omega)).symm

theorem own_put {w : World} {N g n : Nat} {l l' : List UInt8} {cap : Nat} {cur : Array Value} (hl : l'.length = l.length) (hN : N ≤ g) (hg : w.heap[g]? = some (.cells cur 5 (0, 0))) (hc : l.length ≤ cap) (hm : cap ≤ maxLen) (hs : cur.size = cap) :
    Own (putRow byteV (Sort.ahead w n) g 0 l'.toArray) N (.slice (some ⟨g, 0, none⟩) l.length cap) l' ∧ w.grownBy (putRow byteV (Sort.ahead w n) g 0 l'.toArray) (some g) := by
  refine ⟨⟨by simp, .inr ⟨g, cap, putCells byteV 0 l'.toArray cur, by rw [nums_length, hl], hN, ?_, by rw [nums_length]; omega, hm, by simp [putCells, hs], ?_⟩⟩, ⟨rfl, rfl, rfl, by simp, fun k hk hne => ?_⟩⟩
  · simp [putRow, mapBlock, Array.getElem?_modify, hg, onCells]
  · rw [nums_length, Nat.mul_one, putCells_take]; omega
  · have : g ≠ k := fun e => hne (by rw [e])
    simp [putRow, mapBlock, Array.getElem?_modify, this]

theorem own_holds {w : World} {g : Nat} {l : List UInt8} {cur : Array Value} (hg : w.heap[g]? = some (.cells cur 5 (0, 0))) (ht : cur.toList.take l.length = (nums l).map (Value.int .u8)) : Holds byteV w g 0 l.toArray := by
  intro j hj
  simp at hj
  have e : (cur.toList.take l.length)[j]? = ((nums l).map (Value.int .u8))[j]? := by rw [ht]
  rw [List.getElem?_take, if_pos hj] at e
  simp only [nums, List.map_map, List.getElem?_map, List.getElem?_eq_getElem hj, Option.map_some, Array.getElem?_toList] at e
  refine ⟨?_, ?_⟩
  · simp only [World.cell?, hg, Nat.zero_add]
    simp [e, byteV, hj]
  · simp [World.frozen?, hg]

set_option maxHeartbeats 1600000 in
set_option maxRecDepth 1000000 in
theorem reverse_arr (blk off cap : Nat) (d : Array UInt8) (w : World) (hH : Holds byteV w blk off d) (hsz : d.size ≤ 9223372036854775807) :
    Calls Tryd.prog 105 #[.slice (some ⟨blk, off, none⟩) d.size cap] w fun e w' => e = .returned (.tuple #[]) ∧ ∃ n, w' = putRow byteV (Sort.ahead w n) blk off d.reverse := by
  go_enter Tryd.func105, Tryd.ntmps105
  go_wp2
  go_loopg [2, 3] d.size (fun k s2 s3 wr => ∃ (i jn : Nat) (jz : Int) (dk : Array UInt8) (n : Nat), s2 = .int .i64 i ∧ s3 = .int .i64 jz ∧ ((i : Int) < jz → jz = jn ∧ jn < d.size) ∧ (¬ (i : Int) < jz → ¬ i < jn) ∧ jn - i ≤ k ∧
    dk.size = d.size ∧ wr = putRow byteV (Sort.ahead w n) blk off dk ∧ reverseLoop i jn dk = reverseLoop 0 (d.size - 1) d)
  case atStart => exact ⟨0, d.size - 1, (d.size : Int) - 1, d, 0, rfl, rfl, fun h => ⟨by omega, by omega⟩, fun h => by omega, by omega, rfl, (putRow_self byteV w blk off d hH).symm, rfl⟩
  case round =>
    obtain ⟨i, jn, jz, dk, n, rfl, rfl, h1, h2, hk, hds, hwr, heq⟩ := hrel
    by_cases hlt : (i : Int) < jz
    · obtain ⟨rfl, hjn⟩ := h1 hlt
      have hij : i < jn := by omega
      have hHk : Holds byteV wr blk off dk := by rw [hwr]; exact holds_putRow byteV _ blk off d dk (holds_ahead byteV w n blk off d hH) hds
      obtain ⟨ci, fi⟩ := hHk i (by omega)
      obtain ⟨cj, fj⟩ := hHk jn (by omega)
      have hid : i < d.size := by omega
      simp only [byteV] at ci cj
      have A := Lib.hid hwr
      clear hwr hHk hH h1 h2
      go_wp2_with fail
      go_region
      go_wp2
      go_roundg (jn - 1 - (i + 1))
      case measure => omega
      case rel =>
        rw [reverseLoop, if_pos hij] at heq
        exact ⟨i + 1, jn - 1, (jn : Int) - 1, swp dk i jn, n + 1, by simp, rfl, fun h => ⟨by omega, by omega⟩, fun h => by omega, Nat.le_refl _, by rw [size_swp]; exact hds,
          swap_world byteV (by omega) (by omega) A.out (by first | rfl | simp [byteV, getElem!_pos, show jn < dk.size by omega]) (by first | rfl | simp [byteV, getElem!_pos, show i < dk.size by omega]), heq⟩
    · have hnot := h2 hlt
      go_wp2
      go_end0
      refine ⟨rfl, n, ?_⟩
      rw [reverseLoop, if_neg hnot] at heq
      rw [← Lib.reverseLoop_reverse, ← heq]

set_option maxHeartbeats 1600000 in
theorem reverse_nil (w : World) :
    Calls Tryd.prog 105 #[.slice none 0 0] w fun e w' => e = .returned (.tuple #[]) ∧ w' = w := by
  go_enter Tryd.func105, Tryd.ntmps105
  go_wp2
  go_loopg [2, 3] 0 (fun _ s2 s3 wr => s2 = .int .i64 0 ∧ s3 = .int .i64 (-1) ∧ wr = w)
  case atStart => exact ⟨rfl, rfl, rfl⟩
  case round =>
    obtain ⟨rfl, rfl, rfl⟩ := hrel
    go_wp2
    go_end0
    exact ⟨rfl, rfl⟩

theorem reverse_own {w : World} {N : Nat} {v : Value} {l : List UInt8} (h : Own w N v l) (hl : l.length ≤ 1000000) :
    Calls Tryd.prog 105 #[v] w fun e w' => e = .returned (.tuple #[]) ∧ Own w' N v l.reverse ∧ w.grownBy w' v.ownBlock := by
  rcases h.form with ⟨rfl, rfl⟩ | ⟨g, cap, cur, rfl, h2, h3, h4, h5, h6, h7⟩
  · refine (reverse_nil w).mono ?_
    rintro e w' ⟨rfl, rfl⟩
    exact ⟨rfl, h, grownBy_refl _ _⟩
  · have hr := reverse_arr g 0 cap l.toArray w (own_holds h3 h7) (by simp; omega)
    simp only [List.size_toArray] at hr
    refine hr.mono ?_
    rintro e w' ⟨rfl, n, rfl⟩
    have hp := own_put (n := n) (l' := l.reverse) (l := l) (by simp) h2 h3 h4 h5 h6
    rw [show l.toArray.reverse = l.reverse.toArray by simp]
    exact ⟨rfl, hp.1, hp.2⟩

end Go.Proofs.YtpnojkgdjkncbaaDoor
namespace Go.Proofs.YtpnojkgdjkncbaaDoor
open Go.RowKit
set_option maxRecDepth 100000
set_option linter.unusedVariables false
set_option linter.unusedSimpArgs false

theorem Own.made (W : World) {N : Nat} (hN : N ≤ W.heap.size) {c : UInt8} {z : Int} (hz : z = c.toNat) : Own (W.alloc (.cells #[.int .u8 z] 5)) N (.slice (some ⟨W.heap.size, 0, none⟩) 1 1) [c] := by
  subst hz
  exact ⟨by simp [nums], .inr ⟨W.heap.size, 1, _, rfl, hN, heap_alloc_new W _, by simp [nums], by decide, rfl, rfl⟩⟩
theorem u8_mod (m : Nat) : ((m : Int) % 256) = ((UInt8.ofNat (m % 256)).toNat : Int) := by simp

set_option maxHeartbeats 1000000 in
theorem num_bad (n : Int) (h : ¬ (0 ≤ n ∧ n ≤ 9007199254740991)) (w : World) :
    Calls Tryd.prog 90 #[.int .i64 n] w fun e w' => e = .returned (.tuple #[.slice none 0 0, .int .i64 2]) ∧ w = w' := by
  by_cases h1 : n < 0
  · go_enter Tryd.func90, Tryd.ntmps90
    go_wp2
    go_ret2
    exact ⟨rfl, rfl⟩
  · have h2 : 9007199254740991 < n := by omega
    go_enter Tryd.func90, Tryd.ntmps90
    go_wp2
    go_ret2
    exact ⟨rfl, rfl⟩

set_option maxHeartbeats 2000000 in
set_option maxRecDepth 100000 in
theorem num_good (k : Nat) (hk : k ≤ 9007199254740991) (w : World) :
    Calls Tryd.prog 90 #[.int .i64 k] w fun e w' => ∃ v, e = .returned (.tuple #[v, .int .i64 0]) ∧ Own w' w.heap.size v (numT k) ∧ Gr w w' := by
  have h7 := numD_le7 hk
  go_enter Tryd.func90, Tryd.ntmps90
  go_wp2
  go_loopw [0, 4] (fun n v wr => ∃ (m : Nat) (l : List UInt8), m ≤ k ∧ n = .int .i64 m ∧ Hid (numD k = numD m ++ l.reverse) ∧ l.length ≤ 7 ∧ Own wr w.heap.size v l ∧ Gr w wr) (fun n _ _ => (intOf n).toNat)
  case atStart => exact ⟨k, [], Nat.le_refl _, rfl, Lib.hid (by simp), by simp, Own.nil _ _, Gr.refl _⟩
  case round =>
    obtain ⟨m, l, hm, rfl, HD, hl, hown, hg⟩ := hrel
    have hsz := hg.size
    by_cases h0 : 0 < m
    · go_wp2_with (at_builtin; refine app_rd (N := w.heap.size) (by simp; omega) (by rfl) (.tmp 15) (.tmp 18) (by rfl) l [UInt8.ofNat (m % 256)] (by rfl) (by rfl) (hown.alloc _) (Own.made _ (Nat.le_refl _) (u8_mod m)).rd (by simp; omega) ?_; intro v1 w1 hown1 hgb1)
      have hg1 := (hown.alloc _).grew (hg.alloc _) hgb1
      have HD' := HD.out
      rw [numD_pos h0, List.append_assoc] at HD'
      have hl7 : (l ++ [UInt8.ofNat (m % 256)]).length ≤ 7 := by
        have := congrArg List.length HD'
        simp at this ⊢; omega
      go_roundw
      case rel => exact ⟨m / 256, l ++ [UInt8.ofNat (m % 256)], by omega, by go_num, Lib.hid (by rw [HD']; simp), hl7, hown1, hg1⟩
      case measure => simp [intOf]; omega
    · have hm0 : m = 0 := by omega
      subst hm0
      have HD' := HD.out
      rw [numD_zero, List.nil_append] at HD'
      go_wp2_with (first
        | (go_at_call 105; refine (reverse_own hown (by omega)).mono ?_; rintro e w2 ⟨rfl, hown2, hgb2⟩; have hln := len_rd (ty := 3) hown2.rd; have hg2 := hown.grew hg hgb2; have hsz2 := hg2.size)
        | (at_builtin; refine app_rd (N := w.heap.size) (by simp; omega) (by rfl) (.tmp 25) (.tmp 26) (by rfl) [UInt8.ofNat (numD k).length] l.reverse (by rfl) (by rfl) (Own.made _ (by omega) (by rw [HD']; simp; omega)) (hown2.alloc _).rd (by simp; omega) ?_; intro v3 w3 hown3 hgb3))
      have hg3 := (Own.made (c := UInt8.ofNat (numD k).length) w2 (N := w.heap.size) (by omega) (by rw [HD']; simp; omega)).grew (hg2.alloc _) hgb3
      go_ret2
      refine ⟨v3, rfl, ?_, hg3⟩
      unfold numT
      rw [← HD'] at hown3
      exact hown3

theorem num_any (n : Int) (w : World) :
    Calls Tryd.prog 90 #[.int .i64 n] w fun e w' => ∃ v, e = .returned (.tuple #[v, .int .i64 (numE n)]) ∧ Own w' w.heap.size v (numW n) ∧ Gr w w' := by
  unfold numE numW
  by_cases h : 0 ≤ n ∧ n ≤ 9007199254740991
  · rw [if_pos h, if_pos h]
    obtain ⟨k, rfl⟩ := Int.eq_ofNat_of_zero_le h.1
    exact num_good k (by omega) w
  · rw [if_neg h, if_neg h]
    refine (num_bad n h w).mono ?_
    rintro e w' ⟨rfl, rfl⟩
    exact ⟨_, rfl, Own.nil _ _, Gr.refl _⟩

def strE (s : List UInt8) : Int := if s.length ≤ 64 then 0 else 5
theorem str_any (s : ByteArray) (w : World) :
    Calls Tryd.prog 92 #[.string s, .int .i64 64] w fun e w' => ∃ v, e = .returned (.tuple #[v, .int .i64 (strE s.data.toList)]) ∧ Own w' w.heap.size v (strW s.data.toList) ∧ Gr w w' := by
  have hl : s.data.toList.length = s.size := Array.length_toList
  by_cases h : s.size ≤ 64
  · have hn := Lib.hid (fun w => num_good s.size (by omega) w)
    have h7 := numD_le7 (n := s.size) (by omega)
    unfold strE strW
    rw [hl, if_pos h, if_pos h]
    go_enter Tryd.func92, Tryd.ntmps92
    go_wp2_with (first
      | (go_at_call 90; refine (hn.out _).mono ?_; rintro e w1 ⟨v1, rfl, hown1, hg1⟩; have hsz := hg1.size)
      | (at_builtin; refine app_str (N := w.heap.size) (by omega) (by rfl) (.tmp 25) (.tmp 26) (by rfl) (numT s.size) s (by rfl) (by rfl) hown1 (by simp [numT]; omega) ?_; intro v2 w2 hown2 hgb2))
    have hg2 := hown1.grew hg1 hgb2
    go_ret2
    exact ⟨v2, rfl, hown2, hg2⟩
  · unfold strE strW
    rw [hl, if_neg h, if_neg h]
    go_enter Tryd.func92, Tryd.ntmps92
    go_wp2
    go_ret2
    exact ⟨_, rfl, Own.nil _ _, Gr.refl _⟩

set_option maxHeartbeats 1000000 in
theorem refNum_bad (n : Int) (h : ¬ (0 ≤ n ∧ n ≤ 9007199254740991)) (w : World) :
    Calls Tryd.prog 91 #[.int .i64 n] w fun e w' => e = .returned (.tuple #[.slice none 0 0, .int .i64 2]) ∧ w = w' := by
  by_cases h1 : n < 0
  · go_enter Tryd.func91, Tryd.ntmps91
    go_wp2
    go_ret2
    exact ⟨rfl, rfl⟩
  · have h2 : 9007199254740991 < n := by omega
    go_enter Tryd.func91, Tryd.ntmps91
    go_wp2
    go_ret2
    exact ⟨rfl, rfl⟩

set_option maxHeartbeats 2000000 in
set_option maxRecDepth 100000 in
theorem refNum_good (k : Nat) (hk : k ≤ 9007199254740991) (w : World) :
    Calls Tryd.prog 91 #[.int .i64 k] w fun e w' => ∃ v, e = .returned (.tuple #[v, .int .i64 0]) ∧ Own w' w.heap.size v (numT k) ∧ Gr w w' := by
  have h7 := numD_le7 hk
  go_enter Tryd.func91, Tryd.ntmps91
  go_wp2
  go_loopw [0, 4] (fun n v wr => ∃ (m : Nat) (l : List UInt8), m ≤ k ∧ n = .int .i64 m ∧ Hid (numD k = numD m ++ l) ∧ l.length ≤ 7 ∧ Own wr w.heap.size v l ∧ Gr w wr) (fun n _ _ => (intOf n).toNat)
  case atStart => exact ⟨k, [], Nat.le_refl _, rfl, Lib.hid (by simp), by simp, Own.nil _ _, Gr.refl _⟩
  case round =>
    obtain ⟨m, l, hm, rfl, HD, hl, hown, hg⟩ := hrel
    have hsz := hg.size
    by_cases h0 : 0 < m
    · go_wp2_with (at_builtin; refine app_rd (N := w.heap.size) (by simp; omega) (by rfl) (.tmp 16) (.tmp 17) (by rfl) [UInt8.ofNat (m % 256)] l (by rfl) (by rfl) (Own.made _ (by omega) (by exact u8_mod m)) (hown.alloc _).rd (by simp; omega) ?_; intro v1 w1 hown1 hgb1)
      have hg1 := (Own.made (c := UInt8.ofNat (m % 256)) wr (N := w.heap.size) (by omega) (u8_mod m)).grew (hg.alloc _) hgb1
      have HD' := HD.out
      rw [numD_pos h0, List.append_assoc] at HD'
      have hl7 : ([UInt8.ofNat (m % 256)] ++ l).length ≤ 7 := by
        have := congrArg List.length HD'
        simp at this ⊢; omega
      go_roundw
      case rel => exact ⟨m / 256, [UInt8.ofNat (m % 256)] ++ l, by omega, by go_num, Lib.hid (by rw [HD']), hl7, hown1, hg1⟩
      case measure => simp [intOf]; omega
    · have hm0 : m = 0 := by omega
      subst hm0
      have HD' := HD.out
      rw [numD_zero, List.nil_append] at HD'
      have hln := len_rd (ty := 3) hown.rd
      go_wp2_with (at_builtin; refine app_rd (N := w.heap.size) (by simp; omega) (by rfl) (.tmp 24) (.tmp 25) (by rfl) [UInt8.ofNat (numD k).length] l (by rfl) (by rfl) (Own.made _ (by omega) (by rw [HD']; simp; omega)) (hown.alloc _).rd (by simp; omega) ?_; intro v3 w3 hown3 hgb3)
      have hg3 := (Own.made (c := UInt8.ofNat (numD k).length) wr (N := w.heap.size) (by omega) (by rw [HD']; simp; omega)).grew (hg.alloc _) hgb3
      go_ret2
      refine ⟨v3, rfl, ?_, hg3⟩
      unfold numT
      rw [← HD'] at hown3
      exact hown3

theorem refNum_any (n : Int) (w : World) :
    Calls Tryd.prog 91 #[.int .i64 n] w fun e w' => ∃ v, e = .returned (.tuple #[v, .int .i64 (numE n)]) ∧ Own w' w.heap.size v (numW n) ∧ Gr w w' := by
  unfold numE numW
  by_cases h : 0 ≤ n ∧ n ≤ 9007199254740991
  · rw [if_pos h, if_pos h]
    obtain ⟨k, rfl⟩ := Int.eq_ofNat_of_zero_le h.1
    exact refNum_good k (by omega) w
  · rw [if_neg h, if_neg h]
    refine (refNum_bad n h w).mono ?_
    rintro e w' ⟨rfl, rfl⟩
    exact ⟨_, rfl, Own.nil _ _, Gr.refl _⟩

theorem refStr_any (s : ByteArray) (w : World) :
    Calls Tryd.prog 93 #[.string s, .int .i64 64] w fun e w' => ∃ v, e = .returned (.tuple #[v, .int .i64 (strE s.data.toList)]) ∧ Own w' w.heap.size v (strW s.data.toList) ∧ Gr w w' := by
  have hl : s.data.toList.length = s.size := Array.length_toList
  by_cases h : s.size ≤ 64
  · have hn := Lib.hid (fun w => refNum_good s.size (by omega) w)
    have h7 := numD_le7 (n := s.size) (by omega)
    unfold strE strW
    rw [hl, if_pos h, if_pos h]
    go_enter Tryd.func93, Tryd.ntmps93
    go_wp2_with (first
      | (go_at_call 91; refine (hn.out _).mono ?_; rintro e w1 ⟨v1, rfl, hown1, hg1⟩; have hsz := hg1.size)
      | (at_builtin; refine app_str (N := w.heap.size) (by omega) (by rfl) (.tmp 23) (.tmp 24) (by rfl) (numT s.size) s (by rfl) (by rfl) hown1 (by simp [numT]; omega) ?_; intro v2 w2 hown2 hgb2))
    have hg2 := hown1.grew hg1 hgb2
    go_ret2
    exact ⟨v2, rfl, hown2, hg2⟩
  · unfold strE strW
    rw [hl, if_neg h, if_neg h]
    go_enter Tryd.func93, Tryd.ntmps93
    go_wp2
    go_ret2
    exact ⟨_, rfl, Own.nil _ _, Gr.refl _⟩
end Go.Proofs.YtpnojkgdjkncbaaDoor
namespace Go.Proofs.YtpnojkgdjkncbaaDoor
open Go.RowKit
set_option maxRecDepth 100000
set_option linter.unusedVariables false
set_option linter.unusedSimpArgs false

/-- Nothing has turned but block B and rows of bytes at or above N. -/
structure Fb (N B : Nat) (w w' : World) : Prop where
  os : w'.os = w.os
  tape : w'.tape = w.tape
  output : w'.output = w.output
  size : w.heap.size ≤ w'.heap.size
  blk : ∀ k o, w.heap[k]? = some o → k ≠ B → (k < N ∨ ∀ c f, o ≠ .cells c 5 f) → w'.heap[k]? = some o

theorem Fb.refl (N B : Nat) (w : World) : Fb N B w w := ⟨rfl, rfl, rfl, Nat.le_refl _, fun _ _ h _ _ => h⟩
theorem Fb.trans {N B : Nat} {a b c : World} (h : Fb N B a b) (k : Fb N B b c) : Fb N B a c :=
  ⟨k.os.trans h.os, k.tape.trans h.tape, k.output.trans h.output, Nat.le_trans h.size k.size, fun i o ho hb hx => k.blk i o (h.blk i o ho hb hx) hb hx⟩
theorem Fb.gr {a b : World} (h : Gr a b) (N B : Nat) : Fb N B a b := ⟨h.b.os, h.b.tape, h.b.output, h.b.size, fun i o ho _ _ => h.blk ho⟩
theorem Fb.grown {a b : World} {N B : Nat} {v : Value} {l : List UInt8} (hown : Own a N v l) (h : a.grownBy b v.ownBlock) : Fb N B a b := by
  refine ⟨h.os, h.tape, h.output, h.size, fun k o ho hb hx => ?_⟩
  have hk : k < a.heap.size := (Array.getElem?_eq_some_iff.1 ho).1
  by_cases he : v.ownBlock = some k
  · exfalso
    rcases hown.form with ⟨rfl, _⟩ | ⟨g, cap, cur, rfl, h2, h3, _⟩
    · simp [Value.ownBlock] at he
    · simp [Value.ownBlock] at he
      subst he
      rw [h3] at ho
      rcases hx with hx | hx
      · omega
      · exact hx cur (0, 0) (Option.some.inj ho).symm
  · rw [h.block k hk (fun e => he e.symm)]; exact ho
theorem Fb.set {a : World} {N B : Nat} (u : Value) : Fb N B a (a.setCell ⟨B, 0, none⟩ u) :=
  ⟨rfl, rfl, rfl, by simp, fun k o ho hb _ => heap_set_other ho _ _ (fun e => hb e.symm)⟩
theorem Fb.toGr {w0 a b : World} {N B : Nat} (hg : Gr w0 a) (h : Fb N B a b) (hN : w0.heap.size ≤ N) (hB : w0.heap.size ≤ B) : Gr w0 b := by
  refine ⟨⟨h.os.trans hg.b.os, h.tape.trans hg.b.tape, h.output.trans hg.b.output, Nat.le_trans hg.b.size h.size, fun k hk => ?_⟩⟩
  have hk2 : k < w0.heap.size := hk
  have h1 := hg.b.block k hk
  rw [← h1]
  have hka : k < a.heap.size := Nat.lt_of_lt_of_le hk2 hg.b.size
  rw [h.blk k a.heap[k] (Array.getElem?_eq_getElem hka) (by omega) (.inl (by omega)), Array.getElem?_eq_getElem hka]

theorem Own.slice {a : World} {N : Nat} {v : Value} {l : List UInt8} (h : Own a N v l) : ∃ (q : Option Addr) (n c : Nat), v = .slice q n c := by
  rcases h.form with ⟨rfl, _⟩ | ⟨g, cap, cur, rfl, _⟩
  · exact ⟨_, _, _, rfl⟩
  · exact ⟨_, _, _, rfl⟩

/-- A writer that has written L. -/
structure Wri (N B : Nat) (L : List UInt8) (w : World) : Prop where
  le : N ≤ B
  h : ∃ v, w.heap[B]? = some (.cells #[v] 75) ∧ Own w N v L
theorem Wri.gr {N B : Nat} {L : List UInt8} {a b : World} (h : Wri N B L a) (hg : Gr a b) : Wri N B L b := by
  obtain ⟨h0, v, h1, h2⟩ := h
  exact ⟨h0, v, hg.blk h1, h2.gr hg⟩
theorem Wri.lt {N B : Nat} {L : List UInt8} {a : World} (h : Wri N B L a) : B < a.heap.size := by
  obtain ⟨h0, v, h1, h2⟩ := h
  exact (Array.getElem?_eq_some_iff.1 h1).1
theorem Wri.new (w : World) {N : Nat} (hN : N ≤ w.heap.size) : Wri N w.heap.size [] (w.alloc (.cells #[.slice none 0 0] 75)) :=
  ⟨hN, _, heap_alloc_new _ _, Own.nil _ _⟩
/-- behind an append of x to the writer's bytes and the store of what came of it -/
theorem Wri.put {N B : Nat} {L x : List UInt8} {w w' : World} {v v' : Value} (hB : N ≤ B) (hv : w.heap[B]? = some (.cells #[v] 75)) (hown : Own w N v L) (hown' : Own w' N v' (L ++ x)) (hgb : w.grownBy w' v.ownBlock) :
    w'.heap[B]? = some (.cells #[v] 75) ∧ Wri N B (L ++ x) (w'.setCell ⟨B, 0, none⟩ v') ∧ Fb N B w (w'.setCell ⟨B, 0, none⟩ v') := by
  have h1 : w'.heap[B]? = some (.cells #[v] 75) := by
    have hk : B < w.heap.size := (Array.getElem?_eq_some_iff.1 hv).1
    rw [hgb.block B hk (fun e => ?_)]
    · exact hv
    · rcases hown.form with ⟨rfl, _⟩ | ⟨g, cap, cur, rfl, h2, h3, _⟩
      · simp [Value.ownBlock] at e
      · simp [Value.ownBlock] at e
        subst e
        rw [h3] at hv
        simp at hv
  refine ⟨h1, ⟨hB, v', ?_, ?_⟩, (Fb.grown hown hgb).trans (Fb.set v')⟩
  · have := heap_set h1 0 v'
    simpa using this
  · rcases hown'.form with ⟨rfl, e⟩ | ⟨g, cap, cur, rfl, h2, h3, h4, h5, h6, h7⟩
    · rw [e]; exact Own.nil _ _
    · refine ⟨by simp, .inr ⟨g, cap, cur, by rw [nums_length], h2, ?_, by rw [nums_length]; exact h4, h5, by simpa using h6, by rw [nums_length]; simpa using h7⟩⟩
      refine heap_set_other h3 _ _ (fun e => ?_)
      simp only at e
      subst e
      rw [h1] at h3
      simp at h3

theorem numT_length {n : Nat} (h : n ≤ 9007199254740991) : (numT n).length ≤ 8 := by
  have := numD_le7 h
  simp [numT]; omega
theorem numW_length (n : Int) : (numW n).length ≤ 8 := by
  unfold numW
  split
  · exact numT_length (by omega)
  · simp
theorem numWs_length : ∀ ns : List Int, (ns.flatMap numW).length ≤ 8 * ns.length
  | [] => by simp
  | n :: ns => by
    have := numW_length n
    have := numWs_length ns
    simp at this ⊢; omega
theorem numWs_take (L : List UInt8) (ns : List Int) (k : Nat) (h : k < ns.length) : L ++ (ns.take (k + 1)).flatMap numW = (L ++ (ns.take k).flatMap numW) ++ numW ns[k] := by
  rw [List.take_succ_eq_append_getElem h, List.flatMap_append]
  simp

set_option maxHeartbeats 2000000 in
theorem wnum {N B : Nat} {L : List UInt8} {w : World} (h : Wri N B L w) (bl n c : Nat) (ns : List Int) (hbl : w.heap[bl]? = some (.cells (ns.map (Value.int .i64)).toArray 3)) (hn : ns.length = n) (hlen : L.length + 8 * n ≤ 70368744177664) :
    Calls Tryd.prog 53 #[.pointer (some ⟨B, 0, none⟩), .slice (some ⟨bl, 0, none⟩) n c] w fun e w' => e = .returned (.tuple #[]) ∧ Wri N B (L ++ ns.flatMap numW) w' ∧ Fb N B w w' := by
  subst hn
  have hbB : bl ≠ B := by
    rintro rfl
    obtain ⟨_, v, h1, _⟩ := h
    rw [hbl] at h1
    simp at h1
  go_enter Tryd.func53, Tryd.ntmps53
  go_wp2
  go_loopw [10] (fun i wr => ∃ k : Nat, k ≤ ns.length ∧ i = .int .i64 k ∧ Wri N B (L ++ (ns.take k).flatMap numW) wr ∧ Fb N B w wr) (fun i _ => ns.length - (intOf i).toNat)
  case atStart => exact ⟨0, Nat.zero_le _, rfl, by simpa using h, Fb.refl _ _ _⟩
  case round =>
    obtain ⟨k, hk, rfl, hW, hF⟩ := hrel
    by_cases hlt : k < ns.length
    · have hbl2 := hF.blk bl _ hbl hbB (.inr (by simp))
      have hcell : wr.cell? ⟨bl, k, none⟩ = some (.int .i64 ns[k]) := by
        simp only [World.cell?, hbl2]
        simp [hlt]
      obtain ⟨hB, v, hv, hown⟩ := hW
      have hL : (L ++ (ns.take k).flatMap numW).length ≤ L.length + 8 * ns.length := by
        have := numWs_length (ns.take k)
        simp at this ⊢; omega
      have hn8 := numW_length ns[k]
      clear hbl hbl2
      go_wp2_with (first
        | (go_at_call 90; refine (num_any _ _).mono ?_; rintro e w1 ⟨v1, rfl, hown1, hg1⟩; have hv1 := hg1.blk hv; obtain ⟨k_0, g_0, l_0⟩ := blk1 hv1; have hown1' := hown.gr hg1)
        | (at_builtin; refine app_rd (N := N) (by omega) (by rfl) (.tmp 23) (.tmp 24) (by rfl) _ _ (by rfl) (by rfl) hown1' hown1.rd (by omega) ?_; intro v2 w2 hown2 hgb2; obtain ⟨q2, n2, c2, rfl⟩ := hown2.slice; have hput := Wri.put hB hv1 hown1' hown2 hgb2; obtain ⟨p_0, q_0, m_0⟩ := blk1 hput.1))
      go_roundw
      case rel => exact ⟨k + 1, by omega, by go_num, by rw [numWs_take L ns k hlt]; exact hput.2.1, (hF.trans (Fb.gr hg1 _ _)).trans hput.2.2⟩
      case measure => simp [intOf]; omega
    · obtain rfl : k = ns.length := by omega
      rw [List.take_length] at hW
      go_wp2
      go_end0
      exact ⟨rfl, hW, hF⟩

theorem strW_length (s : List UInt8) : (strW s).length ≤ 72 := by
  unfold strW
  split
  · have := numT_length (n := s.length) (by omega)
    simp; omega
  · simp

theorem wstr {N B : Nat} {L : List UInt8} {w : World} (h : Wri N B L w) (s : ByteArray) (hlen : L.length + 72 ≤ 70368744177664) :
    Calls Tryd.prog 61 #[.pointer (some ⟨B, 0, none⟩), .string s] w fun e w' => e = .returned (.tuple #[]) ∧ Wri N B (L ++ strW s.data.toList) w' ∧ Fb N B w w' := by
  have h72 := strW_length s.data.toList
  have hlt := h.lt
  obtain ⟨hB, v, hv, hown⟩ := h
  go_enter Tryd.func61, Tryd.ntmps61
  go_wp2_with (first
    | (go_at_call 92; refine (str_any _ _).mono ?_; rintro e w1 ⟨v1, rfl, hown1, hg1⟩; have hv1 := hg1.blk hv; obtain ⟨k_0, g_0, l_0⟩ := blk1 hv1; have hown1' := hown.gr hg1)
    | (at_builtin; refine app_rd (N := N) (by omega) (by rfl) (.tmp 15) (.tmp 16) (by rfl) _ _ (by rfl) (by rfl) hown1' hown1.rd (by omega) ?_; intro v2 w2 hown2 hgb2; obtain ⟨q2, n2, c2, rfl⟩ := hown2.slice; have hput := Wri.put hB hv1 hown1' hown2 hgb2; obtain ⟨p_0, q_0, m_0⟩ := blk1 hput.1))
  go_end0
  exact ⟨rfl, hput.2.1, (Fb.gr hg1 _ _).trans hput.2.2⟩

theorem wflag {N B : Nat} {L : List UInt8} {w : World} (h : Wri N B L w) (is : Bool) (hlen : L.length + 8 ≤ 70368744177664) :
    Calls Tryd.prog 60 #[.pointer (some ⟨B, 0, none⟩), .bool is] w fun e w' => e = .returned (.tuple #[]) ∧ Wri N B (L ++ numW (if is then 1 else 0)) w' ∧ Fb N B w w' := by
  cases is with
  | true =>
    go_enter Tryd.func60, Tryd.ntmps60
    go_wp2_with (go_at_call 53; refine (wnum (h.gr (by repeat (first | (with_reducible exact Gr.refl _) | (with_reducible assumption) | (with_reducible refine Gr.alloc ?_ _) | (with_reducible refine Gr.drew ?_) | (with_reducible refine Gr.drewN ?_ _) | (with_reducible refine Gr.trans ?_ (by assumption)) | (with_reducible refine Gr.setCell ?_ (by first | exact Nat.le_refl _ | omega | (simp; done) | (simp; omega)) _)))) _ 1 1 [1] (by exact heap_alloc_new _ _) rfl hlen).mono ?_; rintro e w1 ⟨rfl, hW, hF⟩)
    exact bodyPost_ret (v := .tuple #[]) (by simp [results, Tryd.results60, go_sem]) rfl ⟨rfl, by simpa using hW, (Fb.gr (by repeat (first | (with_reducible exact Gr.refl _) | (with_reducible assumption) | (with_reducible refine Gr.alloc ?_ _) | (with_reducible refine Gr.drew ?_) | (with_reducible refine Gr.drewN ?_ _) | (with_reducible refine Gr.trans ?_ (by assumption)) | (with_reducible refine Gr.setCell ?_ (by first | exact Nat.le_refl _ | omega | (simp; done) | (simp; omega)) _))) _ _).trans hF⟩
  | false =>
    go_enter Tryd.func60, Tryd.ntmps60
    go_wp2_with (go_at_call 53; refine (wnum (h.gr (by repeat (first | (with_reducible exact Gr.refl _) | (with_reducible assumption) | (with_reducible refine Gr.alloc ?_ _) | (with_reducible refine Gr.drew ?_) | (with_reducible refine Gr.drewN ?_ _) | (with_reducible refine Gr.trans ?_ (by assumption)) | (with_reducible refine Gr.setCell ?_ (by first | exact Nat.le_refl _ | omega | (simp; done) | (simp; omega)) _)))) _ 1 1 [0] (by exact heap_alloc_new _ _) rfl hlen).mono ?_; rintro e w1 ⟨rfl, hW, hF⟩)
    go_end0
    exact ⟨rfl, by simpa using hW, (Fb.gr (by repeat (first | (with_reducible exact Gr.refl _) | (with_reducible assumption) | (with_reducible refine Gr.alloc ?_ _) | (with_reducible refine Gr.drew ?_) | (with_reducible refine Gr.drewN ?_ _) | (with_reducible refine Gr.trans ?_ (by assumption)) | (with_reducible refine Gr.setCell ?_ (by first | exact Nat.le_refl _ | omega | (simp; done) | (simp; omega)) _))) _ _).trans hF⟩

set_option maxRecDepth 100000 in
theorem wtext {N B : Nat} {L : List UInt8} {w : World} (h : Wri N B L w) (e : Int) :
    Calls Tryd.prog 54 #[.pointer (some ⟨B, 0, none⟩), .int .i64 e] w fun e' w' => e' = .returned (.tuple #[.string ⟨(if e = 0 then L else []).toArray⟩, .int .i64 e]) ∧ w = w' := by
  have hlt := h.lt
  obtain ⟨hB, v, hv, hown⟩ := h
  obtain ⟨k_0, g_0, l_0⟩ := blk1 hv
  have hcv := conv_rd hown.rd
  by_cases h0 : e = 0
  · subst h0
    go_enter Tryd.func54, Tryd.ntmps54
    go_wp2
    go_ret2
    exact ⟨rfl, rfl⟩
  · have hb : (e != 0) = true := by simpa using h0
    rw [if_neg h0]
    go_enter Tryd.func54, Tryd.ntmps54
    go_wp2
    go_ret2
    exact ⟨rfl, rfl⟩

theorem may_any2 (ok : Bool) (w : World) : Calls Tryd.prog 55 #[.bool ok] w fun e w' => e = .returned (.int .i64 (if ok then 0 else 2)) ∧ w = w' := by
  cases ok <;>
  · go_enter Tryd.func55, Tryd.ntmps55
    go_wp2
    go_ret
    exact ⟨rfl, rfl⟩
end Go.Proofs.YtpnojkgdjkncbaaDoor
