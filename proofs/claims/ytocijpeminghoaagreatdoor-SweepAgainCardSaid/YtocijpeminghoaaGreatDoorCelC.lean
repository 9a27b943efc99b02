/- Layer 11: Reverse at bytes, Num and Str, the writer. -/
import Derived.Test.YtocijpeminghoaaGreatDoorBy
import Derived.Test.YtocijpeminghoaaGreatDoorPlainA
import Derived.Deep.LoopGhost
import Derived.Lib.Walk
import Derived.Sort.WalkB12
import Derived.Lib.SlicesMore
import Derived.Shelf.RegionOpenPlain
namespace Go.Proofs.YtocijpeminghoaaGreatDoor
open Go.RowKit Go.Lib Go.Sort
set_option maxRecDepth 100000
set_option linter.unusedVariables false
set_option linter.unusedSimpArgs false

theorem putCells_take (l : List UInt8) (cur : Array Value) (h : l.length ≤ cur.size) : (putCells byteV 0 l.toArray cur).toList.take l.length = (nums l).map (Value.int .u8) := by
  apply List.ext_getElem?
  intro j
  rw [List.getElem?_take]
  split
  · rename_i hj
    simp [putCells, nums, byteV, hj, List.getElem?_eq_getElem hj, show j < cur.size by omega]
  · rename_i hj
    exact (List.getElem?_eq_none (by simp [nums]; omega)).symm

theorem own_put {w : World} {N g n : Nat} {l l' : List UInt8} {cap : Nat} {cur : Array Value} (hl : l'.length = l.length) (hN : N ≤ g) (hg : w.heap[g]? = some (.cells cur 5 (0, 0))) (hc : l.length ≤ cap) (hm : cap ≤ maxLen) (hs : cur.size = cap) :
    Own (putRow byteV (Sort.ahead w n) g 0 l'.toArray) N (.slice (some ⟨g, 0, none⟩) l.length cap) l' ∧ w.grownBy (putRow byteV (Sort.ahead w n) g 0 l'.toArray) (some g) := by
  refine ⟨⟨by simp, .inr ⟨g, cap, putCells byteV 0 l'.toArray cur, by rw [nums_length, hl], hN, ?_, by rw [nums_length]; omega, hm, by simp [putCells, hs], ?_⟩⟩, ⟨rfl, rfl, rfl, by simp, fun k hk hne => ?_⟩⟩
  · simp [putRow, mapBlock, Array.getElem?_modify, hg, onCells]
  · rw [nums_length, Nat.mul_one, putCells_take]; omega
  · have : g ≠ k := fun e => hne (by rw [e])
    simp [putRow, mapBlock, Array.getElem?_modify, this]

theorem own_holds {w : World} {g : Nat} {l : List UInt8} {cur : Array Value} (hg : w.heap[g]? = some (.cells cur 5 (0, 0))) (ht : cur.toList.take l.length = (nums l).map (Value.int .u8)) : Holds byteV w g 0 l.toArray := by
  intro j hj
  simp at hj
  have e : (cur.toList.take l.length)[j]? = ((nums l).map (Value.int .u8))[j]? := by rw [ht]
  rw [List.getElem?_take, if_pos hj] at e
  simp only [nums, List.map_map, List.getElem?_map, List.getElem?_eq_getElem hj, Option.map_some, Array.getElem?_toList] at e
  refine ⟨?_, ?_⟩
  · simp only [World.cell?, hg, Nat.zero_add]
    simp [e, byteV, hj]
  · simp [World.frozen?, hg]

end Go.Proofs.YtocijpeminghoaaGreatDoor
namespace Go.Proofs.YtocijpeminghoaaGreatDoor
open Go.RowKit
set_option maxRecDepth 100000
set_option linter.unusedVariables false
set_option linter.unusedSimpArgs false

theorem Own.made (W : World) {N : Nat} (hN : N ≤ W.heap.size) {c : UInt8} {z : Int} (hz : z = c.toNat) : Own (W.alloc (.cells #[.int .u8 z] 5)) N (.slice (some ⟨W.heap.size, 0, none⟩) 1 1) [c] := by
  subst hz
  exact ⟨by simp [nums], .inr ⟨W.heap.size, 1, _, rfl, hN, heap_alloc_new W _, by simp [nums], by decide, rfl, rfl⟩⟩
theorem u8_mod (m : Nat) : ((m : Int) % 256) = ((UInt8.ofNat (m % 256)).toNat : Int) := by simp

def strE (s : List UInt8) : Int := if s.length ≤ 64 then 0 else 5
set_option maxHeartbeats 1000000 in
theorem refNum_bad (n : Int) (h : ¬ (0 ≤ n ∧ n ≤ 9007199254740991)) (w : World) :
    Calls Tryz.prog 74 #[.int .i64 n] w fun e w' => e = .returned (.tuple #[.slice none 0 0, .int .i64 2]) ∧ w = w' := by
  by_cases h1 : n < 0
  · go_enter Tryz.func74, Tryz.ntmps74
    go_wp2
    go_ret2
    exact ⟨rfl, rfl⟩
  · have h2 : 9007199254740991 < n := by omega
    go_enter Tryz.func74, Tryz.ntmps74
    go_wp2
    go_ret2
    exact ⟨rfl, rfl⟩

set_option maxHeartbeats 2000000 in
set_option maxRecDepth 100000 in
theorem refNum_good (k : Nat) (hk : k ≤ 9007199254740991) (w : World) :
    Calls Tryz.prog 74 #[.int .i64 k] w fun e w' => ∃ v, e = .returned (.tuple #[v, .int .i64 0]) ∧ Own w' w.heap.size v (numT k) ∧ Gr w w' := by
  have h7 := numD_le7 hk
  go_enter Tryz.func74, Tryz.ntmps74
  go_wp2
  go_loopw [0, 4] (fun n v wr => ∃ (m : Nat) (l : List UInt8), m ≤ k ∧ n = .int .i64 m ∧ Hid (numD k = numD m ++ l) ∧ l.length ≤ 7 ∧ Own wr w.heap.size v l ∧ Gr w wr) (fun n _ _ => (intOf n).toNat)
  case atStart => exact ⟨k, [], Nat.le_refl _, rfl, Lib.hid (by simp), by simp, Own.nil _ _, Gr.refl _⟩
  case round =>
    obtain ⟨m, l, hm, rfl, HD, hl, hown, hg⟩ := hrel
    have hsz := hg.size
    by_cases h0 : 0 < m
    · go_wp2_with (at_builtin; refine app_rd (N := w.heap.size) (by simp; omega) (by rfl) (.tmp 16) (.tmp 17) (by rfl) [UInt8.ofNat (m % 256)] l (by rfl) (by rfl) (Own.made _ (by omega) (by exact u8_mod m)) (hown.alloc _).rd (by simp; omega) ?_; intro v1 w1 hown1 hgb1)
      have hg1 := (Own.made (c := UInt8.ofNat (m % 256)) wr (N := w.heap.size) (by omega) (u8_mod m)).grew (hg.alloc _) hgb1
      have HD' := HD.out
      rw [numD_pos h0, List.append_assoc] at HD'
      have hl7 : ([UInt8.ofNat (m % 256)] ++ l).length ≤ 7 := by
        have := congrArg List.length HD'
        simp at this ⊢; omega
      go_roundw
      case rel => exact ⟨m / 256, [UInt8.ofNat (m % 256)] ++ l, by omega, by go_num, Lib.hid (by rw [HD']), hl7, hown1, hg1⟩
      case measure => simp [intOf]; omega
    · have hm0 : m = 0 := by omega
      subst hm0
      have HD' := HD.out
      rw [numD_zero, List.nil_append] at HD'
      have hln := len_rd (ty := 3) hown.rd
      go_wp2_with (at_builtin; refine app_rd (N := w.heap.size) (by simp; omega) (by rfl) (.tmp 24) (.tmp 25) (by rfl) [UInt8.ofNat (numD k).length] l (by rfl) (by rfl) (Own.made _ (by omega) (by rw [HD']; simp; omega)) (hown.alloc _).rd (by simp; omega) ?_; intro v3 w3 hown3 hgb3)
      have hg3 := (Own.made (c := UInt8.ofNat (numD k).length) wr (N := w.heap.size) (by omega) (by rw [HD']; simp; omega)).grew (hg.alloc _) hgb3
      go_ret2
      refine ⟨v3, rfl, ?_, hg3⟩
      unfold numT
      rw [← HD'] at hown3
      exact hown3

theorem refNum_any (n : Int) (w : World) :
    Calls Tryz.prog 74 #[.int .i64 n] w fun e w' => ∃ v, e = .returned (.tuple #[v, .int .i64 (numE n)]) ∧ Own w' w.heap.size v (numW n) ∧ Gr w w' := by
  unfold numE numW
  by_cases h : 0 ≤ n ∧ n ≤ 9007199254740991
  · rw [if_pos h, if_pos h]
    obtain ⟨k, rfl⟩ := Int.eq_ofNat_of_zero_le h.1
    exact refNum_good k (by omega) w
  · rw [if_neg h, if_neg h]
    refine (refNum_bad n h w).mono ?_
    rintro e w' ⟨rfl, rfl⟩
    exact ⟨_, rfl, Own.nil _ _, Gr.refl _⟩

theorem refStr_any (s : ByteArray) (w : World) :
    Calls Tryz.prog 75 #[.string s, .int .i64 64] w fun e w' => ∃ v, e = .returned (.tuple #[v, .int .i64 (strE s.data.toList)]) ∧ Own w' w.heap.size v (strW s.data.toList) ∧ Gr w w' := by
  have hl : s.data.toList.length = s.size := Array.length_toList
  by_cases h : s.size ≤ 64
  · have hn := Lib.hid (fun w => refNum_good s.size (by omega) w)
    have h7 := numD_le7 (n := s.size) (by omega)
    unfold strE strW
    rw [hl, if_pos h, if_pos h]
    go_enter Tryz.func75, Tryz.ntmps75
    go_wp2_with (first
      | (go_at_call 74; refine (hn.out _).mono ?_; rintro e w1 ⟨v1, rfl, hown1, hg1⟩; have hsz := hg1.size)
      | (at_builtin; refine app_str (N := w.heap.size) (by omega) (by rfl) (.tmp 23) (.tmp 24) (by rfl) (numT s.size) s (by rfl) (by rfl) hown1 (by simp [numT]; omega) ?_; intro v2 w2 hown2 hgb2))
    have hg2 := hown1.grew hg1 hgb2
    go_ret2
    exact ⟨v2, rfl, hown2, hg2⟩
  · unfold strE strW
    rw [hl, if_neg h, if_neg h]
    go_enter Tryz.func75, Tryz.ntmps75
    go_wp2
    go_ret2
    exact ⟨_, rfl, Own.nil _ _, Gr.refl _⟩
end Go.Proofs.YtocijpeminghoaaGreatDoor
namespace Go.Proofs.YtocijpeminghoaaGreatDoor
open Go.RowKit
set_option maxRecDepth 100000
set_option linter.unusedVariables false
set_option linter.unusedSimpArgs false

/-- Nothing has turned but block B and rows of bytes at or above N. -/
structure Fb (N B : Nat) (w w' : World) : Prop where
  os : w'.os = w.os
  tape : w'.tape = w.tape
  output : w'.output = w.output
  size : w.heap.size ≤ w'.heap.size
  blk : ∀ k o, w.heap[k]? = some o → k ≠ B → (k < N ∨ ∀ c f, o ≠ .cells c 5 f) → w'.heap[k]? = some o

theorem Fb.refl (N B : Nat) (w : World) : Fb N B w w := ⟨rfl, rfl, rfl, Nat.le_refl _, fun _ _ h _ _ => h⟩
theorem Fb.trans {N B : Nat} {a b c : World} (h : Fb N B a b) (k : Fb N B b c) : Fb N B a c :=
  ⟨k.os.trans h.os, k.tape.trans h.tape, k.output.trans h.output, Nat.le_trans h.size k.size, fun i o ho hb hx => k.blk i o (h.blk i o ho hb hx) hb hx⟩
theorem Fb.gr {a b : World} (h : Gr a b) (N B : Nat) : Fb N B a b := ⟨h.b.os, h.b.tape, h.b.output, h.b.size, fun i o ho _ _ => h.blk ho⟩
theorem Fb.grown {a b : World} {N B : Nat} {v : Value} {l : List UInt8} (hown : Own a N v l) (h : a.grownBy b v.ownBlock) : Fb N B a b := by
  refine ⟨h.os, h.tape, h.output, h.size, fun k o ho hb hx => ?_⟩
  have hk : k < a.heap.size := (Array.getElem?_eq_some_iff.1 ho).1
  by_cases he : v.ownBlock = some k
  · exfalso
    rcases hown.form with ⟨rfl, _⟩ | ⟨g, cap, cur, rfl, h2, h3, _⟩
    · simp [Value.ownBlock] at he
    · simp [Value.ownBlock] at he
      subst he
      rw [h3] at ho
      rcases hx with hx | hx
      · omega
      · exact hx cur (0, 0) (Option.some.inj ho).symm
  · rw [h.block k hk (fun e => he e.symm)]; exact ho
theorem Fb.set {a : World} {N B : Nat} (u : Value) : Fb N B a (a.setCell ⟨B, 0, none⟩ u) :=
  ⟨rfl, rfl, rfl, by simp, fun k o ho hb _ => heap_set_other ho _ _ (fun e => hb e.symm)⟩
theorem Fb.toGr {w0 a b : World} {N B : Nat} (hg : Gr w0 a) (h : Fb N B a b) (hN : w0.heap.size ≤ N) (hB : w0.heap.size ≤ B) : Gr w0 b := by
  refine ⟨⟨h.os.trans hg.b.os, h.tape.trans hg.b.tape, h.output.trans hg.b.output, Nat.le_trans hg.b.size h.size, fun k hk => ?_⟩⟩
  have hk2 : k < w0.heap.size := hk
  have h1 := hg.b.block k hk
  rw [← h1]
  have hka : k < a.heap.size := Nat.lt_of_lt_of_le hk2 hg.b.size
  rw [h.blk k a.heap[k] (Array.getElem?_eq_getElem hka) (by omega) (.inl (by omega)), Array.getElem?_eq_getElem hka]

theorem Own.slice {a : World} {N : Nat} {v : Value} {l : List UInt8} (h : Own a N v l) : ∃ (q : Option Addr) (n c : Nat), v = .slice q n c := by
  rcases h.form with ⟨rfl, _⟩ | ⟨g, cap, cur, rfl, _⟩
  · exact ⟨_, _, _, rfl⟩
  · exact ⟨_, _, _, rfl⟩

theorem numT_length {n : Nat} (h : n ≤ 9007199254740991) : (numT n).length ≤ 8 := by
  have := numD_le7 h
  simp [numT]; omega
theorem numW_length (n : Int) : (numW n).length ≤ 8 := by
  unfold numW
  split
  · exact numT_length (by omega)
  · simp
theorem numWs_length : ∀ ns : List Int, (ns.flatMap numW).length ≤ 8 * ns.length
  | [] => by simp
  | n :: ns => by
    have := numW_length n
    have := numWs_length ns
    simp at this ⊢; omega
theorem numWs_take (L : List UInt8) (ns : List Int) (k : Nat) (h : k < ns.length) : L ++ (ns.take (k + 1)).flatMap numW = (L ++ (ns.take k).flatMap numW) ++ numW ns[k] := by
  rw [List.take_succ_eq_append_getElem h, List.flatMap_append]
  simp

theorem strW_length (s : List UInt8) : (strW s).length ≤ 72 := by
  unfold strW
  split
  · have := numT_length (n := s.length) (by omega)
    simp; omega
  · simp

end Go.Proofs.YtocijpeminghoaaGreatDoor
