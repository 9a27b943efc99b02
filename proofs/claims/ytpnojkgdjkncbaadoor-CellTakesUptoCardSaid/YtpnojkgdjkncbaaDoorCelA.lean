/- Contracts of layer 1's writing half: Reverse, Num, Str. -/
import Derived.Test.YtpnojkgdjkncbaaDoorBy
import Derived.Test.YtpnojkgdjkncbaaDoorCelP
import Derived.Deep.LoopGhost
import Derived.Lib.Walk
import Derived.Sort.WalkB12
import Derived.Lib.SlicesMore
import Derived.Shelf.RegionOpenPlain
namespace Go.Proofs.YtpnojkgdjkncbaaDoor
open Go.RowKit Go.Lib Go.Sort
set_option maxRecDepth 100000
set_option linter.unusedVariables false
set_option linter.unusedSimpArgs false

theorem putCells_take (l : List UInt8) (cur : Array Value) (h : l.length ≤ cur.size) : (putCells byteV 0 l.toArray cur).toList.take l.length = (nums l).map (Value.int .u8) := by
  apply List.ext_getElem?
  intro j
  rw [List.getElem?_take]
  split
  · rename_i hj
    simp [putCells, nums, byteV, hj, List.getElem?_eq_getElem hj, show j < cur.size by omega]
  · rename_i hj
    exact (List.getElem?_eq_none (by simp [nums]; omega)).symm

theorem own_put {w : World} {N g n : Nat} {l l' : List UInt8} {cap : Nat} {cur : Array Value} (hl : l'.length = l.length) (hN : N ≤ g) (hg : w.heap[g]? = some (.cells cur 5 (0, 0))) (hc : l.length ≤ cap) (hm : cap ≤ maxLen) (hs : cur.size = cap) :
    Own (putRow byteV (Sort.ahead w n) g 0 l'.toArray) N (.slice (some ⟨g, 0, none⟩) l.length cap) l' ∧ w.grownBy (putRow byteV (Sort.ahead w n) g 0 l'.toArray) (some g) := by
  refine ⟨⟨by simp, .inr ⟨g, cap, putCells byteV 0 l'.toArray cur, by rw [nums_length, hl], hN, ?_, by rw [nums_length]; omega, hm, by simp [putCells, hs], ?_⟩⟩, ⟨rfl, rfl, rfl, by simp, fun k hk hne => ?_⟩⟩
  · simp [putRow, mapBlock, Array.getElem?_modify, hg, onCells]
  · rw [nums_length, Nat.mul_one, putCells_take]; omega
  · have : g ≠ k := fun e => hne (by rw [e])
    simp [putRow, mapBlock, Array.getElem?_modify, this]

theorem own_holds {w : World} {g : Nat} {l : List UInt8} {cur : Array Value} (hg : w.heap[g]? = some (.cells cur 5 (0, 0))) (ht : cur.toList.take l.length = (nums l).map (Value.int .u8)) : Holds byteV w g 0 l.toArray := by
  intro j hj
  simp at hj
  have e : (cur.toList.take l.length)[j]? = ((nums l).map (Value.int .u8))[j]? := by rw [ht]
  rw [List.getElem?_take, if_pos hj] at e
  simp only [nums, List.map_map, List.getElem?_map, List.getElem?_eq_getElem hj, Option.map_some, Array.getElem?_toList] at e
  refine ⟨?_, ?_⟩
  · simp only [World.cell?, hg, Nat.zero_add]
    simp [e, byteV, hj]
  · simp [World.frozen?, hg]

set_option maxHeartbeats 1600000 in
set_option maxRecDepth 1000000 in
theorem reverse_arr (blk off cap : Nat) (d : Array UInt8) (w : World) (hH : Holds byteV w blk off d) (hsz : d.size ≤ 9223372036854775807) :
    Calls Tryd.prog 105 #[.slice (some ⟨blk, off, none⟩) d.size cap] w fun e w' => e = .returned (.tuple #[]) ∧ ∃ n, w' = putRow byteV (Sort.ahead w n) blk off d.reverse := by
  go_enter Tryd.func105, Tryd.ntmps105
  go_wp2
  go_loopg [2, 3] d.size (fun k s2 s3 wr => ∃ (i jn : Nat) (jz : Int) (dk : Array UInt8) (n : Nat), s2 = .int .i64 i ∧ s3 = .int .i64 jz ∧ ((i : Int) < jz → jz = jn ∧ jn < d.size) ∧ (¬ (i : Int) < jz → ¬ i < jn) ∧ jn - i ≤ k ∧
    dk.size = d.size ∧ wr = putRow byteV (Sort.ahead w n) blk off dk ∧ reverseLoop i jn dk = reverseLoop 0 (d.size - 1) d)
  case atStart => exact ⟨0, d.size - 1, (d.size : Int) - 1, d, 0, rfl, rfl, fun h => ⟨by omega, by omega⟩, fun h => by omega, by omega, rfl, (putRow_self byteV w blk off d hH).symm, rfl⟩
  case round =>
    obtain ⟨i, jn, jz, dk, n, rfl, rfl, h1, h2, hk, hds, hwr, heq⟩ := hrel
    by_cases hlt : (i : Int) < jz
    · obtain ⟨rfl, hjn⟩ := h1 hlt
      have hij : i < jn := by omega
      have hHk : Holds byteV wr blk off dk := by rw [hwr]; exact holds_putRow byteV _ blk off d dk (holds_ahead byteV w n blk off d hH) hds
      obtain ⟨ci, fi⟩ := hHk i (by omega)
      obtain ⟨cj, fj⟩ := hHk jn (by omega)
      have hid : i < d.size := by omega
      simp only [byteV] at ci cj
      have A := Lib.hid hwr
      clear hwr hHk hH h1 h2
      go_wp2_with fail
      go_region
      go_wp2
      go_roundg (jn - 1 - (i + 1))
      case measure => omega
      case rel =>
        rw [reverseLoop, if_pos hij] at heq
        exact ⟨i + 1, jn - 1, (jn : Int) - 1, swp dk i jn, n + 1, by simp, rfl, fun h => ⟨by omega, by omega⟩, fun h => by omega, Nat.le_refl _, by rw [size_swp]; exact hds,
          swap_world byteV (by omega) (by omega) A.out (by first | rfl | simp [byteV, getElem!_pos, show jn < dk.size by omega]) (by first | rfl | simp [byteV, getElem!_pos, show i < dk.size by omega]), heq⟩
    · have hnot := h2 hlt
      go_wp2
      go_end0
      refine ⟨rfl, n, ?_⟩
      rw [reverseLoop, if_neg hnot] at heq
      rw [← Lib.reverseLoop_reverse, ← heq]

set_option maxHeartbeats 1600000 in
theorem reverse_nil (w : World) :
    Calls Tryd.prog 105 #[.slice none 0 0] w fun e w' => e = .returned (.tuple #[]) ∧ w' = w := by
  go_enter Tryd.func105, Tryd.ntmps105
  go_wp2
  go_loopg [2, 3] 0 (fun _ s2 s3 wr => s2 = .int .i64 0 ∧ s3 = .int .i64 (-1) ∧ wr = w)
  case atStart => exact ⟨rfl, rfl, rfl⟩
  case round =>
    obtain ⟨rfl, rfl, rfl⟩ := hrel
    go_wp2
    go_end0
    exact ⟨rfl, rfl⟩

theorem reverse_own {w : World} {N : Nat} {v : Value} {l : List UInt8} (h : Own w N v l) (hl : l.length ≤ 1000000) :
    Calls Tryd.prog 105 #[v] w fun e w' => e = .returned (.tuple #[]) ∧ Own w' N v l.reverse ∧ w.grownBy w' v.ownBlock := by
  rcases h.form with ⟨rfl, rfl⟩ | ⟨g, cap, cur, rfl, h2, h3, h4, h5, h6, h7⟩
  · refine (reverse_nil w).mono ?_
    rintro e w' ⟨rfl, rfl⟩
    exact ⟨rfl, h, grownBy_refl _ _⟩
  · have hr := reverse_arr g 0 cap l.toArray w (own_holds h3 h7) (by simp; omega)
    simp only [List.size_toArray] at hr
    refine hr.mono ?_
    rintro e w' ⟨rfl, n, rfl⟩
    have hp := own_put (n := n) (l' := l.reverse) (l := l) (by simp) h2 h3 h4 h5 h6
    rw [show l.toArray.reverse = l.reverse.toArray by simp]
    exact ⟨rfl, hp.1, hp.2⟩

end Go.Proofs.YtpnojkgdjkncbaaDoor
