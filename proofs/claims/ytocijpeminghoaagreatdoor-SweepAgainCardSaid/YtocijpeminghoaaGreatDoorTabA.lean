/- Layer 10: tables: the drawing of steps, New. -/
import Derived.Test.YtocijpeminghoaaGreatDoorSkpF
namespace Go.Proofs.YtocijpeminghoaaGreatDoor
open Go.RowKit
set_option maxRecDepth 100000
set_option linter.unusedVariables false
set_option linter.unusedSimpArgs false
set_option linter.unnecessarySimpa false

set_option maxHeartbeats 2000000 in
theorem draw_any {bx : Nat} {x : Int} {w : World} (h : w.heap[bx]? = some (.cells #[.int .u64 x] 125)) :
    Calls Tryz.prog 71 #[.pointer (some ⟨bx, 0, none⟩)] w fun e w' => ∃ (s : Nat) (x' : Int), e = .returned (.int .i64 s) ∧ 1 ≤ s ∧ s ≤ 16 ∧ w' = w.setCell ⟨bx, 0, none⟩ (.int .u64 x') := by
  obtain ⟨k_0, g_0, l_0⟩ := blk1 h
  clear h
  go_enter Tryz.func71, Tryz.ntmps71
  go_wp2
  go_loopw [2, 3] (fun yv nv wr => ∃ (y : Int) (n : Nat) (x' : Int), yv = .int .u64 y ∧ nv = .int .i64 n ∧ 1 ≤ n ∧ n ≤ 16 ∧ wr = w.setCell ⟨bx, 0, none⟩ (.int .u64 x')) (fun _ nv _ => 16 - (intOf nv).toNat)
  case atStart => exact ⟨_, 1, _, rfl, rfl, by omega, by omega, rfl⟩
  case round =>
    obtain ⟨y, n, x', rfl, rfl, h1, h2, rfl⟩ := hrel
    by_cases h16 : n < 16
    · cases hb : (bits BinOp.and IntKind.u64 y 1 == 1) with
      | true =>
        go_wp2
        go_roundw
        case rel => exact ⟨_, n + 1, _, rfl, by go_num, by omega, by omega, rfl⟩
        case measure => simp [intOf]; omega
      | false =>
        go_wp2
        go_ret
        exact ⟨n, x', rfl, h1, h2, rfl⟩
    · obtain rfl : n = 16 := by omega
      go_wp2
      go_ret
      exact ⟨16, x', rfl, h1, h2, rfl⟩
theorem drawing_any (seed : Int) (w : World) :
    Calls Tryz.prog 44 #[.int .i64 seed] w fun e w' => ∃ bx x, e = .returned (.func (.func 71) #[] #[.pointer (some ⟨bx, 0, none⟩)]) ∧ w.heap.size ≤ bx ∧ w'.heap[bx]? = some (.cells #[.int .u64 x] 125) ∧ Gr w w' := by
  go_enter Tryz.func44, Tryz.ntmps44
  go_wp2
  go_ret
  exact ⟨_, _, rfl, Nat.le_refl _, heap_newn rfl, (Gr.refl w).alloc _⟩
structure TabAt (tb : Nat) (S : Nat → Prop) (R : List Rw) (w : World) : Prop where
  ex : ∃ lb H bx L x seed, w.heap[tb]? = some (.cells #[.pointer (some ⟨lb, 0, none⟩), .func (.func 71) #[] #[.pointer (some ⟨bx, 0, none⟩)], .int .i64 seed] 75) ∧
    w.heap[bx]? = some (.cells #[.int .u64 x] 125) ∧ SkipAt lb H S L w ∧ rowsL L = R ∧ S bx ∧ S tb
theorem new_tab (seed : Int) (w : World) :
    Calls Tryz.prog 18 #[.int .i64 seed] w fun e w' => ∃ tb, e = .returned (.pointer (some ⟨tb, 0, none⟩)) ∧ TabAt tb (fun k => w.heap.size ≤ k) [] w' ∧ Gr w w' := by
  go_enter Tryz.func18, Tryz.ntmps18
  go_wp2_with fail
  refine (new_skip w).mono ?_
  rintro e w1 ⟨lb, H, rfl, hsk, hg1⟩
  have HSk := Lib.hid hsk
  have HG1 := Lib.hid hg1
  clear hsk hg1
  go_wp2_with fail
  refine (drawing_any seed w1).mono ?_
  rintro e w2 ⟨bx, x, rfl, hbx, hx, hg2⟩
  have HX := Lib.hid hx
  have HBX := Lib.hid hbx
  have HG2 := Lib.hid hg2
  clear hx hbx hg2
  go_wp2
  go_ret
  refine ⟨_, rfl, ⟨lb, H, bx, [], x, seed, heap_newn rfl, heap_alloc1 HX.out, (HSk.out.gr HG2.out).gr ((Gr.refl _).alloc _), rfl, Nat.le_trans HG1.out.size HBX.out, ?_⟩, (HG1.out.trans HG2.out).alloc _⟩
  exact (HG1.out.trans HG2.out).size
theorem tab_none {tb : Nat} {lv fv : Value} {z : Int} {lb : Nat} {w : World} (h : w.heap[tb]? = some (.cells #[.pointer (some ⟨lb, 0, none⟩), fv, .int .i64 z] 75)) :
    Calls Tryz.prog 30 #[.pointer (some ⟨tb, 0, none⟩)] w fun e w' => e = .returned (.bool false) ∧ w = w' := by
  obtain ⟨k_0, k_1, k_2, g_0, g_1, g_2, l_0⟩ := blk3 h
  clear h
  go_enter Tryz.func30, Tryz.ntmps30
  go_wp2
  go_ret
  exact ⟨rfl, rfl⟩
end Go.Proofs.YtocijpeminghoaaGreatDoor
