/- What the rows stand on, part 07: StmA. Printed by bundle.py out of my texts. -/
import Derived.Test.YthgecojbggoniaaGreatDoorBe03
import Derived.Test.YthgecojbggoniaaGreatDoorBe06
namespace Go.Proofs.YthgecojbggoniaaGreatDoor
open Go.RowKit
set_option maxRecDepth 100000
set_option linter.unusedVariables false
set_option linter.unusedSimpArgs false
set_option linter.unnecessarySimpa false

def cmpI (a b : Int) : Int := if a < b then -1 else if b < a then 1 else 0
theorem compareI (a b : Int) (w : World) : Calls Tryz.prog 100 #[.int .i64 a, .int .i64 b] w fun e w' => e = .returned (.int .i64 (cmpI a b)) ∧ w = w' := by
  go_enter Tryz.func100, Tryz.ntmps100
  go_wp2_with (go_at_call 120; refine (Tryz.cmp_isNaN_int2 _ _).mono ?_; rintro e w1 ⟨rfl, rfl⟩)
  all_goals (go_ret; exact ⟨ret_int (by unfold cmpI; split <;> (try split) <;> omega), rfl⟩)
def orV (x y : Int) : Int := if x = 0 then y else x
theorem orI {b : Nat} (x y : Int) {w : World} (h : w.heap[b]? = some (.cells #[.int .i64 x, .int .i64 y] 3)) : Calls Tryz.prog 99 #[.slice (some ⟨b, 0, none⟩) 2 2] w fun e w' => e = .returned (.int .i64 (orV x y)) ∧ w = w' := by
  obtain ⟨k_0, k_1, g_0, g_1, l_0⟩ := blk2 h
  clear h
  have hlen : ∀ W ty, (Builtin.len_ #[180] ty #[.slice (some ⟨b, 0, none⟩) 2 2]).run Tryz.prog W = .ok (.int .i64 2) W := fun W ty => by simp [Builtin.len_, run_underlying Tryz.underlying180, go_sem]
  by_cases hx : x = 0
  · subst hx
    by_cases hy : y = 0
    · subst hy
      go_enter Tryz.func99, Tryz.ntmps99
      go_wp2
      go_loopw [8] (fun iv wr => ∃ k : Nat, iv = .int .i64 k ∧ k ≤ 2 ∧ wr = w) (fun iv _ => 2 - (intOf iv).toNat)
      case atStart => exact ⟨0, rfl, by omega, rfl⟩
      case round =>
        obtain ⟨k, rfl, hk, rfl⟩ := hrel
        obtain rfl | rfl | rfl : k = 0 ∨ k = 1 ∨ k = 2 := by omega
        · go_wp2
          go_roundw
          case rel => exact ⟨1, by go_num, by omega, by first | rfl | trivial⟩
          case measure => simp [intOf]
        · go_wp2
          go_roundw
          case rel => exact ⟨2, by go_num, by omega, by first | rfl | trivial⟩
          case measure => simp [intOf]
        · go_wp2
          go_ret
          exact ⟨ret_int (by simp [orV]), by first | rfl | trivial⟩
    · have hy1 : (y != 0) = true := by simpa using hy
      go_enter Tryz.func99, Tryz.ntmps99
      go_wp2
      go_loopw [8] (fun iv wr => ∃ k : Nat, iv = .int .i64 k ∧ k ≤ 1 ∧ wr = w) (fun iv _ => 2 - (intOf iv).toNat)
      case atStart => exact ⟨0, rfl, by omega, rfl⟩
      case round =>
        obtain ⟨k, rfl, hk, rfl⟩ := hrel
        obtain rfl | rfl : k = 0 ∨ k = 1 := by omega
        · go_wp2
          go_roundw
          case rel => exact ⟨1, by go_num, by omega, by first | rfl | trivial⟩
          case measure => simp [intOf]
        · go_wp2
          go_ret
          exact ⟨ret_int (by simp [orV]), by first | rfl | trivial⟩
  · have hx1 : (x != 0) = true := by simpa using hx
    go_enter Tryz.func99, Tryz.ntmps99
    go_wp2
    go_loopw [8] (fun iv wr => iv = .int .i64 0 ∧ wr = w) (fun iv _ => 2 - (intOf iv).toNat)
    case atStart => exact ⟨rfl, rfl⟩
    case round =>
      obtain ⟨rfl, rfl⟩ := hrel
      go_wp2
      go_ret
      exact ⟨ret_int (by simp [orV, hx]), by first | rfl | trivial⟩
def cmpS (a b c d : Int) : Int := orV (cmpI a c) (cmpI b d)
set_option maxHeartbeats 4000000 in
theorem compareS (a b c d : Int) (w : World) : Calls Tryz.prog 72 #[.agg #[.int .i64 a, .int .i64 b], .agg #[.int .i64 c, .int .i64 d]] w fun e w' => e = .returned (.int .i64 (cmpS a b c d)) ∧ Gr w w' := by
  go_enter Tryz.func72, Tryz.ntmps72
  go_wp2
  have HG : Hid (Gr w ((w.alloc (.cells #[.int .i64 a, .int .i64 b] 26)).alloc (.cells #[.int .i64 c, .int .i64 d] 26))) := Lib.hid (((Gr.refl w).alloc _).alloc _)
  obtain ⟨a_0, a_1, a_f, a_g, a_h⟩ := blk2 (((Gr.refl _).alloc (.cells #[.int .i64 c, .int .i64 d] 26)).blk (heap_alloc_new w (.cells #[.int .i64 a, .int .i64 b] 26)))
  obtain ⟨c_0, c_1, c_f, c_g, c_h⟩ := blk2 (heap_alloc_new (w.alloc (.cells #[.int .i64 a, .int .i64 b] 26)) (.cells #[.int .i64 c, .int .i64 d] 26))
  rw [World.size_alloc] at c_0 c_1
  clear a_f a_g a_h c_f c_g c_h
  generalize (w.alloc (.cells #[.int .i64 a, .int .i64 b] 26)).alloc (.cells #[.int .i64 c, .int .i64 d] 26) = W at *
  generalize w.heap.size = n0 at *
  have F1 : ∀ w' : World, w' = W.drew → w'.cell? ⟨n0, 0, none⟩ = some (.int .i64 a) := fun w' h => by rw [h]; exact a_0
  have F2 : ∀ w' : World, w' = W.drew → w'.cell? ⟨n0, 1, none⟩ = some (.int .i64 b) := fun w' h => by rw [h]; exact a_1
  have F3 : ∀ w' : World, w' = W.drew → w'.cell? ⟨n0 + 1, 0, none⟩ = some (.int .i64 c) := fun w' h => by rw [h]; exact c_0
  have F4 : ∀ w' : World, w' = W.drew → w'.cell? ⟨n0 + 1, 1, none⟩ = some (.int .i64 d) := fun w' h => by rw [h]; exact c_1
  clear a_0 a_1 c_0 c_1
  refine wp_region_T (S := fun w' => w' = W.drew) [10, 11, 12] (by kernel_rfl) rfl (fun hHeld => ?_)
  try dsimp only at hHeld
  refine wpAnyT_take (i := 0) rfl (by kernel_rfl) (by kernel_rfl) (by kernel_rfl) (by kernel_rfl) (fun _ _ _ h => h) (Or.inl ⟨by rfl, by intro w hSw; (try dsimp only at hSw); go_simp; (try with_reducible rfl)⟩) (by assumption) ?_; (try simp only [Act.put, List.setIfInBounds_toArray, List.set_cons_zero, List.set_cons_succ, List.getElem_toArray, List.getElem_cons_zero, List.getElem_cons_succ])
  refine wpAnyT_take (i := 1) rfl (by kernel_rfl) (by kernel_rfl) (by kernel_rfl) (by kernel_rfl) (fun _ _ _ h => h) (Or.inl ⟨by rfl, by intro w hSw; (try dsimp only at hSw); go_simp; (try with_reducible rfl)⟩) (by assumption) ?_; (try simp only [Act.put, List.setIfInBounds_toArray, List.set_cons_zero, List.set_cons_succ, List.getElem_toArray, List.getElem_cons_zero, List.getElem_cons_succ])
  refine wpAnyT_take (i := 2) rfl (by kernel_rfl) (by kernel_rfl) (by kernel_rfl) (by kernel_rfl) (fun _ _ _ h => h) (Or.inl ⟨by rfl, by intro w hSw; (try dsimp only at hSw); go_simp; (try with_reducible rfl)⟩) (by assumption) ?_; (try simp only [Act.put, List.setIfInBounds_toArray, List.set_cons_zero, List.set_cons_succ, List.getElem_toArray, List.getElem_cons_zero, List.getElem_cons_succ])
  refine wpAnyT_take (i := 3) rfl (by kernel_rfl) (by kernel_rfl) (by kernel_rfl) (by kernel_rfl) (fun _ _ _ h => h) (Or.inl ⟨by rfl, by intro w hSw; (try dsimp only at hSw); go_simp; (try with_reducible rfl)⟩) (by assumption) ?_; (try simp only [Act.put, List.setIfInBounds_toArray, List.set_cons_zero, List.set_cons_succ, List.getElem_toArray, List.getElem_cons_zero, List.getElem_cons_succ])
  refine wpAnyT_take (i := 5) rfl (by kernel_rfl) (by kernel_rfl) (by kernel_rfl) (by kernel_rfl) (fun _ _ _ h => h) (Or.inl ⟨by rfl, by intro w hSw; (try dsimp only at hSw); go_simp; (try with_reducible rfl)⟩) (by assumption) ?_; (try simp only [Act.put, List.setIfInBounds_toArray, List.set_cons_zero, List.set_cons_succ, List.getElem_toArray, List.getElem_cons_zero, List.getElem_cons_succ])
  refine wpAnyT_take (i := 6) rfl (by kernel_rfl) (by kernel_rfl) (by kernel_rfl) (by kernel_rfl) (fun _ _ _ h => h) (Or.inl ⟨by rfl, by intro w hSw; (try dsimp only at hSw); go_simp; (try with_reducible rfl)⟩) (by assumption) ?_; (try simp only [Act.put, List.setIfInBounds_toArray, List.set_cons_zero, List.set_cons_succ, List.getElem_toArray, List.getElem_cons_zero, List.getElem_cons_succ])
  refine wpAnyT_take (i := 7) rfl (by kernel_rfl) (by kernel_rfl) (by kernel_rfl) (by kernel_rfl) (fun _ _ _ h => h) (Or.inl ⟨by rfl, by intro w hSw; (try dsimp only at hSw); go_simp; (try with_reducible rfl)⟩) (by assumption) ?_; (try simp only [Act.put, List.setIfInBounds_toArray, List.set_cons_zero, List.set_cons_succ, List.getElem_toArray, List.getElem_cons_zero, List.getElem_cons_succ])
  refine wpAnyT_take (i := 8) rfl (by kernel_rfl) (by kernel_rfl) (by kernel_rfl) (by kernel_rfl) (fun _ _ _ h => h) (Or.inl ⟨by rfl, by intro w hSw; (try dsimp only at hSw); go_simp; (try with_reducible rfl)⟩) (by assumption) ?_; (try simp only [Act.put, List.setIfInBounds_toArray, List.set_cons_zero, List.set_cons_succ, List.getElem_toArray, List.getElem_cons_zero, List.getElem_cons_succ])
  refine wpAnyT_ready (rs := [4]) (by kernel_rfl) (by simp) ?_
  refine AllReadyT.cons rfl (fun K hK => ?_) AllReadyT.nil
  go_simp
  go_wp2_with (go_at_call 100; refine (compareI _ _ _).mono ?_; rintro e u1 ⟨rfl, rfl⟩)
  refine hK.out _ _ rfl (fun _ => ?_)
  clear hK K
  refine wpAnyT_ready (rs := [9]) (by kernel_rfl) (by simp) ?_
  refine AllReadyT.cons rfl (fun K hK => ?_) AllReadyT.nil
  go_simp
  go_wp2_with (go_at_call 100; refine (compareI _ _ _).mono ?_; rintro e u1 ⟨rfl, rfl⟩)
  refine hK.out _ _ rfl (fun _ => ?_)
  clear hK K
  refine wpAnyT_chain [10, 11, 12] (.cons rfl (.cons rfl (.cons rfl .nil))) (by kernel_rfl) (by kernel_rfl) rfl ?_
  clear hHeld F1 F2 F3 F4
  have HO := Lib.hid (orI (cmpI a c) (cmpI b d) (heap_alloc_new W.drew (.cells #[.int .i64 (cmpI a c), .int .i64 (cmpI b d)] 3)))
  have HWd : Hid (Gr w W.drew) := Lib.hid HG.out.drew
  generalize W.drew = W2 at *
  go_wp2_with (go_at_call 99; refine HO.out.mono ?_; rintro e u5 ⟨rfl, rfl⟩)
  go_ret
  exact ⟨rfl, HWd.out.alloc _⟩
def lessS (a b c d : Int) : Bool := decide (a < c) || (decide (a = c) && decide (b < d))
theorem lessS_cmp (a b c d : Int) : decide (cmpS a b c d < 0) = lessS a b c d := by
  unfold cmpS orV cmpI lessS
  by_cases h1 : a < c
  · simp [h1]
  · by_cases h2 : c < a
    · have : ¬ a = c := by omega
      simp [h1, h2, this]
    · have : a = c := by omega
      subst this
      by_cases h3 : b < d
      · simp [h3]
      · by_cases h4 : d < b <;> simp [h3, h4]
theorem less_any (a b c d : Int) (w : World) : Calls Tryz.prog 62 #[.agg #[.int .i64 a, .int .i64 b], .agg #[.int .i64 c, .int .i64 d]] w fun e w' => e = .returned (.bool (lessS a b c d)) ∧ Gr w w' := by
  rw [← lessS_cmp]
  generalize hz : cmpS a b c d = z
  have HC := Lib.hid (fun w => compareS a b c d w)
  rw [hz] at HC
  clear hz
  go_enter Tryz.func62, Tryz.ntmps62
  go_wp2_with (go_at_call 72; refine (HC.out _).mono ?_; rintro e w1 ⟨rfl, hg1⟩)
  go_ret
  exact ⟨rfl, (((Gr.refl w).alloc _).alloc _).trans hg1⟩
end Go.Proofs.YthgecojbggoniaaGreatDoor
