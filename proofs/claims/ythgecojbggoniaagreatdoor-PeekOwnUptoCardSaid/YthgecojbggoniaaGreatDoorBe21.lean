/- What the rows stand on, part 21: PekA. Printed by bundle.py out of my texts. -/
import Derived.Test.YthgecojbggoniaaGreatDoorBe16
import Derived.Test.YthgecojbggoniaaGreatDoorBe17
import Derived.Test.YthgecojbggoniaaGreatDoorBe18
import Derived.Test.YthgecojbggoniaaGreatDoorBe20
import Derived.BigQuiet
import Derived.RegionTactic
namespace Go.Proofs.YthgecojbggoniaaGreatDoor
open Go.RowKit
set_option maxRecDepth 100000
set_option linter.unusedVariables false
set_option linter.unusedSimpArgs false
set_option linter.unnecessarySimpa false

structure Tx where
  id : Int
  ep : Int
  pr : Int
  an : ByteArray
  rw : Int
  rl : Int
  ww : Int
  wl : Int
  lw : Int
  ll : Int
  bw : Int
  bl : Int
def txC (x : Tx) : Array Value := #[.int .i64 x.id, .int .i64 x.ep, .int .i64 x.pr, .string x.an, .int .i64 x.rw, .int .i64 x.rl, .int .i64 x.ww, .int .i64 x.wl, .int .i64 x.lw, .int .i64 x.ll, .int .i64 x.bw, .int .i64 x.bl]
def topS (x : Tx) : Int × Int := if lessS x.rw x.rl x.lw x.ll = true then (x.lw, x.ll) else (x.rw, x.rl)
def idsB (x : Tx) : Bool := decide (1 ≤ x.id ∧ x.id ≤ 9007199254740991 ∧ 0 ≤ x.ep ∧ x.ep ≤ 9007199254740991)
def mayT (x : Tx) : Bool := idsB x && (mayB x.rw x.rl && mayB x.lw x.ll)
def beginsE (ok : Bool) (x : Tx) (a b : Int) : Int := if (!ok || !(mayT x && mayB a b)) = true then 2 else if (!lessS a b x.rw x.rl) = true then 122 else 0
theorem pkFn_any (a b : Int) (w : World) : Calls Tryz.prog 60 #[.agg #[.int .i64 a, .int .i64 b]] w fun e w' => e = .returned (.bool (!mayB a b)) ∧ Gr w w' := by
  have hck : ∀ w, Calls Tryz.prog 61 #[.agg #[.int .i64 a, .int .i64 b]] w fun e w' => e = .returned (.int .i64 (stampCk a b)) ∧ Gr w w' := fun w => stampCheck_ck a b w
  have H := Lib.hid hck
  clear hck
  have hX := heap_alloc_new w (.cells #[.int .i64 a, .int .i64 b] 26)
  obtain ⟨k_0, k_1, g_0, g_1, l_0⟩ := blk2 hX
  clear hX
  cases h : mayB a b with
  | true =>
    have hs : stampCk a b = 0 := by simp [stampCk, h]
    go_enter Tryz.func60, Tryz.ntmps60
    go_wp2_with (go_at_call 61; refine (H.out _).mono ?_; rintro e w1 ⟨rfl, hg1⟩)
    go_ret
    exact ⟨rfl, (by repeat (first | (with_reducible exact Gr.refl _) | (with_reducible assumption) | (with_reducible refine Gr.alloc ?_ _) | (with_reducible refine Gr.drew ?_) | (with_reducible refine Gr.drewN ?_ _) | (with_reducible refine Gr.trans ?_ (by assumption)) | (with_reducible refine Gr.setCell ?_ (by first | exact Nat.le_refl _ | omega | (simp; done) | (simp; omega)) _)))⟩
  | false =>
    have hs : stampCk a b = 9 := by simp [stampCk, h]
    go_enter Tryz.func60, Tryz.ntmps60
    go_wp2_with (go_at_call 61; refine (H.out _).mono ?_; rintro e w1 ⟨rfl, hg1⟩)
    go_ret
    exact ⟨rfl, (by repeat (first | (with_reducible exact Gr.refl _) | (with_reducible assumption) | (with_reducible refine Gr.alloc ?_ _) | (with_reducible refine Gr.drew ?_) | (with_reducible refine Gr.drewN ?_ _) | (with_reducible refine Gr.trans ?_ (by assumption)) | (with_reducible refine Gr.setCell ?_ (by first | exact Nat.le_refl _ | omega | (simp; done) | (simp; omega)) _)))⟩

theorem pkStamps_cell {w : World} {bl : Nat} {ps : List (Int × Int)} (h : w.heap[bl]? = some (.cells (stampsCells ps).toArray 26)) {k : Nat} (hk : k < ps.length) :
    w.cell? ⟨bl, k * 2, none⟩ = some (.int .i64 ps[k].1) ∧ w.cell? ⟨bl, k * 2 + 1, none⟩ = some (.int .i64 ps[k].2) := by
  obtain ⟨x1, x2⟩ := stampsCells_get ps k hk
  exact ⟨by simp only [World.cell?, h]; simpa using x1, by simp only [World.cell?, h]; simpa using x2⟩

set_option maxHeartbeats 1000000 in
theorem pkIndex_any {w : World} (bl c : Nat) (ps : List (Int × Int)) (hbl : w.heap[bl]? = some (.cells (stampsCells ps).toArray 26)) (hlen : ps.length ≤ 1000000) :
    Calls Tryz.prog 87 #[.slice (some ⟨bl, 0, none⟩) ps.length c, .func (.func 60) #[] #[]] w fun e w' => ∃ z : Int, e = .returned (.int .i64 z) ∧ Hid (decide (0 ≤ z) = !(ps.all fun p => mayB p.1 p.2)) ∧ Gr w w' := by
  have HB := Lib.hid hbl
  have hlt : bl < w.heap.size := (Array.getElem?_eq_some_iff.1 hbl).1
  clear hbl
  go_enter Tryz.func87, Tryz.ntmps87
  go_wp2
  go_loopw [8] (fun i wr => ∃ k : Nat, k ≤ ps.length ∧ i = .int .i64 k ∧ Hid ((ps.take k).all (fun p => mayB p.1 p.2) = true) ∧ Gr w wr) (fun i _ => ps.length - (intOf i).toNat)
  case atStart => exact ⟨0, Nat.zero_le _, rfl, Lib.hid rfl, (by repeat (first | (with_reducible exact Gr.refl _) | (with_reducible assumption) | (with_reducible refine Gr.alloc ?_ _) | (with_reducible refine Gr.drew ?_) | (with_reducible refine Gr.drewN ?_ _) | (with_reducible refine Gr.trans ?_ (by assumption)) | (with_reducible refine Gr.setCell ?_ (by first | exact Nat.le_refl _ | omega | (simp; done) | (simp; omega)) _)))⟩
  case round =>
    obtain ⟨k, hk, rfl, HP, hg⟩ := hrel
    by_cases hlt2 : k < ps.length
    · obtain ⟨c1, c2⟩ := pkStamps_cell (hg.blk HB.out) hlt2
      cases hm : mayB ps[k].1 ps[k].2 with
      | true =>
        have HM := Lib.hid hm
        clear hm
        go_wp2_with (go_at_call 60; refine (pkFn_any _ _ _).mono ?_; rintro e w1 ⟨rfl, hg1⟩; have hm := HM.out)
        go_roundw
        case rel => exact ⟨k + 1, by omega, by go_num, Lib.hid (by rw [List.take_succ_eq_append_getElem hlt2, List.all_append, HP.out]; simp [HM.out]), (by repeat (first | (with_reducible exact Gr.refl _) | (with_reducible assumption) | (with_reducible refine Gr.alloc ?_ _) | (with_reducible refine Gr.drew ?_) | (with_reducible refine Gr.drewN ?_ _) | (with_reducible refine Gr.trans ?_ (by assumption)) | (with_reducible refine Gr.setCell ?_ (by first | exact Nat.le_refl _ | omega | (simp; done) | (simp; omega)) _)))⟩
        case measure => simp [intOf]; omega
      | false =>
        have HM := Lib.hid hm
        clear hm
        go_wp2_with (go_at_call 60; refine (pkFn_any _ _ _).mono ?_; rintro e w1 ⟨rfl, hg1⟩; have hm := HM.out)
        go_ret
        refine ⟨_, rfl, Lib.hid ?_, (by repeat (first | (with_reducible exact Gr.refl _) | (with_reducible assumption) | (with_reducible refine Gr.alloc ?_ _) | (with_reducible refine Gr.drew ?_) | (with_reducible refine Gr.drewN ?_ _) | (with_reducible refine Gr.trans ?_ (by assumption)) | (with_reducible refine Gr.setCell ?_ (by first | exact Nat.le_refl _ | omega | (simp; done) | (simp; omega)) _)))⟩
        have : (ps.all fun p => mayB p.1 p.2) = false := by
          rw [List.all_eq_false]
          exact ⟨ps[k], List.getElem_mem _, by simp [HM.out]⟩
        rw [this]; simp
    · obtain rfl : k = ps.length := by omega
      go_wp2
      go_ret
      refine ⟨_, rfl, Lib.hid ?_, hg⟩
      have := HP.out
      rw [List.take_length] at this
      rw [this]; rfl

theorem pkContains_any {w : World} (bl c : Nat) (ps : List (Int × Int)) (hbl : w.heap[bl]? = some (.cells (stampsCells ps).toArray 26)) (hlen : ps.length ≤ 1000000) :
    Calls Tryz.prog 59 #[.slice (some ⟨bl, 0, none⟩) ps.length c, .func (.func 60) #[] #[]] w fun e w' => e = .returned (.bool (!(ps.all fun p => mayB p.1 p.2))) ∧ Gr w w' := by
  have H := Lib.hid (pkIndex_any bl c ps hbl hlen)
  clear hbl
  go_enter Tryz.func59, Tryz.ntmps59
  go_wp2_with (go_at_call 87; refine H.out.mono ?_; rintro e w1 ⟨z, rfl, hz, hg1⟩)
  go_ret
  exact ⟨by rw [← hz.out]; rfl, hg1⟩


theorem maxStamp {a b c d x y : Int} (hx : x = if lessS a b c d = true then c else a) (hy : y = if lessS a b c d = true then d else b) (w : World) {g : Nat} (hg : w.heap[g]? = some (.cells #[.int .i64 a, .int .i64 b, .int .i64 c, .int .i64 d] 26)) :
    Calls Tryz.prog 43 #[.slice (some ⟨g, 0, none⟩) 2 2] w fun e w' => e = .returned (.agg #[.int .i64 x, .int .i64 y]) ∧ Gr w w' := by
  have hlen : ∀ W ty, (Builtin.len_ #[120] ty #[.slice (some ⟨g, 0, none⟩) 2 2]).run Tryz.prog W = .ok (.int .i64 2) W := fun W ty => by simp [Builtin.len_, run_underlying Tryz.underlying120, go_sem]
  have HM := Lib.hid (maxS_any hx hy (w.alloc (.cells #[.int .i64 0, .int .i64 0] 26)) (((Gr.refl w).alloc _).blk hg))
  clear hg hx hy
  go_enter Tryz.func43, Tryz.ntmps43
  go_wp2_with fail
  refine HM.out.mono ?_
  rintro e w1 ⟨rfl, hg1⟩
  have H0 := Lib.hid (hg1.blk (heap_alloc_new w (.cells #[.int .i64 0, .int .i64 0] 26)))
  have HG := Lib.hid (((Gr.refl w).alloc _).trans hg1)
  clear hg1
  obtain ⟨i_0, i_1, if_0, if_1, _⟩ := blk2 H0.out
  have HS := Lib.hid (heap_set (heap_set H0.out 0 (.int .i64 x)) 1 (.int .i64 y))
  have HGs := Lib.hid ((HG.out.setCell (p := ⟨w.heap.size, 0, none⟩) (Nat.le_refl _) (.int .i64 x)).setCell (p := ⟨w.heap.size, 1, none⟩) (Nat.le_refl _) (.int .i64 y))
  go_wp2
  refine bodyPost_ret (v := .agg #[.int .i64 x, .int .i64 y]) ?_ rfl ⟨rfl, HGs.out⟩
  exact results_cell_row rfl _ _ _ _ _ _ _ rfl HS.out Tryz.underlying26 rfl (by kernel_rfl)
set_option maxHeartbeats 2000000 in
theorem top_any (x : Tx) (w : World) : Calls Tryz.prog 16 #[.agg (txC x)] w fun e w' => e = .returned (.agg #[.int .i64 (topS x).1, .int .i64 (topS x).2]) ∧ Gr w w' := by
  have hx : (topS x).1 = if lessS x.rw x.rl x.lw x.ll = true then x.lw else x.rw := by unfold topS; split <;> rfl
  have hy : (topS x).2 = if lessS x.rw x.rl x.lw x.ll = true then x.ll else x.rl := by unfold topS; split <;> rfl
  obtain ⟨m, hm⟩ : ∃ m, (topS x).1 = m := ⟨_, rfl⟩
  obtain ⟨n, hn⟩ : ∃ n, (topS x).2 = n := ⟨_, rfl⟩
  rw [hm] at hx ⊢
  rw [hn] at hy ⊢
  obtain ⟨W1, hW1⟩ : ∃ W1, W1 = (w.alloc (.cells (txC x) 28)).alloc (.cells #[.int .i64 0, .int .i64 0] 26) := ⟨_, rfl⟩
  have HM := Lib.hid (maxStamp hx hy (W1.alloc (.cells #[.int .i64 x.rw, .int .i64 x.rl, .int .i64 x.lw, .int .i64 x.ll] 26)) (heap_alloc_new W1 _))
  have hz : W1.heap.size = w.heap.size + 1 + 1 := by rw [hW1]; simp
  rw [hz] at HM
  have H1 : Hid (W1.heap[w.heap.size + 1]? = some (.cells #[.int .i64 0, .int .i64 0] 26)) := Lib.hid (by rw [hW1]; exact heap_newn (by simp))
  have HG1 : Hid (Gr w W1) := Lib.hid (by rw [hW1]; exact ((Gr.refl w).alloc _).alloc _)
  unfold txC at hW1 ⊢
  have HW1 := Lib.hid hW1
  clear hx hy hm hn hz hW1
  go_enter Tryz.func16, Tryz.ntmps16
  go_wp2_with fail
  rw [← HW1.out]
  refine HM.out.mono ?_
  rintro e w1 ⟨rfl, hg1⟩
  have H0 := Lib.hid (hg1.blk (((Gr.refl _).alloc _).blk H1.out))
  have HG := Lib.hid ((HG1.out.alloc _).trans hg1)
  clear hg1
  obtain ⟨i_0, i_1, if_0, if_1, _⟩ := blk2 H0.out
  have HS := Lib.hid (heap_set (heap_set H0.out 0 (.int .i64 m)) 1 (.int .i64 n))
  have HGs := Lib.hid ((HG.out.setCell (p := ⟨w.heap.size + 1, 0, none⟩) (by simp) (.int .i64 m)).setCell (p := ⟨w.heap.size + 1, 1, none⟩) (by simp) (.int .i64 n))
  go_wp2
  refine bodyPost_ret (v := .agg #[.int .i64 m, .int .i64 n]) ?_ rfl ⟨rfl, HGs.out⟩
  exact results_cell_row rfl _ _ _ _ _ _ _ rfl HS.out Tryz.underlying26 rfl (by kernel_rfl)
end Go.Proofs.YthgecojbggoniaaGreatDoor
