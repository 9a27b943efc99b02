/- What the rows stand on, part 22: TabA, TabB, Bulk, CelW. Printed by bundle.py out of my texts. -/
import Derived.Test.YthgecojbggoniaaGreatDoorBd01
import Derived.Test.YthgecojbggoniaaGreatDoorBd15
import Derived.Test.YthgecojbggoniaaGreatDoorBd21
import Derived.Deep.RegionWith
import Derived.StillTailTactics
import Derived.Test.YthgecojbggoniaaGreatDoorRows
namespace Go.Proofs.YthgecojbggoniaaGreatDoor
open Go.RowKit
set_option maxRecDepth 100000
set_option linter.unusedVariables false
set_option linter.unusedSimpArgs false
set_option linter.unnecessarySimpa false

set_option maxHeartbeats 2000000 in
theorem draw_any {bx : Nat} {x : Int} {w : World} (h : w.heap[bx]? = some (.cells #[.int .u64 x] 154)) :
    Calls Tryz.prog 83 #[.pointer (some ⟨bx, 0, none⟩)] w fun e w' => ∃ (s : Nat) (x' : Int), e = .returned (.int .i64 s) ∧ 1 ≤ s ∧ s ≤ 16 ∧ w' = w.setCell ⟨bx, 0, none⟩ (.int .u64 x') := by
  obtain ⟨k_0, g_0, l_0⟩ := blk1 h
  clear h
  go_enter Tryz.func83, Tryz.ntmps83
  go_wp2
  go_loopw [2, 3] (fun yv nv wr => ∃ (y : Int) (n : Nat) (x' : Int), yv = .int .u64 y ∧ nv = .int .i64 n ∧ 1 ≤ n ∧ n ≤ 16 ∧ wr = w.setCell ⟨bx, 0, none⟩ (.int .u64 x')) (fun _ nv _ => 16 - (intOf nv).toNat)
  case atStart => exact ⟨_, 1, _, rfl, rfl, by omega, by omega, rfl⟩
  case round =>
    obtain ⟨y, n, x', rfl, rfl, h1, h2, rfl⟩ := hrel
    by_cases h16 : n < 16
    · cases hb : (bits BinOp.and IntKind.u64 y 1 == 1) with
      | true =>
        go_wp2
        go_roundw
        case rel => exact ⟨_, n + 1, _, rfl, by go_num, by omega, by omega, rfl⟩
        case measure => simp [intOf]; omega
      | false =>
        go_wp2
        go_ret
        exact ⟨n, x', rfl, h1, h2, rfl⟩
    · obtain rfl : n = 16 := by omega
      go_wp2
      go_ret
      exact ⟨16, x', rfl, h1, h2, rfl⟩
theorem drawing_any (seed : Int) (w : World) :
    Calls Tryz.prog 54 #[.int .i64 seed] w fun e w' => ∃ bx x, e = .returned (.func (.func 83) #[] #[.pointer (some ⟨bx, 0, none⟩)]) ∧ w.heap.size ≤ bx ∧ w'.heap[bx]? = some (.cells #[.int .u64 x] 154) ∧ Gr w w' := by
  go_enter Tryz.func54, Tryz.ntmps54
  go_wp2
  go_ret
  exact ⟨_, _, rfl, Nat.le_refl _, heap_newn rfl, (Gr.refl w).alloc _⟩
structure TabAt (tb : Nat) (S : Nat → Prop) (R : List Rw) (w : World) : Prop where
  ex : ∃ lb H bx L x seed, w.heap[tb]? = some (.cells #[.pointer (some ⟨lb, 0, none⟩), .func (.func 83) #[] #[.pointer (some ⟨bx, 0, none⟩)], .int .i64 seed] 112) ∧
    w.heap[bx]? = some (.cells #[.int .u64 x] 154) ∧ SkipAt lb H S L w ∧ rowsL L = R ∧ S bx ∧ S tb
theorem new_tab (seed : Int) (w : World) :
    Calls Tryz.prog 26 #[.int .i64 seed] w fun e w' => ∃ tb, e = .returned (.pointer (some ⟨tb, 0, none⟩)) ∧ TabAt tb (fun k => w.heap.size ≤ k) [] w' ∧ Gr w w' := by
  go_enter Tryz.func26, Tryz.ntmps26
  go_wp2_with fail
  refine (new_skip w).mono ?_
  rintro e w1 ⟨lb, H, rfl, hsk, hg1⟩
  have HSk := Lib.hid hsk
  have HG1 := Lib.hid hg1
  clear hsk hg1
  go_wp2_with fail
  refine (drawing_any seed w1).mono ?_
  rintro e w2 ⟨bx, x, rfl, hbx, hx, hg2⟩
  have HX := Lib.hid hx
  have HBX := Lib.hid hbx
  have HG2 := Lib.hid hg2
  clear hx hbx hg2
  go_wp2
  go_ret
  refine ⟨_, rfl, ⟨lb, H, bx, [], x, seed, heap_newn rfl, heap_alloc1 HX.out, (HSk.out.gr HG2.out).gr ((Gr.refl _).alloc _), rfl, Nat.le_trans HG1.out.size HBX.out, ?_⟩, (HG1.out.trans HG2.out).alloc _⟩
  exact (HG1.out.trans HG2.out).size
theorem tab_none {tb : Nat} {lv fv : Value} {z : Int} {lb : Nat} {w : World} (h : w.heap[tb]? = some (.cells #[.pointer (some ⟨lb, 0, none⟩), fv, .int .i64 z] 112)) :
    Calls Tryz.prog 50 #[.pointer (some ⟨tb, 0, none⟩)] w fun e w' => e = .returned (.bool false) ∧ w = w' := by
  obtain ⟨k_0, k_1, k_2, g_0, g_1, g_2, l_0⟩ := blk3 h
  clear h
  go_enter Tryz.func50, Tryz.ntmps50
  go_wp2
  go_ret
  exact ⟨rfl, rfl⟩
end Go.Proofs.YthgecojbggoniaaGreatDoor
namespace Go.Proofs.YthgecojbggoniaaGreatDoor
open Go.RowKit
set_option maxRecDepth 100000
set_option linter.unusedVariables false
set_option linter.unusedSimpArgs false
set_option linter.unnecessarySimpa false

structure Opp where
  key : ByteArray
  val : ByteArray
  del : Bool
def oppC (o : Opp) : List Value := [.string o.key, .string o.val, .bool o.del]
/-- changes that are read -/
abbrev RdO (w : World) (v : Value) (l : List Opp) : Prop := RdR (fun _ ds a => ds = oppC a) 3 w v l
theorem RdO.gr {a b : World} {v : Value} {l : List Opp} (h : RdO a v l) (hg : Gr a b) : RdO b v l := RdR.gr (fun _ _ _ _ _ h => h) hg h
theorem RdO.form {w : World} {v : Value} {l : List Opp} (h : RdO w v l) : ∃ q c, v = .slice q l.length c := by
  rcases h with ⟨rfl, q, c, rfl, _⟩ | ⟨blk, off, cap, rfl, _⟩
  · exact ⟨q, c, rfl⟩
  · exact ⟨_, _, rfl⟩
theorem RdO.at {w : World} {v : Value} {l : List Opp} (h : RdO w v l) {k : Nat} (hk : k < l.length) : ∃ blk off cap, v = .slice (some ⟨blk, off, none⟩) l.length cap ∧ l.length ≤ cap ∧ cap ≤ maxLen ∧
    w.cell? ⟨blk, off + k * 3, none⟩ = some (.string l[k].key) ∧ w.cell? ⟨blk, off + k * 3 + 1, none⟩ = some (.string l[k].val) ∧ w.cell? ⟨blk, off + k * 3 + 2, none⟩ = some (.bool l[k].del) := by
  rcases h with ⟨rfl, _⟩ | ⟨blk, off, cap, rfl, h1, h2, h3, h4, h5⟩
  · simp at hk
  · obtain ⟨ds, d1, d2, rfl⟩ := h5 k hk
    have hc : ∀ j (hj : j < 3), w.cell? ⟨blk, off + k * 3 + j, none⟩ = some ((oppC l[k])[j]'(by simpa [oppC] using hj)) := fun j hj => by rw [Nat.add_assoc]; exact d2 j (by simpa [oppC] using hj)
    exact ⟨blk, off, cap, rfl, h2, h3, hc 0 (by decide), hc 1 (by decide), hc 2 (by decide)⟩
theorem RdO.blk {w w' : World} {v : Value} {l : List Opp} (h : RdO w v l) (hb : ∀ g o, v.ownBlock = some g → l ≠ [] → w.heap[g]? = some o → w'.heap[g]? = some o) : RdO w' v l := by
  rcases h with h | ⟨blk, off, cap, rfl, h1, h2, h3, h4, h5⟩
  · exact .inl h
  · have hl : l ≠ [] := fun e => by subst e; simp at h1
    have hh := hb blk _ rfl hl (Array.getElem?_eq_getElem h4)
    refine .inr ⟨blk, off, cap, rfl, h1, h2, h3, (Array.getElem?_eq_some_iff.1 hh).1, fun i hi => ?_⟩
    obtain ⟨ds, d1, d2, d3⟩ := h5 i hi
    refine ⟨ds, d1, fun j hj => ?_, d3⟩
    rw [← d2 j hj]
    exact World.cell?_of_block (by rw [hh, Array.getElem?_eq_getElem h4])
theorem len_ops {w : World} {q : Option Addr} {n c : Nat} {ty : TypeId} : (Builtin.len_ #[80] ty #[.slice q n c]).run Tryz.prog w = .ok (.int .i64 n) w := by
  cases q <;> simp [Builtin.len_, run_underlying Tryz.underlying80, go_sem]
def isTab (o : Obj) : Prop := isSkip o ∨ ∃ cs fz, o = .cells cs 154 fz
/-- what is no table's block, or outside of S, stays -/
structure FrU (S : Nat → Prop) (w w' : World) : Prop where
  os : w'.os = w.os
  tape : w'.tape = w.tape
  output : w'.output = w.output
  size : w.heap.size ≤ w'.heap.size
  blk : ∀ k o, w.heap[k]? = some o → (S k → ¬ isTab o) → w'.heap[k]? = some o
theorem FrT.u {S : Nat → Prop} {w w' : World} (h : FrT S w w') : FrU S w w' := ⟨h.os, h.tape, h.output, h.size, fun k o ho hn => h.blk k o ho (fun hs hi => hn hs (.inl hi))⟩
theorem FrU.gr {S : Nat → Prop} {a b : World} (h : Gr a b) : FrU S a b := ⟨h.b.os, h.b.tape, h.b.output, h.b.size, fun _ _ ho _ => h.blk ho⟩
theorem FrU.trans {S S' : Nat → Prop} {a b c : World} (h : FrU S a b) (k : FrU S' b c) (hS : ∀ k, S' k → k < a.heap.size → S k) : FrU S a c :=
  ⟨k.os.trans h.os, k.tape.trans h.tape, k.output.trans h.output, Nat.le_trans h.size k.size, fun i o ho hn => k.blk i o (h.blk i o ho hn) (fun hs => hn (hS i hs (Array.getElem?_eq_some_iff.1 ho).1))⟩
theorem FrU.mono {S S' : Nat → Prop} {a b : World} (h : FrU S a b) (hS : ∀ k, S k → k < a.heap.size → S' k) : FrU S' a b :=
  ⟨h.os, h.tape, h.output, h.size, fun i o ho hn => h.blk i o ho (fun hs => hn (hS i hs (Array.getElem?_eq_some_iff.1 ho).1))⟩
theorem FrU.toGr {S : Nat → Prop} {w0 a b : World} (hg : Gr w0 a) (h : FrU S a b) (hS : ∀ k, S k → w0.heap.size ≤ k) : Gr w0 b := by
  refine ⟨⟨h.os.trans hg.b.os, h.tape.trans hg.b.tape, h.output.trans hg.b.output, Nat.le_trans hg.b.size h.size, fun k hk => ?_⟩⟩
  have hk2 : k < w0.heap.size := hk
  rw [← hg.b.block k hk]
  have hka : k < a.heap.size := Nat.lt_of_lt_of_le hk2 hg.b.size
  rw [h.blk k a.heap[k] (Array.getElem?_eq_getElem hka) (fun hs => by have := hS k hs; omega), Array.getElem?_eq_getElem hka]
theorem TabAt.gr {tb : Nat} {S : Nat → Prop} {R : List Rw} {w w' : World} (h : TabAt tb S R w) (hg : Gr w w') : TabAt tb S R w' := by
  obtain ⟨lb, H, bx, L, x, seed, h1, h2, h3, h4, h5, h6⟩ := h.ex
  exact ⟨lb, H, bx, L, x, seed, hg.blk h1, hg.blk h2, h3.gr hg, h4, h5, h6⟩
theorem TabAt.mono {tb : Nat} {S S' : Nat → Prop} {R : List Rw} {w : World} (h : TabAt tb S R w) (hS : ∀ k, S k → S' k) : TabAt tb S' R w := by
  obtain ⟨lb, H, bx, L, x, seed, h1, h2, h3, h4, h5, h6⟩ := h.ex
  exact ⟨lb, H, bx, L, x, seed, h1, h2, h3.mono hS, h4, hS _ h5, hS _ h6⟩
/-- the box of the draws turns -/
theorem draw_turn {tb lb H bx : Nat} {S : Nat → Prop} {L : List Nd} {x x' seed : Int} {w : World} (h1 : w.heap[tb]? = some (.cells #[.pointer (some ⟨lb, 0, none⟩), .func (.func 83) #[] #[.pointer (some ⟨bx, 0, none⟩)], .int .i64 seed] 112))
    (h2 : w.heap[bx]? = some (.cells #[.int .u64 x] 154)) (h3 : SkipAt lb H S L w) (h5 : S bx) :
    (w.setCell ⟨bx, 0, none⟩ (.int .u64 x')).heap[tb]? = some (.cells #[.pointer (some ⟨lb, 0, none⟩), .func (.func 83) #[] #[.pointer (some ⟨bx, 0, none⟩)], .int .i64 seed] 112) ∧
    (w.setCell ⟨bx, 0, none⟩ (.int .u64 x')).heap[bx]? = some (.cells #[.int .u64 x'] 154) ∧ SkipAt lb H S L (w.setCell ⟨bx, 0, none⟩ (.int .u64 x')) ∧ FrU S w (w.setCell ⟨bx, 0, none⟩ (.int .u64 x')) ∧
    ∀ k o, k ≠ bx → w.heap[k]? = some o → (w.setCell ⟨bx, 0, none⟩ (.int .u64 x')).heap[k]? = some o := by
  have hoth : ∀ k o, k ≠ bx → w.heap[k]? = some o → (w.setCell ⟨bx, 0, none⟩ (.int .u64 x')).heap[k]? = some o := fun k o hk ho => heap_set_other ho _ _ (fun e => hk e.symm)
  have hty : ∀ k cs t, w.heap[k]? = some (.cells cs t) → t ≠ 154 → k ≠ bx := fun k cs t hk ht e => by
    rw [e, h2] at hk
    simp at hk
    exact ht hk.2.symm
  refine ⟨hoth _ _ (hty _ _ _ h1 (by decide)) h1, heap_set h2 0 _, { h3 with list := hoth _ _ (hty _ _ _ h3.list (by decide)) h3.list, chain := chainF_blk h3.chain (fun n hn o ho => hoth _ _ ?_ ho) }, ⟨rfl, rfl, rfl, by simp, fun k o ho hn => ?_⟩, hoth⟩
  · obtain ⟨cs, hcs⟩ := chain_blk h3.chain n hn
    exact hty _ _ _ hcs (by decide)
  · refine hoth k o (fun e => ?_) ho
    subst e
    rw [h2] at ho
    cases ho
    exact hn h5 (.inr ⟨_, _, rfl⟩)
def badO (o : Opp) : Bool := o.key.toList.isEmpty || (o.del && !o.val.toList.isEmpty)
def applyE (l : List Opp) : Int := if 128 < l.length then 5 else if l.any badO = true then 2 else 0
def one (R : List Rw) (o : Opp) : List Rw := if o.del = true then dropR o.key R else putR o.key o.val R
def applyR (l : List Opp) (R : List Rw) : List Rw := l.foldl one R
theorem len_rest (k : ByteArray) (R : List Rw) : (belowR k R).length + (restR k (aboveR k R)).length ≤ R.length := by
  have h : belowR k R ++ aboveR k R = R := List.takeWhile_append_dropWhile
  have h2 := congrArg List.length h
  rw [List.length_append] at h2
  have : (restR k (aboveR k R)).length ≤ (aboveR k R).length := by
    cases aboveR k R with
    | nil => simp [restR]
    | cons x r => simp only [restR]; split <;> simp
  omega
theorem len_one (R : List Rw) (o : Opp) : (one R o).length ≤ R.length + 1 := by
  unfold one dropR putR
  have := len_rest o.key R
  split <;> simp <;> omega
end Go.Proofs.YthgecojbggoniaaGreatDoor
namespace Go.Proofs.YthgecojbggoniaaGreatDoor
open Go.RowKit
set_option linter.unusedVariables false

theorem bulk_one {H : Type} (d : DataW H) : 1 ≤ Rows.uptoBulk d := by
  cases d with
  | lit l => cases l <;> simp [Rows.uptoBulk]
  | nil => simp [Rows.uptoBulk]
  | ptr d => simp [Rows.uptoBulk]
  | slice elems spare => simp [Rows.uptoBulk]
  | agg parts => simp [Rows.uptoBulk]
  | iface t d => simp [Rows.uptoBulk]
  | map entries => simp [Rows.uptoBulk]
  | held h => simp [Rows.uptoBulk]
theorem bulk_length {H : Type} (l : List (DataW H)) : l.length ≤ Rows.uptoBulkAll l := by
  induction l with
  | nil => simp [Rows.uptoBulkAll]
  | cons x r ih => have := bulk_one x; simp only [Rows.uptoBulkAll, List.length_cons]; omega
theorem bulk_part {H : Type} {d : DataW H} {l : List (DataW H)} (h : d ∈ l) : Rows.uptoBulk d ≤ Rows.uptoBulkAll l := by
  induction l with
  | nil => cases h
  | cons x r ih =>
    simp only [Rows.uptoBulkAll]
    cases List.mem_cons.1 h with
    | inl e => subst e; omega
    | inr e => have := ih e; omega
mutual
theorem lens_bulk {H : Type} {M : Nat} : ∀ d : DataW H, Rows.uptoBulk d ≤ M → lensLe M d
  | .lit (.string b), h => by simp only [Rows.uptoBulk] at h; simp only [lensLe]; omega
  | .lit (.bool _), h => by simp [lensLe]
  | .lit .nil, h => by simp [lensLe]
  | .lit (.int _ _), h => by simp [lensLe]
  | .lit (.float _ _), h => by simp [lensLe]
  | .nil, h => by simp [lensLe]
  | .ptr d, h => by simp [lensLe]
  | .slice el sp, h => by
    simp only [Rows.uptoBulk] at h
    have := bulk_length el
    simp only [lensLe]
    exact ⟨by omega, lens_bulkL el (by omega)⟩
  | .agg l, h => by
    simp only [Rows.uptoBulk] at h
    simp only [lensLe]
    exact lens_bulkL l (by omega)
  | .iface _ d, h => by simp [lensLe]
  | .map _, h => by simp [lensLe]
  | .held _, h => by simp [lensLe]
theorem lens_bulkL {H : Type} {M : Nat} : ∀ l : List (DataW H), Rows.uptoBulkAll l ≤ M → lensLeL M l
  | [], _ => by simp [lensLeL]
  | d :: r, h => by
    simp only [Rows.uptoBulkAll] at h
    simp only [lensLeL]
    exact ⟨lens_bulk d (by omega), lens_bulkL r (by omega)⟩
end
theorem lens_of_bulk {H : Type} {l : List (DataW H)} (hk : Rows.uptoSmall H l = true) {j : Nat} {d : DataW H} (hd : l[j]? = some d) : lensLe 1048576 d := by
  have h := of_decide_eq_true hk
  exact lens_bulk d (Nat.le_trans (bulk_part (List.mem_of_getElem? hd)) h)
end Go.Proofs.YthgecojbggoniaaGreatDoor
namespace Go.Proofs.YthgecojbggoniaaGreatDoor
open Go.RowKit
set_option maxRecDepth 100000
set_option linter.unusedVariables false
set_option linter.unusedSimpArgs false

theorem elChg : ElTy 38 76 3 (.agg #[.int .i64 0, .string ⟨#[]⟩, .bool false]) 32 := ⟨Tryz.underlying38, by kernel_rfl, rfl, by decide⟩
theorem encChg : Enc chgCells 3 := ⟨fun _ => rfl, fun a u hu => by simp [chgCells] at hu; rcases hu with rfl | rfl | rfl <;> rfl⟩

end Go.Proofs.YthgecojbggoniaaGreatDoor
