/- What the rows stand on, part 24: CelU, TabB, CelY, CelW. Printed by bundle.py out of my texts. -/
import Derived.Test.YthgecojbggoniaaGreatDoorBe06
import Derived.Test.YthgecojbggoniaaGreatDoorBe17
import Derived.Test.YthgecojbggoniaaGreatDoorBe18
import Derived.Test.YthgecojbggoniaaGreatDoorBe19
import Derived.Test.YthgecojbggoniaaGreatDoorBe23
import Derived.RegionTactic
import Derived.ChangeAlike
import Derived.Deep.RegionWith
import Derived.StillTailTactics
namespace Go.Proofs.YthgecojbggoniaaGreatDoor
open Go.RowKit
set_option maxRecDepth 100000
set_option linter.unusedVariables false
set_option linter.unusedSimpArgs false

theorem RdR.form {α : Type} {R : World → List Value → α → Prop} {k : Nat} {w : World} {v : Value} {l : List α} (h : RdR R k w v l) : ∃ q c, v = .slice q l.length c := by
  rcases h with ⟨rfl, q, c, rfl, _⟩ | ⟨blk, off, cap, rfl, _⟩
  · exact ⟨q, c, rfl⟩
  · exact ⟨_, _, rfl⟩
theorem RdC.at {w : World} {v : Value} {l : List Chg} (h : RdC w v l) {k : Nat} (hk : k < l.length) : ∃ blk off cap, v = .slice (some ⟨blk, off, none⟩) l.length cap ∧ l.length ≤ cap ∧ cap ≤ maxLen ∧
    w.cell? ⟨blk, off + k * 3, none⟩ = some (.int .i64 l[k].seq) ∧ w.cell? ⟨blk, off + k * 3 + 1, none⟩ = some (.string l[k].value) ∧ w.cell? ⟨blk, off + k * 3 + 2, none⟩ = some (.bool l[k].del) := by
  rcases h with ⟨rfl, _⟩ | ⟨blk, off, cap, h1, h2, h3, h4, h5, h6⟩
  · simp at hk
  · exact ⟨blk, off, cap, h1, h3, h4, RdC.cells h6 hk⟩

end Go.Proofs.YthgecojbggoniaaGreatDoor
namespace Go.Proofs.YthgecojbggoniaaGreatDoor
open Go.RowKit
set_option maxRecDepth 100000
set_option linter.unusedVariables false
set_option linter.unusedSimpArgs false
set_option linter.unnecessarySimpa false

structure Opp where
  key : ByteArray
  val : ByteArray
  del : Bool
def oppC (o : Opp) : List Value := [.string o.key, .string o.val, .bool o.del]
/-- changes that are read -/
abbrev RdO (w : World) (v : Value) (l : List Opp) : Prop := RdR (fun _ ds a => ds = oppC a) 3 w v l
theorem RdO.gr {a b : World} {v : Value} {l : List Opp} (h : RdO a v l) (hg : Gr a b) : RdO b v l := RdR.gr (fun _ _ _ _ _ h => h) hg h
theorem RdO.form {w : World} {v : Value} {l : List Opp} (h : RdO w v l) : ∃ q c, v = .slice q l.length c := by
  rcases h with ⟨rfl, q, c, rfl, _⟩ | ⟨blk, off, cap, rfl, _⟩
  · exact ⟨q, c, rfl⟩
  · exact ⟨_, _, rfl⟩
theorem RdO.at {w : World} {v : Value} {l : List Opp} (h : RdO w v l) {k : Nat} (hk : k < l.length) : ∃ blk off cap, v = .slice (some ⟨blk, off, none⟩) l.length cap ∧ l.length ≤ cap ∧ cap ≤ maxLen ∧
    w.cell? ⟨blk, off + k * 3, none⟩ = some (.string l[k].key) ∧ w.cell? ⟨blk, off + k * 3 + 1, none⟩ = some (.string l[k].val) ∧ w.cell? ⟨blk, off + k * 3 + 2, none⟩ = some (.bool l[k].del) := by
  rcases h with ⟨rfl, _⟩ | ⟨blk, off, cap, rfl, h1, h2, h3, h4, h5⟩
  · simp at hk
  · obtain ⟨ds, d1, d2, rfl⟩ := h5 k hk
    have hc : ∀ j (hj : j < 3), w.cell? ⟨blk, off + k * 3 + j, none⟩ = some ((oppC l[k])[j]'(by simpa [oppC] using hj)) := fun j hj => by rw [Nat.add_assoc]; exact d2 j (by simpa [oppC] using hj)
    exact ⟨blk, off, cap, rfl, h2, h3, hc 0 (by decide), hc 1 (by decide), hc 2 (by decide)⟩
theorem RdO.blk {w w' : World} {v : Value} {l : List Opp} (h : RdO w v l) (hb : ∀ g o, v.ownBlock = some g → l ≠ [] → w.heap[g]? = some o → w'.heap[g]? = some o) : RdO w' v l := by
  rcases h with h | ⟨blk, off, cap, rfl, h1, h2, h3, h4, h5⟩
  · exact .inl h
  · have hl : l ≠ [] := fun e => by subst e; simp at h1
    have hh := hb blk _ rfl hl (Array.getElem?_eq_getElem h4)
    refine .inr ⟨blk, off, cap, rfl, h1, h2, h3, (Array.getElem?_eq_some_iff.1 hh).1, fun i hi => ?_⟩
    obtain ⟨ds, d1, d2, d3⟩ := h5 i hi
    refine ⟨ds, d1, fun j hj => ?_, d3⟩
    rw [← d2 j hj]
    exact World.cell?_of_block (by rw [hh, Array.getElem?_eq_getElem h4])
theorem len_ops {w : World} {q : Option Addr} {n c : Nat} {ty : TypeId} : (Builtin.len_ #[80] ty #[.slice q n c]).run Tryz.prog w = .ok (.int .i64 n) w := by
  cases q <;> simp [Builtin.len_, run_underlying Tryz.underlying80, go_sem]
def isTab (o : Obj) : Prop := isSkip o ∨ ∃ cs fz, o = .cells cs 154 fz
/-- what is no table's block, or outside of S, stays -/
structure FrU (S : Nat → Prop) (w w' : World) : Prop where
  os : w'.os = w.os
  tape : w'.tape = w.tape
  output : w'.output = w.output
  size : w.heap.size ≤ w'.heap.size
  blk : ∀ k o, w.heap[k]? = some o → (S k → ¬ isTab o) → w'.heap[k]? = some o
theorem FrT.u {S : Nat → Prop} {w w' : World} (h : FrT S w w') : FrU S w w' := ⟨h.os, h.tape, h.output, h.size, fun k o ho hn => h.blk k o ho (fun hs hi => hn hs (.inl hi))⟩
theorem FrU.gr {S : Nat → Prop} {a b : World} (h : Gr a b) : FrU S a b := ⟨h.b.os, h.b.tape, h.b.output, h.b.size, fun _ _ ho _ => h.blk ho⟩
theorem FrU.trans {S S' : Nat → Prop} {a b c : World} (h : FrU S a b) (k : FrU S' b c) (hS : ∀ k, S' k → k < a.heap.size → S k) : FrU S a c :=
  ⟨k.os.trans h.os, k.tape.trans h.tape, k.output.trans h.output, Nat.le_trans h.size k.size, fun i o ho hn => k.blk i o (h.blk i o ho hn) (fun hs => hn (hS i hs (Array.getElem?_eq_some_iff.1 ho).1))⟩
theorem FrU.mono {S S' : Nat → Prop} {a b : World} (h : FrU S a b) (hS : ∀ k, S k → k < a.heap.size → S' k) : FrU S' a b :=
  ⟨h.os, h.tape, h.output, h.size, fun i o ho hn => h.blk i o ho (fun hs => hn (hS i hs (Array.getElem?_eq_some_iff.1 ho).1))⟩
theorem FrU.toGr {S : Nat → Prop} {w0 a b : World} (hg : Gr w0 a) (h : FrU S a b) (hS : ∀ k, S k → w0.heap.size ≤ k) : Gr w0 b := by
  refine ⟨⟨h.os.trans hg.b.os, h.tape.trans hg.b.tape, h.output.trans hg.b.output, Nat.le_trans hg.b.size h.size, fun k hk => ?_⟩⟩
  have hk2 : k < w0.heap.size := hk
  rw [← hg.b.block k hk]
  have hka : k < a.heap.size := Nat.lt_of_lt_of_le hk2 hg.b.size
  rw [h.blk k a.heap[k] (Array.getElem?_eq_getElem hka) (fun hs => by have := hS k hs; omega), Array.getElem?_eq_getElem hka]
theorem TabAt.gr {tb : Nat} {S : Nat → Prop} {R : List Rw} {w w' : World} (h : TabAt tb S R w) (hg : Gr w w') : TabAt tb S R w' := by
  obtain ⟨lb, H, bx, L, x, seed, h1, h2, h3, h4, h5, h6⟩ := h.ex
  exact ⟨lb, H, bx, L, x, seed, hg.blk h1, hg.blk h2, h3.gr hg, h4, h5, h6⟩
theorem TabAt.mono {tb : Nat} {S S' : Nat → Prop} {R : List Rw} {w : World} (h : TabAt tb S R w) (hS : ∀ k, S k → S' k) : TabAt tb S' R w := by
  obtain ⟨lb, H, bx, L, x, seed, h1, h2, h3, h4, h5, h6⟩ := h.ex
  exact ⟨lb, H, bx, L, x, seed, h1, h2, h3.mono hS, h4, hS _ h5, hS _ h6⟩
/-- the box of the draws turns -/
theorem draw_turn {tb lb H bx : Nat} {S : Nat → Prop} {L : List Nd} {x x' seed : Int} {w : World} (h1 : w.heap[tb]? = some (.cells #[.pointer (some ⟨lb, 0, none⟩), .func (.func 83) #[] #[.pointer (some ⟨bx, 0, none⟩)], .int .i64 seed] 112))
    (h2 : w.heap[bx]? = some (.cells #[.int .u64 x] 154)) (h3 : SkipAt lb H S L w) (h5 : S bx) :
    (w.setCell ⟨bx, 0, none⟩ (.int .u64 x')).heap[tb]? = some (.cells #[.pointer (some ⟨lb, 0, none⟩), .func (.func 83) #[] #[.pointer (some ⟨bx, 0, none⟩)], .int .i64 seed] 112) ∧
    (w.setCell ⟨bx, 0, none⟩ (.int .u64 x')).heap[bx]? = some (.cells #[.int .u64 x'] 154) ∧ SkipAt lb H S L (w.setCell ⟨bx, 0, none⟩ (.int .u64 x')) ∧ FrU S w (w.setCell ⟨bx, 0, none⟩ (.int .u64 x')) ∧
    ∀ k o, k ≠ bx → w.heap[k]? = some o → (w.setCell ⟨bx, 0, none⟩ (.int .u64 x')).heap[k]? = some o := by
  have hoth : ∀ k o, k ≠ bx → w.heap[k]? = some o → (w.setCell ⟨bx, 0, none⟩ (.int .u64 x')).heap[k]? = some o := fun k o hk ho => heap_set_other ho _ _ (fun e => hk e.symm)
  have hty : ∀ k cs t, w.heap[k]? = some (.cells cs t) → t ≠ 154 → k ≠ bx := fun k cs t hk ht e => by
    rw [e, h2] at hk
    simp at hk
    exact ht hk.2.symm
  refine ⟨hoth _ _ (hty _ _ _ h1 (by decide)) h1, heap_set h2 0 _, { h3 with list := hoth _ _ (hty _ _ _ h3.list (by decide)) h3.list, chain := chainF_blk h3.chain (fun n hn o ho => hoth _ _ ?_ ho) }, ⟨rfl, rfl, rfl, by simp, fun k o ho hn => ?_⟩, hoth⟩
  · obtain ⟨cs, hcs⟩ := chain_blk h3.chain n hn
    exact hty _ _ _ hcs (by decide)
  · refine hoth k o (fun e => ?_) ho
    subst e
    rw [h2] at ho
    cases ho
    exact hn h5 (.inr ⟨_, _, rfl⟩)
def badO (o : Opp) : Bool := o.key.toList.isEmpty || (o.del && !o.val.toList.isEmpty)
def applyE (l : List Opp) : Int := if 128 < l.length then 5 else if l.any badO = true then 2 else 0
def one (R : List Rw) (o : Opp) : List Rw := if o.del = true then dropR o.key R else putR o.key o.val R
def applyR (l : List Opp) (R : List Rw) : List Rw := l.foldl one R
theorem len_rest (k : ByteArray) (R : List Rw) : (belowR k R).length + (restR k (aboveR k R)).length ≤ R.length := by
  have h : belowR k R ++ aboveR k R = R := List.takeWhile_append_dropWhile
  have h2 := congrArg List.length h
  rw [List.length_append] at h2
  have : (restR k (aboveR k R)).length ≤ (aboveR k R).length := by
    cases aboveR k R with
    | nil => simp [restR]
    | cons x r => simp only [restR]; split <;> simp
  omega
theorem len_one (R : List Rw) (o : Opp) : (one R o).length ≤ R.length + 1 := by
  unfold one dropR putR
  have := len_rest o.key R
  split <;> simp <;> omega
end Go.Proofs.YthgecojbggoniaaGreatDoor
namespace Go.Proofs.YthgecojbggoniaaGreatDoor
open Go.RowKit
set_option maxRecDepth 100000
set_option linter.unusedVariables false
set_option linter.unusedSimpArgs false

theorem convRule {w : World} {v : Value} {l : List UInt8} (h : Rd w v l) : ∀ w', Gr w w' → (convert 133 9 v).run Tryz.prog w' = .ok (.string ⟨l.toArray⟩) w' := fun _ hg => conv_rd (h.gr hg)

set_option maxHeartbeats 2000000 in
theorem refStamps_any (a b : Int) (w : World) :
    Calls Tryz.prog 80 #[.agg #[.int .i64 a, .int .i64 b]] w fun e w' => e = .returned (.string ⟨(stampW (a, b)).toArray⟩) ∧ Gr w w' := by
  have hX := heap_alloc_new w (.cells #[.int .i64 a, .int .i64 b] 26)
  obtain ⟨k_0, k_1, g_0, g_1, l_0⟩ := blk2 (heap_drew hX)
  have F0 := cellRule k_0
  have F1 := cellRule k_1
  have ha8 := numW_length a
  have hb8 := numW_length b
  have hq : ¬ 9223372036854775807 < (numW a).length + (numW b).length := by omega
  clear k_0 k_1 g_0 g_1 hX
  go_enter Tryz.func80, Tryz.ntmps80
  go_wp2
  refine wp_region_held_drew (S := fun w' => Gr (w.alloc (.cells #[.int .i64 a, .int .i64 b] 26)).drew w') (by kernel_rfl) (Gr.refl _) (fun hHeld => ?_)
  try dsimp only at hHeld
  refine wpAnyH_take (i := 0) rfl (by kernel_rfl) (by kernel_rfl) (by kernel_rfl) (fun _ _ _ h => h) (Or.inl ⟨by rfl, by intro w hSw; (try dsimp only at hSw); go_simp; (try with_reducible rfl)⟩) (by assumption) ?_; (try simp only [Act.put, List.setIfInBounds_toArray, List.set_cons_zero, List.set_cons_succ, List.getElem_toArray, List.getElem_cons_zero, List.getElem_cons_succ])
  refine wpAnyH_take (i := 1) rfl (by kernel_rfl) (by kernel_rfl) (by kernel_rfl) (fun _ _ _ h => h) (Or.inl ⟨by rfl, by intro w hSw; (try dsimp only at hSw); go_simp; (try with_reducible rfl)⟩) (by assumption) ?_; (try simp only [Act.put, List.setIfInBounds_toArray, List.set_cons_zero, List.set_cons_succ, List.getElem_toArray, List.getElem_cons_zero, List.getElem_cons_succ])
  refine wpAnyH_take (i := 4) rfl (by kernel_rfl) (by kernel_rfl) (by kernel_rfl) (fun _ _ _ h => h) (Or.inl ⟨by rfl, by intro w hSw; (try dsimp only at hSw); go_simp; (try with_reducible rfl)⟩) (by assumption) ?_; (try simp only [Act.put, List.setIfInBounds_toArray, List.set_cons_zero, List.set_cons_succ, List.getElem_toArray, List.getElem_cons_zero, List.getElem_cons_succ])
  refine wpAnyH_take (i := 5) rfl (by kernel_rfl) (by kernel_rfl) (by kernel_rfl) (fun _ _ _ h => h) (Or.inl ⟨by rfl, by intro w hSw; (try dsimp only at hSw); go_simp; (try with_reducible rfl)⟩) (by assumption) ?_; (try simp only [Act.put, List.setIfInBounds_toArray, List.set_cons_zero, List.set_cons_succ, List.getElem_toArray, List.getElem_cons_zero, List.getElem_cons_succ])
  refine wpAnyH_ready (rs := [2]) (by kernel_rfl) (by simp) ?_
  refine AllReadyH.cons rfl (fun K hK => ?_) AllReadyH.nil
  go_simp
  go_wp2_with (go_at_call 77; refine (refNumb_any a _).mono ?_; rintro e w1 ⟨v1, rfl, hown1, hg1⟩)
  refine hK.out _ _ hg1 (fun _ => wpAnyH_turn hg1 (fun hHeld => ?_))
  clear hK K
  try dsimp only at hHeld
  have F0' := Rule.turn F0 hg1
  have F1' := Rule.turn F1 hg1
  clear F0 F1
  have C1 := convRule hown1.rd
  refine wpAnyH_take (i := 3) rfl (by kernel_rfl) (by kernel_rfl) (by kernel_rfl) (fun _ _ _ h => h) (Or.inl ⟨by rfl, by intro w hSw; (try dsimp only at hSw); go_simp; (try with_reducible rfl)⟩) (by assumption) ?_; (try simp only [Act.put, List.setIfInBounds_toArray, List.set_cons_zero, List.set_cons_succ, List.getElem_toArray, List.getElem_cons_zero, List.getElem_cons_succ])
  refine wpAnyH_ready (rs := [6]) (by kernel_rfl) (by simp) ?_
  refine AllReadyH.cons rfl (fun K hK => ?_) AllReadyH.nil
  go_simp
  go_wp2_with (go_at_call 77; refine (refNumb_any b _).mono ?_; rintro e w2 ⟨v2, rfl, hown2, hg2⟩)
  refine hK.out _ _ hg2 (fun _ => wpAnyH_turn hg2 (fun hHeld => ?_))
  clear hK K
  try dsimp only at hHeld
  have F0'' := Rule.turn F0' hg2
  have F1'' := Rule.turn F1' hg2
  have C1' := Rule.turn C1 hg2
  clear F0' F1' C1
  have C2 := convRule hown2.rd
  refine wpAnyH_take (i := 7) rfl (by kernel_rfl) (by kernel_rfl) (by kernel_rfl) (fun _ _ _ h => h) (Or.inl ⟨by rfl, by intro w hSw; (try dsimp only at hSw); go_simp; (try with_reducible rfl)⟩) (by assumption) ?_; (try simp only [Act.put, List.setIfInBounds_toArray, List.set_cons_zero, List.set_cons_succ, List.getElem_toArray, List.getElem_cons_zero, List.getElem_cons_succ])
  refine wpAnyH_take (i := 8) rfl (by kernel_rfl) (by kernel_rfl) (by kernel_rfl) (fun _ _ _ h => h) (Or.inl ⟨by rfl, by intro w hSw; (try dsimp only at hSw); go_simp; (try with_reducible rfl)⟩) (by assumption) ?_; (try simp only [Act.put, List.setIfInBounds_toArray, List.set_cons_zero, List.set_cons_succ, List.getElem_toArray, List.getElem_cons_zero, List.getElem_cons_succ])
  refine wpAnyH_take (i := 9) rfl (by kernel_rfl) (by kernel_rfl) (by kernel_rfl) (fun _ _ _ h => h) (Or.inl ⟨by rfl, by intro w hSw; (try dsimp only at hSw); go_simp; (try with_reducible rfl)⟩) (by assumption) ?_; (try simp only [Act.put, List.setIfInBounds_toArray, List.set_cons_zero, List.set_cons_succ, List.getElem_toArray, List.getElem_cons_zero, List.getElem_cons_succ])
  refine wpAnyH_done (by kernel_rfl) ?_ _
  clear hHeld F0'' F1'' C1' C2
  go_wp2
  go_ret
  exact ⟨by rw [str_append]; rfl, (Gr.drew ((Gr.refl w).alloc _)).trans (hg1.trans hg2)⟩
end Go.Proofs.YthgecojbggoniaaGreatDoor
namespace Go.Proofs.YthgecojbggoniaaGreatDoor
open Go.RowKit
set_option maxRecDepth 100000
set_option linter.unusedVariables false
set_option linter.unusedSimpArgs false

theorem elChg : ElTy 38 76 3 (.agg #[.int .i64 0, .string ⟨#[]⟩, .bool false]) 32 := ⟨Tryz.underlying38, by kernel_rfl, rfl, by decide⟩
theorem encChg : Enc chgCells 3 := ⟨fun _ => rfl, fun a u hu => by simp [chgCells] at hu; rcases hu with rfl | rfl | rfl <;> rfl⟩

end Go.Proofs.YthgecojbggoniaaGreatDoor
