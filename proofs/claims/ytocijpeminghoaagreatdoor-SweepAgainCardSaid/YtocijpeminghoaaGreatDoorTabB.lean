/- Layer 10: tables: Apply. -/
import Derived.Test.YtocijpeminghoaaGreatDoorTabA
import Derived.Test.YtocijpeminghoaaGreatDoorShape
import Derived.Deep.RegionWith
import Derived.StillTailTactics
namespace Go.Proofs.YtocijpeminghoaaGreatDoor
open Go.RowKit
set_option maxRecDepth 100000
set_option linter.unusedVariables false
set_option linter.unusedSimpArgs false
set_option linter.unnecessarySimpa false

structure Opp where
  key : ByteArray
  val : ByteArray
  del : Bool
def oppC (o : Opp) : List Value := [.string o.key, .string o.val, .bool o.del]
/-- changes that are read -/
abbrev RdO (w : World) (v : Value) (l : List Opp) : Prop := RdR (fun _ ds a => ds = oppC a) 3 w v l
theorem RdO.gr {a b : World} {v : Value} {l : List Opp} (h : RdO a v l) (hg : Gr a b) : RdO b v l := RdR.gr (fun _ _ _ _ _ h => h) hg h
theorem RdO.form {w : World} {v : Value} {l : List Opp} (h : RdO w v l) : ∃ q c, v = .slice q l.length c := by
  rcases h with ⟨rfl, q, c, rfl, _⟩ | ⟨blk, off, cap, rfl, _⟩
  · exact ⟨q, c, rfl⟩
  · exact ⟨_, _, rfl⟩
theorem RdO.at {w : World} {v : Value} {l : List Opp} (h : RdO w v l) {k : Nat} (hk : k < l.length) : ∃ blk off cap, v = .slice (some ⟨blk, off, none⟩) l.length cap ∧ l.length ≤ cap ∧ cap ≤ maxLen ∧
    w.cell? ⟨blk, off + k * 3, none⟩ = some (.string l[k].key) ∧ w.cell? ⟨blk, off + k * 3 + 1, none⟩ = some (.string l[k].val) ∧ w.cell? ⟨blk, off + k * 3 + 2, none⟩ = some (.bool l[k].del) := by
  rcases h with ⟨rfl, _⟩ | ⟨blk, off, cap, rfl, h1, h2, h3, h4, h5⟩
  · simp at hk
  · obtain ⟨ds, d1, d2, rfl⟩ := h5 k hk
    have hc : ∀ j (hj : j < 3), w.cell? ⟨blk, off + k * 3 + j, none⟩ = some ((oppC l[k])[j]'(by simpa [oppC] using hj)) := fun j hj => by rw [Nat.add_assoc]; exact d2 j (by simpa [oppC] using hj)
    exact ⟨blk, off, cap, rfl, h2, h3, hc 0 (by decide), hc 1 (by decide), hc 2 (by decide)⟩
theorem RdO.blk {w w' : World} {v : Value} {l : List Opp} (h : RdO w v l) (hb : ∀ g o, v.ownBlock = some g → l ≠ [] → w.heap[g]? = some o → w'.heap[g]? = some o) : RdO w' v l := by
  rcases h with h | ⟨blk, off, cap, rfl, h1, h2, h3, h4, h5⟩
  · exact .inl h
  · have hl : l ≠ [] := fun e => by subst e; simp at h1
    have hh := hb blk _ rfl hl (Array.getElem?_eq_getElem h4)
    refine .inr ⟨blk, off, cap, rfl, h1, h2, h3, (Array.getElem?_eq_some_iff.1 hh).1, fun i hi => ?_⟩
    obtain ⟨ds, d1, d2, d3⟩ := h5 i hi
    refine ⟨ds, d1, fun j hj => ?_, d3⟩
    rw [← d2 j hj]
    exact World.cell?_of_block (by rw [hh, Array.getElem?_eq_getElem h4])
theorem len_ops {w : World} {q : Option Addr} {n c : Nat} {ty : TypeId} : (Builtin.len_ #[31] ty #[.slice q n c]).run Tryz.prog w = .ok (.int .i64 n) w := by
  cases q <;> simp [Builtin.len_, run_underlying Tryz.underlying31, go_sem]
def isTab (o : Obj) : Prop := isSkip o ∨ ∃ cs fz, o = .cells cs 125 fz
/-- what is no table's block, or outside of S, stays -/
structure FrU (S : Nat → Prop) (w w' : World) : Prop where
  os : w'.os = w.os
  tape : w'.tape = w.tape
  output : w'.output = w.output
  size : w.heap.size ≤ w'.heap.size
  blk : ∀ k o, w.heap[k]? = some o → (S k → ¬ isTab o) → w'.heap[k]? = some o
theorem FrT.u {S : Nat → Prop} {w w' : World} (h : FrT S w w') : FrU S w w' := ⟨h.os, h.tape, h.output, h.size, fun k o ho hn => h.blk k o ho (fun hs hi => hn hs (.inl hi))⟩
theorem FrU.gr {S : Nat → Prop} {a b : World} (h : Gr a b) : FrU S a b := ⟨h.b.os, h.b.tape, h.b.output, h.b.size, fun _ _ ho _ => h.blk ho⟩
theorem FrU.trans {S S' : Nat → Prop} {a b c : World} (h : FrU S a b) (k : FrU S' b c) (hS : ∀ k, S' k → k < a.heap.size → S k) : FrU S a c :=
  ⟨k.os.trans h.os, k.tape.trans h.tape, k.output.trans h.output, Nat.le_trans h.size k.size, fun i o ho hn => k.blk i o (h.blk i o ho hn) (fun hs => hn (hS i hs (Array.getElem?_eq_some_iff.1 ho).1))⟩
theorem FrU.mono {S S' : Nat → Prop} {a b : World} (h : FrU S a b) (hS : ∀ k, S k → k < a.heap.size → S' k) : FrU S' a b :=
  ⟨h.os, h.tape, h.output, h.size, fun i o ho hn => h.blk i o ho (fun hs => hn (hS i hs (Array.getElem?_eq_some_iff.1 ho).1))⟩
theorem FrU.toGr {S : Nat → Prop} {w0 a b : World} (hg : Gr w0 a) (h : FrU S a b) (hS : ∀ k, S k → w0.heap.size ≤ k) : Gr w0 b := by
  refine ⟨⟨h.os.trans hg.b.os, h.tape.trans hg.b.tape, h.output.trans hg.b.output, Nat.le_trans hg.b.size h.size, fun k hk => ?_⟩⟩
  have hk2 : k < w0.heap.size := hk
  rw [← hg.b.block k hk]
  have hka : k < a.heap.size := Nat.lt_of_lt_of_le hk2 hg.b.size
  rw [h.blk k a.heap[k] (Array.getElem?_eq_getElem hka) (fun hs => by have := hS k hs; omega), Array.getElem?_eq_getElem hka]
theorem TabAt.gr {tb : Nat} {S : Nat → Prop} {R : List Rw} {w w' : World} (h : TabAt tb S R w) (hg : Gr w w') : TabAt tb S R w' := by
  obtain ⟨lb, H, bx, L, x, seed, h1, h2, h3, h4, h5, h6⟩ := h.ex
  exact ⟨lb, H, bx, L, x, seed, hg.blk h1, hg.blk h2, h3.gr hg, h4, h5, h6⟩
theorem TabAt.mono {tb : Nat} {S S' : Nat → Prop} {R : List Rw} {w : World} (h : TabAt tb S R w) (hS : ∀ k, S k → S' k) : TabAt tb S' R w := by
  obtain ⟨lb, H, bx, L, x, seed, h1, h2, h3, h4, h5, h6⟩ := h.ex
  exact ⟨lb, H, bx, L, x, seed, h1, h2, h3.mono hS, h4, hS _ h5, hS _ h6⟩
/-- the box of the draws turns -/
theorem draw_turn {tb lb H bx : Nat} {S : Nat → Prop} {L : List Nd} {x x' seed : Int} {w : World} (h1 : w.heap[tb]? = some (.cells #[.pointer (some ⟨lb, 0, none⟩), .func (.func 71) #[] #[.pointer (some ⟨bx, 0, none⟩)], .int .i64 seed] 75))
    (h2 : w.heap[bx]? = some (.cells #[.int .u64 x] 125)) (h3 : SkipAt lb H S L w) (h5 : S bx) :
    (w.setCell ⟨bx, 0, none⟩ (.int .u64 x')).heap[tb]? = some (.cells #[.pointer (some ⟨lb, 0, none⟩), .func (.func 71) #[] #[.pointer (some ⟨bx, 0, none⟩)], .int .i64 seed] 75) ∧
    (w.setCell ⟨bx, 0, none⟩ (.int .u64 x')).heap[bx]? = some (.cells #[.int .u64 x'] 125) ∧ SkipAt lb H S L (w.setCell ⟨bx, 0, none⟩ (.int .u64 x')) ∧ FrU S w (w.setCell ⟨bx, 0, none⟩ (.int .u64 x')) ∧
    ∀ k o, k ≠ bx → w.heap[k]? = some o → (w.setCell ⟨bx, 0, none⟩ (.int .u64 x')).heap[k]? = some o := by
  have hoth : ∀ k o, k ≠ bx → w.heap[k]? = some o → (w.setCell ⟨bx, 0, none⟩ (.int .u64 x')).heap[k]? = some o := fun k o hk ho => heap_set_other ho _ _ (fun e => hk e.symm)
  have hty : ∀ k cs t, w.heap[k]? = some (.cells cs t) → t ≠ 125 → k ≠ bx := fun k cs t hk ht e => by
    rw [e, h2] at hk
    simp at hk
    exact ht hk.2.symm
  refine ⟨hoth _ _ (hty _ _ _ h1 (by decide)) h1, heap_set h2 0 _, { h3 with list := hoth _ _ (hty _ _ _ h3.list (by decide)) h3.list, chain := chainF_blk h3.chain (fun n hn o ho => hoth _ _ ?_ ho) }, ⟨rfl, rfl, rfl, by simp, fun k o ho hn => ?_⟩, hoth⟩
  · obtain ⟨cs, hcs⟩ := chain_blk h3.chain n hn
    exact hty _ _ _ hcs (by decide)
  · refine hoth k o (fun e => ?_) ho
    subst e
    rw [h2] at ho
    cases ho
    exact hn h5 (.inr ⟨_, _, rfl⟩)
def emptyS : ByteArray := ⟨#[]⟩
def badO (o : Opp) : Bool := o.key.toList.isEmpty || (o.del && !o.val.toList.isEmpty)
def applyE (l : List Opp) : Int := if 128 < l.length then 5 else if l.any badO = true then 2 else 0
def one (R : List Rw) (o : Opp) : List Rw := if o.del = true then dropR o.key R else putR o.key o.val R
def applyR (l : List Opp) (R : List Rw) : List Rw := l.foldl one R
theorem len_rest (k : ByteArray) (R : List Rw) : (belowR k R).length + (restR k (aboveR k R)).length ≤ R.length := by
  have h : belowR k R ++ aboveR k R = R := List.takeWhile_append_dropWhile
  have h2 := congrArg List.length h
  rw [List.length_append] at h2
  have : (restR k (aboveR k R)).length ≤ (aboveR k R).length := by
    cases aboveR k R with
    | nil => simp [restR]
    | cons x r => simp only [restR]; split <;> simp
  omega
theorem len_one (R : List Rw) (o : Opp) : (one R o).length ≤ R.length + 1 := by
  unfold one dropR putR
  have := len_rest o.key R
  split <;> simp <;> omega
end Go.Proofs.YtocijpeminghoaaGreatDoor
