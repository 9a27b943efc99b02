/- What the rows stand on, part 01: Base, Shape, By, SkpP, SkpA, Own. Printed by bundle.py out of my texts. -/
import Derived.Test.YthgecojbggoniaaGreatDoorProg
import Derived.WalkKit
import Derived.WalkLawsBesides
import Derived.BigQuiet
import Derived.Lib.Hide
import Derived.ChangeAgain
import Derived.Laws.BytesArg
import Derived.Lib.ConvBytes
import Derived.Lib.IndexBytes
import Derived.Deep.Slices
import Derived.OpenShut
import Derived.Deep.DeepHandedRow
import Derived.SizedLaws
import Derived.Laws.AppendOwnNone
import Derived.Lib.AppendStr
import Derived.Maps.OwnSet
import Derived.Laws.Rows
import Derived.Laws.CopyOwn
namespace Go.Proofs.YthgecojbggoniaaGreatDoor
open Go.RowKit

/-- Of what was there nothing has turned. -/
structure Gr (w w' : World) : Prop where
  b : Below w.heap.size w w'

theorem Gr.refl (w : World) : Gr w w := ⟨Below.refl _ _⟩
theorem Gr.trans {a b c : World} (h : Gr a b) (k : Gr b c) : Gr a c := ⟨h.b.trans (k.b.mono h.b.size)⟩
theorem Gr.alloc {a b : World} (h : Gr a b) (o : Obj) : Gr a (b.alloc o) := ⟨h.b.alloc h.b.size o⟩
theorem Gr.drew {a b : World} (h : Gr a b) : Gr a b.drew := ⟨h.b.drew⟩
theorem Gr.drewN {a b : World} (h : Gr a b) (n : Nat) : Gr a (b.drewN n) := ⟨⟨h.b.os, h.b.tape, h.b.output, h.b.size, h.b.block⟩⟩
theorem Gr.setCell {a b : World} (h : Gr a b) {p : Addr} (hp : a.heap.size ≤ p.block) (u : Value) : Gr a (b.setCell p u) := ⟨h.b.setCell hp u⟩
theorem Gr.grown {a b c : World} {row : Option Nat} (h : Gr a b) (hg : b.grownBy c row) (hr : ∀ k, row = some k → a.heap.size ≤ k) : Gr a c :=
  ⟨h.b.grown hg h.b.size hr⟩
theorem Gr.of {a b : World} (h : Below a.heap.size a b) : Gr a b := ⟨h⟩
theorem Gr.size {a b : World} (h : Gr a b) : a.heap.size ≤ b.heap.size := h.b.size
theorem Gr.cell {a b : World} (h : Gr a b) {p : Addr} (hp : p.block < a.heap.size) : b.cell? p = a.cell? p := h.b.cell hp
theorem Gr.cell' {a b : World} (h : Gr a b) {p : Addr} {v : Value} (hv : a.cell? p = some v) : b.cell? p = some v :=
  (h.b.cell (World.block_lt_of_cell? a p hv)).trans hv
theorem Gr.frozen {a b : World} (h : Gr a b) {p : Addr} (hp : p.block < a.heap.size) : b.frozen? p = a.frozen? p := h.b.frozen hp
theorem Gr.ownsRow {a b : World} (h : Gr a b) {base : Nat} {e : TypeId} {size : Nat} {v : Value} {n : Nat} {xs : List Value} (ho : a.ownsRow base e size v n xs) :
    b.ownsRow base e size v n xs := by
  refine ⟨ho.1, ?_⟩
  rcases ho.2 with hn | ⟨g, cap, cur, rfl, hb, hg, rest⟩
  · exact .inl hn
  · exact .inr ⟨g, cap, cur, rfl, hb, (h.b.block g (Array.getElem?_eq_some_iff.1 hg).1).trans hg, rest⟩
theorem ownsRow_mono {w : World} {base base' : Nat} {e : TypeId} {size : Nat} {v : Value} {n : Nat} {xs : List Value} (ho : w.ownsRow base e size v n xs) (hb : base' ≤ base) :
    w.ownsRow base' e size v n xs := by
  refine ⟨ho.1, ?_⟩
  rcases ho.2 with hn | ⟨g, cap, cur, rfl, hb', hg, rest⟩
  · exact .inl hn
  · exact .inr ⟨g, cap, cur, rfl, by omega, hg, rest⟩

theorem Gr.blk {a b : World} (h : Gr a b) {k : Nat} {o : Obj} (ho : a.heap[k]? = some o) : b.heap[k]? = some o :=
  (h.b.block k (Array.getElem?_eq_some_iff.1 ho).1).trans ho
theorem heap_alloc_mono {a : World} {k : Nat} {o : Obj} (ho : a.heap[k]? = some o) (o' : Obj) : (a.alloc o').heap[k]? = some o := ((Gr.refl a).alloc o').blk ho
theorem heap_drew {a : World} {k : Nat} {o : Obj} (ho : a.heap[k]? = some o) : a.drew.heap[k]? = some o := ho
theorem heap_set {a : World} {k : Nat} {c : Array Value} {t : TypeId} {fz : Nat × Nat} (h : a.heap[k]? = some (.cells c t fz)) (i : Nat) (v : Value) :
    (a.setCell ⟨k, i, none⟩ v).heap[k]? = some (.cells (c.setIfInBounds i v) t fz) := by
  simp [World.setCell, Array.getElem?_modify, h]
theorem heap_set_other {a : World} {k : Nat} {o : Obj} (h : a.heap[k]? = some o) (p : Addr) (v : Value) (hne : p.block ≠ k) :
    (a.setCell p v).heap[k]? = some o := by
  simp [World.setCell, Array.getElem?_modify, h, hne]
theorem heap_newn {w : World} {n : Nat} {o : Obj} (h : n = w.heap.size) : (w.alloc o).heap[n]? = some o := h ▸ heap_alloc_new w o
/-! a block of a few cells, written out -/
theorem blk1 {w : World} {b : Nat} {x0 : Value} {t : TypeId} (h : w.heap[b]? = some (.cells #[x0] t)) : w.cell? ⟨b, 0, none⟩ = some x0 ∧ w.frozen? ⟨b, 0, none⟩ = false ∧ b < w.heap.size :=
  ⟨by simp [World.cell?, h], by simp [World.frozen?, h], (Array.getElem?_eq_some_iff.1 h).1⟩
theorem blk2 {w : World} {b : Nat} {x0 x1 : Value} {t : TypeId} (h : w.heap[b]? = some (.cells #[x0, x1] t)) : w.cell? ⟨b, 0, none⟩ = some x0 ∧ w.cell? ⟨b, 1, none⟩ = some x1 ∧ w.frozen? ⟨b, 0, none⟩ = false ∧ w.frozen? ⟨b, 1, none⟩ = false ∧ b < w.heap.size :=
  ⟨by simp [World.cell?, h], by simp [World.cell?, h], by simp [World.frozen?, h], by simp [World.frozen?, h], (Array.getElem?_eq_some_iff.1 h).1⟩
theorem blk3 {w : World} {b : Nat} {x0 x1 x2 : Value} {t : TypeId} (h : w.heap[b]? = some (.cells #[x0, x1, x2] t)) : w.cell? ⟨b, 0, none⟩ = some x0 ∧ w.cell? ⟨b, 1, none⟩ = some x1 ∧ w.cell? ⟨b, 2, none⟩ = some x2 ∧ w.frozen? ⟨b, 0, none⟩ = false ∧ w.frozen? ⟨b, 1, none⟩ = false ∧ w.frozen? ⟨b, 2, none⟩ = false ∧ b < w.heap.size :=
  ⟨by simp [World.cell?, h], by simp [World.cell?, h], by simp [World.cell?, h], by simp [World.frozen?, h], by simp [World.frozen?, h], by simp [World.frozen?, h], (Array.getElem?_eq_some_iff.1 h).1⟩
theorem blk4 {w : World} {b : Nat} {x0 x1 x2 x3 : Value} {t : TypeId} (h : w.heap[b]? = some (.cells #[x0, x1, x2, x3] t)) : w.cell? ⟨b, 0, none⟩ = some x0 ∧ w.cell? ⟨b, 1, none⟩ = some x1 ∧ w.cell? ⟨b, 2, none⟩ = some x2 ∧ w.cell? ⟨b, 3, none⟩ = some x3 ∧ w.frozen? ⟨b, 0, none⟩ = false ∧ w.frozen? ⟨b, 1, none⟩ = false ∧ w.frozen? ⟨b, 2, none⟩ = false ∧ w.frozen? ⟨b, 3, none⟩ = false ∧ b < w.heap.size :=
  ⟨by simp [World.cell?, h], by simp [World.cell?, h], by simp [World.cell?, h], by simp [World.cell?, h], by simp [World.frozen?, h], by simp [World.frozen?, h], by simp [World.frozen?, h], by simp [World.frozen?, h], (Array.getElem?_eq_some_iff.1 h).1⟩
theorem blk9 {w : World} {b : Nat} {x0 x1 x2 x3 x4 x5 x6 x7 x8 : Value} {t : TypeId} (h : w.heap[b]? = some (.cells #[x0, x1, x2, x3, x4, x5, x6, x7, x8] t)) : w.cell? ⟨b, 0, none⟩ = some x0 ∧ w.cell? ⟨b, 1, none⟩ = some x1 ∧ w.cell? ⟨b, 2, none⟩ = some x2 ∧ w.cell? ⟨b, 3, none⟩ = some x3 ∧ w.cell? ⟨b, 4, none⟩ = some x4 ∧ w.cell? ⟨b, 5, none⟩ = some x5 ∧ w.cell? ⟨b, 6, none⟩ = some x6 ∧ w.cell? ⟨b, 7, none⟩ = some x7 ∧ w.cell? ⟨b, 8, none⟩ = some x8 ∧ w.frozen? ⟨b, 0, none⟩ = false ∧ w.frozen? ⟨b, 1, none⟩ = false ∧ w.frozen? ⟨b, 2, none⟩ = false ∧ w.frozen? ⟨b, 3, none⟩ = false ∧ w.frozen? ⟨b, 4, none⟩ = false ∧ w.frozen? ⟨b, 5, none⟩ = false ∧ w.frozen? ⟨b, 6, none⟩ = false ∧ w.frozen? ⟨b, 7, none⟩ = false ∧ w.frozen? ⟨b, 8, none⟩ = false ∧ b < w.heap.size :=
  ⟨by simp [World.cell?, h], by simp [World.cell?, h], by simp [World.cell?, h], by simp [World.cell?, h], by simp [World.cell?, h], by simp [World.cell?, h], by simp [World.cell?, h], by simp [World.cell?, h], by simp [World.cell?, h], by simp [World.frozen?, h], by simp [World.frozen?, h], by simp [World.frozen?, h], by simp [World.frozen?, h], by simp [World.frozen?, h], by simp [World.frozen?, h], by simp [World.frozen?, h], by simp [World.frozen?, h], by simp [World.frozen?, h], (Array.getElem?_eq_some_iff.1 h).1⟩
theorem blk12 {w : World} {b : Nat} {x0 x1 x2 x3 x4 x5 x6 x7 x8 x9 x10 x11 : Value} {t : TypeId} (h : w.heap[b]? = some (.cells #[x0, x1, x2, x3, x4, x5, x6, x7, x8, x9, x10, x11] t)) : w.cell? ⟨b, 0, none⟩ = some x0 ∧ w.cell? ⟨b, 1, none⟩ = some x1 ∧ w.cell? ⟨b, 2, none⟩ = some x2 ∧ w.cell? ⟨b, 3, none⟩ = some x3 ∧ w.cell? ⟨b, 4, none⟩ = some x4 ∧ w.cell? ⟨b, 5, none⟩ = some x5 ∧ w.cell? ⟨b, 6, none⟩ = some x6 ∧ w.cell? ⟨b, 7, none⟩ = some x7 ∧ w.cell? ⟨b, 8, none⟩ = some x8 ∧ w.cell? ⟨b, 9, none⟩ = some x9 ∧ w.cell? ⟨b, 10, none⟩ = some x10 ∧ w.cell? ⟨b, 11, none⟩ = some x11 ∧ w.frozen? ⟨b, 0, none⟩ = false ∧ w.frozen? ⟨b, 1, none⟩ = false ∧ w.frozen? ⟨b, 2, none⟩ = false ∧ w.frozen? ⟨b, 3, none⟩ = false ∧ w.frozen? ⟨b, 4, none⟩ = false ∧ w.frozen? ⟨b, 5, none⟩ = false ∧ w.frozen? ⟨b, 6, none⟩ = false ∧ w.frozen? ⟨b, 7, none⟩ = false ∧ w.frozen? ⟨b, 8, none⟩ = false ∧ w.frozen? ⟨b, 9, none⟩ = false ∧ w.frozen? ⟨b, 10, none⟩ = false ∧ w.frozen? ⟨b, 11, none⟩ = false ∧ b < w.heap.size :=
  ⟨by simp [World.cell?, h], by simp [World.cell?, h], by simp [World.cell?, h], by simp [World.cell?, h], by simp [World.cell?, h], by simp [World.cell?, h], by simp [World.cell?, h], by simp [World.cell?, h], by simp [World.cell?, h], by simp [World.cell?, h], by simp [World.cell?, h], by simp [World.cell?, h], by simp [World.frozen?, h], by simp [World.frozen?, h], by simp [World.frozen?, h], by simp [World.frozen?, h], by simp [World.frozen?, h], by simp [World.frozen?, h], by simp [World.frozen?, h], by simp [World.frozen?, h], by simp [World.frozen?, h], by simp [World.frozen?, h], by simp [World.frozen?, h], by simp [World.frozen?, h], (Array.getElem?_eq_some_iff.1 h).1⟩
theorem blk15 {w : World} {b : Nat} {x0 x1 x2 x3 x4 x5 x6 x7 x8 x9 x10 x11 x12 x13 x14 : Value} {t : TypeId} (h : w.heap[b]? = some (.cells #[x0, x1, x2, x3, x4, x5, x6, x7, x8, x9, x10, x11, x12, x13, x14] t)) : w.cell? ⟨b, 0, none⟩ = some x0 ∧ w.cell? ⟨b, 1, none⟩ = some x1 ∧ w.cell? ⟨b, 2, none⟩ = some x2 ∧ w.cell? ⟨b, 3, none⟩ = some x3 ∧ w.cell? ⟨b, 4, none⟩ = some x4 ∧ w.cell? ⟨b, 5, none⟩ = some x5 ∧ w.cell? ⟨b, 6, none⟩ = some x6 ∧ w.cell? ⟨b, 7, none⟩ = some x7 ∧ w.cell? ⟨b, 8, none⟩ = some x8 ∧ w.cell? ⟨b, 9, none⟩ = some x9 ∧ w.cell? ⟨b, 10, none⟩ = some x10 ∧ w.cell? ⟨b, 11, none⟩ = some x11 ∧ w.cell? ⟨b, 12, none⟩ = some x12 ∧ w.cell? ⟨b, 13, none⟩ = some x13 ∧ w.cell? ⟨b, 14, none⟩ = some x14 ∧ w.frozen? ⟨b, 0, none⟩ = false ∧ w.frozen? ⟨b, 1, none⟩ = false ∧ w.frozen? ⟨b, 2, none⟩ = false ∧ w.frozen? ⟨b, 3, none⟩ = false ∧ w.frozen? ⟨b, 4, none⟩ = false ∧ w.frozen? ⟨b, 5, none⟩ = false ∧ w.frozen? ⟨b, 6, none⟩ = false ∧ w.frozen? ⟨b, 7, none⟩ = false ∧ w.frozen? ⟨b, 8, none⟩ = false ∧ w.frozen? ⟨b, 9, none⟩ = false ∧ w.frozen? ⟨b, 10, none⟩ = false ∧ w.frozen? ⟨b, 11, none⟩ = false ∧ w.frozen? ⟨b, 12, none⟩ = false ∧ w.frozen? ⟨b, 13, none⟩ = false ∧ w.frozen? ⟨b, 14, none⟩ = false ∧ b < w.heap.size :=
  ⟨by simp [World.cell?, h], by simp [World.cell?, h], by simp [World.cell?, h], by simp [World.cell?, h], by simp [World.cell?, h], by simp [World.cell?, h], by simp [World.cell?, h], by simp [World.cell?, h], by simp [World.cell?, h], by simp [World.cell?, h], by simp [World.cell?, h], by simp [World.cell?, h], by simp [World.cell?, h], by simp [World.cell?, h], by simp [World.cell?, h], by simp [World.frozen?, h], by simp [World.frozen?, h], by simp [World.frozen?, h], by simp [World.frozen?, h], by simp [World.frozen?, h], by simp [World.frozen?, h], by simp [World.frozen?, h], by simp [World.frozen?, h], by simp [World.frozen?, h], by simp [World.frozen?, h], by simp [World.frozen?, h], by simp [World.frozen?, h], by simp [World.frozen?, h], by simp [World.frozen?, h], by simp [World.frozen?, h], (Array.getElem?_eq_some_iff.1 h).1⟩
theorem blk17 {w : World} {b : Nat} {x0 x1 x2 x3 x4 x5 x6 x7 x8 x9 x10 x11 x12 x13 x14 x15 x16 : Value} {t : TypeId} (h : w.heap[b]? = some (.cells #[x0, x1, x2, x3, x4, x5, x6, x7, x8, x9, x10, x11, x12, x13, x14, x15, x16] t)) : w.cell? ⟨b, 0, none⟩ = some x0 ∧ w.cell? ⟨b, 1, none⟩ = some x1 ∧ w.cell? ⟨b, 2, none⟩ = some x2 ∧ w.cell? ⟨b, 3, none⟩ = some x3 ∧ w.cell? ⟨b, 4, none⟩ = some x4 ∧ w.cell? ⟨b, 5, none⟩ = some x5 ∧ w.cell? ⟨b, 6, none⟩ = some x6 ∧ w.cell? ⟨b, 7, none⟩ = some x7 ∧ w.cell? ⟨b, 8, none⟩ = some x8 ∧ w.cell? ⟨b, 9, none⟩ = some x9 ∧ w.cell? ⟨b, 10, none⟩ = some x10 ∧ w.cell? ⟨b, 11, none⟩ = some x11 ∧ w.cell? ⟨b, 12, none⟩ = some x12 ∧ w.cell? ⟨b, 13, none⟩ = some x13 ∧ w.cell? ⟨b, 14, none⟩ = some x14 ∧ w.cell? ⟨b, 15, none⟩ = some x15 ∧ w.cell? ⟨b, 16, none⟩ = some x16 ∧ w.frozen? ⟨b, 0, none⟩ = false ∧ w.frozen? ⟨b, 1, none⟩ = false ∧ w.frozen? ⟨b, 2, none⟩ = false ∧ w.frozen? ⟨b, 3, none⟩ = false ∧ w.frozen? ⟨b, 4, none⟩ = false ∧ w.frozen? ⟨b, 5, none⟩ = false ∧ w.frozen? ⟨b, 6, none⟩ = false ∧ w.frozen? ⟨b, 7, none⟩ = false ∧ w.frozen? ⟨b, 8, none⟩ = false ∧ w.frozen? ⟨b, 9, none⟩ = false ∧ w.frozen? ⟨b, 10, none⟩ = false ∧ w.frozen? ⟨b, 11, none⟩ = false ∧ w.frozen? ⟨b, 12, none⟩ = false ∧ w.frozen? ⟨b, 13, none⟩ = false ∧ w.frozen? ⟨b, 14, none⟩ = false ∧ w.frozen? ⟨b, 15, none⟩ = false ∧ w.frozen? ⟨b, 16, none⟩ = false ∧ b < w.heap.size :=
  ⟨by simp [World.cell?, h], by simp [World.cell?, h], by simp [World.cell?, h], by simp [World.cell?, h], by simp [World.cell?, h], by simp [World.cell?, h], by simp [World.cell?, h], by simp [World.cell?, h], by simp [World.cell?, h], by simp [World.cell?, h], by simp [World.cell?, h], by simp [World.cell?, h], by simp [World.cell?, h], by simp [World.cell?, h], by simp [World.cell?, h], by simp [World.cell?, h], by simp [World.cell?, h], by simp [World.frozen?, h], by simp [World.frozen?, h], by simp [World.frozen?, h], by simp [World.frozen?, h], by simp [World.frozen?, h], by simp [World.frozen?, h], by simp [World.frozen?, h], by simp [World.frozen?, h], by simp [World.frozen?, h], by simp [World.frozen?, h], by simp [World.frozen?, h], by simp [World.frozen?, h], by simp [World.frozen?, h], by simp [World.frozen?, h], by simp [World.frozen?, h], by simp [World.frozen?, h], by simp [World.frozen?, h], (Array.getElem?_eq_some_iff.1 h).1⟩

/-- The world is of the program's shape. -/
structure Sh (w : World) : Prop where
  s : w.ShapedOpen Tryz.prog
theorem Sh.gr {a b : World} (h : Sh a) (hb : Gr a b) : Sh b := ⟨h.s.keptBut (hb.b.frame (fun _ => False)) (fun _ h => h.elim)⟩
theorem Sh.alloc {a : World} (h : Sh a) (o : Obj) : Sh (a.alloc o) := h.gr ((Gr.refl a).alloc o)
theorem Sh.drew {a : World} (h : Sh a) : Sh a.drew := h.gr (Gr.refl a).drew

theorem info5 : (Tryz.prog.info? 5).map (fun i => (i.zero, i.size, i.bytes)) = some (some (.int .u8 0), 1, 1) := by kernel_rfl

/-- string(b), b the head of a row of bytes -/
theorem conv_row {W : World} {b n c : Nat} {cur : Array Value} {t : TypeId} {fz : Nat × Nat} (xs : List Int) (h : W.heap[b]? = some (.cells cur t fz)) (hx : cur.toList.take n = xs.map (Value.int .u8)) (hn : xs.length = n) :
    (convert 133 9 (.slice (some ⟨b, 0, none⟩) n c)).run Tryz.prog W = .ok (.string (strOfNums xs)) W := by
  refine run_convert_bytes_arg W 133 5 Tryz.underlying133 Tryz.underlying5 b 0 n c xs hn (fun i hi => ?_) 9 Tryz.underlying9
  have h1 : (cur.toList.take n)[i]? = (xs.map (Value.int .u8))[i]? := by rw [hx]
  rw [List.getElem?_take, if_pos hi] at h1
  simp only [World.cell?, h, Nat.zero_add]
  have hi' : i < xs.length := by omega
  simp only [List.getElem?_map, List.getElem?_eq_getElem hi', Option.map_some, Array.getElem?_toList] at h1
  simp [h1, List.getD, List.getElem?_eq_getElem hi']

/-- string(b), b the call's own -/
theorem conv_own {W : World} {base n : Nat} {v : Value} (xs : List Int) (h : W.ownsRow base 5 1 v n (xs.map (Value.int .u8))) :
    (convert 133 9 v).run Tryz.prog W = .ok (.string (strOfNums xs)) W := by
  have hl := h.1
  simp only [List.length_map, Nat.mul_one] at hl
  rcases h.2 with ⟨rfl, hn⟩ | ⟨g, cap, cur, rfl, _, hg, _, _, _, ht⟩
  · have : xs = [] := List.length_eq_zero_iff.1 (by omega)
    subst this
    exact run_convert_bytes_nil W 133 5 Tryz.underlying133 Tryz.underlying5 0 0 9 Tryz.underlying9
  · exact conv_row xs hg (by simpa using ht) hl

/-- bytes as numbers -/
def nums (l : List UInt8) : List Int := l.map fun c => (c.toNat : Int)
theorem strOfNums_nums (l : List UInt8) : strOfNums (nums l) = ⟨l.toArray⟩ := by
  simp only [strOfNums, nums, List.map_map]
  congr 2
  conv => rhs; rw [← List.map_id l]
  apply List.map_congr_left
  intro c _
  simp
theorem nums_append (a b : List UInt8) : nums (a ++ b) = nums a ++ nums b := by simp [nums]
theorem nums_length (a : List UInt8) : (nums a).length = a.length := by simp [nums]
theorem len_own {W : World} {base size n : Nat} {e t ty : TypeId} {v : Value} {xs : List Value} (ht : Tryz.prog.underlying t = some (.slice e)) (h : W.ownsRow base e size v n xs) :
    (Builtin.len_ #[t] ty #[v]).run Tryz.prog W = .ok (.int .i64 n) W := by
  rcases h.2 with ⟨rfl, rfl⟩ | ⟨g, cap, cur, rfl, _, _, h1, h2, _⟩
  · simp [Builtin.len_, run_underlying ht, go_sem]
  · simp [Builtin.len_, run_underlying ht, go_sem]

/-- append of bytes that were written out, to a slice of the call's own -/
theorem app_bytes {w0 W : World} (hg : Gr w0 W) {ops : Array Oper} {rest : List Oper} {o : Oper} {a : Act} {Q : Exit → Act → World → Prop} (hgd : o.guard = none) (s x : Operand)
    (ho : o.op = .call { callee := .builtin .append, args := #[s, x], argTypes := #[133, 133] }) {v : Value} (xs news : List Int) (hs : a.eval s = v)
    (hown : W.ownsRow w0.heap.size 5 1 v xs.length (xs.map (Value.int .u8))) {cur : Array Value} (hc : cur = (news.map (Value.int .u8)).toArray) {m c : Nat} (hx : a.eval x = .slice (some ⟨W.heap.size, 0, none⟩) m c)
    (hm : m = news.length) (hlen : xs.length + news.length ≤ 140737488355328)
    (h : ∀ v' w', w'.ownsRow w0.heap.size 5 1 v' (xs ++ news).length ((xs ++ news).map (Value.int .u8)) → Gr w0 w' → wpList Tryz.prog ops Q rest (a.put o.dst v') w') :
    wpList Tryz.prog ops Q (o :: rest) a (W.alloc (.cells cur 5)) := by
  obtain ⟨i0, hi, hz0, hz1, hz2⟩ := info_parts info5
  subst hc hm
  refine wpList_append_own _ hgd s x 133 ho w0.heap.size 5 i0 (.int .u8 0) 1 1 Tryz.underlying133 hi hz0 hz1 hz2 rfl (by decide) v xs.length _ hs (hown.alloc _) ⟨W.heap.size, 0, none⟩ news.length c (news.map (Value.int .u8)) hx (by simp)
    (fun j u hj => ?_) (fun u hu => ?_) (by unfold maxLen; omega) (by omega) (by have := hg.size; simp; omega) ?_
  · have hadd : (⟨W.heap.size, 0, none⟩ : Addr).add j = ⟨W.heap.size, j, none⟩ := by unfold Addr.add; split <;> simp_all
    rw [hadd]
    simp only [World.cell?, heap_alloc_new]
    simpa using hj
  · obtain ⟨q, _, rfl⟩ := List.mem_map.1 hu; rfl
  · intro v' w' h1 h2 _
    refine h v' w' (by simpa using h1) ((hg.alloc _).grown h2 (fun k hk => ?_))
    exact (hown.lt k hk).1

theorem ba_ext {a b : ByteArray} (h : a.data.toList = b.data.toList) : a = b := by
  cases a; cases b; congr 1; exact Array.toList_inj.1 h
theorem ext_drop (s : ByteArray) (k : Nat) : s.extract k s.size = ⟨(s.data.toList.drop k).toArray⟩ := ba_ext (Lib.extract_to_end s k)
theorem ba_mk (s : ByteArray) : s = ⟨s.data.toList.toArray⟩ := ba_ext (by simp)
theorem str_append (a b : List UInt8) : (⟨a.toArray⟩ : ByteArray) ++ ⟨b.toArray⟩ = ⟨(a ++ b).toArray⟩ := ba_ext (by
  show ((⟨a.toArray⟩ : ByteArray).append ⟨b.toArray⟩).data.toList = _
  simp)
theorem ret_int {k : IntKind} {a b : Int} (h : a = b) : Ending.returned (.int k a) = .returned (.int k b) := by rw [h]
theorem ret_bool {a b : Bool} (h : a = b) : Ending.returned (.bool a) = .returned (.bool b) := by rw [h]
end Go.Proofs.YthgecojbggoniaaGreatDoor
namespace Go.Proofs.YthgecojbggoniaaGreatDoor
open Go.ChangeShapes Go.WideShapes Go.ChangeAt Go.RowKit
set_option linter.unusedVariables false

inductive Sh0 where
  | int | u8 | bool | str
  | st (fs : List Sh0)
  | sl (e : Sh0)
inductive Dat where
  | int (z : Int)
  | bool (b : Bool)
  | str (s : ByteArray)
  | st (l : List Dat)
  | sl (l : List Dat)

mutual
def Sh0.size : Sh0 → Nat
  | .st fs => Sh0.sizes fs
  | .int => 1 | .u8 => 1 | .bool => 1 | .str => 1
  | .sl _ => 1
def Sh0.sizes : List Sh0 → Nat
  | [] => 0
  | f :: r => f.size + Sh0.sizes r
end
mutual
def fitsB (P : Program) : Sh0 → TypeId → Bool
  | .int, t => (match P.underlying t with | some (.int .i64) => true | _ => false)
  | .u8, t => (match P.underlying t with | some (.int .u8) => true | _ => false)
  | .bool, t => (match P.underlying t with | some .bool => true | _ => false)
  | .str, t => (match P.underlying t with | some .string => true | _ => false)
  | .st fs, t => (match P.underlying t with
    | some (.struct F) => P.cellsOf t == Sh0.sizes fs && fitsF P fs F.toList 0
    | some (.array n q) => P.cellsOf t == Sh0.sizes fs && n == fs.length && fitsA P fs q
    | _ => false)
  | .sl e, t => (match P.underlying t with
    | some (.slice q) => P.cellsOf q == e.size && decide (1 ≤ e.size) && decide (1 ≤ P.bytesOf q) && fitsB P e q
    | _ => false)
def fitsF (P : Program) : List Sh0 → List Field → Nat → Bool
  | [], [], _ => true
  | s :: ss, f :: fs, o => f.offset == o && P.cellsOf f.type == s.size && fitsB P s f.type && fitsF P ss fs (o + s.size)
  | _, _, _ => false
def fitsA (P : Program) : List Sh0 → TypeId → Bool
  | [], _ => true
  | s :: ss, q => P.cellsOf q == s.size && fitsB P s q && fitsA P ss q
end

mutual
/-- these cells, in this world, are this datum; texts and slices have at most M elements -/
def rep (M : Nat) (w : World) : Sh0 → List Value → Dat → Prop
  | .int, cs, .int z => cs = [.int .i64 z] ∧ -9223372036854775808 ≤ z ∧ z ≤ 9223372036854775807
  | .u8, cs, .int z => cs = [.int .u8 z] ∧ 0 ≤ z ∧ z ≤ 255
  | .bool, cs, .bool b => cs = [.bool b]
  | .str, cs, .str s => cs = [.string s] ∧ s.size ≤ M
  | .st fs, cs, .st l => reps M w fs cs l
  | .sl e, cs, .sl l => (l = [] ∧ ∃ q c, cs = [.slice q 0 c] ∧ c ≤ maxLen ∧ (q = none → c = 0)) ∨
      ∃ blk off cap, cs = [.slice (some ⟨blk, off, none⟩) l.length cap] ∧ 0 < l.length ∧ l.length ≤ M ∧ l.length ≤ cap ∧ cap ≤ maxLen ∧ blk < w.heap.size ∧
        ∀ (i : Nat) (h : i < l.length), ∃ ds : List Value, ds.length = e.size ∧ (∀ (j : Nat) (hj : j < ds.length), w.cell? ⟨blk, off + (i * e.size + j), none⟩ = some ds[j]) ∧ rep M w e ds l[i]
  | _, _, _ => False
def reps (M : Nat) (w : World) : List Sh0 → List Value → List Dat → Prop
  | [], cs, [] => cs = []
  | s :: ss, cs, d :: ds => ∃ a b, cs = a ++ b ∧ rep M w s a d ∧ reps M w ss b ds
  | _, _, _ => False
end

mutual
/-- texts and slices of a datum have at most M elements -/
def lensLe {H : Type} (M : Nat) : DataW H → Prop
  | .lit (.string b) => b.length ≤ M
  | .slice el _ => el.length ≤ M ∧ lensLeL M el
  | .agg l => lensLeL M l
  | _ => True
def lensLeL {H : Type} (M : Nat) : List (DataW H) → Prop
  | [] => True
  | d :: r => lensLe M d ∧ lensLeL M r
end
theorem lensLeL_mem {H : Type} {M : Nat} : ∀ {l : List (DataW H)}, lensLeL M l → ∀ d ∈ l, lensLe M d
  | d :: r, h, x, hx => by
    rcases List.mem_cons.1 hx with rfl | hx
    · exact h.1
    · exact lensLeL_mem h.2 x hx

theorem list_of_all {α : Type} {n : Nat} {Q : Nat → α → Prop} (h : ∀ i, i < n → ∃ a, Q i a) : ∃ l : List α, l.length = n ∧ ∀ (i : Nat) (hi : i < l.length), Q i l[i] := by
  induction n with
  | zero => exact ⟨[], rfl, fun i hi => by simp at hi⟩
  | succ n ih =>
    obtain ⟨l, hl, hq⟩ := ih (fun i hi => h i (by omega))
    obtain ⟨a, ha⟩ := h n (by omega)
    refine ⟨l ++ [a], by simp [hl], fun i hi => ?_⟩
    by_cases hin : i < l.length
    · rw [List.getElem_append_left hin]; exact hq i hin
    · have : i = n := by simp [hl] at hi; omega
      subst this
      rw [List.getElem_append_right (by omega)]
      simpa [hl] using ha

section
variable {H : Type} {enc : TypeId × Value → H} {P : Program} {w : World} {base : Nat} {spare : Nat → Bool} {held : Bool} {M : Nat}

mutual
theorem open_rep : ∀ (s : Sh0) (t : TypeId) (fuel : Nat) (cs : List Value) (x : DataW H × List MemPlace), fitsB P s t = true → DataW.trod enc P w base spare held fuel t cs = some x → lensLe M x.1 → ∃ d, rep M w s cs d
  | .int, t, fuel, cs, x, hf, h, hM => by
    simp only [fitsB] at hf
    split at hf <;> simp at hf
    rename_i hu
    obtain ⟨n, rfl, rfl, hw⟩ := DataW.trod_int hu h
    exact ⟨.int n, rfl, bounds_i64 hw⟩
  | .u8, t, fuel, cs, x, hf, h, hM => by
    simp only [fitsB] at hf
    split at hf <;> simp at hf
    rename_i hu
    obtain ⟨n, rfl, rfl, hw⟩ := DataW.trod_int hu h
    exact ⟨.int n, rfl, bounds_u8 hw⟩
  | .bool, t, fuel, cs, x, hf, h, hM => by
    simp only [fitsB] at hf
    split at hf <;> simp at hf
    rename_i hu
    obtain ⟨b, rfl, rfl⟩ := DataW.trod_bool hu h
    exact ⟨.bool b, rfl⟩
  | .str, t, fuel, cs, x, hf, h, hM => by
    simp only [fitsB] at hf
    split at hf <;> simp at hf
    rename_i hu
    obtain ⟨s, rfl, rfl, hs⟩ := DataW.trod_string hu h
    exact ⟨.str s, rfl, by simpa [lensLe] using hM⟩
  | .st fs, t, fuel, cs, x, hf, h, hM => by
    simp only [fitsB] at hf
    split at hf
    · rename_i F hu
      simp only [Bool.and_eq_true, beq_iff_eq] at hf
      obtain ⟨xs, n, rfl, rfl, hl, hxl, hx⟩ := DataW.trod_struct hu h
      have hM' : lensLeL M (xs.map (·.1)) := by simpa [lensLe] using hM
      obtain ⟨ds, hd⟩ := open_reps fs F.toList 0 n cs xs hf.2 (fun i f hi => hx i f (by rw [← hi, Array.getElem?_toList])) (by simpa using hxl) (by rw [hl, hf.1]; simp)
        (fun y hy => lensLeL_mem hM' _ (List.mem_map_of_mem hy))
      exact ⟨.st ds, by simpa [rep] using hd⟩
    · rename_i nn q hu
      simp only [Bool.and_eq_true, beq_iff_eq] at hf
      obtain ⟨xs, n, rfl, rfl, hl, hxl, hx⟩ := DataW.trod_array hu h
      have hM' : lensLeL M (xs.map (·.1)) := by simpa [lensLe] using hM
      obtain ⟨ds, hd⟩ := open_repsA fs q 0 n cs xs hf.2 (fun i hi => by simpa using hx i (by rw [hf.1.2]; exact hi)) (by rw [hxl, hf.1.2]) (by rw [hl, hf.1.1]; simp)
        (fun y hy => lensLeL_mem hM' _ (List.mem_map_of_mem hy))
      exact ⟨.st ds, by simpa [rep] using hd⟩
    · simp at hf
  | .sl e, t, fuel, cs, x, hf, h, hM => by
    simp only [fitsB] at hf
    split at hf
    · rename_i q hu
      simp only [Bool.and_eq_true, beq_iff_eq] at hf
      rcases Go.Deep.open_slice hu h with ⟨rfl, rfl⟩ | ⟨a, len, cap, m, n, D, Pl, rfl, hb, hl, hm, hmm, rfl, hi⟩
      · exact ⟨.sl [], by rw [rep]; exact .inl ⟨rfl, none, 0, rfl, by unfold maxLen; omega, fun _ => rfl⟩⟩
      · have hM' : len ≤ M ∧ lensLeL M ((List.range len).map D) := by simpa [lensLe] using hM
        by_cases h0 : len = 0
        · subst h0
          refine ⟨.sl [], ?_⟩
          rw [rep]
          exact .inl ⟨rfl, _, _, rfl, hm, fun h => by simp at h⟩
        · have hmi : len ≤ m := by rw [hmm]; split <;> omega
          have hal : ∀ i, i < len → ∃ d : Dat, ∃ ds : List Value, ds.length = e.size ∧ (∀ (j : Nat) (hj : j < ds.length), w.cell? (a.add (i * e.size + j)) = some ds[j]) ∧ rep M w e ds d := by
            intro i hil
            obtain ⟨cs', hc, ht⟩ := hi i (by omega)
            obtain ⟨_, hcl, hat⟩ := World.cells?_some hc
            have hMi : lensLe M (D i) := lensLeL_mem hM'.2 _ (List.mem_map_of_mem (List.mem_range.2 hil))
            obtain ⟨d, hd⟩ := open_rep e q n cs' (D i, Pl i) hf.2 ht hMi
            refine ⟨d, cs', by rw [hcl, hf.1.1.1], fun j hj => ?_, hd⟩
            have := hat j (by omega)
            rw [Go.Deep.add_add, hf.1.1.1] at this
            rw [this]
            exact List.getElem?_eq_getElem hj
          obtain ⟨l, hll, hq⟩ := list_of_all hal
          refine ⟨.sl l, ?_⟩
          rw [rep]
          obtain ⟨b, off, spot⟩ := a
          -- the first element is read: so the address is plain
          have hz : 1 ≤ e.size := by simpa using hf.1.1.2
          · have hpl : spot = none := by
              obtain ⟨ds, h1, h2, _⟩ := hq 0 (by omega)
              have := h2 0 (by omega)
              simp [Addr.add] at this
              exact World.cell?_spot this
            subst hpl
            have hbl : b < w.heap.size := by
              obtain ⟨ds, h1, h2, _⟩ := hq 0 (by omega)
              have := h2 0 (by omega)
              simp [Addr.add] at this
              exact World.block_lt_of_cell? w ⟨b, off, none⟩ this
            refine .inr ⟨b, off, cap, by rw [hll], by omega, by omega, by omega, hm, hbl, fun i hil => ?_⟩
            obtain ⟨ds, h1, h2, h3⟩ := hq i hil
            exact ⟨ds, h1, fun j hj => by rw [← Addr.add_lit]; exact h2 j hj, h3⟩
    · simp at hf
theorem open_reps : ∀ (ss : List Sh0) (fs : List Field) (o n : Nat) (cs : List Value) (xs : List (DataW H × List MemPlace)), fitsF P ss fs o = true →
    (∀ (i : Nat) (f : Field), fs[i]? = some f → DataW.trod enc P w base spare held n f.type ((cs.drop f.offset).take (P.cellsOf f.type)) = xs[i]?) → xs.length = fs.length → cs.length = o + Sh0.sizes ss → (∀ y ∈ xs, lensLe M y.1) → ∃ ds, reps M w ss (cs.drop o) ds
  | [], fs, o, n, cs, xs, hf, hx, hxl, hl, hM => by
    cases fs with
    | nil => exact ⟨[], by simp [reps, Sh0.sizes] at hl ⊢; omega⟩
    | cons => simp [fitsF] at hf
  | s :: ss, fs, o, n, cs, xs, hf, hx, hxl, hl, hM => by
    cases fs with
    | nil => simp [fitsF] at hf
    | cons f fs =>
      simp only [fitsF, Bool.and_eq_true, beq_iff_eq] at hf
      obtain ⟨⟨⟨ho, hc⟩, hb⟩, hr⟩ := hf
      cases xs with
      | nil => simp at hxl
      | cons y ys =>
        have h0 := hx 0 f rfl
        simp only [List.getElem?_cons_zero] at h0
        obtain ⟨d, hd⟩ := open_rep s f.type n _ y hb h0 (hM y (List.mem_cons_self ..))
        obtain ⟨ds, hds⟩ := open_reps ss fs (o + s.size) n cs ys hr (fun i g hi => by simpa using hx (i + 1) g (by simpa using hi)) (by simpa using hxl) (by simp [Sh0.sizes] at hl; omega) (fun z hz => hM z (List.mem_cons_of_mem _ hz))
        refine ⟨d :: ds, ?_⟩
        rw [reps]
        refine ⟨_, _, ?_, hd, hds⟩
        rw [ho, hc, ← List.drop_drop]
        exact (List.take_append_drop _ _).symm
theorem open_repsA : ∀ (ss : List Sh0) (q : TypeId) (k n : Nat) (cs : List Value) (xs : List (DataW H × List MemPlace)), fitsA P ss q = true →
    (∀ (i : Nat), i < ss.length → DataW.trod enc P w base spare held n q ((cs.drop ((k + i) * P.cellsOf q)).take (P.cellsOf q)) = xs[i]?) → xs.length = ss.length → cs.length = k * P.cellsOf q + Sh0.sizes ss → (∀ y ∈ xs, lensLe M y.1) → ∃ ds, reps M w ss (cs.drop (k * P.cellsOf q)) ds
  | [], q, k, n, cs, xs, hf, hx, hxl, hl, hM => ⟨[], by simp [reps, Sh0.sizes] at hl ⊢; omega⟩
  | s :: ss, q, k, n, cs, xs, hf, hx, hxl, hl, hM => by
    simp only [fitsA, Bool.and_eq_true, beq_iff_eq] at hf
    obtain ⟨⟨hc, hb⟩, hr⟩ := hf
    cases xs with
    | nil => simp at hxl
    | cons y ys =>
      have h0 := hx 0 (by simp)
      simp only [List.getElem?_cons_zero, Nat.add_zero] at h0
      obtain ⟨d, hd⟩ := open_rep s q n _ y hb h0 (hM y (List.mem_cons_self ..))
      obtain ⟨ds, hds⟩ := open_repsA ss q (k + 1) n cs ys hr (fun i hi => by simpa [Nat.add_assoc, Nat.add_comm 1 i] using hx (i + 1) (by simpa using hi)) (by simpa using hxl) (by simp [Sh0.sizes, Nat.add_mul] at hl ⊢; omega) (fun z hz => hM z (List.mem_cons_of_mem _ hz))
      refine ⟨d :: ds, ?_⟩
      rw [reps]
      refine ⟨_, _, ?_, hd, hds⟩
      rw [Nat.add_mul, Nat.one_mul, ← List.drop_drop]
      exact (List.take_append_drop _ _).symm
end

end

mutual
theorem rep.gr {M : Nat} {a b : World} (hg : Gr a b) : ∀ {s : Sh0} {cs : List Value} {d : Dat}, rep M a s cs d → rep M b s cs d
  | .int, cs, .int z, h => by rw [rep] at h ⊢; exact h
  | .u8, cs, .int z, h => by rw [rep] at h ⊢; exact h
  | .bool, cs, .bool z, h => by rw [rep] at h ⊢; exact h
  | .str, cs, .str z, h => by rw [rep] at h ⊢; exact h
  | .st fs, cs, .st l, h => by rw [rep] at h ⊢; exact reps.gr hg h
  | .sl e, cs, .sl l, h => by
    rw [rep] at h ⊢
    rcases h with h | ⟨blk, off, cap, h1, h2, h3, h4, h5, h6, h7⟩
    · exact .inl h
    · refine .inr ⟨blk, off, cap, h1, h2, h3, h4, h5, Nat.lt_of_lt_of_le h6 hg.size, fun i hi => ?_⟩
      obtain ⟨ds, k1, k2, k3⟩ := h7 i hi
      exact ⟨ds, k1, fun j hj => hg.cell' (k2 j hj), rep.gr hg k3⟩
  | .int, cs, .bool _, h => by simp [rep] at h
  | .int, cs, .str _, h => by simp [rep] at h
  | .int, cs, .st _, h => by simp [rep] at h
  | .int, cs, .sl _, h => by simp [rep] at h
  | .u8, cs, .bool _, h => by simp [rep] at h
  | .u8, cs, .str _, h => by simp [rep] at h
  | .u8, cs, .st _, h => by simp [rep] at h
  | .u8, cs, .sl _, h => by simp [rep] at h
  | .bool, cs, .int _, h => by simp [rep] at h
  | .bool, cs, .str _, h => by simp [rep] at h
  | .bool, cs, .st _, h => by simp [rep] at h
  | .bool, cs, .sl _, h => by simp [rep] at h
  | .str, cs, .int _, h => by simp [rep] at h
  | .str, cs, .bool _, h => by simp [rep] at h
  | .str, cs, .st _, h => by simp [rep] at h
  | .str, cs, .sl _, h => by simp [rep] at h
  | .st _, cs, .int _, h => by simp [rep] at h
  | .st _, cs, .bool _, h => by simp [rep] at h
  | .st _, cs, .str _, h => by simp [rep] at h
  | .st _, cs, .sl _, h => by simp [rep] at h
  | .sl _, cs, .int _, h => by simp [rep] at h
  | .sl _, cs, .bool _, h => by simp [rep] at h
  | .sl _, cs, .str _, h => by simp [rep] at h
  | .sl _, cs, .st _, h => by simp [rep] at h
theorem reps.gr {M : Nat} {a b : World} (hg : Gr a b) : ∀ {ss : List Sh0} {cs : List Value} {l : List Dat}, reps M a ss cs l → reps M b ss cs l
  | [], cs, [], h => by rw [reps] at h ⊢; exact h
  | s :: ss, cs, d :: ds, h => by
    rw [reps] at h ⊢
    obtain ⟨x, y, h1, h2, h3⟩ := h
    exact ⟨x, y, h1, rep.gr hg h2, reps.gr hg h3⟩
  | [], cs, _ :: _, h => by simp [reps] at h
  | _ :: _, cs, [], h => by simp [reps] at h
end

section
variable {M : Nat} {w : World} {cs : List Value} {d : Dat}
theorem rep_int : rep M w .int cs d ↔ ∃ z, d = .int z ∧ cs = [.int .i64 z] ∧ -9223372036854775808 ≤ z ∧ z ≤ 9223372036854775807 := by cases d <;> simp [rep]
theorem rep_bool : rep M w .bool cs d ↔ ∃ b, d = .bool b ∧ cs = [.bool b] := by cases d <;> simp [rep]
theorem rep_str : rep M w .str cs d ↔ ∃ s, d = .str s ∧ cs = [.string s] ∧ s.size ≤ M := by cases d <;> simp [rep]
theorem rep_st {fs : List Sh0} : rep M w (.st fs) cs d ↔ ∃ l, d = .st l ∧ reps M w fs cs l := by cases d <;> simp [rep]
theorem reps_nil {l : List Dat} : reps M w [] cs l ↔ l = [] ∧ cs = [] := by cases l <;> simp [reps]
theorem reps_cons {s : Sh0} {ss : List Sh0} {l : List Dat} : reps M w (s :: ss) cs l ↔ ∃ a b d ds, cs = a ++ b ∧ l = d :: ds ∧ rep M w s a d ∧ reps M w ss b ds := by
  cases l with
  | nil => simp [reps]
  | cons x r =>
    rw [reps]
    constructor
    · rintro ⟨a, b, h1, h2, h3⟩; exact ⟨a, b, x, r, h1, rfl, h2, h3⟩
    · rintro ⟨a, b, d, ds, h1, h2, h3, h4⟩
      obtain ⟨rfl, rfl⟩ := List.cons.inj h2
      exact ⟨a, b, h1, h3, h4⟩
end

/-- an argument: a struct by value is its cells; all else is one cell -/
def repV (M : Nat) (w : World) (s : Sh0) (v : Value) (d : Dat) : Prop :=
  match s with
  | .st fs => ∃ cs : List Value, v = .agg cs.toArray ∧ rep M w (.st fs) cs d
  | s => rep M w s [v] d
theorem okWide_plain {P : Program} {w : World} {r : Reach} {b : Nat} {t : TypeId} {v : Value} (hv : Value.okWide P w r b t v)
    (h : (∃ k, P.underlying t = some (.int k)) ∨ P.underlying t = some .bool ∨ P.underlying t = some .string ∨ ∃ q, P.underlying t = some (.slice q)) : v.cells.toList = [v] := by
  cases v <;> first | rfl | skip
  rename_i cs
  rcases h with ⟨k, hu⟩ | hu | hu | ⟨q, hu⟩ <;> simp [Value.okWide, hu, Cell.okWide, Cell.ok] at hv
theorem open_arg {H : Type} {enc : TypeId × Value → H} {P : Program} {w : World} {base : Nat} {spare : Nat → Bool} {held : Bool} {M : Nat} {r : Reach} {b : Nat} (s : Sh0) {t : TypeId} {v : Value} {d : DataW H} {p : List MemPlace}
    (hf : fitsB P s t = true) (hv : Value.okWide P w r b t v) (h : DataW.Trod enc P w base spare held t v d p) (hM : lensLe M d) : ∃ D, repV M w s v D := by
  obtain ⟨fuel, hfu⟩ := h
  obtain ⟨D, hD⟩ := open_rep s t fuel _ (d, p) hf hfu hM
  refine ⟨D, ?_⟩
  cases s with
  | st fs =>
    simp only [fitsB] at hf
    split at hf
    · rename_i F hu
      simp only [Value.okWide, hu] at hv
      obtain ⟨cs, rfl, _⟩ := hv
      exact ⟨cs.toList, by simp, by simpa [Value.cells] using hD⟩
    · rename_i n q hu
      simp only [Value.okWide, hu] at hv
      obtain ⟨cs, rfl, _⟩ := hv
      exact ⟨cs.toList, by simp, by simpa [Value.cells] using hD⟩
    · simp at hf
  | int =>
    simp only [fitsB] at hf
    split at hf <;> simp at hf
    rename_i hu
    rw [okWide_plain hv (.inl ⟨_, hu⟩)] at hD; exact hD
  | u8 =>
    simp only [fitsB] at hf
    split at hf <;> simp at hf
    rename_i hu
    rw [okWide_plain hv (.inl ⟨_, hu⟩)] at hD; exact hD
  | bool =>
    simp only [fitsB] at hf
    split at hf <;> simp at hf
    rename_i hu
    rw [okWide_plain hv (.inr (.inl hu))] at hD; exact hD
  | str =>
    simp only [fitsB] at hf
    split at hf <;> simp at hf
    rename_i hu
    rw [okWide_plain hv (.inr (.inr (.inl hu)))] at hD; exact hD
  | sl e =>
    simp only [fitsB] at hf
    split at hf
    · rename_i q hu
      rw [okWide_plain hv (.inr (.inr (.inr ⟨_, hu⟩)))] at hD; exact hD
    · simp at hf

/-- a slice of the call's or of an argument's that reads as this list; R: what an element's cells say -/
def RdR {α : Type} (R : World → List Value → α → Prop) (k : Nat) (w : World) (v : Value) (l : List α) : Prop :=
  (l = [] ∧ ∃ q c, v = .slice q 0 c ∧ c ≤ maxLen ∧ (q = none → c = 0)) ∨
    ∃ blk off cap, v = .slice (some ⟨blk, off, none⟩) l.length cap ∧ 0 < l.length ∧ l.length ≤ cap ∧ cap ≤ maxLen ∧ blk < w.heap.size ∧
      ∀ (i : Nat) (h : i < l.length), ∃ ds : List Value, ds.length = k ∧ (∀ (j : Nat) (hj : j < ds.length), w.cell? ⟨blk, off + (i * k + j), none⟩ = some ds[j]) ∧ R w ds l[i]
theorem RdR.gr {α : Type} {R : World → List Value → α → Prop} (hR : ∀ a b ds x, Gr a b → R a ds x → R b ds x) {k : Nat} {a b : World} (hg : Gr a b) {v : Value} {l : List α} (h : RdR R k a v l) : RdR R k b v l := by
  rcases h with h | ⟨blk, off, cap, h1, h2, h4, h5, h6, h7⟩
  · exact .inl h
  · refine .inr ⟨blk, off, cap, h1, h2, h4, h5, Nat.lt_of_lt_of_le h6 hg.size, fun i hi => ?_⟩
    obtain ⟨ds, k1, k2, k3⟩ := h7 i hi
    exact ⟨ds, k1, fun j hj => hg.cell' (k2 j hj), hR a b ds _ hg k3⟩
theorem RdR.of_rep {α : Type} {R : World → List Value → α → Prop} {M : Nat} {w : World} {e : Sh0} {Q : α → Prop} (hc : ∀ ds d, rep M w e ds d → ∃ a, R w ds a ∧ Q a) {v : Value} {d : Dat} (h : rep M w (.sl e) [v] d) :
    ∃ l, RdR R e.size w v l ∧ l.length ≤ M ∧ ∀ a ∈ l, Q a := by
  cases d with
  | sl l =>
    rw [rep] at h
    rcases h with ⟨rfl, q, c, h1, h2⟩ | ⟨blk, off, cap, h1, h2, h3, h4, h5, h6, h7⟩
    · exact ⟨[], .inl ⟨rfl, q, c, by simpa using h1, h2⟩, by simp, by simp⟩
    · have hall : ∀ i, i < l.length → ∃ a : α, (∃ ds : List Value, ds.length = e.size ∧ (∀ (j : Nat) (hj : j < ds.length), w.cell? ⟨blk, off + (i * e.size + j), none⟩ = some ds[j]) ∧ R w ds a) ∧ Q a := by
        intro i hi
        obtain ⟨ds, k1, k2, k3⟩ := h7 i hi
        obtain ⟨a, ha, hq⟩ := hc ds _ k3
        exact ⟨a, ⟨ds, k1, k2, ha⟩, hq⟩
      obtain ⟨L, hL, hq⟩ := list_of_all hall
      refine ⟨L, .inr ⟨blk, off, cap, by rw [hL]; simpa using h1, by omega, by omega, h5, h6, fun i hi => (hq i hi).1⟩, by omega, fun a ha => ?_⟩
      obtain ⟨i, hi, rfl⟩ := List.mem_iff_getElem.1 ha
      exact (hq i hi).2
  | int => simp [rep] at h
  | bool => simp [rep] at h
  | str => simp [rep] at h
  | st => simp [rep] at h
end Go.Proofs.YthgecojbggoniaaGreatDoor
namespace Go.Proofs.YthgecojbggoniaaGreatDoor
open Go.RowKit
set_option linter.unusedVariables false
set_option linter.unusedSimpArgs false

def Own (w : World) (N : Nat) (v : Value) (l : List UInt8) : Prop := w.ownsRow N 5 1 v (nums l).length ((nums l).map (Value.int .u8))
def Rd (w : World) (v : Value) (l : List UInt8) : Prop :=
  (v = .slice none 0 0 ∧ l = []) ∨ ∃ blk off cap, v = .slice (some ⟨blk, off, none⟩) l.length cap ∧ l.length ≤ cap ∧ cap ≤ maxLen ∧ blk < w.heap.size ∧
    ∀ j (h : j < l.length), w.cell? ⟨blk, off + j, none⟩ = some (.int .u8 l[j].toNat)

theorem Own.nil (w : World) (N : Nat) : Own w N (.slice none 0 0) [] := World.ownsRow_nil _ _ _ _
theorem Own.gr {a b : World} (hg : Gr a b) {N : Nat} {v : Value} {l : List UInt8} (h : Own a N v l) : Own b N v l := Gr.ownsRow hg h
theorem Own.alloc {a : World} {N : Nat} {v : Value} {l : List UInt8} (h : Own a N v l) (o : Obj) : Own (a.alloc o) N v l := h.gr ((Gr.refl a).alloc o)
theorem Own.drew {a : World} {N : Nat} {v : Value} {l : List UInt8} (h : Own a N v l) : Own a.drew N v l := h.gr (Gr.refl a).drew
theorem Own.mono {a : World} {N N' : Nat} {v : Value} {l : List UInt8} (h : Own a N v l) (hN : N' ≤ N) : Own a N' v l := ownsRow_mono h hN
theorem Own.form {a : World} {N : Nat} {v : Value} {l : List UInt8} (h : Own a N v l) :
    (v = .slice none 0 0 ∧ l = []) ∨ ∃ g cap cur, v = .slice (some ⟨g, 0, none⟩) l.length cap ∧ N ≤ g ∧ a.heap[g]? = some (.cells cur 5 (0, 0)) ∧ l.length ≤ cap ∧ cap ≤ maxLen ∧ cur.size = cap ∧ cur.toList.take l.length = (nums l).map (Value.int .u8) := by
  rcases h.2 with ⟨h1, h2⟩ | ⟨g, cap, cur, h1, h2, h3, h4, h5, h6, h7⟩
  · exact .inl ⟨h1, List.eq_nil_of_length_eq_zero (by rwa [nums_length] at h2)⟩
  · rw [nums_length] at h1 h4 h7
    exact .inr ⟨g, cap, cur, h1, h2, h3, h4, h5, by simpa using h6, by simpa using h7⟩
theorem Own.rd {a : World} {N : Nat} {v : Value} {l : List UInt8} (h : Own a N v l) : Rd a v l := by
  rcases h.form with ⟨h1, h2⟩ | ⟨g, cap, cur, h1, h2, h3, h4, h5, h6, h7⟩
  · exact .inl ⟨h1, h2⟩
  · refine .inr ⟨g, 0, cap, h1, h4, h5, (Array.getElem?_eq_some_iff.1 h3).1, fun j hj => ?_⟩
    have e : (cur.toList.take l.length)[j]? = ((nums l).map (Value.int .u8))[j]? := by rw [h7]
    rw [List.getElem?_take, if_pos hj] at e
    simp only [World.cell?, h3, Nat.zero_add]
    simp only [nums, List.map_map, List.getElem?_map, List.getElem?_eq_getElem hj, Option.map_some, Array.getElem?_toList] at e
    simp [e]
theorem Rd.gr {a b : World} (hg : Gr a b) {v : Value} {l : List UInt8} (h : Rd a v l) : Rd b v l := by
  rcases h with h | ⟨blk, off, cap, h1, h2, h3, h4, h5⟩
  · exact .inl h
  · exact .inr ⟨blk, off, cap, h1, h2, h3, Nat.lt_of_lt_of_le h4 hg.size, fun j hj => hg.cell' (h5 j hj)⟩
theorem Rd.nil (w : World) : Rd w (.slice none 0 0) [] := .inl ⟨rfl, rfl⟩

theorem grownBy_refl (w : World) (r : Option Nat) : w.grownBy w r := ⟨rfl, rfl, rfl, Nat.le_refl _, fun _ _ _ => rfl⟩

/-- append(s, x...): s the call's own, x read -/
theorem app_rd {W : World} {N : Nat} (hN : N ≤ W.heap.size) {ops : Array Oper} {rest : List Oper} {o : Oper} {a : Act} {Q : Exit → Act → World → Prop} (hgd : o.guard = none) (s x : Operand)
    (ho : o.op = .call { callee := .builtin .append, args := #[s, x], argTypes := #[133, 133] }) {v y : Value} (xs l : List UInt8) (hs : a.eval s = v) (hx : a.eval x = y)
    (hown : Own W N v xs) (hrd : Rd W y l) (hlen : xs.length + l.length ≤ 140737488355328)
    (h : ∀ v' w', Own w' N v' (xs ++ l) → W.grownBy w' v.ownBlock → wpList Tryz.prog ops Q rest (a.put o.dst v') w') : wpList Tryz.prog ops Q (o :: rest) a W := by
  obtain ⟨i0, hi, hz0, hz1, hz2⟩ := info_parts info5
  rcases hrd with ⟨rfl, rfl⟩ | ⟨blk, off, cap, rfl, h2, h3, h4, h5⟩
  · refine wpList_append_own_none hgd s x 133 ho N 5 i0 1 Tryz.underlying133 hi v _ _ hs hown hx ?_
    exact h v W (by rw [List.append_nil]; exact hown) (grownBy_refl _ _)
  · refine wpList_append_own _ hgd s x 133 ho N 5 i0 (.int .u8 0) 1 1 Tryz.underlying133 hi hz0 hz1 hz2 rfl (by decide) v _ _ hs hown ⟨blk, off, none⟩ l.length cap ((nums l).map (Value.int .u8)) hx (by simp [nums_length])
      (fun j u hj => ?_) (fun u hu => ?_) (by rw [nums_length]; unfold maxLen; omega) (by rw [nums_length]; omega) hN ?_
    · rw [Addr.add_lit]
      have hj' : j < l.length := by
        have := (List.getElem?_eq_some_iff.1 hj).1
        simpa [nums_length] using this
      rw [h5 j hj']
      simp only [nums, List.map_map, List.getElem?_map, List.getElem?_eq_getElem hj', Option.map_some] at hj
      exact hj
    · obtain ⟨q, _, rfl⟩ := List.mem_map.1 hu; rfl
    · intro v' w' h1 h2 _
      refine h v' w' ?_ h2
      unfold Own
      rw [nums_append, List.map_append, List.length_append, nums_length l]
      exact h1

/-- append(s, x...): s the call's own, x a text -/
theorem app_str {W : World} {N : Nat} (hN : N ≤ W.heap.size) {ops : Array Oper} {rest : List Oper} {o : Oper} {a : Act} {Q : Exit → Act → World → Prop} (hgd : o.guard = none) (s x : Operand)
    (ho : o.op = .call { callee := .builtin .append, args := #[s, x], argTypes := #[133, 9] }) {v : Value} (xs : List UInt8) (t : ByteArray) (hs : a.eval s = v) (hx : a.eval x = .string t)
    (hown : Own W N v xs) (hlen : xs.length + t.size ≤ 140737488355328)
    (h : ∀ v' w', Own w' N v' (xs ++ t.data.toList) → W.grownBy w' v.ownBlock → wpList Tryz.prog ops Q rest (a.put o.dst v') w') : wpList Tryz.prog ops Q (o :: rest) a W := by
  obtain ⟨i0, hi, hz0, hz1, hz2⟩ := info_parts info5
  refine Lib.wpList_append_own_string _ hgd s x 133 9 ho N 5 i0 Tryz.underlying133 Tryz.underlying9 hi hz0 hz1 hz2 v _ _ hs hown t hx (by rw [nums_length]; unfold maxLen; omega) (by rw [nums_length]; omega) hN ?_
  intro v' w' h1 h2 _
  refine h v' w' ?_ h2
  unfold Own
  rw [nums_append, List.map_append, List.length_append, nums_length t.data.toList, show t.data.toList.length = t.size from Array.length_toList]
  have e : (nums t.data.toList).map (Value.int .u8) = Lib.strCells t := by simp [nums, Lib.strCells]
  rw [e]
  exact h1
theorem Own.grew {w0 W w' : World} (hg : Gr w0 W) {v : Value} {xs : List UInt8} (hown : Own W w0.heap.size v xs) (h : W.grownBy w' v.ownBlock) : Gr w0 w' :=
  hg.grown h (fun k hk => (World.ownsRow.lt hown k hk).1)

/-- string(b), b read -/
theorem conv_rd {W : World} {v : Value} {l : List UInt8} (h : Rd W v l) : (convert 133 9 v).run Tryz.prog W = .ok (.string ⟨l.toArray⟩) W := by
  rcases h with ⟨rfl, rfl⟩ | ⟨blk, off, cap, rfl, h2, h3, h4, h5⟩
  · exact run_convert_bytes_nil W 133 5 Tryz.underlying133 Tryz.underlying5 0 0 9 Tryz.underlying9
  · rw [← strOfNums_nums]
    refine run_convert_bytes_arg W 133 5 Tryz.underlying133 Tryz.underlying5 blk off l.length cap (nums l) (nums_length l) (fun i hi => ?_) 9 Tryz.underlying9
    rw [h5 i hi]
    simp [nums, List.getD, List.getElem?_eq_getElem hi]
theorem len_rd {W : World} {v : Value} {l : List UInt8} {ty : TypeId} (h : Rd W v l) : (Builtin.len_ #[133] ty #[v]).run Tryz.prog W = .ok (.int .i64 l.length) W := by
  rcases h with ⟨rfl, rfl⟩ | ⟨blk, off, cap, rfl, h2, h3, h4, h5⟩
  · simp [Builtin.len_, run_underlying Tryz.underlying133, go_sem]
  · simp [Builtin.len_, run_underlying Tryz.underlying133, go_sem]
end Go.Proofs.YthgecojbggoniaaGreatDoor
namespace Go.Proofs.YthgecojbggoniaaGreatDoor
open Go Go.RowKit
set_option maxRecDepth 100000
set_option linter.unusedVariables false
set_option linter.unusedSimpArgs false
set_option linter.unnecessarySimpa false

structure Nd where
  blk : Nat
  key : ByteArray
  val : ByteArray
  steps : Nat
def nxt (R : List Nd) (i : Nat) : Option Nd := R.find? (fun n => decide (i < n.steps))
def ptr : Option Nd → Value
  | none => .pointer none
  | some n => .pointer (some ⟨n.blk, 0, none⟩)
def nodeA (n : Nd) (f : Nat → Value) : Array Value := (Value.string n.key :: .string n.val :: .int .i64 n.steps :: (List.range 16).map f).toArray
def up (n : Nd) (R : List Nd) (i : Nat) : Value := if i < n.steps then ptr (nxt R i) else .pointer none
def ChainF (w : World) (X : Nat → List Nd) : List Nd → Prop
  | [] => True
  | m :: R => w.heap[m.blk]? = some (.cells (nodeA m (fun i => up m (R ++ X i) i)) 150) ∧ ChainF w X R
def hd0 (H : Nat) : Nd := ⟨H, ⟨#[]⟩, ⟨#[]⟩, 16⟩
/-- the last node that stands on step i -/
def lastAt (h : Nd) (P : List Nd) (i : Nat) : Nd := ((h :: P).reverse.find? (fun n => decide (i < n.steps))).getD h
theorem lastAt_of {h a : Nd} {P A R : List Nd} {i : Nat} (e : h :: P = A ++ a :: R) (ha : i < a.steps) (hR : ∀ n ∈ R, n.steps ≤ i) : lastAt h P i = a := by
  unfold lastAt
  rw [e, List.reverse_append, List.reverse_cons, List.append_assoc, List.find?_append]
  have h1 : R.reverse.find? (fun n => decide (i < n.steps)) = none := by
    rw [List.find?_eq_none]
    intro x hx
    have := hR x (List.mem_reverse.1 hx)
    simp
    omega
  rw [h1]
  simp [ha]
theorem lastAt_split {h : Nd} {P : List Nd} {i : Nat} (hi : i < h.steps) : ∃ A R, h :: P = A ++ lastAt h P i :: R ∧ i < (lastAt h P i).steps ∧ ∀ n ∈ R, n.steps ≤ i := by
  have key : ∀ (l : List Nd), (∃ n ∈ l, i < n.steps) → ∃ A a R, l = A ++ a :: R ∧ i < a.steps ∧ ∀ n ∈ R, n.steps ≤ i := by
    intro l
    induction l with
    | nil => rintro ⟨n, hn, _⟩; simp at hn
    | cons x r ih =>
      rintro ⟨n, hn, hs⟩
      by_cases hr : ∃ n ∈ r, i < n.steps
      · obtain ⟨A, a, R, e, h1, h2⟩ := ih hr
        exact ⟨x :: A, a, R, by rw [e]; rfl, h1, h2⟩
      · refine ⟨[], x, r, rfl, ?_, fun m hm => ?_⟩
        · rcases List.mem_cons.1 hn with rfl | hn
          · exact hs
          · exact absurd ⟨n, hn, hs⟩ hr
        · exact Nat.le_of_not_lt (fun hlt => hr ⟨m, hm, hlt⟩)
  obtain ⟨A, a, R, e, h1, h2⟩ := key (h :: P) ⟨h, by simp, hi⟩
  have := lastAt_of e h1 h2
  rw [this]
  exact ⟨A, R, e, h1, h2⟩
theorem chainF_app {w : World} {X : Nat → List Nd} {Q : List Nd} : ∀ {P : List Nd}, ChainF w X (P ++ Q) ↔ ChainF w (fun i => Q ++ X i) P ∧ ChainF w X Q
  | [] => by simp [ChainF]
  | m :: R => by
    simp only [List.cons_append, ChainF]
    rw [chainF_app (P := R)]
    simp only [List.append_assoc]
    constructor
    · rintro ⟨h1, h2, h3⟩; exact ⟨⟨h1, h2⟩, h3⟩
    · rintro ⟨⟨h1, h2⟩, h3⟩; exact ⟨h1, h2, h3⟩
theorem chainF_congr {w : World} {X Y : Nat → List Nd} (h : ∀ i, i < 16 → X i = Y i) : ∀ {P : List Nd}, ChainF w X P → ChainF w Y P
  | [], _ => trivial
  | m :: R, ⟨h1, h2⟩ => by
    refine ⟨?_, chainF_congr h h2⟩
    rw [h1]
    have : nodeA m (fun i => up m (R ++ X i) i) = nodeA m (fun i => up m (R ++ Y i) i) := by
      unfold nodeA
      congr 4
      refine List.map_congr_left (fun i hi => ?_)
      rw [h i (List.mem_range.1 hi)]
    rw [this]
theorem chainF_blk {w w' : World} {X : Nat → List Nd} : ∀ {P : List Nd}, ChainF w X P → (∀ n ∈ P, ∀ o, w.heap[n.blk]? = some o → w'.heap[n.blk]? = some o) → ChainF w' X P
  | [], _, _ => trivial
  | m :: R, ⟨h1, h2⟩, hb => ⟨hb m (by simp) _ h1, chainF_blk h2 (fun n hn => hb n (by simp [hn]))⟩
theorem chainF_at {w : World} {X : Nat → List Nd} {A R : List Nd} {a : Nd} (h : ChainF w X (A ++ a :: R)) : w.heap[a.blk]? = some (.cells (nodeA a (fun i => up a (R ++ X i) i)) 150) :=
  ((chainF_app.1 h).2).1
theorem nodeA_size (n : Nd) (f : Nat → Value) : (nodeA n f).size = 19 := by simp [nodeA]
theorem nodeA_get {n : Nd} {f : Nat → Value} {i : Nat} (hi : i < 16) : (nodeA n f)[3 + i]? = some (f i) := by
  rw [Nat.add_comm]
  simp [nodeA, hi]
/-- a node's step is set -/
theorem nodeA_set {n : Nd} {f g : Nat → Value} {j : Nat} (hj : j < 16) (h : ∀ i, i < 16 → i ≠ j → f i = g i) : (nodeA n f).set! (3 + j) (g j) = nodeA n g := by
  apply Array.ext_getElem?
  intro k
  rw [Array.set!_eq_setIfInBounds, Array.getElem?_setIfInBounds]
  by_cases hk : 3 + j = k
  · subst hk
    rw [if_pos rfl, if_pos (by rw [nodeA_size]; omega), nodeA_get hj]
  · rw [if_neg hk]
    by_cases h3 : k < 3
    · have : k = 0 ∨ k = 1 ∨ k = 2 := by omega
      rcases this with rfl | rfl | rfl <;> simp [nodeA]
    · by_cases h19 : k < 19
      · obtain ⟨i, rfl⟩ : ∃ i, k = 3 + i := ⟨k - 3, by omega⟩
        rw [nodeA_get (by omega), nodeA_get (by omega), h i (by omega) (by omega)]
      · rw [Array.getElem?_eq_none (by rw [nodeA_size]; omega), Array.getElem?_eq_none (by rw [nodeA_size]; omega)]
theorem nxt_app (A B : List Nd) (i : Nat) : nxt (A ++ B) i = (nxt A i).or (nxt B i) := by simp [nxt, List.find?_append]
theorem nxt_none {A : List Nd} {i : Nat} (h : ∀ n ∈ A, n.steps ≤ i) : nxt A i = none := by
  unfold nxt
  rw [List.find?_eq_none]
  intro x hx
  have := h x hx
  simp
  omega
theorem nxt_some {A : List Nd} {i : Nat} (h : ∃ n ∈ A, i < n.steps) : ∃ n, nxt A i = some n ∧ n ∈ A ∧ i < n.steps := by
  obtain ⟨n, hn, hs⟩ := h
  cases e : nxt A i with
  | none =>
    unfold nxt at e
    have := List.find?_eq_none.1 e n hn
    simp at this
    omega
  | some m =>
    unfold nxt at e
    exact ⟨m, rfl, List.mem_of_find?_eq_some e, by simpa using List.find?_some e⟩
/-- one step's list turns behind the last node of that step -/
theorem chainF_turn {w w' : World} {X Y : Nat → List Nd} {h : Nd} {P : List Nd} {j : Nat} (hc : ChainF w X (h :: P)) (hj : j < 16) (hhs : j < h.steps) (hXY : ∀ i, i < 16 → i ≠ j → X i = Y i)
    (hnd : ((h :: P).map (·.blk)).Nodup) (hset : ∀ A R, h :: P = A ++ lastAt h P j :: R → w'.heap[(lastAt h P j).blk]? = some (.cells ((nodeA (lastAt h P j) (fun i => up (lastAt h P j) (R ++ X i) i)).set! (3 + j) (ptr (nxt (Y j) j))) 150))
    (hoth : ∀ k o, k ≠ (lastAt h P j).blk → w.heap[k]? = some o → w'.heap[k]? = some o) : ChainF w' Y (h :: P) := by
  obtain ⟨A, R, e, hs, hR⟩ := lastAt_split (h := h) (P := P) hhs
  generalize lastAt h P j = a at *
  replace hset := hset A R e
  rw [e] at hc hnd ⊢
  obtain ⟨h1, h2, h3⟩ := chainF_app.1 hc
  have hblk : ∀ n, (n ∈ A ∨ n ∈ R) → n.blk ≠ a.blk := by
    intro n hn he
    rw [List.map_append, List.map_cons] at hnd
    rcases hn with hn | hn
    · exact (List.nodup_append.1 hnd).2.2 n.blk (List.mem_map_of_mem hn) a.blk (by simp) he
    · have := (List.nodup_cons.1 (List.nodup_append.1 hnd).2.1).1
      exact this (he ▸ List.mem_map_of_mem hn)
  refine chainF_app.2 ⟨?_, ?_, ?_⟩
  · -- ahead of it
    have : ∀ (B : List Nd), ChainF w (fun i => (a :: R) ++ X i) B → (∀ n ∈ B, n ∈ A) → ChainF w' (fun i => (a :: R) ++ Y i) B := by
      intro B
      induction B with
      | nil => intro _ _; trivial
      | cons m r ih =>
        rintro ⟨g1, g2⟩ hm
        refine ⟨?_, ih g2 (fun n hn => hm n (by simp [hn]))⟩
        rw [hoth _ _ (hblk m (.inl (hm m (by simp)))) g1]
        have : nodeA m (fun i => up m (r ++ (a :: R ++ X i)) i) = nodeA m (fun i => up m (r ++ (a :: R ++ Y i)) i) := by
          unfold nodeA
          congr 4
          refine List.map_congr_left (fun i hi => ?_)
          by_cases hij : i = j
          · subst hij
            have : ∃ n ∈ r ++ (a :: R), i < n.steps := ⟨a, by simp, hs⟩
            obtain ⟨n, hn, _, _⟩ := nxt_some this
            unfold up
            rw [← List.append_assoc, ← List.append_assoc, nxt_app, nxt_app (r ++ a :: R) (Y i), hn]
            rfl
          · rw [hXY i (List.mem_range.1 hi) hij]
        rw [this]
    exact this A h1 (fun n hn => hn)
  · rw [hset]
    congr 2
    have hval : ptr (nxt (Y j) j) = (fun i => up a (R ++ Y i) i) j := by
      simp only [up, if_pos hs]
      rw [nxt_app, nxt_none hR]
      rfl
    rw [hval]
    exact nodeA_set (g := fun i => up a (R ++ Y i) i) hj (fun i hi hij => by rw [hXY i hi hij])
  · have : ∀ (B : List Nd), ChainF w X B → (∀ n ∈ B, n ∈ R) → ChainF w' Y B := by
      intro B
      induction B with
      | nil => intro _ _; trivial
      | cons m r ih =>
        rintro ⟨g1, g2⟩ hm
        refine ⟨?_, ih g2 (fun n hn => hm n (by simp [hn]))⟩
        rw [hoth _ _ (hblk m (.inr (hm m (by simp)))) g1]
        have : nodeA m (fun i => up m (r ++ X i) i) = nodeA m (fun i => up m (r ++ Y i) i) := by
          unfold nodeA
          congr 4
          refine List.map_congr_left (fun i hi => ?_)
          by_cases hij : i = j
          · subst hij
            have := hR m (hm m (by simp))
            unfold up
            rw [if_neg (by omega), if_neg (by omega)]
          · rw [hXY i (List.mem_range.1 hi) hij]
        rw [this]
    exact this R h3 (fun n hn => hn)
end Go.Proofs.YthgecojbggoniaaGreatDoor
namespace Go.Proofs.YthgecojbggoniaaGreatDoor
open Go.RowKit
set_option maxRecDepth 100000
set_option linter.unusedVariables false
set_option linter.unusedSimpArgs false
set_option linter.unnecessarySimpa false

abbrev klt (a b : ByteArray) : Bool := Op.bytesLess a.toList b.toList
theorem bl_irrefl : ∀ s : List UInt8, Op.bytesLess s s = false
  | [] => rfl
  | a :: r => by simp [Op.bytesLess, bl_irrefl r]
theorem bl_trans : ∀ {a b c : List UInt8}, Op.bytesLess a b = true → Op.bytesLess b c = true → Op.bytesLess a c = true
  | [], [], _, h, _ => by simp [Op.bytesLess] at h
  | [], _ :: _, [], _, h => by simp [Op.bytesLess] at h
  | [], _ :: _, _ :: _, _, _ => rfl
  | _ :: _, [], _, h, _ => by simp [Op.bytesLess] at h
  | _ :: _, _ :: _, [], _, h => by simp [Op.bytesLess] at h
  | a :: x, b :: y, c :: z, h1, h2 => by
    simp only [Op.bytesLess, Bool.or_eq_true, Bool.and_eq_true, decide_eq_true_eq, beq_iff_eq] at h1 h2 ⊢
    rcases h1 with h1 | ⟨rfl, h1⟩
    · rcases h2 with h2 | ⟨rfl, h2⟩
      · exact .inl (UInt8.lt_trans h1 h2)
      · exact .inl h1
    · rcases h2 with h2 | ⟨rfl, h2⟩
      · exact .inl h2
      · exact .inr ⟨rfl, bl_trans h1 h2⟩
theorem bl_total : ∀ a b : List UInt8, Op.bytesLess a b = false → Op.bytesLess b a = false → a = b
  | [], [], _, _ => rfl
  | [], _ :: _, h, _ => by simp [Op.bytesLess] at h
  | _ :: _, [], _, h => by simp [Op.bytesLess] at h
  | a :: x, b :: y, h1, h2 => by
    simp only [Op.bytesLess, Bool.or_eq_false_iff, Bool.and_eq_false_iff, decide_eq_false_iff_not, beq_eq_false_iff_ne] at h1 h2
    have hab : a = b := by
      rcases Nat.lt_trichotomy a.toNat b.toNat with h | h | h
      · exact absurd (UInt8.lt_iff_toNat_lt.2 h) h1.1
      · exact UInt8.toNat_inj.1 h
      · exact absurd (UInt8.lt_iff_toNat_lt.2 h) h2.1
    subst hab
    have e1 : Op.bytesLess x y = false := by rcases h1.2 with h | h; exact absurd rfl h; exact h
    have e2 : Op.bytesLess y x = false := by rcases h2.2 with h | h; exact absurd rfl h; exact h
    rw [bl_total x y e1 e2]
/-- nodes below a key, and the others -/
def below (k : ByteArray) (L : List Nd) : List Nd := L.takeWhile (fun n => klt n.key k)
def above (k : ByteArray) (L : List Nd) : List Nd := L.dropWhile (fun n => klt n.key k)
abbrev Rising (L : List Nd) : Prop := L.Pairwise (fun a b => klt a.key b.key = true)
theorem below_above (k : ByteArray) (L : List Nd) : below k L ++ above k L = L := List.takeWhile_append_dropWhile
theorem below_lt {k : ByteArray} {L : List Nd} {n : Nd} (h : n ∈ below k L) : klt n.key k = true := by
  unfold below at h
  exact (List.all_eq_true.1 (List.all_takeWhile (p := fun n : Nd => klt n.key k) (l := L))) n h
theorem above_ge {k : ByteArray} : ∀ {L : List Nd}, Rising L → ∀ n ∈ above k L, klt n.key k = false
  | [], _, n, h => by simp [above] at h
  | m :: r, hr, n, h => by
    have hc := List.pairwise_cons.1 hr
    unfold above at h
    rw [List.dropWhile_cons] at h
    split at h
    · exact above_ge hc.2 n h
    · rename_i hm
      rcases List.mem_cons.1 h with rfl | h
      · simpa using hm
      · cases e : klt n.key k with
        | false => rfl
        | true => exact absurd (bl_trans (hc.1 n h) e) hm
structure SkipAt (lb H : Nat) (S : Nat → Prop) (L : List Nd) (w : World) : Prop where
  list : w.heap[lb]? = some (.cells #[.pointer (some ⟨H, 0, none⟩), .int .i64 L.length] 153)
  chain : ChainF w (fun _ => []) (hd0 H :: L)
  rise : Rising L
  nd : ((hd0 H :: L).map (·.blk)).Nodup
  steps : ∀ n ∈ L, 1 ≤ n.steps ∧ n.steps ≤ 16
  sl : S lb
  sn : ∀ n ∈ hd0 H :: L, S n.blk
def isSkip (o : Obj) : Prop := ∃ cs fz, o = .cells cs 150 fz ∨ o = .cells cs 153 fz
/-- what is no list's block, or outside of S, stays -/
structure FrT (S : Nat → Prop) (w w' : World) : Prop where
  os : w'.os = w.os
  tape : w'.tape = w.tape
  output : w'.output = w.output
  size : w.heap.size ≤ w'.heap.size
  blk : ∀ k o, w.heap[k]? = some o → (S k → ¬ isSkip o) → w'.heap[k]? = some o
theorem FrT.refl (S : Nat → Prop) (w : World) : FrT S w w := ⟨rfl, rfl, rfl, Nat.le_refl _, fun _ _ h _ => h⟩
theorem FrT.gr {S : Nat → Prop} {a b : World} (h : Gr a b) : FrT S a b := ⟨h.b.os, h.b.tape, h.b.output, h.b.size, fun _ _ ho _ => h.blk ho⟩
theorem FrT.trans {S S' : Nat → Prop} {a b c : World} (h : FrT S a b) (k : FrT S' b c) (hS : ∀ k, S' k → k < a.heap.size → S k) : FrT S a c :=
  ⟨k.os.trans h.os, k.tape.trans h.tape, k.output.trans h.output, Nat.le_trans h.size k.size, fun i o ho hn => k.blk i o (h.blk i o ho hn) (fun hs => hn (hS i hs (Array.getElem?_eq_some_iff.1 ho).1))⟩
theorem SkipAt.gr {lb H : Nat} {S : Nat → Prop} {L : List Nd} {w w' : World} (h : SkipAt lb H S L w) (hg : Gr w w') : SkipAt lb H S L w' :=
  { h with list := hg.blk h.list, chain := chainF_blk h.chain (fun n hn o ho => hg.blk ho) }
theorem SkipAt.mono {lb H : Nat} {S S' : Nat → Prop} {L : List Nd} {w : World} (h : SkipAt lb H S L w) (hS : ∀ k, S k → S' k) : SkipAt lb H S' L w :=
  { h with sl := hS _ h.sl, sn := fun n hn => hS _ (h.sn n hn) }
/-- other lists' work, other blocks' turns -/
theorem SkipAt.fr {lb H : Nat} {S S' : Nat → Prop} {L : List Nd} {w w' : World} (h : SkipAt lb H S L w) (hf : FrT S' w w') (hd : ∀ k, S k → ¬ S' k) : SkipAt lb H S L w' :=
  { h with list := hf.blk _ _ h.list (fun hs => absurd hs (hd _ h.sl)), chain := chainF_blk h.chain (fun n hn o ho => hf.blk _ _ ho (fun hs => absurd hs (hd _ (h.sn n hn)))) }
theorem idx_split {l : List Nat} {A R : List Nat} {a : Nat} (e : l = A ++ a :: R) (hn : l.Nodup) : l.idxOf a = A.length := by
  subst e
  have hm : a ∉ A := fun h => (List.nodup_append.1 hn).2.2 a h a (by simp) rfl
  induction A with
  | nil => simp
  | cons x r ih =>
    have hx : x ≠ a := fun e => hm (by simp [e])
    have hb : (x == a) = false := by simpa using hx
    rw [List.cons_append, List.idxOf_cons, hb, cond_false, ih (List.nodup_cons.1 (by simpa using hn)).2 (fun h => hm (by simp [h]))]
    rfl
def blkOf : Value → Nat
  | .pointer (some a) => a.block
  | _ => 0
def pAt (h : Nd) (P : List Nd) (j : Nat) : Value := ptr (some (lastAt h P j))
def outA (h : Nd) (P : List Nd) (k : Nat) : Array Value := ((List.range 16).map (fun j => if k ≤ j then pAt h P j else .pointer none)).toArray
theorem none_skip {lb H : Nat} {n : Int} {w : World} (h : w.heap[lb]? = some (.cells #[.pointer (some ⟨H, 0, none⟩), .int .i64 n] 153)) :
    Calls Tryz.prog 85 #[.pointer (some ⟨lb, 0, none⟩)] w fun e w' => e = .returned (.bool false) ∧ w = w' := by
  obtain ⟨k_0, k_1, g_0, g_1, l_0⟩ := blk2 h
  clear h
  go_enter Tryz.func85, Tryz.ntmps85
  go_wp2
  go_ret
  exact ⟨rfl, rfl⟩

theorem heap_alloc1 {w : World} {j : Nat} {o o' : Obj} (h : w.heap[j]? = some o) : (w.alloc o').heap[j]? = some o := (Gr.refl _).alloc _ |>.blk h
theorem cell_of {w : World} {b i : Nat} {cs : Array Value} {t : TypeId} {v : Value} (h : w.heap[b]? = some (.cells cs t)) (hv : cs[i]? = some v) : w.cell? ⟨b, i, none⟩ = some v := by
  simp only [World.cell?, h, hv]
  simp
theorem outA_get {h : Nd} {P : List Nd} {k j : Nat} (hj : j < 16) : (outA h P k)[j]? = some (if k ≤ j then pAt h P j else .pointer none) := by
  simp [outA, hj]
theorem outA_one (h : Nd) (P : List Nd) : (outA h P 0).all (·.oneCell') = true := by
  rw [Array.all_eq_true_iff_forall_mem]
  intro x hx
  simp only [outA, List.mem_toArray, List.mem_map] at hx
  obtain ⟨j, _, rfl⟩ := hx
  simp [pAt, ptr, Value.oneCell']
theorem outA_set {h : Nd} {P : List Nd} {j : Nat} (hj : j < 16) : (outA h P (j + 1)).setIfInBounds j (pAt h P j) = outA h P j := by
  apply Array.ext_getElem?
  intro i
  rw [Array.getElem?_setIfInBounds]
  by_cases hi : i < 16
  · rw [outA_get hi, outA_get hi]
    by_cases hji : j = i
    · subst hji
      simp [outA, hj]
    · rw [if_neg hji]
      by_cases h1 : j + 1 ≤ i
      · rw [if_pos h1, if_pos (by omega)]
      · rw [if_neg h1, if_neg (by omega)]
  · rw [if_neg (by omega), Array.getElem?_eq_none (by simp [outA]; omega), Array.getElem?_eq_none (by simp [outA]; omega)]
theorem up_at {a : Nd} {R : List Nd} {j : Nat} (h : j < a.steps) : up a R j = ptr (nxt R j) := by unfold up; rw [if_pos h]
theorem chain_cell {w : World} {X : Nat → List Nd} {A R : List Nd} {a : Nd} (h : ChainF w X (A ++ a :: R)) {j : Nat} (hj : j < 16) (hs : j < a.steps) : w.cell? ⟨a.blk, 3 + j, none⟩ = some (ptr (nxt (R ++ X j) j)) := by
  have h1 := chainF_at h
  simp only [World.cell?, h1]
  rw [nodeA_get hj, up_at hs]
  simp
theorem chain_key {w : World} {X : Nat → List Nd} {A R : List Nd} {a : Nd} (h : ChainF w X (A ++ a :: R)) : w.cell? ⟨a.blk, 0, none⟩ = some (.string a.key) := by
  have h1 := chainF_at h
  simp only [World.cell?, h1]
  simp [nodeA]
theorem outA_cell {w : World} {b k j : Nat} {h : Nd} {P : List Nd} {t : TypeId} (hb : w.heap[b]? = some (.cells (outA h P k) t)) (hj : j < 16) : w.cell? ⟨b, j, none⟩ = some (if k ≤ j then pAt h P j else .pointer none) := by
  simp only [World.cell?, hb]
  rw [outA_get hj]
  simp
theorem nxt_le {R : List Nd} {i : Nat} (h : nxt R i = none) : ∀ n ∈ R, n.steps ≤ i := by
  intro n hn
  unfold nxt at h
  have := List.find?_eq_none.1 h n hn
  simp at this
  exact this
theorem nxt_mem {R : List Nd} {i : Nat} {n : Nd} (h : nxt R i = some n) : n ∈ R ∧ i < n.steps := by
  unfold nxt at h
  exact ⟨List.mem_of_find?_eq_some h, by simpa using List.find?_some h⟩
theorem tail_mem {h a m : Nd} {P A R : List Nd} (e : h :: P = A ++ a :: R) (hm : m ∈ R) : m ∈ P := by
  cases A with
  | nil =>
    simp only [List.nil_append, List.cons.injEq] at e
    rw [e.2]; exact hm
  | cons x r =>
    simp only [List.cons_append, List.cons.injEq] at e
    rw [e.2]; simp [hm]
set_option maxHeartbeats 4000000 in
theorem ahead_any {lb H : Nat} {S : Nat → Prop} {L : List Nd} {w : World} (h : SkipAt lb H S L w) (key : ByteArray) :
    Calls Tryz.prog 84 #[.pointer (some ⟨lb, 0, none⟩), .string key] w fun e w' => e = .returned (.agg (outA (hd0 H) (below key L) 0)) ∧ Gr w w' := by
  have HH := Lib.hid h
  obtain ⟨k_0, k_1, g_0, g_1, l_0⟩ := blk2 h.list
  clear h
  go_enter Tryz.func84, Tryz.ntmps84
  go_wp2
  go_loopw [6, 7] (fun av iv wr => ∃ (k : Nat) (A R : List Nd) (a : Nd), iv = .int .i64 ((k : Int) - 1) ∧ k ≤ 16 ∧ av = .pointer (some ⟨a.blk, 0, none⟩) ∧ Hid (hd0 H :: below key L = A ++ a :: R) ∧ k ≤ a.steps ∧ Gr w wr ∧ Hid (wr.heap[w.heap.size + 1]? = some (.cells (outA (hd0 H) (below key L) k) 148)) ∧ Hid (wr.heap[w.heap.size]? = some (.cells #[.pointer none, .pointer none, .pointer none, .pointer none, .pointer none, .pointer none, .pointer none, .pointer none, .pointer none, .pointer none, .pointer none, .pointer none, .pointer none, .pointer none, .pointer none, .pointer none] 148))) (fun _ iv _ => (intOf iv + 1).toNat)
  case atStart =>
    refine ⟨16, [], below key L, hd0 H, rfl, Nat.le_refl _, rfl, Lib.hid rfl, by simp [hd0], (by repeat (first | (with_reducible exact Gr.refl _) | (with_reducible assumption) | (with_reducible refine Gr.alloc ?_ _) | (with_reducible refine Gr.drew ?_) | (with_reducible refine Gr.drewN ?_ _) | (with_reducible refine Gr.trans ?_ (by assumption)) | (with_reducible refine Gr.setCell ?_ (by first | exact Nat.le_refl _ | omega | (simp; done) | (simp; omega)) _))), Lib.hid ?_, Lib.hid (heap_alloc1 (heap_newn rfl))⟩
    rw [show outA (hd0 H) (below key L) 16 = #[.pointer none, .pointer none, .pointer none, .pointer none, .pointer none, .pointer none, .pointer none, .pointer none, .pointer none, .pointer none, .pointer none, .pointer none, .pointer none, .pointer none, .pointer none, .pointer none] from rfl]
    exact heap_newn (by simp)
  case round =>
    obtain ⟨k, A, R, a, rfl, hk, rfl, HE, hka, hg, HB5, HB4⟩ := hrel
    have HG := Lib.hid hg
    have HC := Lib.hid (HH.out.gr hg).chain
    have HLE : Hid (hd0 H :: L = (hd0 H :: below key L) ++ above key L) := Lib.hid (by rw [List.cons_append, below_above])
    clear hg
    by_cases hk0 : 0 < k
    · obtain ⟨j, rfl⟩ : ∃ j, k = j + 1 := ⟨k - 1, by omega⟩
      have hj16 : j < 16 := by omega
      rw [show (((j + 1 : Nat) : Int) - 1) = (j : Int) by omega]
      have hge : (0 : Int) ≤ j := by omega
      go_wp2
      go_loopw [6] (fun av wr2 => ∃ (A R : List Nd) (a : Nd), av = .pointer (some ⟨a.blk, 0, none⟩) ∧ Hid (hd0 H :: below key L = A ++ a :: R) ∧ j + 1 ≤ a.steps ∧ wr2 = wr) (fun av _ => (hd0 H :: below key L).length - ((hd0 H :: below key L).map (·.blk)).idxOf (blkOf av))
      case atStart => exact ⟨A, R, a, rfl, HE, hka, rfl⟩
      case round =>
        obtain ⟨A2, R2, a2, rfl, HE2, hka2, rfl⟩ := hrel
        have hc : ChainF wr (fun _ => []) (A2 ++ a2 :: (R2 ++ above key L)) := by have := HC.out; rw [HLE.out, HE2.out] at this; simpa using this
        have c1 := chain_cell hc hj16 (by omega)
        have b1 := outA_cell HB5.out (j := j) hj16
        have b2 : wr.frozen? ⟨w.heap.size + 1, j, none⟩ = false := by simp [World.frozen?, HB5.out]
        simp only [List.append_nil] at c1
        have HCc := Lib.hid hc
        clear hc
        cases hn : nxt (R2 ++ above key L) j with
        | none =>
          rw [hn] at c1
          have HN := Lib.hid hn
          clear hn
          have HLa : Hid (lastAt (hd0 H) (below key L) j = a2) := Lib.hid (lastAt_of HE2.out (by omega) (fun n hn => nxt_le HN.out n (by simp [hn])))
          simp only [ptr] at c1
          go_wp2
          go_roundw
          case rel =>
            refine ⟨j, A2, R2, a2, rfl, by omega, rfl, HE2, by omega, HG.out.setCell (by simp) _, Lib.hid ?_, Lib.hid ?_⟩
            · rw [heap_set HB5.out, show Value.pointer (some ⟨a2.blk, 0, none⟩) = pAt (hd0 H) (below key L) j by unfold pAt ptr; rw [HLa.out], outA_set hj16]
            · exact heap_set_other HB4.out _ _ (by simp)
          case measure => first | (simp [intOf]; done) | (simp [intOf]; omega)
        | some n =>
          rw [hn] at c1
          have hmem := nxt_mem hn
          obtain ⟨B, C, e⟩ := List.append_of_mem hmem.1
          have c2 := chain_key (A := A2 ++ a2 :: B) (R := C) (a := n) (X := fun _ => []) (w := wr) (by have := HCc.out; rw [e] at this; simpa using this)
          have HN := Lib.hid hn
          have HE3 := Lib.hid e
          have HM := Lib.hid hmem
          simp only [ptr] at c1
          clear hn hmem e
          cases hlt : klt n.key key with
          | true =>
            have hin : n ∈ R2 := by
              rcases List.mem_append.1 HM.out.1 with h | h
              · exact h
              · have := above_ge HH.out.rise n h
                rw [hlt] at this
                cases this
            obtain ⟨B2, C2, e2⟩ := List.append_of_mem hin
            have HE4 := Lib.hid e2
            have HIN := Lib.hid hin
            clear hin e2
            go_wp2
            go_roundw
            case rel => exact ⟨A2 ++ a2 :: B2, C2, n, rfl, Lib.hid (by rw [HE2.out, HE4.out]; simp), HM.out.2, by first | rfl | trivial⟩
            case measure =>
              have hnd : ((hd0 H :: below key L).map (·.blk)).Nodup := by
                have := HH.out.nd
                rw [HLE.out, List.map_append] at this
                exact (List.nodup_append.1 this).1
              have i1 := idx_split (l := (hd0 H :: below key L).map (·.blk)) (A := A2.map (·.blk)) (a := a2.blk) (R := R2.map (·.blk)) (by rw [HE2.out]; simp) hnd
              have i2 := idx_split (l := (hd0 H :: below key L).map (·.blk)) (A := (A2 ++ a2 :: B2).map (·.blk)) (a := n.blk) (R := C2.map (·.blk)) (by rw [HE2.out, HE4.out]; simp) hnd
              have i3 : (hd0 H :: below key L).length = A2.length + 1 + B2.length + 1 + C2.length := by rw [HE2.out, HE4.out]; simp; omega
              simp only [blkOf]
              rw [i1, i2, i3]
              simp
              omega
          | false =>
            have HLa : Hid (lastAt (hd0 H) (below key L) j = a2) := Lib.hid (lastAt_of HE2.out (by omega) (fun m hm => by
              by_cases hs : j < m.steps
              · obtain ⟨m2, h1, h2, h3⟩ := nxt_some (A := R2) ⟨m, hm, hs⟩
                have h4 := HN.out
                rw [nxt_app, h1] at h4
                have h6 : m2 = n := by simpa using h4
                subst h6
                have : m2 ∈ below key L := tail_mem HE2.out h2
                rw [below_lt this] at hlt
                cases hlt
              · omega))
            go_wp2
            go_roundw
            case rel =>
              refine ⟨j, A2, R2, a2, rfl, by omega, rfl, HE2, by omega, HG.out.setCell (by simp) _, Lib.hid ?_, Lib.hid ?_⟩
              · rw [heap_set HB5.out, show Value.pointer (some ⟨a2.blk, 0, none⟩) = pAt (hd0 H) (below key L) j by unfold pAt ptr; rw [HLa.out], outA_set hj16]
              · exact heap_set_other HB4.out _ _ (by simp)
            case measure => first | (simp [intOf]; done) | (simp [intOf]; omega)
    · obtain rfl : k = 0 := by omega
      rw [show (((0 : Nat) : Int) - 1) = -1 from rfl]
      have hS : (wr.setRow w.heap.size (outA (hd0 H) (below key L) 0)).heap[w.heap.size]? = some (.cells (outA (hd0 H) (below key L) 0) 148) := setRow_heap _ _ _ _ _ _ HB4.out
      have HS := Lib.hid hS
      have HGf : Hid (Gr w (wr.setRow w.heap.size (outA (hd0 H) (below key L) 0))) := Lib.hid ⟨below_setRow HG.out.b (Nat.le_refl _) _⟩
      have HI : Hid ((Tryz.prog.info? 148).map (·.size) = some (outA (hd0 H) (below key L) 0).size) := Lib.hid (by rw [show (outA (hd0 H) (below key L) 0).size = 16 from rfl]; kernel_rfl)
      have HA1 : Hid ((outA (hd0 H) (below key L) 0).all (·.oneCell') = true) := Lib.hid (outA_one _ _)
      have HZ : Hid ((#[.pointer none, .pointer none, .pointer none, .pointer none, .pointer none, .pointer none, .pointer none, .pointer none, .pointer none, .pointer none, .pointer none, .pointer none, .pointer none, .pointer none, .pointer none, .pointer none] : Array Value).size = (outA (hd0 H) (below key L) 0).size) := Lib.hid rfl
      clear hS
      go_wp2_with (first
        | (refine wpList_load_row (by rfl) _ _ (by rfl) _ (by rfl) _ _ _ _ HB5.out Tryz.underlying148 rfl HI.out ?_)
        | (refine wpList_store_row (by rfl) _ _ _ (by rfl) _ _ (by rfl) (by rfl) _ _ HB4.out HI.out HZ.out HA1.out ?_))
      refine bodyPost_ret (v := .agg (outA (hd0 H) (below key L) 0)) ?_ rfl (And.intro rfl HGf.out)
      exact results_cell_row rfl _ _ _ _ _ _ _ rfl HS.out Tryz.underlying148 rfl HI.out
end Go.Proofs.YthgecojbggoniaaGreatDoor
namespace Go.Proofs.YthgecojbggoniaaGreatDoor
open Go.RowKit
set_option linter.unusedVariables false

/-- an element type: the slice's type t, its own e, cells, zero, bytes -/
structure ElTy (t e : TypeId) (k : Nat) (z : Value) (by_ : Nat) : Prop where
  ht : Tryz.prog.underlying t = some (.slice e)
  info : (Tryz.prog.info? e).map (fun i => (i.zero, i.size, i.bytes)) = some (some z, k, by_)
  hz : z.cells.size = k
  hk : 0 < k
/-- how an element is written in cells -/
structure Enc {α : Type} (enc : α → List Value) (k : Nat) : Prop where
  len : ∀ a, (enc a).length = k
  one : ∀ a, ∀ u ∈ enc a, u.oneCell' = true
def RE {α : Type} (enc : α → List Value) (_ : World) (ds : List Value) (a : α) : Prop := ds = enc a
def OwnG {α : Type} (e : TypeId) (k : Nat) (enc : α → List Value) (w : World) (N : Nat) (v : Value) (l : List α) : Prop := w.ownsRow N e k v l.length (l.flatMap enc)

section
variable {α : Type} {enc : α → List Value} {k : Nat}
theorem flatMap_get (hk : 0 < k) (hl : ∀ a, (enc a).length = k) : ∀ (l : List α) (j : Nat) (u : Value), (l.flatMap enc)[j]? = some u → ∃ h : j / k < l.length, (enc l[j / k])[j % k]? = some u
  | [], j, u, h => by simp at h
  | a :: r, j, u, h => by
    rw [List.flatMap_cons] at h
    by_cases hj : j < k
    · rw [List.getElem?_append_left (by rw [hl]; exact hj)] at h
      have h0 : j / k = 0 := Nat.div_eq_of_lt hj
      refine ⟨by rw [h0]; simp, ?_⟩
      rw [Nat.mod_eq_of_lt hj]
      simpa [h0] using h
    · rw [List.getElem?_append_right (by rw [hl]; omega), hl] at h
      obtain ⟨h1, h2⟩ := flatMap_get hk hl r (j - k) u h
      have e1 : j / k = (j - k) / k + 1 := by rw [← Nat.add_div_right _ hk]; congr 1; omega
      have e2 : j % k = (j - k) % k := by rw [← Nat.mod_eq_sub_mod (by omega)]
      refine ⟨by rw [e1]; simpa using h1, ?_⟩
      rw [e2]
      simpa [e1] using h2
theorem flatMap_len (hl : ∀ a, (enc a).length = k) : ∀ l : List α, (l.flatMap enc).length = l.length * k
  | [] => by simp
  | a :: r => by rw [List.flatMap_cons, List.length_append, hl, flatMap_len hl r, List.length_cons, Nat.add_mul]; omega
theorem flatMap_at (hk : 0 < k) (hl : ∀ a, (enc a).length = k) (l : List α) (i j : Nat) (hi : i < l.length) (hj : j < k) : (l.flatMap enc)[i * k + j]? = (enc l[i])[j]? := by
  have hlt : i * k + j < (l.flatMap enc).length := by
    rw [flatMap_len hl]
    have : (i + 1) * k ≤ l.length * k := Nat.mul_le_mul_right k hi
    rw [Nat.add_mul] at this
    omega
  obtain ⟨h1, h2⟩ := flatMap_get hk hl l (i * k + j) _ (List.getElem?_eq_getElem hlt)
  have e1 : (i * k + j) / k = i := by rw [Nat.mul_comm, Nat.mul_add_div hk, Nat.div_eq_of_lt hj]; rfl
  have e2 : (i * k + j) % k = j := by rw [Nat.mul_comm, Nat.mul_add_mod, Nat.mod_eq_of_lt hj]
  rw [List.getElem?_eq_getElem hlt, ← h2]
  simp only [e1, e2]

theorem RdE.gr {a b : World} (hg : Gr a b) {v : Value} {l : List α} (h : RdR (RE enc) k a v l) : RdR (RE enc) k b v l := RdR.gr (fun _ _ _ _ _ h => h) hg h
theorem OwnG.nil {e : TypeId} (w : World) (N : Nat) : OwnG e k enc w N (.slice none 0 0) ([] : List α) := World.ownsRow_nil _ _ _ _
theorem OwnG.gr {e : TypeId} {a b : World} (hg : Gr a b) {N : Nat} {v : Value} {l : List α} (h : OwnG e k enc a N v l) : OwnG e k enc b N v l := Gr.ownsRow hg h
theorem OwnG.mono {e : TypeId} {a : World} {N N' : Nat} {v : Value} {l : List α} (h : OwnG e k enc a N v l) (hN : N' ≤ N) : OwnG e k enc a N' v l := ownsRow_mono h hN
theorem OwnG.grew {e : TypeId} {w0 W w' : World} (hg : Gr w0 W) {v : Value} {l : List α} (hown : OwnG e k enc W w0.heap.size v l) (h : W.grownBy w' v.ownBlock) : Gr w0 w' :=
  hg.grown h (fun j hj => (World.ownsRow.lt hown j hj).1)
theorem OwnG.slice {e : TypeId} {w : World} {N : Nat} {v : Value} {l : List α} (h : OwnG e k enc w N v l) : ∃ q c, v = .slice q l.length c := by
  rcases h.2 with ⟨rfl, hn⟩ | ⟨g, cap, cur, rfl, _⟩
  · exact ⟨none, 0, by rw [hn]⟩
  · exact ⟨_, _, rfl⟩
theorem OwnG.rd {e : TypeId} (hE : Enc enc k) (hk : 0 < k) {w : World} {N : Nat} {v : Value} {l : List α} (h : OwnG e k enc w N v l) : RdR (RE enc) k w v l := by
  rcases h.2 with ⟨rfl, hn⟩ | ⟨g, cap, cur, rfl, h1, h2, h3, h4, h5, h6⟩
  · exact .inl ⟨List.eq_nil_of_length_eq_zero hn, none, 0, rfl, by unfold maxLen; omega, fun _ => rfl⟩
  · by_cases h0 : l.length = 0
    · have : l = [] := List.eq_nil_of_length_eq_zero h0
      subst this
      exact .inl ⟨rfl, _, cap, rfl, h4, fun h => by simp at h⟩
    · refine .inr ⟨g, 0, cap, rfl, by omega, h3, h4, (Array.getElem?_eq_some_iff.1 h2).1, fun i hi => ⟨enc l[i], hE.len _, fun j hj => ?_, rfl⟩⟩
      rw [hE.len] at hj
      have hlt : i * k + j < l.length * k := by
        have : (i + 1) * k ≤ l.length * k := Nat.mul_le_mul_right k hi
        rw [Nat.add_mul] at this
        omega
      have e1 : (cur.toList.take (l.length * k))[i * k + j]? = (l.flatMap enc)[i * k + j]? := by rw [h6]
      rw [List.getElem?_take, if_pos hlt, flatMap_at hk hE.len l i j hi hj] at e1
      have e2 : (enc l[i])[j]? = some ((enc l[i])[j]'(by rw [hE.len]; exact hj)) := List.getElem?_eq_getElem (by rw [hE.len]; exact hj)
      rw [e2] at e1
      simp only [World.cell?, h2, Nat.zero_add]
      simpa using e1

theorem OwnG.kept {e : TypeId} {w w' : World} {N : Nat} {v : Value} {l : List α} (h : OwnG e k enc w N v l) (hb : ∀ (g : Nat) (c : Array Value) (f : Nat × Nat), w.heap[g]? = some (Obj.cells c e f) → w'.heap[g]? = some (Obj.cells c e f)) : OwnG e k enc w' N v l := by
  refine ⟨h.1, ?_⟩
  rcases h.2 with h1 | ⟨g, cap, cur, h1, h2, h3, h4⟩
  · exact .inl h1
  · exact .inr ⟨g, cap, cur, h1, h2, hb g cur _ h3, h4⟩

/-- append(s, x...): s the call's own, x read -/
theorem app_gen {t e : TypeId} {z : Value} {by_ : Nat} (hT : ElTy t e k z by_) (hE : Enc enc k) {W : World} {N : Nat} (hN : N ≤ W.heap.size) {ops : Array Oper} {rest : List Oper} {o : Oper} {a : Act} {Q : Exit → Act → World → Prop} (hgd : o.guard = none) (s x : Operand)
    (ho : o.op = .call { callee := .builtin .append, args := #[s, x], argTypes := #[t, t] }) {v y : Value} (xs l : List α) (hs : a.eval s = v) (hx : a.eval x = y)
    (hown : OwnG e k enc W N v xs) (hrd : RdR (RE enc) k W y l) (hlen : (xs.length + l.length) * by_ ≤ 140737488355328) (hlen2 : xs.length + l.length ≤ 140737488355328)
    (h : ∀ v' w', OwnG e k enc w' N v' (xs ++ l) → W.grownBy w' v.ownBlock → wpList Tryz.prog ops Q rest (a.put o.dst v') w') : wpList Tryz.prog ops Q (o :: rest) a W := by
  obtain ⟨i0, hi, hz0, hz1, hz2⟩ := info_parts hT.info
  have done : ∀ v' w', w'.ownsRow N e k v' (xs.length + l.length) (xs.flatMap enc ++ l.flatMap enc) → W.grownBy w' v.ownBlock → wpList Tryz.prog ops Q rest (a.put o.dst v') w' := by
    intro v' w' h1 h2
    refine h v' w' ?_ h2
    unfold OwnG
    rw [List.flatMap_append, List.length_append]
    exact h1
  rcases hrd with ⟨rfl, q, c, rfl, h1, h2⟩ | ⟨blk, off, cap, rfl, h1, h2, h3, h4, h5⟩
  · cases q with
    | none =>
      obtain rfl : c = 0 := h2 rfl
      refine wpList_append_own_none hgd s x t ho N e i0 k hT.ht hi v _ _ hs hown hx ?_
      exact done v W (by simpa [OwnG] using hown) ⟨rfl, rfl, rfl, Nat.le_refl _, fun _ _ _ => rfl⟩
    | some q =>
      refine wpList_append_own _ hgd s x t ho N e i0 z k by_ hT.ht hi hz0 hz1 hz2 hT.hz hT.hk v _ _ hs hown q 0 c [] hx (by simp) (fun j u hj => by simp at hj) (fun u hu => by simp at hu) (by unfold maxLen; simp at hlen2 ⊢; omega) (by simpa using hlen) hN ?_
      intro v' w' h1 h2 _
      exact done v' w' (by simpa using h1) h2
  · refine wpList_append_own _ hgd s x t ho N e i0 z k by_ hT.ht hi hz0 hz1 hz2 hT.hz hT.hk v _ _ hs hown ⟨blk, off, none⟩ l.length cap (l.flatMap enc) hx (flatMap_len hE.len l) (fun j u hj => ?_) (fun u hu => ?_) (by unfold maxLen; omega) hlen hN ?_
    · obtain ⟨g1, g2⟩ := flatMap_get hT.hk hE.len l j u hj
      obtain ⟨ds, d1, d2, d3⟩ := h5 (j / k) g1
      unfold RE at d3
      subst d3
      have hjk : j % k < (enc l[j / k]).length := by rw [hE.len]; exact Nat.mod_lt _ hT.hk
      have := d2 (j % k) hjk
      rw [show j / k * k + j % k = j by rw [Nat.mul_comm]; exact Nat.div_add_mod j k] at this
      rw [Addr.add_lit, this]
      rw [List.getElem?_eq_getElem hjk] at g2
      exact g2
    · obtain ⟨b, _, hb⟩ := List.mem_flatMap.1 hu
      exact hE.one b u hb
    · intro v' w' h1 h2 _
      exact done v' w' h1 h2

/-- a block that holds one element, as the slice of it -/
theorem RdE.one (hE : Enc enc k) (W : World) (e : TypeId) (x : α) {n : Nat} (hn : n = W.heap.size) {cs : Array Value} (hc : cs = (enc x).toArray) : RdR (RE enc) k (W.alloc (.cells cs e)) (.slice (some ⟨n, 0, none⟩) 1 1) [x] := by
  subst hn hc
  refine .inr ⟨W.heap.size, 0, 1, rfl, by simp, by simp, by decide, by simp, fun i hi => ?_⟩
  obtain rfl : i = 0 := by simpa using hi
  refine ⟨enc x, hE.len x, fun j hj => ?_, rfl⟩
  simp only [World.cell?, heap_alloc_new]
  simp [List.getElem?_eq_getElem hj]
end
end Go.Proofs.YthgecojbggoniaaGreatDoor
