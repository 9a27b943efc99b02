/- What the rows stand on, part 01: Base, PlainA. Printed by bundle.py out of my texts. -/
import Derived.Test.YthgecojbggoniaaGreatDoorProg
import Derived.WalkKit
import Derived.WalkLawsBesides
import Derived.BigQuiet
import Derived.Lib.Hide
import Derived.ChangeAgain
import Derived.Laws.BytesArg
import Derived.Lib.ConvBytes
import Derived.Lib.IndexBytes
import Derived.ProofKit
import Derived.Lib.Replace
import Derived.Lib.Bytealg
import Derived.Lib.Strings
import GoSem.Op.String
namespace Go.Proofs.YthgecojbggoniaaGreatDoor
open Go.RowKit

/-- Of what was there nothing has turned. -/
structure Gr (w w' : World) : Prop where
  b : Below w.heap.size w w'

theorem Gr.refl (w : World) : Gr w w := ⟨Below.refl _ _⟩
theorem Gr.trans {a b c : World} (h : Gr a b) (k : Gr b c) : Gr a c := ⟨h.b.trans (k.b.mono h.b.size)⟩
theorem Gr.alloc {a b : World} (h : Gr a b) (o : Obj) : Gr a (b.alloc o) := ⟨h.b.alloc h.b.size o⟩
theorem Gr.drew {a b : World} (h : Gr a b) : Gr a b.drew := ⟨h.b.drew⟩
theorem Gr.drewN {a b : World} (h : Gr a b) (n : Nat) : Gr a (b.drewN n) := ⟨⟨h.b.os, h.b.tape, h.b.output, h.b.size, h.b.block⟩⟩
theorem Gr.setCell {a b : World} (h : Gr a b) {p : Addr} (hp : a.heap.size ≤ p.block) (u : Value) : Gr a (b.setCell p u) := ⟨h.b.setCell hp u⟩
theorem Gr.grown {a b c : World} {row : Option Nat} (h : Gr a b) (hg : b.grownBy c row) (hr : ∀ k, row = some k → a.heap.size ≤ k) : Gr a c :=
  ⟨h.b.grown hg h.b.size hr⟩
theorem Gr.of {a b : World} (h : Below a.heap.size a b) : Gr a b := ⟨h⟩
theorem Gr.size {a b : World} (h : Gr a b) : a.heap.size ≤ b.heap.size := h.b.size
theorem Gr.cell {a b : World} (h : Gr a b) {p : Addr} (hp : p.block < a.heap.size) : b.cell? p = a.cell? p := h.b.cell hp
theorem Gr.cell' {a b : World} (h : Gr a b) {p : Addr} {v : Value} (hv : a.cell? p = some v) : b.cell? p = some v :=
  (h.b.cell (World.block_lt_of_cell? a p hv)).trans hv
theorem Gr.frozen {a b : World} (h : Gr a b) {p : Addr} (hp : p.block < a.heap.size) : b.frozen? p = a.frozen? p := h.b.frozen hp
theorem Gr.ownsRow {a b : World} (h : Gr a b) {base : Nat} {e : TypeId} {size : Nat} {v : Value} {n : Nat} {xs : List Value} (ho : a.ownsRow base e size v n xs) :
    b.ownsRow base e size v n xs := by
  refine ⟨ho.1, ?_⟩
  rcases ho.2 with hn | ⟨g, cap, cur, rfl, hb, hg, rest⟩
  · exact .inl hn
  · exact .inr ⟨g, cap, cur, rfl, hb, (h.b.block g (Array.getElem?_eq_some_iff.1 hg).1).trans hg, rest⟩
theorem ownsRow_mono {w : World} {base base' : Nat} {e : TypeId} {size : Nat} {v : Value} {n : Nat} {xs : List Value} (ho : w.ownsRow base e size v n xs) (hb : base' ≤ base) :
    w.ownsRow base' e size v n xs := by
  refine ⟨ho.1, ?_⟩
  rcases ho.2 with hn | ⟨g, cap, cur, rfl, hb', hg, rest⟩
  · exact .inl hn
  · exact .inr ⟨g, cap, cur, rfl, by omega, hg, rest⟩

theorem Gr.blk {a b : World} (h : Gr a b) {k : Nat} {o : Obj} (ho : a.heap[k]? = some o) : b.heap[k]? = some o :=
  (h.b.block k (Array.getElem?_eq_some_iff.1 ho).1).trans ho
theorem heap_alloc_mono {a : World} {k : Nat} {o : Obj} (ho : a.heap[k]? = some o) (o' : Obj) : (a.alloc o').heap[k]? = some o := ((Gr.refl a).alloc o').blk ho
theorem heap_drew {a : World} {k : Nat} {o : Obj} (ho : a.heap[k]? = some o) : a.drew.heap[k]? = some o := ho
theorem heap_set {a : World} {k : Nat} {c : Array Value} {t : TypeId} {fz : Nat × Nat} (h : a.heap[k]? = some (.cells c t fz)) (i : Nat) (v : Value) :
    (a.setCell ⟨k, i, none⟩ v).heap[k]? = some (.cells (c.setIfInBounds i v) t fz) := by
  simp [World.setCell, Array.getElem?_modify, h]
theorem heap_set_other {a : World} {k : Nat} {o : Obj} (h : a.heap[k]? = some o) (p : Addr) (v : Value) (hne : p.block ≠ k) :
    (a.setCell p v).heap[k]? = some o := by
  simp [World.setCell, Array.getElem?_modify, h, hne]
theorem heap_newn {w : World} {n : Nat} {o : Obj} (h : n = w.heap.size) : (w.alloc o).heap[n]? = some o := h ▸ heap_alloc_new w o
/-! a block of a few cells, written out -/
theorem blk1 {w : World} {b : Nat} {x0 : Value} {t : TypeId} (h : w.heap[b]? = some (.cells #[x0] t)) : w.cell? ⟨b, 0, none⟩ = some x0 ∧ w.frozen? ⟨b, 0, none⟩ = false ∧ b < w.heap.size :=
  ⟨by simp [World.cell?, h], by simp [World.frozen?, h], (Array.getElem?_eq_some_iff.1 h).1⟩
theorem blk2 {w : World} {b : Nat} {x0 x1 : Value} {t : TypeId} (h : w.heap[b]? = some (.cells #[x0, x1] t)) : w.cell? ⟨b, 0, none⟩ = some x0 ∧ w.cell? ⟨b, 1, none⟩ = some x1 ∧ w.frozen? ⟨b, 0, none⟩ = false ∧ w.frozen? ⟨b, 1, none⟩ = false ∧ b < w.heap.size :=
  ⟨by simp [World.cell?, h], by simp [World.cell?, h], by simp [World.frozen?, h], by simp [World.frozen?, h], (Array.getElem?_eq_some_iff.1 h).1⟩
theorem blk3 {w : World} {b : Nat} {x0 x1 x2 : Value} {t : TypeId} (h : w.heap[b]? = some (.cells #[x0, x1, x2] t)) : w.cell? ⟨b, 0, none⟩ = some x0 ∧ w.cell? ⟨b, 1, none⟩ = some x1 ∧ w.cell? ⟨b, 2, none⟩ = some x2 ∧ w.frozen? ⟨b, 0, none⟩ = false ∧ w.frozen? ⟨b, 1, none⟩ = false ∧ w.frozen? ⟨b, 2, none⟩ = false ∧ b < w.heap.size :=
  ⟨by simp [World.cell?, h], by simp [World.cell?, h], by simp [World.cell?, h], by simp [World.frozen?, h], by simp [World.frozen?, h], by simp [World.frozen?, h], (Array.getElem?_eq_some_iff.1 h).1⟩
theorem blk4 {w : World} {b : Nat} {x0 x1 x2 x3 : Value} {t : TypeId} (h : w.heap[b]? = some (.cells #[x0, x1, x2, x3] t)) : w.cell? ⟨b, 0, none⟩ = some x0 ∧ w.cell? ⟨b, 1, none⟩ = some x1 ∧ w.cell? ⟨b, 2, none⟩ = some x2 ∧ w.cell? ⟨b, 3, none⟩ = some x3 ∧ w.frozen? ⟨b, 0, none⟩ = false ∧ w.frozen? ⟨b, 1, none⟩ = false ∧ w.frozen? ⟨b, 2, none⟩ = false ∧ w.frozen? ⟨b, 3, none⟩ = false ∧ b < w.heap.size :=
  ⟨by simp [World.cell?, h], by simp [World.cell?, h], by simp [World.cell?, h], by simp [World.cell?, h], by simp [World.frozen?, h], by simp [World.frozen?, h], by simp [World.frozen?, h], by simp [World.frozen?, h], (Array.getElem?_eq_some_iff.1 h).1⟩
theorem blk9 {w : World} {b : Nat} {x0 x1 x2 x3 x4 x5 x6 x7 x8 : Value} {t : TypeId} (h : w.heap[b]? = some (.cells #[x0, x1, x2, x3, x4, x5, x6, x7, x8] t)) : w.cell? ⟨b, 0, none⟩ = some x0 ∧ w.cell? ⟨b, 1, none⟩ = some x1 ∧ w.cell? ⟨b, 2, none⟩ = some x2 ∧ w.cell? ⟨b, 3, none⟩ = some x3 ∧ w.cell? ⟨b, 4, none⟩ = some x4 ∧ w.cell? ⟨b, 5, none⟩ = some x5 ∧ w.cell? ⟨b, 6, none⟩ = some x6 ∧ w.cell? ⟨b, 7, none⟩ = some x7 ∧ w.cell? ⟨b, 8, none⟩ = some x8 ∧ w.frozen? ⟨b, 0, none⟩ = false ∧ w.frozen? ⟨b, 1, none⟩ = false ∧ w.frozen? ⟨b, 2, none⟩ = false ∧ w.frozen? ⟨b, 3, none⟩ = false ∧ w.frozen? ⟨b, 4, none⟩ = false ∧ w.frozen? ⟨b, 5, none⟩ = false ∧ w.frozen? ⟨b, 6, none⟩ = false ∧ w.frozen? ⟨b, 7, none⟩ = false ∧ w.frozen? ⟨b, 8, none⟩ = false ∧ b < w.heap.size :=
  ⟨by simp [World.cell?, h], by simp [World.cell?, h], by simp [World.cell?, h], by simp [World.cell?, h], by simp [World.cell?, h], by simp [World.cell?, h], by simp [World.cell?, h], by simp [World.cell?, h], by simp [World.cell?, h], by simp [World.frozen?, h], by simp [World.frozen?, h], by simp [World.frozen?, h], by simp [World.frozen?, h], by simp [World.frozen?, h], by simp [World.frozen?, h], by simp [World.frozen?, h], by simp [World.frozen?, h], by simp [World.frozen?, h], (Array.getElem?_eq_some_iff.1 h).1⟩
theorem blk12 {w : World} {b : Nat} {x0 x1 x2 x3 x4 x5 x6 x7 x8 x9 x10 x11 : Value} {t : TypeId} (h : w.heap[b]? = some (.cells #[x0, x1, x2, x3, x4, x5, x6, x7, x8, x9, x10, x11] t)) : w.cell? ⟨b, 0, none⟩ = some x0 ∧ w.cell? ⟨b, 1, none⟩ = some x1 ∧ w.cell? ⟨b, 2, none⟩ = some x2 ∧ w.cell? ⟨b, 3, none⟩ = some x3 ∧ w.cell? ⟨b, 4, none⟩ = some x4 ∧ w.cell? ⟨b, 5, none⟩ = some x5 ∧ w.cell? ⟨b, 6, none⟩ = some x6 ∧ w.cell? ⟨b, 7, none⟩ = some x7 ∧ w.cell? ⟨b, 8, none⟩ = some x8 ∧ w.cell? ⟨b, 9, none⟩ = some x9 ∧ w.cell? ⟨b, 10, none⟩ = some x10 ∧ w.cell? ⟨b, 11, none⟩ = some x11 ∧ w.frozen? ⟨b, 0, none⟩ = false ∧ w.frozen? ⟨b, 1, none⟩ = false ∧ w.frozen? ⟨b, 2, none⟩ = false ∧ w.frozen? ⟨b, 3, none⟩ = false ∧ w.frozen? ⟨b, 4, none⟩ = false ∧ w.frozen? ⟨b, 5, none⟩ = false ∧ w.frozen? ⟨b, 6, none⟩ = false ∧ w.frozen? ⟨b, 7, none⟩ = false ∧ w.frozen? ⟨b, 8, none⟩ = false ∧ w.frozen? ⟨b, 9, none⟩ = false ∧ w.frozen? ⟨b, 10, none⟩ = false ∧ w.frozen? ⟨b, 11, none⟩ = false ∧ b < w.heap.size :=
  ⟨by simp [World.cell?, h], by simp [World.cell?, h], by simp [World.cell?, h], by simp [World.cell?, h], by simp [World.cell?, h], by simp [World.cell?, h], by simp [World.cell?, h], by simp [World.cell?, h], by simp [World.cell?, h], by simp [World.cell?, h], by simp [World.cell?, h], by simp [World.cell?, h], by simp [World.frozen?, h], by simp [World.frozen?, h], by simp [World.frozen?, h], by simp [World.frozen?, h], by simp [World.frozen?, h], by simp [World.frozen?, h], by simp [World.frozen?, h], by simp [World.frozen?, h], by simp [World.frozen?, h], by simp [World.frozen?, h], by simp [World.frozen?, h], by simp [World.frozen?, h], (Array.getElem?_eq_some_iff.1 h).1⟩
theorem blk15 {w : World} {b : Nat} {x0 x1 x2 x3 x4 x5 x6 x7 x8 x9 x10 x11 x12 x13 x14 : Value} {t : TypeId} (h : w.heap[b]? = some (.cells #[x0, x1, x2, x3, x4, x5, x6, x7, x8, x9, x10, x11, x12, x13, x14] t)) : w.cell? ⟨b, 0, none⟩ = some x0 ∧ w.cell? ⟨b, 1, none⟩ = some x1 ∧ w.cell? ⟨b, 2, none⟩ = some x2 ∧ w.cell? ⟨b, 3, none⟩ = some x3 ∧ w.cell? ⟨b, 4, none⟩ = some x4 ∧ w.cell? ⟨b, 5, none⟩ = some x5 ∧ w.cell? ⟨b, 6, none⟩ = some x6 ∧ w.cell? ⟨b, 7, none⟩ = some x7 ∧ w.cell? ⟨b, 8, none⟩ = some x8 ∧ w.cell? ⟨b, 9, none⟩ = some x9 ∧ w.cell? ⟨b, 10, none⟩ = some x10 ∧ w.cell? ⟨b, 11, none⟩ = some x11 ∧ w.cell? ⟨b, 12, none⟩ = some x12 ∧ w.cell? ⟨b, 13, none⟩ = some x13 ∧ w.cell? ⟨b, 14, none⟩ = some x14 ∧ w.frozen? ⟨b, 0, none⟩ = false ∧ w.frozen? ⟨b, 1, none⟩ = false ∧ w.frozen? ⟨b, 2, none⟩ = false ∧ w.frozen? ⟨b, 3, none⟩ = false ∧ w.frozen? ⟨b, 4, none⟩ = false ∧ w.frozen? ⟨b, 5, none⟩ = false ∧ w.frozen? ⟨b, 6, none⟩ = false ∧ w.frozen? ⟨b, 7, none⟩ = false ∧ w.frozen? ⟨b, 8, none⟩ = false ∧ w.frozen? ⟨b, 9, none⟩ = false ∧ w.frozen? ⟨b, 10, none⟩ = false ∧ w.frozen? ⟨b, 11, none⟩ = false ∧ w.frozen? ⟨b, 12, none⟩ = false ∧ w.frozen? ⟨b, 13, none⟩ = false ∧ w.frozen? ⟨b, 14, none⟩ = false ∧ b < w.heap.size :=
  ⟨by simp [World.cell?, h], by simp [World.cell?, h], by simp [World.cell?, h], by simp [World.cell?, h], by simp [World.cell?, h], by simp [World.cell?, h], by simp [World.cell?, h], by simp [World.cell?, h], by simp [World.cell?, h], by simp [World.cell?, h], by simp [World.cell?, h], by simp [World.cell?, h], by simp [World.cell?, h], by simp [World.cell?, h], by simp [World.cell?, h], by simp [World.frozen?, h], by simp [World.frozen?, h], by simp [World.frozen?, h], by simp [World.frozen?, h], by simp [World.frozen?, h], by simp [World.frozen?, h], by simp [World.frozen?, h], by simp [World.frozen?, h], by simp [World.frozen?, h], by simp [World.frozen?, h], by simp [World.frozen?, h], by simp [World.frozen?, h], by simp [World.frozen?, h], by simp [World.frozen?, h], by simp [World.frozen?, h], (Array.getElem?_eq_some_iff.1 h).1⟩
/-- The world is of the program's shape. -/
structure Sh (w : World) : Prop where
  s : w.ShapedOpen Tryz.prog
theorem Sh.gr {a b : World} (h : Sh a) (hb : Gr a b) : Sh b := ⟨h.s.keptBut (hb.b.frame (fun _ => False)) (fun _ h => h.elim)⟩
theorem Sh.alloc {a : World} (h : Sh a) (o : Obj) : Sh (a.alloc o) := h.gr ((Gr.refl a).alloc o)
theorem Sh.drew {a : World} (h : Sh a) : Sh a.drew := h.gr (Gr.refl a).drew

theorem info5 : (Tryz.prog.info? 5).map (fun i => (i.zero, i.size, i.bytes)) = some (some (.int .u8 0), 1, 1) := by kernel_rfl

/-- string(b), b the head of a row of bytes -/
theorem conv_row {W : World} {b n c : Nat} {cur : Array Value} {t : TypeId} {fz : Nat × Nat} (xs : List Int) (h : W.heap[b]? = some (.cells cur t fz)) (hx : cur.toList.take n = xs.map (Value.int .u8)) (hn : xs.length = n) :
    (convert 133 9 (.slice (some ⟨b, 0, none⟩) n c)).run Tryz.prog W = .ok (.string (strOfNums xs)) W := by
  refine run_convert_bytes_arg W 133 5 Tryz.underlying133 Tryz.underlying5 b 0 n c xs hn (fun i hi => ?_) 9 Tryz.underlying9
  have h1 : (cur.toList.take n)[i]? = (xs.map (Value.int .u8))[i]? := by rw [hx]
  rw [List.getElem?_take, if_pos hi] at h1
  simp only [World.cell?, h, Nat.zero_add]
  have hi' : i < xs.length := by omega
  simp only [List.getElem?_map, List.getElem?_eq_getElem hi', Option.map_some, Array.getElem?_toList] at h1
  simp [h1, List.getD, List.getElem?_eq_getElem hi']

/-- string(b), b the call's own -/
theorem conv_own {W : World} {base n : Nat} {v : Value} (xs : List Int) (h : W.ownsRow base 5 1 v n (xs.map (Value.int .u8))) :
    (convert 133 9 v).run Tryz.prog W = .ok (.string (strOfNums xs)) W := by
  have hl := h.1
  simp only [List.length_map, Nat.mul_one] at hl
  rcases h.2 with ⟨rfl, hn⟩ | ⟨g, cap, cur, rfl, _, hg, _, _, _, ht⟩
  · have : xs = [] := List.length_eq_zero_iff.1 (by omega)
    subst this
    exact run_convert_bytes_nil W 133 5 Tryz.underlying133 Tryz.underlying5 0 0 9 Tryz.underlying9
  · exact conv_row xs hg (by simpa using ht) hl

/-- bytes as numbers -/
def nums (l : List UInt8) : List Int := l.map fun c => (c.toNat : Int)
theorem strOfNums_nums (l : List UInt8) : strOfNums (nums l) = ⟨l.toArray⟩ := by
  simp only [strOfNums, nums, List.map_map]
  congr 2
  conv => rhs; rw [← List.map_id l]
  apply List.map_congr_left
  intro c _
  simp
theorem nums_append (a b : List UInt8) : nums (a ++ b) = nums a ++ nums b := by simp [nums]
theorem nums_length (a : List UInt8) : (nums a).length = a.length := by simp [nums]
theorem len_own {W : World} {base size n : Nat} {e t ty : TypeId} {v : Value} {xs : List Value} (ht : Tryz.prog.underlying t = some (.slice e)) (h : W.ownsRow base e size v n xs) :
    (Builtin.len_ #[t] ty #[v]).run Tryz.prog W = .ok (.int .i64 n) W := by
  rcases h.2 with ⟨rfl, rfl⟩ | ⟨g, cap, cur, rfl, _, _, h1, h2, _⟩
  · simp [Builtin.len_, run_underlying ht, go_sem]
  · simp [Builtin.len_, run_underlying ht, go_sem]

/-- append of bytes that were written out, to a slice of the call's own -/
theorem app_bytes {w0 W : World} (hg : Gr w0 W) {ops : Array Oper} {rest : List Oper} {o : Oper} {a : Act} {Q : Exit → Act → World → Prop} (hgd : o.guard = none) (s x : Operand)
    (ho : o.op = .call { callee := .builtin .append, args := #[s, x], argTypes := #[133, 133] }) {v : Value} (xs news : List Int) (hs : a.eval s = v)
    (hown : W.ownsRow w0.heap.size 5 1 v xs.length (xs.map (Value.int .u8))) {cur : Array Value} (hc : cur = (news.map (Value.int .u8)).toArray) {m c : Nat} (hx : a.eval x = .slice (some ⟨W.heap.size, 0, none⟩) m c)
    (hm : m = news.length) (hlen : xs.length + news.length ≤ 140737488355328)
    (h : ∀ v' w', w'.ownsRow w0.heap.size 5 1 v' (xs ++ news).length ((xs ++ news).map (Value.int .u8)) → Gr w0 w' → wpList Tryz.prog ops Q rest (a.put o.dst v') w') :
    wpList Tryz.prog ops Q (o :: rest) a (W.alloc (.cells cur 5)) := by
  obtain ⟨i0, hi, hz0, hz1, hz2⟩ := info_parts info5
  subst hc hm
  refine wpList_append_own _ hgd s x 133 ho w0.heap.size 5 i0 (.int .u8 0) 1 1 Tryz.underlying133 hi hz0 hz1 hz2 rfl (by decide) v xs.length _ hs (hown.alloc _) ⟨W.heap.size, 0, none⟩ news.length c (news.map (Value.int .u8)) hx (by simp)
    (fun j u hj => ?_) (fun u hu => ?_) (by unfold maxLen; omega) (by omega) (by have := hg.size; simp; omega) ?_
  · have hadd : (⟨W.heap.size, 0, none⟩ : Addr).add j = ⟨W.heap.size, j, none⟩ := by unfold Addr.add; split <;> simp_all
    rw [hadd]
    simp only [World.cell?, heap_alloc_new]
    simpa using hj
  · obtain ⟨q, _, rfl⟩ := List.mem_map.1 hu; rfl
  · intro v' w' h1 h2 _
    refine h v' w' (by simpa using h1) ((hg.alloc _).grown h2 (fun k hk => ?_))
    exact (hown.lt k hk).1

theorem ba_ext {a b : ByteArray} (h : a.data.toList = b.data.toList) : a = b := by
  cases a; cases b; congr 1; exact Array.toList_inj.1 h
theorem ext_drop (s : ByteArray) (k : Nat) : s.extract k s.size = ⟨(s.data.toList.drop k).toArray⟩ := ba_ext (Lib.extract_to_end s k)
theorem ba_mk (s : ByteArray) : s = ⟨s.data.toList.toArray⟩ := ba_ext (by simp)
theorem str_append (a b : List UInt8) : (⟨a.toArray⟩ : ByteArray) ++ ⟨b.toArray⟩ = ⟨(a ++ b).toArray⟩ := ba_ext (by
  show ((⟨a.toArray⟩ : ByteArray).append ⟨b.toArray⟩).data.toList = _
  simp)
theorem ret_int {k : IntKind} {a b : Int} (h : a = b) : Ending.returned (.int k a) = .returned (.int k b) := by rw [h]
theorem ret_bool {a b : Bool} (h : a = b) : Ending.returned (.bool a) = .returned (.bool b) := by rw [h]
end Go.Proofs.YthgecojbggoniaaGreatDoor
namespace Go.Proofs.YthgecojbggoniaaGreatDoor
open Go
set_option linter.unusedVariables false

/-- a number's digits to the base of 256, the highest first -/
def numD (n : Nat) : List UInt8 := if h : n = 0 then [] else numD (n / 256) ++ [UInt8.ofNat (n % 256)]
termination_by n
decreasing_by omega
def numT (n : Nat) : List UInt8 := UInt8.ofNat (numD n).length :: numD n
/-- what a writer writes of a number -/
def numW (n : Int) : List UInt8 := if 0 ≤ n ∧ n ≤ 9007199254740991 then numT n.toNat else []
def numE (n : Int) : Int := if 0 ≤ n ∧ n ≤ 9007199254740991 then 0 else 2
/-- .. of a text -/
def strW (s : List UInt8) : List UInt8 := if s.length ≤ 64 then numT s.length ++ s else []
def numN (l : List UInt8) : Nat := l.foldl (fun n c => n * 256 + c.toNat) 0
/-- a number is taken off: it, what is left, the error -/
def takeN : List UInt8 → Nat × List UInt8 × Int
  | [] => (0, [], 3)
  | m :: t =>
    if 7 < m.toNat then (0, [], 4)
    else if t.length < m.toNat then (0, [], 3)
    else if (t.take m.toNat).head? = some 0 ∨ 9007199254740991 < numN (t.take m.toNat) then (0, [], 4)
    else (numN (t.take m.toNat), t.drop m.toNat, 0)
def takeS (l : List UInt8) : List UInt8 × List UInt8 × Int :=
  if (takeN l).2.2 ≠ 0 then ([], [], (takeN l).2.2)
  else if 64 < (takeN l).1 then ([], [], 5)
  else if (takeN l).2.1.length < (takeN l).1 then ([], [], 3)
  else ((takeN l).2.1.take (takeN l).1, (takeN l).2.1.drop (takeN l).1, 0)

theorem numD_zero : numD 0 = [] := by unfold numD; rfl
theorem numD_pos {n : Nat} (h : 0 < n) : numD n = numD (n / 256) ++ [UInt8.ofNat (n % 256)] := by
  rw [numD]
  rw [dif_neg (by omega)]
theorem numD_length : ∀ (k n : Nat), n < 256 ^ k → (numD n).length ≤ k
  | 0, n, h => by
    have : n = 0 := by simpa using h
    subst this
    rw [numD_zero]; exact Nat.le_refl _
  | k + 1, n, h => by
    by_cases h0 : n = 0
    · subst h0; rw [numD_zero]; simp
    · rw [numD_pos (by omega), List.length_append]
      have := numD_length k (n / 256) (by rw [Nat.pow_succ] at h; omega)
      simp; omega
theorem numN_snoc (l : List UInt8) (c : UInt8) : numN (l ++ [c]) = numN l * 256 + c.toNat := by simp [numN]
theorem numN_numD (n : Nat) : numN (numD n) = n := by
  induction n using Nat.strongRecOn with
  | _ n ih =>
    by_cases h0 : n = 0
    · subst h0; rw [numD_zero]; rfl
    · rw [numD_pos (by omega), numN_snoc, ih (n / 256) (by omega)]
      simp
      omega
theorem numD_head (n : Nat) : (numD n).head? ≠ some 0 := by
  induction n using Nat.strongRecOn with
  | _ n ih =>
    by_cases h0 : n = 0
    · subst h0; rw [numD_zero]; simp
    · rw [numD_pos (by omega)]
      by_cases h1 : n / 256 = 0
      · rw [h1, numD_zero]
        simp
        intro h
        have := congrArg UInt8.toNat h
        simp at this
        omega
      · have := ih (n / 256) (by omega)
        have hne : numD (n / 256) ≠ [] := by
          rw [numD_pos (by omega)]; simp
        cases hd : numD (n / 256) with
        | nil => exact absurd hd hne
        | cons c t => rw [hd] at this; simpa using this
theorem snoc_ind {α : Type} {P : List α → Prop} (h0 : P []) (h1 : ∀ l a, P l → P (l ++ [a])) (l : List α) : P l := by
  have : ∀ l : List α, P l.reverse := by
    intro l
    induction l with
    | nil => exact h0
    | cons a t ih => rw [List.reverse_cons]; exact h1 _ _ ih
  have h := this l.reverse
  rwa [List.reverse_reverse] at h
theorem numN_lt : ∀ (l : List UInt8), numN l < 256 ^ l.length := by
  intro l
  induction l using snoc_ind with
  | h0 => simp [numN]
  | h1 l c ih =>
    have hc : c.toNat < 256 := c.toNat_lt
    rw [numN_snoc, List.length_append, List.length_singleton, Nat.pow_succ]
    omega

theorem numD_le7 {n : Nat} (h : n ≤ 9007199254740991) : (numD n).length ≤ 7 := numD_length 7 n (by have : (256 : Nat) ^ 7 = 72057594037927936 := by decide
                                                                                                   omega)
/-- what was written is taken -/
theorem takeN_numT {n : Nat} (h : n ≤ 9007199254740991) (x : List UInt8) : takeN (numT n ++ x) = (n, x, 0) := by
  have h7 := numD_le7 h
  have e : (UInt8.ofNat (numD n).length).toNat = (numD n).length := by simp; omega
  unfold numT
  rw [List.cons_append, takeN, e, if_neg (by omega), if_neg (by simp), List.take_left, List.drop_left, numN_numD, if_neg]
  rintro (h1 | h1)
  · exact numD_head n h1
  · omega
theorem takeS_strW {s : List UInt8} (h : s.length ≤ 64) (x : List UInt8) : takeS (strW s ++ x) = (s, x, 0) := by
  unfold strW takeS
  rw [if_pos h, List.append_assoc, takeN_numT (by omega)]
  show (if (0 : Int) ≠ 0 then _ else if 64 < s.length then _ else if (s ++ x).length < s.length then _ else ((s ++ x).take s.length, (s ++ x).drop s.length, 0)) = _
  rw [if_neg (by simp), if_neg (by omega), if_neg (by simp), List.take_left, List.drop_left]
end Go.Proofs.YthgecojbggoniaaGreatDoor
namespace Go.Proofs.YthgecojbggoniaaGreatDoor
open Go

/-- a text's bytes, each 0 as 0 1 -/
def esc : List UInt8 → List UInt8
  | [] => []
  | c :: l => if c = 0 then 0 :: 1 :: esc l else c :: esc l
def keyL (l : List UInt8) : List UInt8 := esc l ++ [0, 0]

/-- what is taken off: the text, what is left, the error's number; 'out' was taken already -/
def takeL (out : List UInt8) : List UInt8 → List UInt8 × List UInt8 × Int
  | [] => ([], [], 3)
  | c :: t =>
    if c = 0 then
      match t with
      | [] => ([], [], 3)
      | d :: u => if d = 0 then (out, u, 0) else if d = 1 then (if out.length = 1000 then ([], [], 5) else takeL (out ++ [0]) u) else ([], [], 4)
    else if out.length = 1000 then ([], [], 5) else takeL (out ++ [c]) t

/-- a number in so many bytes, the highest first -/
def beL (n : Int) : Nat → List UInt8
  | 0 => []
  | k + 1 => UInt8.ofNat (n / 256 ^ k % 256).toNat :: beL n k
/-- the number that bytes are -/
def numL (l : List UInt8) : Int := l.foldl (fun n c => n * 256 + c.toNat) 0

def mayB (a b : Int) : Bool := decide (0 ≤ a ∧ a ≤ 1099511627776 ∧ 0 ≤ b ∧ b ≤ 1048575)
def downL (a b : Int) : List UInt8 := beL (1099511627776 - a) 6 ++ beL (1048575 - b) 3
def checkE (n : Nat) : Int := if 1 ≤ n ∧ n ≤ 32 then 0 else 2
def bringI (i n : Int) : Int := if n ≤ 0 then 0 else i % n

def takeDownL (l : List UInt8) : Int × Int × List UInt8 × Int :=
  if l.length < 9 then (0, 0, [], 3)
  else if mayB (1099511627776 - numL (l.take 6)) (1048575 - numL ((l.drop 6).take 3)) = true then (1099511627776 - numL (l.take 6), 1048575 - numL ((l.drop 6).take 3), l.drop 9, 0)
  else (0, 0, [], 4)

/-- what Key answers -/
def keyR (l : List UInt8) : List UInt8 × Int := if l.length ≤ 1000 then (keyL l, 0) else ([], 5)
/-- what Down answers -/
def downR (a b : Int) : List UInt8 × Int := if mayB a b = true then (downL a b, 0) else ([], 2)

theorem takeL_nil (out : List UInt8) : takeL out [] = ([], [], 3) := rfl
theorem takeL_end (out : List UInt8) (c : UInt8) (hc : c = 0) : takeL out [c] = ([], [], 3) := by subst hc; rfl
theorem takeL_stop (out u : List UInt8) (c d : UInt8) (hc : c = 0) (hd : d = 0) : takeL out (c :: d :: u) = (out, u, 0) := by subst hc hd; rfl
theorem takeL_bad (out u : List UInt8) (c d : UInt8) (hc : c = 0) (h0 : d ≠ 0) (h1 : d ≠ 1) : takeL out (c :: d :: u) = ([], [], 4) := by subst hc; simp [takeL, h0, h1]
theorem takeL_lim1 (out u : List UInt8) (c d : UInt8) (hc : c = 0) (hd : d = 1) (h : out.length = 1000) : takeL out (c :: d :: u) = ([], [], 5) := by subst hc hd; simp [takeL, h]
theorem takeL_go1 (out u : List UInt8) (c d : UInt8) (hc : c = 0) (hd : d = 1) (h : out.length ≠ 1000) : takeL out (c :: d :: u) = takeL (out ++ [0]) u := by subst hc hd; rw [takeL]; simp [h]
theorem takeL_lim (out u : List UInt8) (c : UInt8) (hc : c ≠ 0) (h : out.length = 1000) : takeL out (c :: u) = ([], [], 5) := by rw [takeL.eq_def]; simp [h, hc]
theorem takeL_go (out u : List UInt8) (c : UInt8) (hc : c ≠ 0) (h : out.length ≠ 1000) : takeL out (c :: u) = takeL (out ++ [c]) u := by rw [takeL.eq_def]; simp [h, hc]

theorem esc_append (a b : List UInt8) : esc (a ++ b) = esc a ++ esc b := by
  induction a with
  | nil => rfl
  | cons c l ih => simp only [List.cons_append, esc]; split <;> simp [ih]
theorem esc_length_le (l : List UInt8) : (esc l).length ≤ 2 * l.length := by
  induction l with
  | nil => simp [esc]
  | cons c l ih => simp only [esc]; split <;> simp <;> omega
theorem countB_zero (s : ByteArray) : Lib.countB s ⟨#[0]⟩ = s.data.toList.count 0 := Lib.count_one 0 _
theorem index_cons_eq (l : List UInt8) : Lib.index (0 :: l) [0] = 0 := by simp [Lib.index, List.isPrefixOf]
theorem index_cons_ne (c : UInt8) (l : List UInt8) (h : c ≠ 0) (i : Nat) (hi : Lib.index l [0] = i) : Lib.index (c :: l) [0] = ((i + 1 : Nat) : Int) := by
  have h1 : ((i : Int) == -1) = false := by rw [beq_eq_false_iff_ne]; omega
  have h2 : (0 == c) = false := by rw [beq_eq_false_iff_ne]; exact fun e => h e.symm
  simp [Lib.index, List.isPrefixOf, hi, h1, h2]
theorem replaceK_esc : ∀ (l : List UInt8), Lib.replaceK [0] [0, 1] (l.count 0) l = esc l := by
  intro l
  induction l with
  | nil => simp [Lib.replaceK, esc]
  | cons c l ih =>
    by_cases hc : c = 0
    · subst hc
      rw [List.count_cons_self, Lib.replaceK_hit [0] [0, 1] _ _ 0 (index_cons_eq l)]
      simp [esc, ih]
    · have hcc : (c :: l).count 0 = l.count 0 := List.count_cons_of_ne hc
      rw [hcc, show esc (c :: l) = c :: esc l by simp [esc, hc], ← ih]
      cases hn : l.count 0 with
      | zero => simp [Lib.replaceK]
      | succ n =>
        obtain ⟨i, hi⟩ := Lib.index_of_count (s := l) (old := [0]) (by rw [Lib.count_one]; omega)
        rw [Lib.replaceK_hit [0] [0, 1] n l i hi, Lib.replaceK_hit [0] [0, 1] n (c :: l) (i + 1) (index_cons_ne c l hc i hi)]
        simp [Nat.add_assoc]
theorem replaceAll_esc (l : List UInt8) : Lib.replaceAll l [0] [0, 1] = esc l := by
  have h : ([0] == ([0, 1] : List UInt8)) = false := by decide
  have h2 : Lib.replaceNum l [0] (-1) = l.count 0 := by simp [Lib.replaceNum, Lib.count_one]
  rw [Lib.replaceAll, Lib.replace, h, h2]
  exact replaceK_esc l
theorem beL_length (n : Int) (k : Nat) : (beL n k).length = k := by
  induction k with
  | zero => rfl
  | succ k ih => simp [beL, ih]
end Go.Proofs.YthgecojbggoniaaGreatDoor
namespace Go.Proofs.YthgecojbggoniaaGreatDoor
open Go Go.Lib
set_option linter.unusedVariables false
set_option linter.unusedSimpArgs false

/-! stamps -/
theorem may_iff {a b : Int} : mayB a b = true ↔ 0 ≤ a ∧ a ≤ 1099511627776 ∧ 0 ≤ b ∧ b ≤ 1048575 := by simp [mayB]
theorem downL_length (a b : Int) : (downL a b).length = 9 := by simp [downL, beL_length]
/-! what was written is read -/
end Go.Proofs.YthgecojbggoniaaGreatDoor
namespace Go.Proofs.YthgecojbggoniaaGreatDoor
open Go
set_option linter.unusedVariables false

/-- a reader: what is left, and whether something was wrong -/
abbrev St := List UInt8 × Bool
def valN (s : St) : Nat := (takeN s.1).1
def nextN (s : St) : St := ((takeN s.1).2.1, s.2 || decide ((takeN s.1).2.2 ≠ 0))
def valS (s : St) : List UInt8 := (takeS s.1).1
def nextS (s : St) : St := ((takeS s.1).2.1, s.2 || decide ((takeS s.1).2.2 ≠ 0))
def valF (s : St) : Bool := decide (valN s = 1)
def nextF (s : St) : St := ((nextN s).1, (nextN s).2 || decide (1 < valN s))
def offE (s : St) (e : Int) : Int := if s.2 = true ∨ s.1 ≠ [] ∨ e ≠ 0 then 4 else 0
theorem takeS_length (l : List UInt8) : (takeS l).2.1.length ≤ l.length ∧ (takeS l).1.length ≤ l.length := by
  have h : (takeN l).2.1.length ≤ l.length := by
    cases l with
    | nil => simp [takeN]
    | cons m t =>
      rw [takeN]
      split
      · simp
      split
      · simp
      split
      · simp
      · simp; omega
  unfold takeS
  split
  · simp
  split
  · simp
  split
  · simp
  · simp; omega
theorem nextN_length (s : St) : (nextN s).1.length ≤ s.1.length := by
  unfold nextN
  cases hs : s.1 with
  | nil => simp [takeN]
  | cons m t =>
    rw [takeN]
    split
    · simp
    split
    · simp
    split
    · simp
    · simp; omega
theorem nextS_length (s : St) : (nextS s).1.length ≤ s.1.length := (takeS_length s.1).1
theorem nextF_length (s : St) : (nextF s).1.length ≤ s.1.length := nextN_length s
theorem nextN_bad {s : St} (h : s.2 = true) : (nextN s).2 = true := by simp [nextN, h]
theorem nextS_bad {s : St} (h : s.2 = true) : (nextS s).2 = true := by simp [nextS, h]
theorem nextF_bad {s : St} (h : s.2 = true) : (nextF s).2 = true := by simp [nextF, nextN_bad h]
theorem offE_cases (s : St) (e : Int) : offE s e = 0 ∨ offE s e = 4 := by
  unfold offE
  split <;> simp
/-- a version -/
def verR (l : List UInt8) : St := if valF (l, false) = true then nextS (nextF (l, false)) else nextF (l, false)
def takeVerR (l : List UInt8) : List UInt8 × Bool × Int :=
  if offE (verR l) 0 = 0 then ((if valF (l, false) = true then valS (nextF (l, false)) else []), valF (l, false), 0) else ([], false, 4)
end Go.Proofs.YthgecojbggoniaaGreatDoor
namespace Go.Proofs.YthgecojbggoniaaGreatDoor
open Go
set_option linter.unusedVariables false

structure Chg where
  seq : Int
  value : ByteArray
  del : Bool
structure Itt where
  id : Int
  epoch : Int
  prio : Int
  anchor : ByteArray
  sw : Int
  sl : Int
  bw : Int
  bl : Int
  l : List Chg
def idB (n : Int) : Bool := decide (1 ≤ n) && decide (n ≤ 9007199254740991)
def plainB (id epoch prio : Int) : Bool := idB id && decide (0 ≤ epoch) && decide (epoch ≤ 9007199254740991) && decide (1 ≤ prio) && decide (prio ≤ 1000)
def headB (id epoch prio : Int) (anchor : ByteArray) (ps : List (Int × Int)) : Bool := plainB id epoch prio && (checkE anchor.size == 0) && ps.all fun p => mayB p.1 p.2
def chgOk (last : Int) (c : Chg) : Bool := decide (last < c.seq) && decide (c.seq ≤ 9007199254740991) && decide (c.value.size ≤ 64) && !(c.del && !(c.value.size == 0))
def chgsOk : Int → List Chg → Bool
  | _, [] => true
  | last, c :: r => chgOk last c && chgsOk c.seq r
def lastSeq : Int → List Chg → Int
  | last, [] => last
  | _, c :: r => lastSeq c.seq r
theorem chgsOk_snoc : ∀ (l : List Chg) (last : Int) (c : Chg), chgsOk last (l ++ [c]) = (chgsOk last l && chgOk (lastSeq last l) c)
  | [], last, c => by simp [chgsOk, lastSeq]
  | x :: r, last, c => by simp [chgsOk, lastSeq, chgsOk_snoc r, Bool.and_assoc]
theorem lastSeq_snoc : ∀ (l : List Chg) (last : Int) (c : Chg), lastSeq last (l ++ [c]) = c.seq
  | [], last, c => rfl
  | x :: r, last, c => lastSeq_snoc r _ c
theorem chgsOk_app : ∀ (l m : List Chg) (last : Int), chgsOk last l = false → chgsOk last (l ++ m) = false
  | [], m, last, h => by simp [chgsOk] at h
  | x :: r, m, last, h => by
    simp only [chgsOk, Bool.and_eq_false_iff] at h
    simp only [List.cons_append, chgsOk, Bool.and_eq_false_iff]
    rcases h with h | h
    · exact .inl h
    · exact .inr (chgsOk_app r m _ h)
def ittOk (x : Itt) : Bool := headB x.id x.epoch x.prio x.anchor [(x.sw, x.sl), (x.bw, x.bl)] && decide (1 ≤ x.l.length) && decide (x.l.length ≤ 16) && chgsOk 0 x.l
def okE (b : Bool) : Int := if b = true then 0 else 2

def chgCells (c : Chg) : List Value := [.int .i64 c.seq, .string c.value, .bool c.del]
def chgW (c : Chg) : List UInt8 := numW c.seq ++ (numW (if c.del then 1 else 0) ++ strW c.value.data.toList)
def ittW (x : Itt) : List UInt8 := numW x.id ++ numW x.epoch ++ numW x.prio ++ strW x.anchor.data.toList ++ (numW x.sw ++ numW x.sl) ++ (numW x.bw ++ numW x.bl) ++ numW x.l.length ++ x.l.flatMap chgW
def ittT (x : Itt) : List UInt8 := if ittOk x = true then ittW x else []

/-! lists that are compared element by element -/
end Go.Proofs.YthgecojbggoniaaGreatDoor
namespace Go.Proofs.YthgecojbggoniaaGreatDoor
open Go Go.Lib
set_option linter.unusedVariables false

end Go.Proofs.YthgecojbggoniaaGreatDoor
namespace Go.Proofs.YthgecojbggoniaaGreatDoor
open Go
set_option linter.unusedVariables false

end Go.Proofs.YthgecojbggoniaaGreatDoor
namespace Go.Proofs.YthgecojbggoniaaGreatDoor
open Go
set_option linter.unusedVariables false
set_option linter.unusedSimpArgs false

/-- the steps of a reader -/
structure Ops where
  vN : St → Nat
  nN : St → St
  vS : St → List UInt8
  nS : St → St
  vF : St → Bool
  nF : St → St
def opP : Ops := ⟨valN, nextN, valS, nextS, valF, nextF⟩
def Ops.chg (o : Ops) (s : St) : Chg × St := (⟨o.vN s, ⟨(o.vS (o.nF (o.nN s))).toArray⟩, o.vF (o.nN s)⟩, o.nS (o.nF (o.nN s)))
def many {α : Type} (f : St → α × St) : Nat → St → List α × St
  | 0, s => ([], s)
  | n + 1, s => if s.2 = true then ([], s) else ((f s).1 :: (many f n (f s).2).1, (many f n (f s).2).2)
def Ops.s4 (o : Ops) (s : St) : St := o.nN (o.nN (o.nN (o.nN s)))
def Ops.itt (o : Ops) (s : St) : Itt × Nat × St :=
  (⟨o.vN s, o.vN (o.nN s), o.vN (o.nN (o.nN s)), ⟨(o.vS (o.nN (o.nN (o.nN s)))).toArray⟩,
    o.vN (o.nS (o.nN (o.nN (o.nN s)))), o.vN (o.nN (o.nS (o.nN (o.nN (o.nN s))))), o.vN (o.nN (o.nN (o.nS (o.nN (o.nN (o.nN s)))))), o.vN (o.nN (o.nN (o.nN (o.nS (o.nN (o.nN (o.nN s))))))), []⟩,
   o.vN (o.s4 (o.nS (o.nN (o.nN (o.nN s))))), o.nN (o.s4 (o.nS (o.nN (o.nN (o.nN s))))))
theorem backS {s : St} (h : (nextS s).2 = false) : s.2 = false := by
  cases hs : s.2 with
  | false => rfl
  | true => rw [nextS_bad hs] at h; simp at h
theorem backF {s : St} (h : (nextF s).2 = false) : s.2 = false := by
  cases hs : s.2 with
  | false => rfl
  | true => rw [nextF_bad hs] at h; simp at h

theorem many_bad {α : Type} (f : St → α × St) (n : Nat) (s : St) (h : s.2 = true) : many f n s = ([], s) := by
  cases n with
  | zero => rfl
  | succ n => rw [many, if_pos h]
end Go.Proofs.YthgecojbggoniaaGreatDoor
namespace Go.Proofs.YthgecojbggoniaaGreatDoor
open Go
set_option linter.unusedVariables false
set_option linter.unusedSimpArgs false

def takeIttR (l : List UInt8) : Option Itt :=
  if offE (many opP.chg (opP.itt (l, false)).2.1 (opP.itt (l, false)).2.2).2 (okE (ittOk { (opP.itt (l, false)).1 with l := (many opP.chg (opP.itt (l, false)).2.1 (opP.itt (l, false)).2.2).1 })) = 0 then
    some { (opP.itt (l, false)).1 with l := (many opP.chg (opP.itt (l, false)).2.1 (opP.itt (l, false)).2.2).1 } else none
end Go.Proofs.YthgecojbggoniaaGreatDoor
namespace Go.Proofs.YthgecojbggoniaaGreatDoor
open Go
set_option linter.unusedVariables false
set_option linter.unusedSimpArgs false

end Go.Proofs.YthgecojbggoniaaGreatDoor
